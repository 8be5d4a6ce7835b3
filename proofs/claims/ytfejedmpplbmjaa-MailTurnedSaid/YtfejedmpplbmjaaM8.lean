/- The contract of Turns; conditions: none. Printed by a program. -/
import Derived.Test.YtfejedmpplbmjaaM7
set_option linter.unusedSimpArgs false
set_option linter.unusedVariables false
namespace Go.Ml
open Go.Fh
/-- what Turns returns -/
def turO (n limit last : Int) : List Int × Int :=
  if !inB n 1 200 || (!inB limit 1 n || !inB last 0 limit) then ([], 1) else match turnS n limit last with | none => ([], 4) | some l => (l, 0)
def sLen : Go.Value → Nat
  | .slice _ n _ => n
  | _ => 0
theorem mS_bd {n limit e : Int} (h1 : 1 ≤ limit) (h3 : n ≤ 200) (he : -1 ≤ e) : 1 ≤ mS n limit e ∧ mS n limit e ≤ 300 := by
  have h := mS_spec (n := n) (e := e) h1
  refine ⟨h.1, ?_⟩
  by_cases hM1 : mS n limit e = 1
  · omega
  · have h6 := h.2.2 hM1
    rcases Nat.lt_or_ge (mS n limit e) 301 with h7 | h7
    · omega
    · have h8 : 1 * ((mS n limit e : Int) - 2) ≤ limit * ((mS n limit e : Int) - 2) := Int.mul_le_mul_of_nonneg_right h1 (by omega)
      omega
end Go.Ml
namespace Go.Proofs.Ytfejedmpplbmjaa
open Go.RowKit Go.Fh Go.Ml
theorem noGoto_ret {Q : Exit → Act → World → Prop} {a : Act} {w : World} (h : Q .ret a w) : Exit.noGoto Q .ret a w := h
set_option maxRecDepth 20000 in
set_option maxHeartbeats 16000000 in
theorem turns_ok (N K : Nat) (last : Int) (w : World) (hK : 1 ≤ K) (hKN : K ≤ N) (hN : N ≤ 200) (hl0 : 0 ≤ last) (hlK : last ≤ K) (L : List Int) (er : Int) (hr : (L, er) = match turnS N K last with | none => ([], 4) | some l => (l, 0)) :
    Calls Try.prog 25 #[.int .i64 (N : Int), .int .i64 (K : Int), .int .i64 last] w fun e w' => ∃ A' c', e = .returned (.tuple #[.slice A' L.length c', .int .i64 er]) ∧ Hid (Sl encInt 1 w' w'.heap.size A' L) ∧ Hid (Below w.heap.size w w') := by
  have HI1 := Lib.hid (fun W => within_val (N : Int) 1 200 true (by unfold inB; simp; omega) W)
  have HI2 := Lib.hid (fun W => within_val (K : Int) 1 (N : Int) true (by unfold inB; simp; omega) W)
  have HI3 := Lib.hid (fun W => within_val last 0 (K : Int) true (by unfold inB; simp; omega) W)
  obtain ⟨w1, hw1⟩ : ∃ W, W = w.alloc (.cells #[.int .i64 (N : Int), .int .i64 (K : Int), .int .i64 last] 146) := ⟨_, rfl⟩
  obtain ⟨g8, hg8⟩ : ∃ g, g = w.heap.size := ⟨_, rfl⟩
  have k1 : Blk w1 g8 146 #[.int .i64 (N : Int), .int .i64 (K : Int), .int .i64 last] := by rw [hw1, hg8]; exact Blk.new _ _ _
  have HB1 := Lib.hid (show Below w.heap.size w w1 from by rw [hw1]; exact balR (Below.refl _ _) _)
  have HC := Lib.hid (show ∀ W, Below w1.heap.size w1 W → W.cell? ⟨g8, 0, none⟩ = some (.int .i64 (N : Int)) ∧ W.cell? ⟨g8, 1, none⟩ = some (.int .i64 (K : Int)) ∧ W.cell? ⟨g8, 2, none⟩ = some (.int .i64 last) from fun W hb => by
    have k := k1.below hb k1.lt
    have a0 := k.cell 0
    have a1 := k.cell 1
    have a2 := k.cell 2
    simp at a0 a1 a2
    exact ⟨a0, a1, a2⟩)
  obtain ⟨r0, r1, r2⟩ := HC.out w1 (Below.refl _ _)
  have HW1 := Lib.hid hw1
  have HG8 := Lib.hid hg8
  have HNIL := Lib.hid (fun (W : World) => (Sl.nil : Sl encInt 1 W W.heap.size none []))
  unfold turnS at hr
  by_cases he : endS (N : Int) last < 0
  · rw [if_pos he] at hr
    simp at hr
    obtain ⟨rfl, rfl⟩ := hr
    have H73 := Lib.hid (fun W => least_any (N : Int) (K : Int) last W (by omega) (by omega) (by omega) hl0 hlK 0 false (by rw [if_pos he]))
    clear k1 hw1 hg8 he
    go_enter Try.func25, Try.ntmps25
    go_wp2_with fail
    go_step3
    go_upto_region 3 with first
      | (go_at_call 54; with_reducible refine (HI1.out _).mono ?_; rintro e wz ⟨rfl, rfl⟩)
      | (go_at_call 54; with_reducible refine (HI2.out _).mono ?_; rintro e wz ⟨rfl, rfl⟩)
      | (go_at_call 54; with_reducible refine (HI3.out _).mono ?_; rintro e wz ⟨rfl, rfl⟩)
    go_upto_region 4 with fail
    rw [← HW1.out, ← HG8.out]
    go_wp2_with (go_at_call 73; with_reducible refine (H73.out _).mono ?_; rintro e w2 ⟨rfl, HB2⟩)
    refine noGoto_ret ?_
    refine bodyPost_ret (v := .tuple #[.slice none 0 0, .int .i64 4]) ?_ rfl ⟨none, 0, rfl, Lib.hid (HNIL.out _), Lib.hid (HB1.out.trans (HB2.out.mono HB1.out.size))⟩
    simp [results, Try.results25, go_sem]
  · rw [if_neg he] at hr
    simp at hr
    obtain ⟨hL, rfl⟩ := hr
    obtain ⟨M, hM⟩ : ∃ M, M = mS (N : Int) (K : Int) (endS (N : Int) last) := ⟨_, rfl⟩
    have hMb := mS_bd (n := (N : Int)) (limit := (K : Int)) (e := endS (N : Int) last) (by omega) (by omega) (by omega)
    have H73 := Lib.hid (fun W => least_any (N : Int) (K : Int) last W (by omega) (by omega) (by omega) hl0 hlK M true (by rw [if_neg he, hM]))
    have hcan := turn_can (n := (N : Int)) (limit := (K : Int)) (last := last) (by omega) (by omega) hlK hl0 (by omega)
    rw [← hM] at hL hMb hcan
    obtain ⟨hM1, hM3⟩ := hMb
    have hlen : L.length = M := by rw [hL]; exact (grd_spec _ _ _ _ hcan).1
    have H74 := Lib.hid (fun W => can_any N K M last W hK hKN hN hl0 hlK hM1 hM3)
    have HCAN := Lib.hid hcan
    have HL := Lib.hid hL
    have HLEN := Lib.hid hlen
    obtain ⟨iT, hi, hz0, hz1, hz2⟩ := info_parts infoInt
    have HI := Lib.hid hi
    clear k1 hw1 hg8 he hM hcan hL hlen hi
    go_enter Try.func25, Try.ntmps25
    go_wp2_with fail
    go_step3
    go_upto_region 3 with first
      | (go_at_call 54; with_reducible refine (HI1.out _).mono ?_; rintro e wz ⟨rfl, rfl⟩)
      | (go_at_call 54; with_reducible refine (HI2.out _).mono ?_; rintro e wz ⟨rfl, rfl⟩)
      | (go_at_call 54; with_reducible refine (HI3.out _).mono ?_; rintro e wz ⟨rfl, rfl⟩)
    go_upto_region 4 with fail
    rw [← HW1.out, ← HG8.out]
    go_upto_region 10 with first
      | (go_at_call 73; with_reducible refine (H73.out _).mono ?_; rintro e w2 ⟨rfl, HB2⟩; clear r0 r1 r2; obtain ⟨r0, r1, r2⟩ := HC.out w2 HB2.out)
      | (go_at_call 74; with_reducible refine (H74.out _).mono ?_; rintro e w3 ⟨gO, fO, rfl, HT3, HB3⟩)
    clear r0 r1 r2
    have HB13 := Lib.hid (show Below w.heap.size w w3 from HB1.out.trans ((bstep HB2.out HB3.out).mono HB1.out.size))
    have HTA := Lib.hid HT3.out.2
    go_step3
    go_wp2_with fail
    go_loopw [12, 13, 14] (fun u12 u13 u14 wr => ∃ (j : Nat) (A : Option Addr) (c u : Nat) (x : Int), j ≤ M ∧ u12 = .slice A j c ∧ u13 = .int .i64 (u : Int) ∧ u14 = .int .i64 x ∧ u ≤ N ∧ (-(K : Int) ≤ x ∧ x ≤ K) ∧ Hid (canF N K last (M - j) j u x = true) ∧ Hid (∃ pre : List Int, pre.length = j ∧ L = pre ++ grdF N K last (M - j) j u x ∧ wr.ownsRow w3.heap.size 3 1 (.slice A j c) j (pre.map (Value.int .i64))) ∧ Hid (Below w3.heap.size w3 wr)) (fun u12 _ _ _ => M - sLen u12)
    case atStart => exact ⟨0, none, 0, 0, 0, Nat.zero_le _, rfl, rfl, rfl, Nat.zero_le _, ⟨by omega, by omega⟩, HCAN, Lib.hid ⟨[], rfl, HL.out, World.ownsRow_nil _ _ _ _⟩, Below.refl _ _⟩
    case round =>
      obtain ⟨j, A, c, u, x, hj, rfl, rfl, rfl, hu, hx, HCJ, HPR, HB⟩ := hrel
      by_cases hjm : j = M
      · subst hjm
        obtain ⟨pre, hp1, hp2, hp3⟩ := HPR.out
        have hpe : L = pre := by rw [hp2, show j - j = 0 by omega]; simp [grdF]
        subst hpe
        have HSL := Lib.hid (show Sl encInt 1 wr wr.heap.size A L from own_sl (B := w3.heap.size) (c := c) (by rw [hp1]; exact hp3))
        clear hp1 hp2 hp3 HPR
        have tj : ((j : Int) == (j : Int)) = true := by simp
        --@1
        go_wp2_with fail
        refine noGoto_ret ?_
        refine bodyPost_ret (v := .tuple #[.slice A j c, .int .i64 0]) ?_ rfl ⟨A, c, by rw [HLEN.out], HSL, Lib.hid (HB13.out.trans (HB.out.mono HB13.out.size))⟩
        simp [results, Try.results25, go_sem]
        --@end
      · have hjM : j < M := by omega
        obtain ⟨f, hf⟩ : ∃ f, M - j = f + 1 := ⟨M - j - 1, by omega⟩
        have hfe : M - (j + 1) = f := by omega
        obtain ⟨ga, ca, gR, hv, ⟨cs, hk1, hk2⟩, hk3⟩ := HTA.out.2 (j + 1) (by omega)
        rw [hfe] at hk3
        have hcj := HCJ.out
        rw [hf] at hcj
        obtain ⟨s1, s2, s3⟩ := kF_spec hcj
        have HTN := Lib.hid (show ∀ W, Below w3.heap.size w3 W → W.cell? ⟨gO, j + 1, none⟩ = some (.slice (some ⟨ga, 0, none⟩) (N + 1) ca) ∧ (∀ a, a ≤ N → W.cell? ⟨ga, a, none⟩ = some (.slice (some ⟨gR a, 0, none⟩) (2 * K + 1) (2 * K + 1))) ∧ ∀ a y : Nat, a ≤ N → y < 2 * K + 1 → W.cell? ⟨gR a, y, none⟩ = some (.bool (canF N K last f (j + 1) (a : Int) ((y : Int) - K))) from fun W hW => by
          refine ⟨?_, fun a ha => ?_, fun a y ha hy => ?_⟩
          · have h1 := outV_cell (HTA.out.1.below hW HTA.out.1.lt) (i := j + 1) (by omega)
            rw [hv] at h1; exact h1
          · rw [(hk1.below hW hk1.lt).cell a]; exact hk2 a ha
          · rw [((hk3 a ha).below hW (hk3 a ha).lt).cell y]
            simp [rowV, hy])
        obtain ⟨ka, hka⟩ : ∃ ka, ka = kF (N : Int) (K : Int) last f j (u : Int) x := ⟨_, rfl⟩
        rw [← hka] at s1 s2 s3
        have HS2 := Lib.hid s2
        have HS3 := Lib.hid s3
        have HKA := Lib.hid hka
        have HF1 := Lib.hid hf
        have HF2 := Lib.hid hfe
        have hkn : u + (ka + 1) ≤ N := by omega
        have tj : ((j : Int) == (M : Int)) = false := by simp; omega
        have tjn : (j == M) = false := by simpa using hjm
        have tjd : ¬ j = M := hjm
        clear hv hk1 hk2 hk3 hcj s1 s2 s3 hka hf hfe
        obtain ⟨pre, hp1, hp2, hp3⟩ := HPR.out
        have HP1 := Lib.hid hp1
        have HP2 := Lib.hid hp2
        have HP3 := Lib.hid (fun W (hW : Below wr.heap.size wr W) => own_belowV hp3 hW)
        have HPB := Lib.hid (fun j hj => (own_at hp3 (g := j) hj).2)
        clear hp1 hp2 hp3 HPR
        --@2
        go_wp2_with fail
        go_loopw [16] (fun u16 wk => ∃ k : Nat, 1 ≤ k ∧ k ≤ ka + 1 ∧ u16 = .int .i64 (k : Int) ∧ Hid (Below wr.heap.size wr wk)) (fun u _ => ka + 2 - (intOf u).toNat)
        case atStart => exact ⟨1, Nat.le_refl _, by omega, rfl, Lib.hid (Below.refl _ _)⟩
        case round =>
          obtain ⟨k, hk1, hk, rfl, HBX⟩ := hrel
          have HBK := Lib.hid (bstep HB.out HBX.out)
          have p0 : IntKind.i64.wrap ((u : Int) + (k : Int)) = (u : Int) + (k : Int) := by rw [IntKind.wrap_i64]; omega
          have p1 : IntKind.i64.wrap ((j : Int) + 1) = (j : Int) + 1 := by rw [IntKind.wrap_i64]; omega
          obtain ⟨x2, hx2e⟩ : ∃ y, y = leanS x (k : Int) j := ⟨_, rfl⟩
          have hx2b : -1000 ≤ x2 ∧ x2 ≤ 1000 := by rw [hx2e]; unfold leanS; split <;> omega
          have H71 := Lib.hid (show ∀ W, Calls Try.prog 71 #[.int .i64 x, .int .i64 (k : Int), .int .i64 (j : Int)] W fun e w' => e = .returned (.int .i64 x2) ∧ W = w' from fun W => by rw [hx2e]; exact lean_any x k j W (by omega) (by omega) (by omega))
          obtain ⟨z, hz⟩ : ∃ z, z = inL x2 (K : Int) := ⟨_, rfl⟩
          have H72 := Lib.hid (fun W => keeps_val x2 (K : Int) z hz (by omega) W)
          have HX2 := Lib.hid hx2e
          have HZ := Lib.hid hz
          clear hx2e hz
          cases z
          · have hkne : k < ka + 1 := by
              rcases Nat.lt_or_ge k (ka + 1) with h | h
              · exact h
              · exfalso
                have he : k = ka + 1 := by omega
                have h2 := HS2.out
                rw [show ((ka : Int) + 1) = (k : Int) by omega, ← HX2.out, ← HZ.out] at h2
                simp at h2
            --@3
            go_upto_region 12 with fail
            refine wp_region_noPanic ?_
            refine wp_region_held_drew (S := (fun _ => True)) (by kernel_rfl) ?_ (fun hHeld => ?_)
            · (try dsimp only); (try trivial)
            refine wpAnyH_takeD (i := 0) (v := ?_) (some 52) rfl rfl (by kernel_rfl) (by kernel_rfl) (by kernel_rfl) (fun _ _ _ h => h) (Or.inl ⟨by rfl, ?_⟩) (by assumption) ?_
            rotate_left
            · intro w hSw; (try dsimp only at hSw); go_simp; (try with_reducible rfl)
            try simp only [Act.put, List.setIfInBounds_toArray, List.set_cons_zero, List.set_cons_succ]
            refine wpAnyH_takeD (i := 1) (v := ?_) (some 53) rfl rfl (by kernel_rfl) (by kernel_rfl) (by kernel_rfl) (fun _ _ _ h => h) (Or.inl ⟨by rfl, ?_⟩) (by assumption) ?_
            rotate_left
            · intro w hSw; (try dsimp only at hSw); go_simp; (try with_reducible rfl)
            try simp only [Act.put, List.setIfInBounds_toArray, List.set_cons_zero, List.set_cons_succ]
            refine wpAnyH_takeD (i := 2) (v := ?_) (some 54) rfl rfl (by kernel_rfl) (by kernel_rfl) (by kernel_rfl) (fun _ _ _ h => h) (Or.inl ⟨by rfl, ?_⟩) (by assumption) ?_
            rotate_left
            · intro w hSw; (try dsimp only at hSw); go_simp; (try with_reducible rfl)
            try simp only [Act.put, List.setIfInBounds_toArray, List.set_cons_zero, List.set_cons_succ]
            refine wpAnyH_takeD (i := 4) (v := ?_) (some 56) rfl rfl (by kernel_rfl) (by kernel_rfl) (by kernel_rfl) (fun _ _ _ h => h) (Or.inl ⟨by rfl, ?_⟩) (by assumption) ?_
            rotate_left
            · intro w hSw; (try dsimp only at hSw); go_simp; (try with_reducible rfl)
            try simp only [Act.put, List.setIfInBounds_toArray, List.set_cons_zero, List.set_cons_succ]
            refine wpAnyH_ready (rs := [3]) (by kernel_rfl) (by simp) ?_
            refine AllReadyH.cons rfl (fun K hK => ?_) AllReadyH.nil
            (go_simp; go_at_call 71; with_reducible refine (H71.out _).mono ?_; rintro e wz ⟨rfl, rfl⟩; go_wp2_with fail)
            refine hK.out _ _ ?_ (fun hHeld => ?_)
            · (try dsimp only); (try trivial)
            clear hK K
            try simp only [List.getElem_toArray, List.getElem_cons_succ, List.getElem_cons_zero]
            try simp only [Act.put, List.setIfInBounds_toArray, List.set_cons_zero, List.set_cons_succ]
            refine wpAnyH_ready (rs := [5]) (by kernel_rfl) (by simp) ?_
            refine AllReadyH.cons rfl (fun K hK => ?_) AllReadyH.nil
            (go_simp; go_at_call 72; with_reducible refine (H72.out _).mono ?_; rintro e wz ⟨rfl, rfl⟩; go_wp2_with fail)
            refine hK.out _ _ ?_ (fun hHeld => ?_)
            · (try dsimp only); (try trivial)
            clear hK K
            try simp only [List.getElem_toArray, List.getElem_cons_succ, List.getElem_cons_zero]
            try simp only [Act.put, List.setIfInBounds_toArray, List.set_cons_zero, List.set_cons_succ]
            refine wpAnyH_takeD (i := 6) (v := .bool true) (some 58) rfl rfl (by kernel_rfl) (by kernel_rfl) (by kernel_rfl) (fun _ _ _ h => h) (Or.inl ⟨by rfl, ?_⟩) (by assumption) ?_
            · intro w hSw; (try dsimp only at hSw); (go_simp; (try simp)); (try with_reducible rfl)
            try simp only [Act.put, List.setIfInBounds_toArray, List.set_cons_zero, List.set_cons_succ]
            refine wpAnyH_takeD (i := 7) (v := ?_) (some 59) rfl rfl (by kernel_rfl) (by kernel_rfl) (by kernel_rfl) (fun _ _ _ h => h) (Or.inl ⟨by rfl, ?_⟩) (by assumption) ?_
            rotate_left
            · intro w hSw; (try dsimp only at hSw); go_simp; (try with_reducible rfl)
            try simp only [Act.put, List.setIfInBounds_toArray, List.set_cons_zero, List.set_cons_succ]
            refine wpAnyH_takeD (i := 8) (v := undef) (some 60) rfl rfl (by kernel_rfl) (by kernel_rfl) (by kernel_rfl) (fun _ _ _ h => h) (Or.inr ⟨by kernel_rfl, rfl⟩) (by assumption) ?_
            try simp only [Act.put, List.setIfInBounds_toArray, List.set_cons_zero, List.set_cons_succ]
            refine wpAnyH_takeD (i := 9) (v := undef) (some 61) rfl rfl (by kernel_rfl) (by kernel_rfl) (by kernel_rfl) (fun _ _ _ h => h) (Or.inr ⟨by kernel_rfl, rfl⟩) (by assumption) ?_
            try simp only [Act.put, List.setIfInBounds_toArray, List.set_cons_zero, List.set_cons_succ]
            refine wpAnyH_takeD (i := 10) (v := undef) (some 62) rfl rfl (by kernel_rfl) (by kernel_rfl) (by kernel_rfl) (fun _ _ _ h => h) (Or.inr ⟨by kernel_rfl, rfl⟩) (by assumption) ?_
            try simp only [Act.put, List.setIfInBounds_toArray, List.set_cons_zero, List.set_cons_succ]
            refine wpAnyH_takeD (i := 11) (v := undef) (some 63) rfl rfl (by kernel_rfl) (by kernel_rfl) (by kernel_rfl) (fun _ _ _ h => h) (Or.inr ⟨by kernel_rfl, rfl⟩) (by assumption) ?_
            try simp only [Act.put, List.setIfInBounds_toArray, List.set_cons_zero, List.set_cons_succ]
            refine wpAnyH_takeD (i := 12) (v := undef) (some 64) rfl rfl (by kernel_rfl) (by kernel_rfl) (by kernel_rfl) (fun _ _ _ h => h) (Or.inr ⟨by kernel_rfl, rfl⟩) (by assumption) ?_
            try simp only [Act.put, List.setIfInBounds_toArray, List.set_cons_zero, List.set_cons_succ]
            refine wpAnyH_takeD (i := 13) (v := undef) (some 65) rfl rfl (by kernel_rfl) (by kernel_rfl) (by kernel_rfl) (fun _ _ _ h => h) (Or.inr ⟨by kernel_rfl, rfl⟩) (by assumption) ?_
            try simp only [Act.put, List.setIfInBounds_toArray, List.set_cons_zero, List.set_cons_succ]
            refine wpAnyH_takeD (i := 14) (v := undef) (some 66) rfl rfl (by kernel_rfl) (by kernel_rfl) (by kernel_rfl) (fun _ _ _ h => h) (Or.inr ⟨by kernel_rfl, rfl⟩) (by assumption) ?_
            try simp only [Act.put, List.setIfInBounds_toArray, List.set_cons_zero, List.set_cons_succ]
            refine wpAnyH_takeD (i := 15) (v := undef) (some 67) rfl rfl (by kernel_rfl) (by kernel_rfl) (by kernel_rfl) (fun _ _ _ h => h) (Or.inr ⟨by kernel_rfl, rfl⟩) (by assumption) ?_
            try simp only [Act.put, List.setIfInBounds_toArray, List.set_cons_zero, List.set_cons_succ]
            refine wpAnyH_takeD (i := 16) (v := undef) (some 68) rfl rfl (by kernel_rfl) (by kernel_rfl) (by kernel_rfl) (fun _ _ _ h => h) (Or.inr ⟨by kernel_rfl, rfl⟩) (by assumption) ?_
            try simp only [Act.put, List.setIfInBounds_toArray, List.set_cons_zero, List.set_cons_succ]
            refine wpAnyH_takeD (i := 17) (v := undef) (some 69) rfl rfl (by kernel_rfl) (by kernel_rfl) (by kernel_rfl) (fun _ _ _ h => h) (Or.inr ⟨by kernel_rfl, rfl⟩) (by assumption) ?_
            try simp only [Act.put, List.setIfInBounds_toArray, List.set_cons_zero, List.set_cons_succ]
            refine wpAnyH_takeD (i := 18) (v := undef) (some 70) rfl rfl (by kernel_rfl) (by kernel_rfl) (by kernel_rfl) (fun _ _ _ h => h) (Or.inr ⟨by kernel_rfl, rfl⟩) (by assumption) ?_
            try simp only [Act.put, List.setIfInBounds_toArray, List.set_cons_zero, List.set_cons_succ]
            refine wpAnyH_takeD (i := 19) (v := undef) (some 71) rfl rfl (by kernel_rfl) (by kernel_rfl) (by kernel_rfl) (fun _ _ _ h => h) (Or.inr ⟨by kernel_rfl, rfl⟩) (by assumption) ?_
            try simp only [Act.put, List.setIfInBounds_toArray, List.set_cons_zero, List.set_cons_succ]
            refine wpAnyH_takeD (i := 20) (v := undef) (some 72) rfl rfl (by kernel_rfl) (by kernel_rfl) (by kernel_rfl) (fun _ _ _ h => h) (Or.inr ⟨by kernel_rfl, rfl⟩) (by assumption) ?_
            try simp only [Act.put, List.setIfInBounds_toArray, List.set_cons_zero, List.set_cons_succ]
            refine wpAnyH_takeD (i := 21) (v := undef) (some 73) rfl rfl (by kernel_rfl) (by kernel_rfl) (by kernel_rfl) (fun _ _ _ h => h) (Or.inr ⟨by kernel_rfl, rfl⟩) (by assumption) ?_
            try simp only [Act.put, List.setIfInBounds_toArray, List.set_cons_zero, List.set_cons_succ]
            refine wpAnyH_takeD (i := 22) (v := undef) (some 74) rfl rfl (by kernel_rfl) (by kernel_rfl) (by kernel_rfl) (fun _ _ _ h => h) (Or.inr ⟨by kernel_rfl, rfl⟩) (by assumption) ?_
            try simp only [Act.put, List.setIfInBounds_toArray, List.set_cons_zero, List.set_cons_succ]
            refine wpAnyH_takeD (i := 23) (v := undef) (some 75) rfl rfl (by kernel_rfl) (by kernel_rfl) (by kernel_rfl) (fun _ _ _ h => h) (Or.inr ⟨by kernel_rfl, rfl⟩) (by assumption) ?_
            try simp only [Act.put, List.setIfInBounds_toArray, List.set_cons_zero, List.set_cons_succ]
            refine wpAnyH_takeD (i := 24) (v := undef) (some 76) rfl rfl (by kernel_rfl) (by kernel_rfl) (by kernel_rfl) (fun _ _ _ h => h) (Or.inr ⟨by kernel_rfl, rfl⟩) (by assumption) ?_
            try simp only [Act.put, List.setIfInBounds_toArray, List.set_cons_zero, List.set_cons_succ]
            refine wpAnyH_takeD (i := 25) (v := undef) (some 77) rfl rfl (by kernel_rfl) (by kernel_rfl) (by kernel_rfl) (fun _ _ _ h => h) (Or.inr ⟨by kernel_rfl, rfl⟩) (by assumption) ?_
            try simp only [Act.put, List.setIfInBounds_toArray, List.set_cons_zero, List.set_cons_succ]
            refine wpAnyH_takeD (i := 26) (v := undef) (some 78) rfl rfl (by kernel_rfl) (by kernel_rfl) (by kernel_rfl) (fun _ _ _ h => h) (Or.inr ⟨by kernel_rfl, rfl⟩) (by assumption) ?_
            try simp only [Act.put, List.setIfInBounds_toArray, List.set_cons_zero, List.set_cons_succ]
            refine wpAnyH_takeD (i := 27) (v := ?_) (some 79) rfl rfl (by kernel_rfl) (by kernel_rfl) (by kernel_rfl) (fun _ _ _ h => h) (Or.inl ⟨by rfl, ?_⟩) (by assumption) ?_
            rotate_left
            · intro w hSw; (try dsimp only at hSw); go_simp; (try with_reducible rfl)
            try simp only [Act.put, List.setIfInBounds_toArray, List.set_cons_zero, List.set_cons_succ]
            refine wpAnyH_done (by kernel_rfl) ?_ _
            refine NoPanic.normal ?_
            --@4
            go_wp2_with fail
            go_roundw
            case rel => refine ⟨k + 1, by omega, by omega, by go_num, Lib.hid ?_⟩; repeat (with_reducible first | exact HBX.out | refine Below.drew ?_)
            case measure => simp [intOf]; omega
            --@end
            --@end
          · have hin := inL_iff.1 HZ.out.symm
            obtain ⟨y, hy⟩ : ∃ y : Nat, (y : Int) = x2 + K := ⟨(x2 + K).toNat, by omega⟩
            have hy2 : y < 2 * K + 1 := by omega
            obtain ⟨bb, hbb⟩ : ∃ bb, bb = canF N K last f (j + 1) ((u + k : Nat) : Int) ((y : Int) - K) := ⟨_, rfl⟩
            have HBV := Lib.hid (show bb = canF N K last f (j + 1) ((u : Int) + (k : Int)) x2 from by rw [hbb]; congr 1 <;> omega)
            have HS12 := Lib.hid (show ∀ W, Below w3.heap.size w3 W → W.cell? ⟨gO, j + 1, none⟩ = some (.slice (some ⟨ga, 0, none⟩) (N + 1) ca) ∧ W.cell? ⟨ga, u + k, none⟩ = some (.slice (some ⟨gR (u + k), 0, none⟩) (2 * K + 1) (2 * K + 1)) ∧ W.cell? ⟨gR (u + k), y, none⟩ = some (.bool bb) from fun W hW => by
              obtain ⟨h1, h2, h3⟩ := HTN.out W hW
              exact ⟨h1, h2 _ (by omega), by rw [hbb]; exact h3 _ _ (by omega) hy2⟩)
            have HY := Lib.hid hy
            clear hbb hy
            have q0 : (0 : Int) ≤ (j : Int) + 1 := by omega
            have q1 : (j : Int) + 1 < (M : Int) + 1 := by omega
            have q2 : (0 : Int) ≤ (u : Int) + (k : Int) := by omega
            have q3 : (u : Int) + (k : Int) < (N : Int) + 1 := by omega
            have q4 : (0 : Int) ≤ (y : Int) := by omega
            have q5 : (y : Int) < 2 * (K : Int) + 1 := by omega
            have n1 : ((j : Int) + 1).toNat = j + 1 := by omega
            have n2 : ((u : Int) + (k : Int)).toNat = u + k := by omega
            --@5
            go_upto_region 12 with fail
            have v9 : x2 + (K : Int) = (y : Int) := HY.out.symm
            have v13 : IntKind.i64.wrap (y : Int) = (y : Int) := by rw [IntKind.wrap_i64]; omega
            refine wp_region_noPanic ?_
            refine wp_region_held_drew (S := (fun W => W.cell? ⟨gO, j + 1, none⟩ = some (.slice (some ⟨ga, 0, none⟩) (N + 1) ca) ∧ W.cell? ⟨ga, u + k, none⟩ = some (.slice (some ⟨gR (u + k), 0, none⟩) (2 * K + 1) (2 * K + 1)) ∧ W.cell? ⟨gR (u + k), y, none⟩ = some (.bool bb))) (by kernel_rfl) ?_ (fun hHeld => ?_)
            · (try dsimp only); (exact HS12.out _ (by repeat (with_reducible first | exact HBK.out | refine Below.drew ?_)))
            refine wpAnyH_takeD (i := 0) (v := ?_) (some 52) rfl rfl (by kernel_rfl) (by kernel_rfl) (by kernel_rfl) (fun _ _ _ h => h) (Or.inl ⟨by rfl, ?_⟩) (by assumption) ?_
            rotate_left
            · intro w hSw; (try dsimp only at hSw); go_simp; (try with_reducible rfl)
            try simp only [Act.put, List.setIfInBounds_toArray, List.set_cons_zero, List.set_cons_succ]
            refine wpAnyH_takeD (i := 1) (v := ?_) (some 53) rfl rfl (by kernel_rfl) (by kernel_rfl) (by kernel_rfl) (fun _ _ _ h => h) (Or.inl ⟨by rfl, ?_⟩) (by assumption) ?_
            rotate_left
            · intro w hSw; (try dsimp only at hSw); go_simp; (try with_reducible rfl)
            try simp only [Act.put, List.setIfInBounds_toArray, List.set_cons_zero, List.set_cons_succ]
            refine wpAnyH_takeD (i := 2) (v := ?_) (some 54) rfl rfl (by kernel_rfl) (by kernel_rfl) (by kernel_rfl) (fun _ _ _ h => h) (Or.inl ⟨by rfl, ?_⟩) (by assumption) ?_
            rotate_left
            · intro w hSw; (try dsimp only at hSw); go_simp; (try with_reducible rfl)
            try simp only [Act.put, List.setIfInBounds_toArray, List.set_cons_zero, List.set_cons_succ]
            refine wpAnyH_takeD (i := 4) (v := ?_) (some 56) rfl rfl (by kernel_rfl) (by kernel_rfl) (by kernel_rfl) (fun _ _ _ h => h) (Or.inl ⟨by rfl, ?_⟩) (by assumption) ?_
            rotate_left
            · intro w hSw; (try dsimp only at hSw); go_simp; (try with_reducible rfl)
            try simp only [Act.put, List.setIfInBounds_toArray, List.set_cons_zero, List.set_cons_succ]
            refine wpAnyH_ready (rs := [3]) (by kernel_rfl) (by simp) ?_
            refine AllReadyH.cons rfl (fun K hK => ?_) AllReadyH.nil
            (go_simp; go_at_call 71; with_reducible refine (H71.out _).mono ?_; rintro e wz ⟨rfl, rfl⟩; go_wp2_with fail)
            refine hK.out _ _ ?_ (fun hHeld => ?_)
            · (try dsimp only); (exact HS12.out _ (by repeat (with_reducible first | exact HBK.out | refine Below.drew ?_)))
            clear hK K
            try simp only [List.getElem_toArray, List.getElem_cons_succ, List.getElem_cons_zero]
            try simp only [Act.put, List.setIfInBounds_toArray, List.set_cons_zero, List.set_cons_succ]
            refine wpAnyH_ready (rs := [5]) (by kernel_rfl) (by simp) ?_
            refine AllReadyH.cons rfl (fun K hK => ?_) AllReadyH.nil
            (go_simp; go_at_call 72; with_reducible refine (H72.out _).mono ?_; rintro e wz ⟨rfl, rfl⟩; go_wp2_with fail)
            refine hK.out _ _ ?_ (fun hHeld => ?_)
            · (try dsimp only); (exact HS12.out _ (by repeat (with_reducible first | exact HBK.out | refine Below.drew ?_)))
            clear hK K
            try simp only [List.getElem_toArray, List.getElem_cons_succ, List.getElem_cons_zero]
            try simp only [Act.put, List.setIfInBounds_toArray, List.set_cons_zero, List.set_cons_succ]
            refine wpAnyH_takeD (i := 6) (v := .bool false) (some 58) rfl rfl (by kernel_rfl) (by kernel_rfl) (by kernel_rfl) (fun _ _ _ h => h) (Or.inl ⟨by rfl, ?_⟩) (by assumption) ?_
            · intro w hSw; (try dsimp only at hSw); (go_simp; (try simp)); (try with_reducible rfl)
            try simp only [Act.put, List.setIfInBounds_toArray, List.set_cons_zero, List.set_cons_succ]
            refine wpAnyH_takeD (i := 7) (v := ?_) (some 59) rfl rfl (by kernel_rfl) (by kernel_rfl) (by kernel_rfl) (fun _ _ _ h => h) (Or.inl ⟨by rfl, ?_⟩) (by assumption) ?_
            rotate_left
            · intro w hSw; (try dsimp only at hSw); go_simp; (try with_reducible rfl)
            try simp only [Act.put, List.setIfInBounds_toArray, List.set_cons_zero, List.set_cons_succ]
            refine wpAnyH_takeD (i := 8) (v := ?_) (some 60) rfl rfl (by kernel_rfl) (by kernel_rfl) (by kernel_rfl) (fun _ _ _ h => h) (Or.inl ⟨by rfl, ?_⟩) (by assumption) ?_
            rotate_left
            · intro w hSw; (try dsimp only at hSw); go_simp; (try with_reducible rfl)
            try simp only [Act.put, List.setIfInBounds_toArray, List.set_cons_zero, List.set_cons_succ]
            refine wpAnyH_takeD (i := 9) (v := ?_) (some 61) rfl rfl (by kernel_rfl) (by kernel_rfl) (by kernel_rfl) (fun _ _ _ h => h) (Or.inl ⟨by rfl, ?_⟩) (by assumption) ?_
            rotate_left
            · intro w hSw; (try dsimp only at hSw); go_simp; (try with_reducible rfl)
            try simp only [Act.put, List.setIfInBounds_toArray, List.set_cons_zero, List.set_cons_succ]
            refine wpAnyH_takeD (i := 10) (v := ?_) (some 62) rfl rfl (by kernel_rfl) (by kernel_rfl) (by kernel_rfl) (fun _ _ _ h => h) (Or.inl ⟨by rfl, ?_⟩) (by assumption) ?_
            rotate_left
            · intro w hSw; (try dsimp only at hSw); go_simp; (try with_reducible rfl)
            try simp only [Act.put, List.setIfInBounds_toArray, List.set_cons_zero, List.set_cons_succ]
            refine wpAnyH_takeD (i := 11) (v := ?_) (some 63) rfl rfl (by kernel_rfl) (by kernel_rfl) (by kernel_rfl) (fun _ _ _ h => h) (Or.inl ⟨by rfl, ?_⟩) (by assumption) ?_
            rotate_left
            · intro w hSw; (try dsimp only at hSw); go_simp; (try with_reducible rfl)
            try simp only [Act.put, List.setIfInBounds_toArray, List.set_cons_zero, List.set_cons_succ]
            refine wpAnyH_takeD (i := 12) (v := ?_) (some 64) rfl rfl (by kernel_rfl) (by kernel_rfl) (by kernel_rfl) (fun _ _ _ h => h) (Or.inl ⟨by rfl, ?_⟩) (by assumption) ?_
            rotate_left
            · intro w hSw; (try dsimp only at hSw); go_simp; (try with_reducible rfl)
            try simp only [Act.put, List.setIfInBounds_toArray, List.set_cons_zero, List.set_cons_succ]
            refine wpAnyH_takeD (i := 13) (v := ?_) (some 65) rfl rfl (by kernel_rfl) (by kernel_rfl) (by kernel_rfl) (fun _ _ _ h => h) (Or.inl ⟨by rfl, ?_⟩) (by assumption) ?_
            rotate_left
            · intro w hSw; (try dsimp only at hSw); go_simp; (try with_reducible rfl)
            try simp only [Act.put, List.setIfInBounds_toArray, List.set_cons_zero, List.set_cons_succ]
            refine wpAnyH_takeD (i := 14) (v := ?_) (some 66) rfl rfl (by kernel_rfl) (by kernel_rfl) (by kernel_rfl) (fun _ _ _ h => h) (Or.inl ⟨by rfl, ?_⟩) (by assumption) ?_
            rotate_left
            · intro w hSw; (try dsimp only at hSw); go_simp; (try with_reducible rfl)
            try simp only [Act.put, List.setIfInBounds_toArray, List.set_cons_zero, List.set_cons_succ]
            refine wpAnyH_takeD (i := 15) (v := ?_) (some 67) rfl rfl (by kernel_rfl) (by kernel_rfl) (by kernel_rfl) (fun _ _ _ h => h) (Or.inl ⟨by rfl, ?_⟩) (by assumption) ?_
            rotate_left
            · intro w hSw; (try dsimp only at hSw); go_simp; (try with_reducible rfl)
            try simp only [Act.put, List.setIfInBounds_toArray, List.set_cons_zero, List.set_cons_succ]
            refine wpAnyH_takeD (i := 16) (v := ?_) (some 68) rfl rfl (by kernel_rfl) (by kernel_rfl) (by kernel_rfl) (fun _ _ _ h => h) (Or.inl ⟨by rfl, ?_⟩) (by assumption) ?_
            rotate_left
            · intro w hSw; (try dsimp only at hSw); go_simp; (try with_reducible rfl)
            try simp only [Act.put, List.setIfInBounds_toArray, List.set_cons_zero, List.set_cons_succ]
            refine wpAnyH_takeD (i := 17) (v := ?_) (some 69) rfl rfl (by kernel_rfl) (by kernel_rfl) (by kernel_rfl) (fun _ _ _ h => h) (Or.inl ⟨by rfl, ?_⟩) (by assumption) ?_
            rotate_left
            · intro w hSw; (try dsimp only at hSw); go_simp; (try with_reducible rfl)
            try simp only [Act.put, List.setIfInBounds_toArray, List.set_cons_zero, List.set_cons_succ]
            refine wpAnyH_takeD (i := 18) (v := ?_) (some 70) rfl rfl (by kernel_rfl) (by kernel_rfl) (by kernel_rfl) (fun _ _ _ h => h) (Or.inl ⟨by rfl, ?_⟩) (by assumption) ?_
            rotate_left
            · intro w hSw; (try dsimp only at hSw); go_simp; (try with_reducible rfl)
            try simp only [Act.put, List.setIfInBounds_toArray, List.set_cons_zero, List.set_cons_succ]
            refine wpAnyH_takeD (i := 19) (v := ?_) (some 71) rfl rfl (by kernel_rfl) (by kernel_rfl) (by kernel_rfl) (fun _ _ _ h => h) (Or.inl ⟨by rfl, ?_⟩) (by assumption) ?_
            rotate_left
            · intro w hSw; (try dsimp only at hSw); go_simp; (try with_reducible rfl)
            try simp only [Act.put, List.setIfInBounds_toArray, List.set_cons_zero, List.set_cons_succ]
            refine wpAnyH_takeD (i := 20) (v := ?_) (some 72) rfl rfl (by kernel_rfl) (by kernel_rfl) (by kernel_rfl) (fun _ _ _ h => h) (Or.inl ⟨by rfl, ?_⟩) (by assumption) ?_
            rotate_left
            · intro w hSw; (try dsimp only at hSw); go_simp; (try with_reducible rfl)
            try simp only [Act.put, List.setIfInBounds_toArray, List.set_cons_zero, List.set_cons_succ]
            refine wpAnyH_takeD (i := 22) (v := ?_) (some 74) rfl rfl (by kernel_rfl) (by kernel_rfl) (by kernel_rfl) (fun _ _ _ h => h) (Or.inl ⟨by rfl, ?_⟩) (by assumption) ?_
            rotate_left
            · intro w hSw; (try dsimp only at hSw); go_simp; (try with_reducible rfl)
            try simp only [Act.put, List.setIfInBounds_toArray, List.set_cons_zero, List.set_cons_succ]
            refine wpAnyH_ready (rs := [21]) (by kernel_rfl) (by simp) ?_
            refine AllReadyH.cons rfl (fun K hK => ?_) AllReadyH.nil
            (go_simp; go_at_call 71; with_reducible refine (H71.out _).mono ?_; rintro e wz ⟨rfl, rfl⟩; go_wp2_with fail)
            refine hK.out _ _ ?_ (fun hHeld => ?_)
            · (try dsimp only); (exact HS12.out _ (by repeat (with_reducible first | exact HBK.out | refine Below.drew ?_)))
            clear hK K
            try simp only [List.getElem_toArray, List.getElem_cons_succ, List.getElem_cons_zero]
            try simp only [Act.put, List.setIfInBounds_toArray, List.set_cons_zero, List.set_cons_succ]
            refine wpAnyH_takeD (i := 23) (v := .int .i64 (y : Int)) (some 75) rfl rfl (by kernel_rfl) (by kernel_rfl) (by kernel_rfl) (fun _ _ _ h => h) (Or.inl ⟨by rfl, ?_⟩) (by assumption) ?_
            · intro w hSw; (try dsimp only at hSw); (go_simp; (try simp [v9, v13])); (try with_reducible rfl)
            try simp only [Act.put, List.setIfInBounds_toArray, List.set_cons_zero, List.set_cons_succ]
            refine wpAnyH_takeD (i := 24) (v := ?_) (some 76) rfl rfl (by kernel_rfl) (by kernel_rfl) (by kernel_rfl) (fun _ _ _ h => h) (Or.inl ⟨by rfl, ?_⟩) (by assumption) ?_
            rotate_left
            · intro w hSw; (try dsimp only at hSw); go_simp; (try with_reducible rfl)
            try simp only [Act.put, List.setIfInBounds_toArray, List.set_cons_zero, List.set_cons_succ]
            refine wpAnyH_takeD (i := 25) (v := ?_) (some 77) rfl rfl (by kernel_rfl) (by kernel_rfl) (by kernel_rfl) (fun _ _ _ h => h) (Or.inl ⟨by rfl, ?_⟩) (by assumption) ?_
            rotate_left
            · intro w hSw; (try dsimp only at hSw); go_simp; (try with_reducible rfl)
            try simp only [Act.put, List.setIfInBounds_toArray, List.set_cons_zero, List.set_cons_succ]
            refine wpAnyH_takeD (i := 26) (v := ?_) (some 78) rfl rfl (by kernel_rfl) (by kernel_rfl) (by kernel_rfl) (fun _ _ _ h => h) (Or.inl ⟨by rfl, ?_⟩) (by assumption) ?_
            rotate_left
            · intro w hSw; (try dsimp only at hSw); go_simp; (try with_reducible rfl)
            try simp only [Act.put, List.setIfInBounds_toArray, List.set_cons_zero, List.set_cons_succ]
            refine wpAnyH_takeD (i := 27) (v := ?_) (some 79) rfl rfl (by kernel_rfl) (by kernel_rfl) (by kernel_rfl) (fun _ _ _ h => h) (Or.inl ⟨by rfl, ?_⟩) (by assumption) ?_
            rotate_left
            · intro w hSw; (try dsimp only at hSw); go_simp; (try with_reducible rfl)
            try simp only [Act.put, List.setIfInBounds_toArray, List.set_cons_zero, List.set_cons_succ]
            refine wpAnyH_done (by kernel_rfl) ?_ _
            refine NoPanic.normal ?_
            --@6
            cases bb
            · have hkne : k < ka + 1 := by
                rcases Nat.lt_or_ge k (ka + 1) with h | h
                · exact h
                · exfalso
                  have he : k = ka + 1 := by omega
                  have h2 := HS2.out
                  rw [show ((ka : Int) + 1) = (k : Int) by omega, ← HX2.out, ← HBV.out] at h2
                  simp at h2
              --@7
              go_wp2_with fail
              go_roundw
              case rel => refine ⟨k + 1, by omega, by omega, by go_num, Lib.hid ?_⟩; repeat (with_reducible first | exact HBX.out | refine Below.drew ?_)
              case measure => simp [intOf]; omega
              --@end
            · have hke : k = ka + 1 := by
                rcases Nat.lt_or_ge k (ka + 1) with h | h
                · exfalso
                  have h2 := HS3.out (k - 1) (by omega)
                  rw [show (((k - 1 : Nat) : Int) + 1) = (k : Int) by omega, ← HX2.out, ← HBV.out, ← HZ.out] at h2
                  cases h2
                · omega
              have hux : u + k ≤ N := by omega
              clear v9 v13
              have HP4 := Lib.hid (HP3.out _ HBX.out)
              have hsz := HBK.out.size
              have HKE := Lib.hid hke
              clear hke
              --@8
              go_upto_region 14 with fail
              obtain ⟨wd, hwd⟩ : ∃ W, W = wr.drew := ⟨_, rfl⟩
              have HPD := Lib.hid (show wd.ownsRow w3.heap.size 3 1 (.slice A j c) j (pre.map (Value.int .i64)) from by rw [hwd]; exact HP4.out.drew)
              have HBD := Lib.hid (show Below w3.heap.size w3 wd from by rw [hwd]; exact HBK.out.drew)
              rw [← hwd]
              clear hwd
              have hsd := HBD.out.size
              have hn1 : j + 1 ≤ maxLen := by simp only [maxLen]; omega
              have hn2 : (j + 1) * 8 ≤ 140737488355328 := by omega
              go_wp2_with first
                | (go_at_call 71; with_reducible refine (H71.out _).mono ?_; rintro e wz ⟨rfl, rfl⟩)
                | (at_builtin; refine wpList_append_lies _ rfl (.tmp 82) (.tmp 84) 22 rfl w3.heap.size 3 iT _ 1 8 Try.underlying22 HI.out hz0 hz1 hz2 rfl (by decide) (.slice A j c) j (pre.map (Value.int .i64)) rfl (HPD.out.alloc _) ⟨wd.heap.size, 0, none⟩ 1 1 [.int .i64 (k : Int)] rfl rfl (news_of1 wd 3 #[.int .i64 (k : Int)]) (by intro u hu; simp at hu; subst hu; rfl) (by decide) hn1 hn2 (by simp; omega) (wd.heap.size + 1) (by simp) ?_; intro g9 c9 w9 hown9 hg9 hat9 hlt9; have H9 := Lib.hid hown9; have HG9 := Lib.hid hg9; clear hown9 hg9 hat9 hlt9)
              refine ⟨⟨j + 1, some ⟨g9, 0, none⟩, c9, u + k, x2, by omega, rfl, by go_num, rfl, by omega, hin, Lib.hid ?_, Lib.hid ⟨pre ++ [(k : Int)], by rw [List.length_append, HP1.out]; rfl, ?_, ?_⟩, Lib.hid ?_⟩, ?_⟩
              · rw [HF2.out, show ((u + k : Nat) : Int) = (u : Int) + (k : Int) by omega]; exact HBV.out.symm
              · rw [HP2.out, HF1.out, HF2.out, List.append_assoc]
                congr 1
                show ((kF N K last f j u x : Int) + 1) :: grdF N K last f (j + 1) ((u : Int) + ((kF N K last f j u x : Int) + 1)) (leanS x ((kF N K last f j u x : Int) + 1) j) = [(k : Int)] ++ _
                rw [← HKA.out, show ((ka : Int) + 1) = (k : Int) by rw [HKE.out]; omega, ← HX2.out, show ((u + k : Nat) : Int) = (u : Int) + (k : Int) by omega]
                rfl
              · have h := H9.out
                rw [List.map_append]
                exact h
              · exact (balR HBD.out _).grown HG9.out (balR HBD.out _).size (fun q hq => HPB.out q hq)
              · simp [sLen]; omega
              --@end
            --@end
            --@end
        --@end
set_option maxHeartbeats 4000000 in
theorem turns_any (n limit last : Int) (w : World) (hn : -9223372036854775808 ≤ n ∧ n ≤ 9223372036854775807) (hk : -9223372036854775808 ≤ limit ∧ limit ≤ 9223372036854775807) (hl : -9223372036854775808 ≤ last ∧ last ≤ 9223372036854775807) :
    Calls Try.prog 25 #[.int .i64 n, .int .i64 limit, .int .i64 last] w fun e w' => ∃ A' c', e = .returned (.tuple #[.slice A' (turO n limit last).1.length c', .int .i64 (turO n limit last).2]) ∧ Hid (Sl encInt 1 w' w'.heap.size A' (turO n limit last).1) ∧ Hid (Below w.heap.size w w') := by
  obtain ⟨b1, hb1⟩ : ∃ b, b = inB n 1 200 := ⟨_, rfl⟩
  obtain ⟨b2, hb2⟩ : ∃ b, b = inB limit 1 n := ⟨_, rfl⟩
  obtain ⟨b3, hb3⟩ : ∃ b, b = inB last 0 limit := ⟨_, rfl⟩
  have HI1 := Lib.hid (fun W => within_val n 1 200 b1 hb1 W)
  have HI2 := Lib.hid (fun W => within_val limit 1 n b2 hb2 W)
  have HI3 := Lib.hid (fun W => within_val last 0 limit b3 hb3 W)
  have HE := Lib.hid (show turO n limit last = (if !b1 || (!b2 || !b3) then (([], 1) : List Int × Int) else match turnS n limit last with | none => ([], 4) | some l => (l, 0)) from by rw [hb1, hb2, hb3]; rfl)
  have HNIL := Lib.hid (show Sl encInt 1 w w.heap.size none [] from Sl.nil)
  have fin : !b1 || (!b2 || !b3) → Calls Try.prog 25 #[.int .i64 n, .int .i64 limit, .int .i64 last] w fun e w' => e = .returned (.tuple #[.slice none 0 0, .int .i64 1]) ∧ Hid (Below w.heap.size w w') := by
    intro hb
    have HB := Lib.hid hb
    clear hb hb1 hb2 hb3 HE
    cases b1
    · skip
      --@11
      go_enter Try.func25, Try.ntmps25
      go_wp2_with fail
      go_step3
      go_wp2_with first
        | (go_at_call 54; with_reducible refine (HI1.out _).mono ?_; rintro e wz ⟨rfl, rfl⟩)
      refine noGoto_ret ?_
      refine bodyPost_ret (v := .tuple #[.slice none 0 0, .int .i64 1]) ?_ rfl ⟨rfl, Lib.hid (Below.refl _ _)⟩
      simp [results, Try.results25, go_sem]
      --@end
    · cases b2
      · skip
        --@12
        go_enter Try.func25, Try.ntmps25
        go_wp2_with fail
        go_step3
        go_wp2_with first
          | (go_at_call 54; with_reducible refine (HI1.out _).mono ?_; rintro e wz ⟨rfl, rfl⟩)
          | (go_at_call 54; with_reducible refine (HI2.out _).mono ?_; rintro e wz ⟨rfl, rfl⟩)
        refine noGoto_ret ?_
        refine bodyPost_ret (v := .tuple #[.slice none 0 0, .int .i64 1]) ?_ rfl ⟨rfl, Lib.hid (Below.refl _ _)⟩
        simp [results, Try.results25, go_sem]
        --@end
      · cases b3
        · skip
          --@13
          go_enter Try.func25, Try.ntmps25
          go_wp2_with fail
          go_step3
          go_wp2_with first
            | (go_at_call 54; with_reducible refine (HI1.out _).mono ?_; rintro e wz ⟨rfl, rfl⟩)
            | (go_at_call 54; with_reducible refine (HI2.out _).mono ?_; rintro e wz ⟨rfl, rfl⟩)
            | (go_at_call 54; with_reducible refine (HI3.out _).mono ?_; rintro e wz ⟨rfl, rfl⟩)
          refine noGoto_ret ?_
          refine bodyPost_ret (v := .tuple #[.slice none 0 0, .int .i64 1]) ?_ rfl ⟨rfl, Lib.hid (Below.refl _ _)⟩
          simp [results, Try.results25, go_sem]
          --@end
        · exact absurd HB.out (by simp)
  cases hb : (!b1 || (!b2 || !b3))
  · have hE := HE.out
    rw [hb] at hE
    simp at hb
    obtain ⟨h1, h2, h3⟩ := hb
    have i1 := inB_iff.1 (hb1.symm.trans h1)
    have i2 := inB_iff.1 (hb2.symm.trans h2)
    have i3 := inB_iff.1 (hb3.symm.trans h3)
    obtain ⟨N, rfl⟩ : ∃ N : Nat, (N : Int) = n := ⟨n.toNat, by omega⟩
    obtain ⟨K, rfl⟩ : ∃ K : Nat, (K : Int) = limit := ⟨limit.toNat, by omega⟩
    exact turns_ok N K last w (by omega) (by omega) (by omega) i3.1 i3.2 _ _ (by rw [hE]; rfl)
  · have hE := HE.out
    rw [hb] at hE
    rw [hE]
    refine (fin hb).mono ?_
    rintro e w' ⟨rfl, h⟩
    exact ⟨none, 0, rfl, Lib.hid Sl.nil, h⟩
end Go.Proofs.Ytfejedmpplbmjaa
