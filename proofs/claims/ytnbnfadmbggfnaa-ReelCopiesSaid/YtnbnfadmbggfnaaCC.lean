/- Contracts of Thrown and Run; conditions: a press in memory. -/
import Derived.Test.YtnbnfadmbggfnaaC7
set_option linter.unusedSimpArgs false
set_option linter.unusedVariables false
namespace Go.Rl
open Go.Fh
theorem ask0 {p : PrsD} {n most : Int} (h : askE p n most = 0) : errP p = 0 ∧ 0 ≤ n ∧ n ≤ most ∧ n ≤ rchP p := by
  unfold askE at h
  split at h
  · rename_i h1; exact absurd h h1
  · rename_i h1
    split at h
    · simp at h
    · rename_i h2
      split at h
      · simp at h
      · rename_i h3
        have h4 : inB n 0 most = true := by simpa using h2
        have h5 := inB_iff.1 h4
        exact ⟨by simpa using h1, h5.1, h5.2, by omega⟩
/-- what Thrown returns -/
def thrO (p : PrsD) (n : Int) : List (Int × Int) := if askE p n 9223372036854775807 ≠ 0 then [] else thrP p n
end Go.Rl
namespace Go.Proofs.Ytnbnfadmbggfnaa
open Go.RowKit Go.Fh Go.Rl
set_option maxRecDepth 20000 in
set_option maxHeartbeats 4000000 in
theorem thrown14_any (p : PrsD) (A : Option Addr) (c m : Nat) (ms : List WebM) (w : World) (hT : PrsAt w w.heap.size p A ms) (hm : m = ms.length) (hm9 : m ≤ 1000000) (n : Int) (er : Int) (her : er = askE p n 9223372036854775807) (S : List (Int × Int)) (hS : S = thrO p n) :
    Calls Try.prog 14 #[.agg #[.int .i64 p.cut, .int .i64 p.margin, .slice A m c], .int .i64 n] w fun e w' => ∃ A' c', e = .returned (.tuple #[.slice A' S.length c', .int .i64 er]) ∧ w'.ownsRow w.heap.size 43 2 (.slice A' S.length c') S.length (S.flatMap enc2) ∧ Hid (Below w.heap.size w w') := by
  obtain ⟨w1, gT, HW1, HGT, HB1, HTB⟩ := prs_box p A c m ms w hT
  obtain ⟨hT1, r0, r1, r2⟩ := HTB.out w1 (Below.refl _ _)
  have HA := Lib.hid (ask_any p A c m ms w1 hT1 hm hm9 n _ er her)
  unfold thrO at hS
  rw [← her] at hS
  have HSZ := Lib.hid HB1.out.size
  by_cases hz : er = 0
  · obtain ⟨q1, q2, -, q4⟩ := ask0 (her.symm.trans hz)
    have hpo := prs_ok q1
    have hrb := rchK_bd hpo _ (Nat.le_refl _)
    have H42 := Lib.hid (fun W (hb : Below w1.heap.size w1 W) => thrown_any p A c m ms W hpo (HTB.out W hb).1 hm n q2 (by unfold rchP at q4; omega))
    rw [if_neg (by simpa using hz)] at hS
    rw [← hS] at H42
    subst hz
    clear hT hT1 hm hm9 her hS q1 q2 q4 hpo hrb
    go_enter Try.func14, Try.ntmps14
    go_upto_region 1 with fail
    rw [← HW1.out, ← HGT.out]
    go_wp2_with first
      | (go_at_call 41; with_reducible refine HA.out.mono ?_; rintro e w2 ⟨rfl, HB2⟩; clear r0 r1 r2; obtain ⟨-, r0, r1, r2⟩ := HTB.out w2 HB2.out)
      | (go_at_call 42; with_reducible refine (H42.out _ HB2.out).mono ?_; rintro e w3 ⟨A', c', rfl, ho, HB3⟩; have HO := Lib.hid ho; clear ho)
    go_ret2
    have h1 := HB2.out.size
    have h2 := HSZ.out
    exact ⟨A', c', rfl, World.ownsRow.mono HO.out (by omega), Lib.hid (HB1.out.trans ((HB2.out.trans (HB3.out.mono HB2.out.size)).mono HB1.out.size))⟩
  · have ht : (er != 0) = true := by simpa using hz
    rw [if_pos hz] at hS
    subst hS
    clear hT hT1 hm hm9 her hz
    go_enter Try.func14, Try.ntmps14
    go_upto_region 1 with fail
    rw [← HW1.out, ← HGT.out]
    go_wp2_with (go_at_call 41; with_reducible refine HA.out.mono ?_; rintro e w2 ⟨rfl, HB2⟩)
    go_ret2
    exact ⟨none, 0, rfl, World.ownsRow_nil _ _ _ _, Lib.hid (HB1.out.trans (HB2.out.mono HB1.out.size))⟩
set_option maxRecDepth 20000 in
set_option maxHeartbeats 4000000 in
theorem run15_any (p : PrsD) (A : Option Addr) (c m : Nat) (ms : List WebM) (w : World) (hT : PrsAt w w.heap.size p A ms) (hm : m = ms.length) (hm9 : m ≤ 1000000) (g : Int) (r1 r2 : Int) (hr : (r1, r2) = runP p g) :
    Calls Try.prog 15 #[.agg #[.int .i64 p.cut, .int .i64 p.margin, .slice A m c], .int .i64 g] w fun e w' => e = .returned (.tuple #[.int .i64 r1, .int .i64 r2]) ∧ Hid (Below w.heap.size w w') := by
  obtain ⟨w1, gT, HW1, HGT, HB1, HTB⟩ := prs_box p A c m ms w hT
  obtain ⟨hT1, c0, c1, c2⟩ := HTB.out w1 (Below.refl _ _)
  obtain ⟨er, her⟩ : ∃ e, e = askE p g 1000000 := ⟨_, rfl⟩
  have HA := Lib.hid (ask_any p A c m ms w1 hT1 hm hm9 g _ er her)
  unfold runP at hr
  rw [← her] at hr
  by_cases hz : er = 0
  · obtain ⟨q1, q2, q3, q4⟩ := ask0 (her.symm.trans hz)
    have hpo := prs_ok q1
    have hrb := rchK_bd hpo _ (Nat.le_refl _)
    have hrb' : 0 ≤ rchP p ∧ rchP p ≤ 1000000 := hrb
    have hbd := fun s (hs : s ∈ thrP p (rchP p)) => thr_bd hs
    have hln := thr_len (fun v hv => (hpo.w v hv).n) (rchP p)
    have hw6 := hpo.n1
    have H42 := Lib.hid (fun W (hb : Below w1.heap.size w1 W) => thrown_any p A c m ms W hpo (HTB.out W hb).1 hm (rchP p) hrb'.1 (by omega))
    have H40 := Lib.hid (fun W (hb : Below w1.heap.size w1 W) => reach_any p A c m ms W hpo (HTB.out W hb).1 hm)
    rw [if_neg (by simpa using hz)] at hr
    obtain ⟨S, hS⟩ : ∃ S, S = thrP p (rchP p) := ⟨_, rfl⟩
    obtain ⟨R, hR⟩ : ∃ R, R = rchP p := ⟨_, rfl⟩
    rw [← hR] at hS H40 H42 hr hrb' hbd hln
    rw [← hS] at H42 hr hbd hln
    subst hz
    have HBD := Lib.hid hbd
    have HTB' := Lib.hid (show ∀ W, Below w1.heap.size w1 W → W.cell? ⟨gT, 0, none⟩ = some (.int .i64 p.cut) ∧ W.cell? ⟨gT, 1, none⟩ = some (.int .i64 p.margin) ∧ W.cell? ⟨gT, 2, none⟩ = some (.slice A m c) from fun W h => (HTB.out W h).2)
    have hl120 : S.length ≤ 120 := by omega
    clear hT hT1 hm hm9 her q1 q4 hpo hrb hbd hln hw6 hS hR
    by_cases hg0 : g = 0
    · subst hg0
      have hr2 : r1 = 0 ∧ r2 = 0 := by simpa using hr
      obtain ⟨rfl, rfl⟩ := hr2
      clear hr
      go_enter Try.func15, Try.ntmps15
      go_upto_region 1 with fail
      rw [← HW1.out, ← HGT.out]
      go_wp2_with (go_at_call 41; with_reducible refine HA.out.mono ?_; rintro e w2 ⟨rfl, HB2⟩)
      go_ret2
      exact ⟨rfl, Lib.hid (HB1.out.trans (HB2.out.mono HB1.out.size))⟩
    · have t1 : (g == 0) = false := by simpa using hg0
      rw [if_neg hg0] at hr
      have HR := Lib.hid hr
      obtain ⟨N, hN⟩ : ∃ N, N = Go.Rl.runN S g := ⟨_, rfl⟩
      rw [← hN] at HR
      have HN := Lib.hid hN
      clear hr hN hg0
      go_enter Try.func15, Try.ntmps15
      go_upto_region 1 with fail
      rw [← HW1.out, ← HGT.out]
      go_upto_region 7 with (go_at_call 41; with_reducible refine HA.out.mono ?_; rintro e w2 ⟨rfl, HB2⟩; clear c0 c1 c2; obtain ⟨c0, c1, c2⟩ := HTB'.out w2 HB2.out)
      go_region_held3 (fun W => W.cell? ⟨gT, 0, none⟩ = some (.int .i64 p.cut) ∧ W.cell? ⟨gT, 1, none⟩ = some (.int .i64 p.margin) ∧ W.cell? ⟨gT, 2, none⟩ = some (.slice A m c))
        ((refine HTB'.out _ ?_; (repeat (with_reducible first | exact Below.refl _ _ | exact HB2.out | exact HB3.out | exact HB4.out | refine Below.drew ?_)); done))
        (first
          | (go_at_call 40; with_reducible refine (H40.out _ (by repeat (with_reducible first | exact Below.refl _ _ | exact HB2.out | refine Below.drew ?_))).mono ?_; rintro e w3 ⟨rfl, hb3⟩; have HB3 := Lib.hid (bstep (show Below w1.heap.size w1 _ from by repeat (with_reducible first | exact HB2.out | refine Below.drew ?_)) hb3.out); clear hb3)
          | (go_at_call 42; with_reducible refine (H42.out _ (by repeat (with_reducible first | exact HB3.out | refine Below.drew ?_))).mono ?_; rintro e w4 ⟨A', c', rfl, ho, hb4⟩; have HB4 := Lib.hid (bstep HB3.out hb4.out); have HO := Lib.hid ho; clear ho hb4))
      have HSL := Lib.hid (Sl.of_own (fun _ => rfl) HO.out : Sl enc2 2 w4 w4.heap.size A' S)
      obtain ⟨M, hM⟩ : ∃ M, M = S.length := ⟨_, rfl⟩
      have HM := Lib.hid hM
      rw [← hM] at hl120 ⊢
      clear hM c0 c1 c2
      go_wp2_with fail
      go_loopw [7, 24] (fun u i wr => ∃ (k : Nat) (q : Int), k ≤ M ∧ i = .int .i64 (k : Int) ∧ u = .int .i64 q ∧ Hid (N = Go.Rl.runN (S.drop k) q) ∧ Hid (0 ≤ q ∧ q ≤ 1000000 + 1000001 * (k : Int)) ∧ Hid (Below w4.heap.size w4 wr)) (fun _ i _ => M - (intOf i).toNat)
      case atStart => exact ⟨0, g, Nat.zero_le _, rfl, rfl, by rw [List.drop_zero]; exact HN, Lib.hid (by omega), Below.refl _ _⟩
      case round =>
        obtain ⟨k, q, hk, rfl, rfl, HNK, HQ, HBL⟩ := hrel
        by_cases hlt : k < M
        · have hkl : k < S.length := by have := HM.out; omega
          obtain ⟨b, off, hba, hbb, c0, c1⟩ := Sl.at2 (HSL.out.below HBL.out) hkl
          subst hba
          have hx := HBD.out _ (List.getElem_mem hkl)
          have hdr := HNK.out
          rw [List.drop_eq_getElem_cons hkl] at hdr
          obtain ⟨x, hxx⟩ : ∃ x, x = S[k] := ⟨_, rfl⟩
          rw [← hxx] at c0 c1 hx hdr
          obtain ⟨x1, x2⟩ := x
          dsimp only at c0 c1 hx
          rw [Go.Rl.runN] at hdr
          dsimp only at hdr
          have hq := HQ.out
          obtain ⟨g9, hg9⟩ : ∃ g, g = wr.heap.size := ⟨_, rfl⟩
          obtain ⟨w5, hw5⟩ : ∃ W, W = wr.alloc (.cells #[.int .i64 x1, .int .i64 x2] 43) := ⟨_, rfl⟩
          have k9 : Blk w5 g9 43 #[.int .i64 x1, .int .i64 x2] := by rw [hw5, hg9]; exact Blk.new _ _ _
          have hb5 : Below wr.heap.size wr w5 := by rw [hw5]; exact balR (Below.refl _ _) _
          have y0 := k9.cell 0
          have y1 := k9.cell 1
          simp at y0 y1
          have HB5 := Lib.hid (HBL.out.trans (hb5.mono HBL.out.size))
          have HW5 := Lib.hid hw5
          have HG9 := Lib.hid hg9
          have i0 : (0 : Int) ≤ (k : Int) := by omega
          have i1 : (k : Int) < (M : Int) := by omega
          have s1 : IntKind.i64.wrap (x2 - x1) = x2 - x1 := by rw [IntKind.wrap_i64]; omega
          have s2 : IntKind.i64.wrap (x2 - x1 + 1) = x2 - x1 + 1 := by rw [IntKind.wrap_i64]; omega
          have s3 : IntKind.i64.wrap (q + (x2 - x1 + 1)) = q + (x2 - x1 + 1) := by rw [IntKind.wrap_i64]; omega
          have HDR := Lib.hid hdr
          clear hxx hw5 hg9 k9 hb5 hdr
          go_upto_region 10 with fail
          rw [← HW5.out, ← HG9.out]
          clear c0 c1
          by_cases hle : q ≤ x1
          · have t3 : decide (x1 ≥ q) = true := by simpa using hle
            have t4 : decide (q ≤ x1) = true := by simpa using hle
            have HNQ := Lib.hid (show N = q from by have := HDR.out; rwa [if_pos hle] at this)
            have e1 : N = q := HNQ.out
            have hrq := HR.out
            rw [e1] at hrq
            have HRQ := Lib.hid hrq
            have HBT := Lib.hid (show Below w1.heap.size w1 w5 from bstep HB4.out HB5.out)
            obtain ⟨c0, c1, c2⟩ := HTB'.out _ HBT.out
            clear e1 hrq
            by_cases hRN : R < q
            · exact absurd hRN (by omega)
            · have t5 : decide (q > R) = false := by simpa using hRN
              have t6 : decide (R < q) = false := by simpa using hRN
              have h7 : r1 = q ∧ r2 = 0 := by have := HRQ.out; rw [if_neg hRN] at this; simpa using this
              obtain ⟨rfl, rfl⟩ := h7
              go_wp2_with (go_at_call 40; with_reducible refine (H40.out _ HBT.out).mono ?_; rintro e wz ⟨rfl, HBZ⟩; have HBZ' := Lib.hid HBZ.out; clear HBZ)
              go_ret2
              exact ⟨rfl, Lib.hid (HB1.out.trans ((bstep HBT.out HBZ'.out).mono HB1.out.size))⟩
          · have t3 : decide (x1 ≥ q) = false := by simpa using hle
            have t4 : decide (q ≤ x1) = false := by simpa using hle
            have HNQ := Lib.hid (show N = Go.Rl.runN (S.drop (k + 1)) (q + (x2 - x1 + 1)) from by have := HDR.out; rwa [if_neg hle] at this)
            have HQ2 := Lib.hid (show 0 ≤ q + (x2 - x1 + 1) ∧ q + (x2 - x1 + 1) ≤ 1000000 + 1000001 * ((k + 1 : Nat) : Int) from by omega)
            go_wp2_with fail
            go_roundw
            case rel => exact ⟨k + 1, q + (x2 - x1 + 1), by omega, by go_num, rfl, HNQ, HQ2, HB5⟩
            case measure => simp [intOf]; omega
        · have hkm : k = M := by omega
          subst hkm
          have HNQ := Lib.hid (show N = q from by have := HNK.out; rw [List.drop_of_length_le (by have := HM.out; omega)] at this; exact this)
          have e1 : N = q := HNQ.out
          have hrq := HR.out
          rw [e1] at hrq
          have HRQ := Lib.hid hrq
          have HBT := Lib.hid (show Below w1.heap.size w1 wr from bstep HB4.out HBL.out)
          obtain ⟨c0, c1, c2⟩ := HTB'.out _ HBT.out
          clear e1 hrq
          by_cases hRN : R < q
          · have t5 : decide (q > R) = true := by simpa using hRN
            have t6 : decide (R < q) = true := by simpa using hRN
            have h7 : r1 = 0 ∧ r2 = 70 := by have := HRQ.out; rw [if_pos hRN] at this; simpa using this
            obtain ⟨rfl, rfl⟩ := h7
            go_wp2_with (go_at_call 40; with_reducible refine (H40.out _ HBT.out).mono ?_; rintro e wz ⟨rfl, HBZ⟩; have HBZ' := Lib.hid HBZ.out; clear HBZ)
            go_ret2
            exact ⟨rfl, Lib.hid (HB1.out.trans ((bstep HBT.out HBZ'.out).mono HB1.out.size))⟩
          · have t5 : decide (q > R) = false := by simpa using hRN
            have t6 : decide (R < q) = false := by simpa using hRN
            have h7 : r1 = q ∧ r2 = 0 := by have := HRQ.out; rw [if_neg hRN] at this; simpa using this
            obtain ⟨rfl, rfl⟩ := h7
            go_wp2_with (go_at_call 40; with_reducible refine (H40.out _ HBT.out).mono ?_; rintro e wz ⟨rfl, HBZ⟩; have HBZ' := Lib.hid HBZ.out; clear HBZ)
            go_ret2
            exact ⟨rfl, Lib.hid (HB1.out.trans ((bstep HBT.out HBZ'.out).mono HB1.out.size))⟩
  · have hr2 : r1 = 0 ∧ r2 = er := by rw [if_pos hz] at hr; simpa using hr
    obtain ⟨rfl, rfl⟩ := hr2
    have ht : (r2 != 0) = true := by simpa using hz
    clear hr her hz hT hT1 hm hm9
    go_enter Try.func15, Try.ntmps15
    go_upto_region 1 with fail
    rw [← HW1.out, ← HGT.out]
    go_wp2_with (go_at_call 41; with_reducible refine HA.out.mono ?_; rintro e w2 ⟨rfl, HB2⟩)
    go_ret2
    exact ⟨rfl, Lib.hid (HB1.out.trans (HB2.out.mono HB1.out.size))⟩
end Go.Proofs.Ytnbnfadmbggfnaa
