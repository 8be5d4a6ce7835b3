/- Contracts of the reference's ends, reach, Reach, ask and Splices; conditions: a press in memory. -/
import Derived.Test.YtnbnfadmbggfnaaUB
import Derived.Test.YtnbnfadmbggfnaaCL
set_option linter.unusedSimpArgs false
set_option linter.unusedVariables false
namespace Go.Rl
open Go.Fh
theorem gsum_pre {l : List ReelD} {k : Nat} (h : k < l.length) : gsum l (k + 1) = gsum l k + l[k].len - l[k].core := by rw [gsum_s h]; unfold giv; omega
theorem int_at {B : Nat} {w : Go.World} {A : Option Go.Addr} {l : List Int} (h : Sl encInt 1 w B A l) {k : Nat} (hk : k < l.length) {x : Int} (hx : l[k] = x) : ∃ b off, A = some ⟨b, off, none⟩ ∧ w.cell? ⟨b, off + k, none⟩ = some (.int .i64 x) := by
  obtain ⟨b, off, hA, hb, hc⟩ := h.at_ hk
  have := hc 0 _ rfl
  rw [hx] at this
  exact ⟨b, off, hA, by simpa using this⟩
theorem sl_take {α : Type} {enc : α → List Go.Value} {size B : Nat} {w : Go.World} {A : Option Go.Addr} {l : List α} (h : Sl enc size w B A l) (n : Nat) : Sl enc size w B A (l.take n) := fun hn => by
  obtain ⟨b, off, hA, hb, hc⟩ := h (by intro e; subst e; simp at hn)
  exact ⟨b, off, hA, hb, fun k x hx j u hu => hc k x (by rw [List.getElem?_take] at hx; split at hx <;> simp_all) j u hu⟩
end Go.Rl
namespace Go.Proofs.Ytnbnfadmbggfnaa
open Go.RowKit Go.Fh Go.Rl
set_option maxRecDepth 20000 in
set_option maxHeartbeats 4000000 in
theorem ends_any (v : WebD) (vA : Option Addr) (nv vc : Nat) (w : World) (hnv : nv = v.reels.length) (hn20 : nv ≤ 20) (hro : ∀ r ∈ v.reels, ReelOk r) (hA : Sl encReel 4 w w.heap.size vA v.reels) :
    Calls Try.prog 108 #[.agg #[.slice vA nv vc, .int .i64 v.off, .int .i64 v.bef, .int .i64 v.aft]] w fun e w' => ∃ A' c', e = .returned (.slice A' nv c') ∧ Hid (Sl encInt 1 w' w'.heap.size A' (upF (plcF v.reels) nv)) ∧ Hid (nv ≤ c' ∧ (0 < nv → ∃ g, A' = some ⟨g, 0, none⟩)) ∧ Hid (w'.ownsRow w.heap.size 3 1 (.slice A' nv c') nv ((upF (plcF v.reels) nv).map (Value.int .i64))) ∧ Hid (Below w.heap.size w w') := by
  obtain ⟨w1, gT, HW1, HGT, HB1, HK1⟩ := wv_box 181 v vA nv vc w
  obtain ⟨r0, r1, r2, r3⟩ := wv_cells HK1.out
  have HR := Lib.hid (fun W (hb : Below w1.heap.size w1 W) => hA.below (HB1.out.trans (hb.mono HB1.out.size)))
  have HN := Lib.hid hnv
  have HRO := Lib.hid hro
  obtain ⟨i0, hi, hz0, hz1, hz2⟩ := info_parts infoInt
  have HI := Lib.hid hi
  clear hi hnv hro hA
  go_enter Try.func108, Try.ntmps108
  go_upto_region 1 with fail
  rw [← HW1.out, ← HGT.out]
  go_wp2_with fail
  clear r0 r1 r2 r3
  go_loopw [3, 4, 5] (fun u3 u4 u wr => ∃ (k : Nat) (A3 : Option Addr) (cA : Nat), k ≤ nv ∧ u = .int .i64 (k : Int) ∧ u4 = .int .i64 (gsum v.reels k) ∧ u3 = .slice A3 k cA ∧ Hid (wr.ownsRow w1.heap.size 3 1 (.slice A3 k cA) k ((upF (plcF v.reels) k).map (Value.int .i64))) ∧ Hid (Below w1.heap.size w1 wr)) (fun _ _ u _ => nv - (intOf u).toNat)
  case atStart => exact ⟨0, none, 0, Nat.zero_le _, rfl, rfl, rfl, Lib.hid (World.ownsRow_nil _ _ _ _), Below.refl _ _⟩
  case round =>
    obtain ⟨k, A3, cA, hk, rfl, rfl, rfl, HO, HB⟩ := hrel
    obtain ⟨r0, r1, r2, r3⟩ := wv_cells (HK1.out.below HB.out HK1.out.lt)
    by_cases hlt : k < nv
    · have hkl : k < v.reels.length := by have := HN.out; omega
      obtain ⟨b, off, hba, hbb, c0, c1, c2, c3⟩ := reel_at (HR.out wr HB.out) hkl
      have hgs := gsum_pre hkl
      have hro := HRO.out _ (List.getElem_mem hkl)
      have hgb := gsum_bd HRO.out k
      obtain ⟨r, hr⟩ : ∃ r, r = v.reels[k] := ⟨_, rfl⟩
      rw [← hr] at c0 c1 c2 c3 hro hgs
      obtain ⟨sk, hsk⟩ : ∃ z, z = gsum v.reels k := ⟨_, rfl⟩
      rw [← hsk] at hgb hgs ⊢
      have h0 := hro.c0
      have h1 := hro.c1
      have h2 := hro.l1
      have sw1 : IntKind.i64.wrap (sk + r.len) = sk + r.len := by rw [IntKind.wrap_i64]; omega
      have sw2 : IntKind.i64.wrap (sk + r.len - r.core) = sk + r.len - r.core := by rw [IntKind.wrap_i64]; omega
      have HGS := Lib.hid hgs
      have HUP := Lib.hid (show (upF (plcF v.reels) (k + 1)).map (Value.int .i64) = (upF (plcF v.reels) k).map (Value.int .i64) ++ [Value.int .i64 (sk + r.len - r.core)] by rw [upF_succ, List.map_append]; unfold plcF; rw [hgs]; rfl)
      have i0' : (0 : Int) ≤ (k : Int) := by omega
      have i1' : (k : Int) < (nv : Int) := by omega
      have hm1 : k + 1 ≤ maxLen := by simp only [maxLen]; omega
      have hm2 : (k + 1) * 8 ≤ 140737488355328 := by omega
      subst hba
      clear hr hsk hgs hbb hro
      go_wp2_with fail
      go_quiet (fail)
      obtain ⟨wq, hwq⟩ : ∃ W', W' = wr.drewN nq := ⟨_, rfl⟩
      have HBq := Lib.hid (show Below w1.heap.size w1 wq from by rw [hwq]; exact below_drewN HB.out _)
      have HOq := Lib.hid (show wq.ownsRow w1.heap.size 3 1 (.slice A3 k cA) k ((upF (plcF v.reels) k).map (Value.int .i64)) from by rw [hwq]; exact own_belowV HO.out (below_drewN (Below.refl _ _) _))
      rw [← hwq]
      clear hwq c0 c1 c2 c3 r0 r1 r2 r3
      have HM3 := Lib.hid (show w1.heap.size ≤ (wq.alloc (.cells #[.int .i64 (sk + r.len - r.core)] 3)).heap.size from by have := HBq.out.size; simp; omega)
      go_wp2_with (at_builtin; refine wpList_append_own _ rfl (.tmp 28) (.tmp 30) 47 rfl w1.heap.size 3 i0 (.int .i64 0) 1 8 Try.underlying47 HI.out hz0 hz1 hz2 rfl (by decide) (.slice A3 k cA) k ((upF (plcF v.reels) k).map (Value.int .i64)) rfl (HOq.out.alloc _) ⟨wq.heap.size, 0, none⟩ 1 1 [.int .i64 (sk + r.len - r.core)] rfl rfl (news_of1 wq 3 #[.int .i64 (sk + r.len - r.core)]) (by intro u hu; simp at hu; rcases hu with rfl; rfl) hm1 hm2 HM3.out ?_; intro v9 w9 hown9 hg9 _; obtain ⟨g9', c9, hv9⟩ := ownsRow_succ hown9; subst hv9; have H9 := Lib.hid hown9; have HG9' := Lib.hid hg9; clear hown9 hg9)
      go_roundw
      case rel => exact ⟨k + 1, some ⟨g9', 0, none⟩, c9, by omega, by go_num, by rw [HGS.out], rfl, Lib.hid (by rw [HUP.out]; exact H9.out), Lib.hid ((balR HBq.out _).grown HG9'.out (balR HBq.out _).size (fun j hj => (own_at HOq.out hj).2))⟩
      case measure => simp [intOf]; omega
    · obtain rfl : k = nv := by omega
      have HSL := Lib.hid (show Sl encInt 1 wr wr.heap.size A3 (upF (plcF v.reels) k) from own_sl (B := w1.heap.size) (c := cA) (by rw [upF_len]; exact HO.out))
      have HCP := Lib.hid (show k ≤ cA ∧ (0 < k → ∃ g, A3 = some ⟨g, 0, none⟩) from by
        rcases HO.out.2 with ⟨h0, h1⟩ | ⟨g', cap', cur, hv, _, _, hle, _⟩
        · injection h0 with e1 e2 e3
          exact ⟨by omega, fun h => by omega⟩
        · injection hv with e1 e2 e3
          exact ⟨by omega, fun _ => ⟨g', e1⟩⟩)
      go_wp2_with fail
      go_ret
      exact ⟨A3, cA, rfl, HSL, HCP, Lib.hid (World.ownsRow.mono HO.out HB1.out.size), Lib.hid (HB1.out.trans (HB.out.mono HB1.out.size))⟩
set_option maxRecDepth 20000 in
set_option maxHeartbeats 4000000 in
theorem rreach_any (p : PrsD) (A : Option Addr) (c m : Nat) (ms : List WebM) (w : World) (hp : PrsOk p) (hT : PrsAt w w.heap.size p A ms) (hm : m = ms.length) :
    Calls Try.prog 107 #[.agg #[.int .i64 p.cut, .int .i64 p.margin, .slice A m c]] w fun e w' => e = .returned (.int .i64 (rchP p)) ∧ Hid (Below w.heap.size w w') := by
  obtain ⟨w1, gT, HW1, HGT, HB1, HTP, HTC⟩ := mp_box 131 p w A c ms w hT m hm
  obtain ⟨r0, r1, r2⟩ := HTC.out w1 (Below.refl _ _)
  have hml : m = p.webs.length := by rw [hm, hT.len]
  have hm6 := hp.n1
  rw [← hml] at hm6
  have HRP := Lib.hid (show rchP p = rchK p m by rw [hml]; rfl)
  have HP := Lib.hid hp
  have HM := Lib.hid hm
  have HML := Lib.hid hml
  have hc0 := hp.c0
  have hc1 := hp.c1
  clear hT hp hm hml
  go_enter Try.func107, Try.ntmps107
  go_upto_region 1 with fail
  rw [← HW1.out, ← HGT.out]
  go_wp2_with fail
  clear r0 r1 r2
  go_loopw [3, 4] (fun u i wr => ∃ k : Nat, k ≤ m ∧ i = .int .i64 (k : Int) ∧ u = .int .i64 (rchK p k) ∧ Hid (Below w1.heap.size w1 wr)) (fun _ i _ => m - (intOf i).toNat)
  case atStart => exact ⟨0, Nat.zero_le _, rfl, rfl, Below.refl _ _⟩
  case round =>
    obtain ⟨k, hk, rfl, rfl, HB⟩ := hrel
    obtain ⟨r0, r1, r2⟩ := HTC.out wr HB.out
    by_cases hlt : k < m
    · have hkm : k < ms.length := by have := HM.out; omega
      have hkp : k < p.webs.length := by have := HML.out; omega
      obtain ⟨v, vA, vc, b, off, HV, HR, hba, HC⟩ := web_box HTP.out hkm hkp
      obtain ⟨c0, c1, c2, c3⟩ := HC.out _ HB.out
      subst hba
      have hwo := HP.out.w p.webs[k] (List.getElem_mem hkp)
      have hrs := rchK_s hkp
      have hrb := rchK_bd HP.out k (by omega)
      rw [← HV.out] at hwo hrs
      have htb := totW_bd hwo
      have hwb := webN_bd hwo hc0
      have ho0 := hwo.o0
      have ho1 := hwo.o1
      have hv20 := hwo.n
      obtain ⟨nv, hnv⟩ : ∃ n, n = v.reels.length := ⟨_, rfl⟩
      rw [← hnv] at c0 hv20
      have HN := Lib.hid hnv
      obtain ⟨rk, hrk⟩ : ∃ z, z = rchK p k := ⟨_, rfl⟩
      rw [← hrk] at hrs hrb ⊢
      obtain ⟨tv, htv⟩ : ∃ z, z = totW v := ⟨_, rfl⟩
      have hwn : webN p.cut v = max (tv - v.off) 0 / p.cut := by rw [htv]; rfl
      rw [hwn] at hrs hwb
      rw [← htv] at htb
      obtain ⟨w5, g5, HW5, HG5, hb5, HK5⟩ := wv_box 181 v vA nv vc wr
      have HB5 := Lib.hid (HB.out.trans (hb5.out.mono HB.out.size))
      have H108 := Lib.hid (fun W (hb : Below w5.heap.size w5 W) => ends_any v vA nv vc W hnv hv20 hwo.r (HR.out W (HB5.out.trans (hb.mono HB5.out.size))))
      have HT0 := Lib.hid (show nv = 0 → tv = 0 from fun h => by rw [htv]; unfold totW; rw [← hnv, h]; rfl)
      have HT1 := Lib.hid (show 0 < nv → ∀ (A' : Option Addr) (W : World), Sl encInt 1 W W.heap.size A' (upF (plcF v.reels) nv) → ∃ b off, A' = some ⟨b, off, none⟩ ∧ W.cell? ⟨b, off + (nv - 1), none⟩ = some (.int .i64 tv) from fun h A' W hs => int_at hs (by rw [upF_len]; omega) (by rw [upF_get, htv]; unfold plcF totW; rw [show nv - 1 + 1 = nv by omega, hnv]))
      obtain ⟨y0, y1, y2, y3⟩ := wv_cells HK5.out
      have i0 : (0 : Int) ≤ (k : Int) := by omega
      have i1 : (k : Int) < (m : Int) := by omega
      have HRS := Lib.hid hrs
      clear hwo hnv hrk hwn htv hrs hb5
      go_upto_region 6 with fail
      rw [← HW5.out, ← HG5.out]
      clear c0 c1 c2 c3 r0 r1 r2
      by_cases hz : nv = 0
      · have htv0 := HT0.out hz
        subst htv0
        have t1 : decide ((nv : Int) > 0) = false := by simp; omega
        have t1' : decide ((0 : Int) < (nv : Int)) = false := by simp; omega
        have t1n : decide (0 < nv) = false := by simp; omega
        have t1m : ¬ 0 < nv := by omega
        have t2 : decide ((0 : Int) > v.off) = false := by simp; omega
        have t2' : decide (v.off < (0 : Int)) = false := by simp; omega
        have HMX := Lib.hid (show rchK p (k + 1) = min rk 0 from by rw [HRS.out, show max (0 - v.off) 0 = 0 by omega]; simp)
        clear hz
        go_wp2_with fail
        go_roundw
        case rel => exact ⟨k + 1, by omega, by go_num, by rw [HMX.out], HB5⟩
        case measure => simp [intOf]; omega
      · have t1 : decide ((nv : Int) > 0) = true := by simp; omega
        have t1' : decide ((0 : Int) < (nv : Int)) = true := by simp; omega
        have t1n : decide (0 < nv) = true := by simp; omega
        have t1m : 0 < nv := by omega
        have HT2 := Lib.hid (HT1.out (by omega))
        have s1 : IntKind.i64.wrap ((nv : Int) - 1) = (nv : Int) - 1 := by rw [IntKind.wrap_i64]; omega
        have j0 : (0 : Int) ≤ (nv : Int) - 1 := by omega
        have j1 : (nv : Int) - 1 < (nv : Int) := by omega
        have j2 : ((nv : Int) - 1).toNat = nv - 1 := by omega
        have HZ := Lib.hid hz
        have HSB := Lib.hid (show ∀ W, Below w5.heap.size w5 W → (W.cell? ⟨g5, 0, none⟩ = some (.slice vA nv vc) ∧ W.cell? ⟨g5, 1, none⟩ = some (.int .i64 v.off) ∧ W.cell? ⟨g5, 2, none⟩ = some (.int .i64 v.bef) ∧ W.cell? ⟨g5, 3, none⟩ = some (.int .i64 v.aft)) from fun W hb => wv_cells (HK5.out.below hb HK5.out.lt))
        clear hz
        go_upto_region 8 with fail
        have j0 : (0 : Int) ≤ (nv : Int) - 1 := by omega
        have j1 : (nv : Int) - 1 < (nv : Int) := by omega
        have j2 : ((nv : Int) - 1).toNat = nv - 1 := by omega
        have j3 : (1 : Int) ≤ (nv : Int) := by omega
        have j4 : 1 ≤ nv := by omega
        refine wp_region_noPanic ?_
        refine wp_region_held_drew (S := (fun W => (W.cell? ⟨g5, 0, none⟩ = some (.slice vA nv vc) ∧ W.cell? ⟨g5, 1, none⟩ = some (.int .i64 v.off) ∧ W.cell? ⟨g5, 2, none⟩ = some (.int .i64 v.bef) ∧ W.cell? ⟨g5, 3, none⟩ = some (.int .i64 v.aft)))) (by kernel_rfl) ?_ (fun hHeld => ?_)
        · (try dsimp only); (exact HSB.out _ ((Below.refl _ _).drew))
        refine wpAnyH_takeD (i := 0) (v := ?_) (some 24) rfl rfl (by kernel_rfl) (by kernel_rfl) (by kernel_rfl) (fun _ _ _ h => h) (Or.inl ⟨by rfl, ?_⟩) (by assumption) ?_
        rotate_left
        · intro w hSw; (try dsimp only at hSw); go_simp; (try with_reducible rfl)
        try simp only [Act.put, List.setIfInBounds_toArray, List.set_cons_zero, List.set_cons_succ]
        refine wpAnyH_takeD (i := 2) (v := ?_) (some 26) rfl rfl (by kernel_rfl) (by kernel_rfl) (by kernel_rfl) (fun _ _ _ h => h) (Or.inl ⟨by rfl, ?_⟩) (by assumption) ?_
        rotate_left
        · intro w hSw; (try dsimp only at hSw); go_simp; (try with_reducible rfl)
        try simp only [Act.put, List.setIfInBounds_toArray, List.set_cons_zero, List.set_cons_succ]
        refine wpAnyH_takeD (i := 3) (v := ?_) (some 27) rfl rfl (by kernel_rfl) (by kernel_rfl) (by kernel_rfl) (fun _ _ _ h => h) (Or.inl ⟨by rfl, ?_⟩) (by assumption) ?_
        rotate_left
        · intro w hSw; (try dsimp only at hSw); go_simp; (try with_reducible rfl)
        try simp only [Act.put, List.setIfInBounds_toArray, List.set_cons_zero, List.set_cons_succ]
        refine wpAnyH_takeD (i := 4) (v := ?_) (some 28) rfl rfl (by kernel_rfl) (by kernel_rfl) (by kernel_rfl) (fun _ _ _ h => h) (Or.inl ⟨by rfl, ?_⟩) (by assumption) ?_
        rotate_left
        · intro w hSw; (try dsimp only at hSw); go_simp; (try with_reducible rfl)
        try simp only [Act.put, List.setIfInBounds_toArray, List.set_cons_zero, List.set_cons_succ]
        refine wpAnyH_takeD (i := 5) (v := ?_) (some 29) rfl rfl (by kernel_rfl) (by kernel_rfl) (by kernel_rfl) (fun _ _ _ h => h) (Or.inl ⟨by rfl, ?_⟩) (by assumption) ?_
        rotate_left
        · intro w hSw; (try dsimp only at hSw); go_simp; (try with_reducible rfl)
        try simp only [Act.put, List.setIfInBounds_toArray, List.set_cons_zero, List.set_cons_succ]
        refine wpAnyH_ready (rs := [1]) (by kernel_rfl) (by simp) ?_
        refine AllReadyH.cons rfl (fun K hK => ?_) AllReadyH.nil
        (go_simp; go_at_call 108; with_reducible refine (H108.out _ ((Below.refl _ _).drew)).mono ?_; rintro e w6 ⟨A', c', rfl, hs6, -, -, hb6⟩; obtain ⟨b6, off6, hA6, d6⟩ := HT2.out _ _ hs6.out; subst hA6; have HB6 := Lib.hid (show Below w5.heap.size w5 w6 from bstep ((Below.refl _ _).drew) hb6.out); clear hb6 hs6; go_wp2_with fail)
        refine hK.out _ _ ?_ (fun hHeld => ?_)
        · (try dsimp only); (exact HSB.out _ HB6.out)
        clear hK K
        try simp only [List.getElem_toArray, List.getElem_cons_succ, List.getElem_cons_zero]
        try simp only [Act.put, List.setIfInBounds_toArray, List.set_cons_zero, List.set_cons_succ]
        refine wpAnyH_ready (rs := [6]) (by kernel_rfl) (by simp) ?_
        refine AllReadyH.cons rfl (fun K hK => ?_) AllReadyH.nil
        go_simp
        refine hK.out _ _ ?_ (fun hHeld => ?_)
        · (try dsimp only); (exact HSB.out _ HB6.out)
        clear hK K
        try simp only [List.getElem_toArray, List.getElem_cons_succ, List.getElem_cons_zero]
        try simp only [Act.put, List.setIfInBounds_toArray, List.set_cons_zero, List.set_cons_succ]
        refine wpAnyH_ready (rs := [7]) (by kernel_rfl) (by simp) ?_
        refine AllReadyH.cons rfl (fun K hK => ?_) AllReadyH.nil
        go_simp
        refine hK.out _ _ ?_ (fun hHeld => ?_)
        · (try dsimp only); (exact HSB.out _ HB6.out)
        clear hK K
        try simp only [List.getElem_toArray, List.getElem_cons_succ, List.getElem_cons_zero]
        try simp only [Act.put, List.setIfInBounds_toArray, List.set_cons_zero, List.set_cons_succ]
        refine wpAnyH_ready (rs := [8]) (by kernel_rfl) (by simp) ?_
        refine AllReadyH.cons rfl (fun K hK => ?_) AllReadyH.nil
        go_simp
        refine hK.out _ _ ?_ (fun hHeld => ?_)
        · (try dsimp only); (exact HSB.out _ HB6.out)
        clear hK K
        try simp only [List.getElem_toArray, List.getElem_cons_succ, List.getElem_cons_zero]
        try simp only [Act.put, List.setIfInBounds_toArray, List.set_cons_zero, List.set_cons_succ]
        refine wpAnyH_done (by kernel_rfl) ?_ _
        refine NoPanic.normal ?_
        clear y0 y1 y2 y3
        obtain ⟨y0, y1, y2, y3⟩ := HSB.out _ HB6.out
        obtain ⟨r0, r1, r2⟩ := HTC.out _ (HB5.out.trans (HB6.out.mono HB5.out.size))
        by_cases hto : v.off < tv
        · have t2 : decide (tv > v.off) = true := by simp; omega
          have t2' : decide (v.off < tv) = true := by simp; omega
          have sw1 : IntKind.i64.wrap (tv - v.off) = tv - v.off := by rw [IntKind.wrap_i64]; omega
          have hmx : max (tv - v.off) 0 = tv - v.off := by omega
          rw [hmx] at hwb
          have HMX := Lib.hid (show rchK p (k + 1) = min rk ((tv - v.off) / p.cut) from by rw [HRS.out, hmx])
          have sw2 : IntKind.i64.wrap ((tv - v.off) / p.cut) = (tv - v.off) / p.cut := by rw [IntKind.wrap_i64]; omega
          have hdv : IntKind.i64.wrap ((tv - v.off).tdiv p.cut) = (tv - v.off) / p.cut := by rw [Int.tdiv_eq_ediv_of_nonneg (by omega)]; exact sw2
          have hz1 : (p.cut == 0) = false := by simp; omega
          have hz2 : ¬ p.cut = 0 := by omega
          clear hmx
          go_wp2_with fail
          go_roundw
          case rel => exact ⟨k + 1, by omega, by go_num, by rw [HMX.out], Lib.hid (HB5.out.trans (HB6.out.mono HB5.out.size))⟩
          case measure => simp [intOf]; omega
        · have t2 : decide (tv > v.off) = false := by simp; omega
          have t2' : decide (v.off < tv) = false := by simp; omega
          have HMX := Lib.hid (show rchK p (k + 1) = min rk 0 from by rw [HRS.out, show max (tv - v.off) 0 = 0 by omega]; simp)
          clear hto
          go_wp2_with fail
          go_roundw
          case rel => exact ⟨k + 1, by omega, by go_num, by rw [HMX.out], Lib.hid (HB5.out.trans (HB6.out.mono HB5.out.size))⟩
          case measure => simp [intOf]; omega
    · obtain rfl : k = m := by omega
      go_wp2_with fail
      go_ret
      exact ⟨by rw [HRP.out]; rfl, Lib.hid (HB1.out.trans (HB.out.mono HB1.out.size))⟩
set_option maxRecDepth 20000 in
set_option maxHeartbeats 4000000 in
theorem rreach68_any (p : PrsD) (A : Option Addr) (c m : Nat) (ms : List WebM) (w : World) (hT : PrsAt w w.heap.size p A ms) (hm : m = ms.length) (hm9 : m ≤ 1000000) (x1 x2 : Int) (hr : (x1, x2) = if errP p ≠ 0 then (0, errP p) else (rchP p, 0)) :
    Calls Try.prog 68 #[.agg #[.int .i64 p.cut, .int .i64 p.margin, .slice A m c]] w fun e w' => e = .returned (.tuple #[.int .i64 x1, .int .i64 x2]) ∧ Hid (Below w.heap.size w w') := by
  obtain ⟨w1, gT, HW1, HGT, HB1, HTP, HTC⟩ := mp_box 131 p w A c ms w hT m hm
  obtain ⟨r0, r1, r2⟩ := HTC.out w1 (Below.refl _ _)
  obtain ⟨er, her⟩ : ∃ e, e = errP p := ⟨_, rfl⟩
  have HA := Lib.hid (rcheck_any p A c m ms w1 (HTP.out w1 (Below.refl _ _)) hm hm9 er her)
  rw [← her] at hr
  by_cases hz : er = 0
  · have hpo := prs_ok (her.symm.trans hz)
    have H107 := Lib.hid (fun W (hb : Below w1.heap.size w1 W) => rreach_any p A c m ms W hpo (HTP.out W hb) hm)
    rw [if_neg (by simpa using hz)] at hr
    injection hr with hr1 hr2
    subst hr1 hr2 hz
    clear hT hm hm9 her hpo
    go_enter Try.func68, Try.ntmps68
    go_upto_region 1 with fail
    rw [← HW1.out, ← HGT.out]
    go_wp2_with first
      | (go_at_call 67; with_reducible refine HA.out.mono ?_; rintro e w2 ⟨rfl, HB2⟩; clear r0 r1 r2; obtain ⟨r0, r1, r2⟩ := HTC.out w2 HB2.out)
      | (go_at_call 107; with_reducible refine (H107.out _ HB2.out).mono ?_; rintro e w3 ⟨rfl, HB3⟩)
    go_ret2
    exact ⟨rfl, Lib.hid (HB1.out.trans ((bstep HB2.out HB3.out).mono HB1.out.size))⟩
  · have ht : (er != 0) = true := by simpa using hz
    rw [if_pos hz] at hr
    injection hr with hr1 hr2
    subst hr1 hr2
    clear hT hm hm9 her hz
    go_enter Try.func68, Try.ntmps68
    go_upto_region 1 with fail
    rw [← HW1.out, ← HGT.out]
    go_wp2_with (go_at_call 67; with_reducible refine HA.out.mono ?_; rintro e w2 ⟨rfl, HB2⟩)
    go_ret2
    exact ⟨rfl, Lib.hid (HB1.out.trans (HB2.out.mono HB1.out.size))⟩
set_option maxRecDepth 20000 in
set_option maxHeartbeats 4000000 in
theorem rask_any (p : PrsD) (A : Option Addr) (c m : Nat) (ms : List WebM) (w : World) (hT : PrsAt w w.heap.size p A ms) (hm : m = ms.length) (hm9 : m ≤ 1000000) (n : Int) (hn : n ≤ 9223372036854775807) (er : Int) (her : er = askE p n 9223372036854775807) :
    Calls Try.prog 109 #[.agg #[.int .i64 p.cut, .int .i64 p.margin, .slice A m c], .int .i64 n] w fun e w' => e = .returned (.int .i64 er) ∧ Hid (Below w.heap.size w w') := by
  obtain ⟨w1, gT, HW1, HGT, HB1, HTP, HTC⟩ := mp_box 131 p w A c ms w hT m hm
  obtain ⟨r0, r1, r2⟩ := HTC.out w1 (Below.refl _ _)
  obtain ⟨e0, he0⟩ : ∃ e, e = errP p := ⟨_, rfl⟩
  have HA := Lib.hid (rcheck_any p A c m ms w1 (HTP.out w1 (Below.refl _ _)) hm hm9 e0 he0)
  unfold askE at her
  rw [← he0] at her
  by_cases hz : e0 = 0
  · have hpo := prs_ok (he0.symm.trans hz)
    have H107 := Lib.hid (fun W (hb : Below w1.heap.size w1 W) => rreach_any p A c m ms W hpo (HTP.out W hb) hm)
    obtain ⟨R, hR⟩ : ∃ R, R = rchP p := ⟨_, rfl⟩
    rw [← hR] at H107 her
    rw [if_neg (by simpa using hz)] at her
    subst hz
    by_cases h0 : n < 0
    · have hi : inB n 0 9223372036854775807 = false := by
        cases h : inB n 0 9223372036854775807 with
        | false => rfl
        | true => have := inB_iff.1 h; omega
      rw [if_pos hi] at her
      subst her
      have t1 : decide (n < 0) = true := by simpa using h0
      clear hT hm hm9 he0 hpo hi hR h0
      go_enter Try.func109, Try.ntmps109
      go_upto_region 1 with fail
      rw [← HW1.out, ← HGT.out]
      go_wp2_with (go_at_call 67; with_reducible refine HA.out.mono ?_; rintro e w2 ⟨rfl, HB2⟩; clear r0 r1 r2; obtain ⟨r0, r1, r2⟩ := HTC.out w2 HB2.out)
      go_ret
      exact ⟨rfl, Lib.hid (HB1.out.trans (HB2.out.mono HB1.out.size))⟩
    · have hi : inB n 0 9223372036854775807 = true := inB_iff.2 ⟨by omega, hn⟩
      rw [if_neg (by simp [hi])] at her
      have t1 : decide (n < 0) = false := by simpa using h0
      by_cases h1 : R < n
      · have t2 : decide (n > R) = true := by simpa using h1
        have t2' : decide (R < n) = true := by simpa using h1
        rw [if_pos h1] at her
        subst her
        clear hT hm hm9 he0 hpo hi hR h0 h1
        go_enter Try.func109, Try.ntmps109
        go_upto_region 1 with fail
        rw [← HW1.out, ← HGT.out]
        go_wp2_with first
          | (go_at_call 67; with_reducible refine HA.out.mono ?_; rintro e w2 ⟨rfl, HB2⟩; clear r0 r1 r2; obtain ⟨r0, r1, r2⟩ := HTC.out w2 HB2.out)
          | (go_at_call 107; with_reducible refine (H107.out _ HB2.out).mono ?_; rintro e w3 ⟨rfl, HB3⟩)
        go_ret
        exact ⟨rfl, Lib.hid (HB1.out.trans ((bstep HB2.out HB3.out).mono HB1.out.size))⟩
      · have t2 : decide (n > R) = false := by simpa using h1
        have t2' : decide (R < n) = false := by simpa using h1
        rw [if_neg h1] at her
        subst her
        clear hT hm hm9 he0 hpo hi hR h0 h1
        go_enter Try.func109, Try.ntmps109
        go_upto_region 1 with fail
        rw [← HW1.out, ← HGT.out]
        go_wp2_with first
          | (go_at_call 67; with_reducible refine HA.out.mono ?_; rintro e w2 ⟨rfl, HB2⟩; clear r0 r1 r2; obtain ⟨r0, r1, r2⟩ := HTC.out w2 HB2.out)
          | (go_at_call 107; with_reducible refine (H107.out _ HB2.out).mono ?_; rintro e w3 ⟨rfl, HB3⟩)
        go_ret
        exact ⟨rfl, Lib.hid (HB1.out.trans ((bstep HB2.out HB3.out).mono HB1.out.size))⟩
  · have ht : (e0 != 0) = true := by simpa using hz
    rw [if_pos hz] at her
    subst her
    clear hT hm hm9 hz he0
    go_enter Try.func109, Try.ntmps109
    go_upto_region 1 with fail
    rw [← HW1.out, ← HGT.out]
    go_wp2_with (go_at_call 67; with_reducible refine HA.out.mono ?_; rintro e w2 ⟨rfl, HB2⟩)
    go_ret
    exact ⟨rfl, Lib.hid (HB1.out.trans (HB2.out.mono HB1.out.size))⟩
set_option maxRecDepth 20000 in
set_option maxHeartbeats 4000000 in
theorem rspl_any (p : PrsD) (A : Option Addr) (c m : Nat) (ms : List WebM) (w : World) (hT : PrsAt w w.heap.size p A ms) (hm : m = ms.length) (hm9 : m ≤ 1000000) (i : Int) (S : List Int) (er : Int) (hS : (S, er) = splO p i) :
    Calls Try.prog 69 #[.agg #[.int .i64 p.cut, .int .i64 p.margin, .slice A m c], .int .i64 i] w fun e w' => ∃ A' c', e = .returned (.tuple #[.slice A' S.length c', .int .i64 er]) ∧ Hid (Sl encInt 1 w' w'.heap.size A' S) ∧ Hid (Below w.heap.size w w') := by
  obtain ⟨w1, gT, HW1, HGT, HB1, HTP, HTC⟩ := mp_box 131 p w A c ms w hT m hm
  obtain ⟨r0, r1, r2⟩ := HTC.out w1 (Below.refl _ _)
  obtain ⟨e0, he0⟩ : ∃ e, e = errP p := ⟨_, rfl⟩
  have HA := Lib.hid (rcheck_any p A c m ms w1 (HTP.out w1 (Below.refl _ _)) hm hm9 e0 he0)
  have hml : m = p.webs.length := by rw [hm, hT.len]
  unfold splO at hS
  rw [← he0, ← hml] at hS
  have hnil := fun (W : World) => (Sl.nil : Sl encInt 1 W W.heap.size none [])
  by_cases hz : e0 = 0
  · rw [if_neg (by simpa using hz)] at hS
    have hpo := prs_ok (he0.symm.trans hz)
    subst hz
    obtain ⟨b, hb⟩ : ∃ b, b = inB i 0 ((m : Int) - 1) := ⟨_, rfl⟩
    have H1 := Lib.hid (fun W => rin_val _ _ _ b hb W)
    have hmi : m ≤ 6 := by rw [hml]; exact hpo.n1
    have s1 : IntKind.i64.wrap ((m : Int) - 1) = (m : Int) - 1 := by rw [IntKind.wrap_i64]; omega
    rw [← hb] at hS
    cases b
    · rw [if_pos rfl] at hS
      injection hS with hS1 hS2
      subst hS1 hS2
      have HNIL := Lib.hid hnil
      clear hT hm hm9 he0 hpo hb hml hnil
      go_enter Try.func69, Try.ntmps69
      go_upto_region 1 with fail
      rw [← HW1.out, ← HGT.out]
      go_wp2_with first
        | (go_at_call 67; with_reducible refine HA.out.mono ?_; rintro e w2 ⟨rfl, HB2⟩; clear r0 r1 r2; obtain ⟨r0, r1, r2⟩ := HTC.out w2 HB2.out)
        | (go_at_call 100; with_reducible refine (H1.out _).mono ?_; rintro e wz ⟨rfl, rfl⟩)
      go_ret2
      exact ⟨none, 0, rfl, Lib.hid (HNIL.out _), Lib.hid (HB1.out.trans (HB2.out.mono HB1.out.size))⟩
    · rw [if_neg (by simp)] at hS
      have hin := inB_iff.1 hb.symm
      obtain ⟨k, rfl⟩ : ∃ k : Nat, i = (k : Int) := ⟨i.toNat, by omega⟩
      have hkp : k < p.webs.length := by omega
      have hkm : k < ms.length := by omega
      obtain ⟨v, vA, vc, bb, off, HV, HR, hba, HC⟩ := web_box HTP.out hkm hkp
      subst hba
      have hv : p.webs.getD ((k : Int)).toNat web0 = v := by rw [HV.out]; simp [hkp]
      rw [hv] at hS
      injection hS with hS1 hS2
      subst hS2
      have hwo := hpo.w p.webs[k] (List.getElem_mem hkp)
      rw [← HV.out] at hwo
      obtain ⟨nv, hnv⟩ : ∃ n, n = v.reels.length := ⟨_, rfl⟩
      have hv20 := hwo.n
      rw [← hnv] at hv20
      have hSl : S.length = nv - 1 := by rw [hS1]; unfold plcs; rw [upF_len, ← hnv]
      have HS := Lib.hid hS1
      have HSL := Lib.hid hSl
      have HC2 := Lib.hid (show ∀ W, Below w1.heap.size w1 W → W.cell? ⟨bb, off + k * 4, none⟩ = some (.slice vA nv vc) ∧ W.cell? ⟨bb, off + k * 4 + 1, none⟩ = some (.int .i64 v.off) ∧ W.cell? ⟨bb, off + k * 4 + 2, none⟩ = some (.int .i64 v.bef) ∧ W.cell? ⟨bb, off + k * 4 + 3, none⟩ = some (.int .i64 v.aft) from fun W hb => by rw [hnv]; exact HC.out W hb)
      have H108 := Lib.hid (fun W (hb : Below w1.heap.size w1 W) => ends_any v vA nv vc W hnv hv20 hwo.r (HR.out W hb))
      have i0 : (0 : Int) ≤ (k : Int) := by omega
      have i1 : (k : Int) < (m : Int) := by omega
      have HNIL := Lib.hid hnil
      have HNV := Lib.hid hnv
      clear hT hm hm9 he0 hpo hb hml hnil hin hv hS1 hwo hnv hSl HC
      by_cases hz : nv = 0
      · subst hz
        obtain rfl : S = [] := List.eq_nil_of_length_eq_zero (by rw [HSL.out])
        go_enter Try.func69, Try.ntmps69
        go_upto_region 1 with fail
        rw [← HW1.out, ← HGT.out]
        go_wp2_with first
          | (go_at_call 67; with_reducible refine HA.out.mono ?_; rintro e w2 ⟨rfl, HB2⟩; clear r0 r1 r2; obtain ⟨r0, r1, r2⟩ := HTC.out w2 HB2.out; obtain ⟨c0, c1, c2, c3⟩ := HC2.out w2 HB2.out)
          | (go_at_call 100; with_reducible refine (H1.out _).mono ?_; rintro e wz ⟨rfl, rfl⟩)
          | (go_at_call 108; with_reducible refine (H108.out _ HB2.out).mono ?_; rintro e w3 ⟨A', c', rfl, HS3, -, -, HB3⟩)
        go_ret2
        exact ⟨none, 0, rfl, Lib.hid (HNIL.out _), Lib.hid (HB1.out.trans ((bstep HB2.out HB3.out).mono HB1.out.size))⟩
      · have t1 : ((nv : Int) == 0) = false := by simpa using hz
        have s2 : IntKind.i64.wrap ((nv : Int) - 1) = ((nv - 1 : Nat) : Int) := by rw [IntKind.wrap_i64]; omega
        have s3 : (nv : Int) - 1 = ((nv - 1 : Nat) : Int) := by omega
        have hS2 : S = (upF (plcF v.reels) nv).take (nv - 1) := by
          rw [HS.out]
          unfold plcs
          rw [← HNV.out]
          obtain ⟨q, rfl⟩ : ∃ q, nv = q + 1 := ⟨nv - 1, by omega⟩
          rw [upF_succ, List.take_append_of_le_length (by rw [upF_len]; omega), List.take_of_length_le (by rw [upF_len]; omega)]
          rfl
        have HS2 := Lib.hid hS2
        have hlt : nv - 1 < nv := by omega
        have j0 : (0 : Int) ≤ ((nv - 1 : Nat) : Int) := by omega
        have hnz : 0 < nv := by omega
        clear hz hS2
        go_enter Try.func69, Try.ntmps69
        go_upto_region 1 with fail
        rw [← HW1.out, ← HGT.out]
        go_upto_region 9 with first
          | (go_at_call 67; with_reducible refine HA.out.mono ?_; rintro e w2 ⟨rfl, HB2⟩; clear r0 r1 r2; obtain ⟨r0, r1, r2⟩ := HTC.out w2 HB2.out; obtain ⟨c0, c1, c2, c3⟩ := HC2.out w2 HB2.out)
          | (go_at_call 100; with_reducible refine (H1.out _).mono ?_; rintro e wz ⟨rfl, rfl⟩)
          | (go_at_call 108; with_reducible refine (H108.out _ HB2.out).mono ?_; rintro e w3 ⟨A', c', rfl, HS3, hc3, -, HB3⟩; obtain ⟨hc3, ha3⟩ := hc3.out; obtain ⟨g3, ha3⟩ := ha3 hnz; subst ha3)
        have hc4 : ((nv - 1 : Nat) : Int) ≤ (c' : Int) := by omega
        have HSS := Lib.hid (show Sl encInt 1 w3 w3.heap.size (some ⟨g3, 0, none⟩) S from by rw [HS2.out]; exact sl_take HS3.out _)
        go_wp2_with fail
        go_ret2
        rw [← HSL.out]
        exact ⟨_, _, rfl, HSS, Lib.hid (HB1.out.trans ((bstep HB2.out HB3.out).mono HB1.out.size))⟩
  · have ht : (e0 != 0) = true := by simpa using hz
    rw [if_pos hz] at hS
    injection hS with hS1 hS2
    subst hS1 hS2
    have HNIL := Lib.hid hnil
    clear hT hm hm9 hz he0 hml hnil
    go_enter Try.func69, Try.ntmps69
    go_upto_region 1 with fail
    rw [← HW1.out, ← HGT.out]
    go_wp2_with (go_at_call 67; with_reducible refine HA.out.mono ?_; rintro e w2 ⟨rfl, HB2⟩)
    go_ret2
    exact ⟨none, 0, rfl, Lib.hid (HNIL.out _), Lib.hid (HB1.out.trans (HB2.out.mono HB1.out.size))⟩
end Go.Proofs.Ytnbnfadmbggfnaa
