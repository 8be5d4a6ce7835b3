/- Contract of the reference's Used; conditions: a press in memory. Printed by a program. -/
import Derived.Test.YtnbnfadmbggfnaaUD
set_option linter.unusedSimpArgs false
set_option linter.unusedVariables false
namespace Go.Rl
/-- what Used returns -/
def usedO (p : PrsD) (n : Int) : List (Int × Int × Int) := if askE p n 9223372036854775807 ≠ 0 then [] else useK p n p.webs.length
end Go.Rl
namespace Go.Proofs.Ytnbnfadmbggfnaa
open Go.RowKit Go.Fh Go.Rl
theorem infoUse143 : (Try.prog.info? 143).map (fun i => (i.zero, i.size, i.bytes)) = some (some (.agg #[.int .i64 0, .int .i64 0, .int .i64 0]), 3, 24) := by kernel_rfl
set_option maxRecDepth 20000 in
set_option maxHeartbeats 16000000 in
theorem rused_any (p : PrsD) (A : Option Addr) (c m : Nat) (ms : List WebM) (w : World) (hT : PrsAt w w.heap.size p A ms) (hm : m = ms.length) (hm9 : m ≤ 1000000) (n : Int) (hn : n ≤ 9223372036854775807) (er : Int) (her : er = askE p n 9223372036854775807) (U : List (Int × Int × Int)) (hU : U = usedO p n) :
    Calls Try.prog 72 #[.agg #[.int .i64 p.cut, .int .i64 p.margin, .slice A m c], .int .i64 n] w fun e w' => ∃ A' c', e = .returned (.tuple #[.slice A' U.length c', .int .i64 er]) ∧ Hid (Sl enc3 3 w' w'.heap.size A' U) ∧ Hid (Below w.heap.size w w') := by
  obtain ⟨w1, gT, HW1, HGT, HB1, HTP, HTC⟩ := mp_box 131 p w A c ms w hT m hm
  obtain ⟨r0, r1, r2⟩ := HTC.out w1 (Below.refl _ _)
  have HA := Lib.hid (rask_any p A c m ms w1 (HTP.out w1 (Below.refl _ _)) hm hm9 n hn er her)
  have hml : m = p.webs.length := by rw [hm, hT.len]
  unfold usedO at hU
  rw [← her] at hU
  by_cases hz : er = 0
  · obtain ⟨q1, q2, -, q4⟩ := ask0 (her.symm.trans hz)
    have hpo := prs_ok q1
    have hrb := rch_bd q1
    have hn6 : n ≤ 1000000 := by omega
    rw [if_neg (by simpa using hz)] at hU
    subst hz
    have hm6 := hpo.n1
    rw [← hml] at hm6
    have hc0 := hpo.c0
    have hc1 := hpo.c1
    have HUE := Lib.hid hU
    have HPO := Lib.hid hpo
    have HM := Lib.hid hm
    have HML := Lib.hid hml
    obtain ⟨i0, hi, hz0, hz1, hz2⟩ := info_parts infoUse143
    have HI := Lib.hid hi
    clear hT hm hm9 her hU q1 q4 hpo hrb hi hml hn
    go_enter Try.func72, Try.ntmps72
    go_upto_region 1 with fail
    rw [← HW1.out, ← HGT.out]
    go_wp2_with (go_at_call 109; with_reducible refine HA.out.mono ?_; rintro e w2 ⟨rfl, HB2⟩)
    clear r0 r1 r2
    go_loopw [7, 8] (fun u7 u wr => ∃ (k N0 : Nat) (A7 : Option Addr) (c7 : Nat), k ≤ m ∧ u = .int .i64 (k : Int) ∧ u7 = .slice A7 N0 c7 ∧ N0 ≤ 20 * k ∧ Hid (N0 = (useK p n k).length ∧ wr.ownsRow w1.heap.size 143 3 (.slice A7 N0 c7) N0 ((useK p n k).flatMap enc3)) ∧ Hid (Below w1.heap.size w1 wr)) (fun _ u _ => m - (intOf u).toNat)
    case atStart => exact ⟨0, 0, none, 0, Nat.zero_le _, rfl, rfl, Nat.zero_le _, Lib.hid ⟨rfl, World.ownsRow_nil _ _ _ _⟩, HB2⟩
    case round =>
      obtain ⟨k, N0, A7, c7, hk, rfl, rfl, hN0, HO, HB⟩ := hrel
      obtain ⟨r0, r1, r2⟩ := HTC.out wr HB.out
      by_cases hlt : k < m
      · have hkm : k < ms.length := by have := HM.out; omega
        have hkp : k < p.webs.length := by have := HML.out; omega
        obtain ⟨v, vA, vc, b, off, HV, HR, hba, HC⟩ := web_box HTP.out hkm hkp
        obtain ⟨c0, c1, c2, c3⟩ := HC.out _ HB.out
        subst hba
        have hwo := HPO.out.w p.webs[k] (List.getElem_mem hkp)
        have huk := useK_s n hkp
        rw [← HV.out] at hwo huk
        have ho0 := hwo.o0
        have ho1 := hwo.o1
        have hnd := ndW_bd (p := p) (n := n) (v := v) hc0 hc1 q2 hn6 ho0 ho1
        have hnd0 : ndW p n v = if 0 < n then v.off + n * p.cut else 0 := rfl
        have hv20 := hwo.n
        have HRO := Lib.hid hwo.r
        obtain ⟨nv, hnv⟩ : ∃ n, n = v.reels.length := ⟨_, rfl⟩
        rw [← hnv] at c0 hv20 huk
        have HNV := Lib.hid hnv
        obtain ⟨L0, hL0⟩ : ∃ x, x = ndW p n v := ⟨_, rfl⟩
        rw [← hL0] at hnd hnd0 huk
        have HUK := Lib.hid huk
        obtain ⟨w5, g9, HW5, HG5, hb5, HK5⟩ := wv_box 181 v vA nv vc wr
        have HB5 := Lib.hid (HB.out.trans (hb5.out.mono HB.out.size))
        have HO5 := Lib.hid (own_belowV HO.out.2 hb5.out)
        have HN0 := Lib.hid HO.out.1
        have H108 := Lib.hid (fun W (hb : Below w5.heap.size w5 W) => ends_any v vA nv vc W hnv hv20 hwo.r (HR.out W (HB5.out.trans (hb.mono HB5.out.size))))
        obtain ⟨y0, y1, y2, y3⟩ := wv_cells HK5.out
        have i0' : (0 : Int) ≤ (k : Int) := by omega
        have i1' : (k : Int) < (m : Int) := by omega
        have s1 : IntKind.i64.wrap (n * p.cut) = n * p.cut := by rw [IntKind.wrap_i64]; omega
        have s2 : IntKind.i64.wrap (v.off + n * p.cut) = v.off + n * p.cut := by rw [IntKind.wrap_i64]; omega
        clear hwo hnv hb5 hL0 huk
        go_upto_region 9 with fail
        rw [← HW5.out, ← HG5.out]
        clear c0 c1 c2 c3 r0 r1 r2
        obtain ⟨r0, r1, r2⟩ := HTC.out w5 HB5.out
        by_cases hn0 : n = 0
        · obtain rfl : L0 = 0 := by rw [hnd0, if_neg (by omega)]
          have t1 : (n == 0) = true := by simpa using hn0
          clear hn0 hnd0
          go_upto_region 14 with (go_at_call 108; with_reducible refine (H108.out _ (Below.refl _ _)).mono ?_; rintro e w6 ⟨A6, c6, rfl, -, -, HS6, HB6⟩)
          clear y0 y1 y2 y3 r0 r1 r2
          have HB16 := Lib.hid (HB5.out.trans (HB6.out.mono HB5.out.size))
          have HK6 := Lib.hid (HK5.out.below HB6.out HK5.out.lt)
          have HO6 := Lib.hid (own_belowV HO5.out HB6.out)
          · skip
            go_loopw [7, 12] (fun u7 u wq => ∃ (j N2 : Nat) (A7 : Option Addr) (c7 : Nat), j ≤ nv ∧ u = .int .i64 (j : Int) ∧ u7 = .slice A7 N2 c7 ∧ N2 ≤ 20 * k + j ∧ Hid (N2 = N0 + j) ∧ Hid (wq.ownsRow w1.heap.size 143 3 (.slice A7 N2 c7) N2 ((useK p n k ++ usW v (0 : Int) j).flatMap enc3)) ∧ Hid (Blk wq g9 181 #[.slice vA nv vc, .int .i64 v.off, .int .i64 v.bef, .int .i64 v.aft]) ∧ Hid (wq.ownsRow w5.heap.size 3 1 (.slice A6 nv c6) nv ((upF (plcF v.reels) nv).map (Value.int .i64))) ∧ Hid (Below w1.heap.size w1 wq)) (fun _ u _ => nv - (intOf u).toNat)
            case atStart => exact ⟨0, N0, A7, c7, Nat.zero_le _, rfl, rfl, by omega, Lib.hid rfl, Lib.hid (by show w6.ownsRow _ _ _ _ _ ((useK p n k ++ []).flatMap enc3); rw [List.append_nil]; exact HO6.out), HK6, HS6, HB16⟩
            case round =>
              clear HO6 HK6
              obtain ⟨j, N2, A7, c7, hj, rfl, rfl, hN2b, HN2, HO, HK, HSE, HBQ⟩ := hrel
              by_cases hltj : j < nv
              · have hjl : j < v.reels.length := by have := HNV.out; omega
                obtain ⟨b, off, hba, hbb, c0, c1, c2, c3⟩ := reel_at (HR.out _ HBQ.out) hjl
                have hro := HRO.out _ (List.getElem_mem hjl)
                have hus := usW_s (L0 := (0 : Int)) hjl
                have hue := us_eq (L0 := (0 : Int)) HRO.out (by omega) hjl
                have hgb := gsum_bd HRO.out j
                have hgb2 := gsum_bd HRO.out (j + 1)
                have hgp := gsum_pre hjl
                have HE0 := Lib.hid (fun (W : World) (hW : W.ownsRow w5.heap.size 3 1 (.slice A6 nv c6) nv ((upF (plcF v.reels) nv).map (Value.int .i64))) => int_at (own_sl (B := w5.heap.size) (c := c6) (by rw [upF_len]; exact hW) : Sl encInt 1 W W.heap.size A6 (upF (plcF v.reels) nv)) (k := j) (by rw [upF_len]; omega) (x := gsum v.reels (j + 1)) (by rw [upF_get]; rfl))
                have HE1 := Lib.hid (fun (W : World) (hj0 : 0 < j) (hW : W.ownsRow w5.heap.size 3 1 (.slice A6 nv c6) nv ((upF (plcF v.reels) nv).map (Value.int .i64))) => int_at (own_sl (B := w5.heap.size) (c := c6) (by rw [upF_len]; exact hW) : Sl encInt 1 W W.heap.size A6 (upF (plcF v.reels) nv)) (k := j - 1) (by rw [upF_len]; omega) (x := gsum v.reels j) (by rw [upF_get]; unfold plcF; rw [show j - 1 + 1 = j by omega]))
                have hG0 : j = 0 → gsum v.reels j = 0 := fun h => by rw [h]; rfl
                obtain ⟨r, hr⟩ : ∃ r, r = v.reels[j] := ⟨_, rfl⟩
                rw [← hr] at c0 c1 c2 c3 hro hus hue hgp
                have h0 := hro.c0
                have h1 := hro.c1
                have h2 := hro.l1
                obtain ⟨gj, hgj⟩ : ∃ x, x = gsum v.reels j := ⟨_, rfl⟩
                obtain ⟨gk, hgk⟩ : ∃ x, x = gsum v.reels (j + 1) := ⟨_, rfl⟩
                rw [← hgj] at hue hgb HE1 hgp hG0
                rw [← hgk] at hue hgb2 HE0 hgp
                obtain ⟨N, hN⟩ : ∃ x, x = max (min (0 : Int) gk - gj) 0 := ⟨_, rfl⟩
                rw [hue, ← hN] at hus
                have HUS := Lib.hid hus
                have hNb : 0 ≤ N ∧ N ≤ r.len := by omega
                have t1 : IntKind.i64.wrap (min (0 : Int) gk - gj) = min (0 : Int) gk - gj := by rw [IntKind.wrap_i64]; omega
                have t2 : IntKind.i64.wrap (r.len - N) = r.len - N := by rw [IntKind.wrap_i64]; omega
                have k0 : (0 : Int) ≤ (j : Int) := by omega
                have k1 : (j : Int) < (nv : Int) := by omega
                have hm1 : N2 + 1 ≤ maxLen := by simp only [maxLen]; omega
                have hm2 : (N2 + 1) * 24 ≤ 140737488355328 := by omega
                have HNE := Lib.hid hN
                have HHR := Lib.hid hr
                have HSZ := Lib.hid HBQ.out.size
                obtain ⟨y0, y1, y2, y3⟩ := wv_cells HK.out
                have HBB := Lib.hid hbb
                have HSQ := Lib.hid (show ∀ W, Below wr.heap.size wr W → (W.cell? ⟨g9, 0, none⟩ = some (.slice vA nv vc)) ∧ W.cell? ⟨b, off + j * 4, none⟩ = some (.int .i64 r.id) ∧ W.cell? ⟨b, off + j * 4 + 2, none⟩ = some (.int .i64 r.len) from fun W hW => ⟨(wv_cells (HK.out.below hW HK.out.lt)).1, (hW.cell (p := ⟨b, _, none⟩) hbb).trans c0, (hW.cell (p := ⟨b, _, none⟩) hbb).trans c2⟩)
                have HS9 := Lib.hid (show ∀ W, Below w1.heap.size w1 W → Blk W g9 181 #[.slice vA nv vc, .int .i64 v.off, .int .i64 v.bef, .int .i64 v.aft] → (W.cell? ⟨g9, 0, none⟩ = some (.slice vA nv vc)) ∧ W.cell? ⟨b, off + j * 4, none⟩ = some (.int .i64 r.id) ∧ W.cell? ⟨b, off + j * 4 + 2, none⟩ = some (.int .i64 r.len) from fun W hW hK => by
                  obtain ⟨b', off', hba', -, d0, -, d2, -⟩ := reel_at (HR.out _ hW) hjl
                  rw [hba] at hba'
                  injection hba' with e
                  injection e with e1 e2
                  subst e1 e2
                  rw [← HHR.out] at d0 d2
                  exact ⟨(wv_cells hK).1, d0, d2⟩)
                have HOW := Lib.hid (show ∀ W, Below wr.heap.size wr W → W.ownsRow w1.heap.size 143 3 (.slice A7 N2 c7) N2 ((useK p n k ++ usW v (0 : Int) j).flatMap enc3) from fun W hW => own_belowV HO.out hW)
                have HAP := Lib.hid (show ∀ W W9, Below wr.heap.size wr W → W.grownBy W9 (Value.slice A7 N2 c7).ownBlock → Below w1.heap.size w1 W9 ∧ Blk W9 g9 181 #[.slice vA nv vc, .int .i64 v.off, .int .i64 v.bef, .int .i64 v.aft] ∧ W9.ownsRow w5.heap.size 3 1 (.slice A6 nv c6) nv ((upF (plcF v.reels) nv).map (Value.int .i64)) from fun W W9 hW hg => by
                  have hb1 := bstep HBQ.out hW
                  refine ⟨hb1.grown hg hb1.size (fun q hq => (own_at HO.out hq).2), Blk.grown (HK.out.below hW HK.out.lt) hg (own_blk_ne (own_belowV HO.out hW) (HK.out.below hW HK.out.lt) (by decide)), own_kept2 (own_belowV HSE.out hW) hg (own_own_ne (own_belowV HSE.out hW) (own_belowV HO.out hW) (by decide))⟩)
                subst hba
                clear hr hgj hgk hus hue hbb hro hN hgp
                by_cases hj0 : j = 0
                · obtain rfl : gj = 0 := hG0 hj0
                  have z1 : decide ((j : Int) > 0) = false := by simp; omega
                  have z2 : decide ((0 : Int) < (j : Int)) = false := by simp; omega
                  have z2n : decide (0 < j) = false := by simp; omega
                  have z2m : ¬ 0 < j := by omega
                  clear hj0 hG0
                  have HNE0 := Lib.hid (show N = max (min (0 : Int) gk) 0 from by have := HNE.out; rw [Int.sub_zero] at this; exact this)
                  obtain ⟨b6, off6, hA6, d0⟩ := HE0.out _ HSE.out
                  subst hA6
                  go_upto_region 20 with fail
                  first | rw [← HNE.out] | rw [← HNE0.out]
                  clear d0 t1
                  refine wp_region_noPanic ?_
                  refine wp_region_held_drew (S := (fun W => (W.cell? ⟨g9, 0, none⟩ = some (.slice (some ⟨b, off, none⟩) nv vc)) ∧ W.cell? ⟨b, off + j * 4, none⟩ = some (.int .i64 r.id) ∧ W.cell? ⟨b, off + j * 4 + 2, none⟩ = some (.int .i64 r.len))) (by kernel_rfl) ?_ (fun hHeld => ?_)
                  · (try dsimp only); (exact HSQ.out _ (by repeat (with_reducible first | exact Below.refl _ _ | refine Below.drew ?_ | refine balR ?_ _)))
                  refine wpAnyH_takeD (i := 0) (v := ?_) (some 66) rfl rfl (by kernel_rfl) (by kernel_rfl) (by kernel_rfl) (fun _ _ _ h => h) (Or.inl ⟨by rfl, ?_⟩) (by assumption) ?_
                  rotate_left
                  · intro w hSw; (try dsimp only at hSw); go_simp; (try with_reducible rfl)
                  try simp only [Act.put, List.setIfInBounds_toArray, List.set_cons_zero, List.set_cons_succ]
                  refine wpAnyH_takeD (i := 1) (v := ?_) (some 67) rfl rfl (by kernel_rfl) (by kernel_rfl) (by kernel_rfl) (fun _ _ _ h => h) (Or.inl ⟨by rfl, ?_⟩) (by assumption) ?_
                  rotate_left
                  · intro w hSw; (try dsimp only at hSw); go_simp; (try with_reducible rfl)
                  try simp only [Act.put, List.setIfInBounds_toArray, List.set_cons_zero, List.set_cons_succ]
                  refine wpAnyH_takeD (i := 2) (v := ?_) (some 68) rfl rfl (by kernel_rfl) (by kernel_rfl) (by kernel_rfl) (fun _ _ _ h => h) (Or.inl ⟨by rfl, ?_⟩) (by assumption) ?_
                  rotate_left
                  · intro w hSw; (try dsimp only at hSw); go_simp; (try with_reducible rfl)
                  try simp only [Act.put, List.setIfInBounds_toArray, List.set_cons_zero, List.set_cons_succ]
                  refine wpAnyH_takeD (i := 3) (v := ?_) (some 69) rfl rfl (by kernel_rfl) (by kernel_rfl) (by kernel_rfl) (fun _ _ _ h => h) (Or.inl ⟨by rfl, ?_⟩) (by assumption) ?_
                  rotate_left
                  · intro w hSw; (try dsimp only at hSw); go_simp; (try with_reducible rfl)
                  try simp only [Act.put, List.setIfInBounds_toArray, List.set_cons_zero, List.set_cons_succ]
                  refine wpAnyH_takeD (i := 4) (v := ?_) (some 70) rfl rfl (by kernel_rfl) (by kernel_rfl) (by kernel_rfl) (fun _ _ _ h => h) (Or.inl ⟨by rfl, ?_⟩) (by assumption) ?_
                  rotate_left
                  · intro w hSw; (try dsimp only at hSw); go_simp; (try with_reducible rfl)
                  try simp only [Act.put, List.setIfInBounds_toArray, List.set_cons_zero, List.set_cons_succ]
                  refine wpAnyH_takeD (i := 5) (v := ?_) (some 71) rfl rfl (by kernel_rfl) (by kernel_rfl) (by kernel_rfl) (fun _ _ _ h => h) (Or.inl ⟨by rfl, ?_⟩) (by assumption) ?_
                  rotate_left
                  · intro w hSw; (try dsimp only at hSw); go_simp; (try with_reducible rfl)
                  try simp only [Act.put, List.setIfInBounds_toArray, List.set_cons_zero, List.set_cons_succ]
                  refine wpAnyH_takeD (i := 6) (v := ?_) (some 72) rfl rfl (by kernel_rfl) (by kernel_rfl) (by kernel_rfl) (fun _ _ _ h => h) (Or.inl ⟨by rfl, ?_⟩) (by assumption) ?_
                  rotate_left
                  · intro w hSw; (try dsimp only at hSw); go_simp; (try with_reducible rfl)
                  try simp only [Act.put, List.setIfInBounds_toArray, List.set_cons_zero, List.set_cons_succ]
                  refine wpAnyH_takeD (i := 7) (v := ?_) (some 73) rfl rfl (by kernel_rfl) (by kernel_rfl) (by kernel_rfl) (fun _ _ _ h => h) (Or.inl ⟨by rfl, ?_⟩) (by assumption) ?_
                  rotate_left
                  · intro w hSw; (try dsimp only at hSw); go_simp; (try with_reducible rfl)
                  try simp only [Act.put, List.setIfInBounds_toArray, List.set_cons_zero, List.set_cons_succ]
                  refine wpAnyH_takeD (i := 8) (v := ?_) (some 74) rfl rfl (by kernel_rfl) (by kernel_rfl) (by kernel_rfl) (fun _ _ _ h => h) (Or.inl ⟨by rfl, ?_⟩) (by assumption) ?_
                  rotate_left
                  · intro w hSw; (try dsimp only at hSw); go_simp; (try with_reducible rfl)
                  try simp only [Act.put, List.setIfInBounds_toArray, List.set_cons_zero, List.set_cons_succ]
                  refine wpAnyH_takeD (i := 9) (v := ?_) (some 75) rfl rfl (by kernel_rfl) (by kernel_rfl) (by kernel_rfl) (fun _ _ _ h => h) (Or.inl ⟨by rfl, ?_⟩) (by assumption) ?_
                  rotate_left
                  · intro w hSw; (try dsimp only at hSw); go_simp; (try with_reducible rfl)
                  try simp only [Act.put, List.setIfInBounds_toArray, List.set_cons_zero, List.set_cons_succ]
                  refine wpAnyH_takeD (i := 10) (v := ?_) (some 76) rfl rfl (by kernel_rfl) (by kernel_rfl) (by kernel_rfl) (fun _ _ _ h => h) (Or.inl ⟨by rfl, ?_⟩) (by assumption) ?_
                  rotate_left
                  · intro w hSw; (try dsimp only at hSw); go_simp; (try with_reducible rfl)
                  try simp only [Act.put, List.setIfInBounds_toArray, List.set_cons_zero, List.set_cons_succ]
                  refine wpAnyH_takeD (i := 11) (v := ?_) (some 77) rfl rfl (by kernel_rfl) (by kernel_rfl) (by kernel_rfl) (fun _ _ _ h => h) (Or.inl ⟨by rfl, ?_⟩) (by assumption) ?_
                  rotate_left
                  · intro w hSw; (try dsimp only at hSw); go_simp; (try with_reducible rfl)
                  try simp only [Act.put, List.setIfInBounds_toArray, List.set_cons_zero, List.set_cons_succ]
                  refine wpAnyH_takeD (i := 12) (v := ?_) (some 78) rfl rfl (by kernel_rfl) (by kernel_rfl) (by kernel_rfl) (fun _ _ _ h => h) (Or.inl ⟨by rfl, ?_⟩) (by assumption) ?_
                  rotate_left
                  · intro w hSw; (try dsimp only at hSw); go_simp; (try with_reducible rfl)
                  try simp only [Act.put, List.setIfInBounds_toArray, List.set_cons_zero, List.set_cons_succ]
                  refine wpAnyH_takeD (i := 13) (v := ?_) (some 79) rfl rfl (by kernel_rfl) (by kernel_rfl) (by kernel_rfl) (fun _ _ _ h => h) (Or.inl ⟨by rfl, ?_⟩) (by assumption) ?_
                  rotate_left
                  · intro w hSw; (try dsimp only at hSw); go_simp; (try with_reducible rfl)
                  try simp only [Act.put, List.setIfInBounds_toArray, List.set_cons_zero, List.set_cons_succ]
                  refine wpAnyH_takeD (i := 14) (v := ?_) (some 80) rfl rfl (by kernel_rfl) (by kernel_rfl) (by kernel_rfl) (fun _ _ _ h => h) (Or.inl ⟨by rfl, ?_⟩) (by assumption) ?_
                  rotate_left
                  · intro w hSw; (try dsimp only at hSw); go_simp; (try with_reducible rfl)
                  try simp only [Act.put, List.setIfInBounds_toArray, List.set_cons_zero, List.set_cons_succ]
                  refine wpAnyH_takeD (i := 15) (v := ?_) (some 81) rfl rfl (by kernel_rfl) (by kernel_rfl) (by kernel_rfl) (fun _ _ _ h => h) (Or.inl ⟨by rfl, ?_⟩) (by assumption) ?_
                  rotate_left
                  · intro w hSw; (try dsimp only at hSw); go_simp; (try with_reducible rfl)
                  try simp only [Act.put, List.setIfInBounds_toArray, List.set_cons_zero, List.set_cons_succ]
                  refine wpAnyH_takeD (i := 16) (v := ?_) (some 82) rfl rfl (by kernel_rfl) (by kernel_rfl) (by kernel_rfl) (fun _ _ _ h => h) (Or.inl ⟨by rfl, ?_⟩) (by assumption) ?_
                  rotate_left
                  · intro w hSw; (try dsimp only at hSw); go_simp; (try with_reducible rfl)
                  try simp only [Act.put, List.setIfInBounds_toArray, List.set_cons_zero, List.set_cons_succ]
                  refine wpAnyH_ready (rs := [17]) (by kernel_rfl) (by simp) ?_
                  refine AllReadyH.cons rfl (fun K hK => ?_) AllReadyH.nil
                  go_simp
                  refine hK.out _ _ ?_ (fun hHeld => ?_)
                  · (try dsimp only); (exact HSQ.out _ (by repeat (with_reducible first | exact Below.refl _ _ | refine Below.drew ?_ | refine balR ?_ _)))
                  clear hK K
                  try simp only [List.getElem_toArray, List.getElem_cons_succ, List.getElem_cons_zero]
                  try simp only [Act.put, List.setIfInBounds_toArray, List.set_cons_zero, List.set_cons_succ]
                  refine wpAnyH_ready (rs := [18]) (by kernel_rfl) (by simp) ?_
                  refine AllReadyH.cons rfl (fun K hK => ?_) AllReadyH.nil
                  (refine step_append_lies _ rfl (.tmp 66) (.tmp 83) 139 rfl w1.heap.size 143 i0 _ 3 24 Try.underlying139 HI.out hz0 hz1 hz2 rfl (by decide) (.slice A7 N2 c7) N2 ((useK p n k ++ usW v (0 : Int) j).flatMap enc3) (by rfl) (HOW.out _ (by repeat (with_reducible first | exact Below.refl _ _ | refine Below.drew ?_ | refine balR ?_ _))) _ 1 1 [.int .i64 r.id, .int .i64 N, .int .i64 (r.len - N)] (by rfl) rfl (World.news_of_block (cs := #[.int .i64 r.id, .int .i64 N, .int .i64 (r.len - N)]) (t := 143) (fr := (0, 0)) (by show Blk _ _ 143 #[.int .i64 r.id, .int .i64 N, .int .i64 (r.len - N)]; repeat (first | exact Blk.new _ _ _ | refine Blk.drew ?_))) (by intro u hu; simp at hu; rcases hu with rfl | rfl | rfl <;> rfl) (by decide) hm1 hm2 (by have := HSZ.out; simp; omega) _ rfl ?_; intro g9' cap9 w9 hown9 hgrow9 hat9 hlt9; have h9 := HAP.out _ w9 (by repeat (with_reducible first | exact Below.refl _ _ | refine Below.drew ?_ | refine balR ?_ _)) hgrow9; have H9 := Lib.hid h9; have HO9 := Lib.hid hown9; clear h9 hgrow9 hown9 hat9 hlt9)
                  refine hK.out _ _ ?_ (fun hHeld => ?_)
                  · (try dsimp only); (exact HS9.out _ H9.out.1 H9.out.2.1)
                  clear hK K
                  try simp only [List.getElem_toArray, List.getElem_cons_succ, List.getElem_cons_zero]
                  try simp only [Act.put, List.setIfInBounds_toArray, List.set_cons_zero, List.set_cons_succ]
                  refine wpAnyH_takeD (i := 19) (v := ?_) (some 7) rfl rfl (by kernel_rfl) (by kernel_rfl) (by kernel_rfl) (fun _ _ _ h => h) (Or.inl ⟨by rfl, ?_⟩) (by assumption) ?_
                  rotate_left
                  · intro w hSw; (try dsimp only at hSw); go_simp; (try with_reducible rfl)
                  try simp only [Act.put, List.setIfInBounds_toArray, List.set_cons_zero, List.set_cons_succ]
                  refine wpAnyH_done (by kernel_rfl) ?_ _
                  refine NoPanic.normal ?_
                  go_wp2_with fail
                  go_roundw
                  case rel =>
                    refine ⟨j + 1, N2 + 1, some ⟨g9', 0, none⟩, cap9, by omega, by go_num, rfl, by omega, Lib.hid (by have := HN2.out; omega), Lib.hid ?_, Lib.hid H9.out.2.1, Lib.hid H9.out.2.2, Lib.hid H9.out.1⟩
                    rw [HUS.out, ← List.append_assoc, List.flatMap_append]
                    simpa [usE, enc3] using HO9.out
                  case measure => simp [intOf]; omega
                · have z1 : decide ((j : Int) > 0) = true := by simp; omega
                  have z2 : decide ((0 : Int) < (j : Int)) = true := by simp; omega
                  have z2n : decide (0 < j) = true := by simp; omega
                  have z2m : 0 < j := by omega
                  have z3 : IntKind.i64.wrap ((j : Int) - 1) = (j : Int) - 1 := by rw [IntKind.wrap_i64]; omega
                  have z4 : (0 : Int) ≤ (j : Int) - 1 := by omega
                  have z5 : (j : Int) - 1 < (nv : Int) := by omega
                  have z6 : (1 : Int) ≤ (j : Int) := by omega
                  have z7 : 1 ≤ j := by omega
                  obtain ⟨b6, off6, hA6, d0⟩ := HE0.out _ HSE.out
                  obtain ⟨b7, off7, hA7, d1⟩ := HE1.out _ (by omega) HSE.out
                  subst hA6
                  injection hA7 with e
                  injection e with e1 e2
                  subst e1 e2
                  clear hj0 hG0
                  go_upto_region 20 with fail
                  first | rw [← HNE.out] | rw [← HNE0.out]
                  clear d0 t1
                  refine wp_region_noPanic ?_
                  refine wp_region_held_drew (S := (fun W => (W.cell? ⟨g9, 0, none⟩ = some (.slice (some ⟨b, off, none⟩) nv vc)) ∧ W.cell? ⟨b, off + j * 4, none⟩ = some (.int .i64 r.id) ∧ W.cell? ⟨b, off + j * 4 + 2, none⟩ = some (.int .i64 r.len))) (by kernel_rfl) ?_ (fun hHeld => ?_)
                  · (try dsimp only); (exact HSQ.out _ (by repeat (with_reducible first | exact Below.refl _ _ | refine Below.drew ?_ | refine balR ?_ _)))
                  refine wpAnyH_takeD (i := 0) (v := ?_) (some 66) rfl rfl (by kernel_rfl) (by kernel_rfl) (by kernel_rfl) (fun _ _ _ h => h) (Or.inl ⟨by rfl, ?_⟩) (by assumption) ?_
                  rotate_left
                  · intro w hSw; (try dsimp only at hSw); go_simp; (try with_reducible rfl)
                  try simp only [Act.put, List.setIfInBounds_toArray, List.set_cons_zero, List.set_cons_succ]
                  refine wpAnyH_takeD (i := 1) (v := ?_) (some 67) rfl rfl (by kernel_rfl) (by kernel_rfl) (by kernel_rfl) (fun _ _ _ h => h) (Or.inl ⟨by rfl, ?_⟩) (by assumption) ?_
                  rotate_left
                  · intro w hSw; (try dsimp only at hSw); go_simp; (try with_reducible rfl)
                  try simp only [Act.put, List.setIfInBounds_toArray, List.set_cons_zero, List.set_cons_succ]
                  refine wpAnyH_takeD (i := 2) (v := ?_) (some 68) rfl rfl (by kernel_rfl) (by kernel_rfl) (by kernel_rfl) (fun _ _ _ h => h) (Or.inl ⟨by rfl, ?_⟩) (by assumption) ?_
                  rotate_left
                  · intro w hSw; (try dsimp only at hSw); go_simp; (try with_reducible rfl)
                  try simp only [Act.put, List.setIfInBounds_toArray, List.set_cons_zero, List.set_cons_succ]
                  refine wpAnyH_takeD (i := 3) (v := ?_) (some 69) rfl rfl (by kernel_rfl) (by kernel_rfl) (by kernel_rfl) (fun _ _ _ h => h) (Or.inl ⟨by rfl, ?_⟩) (by assumption) ?_
                  rotate_left
                  · intro w hSw; (try dsimp only at hSw); go_simp; (try with_reducible rfl)
                  try simp only [Act.put, List.setIfInBounds_toArray, List.set_cons_zero, List.set_cons_succ]
                  refine wpAnyH_takeD (i := 4) (v := ?_) (some 70) rfl rfl (by kernel_rfl) (by kernel_rfl) (by kernel_rfl) (fun _ _ _ h => h) (Or.inl ⟨by rfl, ?_⟩) (by assumption) ?_
                  rotate_left
                  · intro w hSw; (try dsimp only at hSw); go_simp; (try with_reducible rfl)
                  try simp only [Act.put, List.setIfInBounds_toArray, List.set_cons_zero, List.set_cons_succ]
                  refine wpAnyH_takeD (i := 5) (v := ?_) (some 71) rfl rfl (by kernel_rfl) (by kernel_rfl) (by kernel_rfl) (fun _ _ _ h => h) (Or.inl ⟨by rfl, ?_⟩) (by assumption) ?_
                  rotate_left
                  · intro w hSw; (try dsimp only at hSw); go_simp; (try with_reducible rfl)
                  try simp only [Act.put, List.setIfInBounds_toArray, List.set_cons_zero, List.set_cons_succ]
                  refine wpAnyH_takeD (i := 6) (v := ?_) (some 72) rfl rfl (by kernel_rfl) (by kernel_rfl) (by kernel_rfl) (fun _ _ _ h => h) (Or.inl ⟨by rfl, ?_⟩) (by assumption) ?_
                  rotate_left
                  · intro w hSw; (try dsimp only at hSw); go_simp; (try with_reducible rfl)
                  try simp only [Act.put, List.setIfInBounds_toArray, List.set_cons_zero, List.set_cons_succ]
                  refine wpAnyH_takeD (i := 7) (v := ?_) (some 73) rfl rfl (by kernel_rfl) (by kernel_rfl) (by kernel_rfl) (fun _ _ _ h => h) (Or.inl ⟨by rfl, ?_⟩) (by assumption) ?_
                  rotate_left
                  · intro w hSw; (try dsimp only at hSw); go_simp; (try with_reducible rfl)
                  try simp only [Act.put, List.setIfInBounds_toArray, List.set_cons_zero, List.set_cons_succ]
                  refine wpAnyH_takeD (i := 8) (v := ?_) (some 74) rfl rfl (by kernel_rfl) (by kernel_rfl) (by kernel_rfl) (fun _ _ _ h => h) (Or.inl ⟨by rfl, ?_⟩) (by assumption) ?_
                  rotate_left
                  · intro w hSw; (try dsimp only at hSw); go_simp; (try with_reducible rfl)
                  try simp only [Act.put, List.setIfInBounds_toArray, List.set_cons_zero, List.set_cons_succ]
                  refine wpAnyH_takeD (i := 9) (v := ?_) (some 75) rfl rfl (by kernel_rfl) (by kernel_rfl) (by kernel_rfl) (fun _ _ _ h => h) (Or.inl ⟨by rfl, ?_⟩) (by assumption) ?_
                  rotate_left
                  · intro w hSw; (try dsimp only at hSw); go_simp; (try with_reducible rfl)
                  try simp only [Act.put, List.setIfInBounds_toArray, List.set_cons_zero, List.set_cons_succ]
                  refine wpAnyH_takeD (i := 10) (v := ?_) (some 76) rfl rfl (by kernel_rfl) (by kernel_rfl) (by kernel_rfl) (fun _ _ _ h => h) (Or.inl ⟨by rfl, ?_⟩) (by assumption) ?_
                  rotate_left
                  · intro w hSw; (try dsimp only at hSw); go_simp; (try with_reducible rfl)
                  try simp only [Act.put, List.setIfInBounds_toArray, List.set_cons_zero, List.set_cons_succ]
                  refine wpAnyH_takeD (i := 11) (v := ?_) (some 77) rfl rfl (by kernel_rfl) (by kernel_rfl) (by kernel_rfl) (fun _ _ _ h => h) (Or.inl ⟨by rfl, ?_⟩) (by assumption) ?_
                  rotate_left
                  · intro w hSw; (try dsimp only at hSw); go_simp; (try with_reducible rfl)
                  try simp only [Act.put, List.setIfInBounds_toArray, List.set_cons_zero, List.set_cons_succ]
                  refine wpAnyH_takeD (i := 12) (v := ?_) (some 78) rfl rfl (by kernel_rfl) (by kernel_rfl) (by kernel_rfl) (fun _ _ _ h => h) (Or.inl ⟨by rfl, ?_⟩) (by assumption) ?_
                  rotate_left
                  · intro w hSw; (try dsimp only at hSw); go_simp; (try with_reducible rfl)
                  try simp only [Act.put, List.setIfInBounds_toArray, List.set_cons_zero, List.set_cons_succ]
                  refine wpAnyH_takeD (i := 13) (v := ?_) (some 79) rfl rfl (by kernel_rfl) (by kernel_rfl) (by kernel_rfl) (fun _ _ _ h => h) (Or.inl ⟨by rfl, ?_⟩) (by assumption) ?_
                  rotate_left
                  · intro w hSw; (try dsimp only at hSw); go_simp; (try with_reducible rfl)
                  try simp only [Act.put, List.setIfInBounds_toArray, List.set_cons_zero, List.set_cons_succ]
                  refine wpAnyH_takeD (i := 14) (v := ?_) (some 80) rfl rfl (by kernel_rfl) (by kernel_rfl) (by kernel_rfl) (fun _ _ _ h => h) (Or.inl ⟨by rfl, ?_⟩) (by assumption) ?_
                  rotate_left
                  · intro w hSw; (try dsimp only at hSw); go_simp; (try with_reducible rfl)
                  try simp only [Act.put, List.setIfInBounds_toArray, List.set_cons_zero, List.set_cons_succ]
                  refine wpAnyH_takeD (i := 15) (v := ?_) (some 81) rfl rfl (by kernel_rfl) (by kernel_rfl) (by kernel_rfl) (fun _ _ _ h => h) (Or.inl ⟨by rfl, ?_⟩) (by assumption) ?_
                  rotate_left
                  · intro w hSw; (try dsimp only at hSw); go_simp; (try with_reducible rfl)
                  try simp only [Act.put, List.setIfInBounds_toArray, List.set_cons_zero, List.set_cons_succ]
                  refine wpAnyH_takeD (i := 16) (v := ?_) (some 82) rfl rfl (by kernel_rfl) (by kernel_rfl) (by kernel_rfl) (fun _ _ _ h => h) (Or.inl ⟨by rfl, ?_⟩) (by assumption) ?_
                  rotate_left
                  · intro w hSw; (try dsimp only at hSw); go_simp; (try with_reducible rfl)
                  try simp only [Act.put, List.setIfInBounds_toArray, List.set_cons_zero, List.set_cons_succ]
                  refine wpAnyH_ready (rs := [17]) (by kernel_rfl) (by simp) ?_
                  refine AllReadyH.cons rfl (fun K hK => ?_) AllReadyH.nil
                  go_simp
                  refine hK.out _ _ ?_ (fun hHeld => ?_)
                  · (try dsimp only); (exact HSQ.out _ (by repeat (with_reducible first | exact Below.refl _ _ | refine Below.drew ?_ | refine balR ?_ _)))
                  clear hK K
                  try simp only [List.getElem_toArray, List.getElem_cons_succ, List.getElem_cons_zero]
                  try simp only [Act.put, List.setIfInBounds_toArray, List.set_cons_zero, List.set_cons_succ]
                  refine wpAnyH_ready (rs := [18]) (by kernel_rfl) (by simp) ?_
                  refine AllReadyH.cons rfl (fun K hK => ?_) AllReadyH.nil
                  (refine step_append_lies _ rfl (.tmp 66) (.tmp 83) 139 rfl w1.heap.size 143 i0 _ 3 24 Try.underlying139 HI.out hz0 hz1 hz2 rfl (by decide) (.slice A7 N2 c7) N2 ((useK p n k ++ usW v (0 : Int) j).flatMap enc3) (by rfl) (HOW.out _ (by repeat (with_reducible first | exact Below.refl _ _ | refine Below.drew ?_ | refine balR ?_ _))) _ 1 1 [.int .i64 r.id, .int .i64 N, .int .i64 (r.len - N)] (by rfl) rfl (World.news_of_block (cs := #[.int .i64 r.id, .int .i64 N, .int .i64 (r.len - N)]) (t := 143) (fr := (0, 0)) (by show Blk _ _ 143 #[.int .i64 r.id, .int .i64 N, .int .i64 (r.len - N)]; repeat (first | exact Blk.new _ _ _ | refine Blk.drew ?_))) (by intro u hu; simp at hu; rcases hu with rfl | rfl | rfl <;> rfl) (by decide) hm1 hm2 (by have := HSZ.out; simp; omega) _ rfl ?_; intro g9' cap9 w9 hown9 hgrow9 hat9 hlt9; have h9 := HAP.out _ w9 (by repeat (with_reducible first | exact Below.refl _ _ | refine Below.drew ?_ | refine balR ?_ _)) hgrow9; have H9 := Lib.hid h9; have HO9 := Lib.hid hown9; clear h9 hgrow9 hown9 hat9 hlt9)
                  refine hK.out _ _ ?_ (fun hHeld => ?_)
                  · (try dsimp only); (exact HS9.out _ H9.out.1 H9.out.2.1)
                  clear hK K
                  try simp only [List.getElem_toArray, List.getElem_cons_succ, List.getElem_cons_zero]
                  try simp only [Act.put, List.setIfInBounds_toArray, List.set_cons_zero, List.set_cons_succ]
                  refine wpAnyH_takeD (i := 19) (v := ?_) (some 7) rfl rfl (by kernel_rfl) (by kernel_rfl) (by kernel_rfl) (fun _ _ _ h => h) (Or.inl ⟨by rfl, ?_⟩) (by assumption) ?_
                  rotate_left
                  · intro w hSw; (try dsimp only at hSw); go_simp; (try with_reducible rfl)
                  try simp only [Act.put, List.setIfInBounds_toArray, List.set_cons_zero, List.set_cons_succ]
                  refine wpAnyH_done (by kernel_rfl) ?_ _
                  refine NoPanic.normal ?_
                  go_wp2_with fail
                  go_roundw
                  case rel =>
                    refine ⟨j + 1, N2 + 1, some ⟨g9', 0, none⟩, cap9, by omega, by go_num, rfl, by omega, Lib.hid (by have := HN2.out; omega), Lib.hid ?_, Lib.hid H9.out.2.1, Lib.hid H9.out.2.2, Lib.hid H9.out.1⟩
                    rw [HUS.out, ← List.append_assoc, List.flatMap_append]
                    simpa [usE, enc3] using HO9.out
                  case measure => simp [intOf]; omega
              · obtain rfl : j = nv := by omega
                go_wp2_with fail
                go_roundw
                case rel =>
                  refine ⟨k + 1, N2, A7, c7, by omega, by go_num, rfl, by omega, Lib.hid ⟨?_, ?_⟩, HBQ⟩
                  · rw [HUK.out, List.length_append, usW_len, ← HN0.out]; exact HN2.out
                  · rw [HUK.out]; exact HO.out
                case measure => simp [intOf]; omega
        · have hL0 : L0 = v.off + n * p.cut := by rw [hnd0, if_pos (by omega)]
          have t1 : (n == 0) = false := by simpa using hn0
          clear hn0 hnd0
          go_upto_region 14 with (go_at_call 108; with_reducible refine (H108.out _ (Below.refl _ _)).mono ?_; rintro e w6 ⟨A6, c6, rfl, -, -, HS6, HB6⟩)
          clear y0 y1 y2 y3 r0 r1 r2
          have HB16 := Lib.hid (HB5.out.trans (HB6.out.mono HB5.out.size))
          have HK6 := Lib.hid (HK5.out.below HB6.out HK5.out.lt)
          have HO6 := Lib.hid (own_belowV HO5.out HB6.out)
          rw [← hL0]
          clear hL0
          · skip
            go_loopw [7, 12] (fun u7 u wq => ∃ (j N2 : Nat) (A7 : Option Addr) (c7 : Nat), j ≤ nv ∧ u = .int .i64 (j : Int) ∧ u7 = .slice A7 N2 c7 ∧ N2 ≤ 20 * k + j ∧ Hid (N2 = N0 + j) ∧ Hid (wq.ownsRow w1.heap.size 143 3 (.slice A7 N2 c7) N2 ((useK p n k ++ usW v L0 j).flatMap enc3)) ∧ Hid (Blk wq g9 181 #[.slice vA nv vc, .int .i64 v.off, .int .i64 v.bef, .int .i64 v.aft]) ∧ Hid (wq.ownsRow w5.heap.size 3 1 (.slice A6 nv c6) nv ((upF (plcF v.reels) nv).map (Value.int .i64))) ∧ Hid (Below w1.heap.size w1 wq)) (fun _ u _ => nv - (intOf u).toNat)
            case atStart => exact ⟨0, N0, A7, c7, Nat.zero_le _, rfl, rfl, by omega, Lib.hid rfl, Lib.hid (by show w6.ownsRow _ _ _ _ _ ((useK p n k ++ []).flatMap enc3); rw [List.append_nil]; exact HO6.out), HK6, HS6, HB16⟩
            case round =>
              clear HO6 HK6
              obtain ⟨j, N2, A7, c7, hj, rfl, rfl, hN2b, HN2, HO, HK, HSE, HBQ⟩ := hrel
              by_cases hltj : j < nv
              · have hjl : j < v.reels.length := by have := HNV.out; omega
                obtain ⟨b, off, hba, hbb, c0, c1, c2, c3⟩ := reel_at (HR.out _ HBQ.out) hjl
                have hro := HRO.out _ (List.getElem_mem hjl)
                have hus := usW_s (L0 := L0) hjl
                have hue := us_eq (L0 := L0) HRO.out (by omega) hjl
                have hgb := gsum_bd HRO.out j
                have hgb2 := gsum_bd HRO.out (j + 1)
                have hgp := gsum_pre hjl
                have HE0 := Lib.hid (fun (W : World) (hW : W.ownsRow w5.heap.size 3 1 (.slice A6 nv c6) nv ((upF (plcF v.reels) nv).map (Value.int .i64))) => int_at (own_sl (B := w5.heap.size) (c := c6) (by rw [upF_len]; exact hW) : Sl encInt 1 W W.heap.size A6 (upF (plcF v.reels) nv)) (k := j) (by rw [upF_len]; omega) (x := gsum v.reels (j + 1)) (by rw [upF_get]; rfl))
                have HE1 := Lib.hid (fun (W : World) (hj0 : 0 < j) (hW : W.ownsRow w5.heap.size 3 1 (.slice A6 nv c6) nv ((upF (plcF v.reels) nv).map (Value.int .i64))) => int_at (own_sl (B := w5.heap.size) (c := c6) (by rw [upF_len]; exact hW) : Sl encInt 1 W W.heap.size A6 (upF (plcF v.reels) nv)) (k := j - 1) (by rw [upF_len]; omega) (x := gsum v.reels j) (by rw [upF_get]; unfold plcF; rw [show j - 1 + 1 = j by omega]))
                have hG0 : j = 0 → gsum v.reels j = 0 := fun h => by rw [h]; rfl
                obtain ⟨r, hr⟩ : ∃ r, r = v.reels[j] := ⟨_, rfl⟩
                rw [← hr] at c0 c1 c2 c3 hro hus hue hgp
                have h0 := hro.c0
                have h1 := hro.c1
                have h2 := hro.l1
                obtain ⟨gj, hgj⟩ : ∃ x, x = gsum v.reels j := ⟨_, rfl⟩
                obtain ⟨gk, hgk⟩ : ∃ x, x = gsum v.reels (j + 1) := ⟨_, rfl⟩
                rw [← hgj] at hue hgb HE1 hgp hG0
                rw [← hgk] at hue hgb2 HE0 hgp
                obtain ⟨N, hN⟩ : ∃ x, x = max (min L0 gk - gj) 0 := ⟨_, rfl⟩
                rw [hue, ← hN] at hus
                have HUS := Lib.hid hus
                have hNb : 0 ≤ N ∧ N ≤ r.len := by omega
                have t1 : IntKind.i64.wrap (min L0 gk - gj) = min L0 gk - gj := by rw [IntKind.wrap_i64]; omega
                have t2 : IntKind.i64.wrap (r.len - N) = r.len - N := by rw [IntKind.wrap_i64]; omega
                have k0 : (0 : Int) ≤ (j : Int) := by omega
                have k1 : (j : Int) < (nv : Int) := by omega
                have hm1 : N2 + 1 ≤ maxLen := by simp only [maxLen]; omega
                have hm2 : (N2 + 1) * 24 ≤ 140737488355328 := by omega
                have HNE := Lib.hid hN
                have HHR := Lib.hid hr
                have HSZ := Lib.hid HBQ.out.size
                obtain ⟨y0, y1, y2, y3⟩ := wv_cells HK.out
                have HBB := Lib.hid hbb
                have HSQ := Lib.hid (show ∀ W, Below wr.heap.size wr W → (W.cell? ⟨g9, 0, none⟩ = some (.slice vA nv vc)) ∧ W.cell? ⟨b, off + j * 4, none⟩ = some (.int .i64 r.id) ∧ W.cell? ⟨b, off + j * 4 + 2, none⟩ = some (.int .i64 r.len) from fun W hW => ⟨(wv_cells (HK.out.below hW HK.out.lt)).1, (hW.cell (p := ⟨b, _, none⟩) hbb).trans c0, (hW.cell (p := ⟨b, _, none⟩) hbb).trans c2⟩)
                have HS9 := Lib.hid (show ∀ W, Below w1.heap.size w1 W → Blk W g9 181 #[.slice vA nv vc, .int .i64 v.off, .int .i64 v.bef, .int .i64 v.aft] → (W.cell? ⟨g9, 0, none⟩ = some (.slice vA nv vc)) ∧ W.cell? ⟨b, off + j * 4, none⟩ = some (.int .i64 r.id) ∧ W.cell? ⟨b, off + j * 4 + 2, none⟩ = some (.int .i64 r.len) from fun W hW hK => by
                  obtain ⟨b', off', hba', -, d0, -, d2, -⟩ := reel_at (HR.out _ hW) hjl
                  rw [hba] at hba'
                  injection hba' with e
                  injection e with e1 e2
                  subst e1 e2
                  rw [← HHR.out] at d0 d2
                  exact ⟨(wv_cells hK).1, d0, d2⟩)
                have HOW := Lib.hid (show ∀ W, Below wr.heap.size wr W → W.ownsRow w1.heap.size 143 3 (.slice A7 N2 c7) N2 ((useK p n k ++ usW v L0 j).flatMap enc3) from fun W hW => own_belowV HO.out hW)
                have HAP := Lib.hid (show ∀ W W9, Below wr.heap.size wr W → W.grownBy W9 (Value.slice A7 N2 c7).ownBlock → Below w1.heap.size w1 W9 ∧ Blk W9 g9 181 #[.slice vA nv vc, .int .i64 v.off, .int .i64 v.bef, .int .i64 v.aft] ∧ W9.ownsRow w5.heap.size 3 1 (.slice A6 nv c6) nv ((upF (plcF v.reels) nv).map (Value.int .i64)) from fun W W9 hW hg => by
                  have hb1 := bstep HBQ.out hW
                  refine ⟨hb1.grown hg hb1.size (fun q hq => (own_at HO.out hq).2), Blk.grown (HK.out.below hW HK.out.lt) hg (own_blk_ne (own_belowV HO.out hW) (HK.out.below hW HK.out.lt) (by decide)), own_kept2 (own_belowV HSE.out hW) hg (own_own_ne (own_belowV HSE.out hW) (own_belowV HO.out hW) (by decide))⟩)
                subst hba
                clear hr hgj hgk hus hue hbb hro hN hgp
                by_cases hj0 : j = 0
                · obtain rfl : gj = 0 := hG0 hj0
                  have z1 : decide ((j : Int) > 0) = false := by simp; omega
                  have z2 : decide ((0 : Int) < (j : Int)) = false := by simp; omega
                  have z2n : decide (0 < j) = false := by simp; omega
                  have z2m : ¬ 0 < j := by omega
                  clear hj0 hG0
                  have HNE0 := Lib.hid (show N = max (min L0 gk) 0 from by have := HNE.out; rw [Int.sub_zero] at this; exact this)
                  obtain ⟨b6, off6, hA6, d0⟩ := HE0.out _ HSE.out
                  subst hA6
                  go_upto_region 20 with fail
                  first | rw [← HNE.out] | rw [← HNE0.out]
                  clear d0 t1
                  refine wp_region_noPanic ?_
                  refine wp_region_held_drew (S := (fun W => (W.cell? ⟨g9, 0, none⟩ = some (.slice (some ⟨b, off, none⟩) nv vc)) ∧ W.cell? ⟨b, off + j * 4, none⟩ = some (.int .i64 r.id) ∧ W.cell? ⟨b, off + j * 4 + 2, none⟩ = some (.int .i64 r.len))) (by kernel_rfl) ?_ (fun hHeld => ?_)
                  · (try dsimp only); (exact HSQ.out _ (by repeat (with_reducible first | exact Below.refl _ _ | refine Below.drew ?_ | refine balR ?_ _)))
                  refine wpAnyH_takeD (i := 0) (v := ?_) (some 66) rfl rfl (by kernel_rfl) (by kernel_rfl) (by kernel_rfl) (fun _ _ _ h => h) (Or.inl ⟨by rfl, ?_⟩) (by assumption) ?_
                  rotate_left
                  · intro w hSw; (try dsimp only at hSw); go_simp; (try with_reducible rfl)
                  try simp only [Act.put, List.setIfInBounds_toArray, List.set_cons_zero, List.set_cons_succ]
                  refine wpAnyH_takeD (i := 1) (v := ?_) (some 67) rfl rfl (by kernel_rfl) (by kernel_rfl) (by kernel_rfl) (fun _ _ _ h => h) (Or.inl ⟨by rfl, ?_⟩) (by assumption) ?_
                  rotate_left
                  · intro w hSw; (try dsimp only at hSw); go_simp; (try with_reducible rfl)
                  try simp only [Act.put, List.setIfInBounds_toArray, List.set_cons_zero, List.set_cons_succ]
                  refine wpAnyH_takeD (i := 2) (v := ?_) (some 68) rfl rfl (by kernel_rfl) (by kernel_rfl) (by kernel_rfl) (fun _ _ _ h => h) (Or.inl ⟨by rfl, ?_⟩) (by assumption) ?_
                  rotate_left
                  · intro w hSw; (try dsimp only at hSw); go_simp; (try with_reducible rfl)
                  try simp only [Act.put, List.setIfInBounds_toArray, List.set_cons_zero, List.set_cons_succ]
                  refine wpAnyH_takeD (i := 3) (v := ?_) (some 69) rfl rfl (by kernel_rfl) (by kernel_rfl) (by kernel_rfl) (fun _ _ _ h => h) (Or.inl ⟨by rfl, ?_⟩) (by assumption) ?_
                  rotate_left
                  · intro w hSw; (try dsimp only at hSw); go_simp; (try with_reducible rfl)
                  try simp only [Act.put, List.setIfInBounds_toArray, List.set_cons_zero, List.set_cons_succ]
                  refine wpAnyH_takeD (i := 4) (v := ?_) (some 70) rfl rfl (by kernel_rfl) (by kernel_rfl) (by kernel_rfl) (fun _ _ _ h => h) (Or.inl ⟨by rfl, ?_⟩) (by assumption) ?_
                  rotate_left
                  · intro w hSw; (try dsimp only at hSw); go_simp; (try with_reducible rfl)
                  try simp only [Act.put, List.setIfInBounds_toArray, List.set_cons_zero, List.set_cons_succ]
                  refine wpAnyH_takeD (i := 5) (v := ?_) (some 71) rfl rfl (by kernel_rfl) (by kernel_rfl) (by kernel_rfl) (fun _ _ _ h => h) (Or.inl ⟨by rfl, ?_⟩) (by assumption) ?_
                  rotate_left
                  · intro w hSw; (try dsimp only at hSw); go_simp; (try with_reducible rfl)
                  try simp only [Act.put, List.setIfInBounds_toArray, List.set_cons_zero, List.set_cons_succ]
                  refine wpAnyH_takeD (i := 6) (v := ?_) (some 72) rfl rfl (by kernel_rfl) (by kernel_rfl) (by kernel_rfl) (fun _ _ _ h => h) (Or.inl ⟨by rfl, ?_⟩) (by assumption) ?_
                  rotate_left
                  · intro w hSw; (try dsimp only at hSw); go_simp; (try with_reducible rfl)
                  try simp only [Act.put, List.setIfInBounds_toArray, List.set_cons_zero, List.set_cons_succ]
                  refine wpAnyH_takeD (i := 7) (v := ?_) (some 73) rfl rfl (by kernel_rfl) (by kernel_rfl) (by kernel_rfl) (fun _ _ _ h => h) (Or.inl ⟨by rfl, ?_⟩) (by assumption) ?_
                  rotate_left
                  · intro w hSw; (try dsimp only at hSw); go_simp; (try with_reducible rfl)
                  try simp only [Act.put, List.setIfInBounds_toArray, List.set_cons_zero, List.set_cons_succ]
                  refine wpAnyH_takeD (i := 8) (v := ?_) (some 74) rfl rfl (by kernel_rfl) (by kernel_rfl) (by kernel_rfl) (fun _ _ _ h => h) (Or.inl ⟨by rfl, ?_⟩) (by assumption) ?_
                  rotate_left
                  · intro w hSw; (try dsimp only at hSw); go_simp; (try with_reducible rfl)
                  try simp only [Act.put, List.setIfInBounds_toArray, List.set_cons_zero, List.set_cons_succ]
                  refine wpAnyH_takeD (i := 9) (v := ?_) (some 75) rfl rfl (by kernel_rfl) (by kernel_rfl) (by kernel_rfl) (fun _ _ _ h => h) (Or.inl ⟨by rfl, ?_⟩) (by assumption) ?_
                  rotate_left
                  · intro w hSw; (try dsimp only at hSw); go_simp; (try with_reducible rfl)
                  try simp only [Act.put, List.setIfInBounds_toArray, List.set_cons_zero, List.set_cons_succ]
                  refine wpAnyH_takeD (i := 10) (v := ?_) (some 76) rfl rfl (by kernel_rfl) (by kernel_rfl) (by kernel_rfl) (fun _ _ _ h => h) (Or.inl ⟨by rfl, ?_⟩) (by assumption) ?_
                  rotate_left
                  · intro w hSw; (try dsimp only at hSw); go_simp; (try with_reducible rfl)
                  try simp only [Act.put, List.setIfInBounds_toArray, List.set_cons_zero, List.set_cons_succ]
                  refine wpAnyH_takeD (i := 11) (v := ?_) (some 77) rfl rfl (by kernel_rfl) (by kernel_rfl) (by kernel_rfl) (fun _ _ _ h => h) (Or.inl ⟨by rfl, ?_⟩) (by assumption) ?_
                  rotate_left
                  · intro w hSw; (try dsimp only at hSw); go_simp; (try with_reducible rfl)
                  try simp only [Act.put, List.setIfInBounds_toArray, List.set_cons_zero, List.set_cons_succ]
                  refine wpAnyH_takeD (i := 12) (v := ?_) (some 78) rfl rfl (by kernel_rfl) (by kernel_rfl) (by kernel_rfl) (fun _ _ _ h => h) (Or.inl ⟨by rfl, ?_⟩) (by assumption) ?_
                  rotate_left
                  · intro w hSw; (try dsimp only at hSw); go_simp; (try with_reducible rfl)
                  try simp only [Act.put, List.setIfInBounds_toArray, List.set_cons_zero, List.set_cons_succ]
                  refine wpAnyH_takeD (i := 13) (v := ?_) (some 79) rfl rfl (by kernel_rfl) (by kernel_rfl) (by kernel_rfl) (fun _ _ _ h => h) (Or.inl ⟨by rfl, ?_⟩) (by assumption) ?_
                  rotate_left
                  · intro w hSw; (try dsimp only at hSw); go_simp; (try with_reducible rfl)
                  try simp only [Act.put, List.setIfInBounds_toArray, List.set_cons_zero, List.set_cons_succ]
                  refine wpAnyH_takeD (i := 14) (v := ?_) (some 80) rfl rfl (by kernel_rfl) (by kernel_rfl) (by kernel_rfl) (fun _ _ _ h => h) (Or.inl ⟨by rfl, ?_⟩) (by assumption) ?_
                  rotate_left
                  · intro w hSw; (try dsimp only at hSw); go_simp; (try with_reducible rfl)
                  try simp only [Act.put, List.setIfInBounds_toArray, List.set_cons_zero, List.set_cons_succ]
                  refine wpAnyH_takeD (i := 15) (v := ?_) (some 81) rfl rfl (by kernel_rfl) (by kernel_rfl) (by kernel_rfl) (fun _ _ _ h => h) (Or.inl ⟨by rfl, ?_⟩) (by assumption) ?_
                  rotate_left
                  · intro w hSw; (try dsimp only at hSw); go_simp; (try with_reducible rfl)
                  try simp only [Act.put, List.setIfInBounds_toArray, List.set_cons_zero, List.set_cons_succ]
                  refine wpAnyH_takeD (i := 16) (v := ?_) (some 82) rfl rfl (by kernel_rfl) (by kernel_rfl) (by kernel_rfl) (fun _ _ _ h => h) (Or.inl ⟨by rfl, ?_⟩) (by assumption) ?_
                  rotate_left
                  · intro w hSw; (try dsimp only at hSw); go_simp; (try with_reducible rfl)
                  try simp only [Act.put, List.setIfInBounds_toArray, List.set_cons_zero, List.set_cons_succ]
                  refine wpAnyH_ready (rs := [17]) (by kernel_rfl) (by simp) ?_
                  refine AllReadyH.cons rfl (fun K hK => ?_) AllReadyH.nil
                  go_simp
                  refine hK.out _ _ ?_ (fun hHeld => ?_)
                  · (try dsimp only); (exact HSQ.out _ (by repeat (with_reducible first | exact Below.refl _ _ | refine Below.drew ?_ | refine balR ?_ _)))
                  clear hK K
                  try simp only [List.getElem_toArray, List.getElem_cons_succ, List.getElem_cons_zero]
                  try simp only [Act.put, List.setIfInBounds_toArray, List.set_cons_zero, List.set_cons_succ]
                  refine wpAnyH_ready (rs := [18]) (by kernel_rfl) (by simp) ?_
                  refine AllReadyH.cons rfl (fun K hK => ?_) AllReadyH.nil
                  (refine step_append_lies _ rfl (.tmp 66) (.tmp 83) 139 rfl w1.heap.size 143 i0 _ 3 24 Try.underlying139 HI.out hz0 hz1 hz2 rfl (by decide) (.slice A7 N2 c7) N2 ((useK p n k ++ usW v L0 j).flatMap enc3) (by rfl) (HOW.out _ (by repeat (with_reducible first | exact Below.refl _ _ | refine Below.drew ?_ | refine balR ?_ _))) _ 1 1 [.int .i64 r.id, .int .i64 N, .int .i64 (r.len - N)] (by rfl) rfl (World.news_of_block (cs := #[.int .i64 r.id, .int .i64 N, .int .i64 (r.len - N)]) (t := 143) (fr := (0, 0)) (by show Blk _ _ 143 #[.int .i64 r.id, .int .i64 N, .int .i64 (r.len - N)]; repeat (first | exact Blk.new _ _ _ | refine Blk.drew ?_))) (by intro u hu; simp at hu; rcases hu with rfl | rfl | rfl <;> rfl) (by decide) hm1 hm2 (by have := HSZ.out; simp; omega) _ rfl ?_; intro g9' cap9 w9 hown9 hgrow9 hat9 hlt9; have h9 := HAP.out _ w9 (by repeat (with_reducible first | exact Below.refl _ _ | refine Below.drew ?_ | refine balR ?_ _)) hgrow9; have H9 := Lib.hid h9; have HO9 := Lib.hid hown9; clear h9 hgrow9 hown9 hat9 hlt9)
                  refine hK.out _ _ ?_ (fun hHeld => ?_)
                  · (try dsimp only); (exact HS9.out _ H9.out.1 H9.out.2.1)
                  clear hK K
                  try simp only [List.getElem_toArray, List.getElem_cons_succ, List.getElem_cons_zero]
                  try simp only [Act.put, List.setIfInBounds_toArray, List.set_cons_zero, List.set_cons_succ]
                  refine wpAnyH_takeD (i := 19) (v := ?_) (some 7) rfl rfl (by kernel_rfl) (by kernel_rfl) (by kernel_rfl) (fun _ _ _ h => h) (Or.inl ⟨by rfl, ?_⟩) (by assumption) ?_
                  rotate_left
                  · intro w hSw; (try dsimp only at hSw); go_simp; (try with_reducible rfl)
                  try simp only [Act.put, List.setIfInBounds_toArray, List.set_cons_zero, List.set_cons_succ]
                  refine wpAnyH_done (by kernel_rfl) ?_ _
                  refine NoPanic.normal ?_
                  go_wp2_with fail
                  go_roundw
                  case rel =>
                    refine ⟨j + 1, N2 + 1, some ⟨g9', 0, none⟩, cap9, by omega, by go_num, rfl, by omega, Lib.hid (by have := HN2.out; omega), Lib.hid ?_, Lib.hid H9.out.2.1, Lib.hid H9.out.2.2, Lib.hid H9.out.1⟩
                    rw [HUS.out, ← List.append_assoc, List.flatMap_append]
                    simpa [usE, enc3] using HO9.out
                  case measure => simp [intOf]; omega
                · have z1 : decide ((j : Int) > 0) = true := by simp; omega
                  have z2 : decide ((0 : Int) < (j : Int)) = true := by simp; omega
                  have z2n : decide (0 < j) = true := by simp; omega
                  have z2m : 0 < j := by omega
                  have z3 : IntKind.i64.wrap ((j : Int) - 1) = (j : Int) - 1 := by rw [IntKind.wrap_i64]; omega
                  have z4 : (0 : Int) ≤ (j : Int) - 1 := by omega
                  have z5 : (j : Int) - 1 < (nv : Int) := by omega
                  have z6 : (1 : Int) ≤ (j : Int) := by omega
                  have z7 : 1 ≤ j := by omega
                  obtain ⟨b6, off6, hA6, d0⟩ := HE0.out _ HSE.out
                  obtain ⟨b7, off7, hA7, d1⟩ := HE1.out _ (by omega) HSE.out
                  subst hA6
                  injection hA7 with e
                  injection e with e1 e2
                  subst e1 e2
                  clear hj0 hG0
                  go_upto_region 20 with fail
                  first | rw [← HNE.out] | rw [← HNE0.out]
                  clear d0 t1
                  refine wp_region_noPanic ?_
                  refine wp_region_held_drew (S := (fun W => (W.cell? ⟨g9, 0, none⟩ = some (.slice (some ⟨b, off, none⟩) nv vc)) ∧ W.cell? ⟨b, off + j * 4, none⟩ = some (.int .i64 r.id) ∧ W.cell? ⟨b, off + j * 4 + 2, none⟩ = some (.int .i64 r.len))) (by kernel_rfl) ?_ (fun hHeld => ?_)
                  · (try dsimp only); (exact HSQ.out _ (by repeat (with_reducible first | exact Below.refl _ _ | refine Below.drew ?_ | refine balR ?_ _)))
                  refine wpAnyH_takeD (i := 0) (v := ?_) (some 66) rfl rfl (by kernel_rfl) (by kernel_rfl) (by kernel_rfl) (fun _ _ _ h => h) (Or.inl ⟨by rfl, ?_⟩) (by assumption) ?_
                  rotate_left
                  · intro w hSw; (try dsimp only at hSw); go_simp; (try with_reducible rfl)
                  try simp only [Act.put, List.setIfInBounds_toArray, List.set_cons_zero, List.set_cons_succ]
                  refine wpAnyH_takeD (i := 1) (v := ?_) (some 67) rfl rfl (by kernel_rfl) (by kernel_rfl) (by kernel_rfl) (fun _ _ _ h => h) (Or.inl ⟨by rfl, ?_⟩) (by assumption) ?_
                  rotate_left
                  · intro w hSw; (try dsimp only at hSw); go_simp; (try with_reducible rfl)
                  try simp only [Act.put, List.setIfInBounds_toArray, List.set_cons_zero, List.set_cons_succ]
                  refine wpAnyH_takeD (i := 2) (v := ?_) (some 68) rfl rfl (by kernel_rfl) (by kernel_rfl) (by kernel_rfl) (fun _ _ _ h => h) (Or.inl ⟨by rfl, ?_⟩) (by assumption) ?_
                  rotate_left
                  · intro w hSw; (try dsimp only at hSw); go_simp; (try with_reducible rfl)
                  try simp only [Act.put, List.setIfInBounds_toArray, List.set_cons_zero, List.set_cons_succ]
                  refine wpAnyH_takeD (i := 3) (v := ?_) (some 69) rfl rfl (by kernel_rfl) (by kernel_rfl) (by kernel_rfl) (fun _ _ _ h => h) (Or.inl ⟨by rfl, ?_⟩) (by assumption) ?_
                  rotate_left
                  · intro w hSw; (try dsimp only at hSw); go_simp; (try with_reducible rfl)
                  try simp only [Act.put, List.setIfInBounds_toArray, List.set_cons_zero, List.set_cons_succ]
                  refine wpAnyH_takeD (i := 4) (v := ?_) (some 70) rfl rfl (by kernel_rfl) (by kernel_rfl) (by kernel_rfl) (fun _ _ _ h => h) (Or.inl ⟨by rfl, ?_⟩) (by assumption) ?_
                  rotate_left
                  · intro w hSw; (try dsimp only at hSw); go_simp; (try with_reducible rfl)
                  try simp only [Act.put, List.setIfInBounds_toArray, List.set_cons_zero, List.set_cons_succ]
                  refine wpAnyH_takeD (i := 5) (v := ?_) (some 71) rfl rfl (by kernel_rfl) (by kernel_rfl) (by kernel_rfl) (fun _ _ _ h => h) (Or.inl ⟨by rfl, ?_⟩) (by assumption) ?_
                  rotate_left
                  · intro w hSw; (try dsimp only at hSw); go_simp; (try with_reducible rfl)
                  try simp only [Act.put, List.setIfInBounds_toArray, List.set_cons_zero, List.set_cons_succ]
                  refine wpAnyH_takeD (i := 6) (v := ?_) (some 72) rfl rfl (by kernel_rfl) (by kernel_rfl) (by kernel_rfl) (fun _ _ _ h => h) (Or.inl ⟨by rfl, ?_⟩) (by assumption) ?_
                  rotate_left
                  · intro w hSw; (try dsimp only at hSw); go_simp; (try with_reducible rfl)
                  try simp only [Act.put, List.setIfInBounds_toArray, List.set_cons_zero, List.set_cons_succ]
                  refine wpAnyH_takeD (i := 7) (v := ?_) (some 73) rfl rfl (by kernel_rfl) (by kernel_rfl) (by kernel_rfl) (fun _ _ _ h => h) (Or.inl ⟨by rfl, ?_⟩) (by assumption) ?_
                  rotate_left
                  · intro w hSw; (try dsimp only at hSw); go_simp; (try with_reducible rfl)
                  try simp only [Act.put, List.setIfInBounds_toArray, List.set_cons_zero, List.set_cons_succ]
                  refine wpAnyH_takeD (i := 8) (v := ?_) (some 74) rfl rfl (by kernel_rfl) (by kernel_rfl) (by kernel_rfl) (fun _ _ _ h => h) (Or.inl ⟨by rfl, ?_⟩) (by assumption) ?_
                  rotate_left
                  · intro w hSw; (try dsimp only at hSw); go_simp; (try with_reducible rfl)
                  try simp only [Act.put, List.setIfInBounds_toArray, List.set_cons_zero, List.set_cons_succ]
                  refine wpAnyH_takeD (i := 9) (v := ?_) (some 75) rfl rfl (by kernel_rfl) (by kernel_rfl) (by kernel_rfl) (fun _ _ _ h => h) (Or.inl ⟨by rfl, ?_⟩) (by assumption) ?_
                  rotate_left
                  · intro w hSw; (try dsimp only at hSw); go_simp; (try with_reducible rfl)
                  try simp only [Act.put, List.setIfInBounds_toArray, List.set_cons_zero, List.set_cons_succ]
                  refine wpAnyH_takeD (i := 10) (v := ?_) (some 76) rfl rfl (by kernel_rfl) (by kernel_rfl) (by kernel_rfl) (fun _ _ _ h => h) (Or.inl ⟨by rfl, ?_⟩) (by assumption) ?_
                  rotate_left
                  · intro w hSw; (try dsimp only at hSw); go_simp; (try with_reducible rfl)
                  try simp only [Act.put, List.setIfInBounds_toArray, List.set_cons_zero, List.set_cons_succ]
                  refine wpAnyH_takeD (i := 11) (v := ?_) (some 77) rfl rfl (by kernel_rfl) (by kernel_rfl) (by kernel_rfl) (fun _ _ _ h => h) (Or.inl ⟨by rfl, ?_⟩) (by assumption) ?_
                  rotate_left
                  · intro w hSw; (try dsimp only at hSw); go_simp; (try with_reducible rfl)
                  try simp only [Act.put, List.setIfInBounds_toArray, List.set_cons_zero, List.set_cons_succ]
                  refine wpAnyH_takeD (i := 12) (v := ?_) (some 78) rfl rfl (by kernel_rfl) (by kernel_rfl) (by kernel_rfl) (fun _ _ _ h => h) (Or.inl ⟨by rfl, ?_⟩) (by assumption) ?_
                  rotate_left
                  · intro w hSw; (try dsimp only at hSw); go_simp; (try with_reducible rfl)
                  try simp only [Act.put, List.setIfInBounds_toArray, List.set_cons_zero, List.set_cons_succ]
                  refine wpAnyH_takeD (i := 13) (v := ?_) (some 79) rfl rfl (by kernel_rfl) (by kernel_rfl) (by kernel_rfl) (fun _ _ _ h => h) (Or.inl ⟨by rfl, ?_⟩) (by assumption) ?_
                  rotate_left
                  · intro w hSw; (try dsimp only at hSw); go_simp; (try with_reducible rfl)
                  try simp only [Act.put, List.setIfInBounds_toArray, List.set_cons_zero, List.set_cons_succ]
                  refine wpAnyH_takeD (i := 14) (v := ?_) (some 80) rfl rfl (by kernel_rfl) (by kernel_rfl) (by kernel_rfl) (fun _ _ _ h => h) (Or.inl ⟨by rfl, ?_⟩) (by assumption) ?_
                  rotate_left
                  · intro w hSw; (try dsimp only at hSw); go_simp; (try with_reducible rfl)
                  try simp only [Act.put, List.setIfInBounds_toArray, List.set_cons_zero, List.set_cons_succ]
                  refine wpAnyH_takeD (i := 15) (v := ?_) (some 81) rfl rfl (by kernel_rfl) (by kernel_rfl) (by kernel_rfl) (fun _ _ _ h => h) (Or.inl ⟨by rfl, ?_⟩) (by assumption) ?_
                  rotate_left
                  · intro w hSw; (try dsimp only at hSw); go_simp; (try with_reducible rfl)
                  try simp only [Act.put, List.setIfInBounds_toArray, List.set_cons_zero, List.set_cons_succ]
                  refine wpAnyH_takeD (i := 16) (v := ?_) (some 82) rfl rfl (by kernel_rfl) (by kernel_rfl) (by kernel_rfl) (fun _ _ _ h => h) (Or.inl ⟨by rfl, ?_⟩) (by assumption) ?_
                  rotate_left
                  · intro w hSw; (try dsimp only at hSw); go_simp; (try with_reducible rfl)
                  try simp only [Act.put, List.setIfInBounds_toArray, List.set_cons_zero, List.set_cons_succ]
                  refine wpAnyH_ready (rs := [17]) (by kernel_rfl) (by simp) ?_
                  refine AllReadyH.cons rfl (fun K hK => ?_) AllReadyH.nil
                  go_simp
                  refine hK.out _ _ ?_ (fun hHeld => ?_)
                  · (try dsimp only); (exact HSQ.out _ (by repeat (with_reducible first | exact Below.refl _ _ | refine Below.drew ?_ | refine balR ?_ _)))
                  clear hK K
                  try simp only [List.getElem_toArray, List.getElem_cons_succ, List.getElem_cons_zero]
                  try simp only [Act.put, List.setIfInBounds_toArray, List.set_cons_zero, List.set_cons_succ]
                  refine wpAnyH_ready (rs := [18]) (by kernel_rfl) (by simp) ?_
                  refine AllReadyH.cons rfl (fun K hK => ?_) AllReadyH.nil
                  (refine step_append_lies _ rfl (.tmp 66) (.tmp 83) 139 rfl w1.heap.size 143 i0 _ 3 24 Try.underlying139 HI.out hz0 hz1 hz2 rfl (by decide) (.slice A7 N2 c7) N2 ((useK p n k ++ usW v L0 j).flatMap enc3) (by rfl) (HOW.out _ (by repeat (with_reducible first | exact Below.refl _ _ | refine Below.drew ?_ | refine balR ?_ _))) _ 1 1 [.int .i64 r.id, .int .i64 N, .int .i64 (r.len - N)] (by rfl) rfl (World.news_of_block (cs := #[.int .i64 r.id, .int .i64 N, .int .i64 (r.len - N)]) (t := 143) (fr := (0, 0)) (by show Blk _ _ 143 #[.int .i64 r.id, .int .i64 N, .int .i64 (r.len - N)]; repeat (first | exact Blk.new _ _ _ | refine Blk.drew ?_))) (by intro u hu; simp at hu; rcases hu with rfl | rfl | rfl <;> rfl) (by decide) hm1 hm2 (by have := HSZ.out; simp; omega) _ rfl ?_; intro g9' cap9 w9 hown9 hgrow9 hat9 hlt9; have h9 := HAP.out _ w9 (by repeat (with_reducible first | exact Below.refl _ _ | refine Below.drew ?_ | refine balR ?_ _)) hgrow9; have H9 := Lib.hid h9; have HO9 := Lib.hid hown9; clear h9 hgrow9 hown9 hat9 hlt9)
                  refine hK.out _ _ ?_ (fun hHeld => ?_)
                  · (try dsimp only); (exact HS9.out _ H9.out.1 H9.out.2.1)
                  clear hK K
                  try simp only [List.getElem_toArray, List.getElem_cons_succ, List.getElem_cons_zero]
                  try simp only [Act.put, List.setIfInBounds_toArray, List.set_cons_zero, List.set_cons_succ]
                  refine wpAnyH_takeD (i := 19) (v := ?_) (some 7) rfl rfl (by kernel_rfl) (by kernel_rfl) (by kernel_rfl) (fun _ _ _ h => h) (Or.inl ⟨by rfl, ?_⟩) (by assumption) ?_
                  rotate_left
                  · intro w hSw; (try dsimp only at hSw); go_simp; (try with_reducible rfl)
                  try simp only [Act.put, List.setIfInBounds_toArray, List.set_cons_zero, List.set_cons_succ]
                  refine wpAnyH_done (by kernel_rfl) ?_ _
                  refine NoPanic.normal ?_
                  go_wp2_with fail
                  go_roundw
                  case rel =>
                    refine ⟨j + 1, N2 + 1, some ⟨g9', 0, none⟩, cap9, by omega, by go_num, rfl, by omega, Lib.hid (by have := HN2.out; omega), Lib.hid ?_, Lib.hid H9.out.2.1, Lib.hid H9.out.2.2, Lib.hid H9.out.1⟩
                    rw [HUS.out, ← List.append_assoc, List.flatMap_append]
                    simpa [usE, enc3] using HO9.out
                  case measure => simp [intOf]; omega
              · obtain rfl : j = nv := by omega
                go_wp2_with fail
                go_roundw
                case rel =>
                  refine ⟨k + 1, N2, A7, c7, by omega, by go_num, rfl, by omega, Lib.hid ⟨?_, ?_⟩, HBQ⟩
                  · rw [HUK.out, List.length_append, usW_len, ← HN0.out]; exact HN2.out
                  · rw [HUK.out]; exact HO.out
                case measure => simp [intOf]; omega
      · obtain rfl : k = m := by omega
        have HSL := Lib.hid (show Sl enc3 3 wr wr.heap.size A7 U from by
          rw [HUE.out, ← HML.out]
          have h := HO.out.2
          rw [HO.out.1] at h
          exact Sl.of_own (fun _ => rfl) h)
        have HSN := Lib.hid (show U.length = N0 from by rw [HUE.out, ← HML.out, HO.out.1])
        go_wp2_with fail
        go_ret2
        rw [HSN.out]
        exact ⟨A7, c7, rfl, HSL, Lib.hid (HB1.out.trans (HB.out.mono HB1.out.size))⟩
  · have ht : (er != 0) = true := by simpa using hz
    rw [if_pos hz] at hU
    subst hU
    have HNIL := Lib.hid (fun (W : World) => (Sl.nil : Sl enc3 3 W W.heap.size none []))
    clear hT hm hm9 her hz hml
    go_enter Try.func72, Try.ntmps72
    go_upto_region 1 with fail
    rw [← HW1.out, ← HGT.out]
    go_wp2_with (go_at_call 109; with_reducible refine HA.out.mono ?_; rintro e w2 ⟨rfl, HB2⟩)
    go_ret2
    exact ⟨none, 0, rfl, Lib.hid (HNIL.out _), Lib.hid (HB1.out.trans (HB2.out.mono HB1.out.size))⟩
end Go.Proofs.Ytnbnfadmbggfnaa
