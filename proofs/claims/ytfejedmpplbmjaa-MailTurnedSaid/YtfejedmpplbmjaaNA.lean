/- The contract of copy; conditions: a run in memory. Printed by a program. -/
import Derived.Test.YtfejedmpplbmjaaN9
import Derived.Deep.CutRange
set_option linter.unusedSimpArgs false
set_option linter.unusedVariables false
namespace Go.Proofs.Ytfejedmpplbmjaa
open Go.RowKit Go.Fh Go.Ml
set_option maxRecDepth 100000 in
set_option maxHeartbeats 8000000 in
theorem copy_any (d : LnD) (x : LA) (zs : List Int) (zA : Option Addr) (zc : Nat) (fs : List (Int × Int × Bool)) (g : Nat) (w : World) (h : RunM d x zs zA zc fs g w) (hch : chkL d = 0) (hzr : ∀ z ∈ zs, 0 ≤ z ∧ z < (d.zones.length : Int)) (k : Nat) (hk : k < zs.length) (hz : zs.length ≤ 1000000) (s9 : CpS) (hs9 : s9 = cpS d zs fs k) :
    Calls Try.prog 47 #[.pointer (some ⟨g, 0, none⟩), .int .i64 (k : Int)] w fun e w' => ∃ A c, e = .returned (.tuple #[.agg #[.int .i64 (k : Int), .int .i64 (zAt zs k), .slice A s9.parts.length c, .bool s9.right], .bool s9.thrown, .bool s9.repaired]) ∧ Hid (w'.ownsRow w.heap.size 3 1 (.slice A s9.parts.length c) s9.parts.length (s9.parts.map (Value.int .i64))) ∧ Hid (Below w.heap.size w w') := by
  have hck := chk_ok hch
  obtain ⟨nh, hnh⟩ : ∃ n, n = d.hops.length := ⟨_, rfl⟩
  have hnb : 1 ≤ nh ∧ nh ≤ 8 := by have := hck.1; omega
  obtain ⟨zn, hzn⟩ : ∃ zn : Nat, zs[k] = (zn : Int) := ⟨zs[k].toNat, by have := hzr _ (List.getElem_mem hk); omega⟩
  have hznl : zn < d.zones.length := by have := (hzr _ (List.getElem_mem hk)).2; rw [hzn] at this; omega
  have hza : zAt zs (k : Int) = (zn : Int) := by unfold zAt; rw [List.getD_eq_getElem?_getD]; simp [hk, hzn]
  obtain ⟨pl, hpl⟩ : ∃ l, l = d.zones[zn] := ⟨_, rfl⟩
  have hplm : pl ∈ d.zones := by rw [hpl]; exact List.getElem_mem hznl
  obtain ⟨np, hnp⟩ : ∃ n, n = pl.length := ⟨_, rfl⟩
  have hpb : np ≤ 16 := by rw [hnp]; exact zn_len hch hplm
  obtain ⟨L, hL⟩ : ∃ L, L = pl.map (fdS d.hops) := ⟨_, rfl⟩
  have hLn : L.length = np := by rw [hL, hnp, List.length_map]
  have hS9 : s9 = cpL d (putS fs k) pl := by rw [hs9]; unfold cpS; rw [hza, hpl]; unfold znL; rw [List.getD_eq_getElem?_getD]; simp [hznl]
  have hLm : ∀ q ∈ L, 0 ≤ q ∧ q < (nh : Int) := fun q hq => by
    have := fds_mem hch (zn : Int) q (by unfold fdsS; rw [List.getD_eq_getElem?_getD]; simp [hznl]; rw [← hpl]; rw [hL] at hq; simpa using hq)
    rw [hnh]; exact this
  obtain ⟨hgw, gM, m, hm, hW⟩ := id h
  obtain ⟨bh, oh, hxa, hbh, hcl⟩ := (hW w (Below.refl _ _)).1.hH (by intro e; rw [e] at hnh; simp at hnh; omega)
  obtain ⟨bz, oz, hzA, hbz, cz⟩ := (hW w (Below.refl _ _)).2.1.at1 hk
  rw [hzn] at cz
  obtain ⟨bZ, oZ, AR, cR, hxz, hbZ, cZ, hSR⟩ := (hW w (Below.refl _ _)).1.row hznl
  have HR0 := Lib.hid (show ∀ W, Below w.heap.size w W → (W.cell? ⟨g, 0, none⟩ = some (.slice (some ⟨bh, oh, none⟩) nh x.ca) ∧ W.cell? ⟨g, 1, none⟩ = some (.slice x.b d.rep.length x.cb) ∧ W.cell? ⟨g, 2, none⟩ = some (.int .i64 d.batch) ∧ W.cell? ⟨g, 3, none⟩ = some (.slice (some ⟨bZ, oZ, none⟩) d.zones.length x.cz) ∧ W.cell? ⟨g, 4, none⟩ = some (.slice (some ⟨bz, oz, none⟩) zs.length zc)) ∧ W.cell? ⟨bz, oz + k, none⟩ = some (.int .i64 (zn : Int)) ∧ W.cell? ⟨bZ, oZ + zn, none⟩ = some (.slice AR np cR) ∧ Sl encInt 1 W w.heap.size AR pl ∧ Sl encInt 1 W w.heap.size x.b d.rep from fun W hb => by
    have h1 := (hW W hb).2.2.1
    rw [hxa, ← hnh, hxz, hzA] at h1
    refine ⟨⟨h1.1, h1.2.1, h1.2.2.1, h1.2.2.2.1, h1.2.2.2.2.1⟩, (hb.cell (p := ⟨bz, oz + k, none⟩) hbz).trans cz, ?_, ?_, (hW w (Below.refl _ _)).1.hR.below hb⟩
    · rw [hnp, hpl]; exact (hb.cell (p := ⟨bZ, oZ + zn, none⟩) hbZ).trans cZ
    · rw [hpl]; exact hSR.below hb)
  have HH := Lib.hid (show ∀ W, Below w.heap.size w W → ∀ q, q < nh → W.cell? ⟨bh, oh + q * 2 + 1, none⟩ = some (.int .i64 (d.hops.getD q (0, 0)).2) from fun W hb q hq => by
    have hq' : q < d.hops.length := by omega
    have e : d.hops[q]? = some (d.hops.getD q (0, 0)) := by rw [List.getD_eq_getElem?_getD, List.getElem?_eq_getElem hq']; rfl
    exact (hb.cell (p := ⟨bh, oh + q * 2 + 1, none⟩) hbh).trans (hcl q _ e 1 _ rfl))
  have H55 := Lib.hid (show ∀ W, Below w.heap.size w W → Calls Try.prog 55 #[.agg #[.slice (some ⟨bh, oh, none⟩) nh x.ca, .slice x.b d.rep.length x.cb, .int .i64 d.batch, .slice (some ⟨bZ, oZ, none⟩) d.zones.length x.cz], .int .i64 (zn : Int)] W fun e w' => ∃ A c, e = .returned (.slice A np c) ∧ Hid (w'.ownsRow W.heap.size 3 1 (.slice A np c) np (L.map (Value.int .i64))) ∧ Hid (Below W.heap.size W w') from fun W hb => by
    have h1 := feeds_any d x zn W (hW W hb).1 hznl (by have := hck.2.1; omega) (by have := hck.1; omega) pl L hpl (by omega) hL
    unfold lineV at h1
    rw [hxa, ← hnh, hxz, hLn] at h1
    exact h1)
  have H98 := Lib.hid (show ∀ X, Below w.heap.size w X → ∀ hn : Int, Calls Try.prog 98 #[.pointer (some ⟨g, 0, none⟩), .int .i64 (k : Int), .int .i64 hn] X fun e w' => e = .returned (.int .i64 (putS fs k hn)) ∧ Hid (Below X.heap.size X w') from fun X hX hn => puts_any d x zs _ zc fs g X (h.below hX) _ _ _ rfl)
  have hrl : d.rep.length ≤ 100 := by have := ris_len hck.2.2.2.2.1 (by omega); omega
  have HPL := Lib.hid hpl
  have HLE := Lib.hid hL
  have HLM := Lib.hid hLm
  have HZA := Lib.hid hza
  have HS9 := Lib.hid hS9
  have HNP := Lib.hid hnp
  have HNH := Lib.hid hnh
  have HLN := Lib.hid hLn
  obtain ⟨iT, hi, hz0, hz1, hz2⟩ := info_parts infoInt
  have HI := Lib.hid hi
  clear hck hnh hzn hza hpl hplm hnp hL hLn hS9 hs9 hLm hgw hm hW hxa hbh hcl hzA hbz cz hxz hbZ cZ hSR h hzr hi hch
  have hk' : (k : Int) < (zs.length : Int) := by omega
  go_enter Try.func47, Try.ntmps47
  go_upto_region 1 with fail
  have hb1 : Below w.heap.size w (w.alloc (.cells #[.int .i64 0, .int .i64 0, .slice none 0 0, .bool false] 44)) := balR (Below.refl _ _) _
  have r0 := (HR0.out _ hb1).1.2.2.2.2
  have r1 := (HR0.out _ hb1).2.1
  clear hb1
  go_upto_region 2 with fail
  obtain ⟨w2, hw2⟩ : ∃ W, W = w.alloc (.cells #[.int .i64 (k : Int), .int .i64 (zn : Int), .slice none 0 0, .bool true] 44) := ⟨_, rfl⟩
  obtain ⟨g4, hg4⟩ : ∃ q, q = w.heap.size := ⟨_, rfl⟩
  have k2 : Blk w2 g4 44 #[.int .i64 (k : Int), .int .i64 (zn : Int), .slice none 0 0, .bool true] := by rw [hw2, hg4]; exact Blk.new w 44 _
  have hb2 : Below w.heap.size w w2 := by rw [hw2]; exact balR (Below.refl _ _) _
  have hs2 : w2.heap.size = g4 + 1 := by rw [hw2, hg4]; simp
  have HS2 := Lib.hid (show ∀ W, Below w2.heap.size w2 W → W.cell? ⟨g4, 1, none⟩ = some (.int .i64 (zn : Int)) ∧ (W.cell? ⟨g, 0, none⟩ = some (.slice (some ⟨bh, oh, none⟩) nh x.ca) ∧ W.cell? ⟨g, 1, none⟩ = some (.slice x.b d.rep.length x.cb) ∧ W.cell? ⟨g, 2, none⟩ = some (.int .i64 d.batch) ∧ W.cell? ⟨g, 3, none⟩ = some (.slice (some ⟨bZ, oZ, none⟩) d.zones.length x.cz)) from fun W hb => by
    have z := (k2.below hb k2.lt).cell 1
    simp at z
    have h1 := (HR0.out W (bstep hb2 hb)).1
    exact ⟨z, h1.1, h1.2.1, h1.2.2.1, h1.2.2.2.1⟩)
  have H55 := Lib.hid (fun W (hb : Below w2.heap.size w2 W) => H55.out W (bstep hb2 hb))
  have HK2 := Lib.hid k2
  have HB2 := Lib.hid hb2
  have HZ2 := Lib.hid hs2
  have HG4 := Lib.hid hg4
  rw [← hw2, ← hg4]
  clear hw2 hg4 k2 hb2 hs2 r0 r1
  refine wp_region_noPanic ?_
  refine wp_region_held_drew (S := (fun W => W.cell? ⟨g4, 1, none⟩ = some (.int .i64 (zn : Int)) ∧ (W.cell? ⟨g, 0, none⟩ = some (.slice (some ⟨bh, oh, none⟩) nh x.ca) ∧ W.cell? ⟨g, 1, none⟩ = some (.slice x.b d.rep.length x.cb) ∧ W.cell? ⟨g, 2, none⟩ = some (.int .i64 d.batch) ∧ W.cell? ⟨g, 3, none⟩ = some (.slice (some ⟨bZ, oZ, none⟩) d.zones.length x.cz)))) (by kernel_rfl) ?_ (fun hHeld => ?_)
  · (try dsimp only); (exact HS2.out _ (by repeat (with_reducible first | exact Below.refl _ _ | refine Below.drew ?_ | refine balR ?_ _)))
  refine wpAnyH_takeD (i := 0) (v := ?_) (some 20) rfl rfl (by kernel_rfl) (by kernel_rfl) (by kernel_rfl) (fun _ _ _ h => h) (Or.inl ⟨by rfl, ?_⟩) (by assumption) ?_
  rotate_left
  · intro w hSw; (try dsimp only at hSw); go_simp; (try with_reducible rfl)
  try simp only [Act.put, List.setIfInBounds_toArray, List.set_cons_zero, List.set_cons_succ]
  refine wpAnyH_takeD (i := 1) (v := ?_) (some 21) rfl rfl (by kernel_rfl) (by kernel_rfl) (by kernel_rfl) (fun _ _ _ h => h) (Or.inl ⟨by rfl, ?_⟩) (by assumption) ?_
  rotate_left
  · intro w hSw; (try dsimp only at hSw); go_simp; (try with_reducible rfl)
  try simp only [Act.put, List.setIfInBounds_toArray, List.set_cons_zero, List.set_cons_succ]
  refine wpAnyH_takeD (i := 2) (v := ?_) (some 22) rfl rfl (by kernel_rfl) (by kernel_rfl) (by kernel_rfl) (fun _ _ _ h => h) (Or.inl ⟨by rfl, ?_⟩) (by assumption) ?_
  rotate_left
  · intro w hSw; (try dsimp only at hSw); go_simp; (try with_reducible rfl)
  try simp only [Act.put, List.setIfInBounds_toArray, List.set_cons_zero, List.set_cons_succ]
  refine wpAnyH_takeD (i := 3) (v := ?_) (some 23) rfl rfl (by kernel_rfl) (by kernel_rfl) (by kernel_rfl) (fun _ _ _ h => h) (Or.inl ⟨by rfl, ?_⟩) (by assumption) ?_
  rotate_left
  · intro w hSw; (try dsimp only at hSw); go_simp; (try with_reducible rfl)
  try simp only [Act.put, List.setIfInBounds_toArray, List.set_cons_zero, List.set_cons_succ]
  refine wpAnyH_takeD (i := 4) (v := ?_) (some 24) rfl rfl (by kernel_rfl) (by kernel_rfl) (by kernel_rfl) (fun _ _ _ h => h) (Or.inl ⟨by rfl, ?_⟩) (by assumption) ?_
  rotate_left
  · intro w hSw; (try dsimp only at hSw); go_simp; (try with_reducible rfl)
  try simp only [Act.put, List.setIfInBounds_toArray, List.set_cons_zero, List.set_cons_succ]
  refine wpAnyH_takeD (i := 5) (v := ?_) (some 25) rfl rfl (by kernel_rfl) (by kernel_rfl) (by kernel_rfl) (fun _ _ _ h => h) (Or.inl ⟨by rfl, ?_⟩) (by assumption) ?_
  rotate_left
  · intro w hSw; (try dsimp only at hSw); go_simp; (try with_reducible rfl)
  try simp only [Act.put, List.setIfInBounds_toArray, List.set_cons_zero, List.set_cons_succ]
  refine wpAnyH_takeD (i := 8) (v := ?_) (some 28) rfl rfl (by kernel_rfl) (by kernel_rfl) (by kernel_rfl) (fun _ _ _ h => h) (Or.inl ⟨by rfl, ?_⟩) (by assumption) ?_
  rotate_left
  · intro w hSw; (try dsimp only at hSw); go_simp; (try with_reducible rfl)
  try simp only [Act.put, List.setIfInBounds_toArray, List.set_cons_zero, List.set_cons_succ]
  refine wpAnyH_ready (rs := [6]) (by kernel_rfl) (by simp) ?_
  refine AllReadyH.cons rfl (fun K hK => ?_) AllReadyH.nil
  (go_simp; go_at_call 55; with_reducible refine (H55.out _ (by repeat (with_reducible first | exact Below.refl _ _ | refine Below.drew ?_ | refine balR ?_ _))).mono ?_; rintro e w5 ⟨A5, c5, rfl, HO5, HB5⟩; go_wp2_with fail)
  refine hK.out _ _ ?_ (fun hHeld => ?_)
  · (try dsimp only); (exact HS2.out _ (bstep (by repeat (with_reducible first | exact Below.refl _ _ | refine Below.drew ?_ | refine balR ?_ _)) HB5.out))
  clear hK K
  try simp only [List.getElem_toArray, List.getElem_cons_succ, List.getElem_cons_zero]
  try simp only [Act.put, List.setIfInBounds_toArray, List.set_cons_zero, List.set_cons_succ]
  refine wpAnyH_takeD (i := 7) (v := ?_) (some 27) rfl rfl (by kernel_rfl) (by kernel_rfl) (by kernel_rfl) (fun _ _ _ h => h) (Or.inl ⟨by rfl, ?_⟩) (by assumption) ?_
  rotate_left
  · intro w hSw; (try dsimp only at hSw); go_simp; (try with_reducible rfl)
  try simp only [Act.put, List.setIfInBounds_toArray, List.set_cons_zero, List.set_cons_succ]
  refine wpAnyH_done (by kernel_rfl) ?_ _
  refine NoPanic.normal ?_
  have HB5 := Lib.hid (show Below w2.heap.size w2 w5 from bstep (Below.refl _ _).drew HB5.out)
  have HO5 := Lib.hid (show w5.ownsRow w2.heap.size 3 1 (.slice A5 np c5) np (L.map (Value.int .i64)) from HO5.out)
  obtain ⟨B5, hB5⟩ : ∃ q, q = w5.heap.size := ⟨_, rfl⟩
  have HBZ := Lib.hid (show B5 = w5.heap.size ∧ g4 + 1 ≤ B5 ∧ w.heap.size = g4 from ⟨hB5, by have h1 := HB5.out.size; have h2 := HZ2.out; omega, HG4.out.symm⟩)
  have HFD := Lib.hid (show ∀ X, Off2 w.heap.size g4 g4 w5 X → X.ownsRow w2.heap.size 3 1 (.slice A5 np c5) np (L.map (Value.int .i64)) from fun X hX => own_heap HO5.out fun j cs hj hcs => by
    have h1 := own_at2 HO5.out hj
    have h2 := HZ2.out
    exact hX.2.2 j (Array.getElem?_eq_some_iff.1 hcs).1 (by omega) (by omega))
  have HK5 := Lib.hid (HK2.out.below HB5.out HK2.out.lt)
  have HW5 := Lib.hid (show Below w.heap.size w w5 from bstep HB2.out HB5.out)
  clear hB5
  go_wp2
  go_loopw [5, 6, 28] (fun u5 u6 u wr => ∃ (q : Nat) (ps : List Int) (rt th rp : Bool) (vA : Option Addr) (vc : Nat), q ≤ np ∧ u5 = .bool th ∧ u6 = .bool rp ∧ u = .int .i64 (q : Int) ∧ Hid (cpL d (putS fs k) (pl.take q) = ⟨ps, rt, th, rp⟩) ∧
    Hid (Blk wr g4 44 #[.int .i64 (k : Int), .int .i64 (zn : Int), .slice vA ps.length vc, .bool rt] ∧ wr.ownsRow B5 3 1 (.slice vA ps.length vc) ps.length (ps.map (Value.int .i64))) ∧ Hid (Off2 w.heap.size g4 g4 w5 wr)) (fun _ _ i _ => np + 1 - (intOf i).toNat)
  case atStart => exact ⟨0, [], true, false, false, none, 0, Nat.zero_le _, rfl, rfl, rfl, Lib.hid rfl, Lib.hid ⟨HK5.out, World.ownsRow_nil _ _ _ _⟩, Lib.hid (Off2.refl (by have := HBZ.out; omega))⟩
  case round =>
    obtain ⟨q, ps, rt, th, rp, vA, vc, hq, rfl, rfl, rfl, HCP, HKR, HOF⟩ := hrel
    have HWR := Lib.hid (HW5.out.trans HOF.out.2.1)
    by_cases hlt : q < np
    · have t1 : decide ((q : Int) < (np : Int)) = true := decide_eq_true (by omega)
      have hqp : q < pl.length := by have := HNP.out; omega
      have hqL : q < L.length := by have := HLN.out; omega
      obtain ⟨pt, hpt⟩ : ∃ v, v = pl[q] := ⟨_, rfl⟩
      obtain ⟨hn, hhn⟩ : ∃ hn : Nat, L[q] = (hn : Int) := ⟨L[q].toNat, by have := HLM.out _ (List.getElem_mem hqL); omega⟩
      have hhl : hn < nh := by have := (HLM.out _ (List.getElem_mem hqL)).2; rw [hhn] at this; omega
      have hfd : fdS d.hops pt = (hn : Int) := by rw [← hhn, hpt]; simp [HLE.out]
      have htk : pl.take (q + 1) = pl.take q ++ [pt] := by rw [hpt]; simp
      obtain ⟨bb, ob, hA5, hbb5, c0⟩ := (own_sl (l := L) (by have := HFD.out _ HOF.out; rw [HLN.out]; exact this)).at1 hqL
      rw [hhn] at c0
      subst hA5
      obtain ⟨bp, op, hAR, hbp, c1⟩ := (HR0.out _ HWR.out).2.2.2.1.at1 hqp
      rw [← hpt] at c1
      subst hAR
      obtain ⟨pn, hpn⟩ : ∃ v, v = putS fs k (hn : Int) := ⟨_, rfl⟩
      have hpb2 : 0 ≤ pn ∧ pn ≤ 2 := by rw [hpn]; exact putS_bd _ _ _
      obtain ⟨wv, hwv⟩ : ∃ v, v = (d.hops.getD hn (0, 0)).2 := ⟨_, rfl⟩
      have hwat : watS d pt = wv := by unfold watS; rw [hfd, hwv]; rfl
      obtain ⟨N, hN⟩ : ∃ N : Nat, nnS d pn pt = (N : Int) := ⟨(nnS d pn pt).toNat, by have := nnS_bd (d := d) (p := pt) hpb2; omega⟩
      have hNb : N ≤ 2 := by have := nnS_bd (d := d) (p := pt) hpb2; omega
      obtain ⟨mt, hmt⟩ : ∃ b, b = metS d pn pt := ⟨_, rfl⟩
      obtain ⟨cv, hcv⟩ : ∃ b, b = d.rep.any fun y => pt == y := ⟨_, rfl⟩
      have HST := Lib.hid (show cpL d (putS fs k) (pl.take (q + 1)) = ⟨ps ++ List.replicate N pt, rt && decide ((N : Int) = 1), th || (mt && !(decide (pn = 0) && cv)), rp || (mt && (decide (pn = 0) && cv))⟩ from by
        rw [htk, cpL_app, HCP.out]
        unfold cpStep fixS
        rw [hfd, ← hpn, hN, ← hmt, ← hcv]
        rfl)
      have HMT := Lib.hid (show mt = (decide (pn ≠ 1) && decide (wv = 2)) from by rw [hmt]; unfold metS; rw [hwat])
      have HNN := Lib.hid (show (N : Int) = if mt && (decide (pn = 0) && cv) then 1 else pn from by rw [← hN]; unfold nnS fixS; rw [← hmt, ← hcv])
      have hpl2 : ps.length ≤ 32 := by
        have h1 := cpL_len (d := d) (putS_bd fs k) (pl.take q)
        rw [HCP.out, List.length_take] at h1
        dsimp only at h1
        omega
      have HS5 := Lib.hid (show ∀ X, Below wr.heap.size wr X → (X.cell? ⟨g4, 1, none⟩ = some (.int .i64 (zn : Int)) ∧ X.cell? ⟨g, 3, none⟩ = some (.slice (some ⟨bZ, oZ, none⟩) d.zones.length x.cz)) ∧ X.cell? ⟨bZ, oZ + zn, none⟩ = some (.slice (some ⟨bp, op, none⟩) np cR) ∧ X.cell? ⟨bp, op + q, none⟩ = some (.int .i64 pt) from fun X hX => by
        have z := (HKR.out.1.below hX HKR.out.1.lt).cell 1
        simp at z
        have h1 := HR0.out X (bstep HWR.out hX)
        exact ⟨⟨z, h1.1.2.2.2.1⟩, h1.2.2.1, (hX.cell (p := ⟨bp, op + q, none⟩) (Nat.lt_of_lt_of_le hbp HWR.out.size)).trans c1⟩)
      have H98R := Lib.hid (show ∀ X, Below w.heap.size w X → Calls Try.prog 98 #[.pointer (some ⟨g, 0, none⟩), .int .i64 (k : Int), .int .i64 (hn : Int)] X fun e w' => e = .returned (.int .i64 pn) ∧ Hid (Below X.heap.size X w') from fun X hX => by rw [hpn]; exact H98.out X hX _)
      have HCV := Lib.hid hcv
      have HWV := Lib.hid (show ∀ X, Below w.heap.size w X → X.cell? ⟨g, 0, none⟩ = some (.slice (some ⟨bh, oh, none⟩) nh x.ca) ∧ X.cell? ⟨bh, oh + hn * 2 + 1, none⟩ = some (.int .i64 wv) ∧ X.cell? ⟨g, 1, none⟩ = some (.slice x.b d.rep.length x.cb) from fun X hX => ⟨(HR0.out X hX).1.1, by rw [hwv]; exact HH.out X hX hn hhl, (HR0.out X hX).1.2.1⟩)
      clear hqp hqL hpt hhn hfd htk hpn hwv hwat hN hmt hcv c1 hbp hbb5
      go_upto_region 5 with fail
      refine wp_region_noPanic ?_
      refine wp_region_held_drew (S := (fun W => (W.cell? ⟨g4, 1, none⟩ = some (.int .i64 (zn : Int)) ∧ W.cell? ⟨g, 3, none⟩ = some (.slice (some ⟨bZ, oZ, none⟩) d.zones.length x.cz)) ∧ W.cell? ⟨bZ, oZ + zn, none⟩ = some (.slice (some ⟨bp, op, none⟩) np cR) ∧ W.cell? ⟨bp, op + q, none⟩ = some (.int .i64 pt))) (by kernel_rfl) ?_ (fun hHeld => ?_)
      · (try dsimp only); (exact HS5.out _ (by repeat (with_reducible first | exact Below.refl _ _ | refine Below.drew ?_ | refine balR ?_ _)))
      refine wpAnyH_takeD (i := 0) (v := ?_) (some 33) rfl rfl (by kernel_rfl) (by kernel_rfl) (by kernel_rfl) (fun _ _ _ h => h) (Or.inl ⟨by rfl, ?_⟩) (by assumption) ?_
      rotate_left
      · intro w hSw; (try dsimp only at hSw); go_simp; (try with_reducible rfl)
      try simp only [Act.put, List.setIfInBounds_toArray, List.set_cons_zero, List.set_cons_succ]
      refine wpAnyH_takeD (i := 1) (v := ?_) (some 34) rfl rfl (by kernel_rfl) (by kernel_rfl) (by kernel_rfl) (fun _ _ _ h => h) (Or.inl ⟨by rfl, ?_⟩) (by assumption) ?_
      rotate_left
      · intro w hSw; (try dsimp only at hSw); go_simp; (try with_reducible rfl)
      try simp only [Act.put, List.setIfInBounds_toArray, List.set_cons_zero, List.set_cons_succ]
      refine wpAnyH_takeD (i := 2) (v := ?_) (some 35) rfl rfl (by kernel_rfl) (by kernel_rfl) (by kernel_rfl) (fun _ _ _ h => h) (Or.inl ⟨by rfl, ?_⟩) (by assumption) ?_
      rotate_left
      · intro w hSw; (try dsimp only at hSw); go_simp; (try with_reducible rfl)
      try simp only [Act.put, List.setIfInBounds_toArray, List.set_cons_zero, List.set_cons_succ]
      refine wpAnyH_takeD (i := 3) (v := ?_) (some 36) rfl rfl (by kernel_rfl) (by kernel_rfl) (by kernel_rfl) (fun _ _ _ h => h) (Or.inl ⟨by rfl, ?_⟩) (by assumption) ?_
      rotate_left
      · intro w hSw; (try dsimp only at hSw); go_simp; (try with_reducible rfl)
      try simp only [Act.put, List.setIfInBounds_toArray, List.set_cons_zero, List.set_cons_succ]
      refine wpAnyH_takeD (i := 4) (v := ?_) (some 37) rfl rfl (by kernel_rfl) (by kernel_rfl) (by kernel_rfl) (fun _ _ _ h => h) (Or.inl ⟨by rfl, ?_⟩) (by assumption) ?_
      rotate_left
      · intro w hSw; (try dsimp only at hSw); go_simp; (try with_reducible rfl)
      try simp only [Act.put, List.setIfInBounds_toArray, List.set_cons_zero, List.set_cons_succ]
      refine wpAnyH_takeD (i := 5) (v := ?_) (some 38) rfl rfl (by kernel_rfl) (by kernel_rfl) (by kernel_rfl) (fun _ _ _ h => h) (Or.inl ⟨by rfl, ?_⟩) (by assumption) ?_
      rotate_left
      · intro w hSw; (try dsimp only at hSw); go_simp; (try with_reducible rfl)
      try simp only [Act.put, List.setIfInBounds_toArray, List.set_cons_zero, List.set_cons_succ]
      refine wpAnyH_takeD (i := 6) (v := ?_) (some 39) rfl rfl (by kernel_rfl) (by kernel_rfl) (by kernel_rfl) (fun _ _ _ h => h) (Or.inl ⟨by rfl, ?_⟩) (by assumption) ?_
      rotate_left
      · intro w hSw; (try dsimp only at hSw); go_simp; (try with_reducible rfl)
      try simp only [Act.put, List.setIfInBounds_toArray, List.set_cons_zero, List.set_cons_succ]
      refine wpAnyH_takeD (i := 7) (v := ?_) (some 40) rfl rfl (by kernel_rfl) (by kernel_rfl) (by kernel_rfl) (fun _ _ _ h => h) (Or.inl ⟨by rfl, ?_⟩) (by assumption) ?_
      rotate_left
      · intro w hSw; (try dsimp only at hSw); go_simp; (try with_reducible rfl)
      try simp only [Act.put, List.setIfInBounds_toArray, List.set_cons_zero, List.set_cons_succ]
      refine wpAnyH_takeD (i := 8) (v := ?_) (some 41) rfl rfl (by kernel_rfl) (by kernel_rfl) (by kernel_rfl) (fun _ _ _ h => h) (Or.inl ⟨by rfl, ?_⟩) (by assumption) ?_
      rotate_left
      · intro w hSw; (try dsimp only at hSw); go_simp; (try with_reducible rfl)
      try simp only [Act.put, List.setIfInBounds_toArray, List.set_cons_zero, List.set_cons_succ]
      refine wpAnyH_takeD (i := 9) (v := ?_) (some 42) rfl rfl (by kernel_rfl) (by kernel_rfl) (by kernel_rfl) (fun _ _ _ h => h) (Or.inl ⟨by rfl, ?_⟩) (by assumption) ?_
      rotate_left
      · intro w hSw; (try dsimp only at hSw); go_simp; (try with_reducible rfl)
      try simp only [Act.put, List.setIfInBounds_toArray, List.set_cons_zero, List.set_cons_succ]
      refine wpAnyH_takeD (i := 10) (v := ?_) (some 43) rfl rfl (by kernel_rfl) (by kernel_rfl) (by kernel_rfl) (fun _ _ _ h => h) (Or.inl ⟨by rfl, ?_⟩) (by assumption) ?_
      rotate_left
      · intro w hSw; (try dsimp only at hSw); go_simp; (try with_reducible rfl)
      try simp only [Act.put, List.setIfInBounds_toArray, List.set_cons_zero, List.set_cons_succ]
      refine wpAnyH_takeD (i := 11) (v := ?_) (some 44) rfl rfl (by kernel_rfl) (by kernel_rfl) (by kernel_rfl) (fun _ _ _ h => h) (Or.inl ⟨by rfl, ?_⟩) (by assumption) ?_
      rotate_left
      · intro w hSw; (try dsimp only at hSw); go_simp; (try with_reducible rfl)
      try simp only [Act.put, List.setIfInBounds_toArray, List.set_cons_zero, List.set_cons_succ]
      refine wpAnyH_takeD (i := 12) (v := ?_) (some 9) rfl rfl (by kernel_rfl) (by kernel_rfl) (by kernel_rfl) (fun _ _ _ h => h) (Or.inl ⟨by rfl, ?_⟩) (by assumption) ?_
      rotate_left
      · intro w hSw; (try dsimp only at hSw); go_simp; (try with_reducible rfl)
      try simp only [Act.put, List.setIfInBounds_toArray, List.set_cons_zero, List.set_cons_succ]
      refine wpAnyH_done (by kernel_rfl) ?_ _
      refine NoPanic.normal ?_
      go_upto_region 7 with (go_at_call 98; refine (H98R.out _ HWR.out.drew).mono ?_; rintro e w6 ⟨rfl, HB6⟩)
      have HW6 := Lib.hid (show Below w.heap.size w w6 from bstep HWR.out.drew HB6.out)
      obtain ⟨y0, y1, y2⟩ := HWV.out w6 HW6.out
      go_cut [62] from 29 to 89 (fun u wx => u = .bool mt ∧ wx = w6)
      case first =>
        by_cases a1 : pn = 1
        · go_wp2
          go_meet
          exact ⟨by rw [HMT.out]; simp [a1], rfl⟩
        · by_cases a2 : wv = 2
          · go_wp2
            go_meet
            exact ⟨by rw [HMT.out]; simp [a1, a2], rfl⟩
          · go_wp2
            go_meet
            exact ⟨by rw [HMT.out]; simp [a1, a2], rfl⟩
      case rest =>
        obtain ⟨rfl, hwc⟩ := hcut
        have hwc := hwc.symm
        subst hwc
        obtain ⟨th2, hth2⟩ : ∃ b, b = (th || (mt && !(decide (pn = 0) && cv))) := ⟨_, rfl⟩
        obtain ⟨rp2, hrp2⟩ : ∃ b, b = (rp || (mt && (decide (pn = 0) && cv))) := ⟨_, rfl⟩
        have HTH := Lib.hid hth2
        have HRP := Lib.hid hrp2
        clear hth2 hrp2
        have H17 := Lib.hid (contains_val x.b x.cb d.rep.length d.rep pt w6 rfl (by omega) ((HR0.out w6 HW6.out).2.2.2.2.mono HW6.out.size) cv HCV.out)
        go_upto_if 62 with fail
        go_cut [5, 6, 10] from 29 to 89 (fun a b c wy => a = .bool th2 ∧ b = .bool rp2 ∧ c = .int .i64 (N : Int) ∧ Hid (Below w6.heap.size w6 wy))
        case first =>
          cases mt
          · go_wp2
            go_meet
            exact ⟨by rw [HTH.out]; simp, by rw [HRP.out]; simp, by rw [HNN.out]; simp, Lib.hid (Below.refl _ _)⟩
          · by_cases a1 : pn = 0
            · cases cv
              · go_wp2_with (go_at_call 17; refine H17.out.mono ?_; rintro e w7 ⟨rfl, HB7⟩)
                go_meet
                exact ⟨by rw [HTH.out]; simp [a1], by rw [HRP.out]; simp [a1], by rw [HNN.out]; simp [a1], HB7⟩
              · go_wp2_with (go_at_call 17; refine H17.out.mono ?_; rintro e w7 ⟨rfl, HB7⟩)
                go_meet
                exact ⟨by rw [HTH.out]; simp [a1], by rw [HRP.out]; simp [a1], by rw [HNN.out]; simp [a1], HB7⟩
            · go_wp2
              go_meet
              exact ⟨by rw [HTH.out]; simp [a1], by rw [HRP.out]; simp [a1], by rw [HNN.out]; simp [a1], Lib.hid (Below.refl _ _)⟩
        case rest =>
          obtain ⟨rfl, rfl, rfl, HBY⟩ := hcut
          have HRC := Lib.hid (show Below wr.heap.size wr wc from bstep (bstep (Below.refl _ _).drew HB6.out) HBY.out)
          have HKC := Lib.hid (HKR.out.1.below HRC.out HKR.out.1.lt)
          have HS11 := Lib.hid (show ∀ X, Below wc.heap.size wc X → X.cell? ⟨g4, 2, none⟩ = some (.slice vA ps.length vc) from fun X hX => by
            have z := (HKC.out.below hX HKC.out.lt).cell 2
            simp at z
            exact z)
          have HVR := Lib.hid (show ∀ X, Below wc.heap.size wc X → X.ownsRow B5 3 1 (.slice vA ps.length vc) ps.length (ps.map (Value.int .i64)) ∧ B5 ≤ X.heap.size from fun X hX => ⟨own_belowV (own_belowV HKR.out.2 HRC.out) hX, by have h1 := hX.size; have h2 := HRC.out.size; have h3 := HOF.out.size; have h4 := HBZ.out.1; omega⟩)
          have HK9 := Lib.hid (show ∀ X Y, Below wc.heap.size wc X → X.grownBy Y (Value.slice vA ps.length vc).ownBlock → Blk Y g4 44 #[.int .i64 (k : Int), .int .i64 (zn : Int), .slice vA ps.length vc, .bool rt] from fun X Y hX hY => (HKC.out.below hX HKC.out.lt).grown hY (fun e => by
            have h1 := own_at2 (HVR.out X hX).1 e.symm
            have h2 := HBZ.out.2.1
            omega))
          have H83 := Lib.hid (show Calls Try.prog 83 #[.slice (some ⟨wc.heap.size, 0, none⟩) 1 1, .int .i64 (N : Int)] ((wc.alloc (.cells #[.int .i64 pt] 3)).drew) fun e w' => ∃ gN, e = .returned (.slice (some ⟨gN, 0, none⟩) N N) ∧ Hid (Blk w' gN 3 (List.replicate N (Value.int .i64 pt)).toArray) ∧ Hid (Below wc.heap.size wc w') from by
            refine (repeat_all (some ⟨wc.heap.size, 0, none⟩) 1 pt N ((wc.alloc (.cells #[.int .i64 pt] 3)).drew) (by omega) (fun _ => ⟨wc.heap.size, 0, rfl, by show wc.heap.size < (wc.alloc _).heap.size; simp, ?_⟩)).mono ?_
            · intro i y hy j u hu
              match i, hy with
              | 0, hy =>
                simp at hy
                subst hy
                match j, hu with
                | 0, hu =>
                  simp [encInt] at hu
                  subst hu
                  simp
                | j + 1, hu => simp [encInt] at hu
              | i + 1, hy => simp at hy
            · rintro e w' ⟨gN, h1, h2, h3, h4⟩
              exact ⟨gN, h1, Lib.hid h3, Lib.hid (bstep (balR (Below.refl _ _) _).drew h4)⟩)
          have HOFC := Lib.hid (show Off2 w.heap.size g4 g4 w5 wc from HOF.out.below HRC.out)
          go_upto_region 11 with fail
          refine wp_region_noPanic ?_
          refine wp_region_T (S := (fun W => W.cell? ⟨g4, 2, none⟩ = some (.slice vA ps.length vc))) (T := (fun _ => True)) 8 (by kernel_rfl) ?_ (fun hHeld hHeldT => ?_)
          · (try dsimp only); (exact ⟨HS11.out _ (Below.refl _ _).drew, trivial⟩)
          refine wpAnyT_takeW (i := 0) (v := ?_) (some 74) rfl rfl (by kernel_rfl) (by kernel_rfl) (by kernel_rfl) (by kernel_rfl) (fun _ _ _ h => h) (Or.inl ⟨by rfl, ?_⟩) (by assumption) (by assumption) ?_
          rotate_left
          · intro w hSw; (try dsimp only at hSw); go_simp; (try with_reducible rfl)
          try simp only [Act.put, List.setIfInBounds_toArray, List.set_cons_zero, List.set_cons_succ]
          refine wpAnyT_takeD (i := 1) (v := ?_) (some 75) rfl rfl (by kernel_rfl) (by kernel_rfl) (by kernel_rfl) (by kernel_rfl) (fun _ _ _ h => h) (Or.inl ⟨by rfl, ?_⟩) (by assumption) (by assumption) ?_
          rotate_left
          · intro w hSw; (try dsimp only at hSw); go_simp; (try with_reducible rfl)
          try simp only [Act.put, List.setIfInBounds_toArray, List.set_cons_zero, List.set_cons_succ]
          refine wpAnyT_takeW (i := 2) (v := ?_) (some 76) rfl rfl (by kernel_rfl) (by kernel_rfl) (by kernel_rfl) (by kernel_rfl) (fun _ _ _ h => h) (Or.inl ⟨by rfl, ?_⟩) (by assumption) (by assumption) ?_
          rotate_left
          · intro w hSw; (try dsimp only at hSw); go_simp; (try with_reducible rfl)
          try simp only [Act.put, List.setIfInBounds_toArray, List.set_cons_zero, List.set_cons_succ]
          refine wpAnyT_takeW (i := 4) (v := ?_) (some 78) rfl rfl (by kernel_rfl) (by kernel_rfl) (by kernel_rfl) (by kernel_rfl) (fun _ _ _ h => h) (Or.inl ⟨by rfl, ?_⟩) (by assumption) (by assumption) ?_
          rotate_left
          · intro w hSw; (try dsimp only at hSw); go_simp; (try with_reducible rfl)
          try simp only [Act.put, List.setIfInBounds_toArray, List.set_cons_zero, List.set_cons_succ]
          refine wpAnyT_ready (rs := [3]) (by kernel_rfl) (by simp) ?_
          refine AllReadyT.cons rfl (fun K hK => ?_) AllReadyT.nil
          go_simp
          refine hK.out _ _ ?_ (fun hHeld hHeldT => ?_)
          · (try dsimp only); (exact ⟨HS11.out _ (by repeat (with_reducible first | exact Below.refl _ _ | refine Below.drew ?_ | refine balR ?_ _)), trivial⟩)
          clear hK K
          try simp only [List.getElem_toArray, List.getElem_cons_succ, List.getElem_cons_zero]
          try simp only [Act.put, List.setIfInBounds_toArray, List.set_cons_zero, List.set_cons_succ]
          refine wpAnyT_ready (rs := [5]) (by kernel_rfl) (by simp) ?_
          refine AllReadyT.cons rfl (fun K hK => ?_) AllReadyT.nil
          (go_simp; go_at_call 83; with_reducible refine (H83.out).mono ?_; rintro e w8 ⟨gN, rfl, HGN, HB8⟩; go_wp2_with fail)
          refine hK.out _ _ ?_ (fun hHeld hHeldT => ?_)
          · (try dsimp only); (exact ⟨HS11.out _ HB8.out, trivial⟩)
          clear hK K
          try simp only [List.getElem_toArray, List.getElem_cons_succ, List.getElem_cons_zero]
          try simp only [Act.put, List.setIfInBounds_toArray, List.set_cons_zero, List.set_cons_succ]
          refine wpAnyT_ready (rs := [6]) (by kernel_rfl) (by simp) ?_
          refine AllReadyT.cons rfl (fun K hK => ?_) AllReadyT.nil
          (refine step_append_at rfl (.tmp 75) (.tmp 79) 22 rfl B5 3 iT _ 1 8 Try.underlying22 HI.out hz0 hz1 hz2 rfl (by decide) (.slice vA ps.length vc) ps.length (ps.map (Value.int .i64)) (by rfl) (HVR.out _ HB8.out).1 ⟨gN, 0, none⟩ N N (List.replicate N (Value.int .i64 pt)) (by rfl) (by simp) (fun j u hu => World.news_of_block HGN.out j u (by simpa using hu)) (by intro u hu; rw [(List.mem_replicate.1 hu).2]; rfl) (by simp only [maxLen]; omega) (by omega) (HVR.out _ HB8.out).2 ?_; intro v9 w9 hown9 hg9; obtain ⟨A9, cc9, hv9⟩ := own_shape hown9; subst hv9; have H9 := Lib.hid (show w9.ownsRow B5 3 1 (.slice A9 (ps.length + N) cc9) (ps.length + N) (ps.map (Value.int .i64) ++ List.replicate N (Value.int .i64 pt)) ∧ w8.grownBy w9 (Value.slice vA ps.length vc).ownBlock from ⟨hown9, hg9⟩); clear hown9 hg9; have k9 := HK9.out _ _ HB8.out H9.out.2; have c9 := k9.cell 2; have f9 := k9.frozen 2; have K9 := Lib.hid k9; simp at c9; clear k9)
          refine hK.out _ _ ?_ (fun hHeld hHeldT => ?_)
          · (try dsimp only); (exact ⟨c9, trivial⟩)
          clear hK K
          try simp only [List.getElem_toArray, List.getElem_cons_succ, List.getElem_cons_zero]
          try simp only [Act.put, List.setIfInBounds_toArray, List.set_cons_zero, List.set_cons_succ]
          refine wpAnyT_takeW (i := 7) (v := ?_) (some 81) rfl rfl (by kernel_rfl) (by kernel_rfl) (by kernel_rfl) (by kernel_rfl) (fun _ _ _ h => h) (Or.inl ⟨by rfl, ?_⟩) (by assumption) (by assumption) ?_
          rotate_left
          · intro w hSw; (try dsimp only at hSw); go_simp; (try with_reducible rfl)
          try simp only [Act.put, List.setIfInBounds_toArray, List.set_cons_zero, List.set_cons_succ]
          refine wpAnyT_ready (rs := [8]) (by kernel_rfl) (by simp) ?_
          refine AllReadyT.past rfl (by kernel_rfl) (fun K hK => ?_)
          go_simp
          refine hK.out _ _ ?_ ?_
          · (try dsimp only); (try exact trivial)
          clear hK K
          try simp only [List.getElem_toArray, List.getElem_cons_succ, List.getElem_cons_zero]
          try simp only [Act.put, List.setIfInBounds_toArray, List.set_cons_zero, List.set_cons_succ]
          refine wpAnyT_done (by kernel_rfl) ?_ _
          refine NoPanic.normal ?_
          obtain ⟨w10, hw10⟩ : ∃ W, W = w9.setCell ⟨g4, 2, none⟩ (.slice A9 (ps.length + N) cc9) := ⟨_, rfl⟩
          rw [← hw10]
          have hl9 : (ps ++ List.replicate N pt).length = ps.length + N := by simp
          have HK10 := Lib.hid (show Blk w10 g4 44 #[.int .i64 (k : Int), .int .i64 (zn : Int), .slice A9 (ps.length + N) cc9, .bool rt] from by rw [hw10]; exact K9.out.set_ 2 _)
          have HO10 := Lib.hid (show w10.ownsRow B5 3 1 (.slice A9 (ps.length + N) cc9) (ps.length + N) (ps.map (Value.int .i64) ++ List.replicate N (Value.int .i64 pt)) from by rw [hw10]; exact ownsRow_setCell_below H9.out.1 (a := ⟨g4, 2, none⟩) (by have := HBZ.out.2.1; dsimp only; omega) _)
          have HOF10 := Lib.hid (show Off2 w.heap.size g4 g4 w5 w10 from by
            rw [hw10]
            have h3 := HBZ.out
            refine Off2.setP ?_ (by omega) _ _
            have h1 := HOFC.out.below HB8.out
            refine ⟨h1.1, h1.2.1.grown H9.out.2 (Nat.le_trans h1.1 h1.2.1.size) (fun j hj => by have := own_at2 (HVR.out _ HB8.out).1 hj; omega), fun j hj n1 n2 => (H9.out.2.block j (Nat.lt_of_lt_of_le hj h1.size) (fun e => by have := own_at2 (HVR.out _ HB8.out).1 e.symm; omega)).trans (h1.2.2 j hj n1 n2)⟩)
          have z3 := HK10.out.cell 3
          have f3 := HK10.out.frozen 3
          simp at z3
          have HREL := Lib.hid (show ∀ b, (rt && decide ((N : Int) = 1)) = b → ∃ (q2 : Nat) (ps2 : List Int) (rt2 th3 rp3 : Bool) (vA2 : Option Addr) (vc2 : Nat), q2 ≤ np ∧ Value.bool th2 = .bool th3 ∧ Value.bool rp2 = .bool rp3 ∧ Value.int .i64 ((q : Int) + 1) = .int .i64 (q2 : Int) ∧ Hid (cpL d (putS fs k) (pl.take q2) = ⟨ps2, rt2, th3, rp3⟩) ∧
              Hid (Blk (w10.setCell ⟨g4, 3, none⟩ (.bool b)) g4 44 #[.int .i64 (k : Int), .int .i64 (zn : Int), .slice vA2 ps2.length vc2, .bool rt2] ∧ (w10.setCell ⟨g4, 3, none⟩ (.bool b)).ownsRow B5 3 1 (.slice vA2 ps2.length vc2) ps2.length (ps2.map (Value.int .i64))) ∧ Hid (Off2 w.heap.size g4 g4 w5 (w10.setCell ⟨g4, 3, none⟩ (.bool b))) from fun b hb => by
            refine ⟨q + 1, ps ++ List.replicate N pt, b, th2, rp2, A9, cc9, by omega, rfl, rfl, by simp, Lib.hid ?_, Lib.hid ⟨?_, ?_⟩, Lib.hid (HOF10.out.setP (by have := HBZ.out; omega) _ _)⟩
            · rw [HST.out, hb, HTH.out, HRP.out]
            · rw [hl9]; exact HK10.out.set_ 3 _
            · rw [hl9, List.map_append, List.map_replicate]; exact ownsRow_setCell_below HO10.out (a := ⟨g4, 3, none⟩) (by have := HBZ.out.2.1; dsimp only; omega) _)
          clear hw10 HB8 c9 f9 hl9
          cases rt
          · go_wp2
            go_roundw
            case rel => exact HREL.out false rfl
            case measure => simp [intOf]; omega
          · by_cases n1 : N = 1
            · subst n1
              go_wp2
              go_roundw
              case rel => exact HREL.out true (by simp)
              case measure => simp [intOf]; omega
            · have n2 : ¬ ((N : Int) = 1) := by omega
              go_wp2
              go_roundw
              case rel => exact HREL.out (decide ((N : Int) = 1)) (by simp)
              case measure => simp [intOf]; omega
    · obtain rfl : q = np := by omega
      have t1 : decide ((q : Int) < (q : Int)) = false := by simp
      have htl : pl.take q = pl := by rw [HNP.out]; exact List.take_length
      rw [htl] at HCP
      have HE9 := Lib.hid (show s9 = ⟨ps, rt, th, rp⟩ from by rw [HS9.out]; exact HCP.out)
      have z0 := HKR.out.1.cell 0
      have z1 := HKR.out.1.cell 1
      have z2 := HKR.out.1.cell 2
      have z3 := HKR.out.1.cell 3
      have f0 := HKR.out.1.frozen 0
      have f1 := HKR.out.1.frozen 1
      have f2 := HKR.out.1.frozen 2
      have f3 := HKR.out.1.frozen 3
      simp at z0 z1 z2 z3
      go_wp2
      obtain ⟨X, hX⟩ : ∃ X, X = (((wr.setCell ⟨g4, 0, none⟩ (.int .i64 (k : Int))).setCell ⟨g4, 1, none⟩ (.int .i64 (zn : Int))).setCell ⟨g4, 2, none⟩ (.slice vA ps.length vc)).setCell ⟨g4, 3, none⟩ (.bool rt) := ⟨_, rfl⟩
      rw [← hX]
      have HKX := Lib.hid (show Blk X g4 44 #[.int .i64 (k : Int), .int .i64 (zn : Int), .slice vA ps.length vc, .bool rt] from by rw [hX]; exact (((HKR.out.1.set_ 0 _).set_ 1 _).set_ 2 _).set_ 3 _)
      have HOX := Lib.hid (show X.ownsRow B5 3 1 (.slice vA ps.length vc) ps.length (ps.map (Value.int .i64)) from by
        rw [hX]
        have h1 := HBZ.out.2.1
        exact ownsRow_setCell_below (ownsRow_setCell_below (ownsRow_setCell_below (ownsRow_setCell_below HKR.out.2 (a := ⟨g4, 0, none⟩) (by dsimp only; omega) _) (a := ⟨g4, 1, none⟩) (by dsimp only; omega) _) (a := ⟨g4, 2, none⟩) (by dsimp only; omega) _) (a := ⟨g4, 3, none⟩) (by dsimp only; omega) _)
      have HWX := Lib.hid (show Below w.heap.size w X from by
        rw [hX]
        have h1 := HBZ.out.2.2
        exact (((HWR.out.setCell (p := ⟨g4, 0, none⟩) (by dsimp only; omega) _).setCell (p := ⟨g4, 1, none⟩) (by dsimp only; omega) _).setCell (p := ⟨g4, 2, none⟩) (by dsimp only; omega) _).setCell (p := ⟨g4, 3, none⟩) (by dsimp only; omega) _)
      have z0 := HKX.out.cell 0
      have z1 := HKX.out.cell 1
      have z2 := HKX.out.cell 2
      have z3 := HKX.out.cell 3
      simp at z0 z1 z2 z3
      clear hX
      have he := HE9.out
      clear HE9
      subst he
      refine bodyPost_ret (v := .tuple #[.agg #[.int .i64 (k : Int), .int .i64 (zn : Int), .slice vA ps.length vc, .bool rt], .bool th, .bool rp]) ?_ rfl ⟨vA, vc, ?_, Lib.hid (own_low HOX.out ?_), HWX⟩
      · simp [results, Try.f47, Try.results47, go_sem, z0, z1, z2, z3]
      · rw [HZA.out]
      · have := HBZ.out; omega
end Go.Proofs.Ytfejedmpplbmjaa
