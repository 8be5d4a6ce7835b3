/- Contract of copied; conditions: a press of few webs and reels in memory. Printed by a program. -/
import Derived.Test.YtnbnfadmbggfnaaUI
import Derived.Test.YtnbnfadmbggfnaaQT
import Derived.Deep.DeepCutAuto
set_option linter.unusedSimpArgs false
set_option linter.unusedVariables false
namespace Go.Proofs.Ytnbnfadmbggfnaa
open Go.RowKit Go.Fh Go.Rl
theorem infoWeb41 : (Try.prog.info? 41).map (fun i => (i.zero, i.size, i.bytes)) = some (some (.agg #[.slice none 0 0, .int .i64 0, .int .i64 0, .int .i64 0]), 4, 48) := by kernel_rfl
theorem infoWeb181 : (Try.prog.info? 181).map (fun i => (i.zero, i.size, i.bytes)) = some (some (.agg #[.slice none 0 0, .int .i64 0, .int .i64 0, .int .i64 0]), 4, 48) := by kernel_rfl
set_option maxRecDepth 20000 in
set_option maxHeartbeats 16000000 in
theorem copied_any (p : PrsD) (A : Option Addr) (c m : Nat) (ms : List WebM) (w : World) (hT : PrsAt w w.heap.size p A ms) (hm : m = ms.length) (h8 : p.webs.length ≤ 8) (h30 : ∀ v ∈ p.webs, v.reels.length ≤ 30) :
    Calls Try.prog 66 #[.agg #[.int .i64 p.cut, .int .i64 p.margin, .slice A m c]] w fun e w' => ∃ (AO : Option Addr) (cO : Nat) (AR : Option Addr) (cR : Nat) (mo mr : List WebM), e = .returned (.tuple #[.agg #[.int .i64 p.cut, .int .i64 p.margin, .slice AO m cO], .agg #[.int .i64 p.cut, .int .i64 p.margin, .slice AR m cR]]) ∧ Hid (PrsAt w' w'.heap.size p AO mo ∧ PrsAt w' w'.heap.size p AR mr) ∧ Hid (Below w.heap.size w w') := by
  obtain ⟨wa, gT, HWa, HGT, HBa, HTPa, HTCa⟩ := mp_box 26 p w A c ms w hT m hm
  obtain ⟨w1, hw1⟩ : ∃ W, W = (wa.alloc (.cells #[.int .i64 0, .int .i64 0, .slice none 0 0] 26)).alloc (.cells #[.int .i64 0, .int .i64 0, .slice none 0 0] 131) := ⟨_, rfl⟩
  obtain ⟨g2, hg2⟩ : ∃ g, g = gT + 1 := ⟨_, rfl⟩
  obtain ⟨g3, hg3⟩ : ∃ g, g = gT + 1 + 1 := ⟨_, rfl⟩
  have hga : wa.heap.size = gT + 1 := by rw [HWa.out, HGT.out]; simp
  have k2 : Blk w1 g2 26 #[.int .i64 0, .int .i64 0, .slice none 0 0] := by rw [hw1, hg2]; exact (blkAt hga 26 _).alloc _
  have k3 : Blk w1 g3 131 #[.int .i64 0, .int .i64 0, .slice none 0 0] := by rw [hw1, hg3]; exact blkAt (by simp [hga]) 131 _
  have hba1 : Below wa.heap.size wa w1 := by rw [hw1]; exact balR (balR (Below.refl _ _) _) _
  have HTP := Lib.hid (fun W (hb : Below w1.heap.size w1 W) => HTPa.out W (hba1.trans (hb.mono hba1.size)))
  have HTC := Lib.hid (fun W (hb : Below w1.heap.size w1 W) => HTCa.out W (hba1.trans (hb.mono hba1.size)))
  have HB1 := Lib.hid (bstep HBa.out hba1)
  have hml : m = p.webs.length := by rw [hm, hT.len]
  have hm8 : m ≤ 8 := by omega
  have HM := Lib.hid hm
  have HML := Lib.hid hml
  have H30 := Lib.hid h30
  have HW1 := Lib.hid hw1
  have HG2 := Lib.hid hg2
  have HG3 := Lib.hid hg3
  have HK2 := Lib.hid k2
  have HK3 := Lib.hid k3
  have HGW := Lib.hid (show w.heap.size ≤ g2 ∧ w.heap.size ≤ g3 from by have := HGT.out; omega)
  obtain ⟨r0, r1, r2⟩ := HTC.out w1 (Below.refl _ _)
  obtain ⟨iT, hi, hz0, hz1, hz2⟩ := info_parts infoWeb41
  obtain ⟨iR, hi2, xz0, xz1, xz2⟩ := info_parts infoWeb181
  obtain ⟨iL, hi3, yz0, yz1, yz2⟩ := info_parts infoReel182
  have HI := Lib.hid hi
  have HI2 := Lib.hid hi2
  have HI3 := Lib.hid hi3
  obtain ⟨B, hB⟩ : ∃ g, g = w1.heap.size := ⟨_, rfl⟩
  have HBE := Lib.hid hB
  have HSB := Lib.hid (show ∀ W, Below w1.heap.size w1 W → W.cell? ⟨gT, 0, none⟩ = some (.int .i64 p.cut) ∧ W.cell? ⟨gT, 1, none⟩ = some (.int .i64 p.margin) from fun W hb => ⟨(HTC.out W hb).1, (HTC.out W hb).2.1⟩)
  clear hT hm hml hw1 hg2 hg3 k2 k3 hba1 hi hi2 hi3 hga h30 h8 hB HTPa HTCa HBa
  go_enter Try.func66, Try.ntmps66
  go_upto_region 1 with fail
  rw [← HWa.out, ← HGT.out]
  rw [← HW1.out, ← HG3.out, ← HG2.out]
  go_cut [4, 5] (fun x y wx => ∃ g4 g5 : Nat, x = .pointer (some ⟨g4, 0, none⟩) ∧ y = .pointer (some ⟨g5, 0, none⟩) ∧ Hid (CpyM B w1 wx p g4 g5 0 0 none 0 none 0 [] []))
  case first =>
    go_region_held3 (fun W => W.cell? ⟨gT, 0, none⟩ = some (.int .i64 p.cut) ∧ W.cell? ⟨gT, 1, none⟩ = some (.int .i64 p.margin))
      (exact HSB.out _ (by (repeat (with_reducible first | exact Below.refl _ _ | refine Below.drew ?_ | refine balR ?_ _ | refine bset ?_ (by simp) _ _))))
      (fail)
    all_goals go_wp2_with fail
    all_goals go_meet
    · have hb := HBE.out
      refine ⟨_, _, rfl, rfl, Lib.hid ⟨((Blk.new w1 26 _).alloc _).drew, (blkAt (by simp) 131 _).drew, RowsOf.nil _ _ _ _, RowsOf.nil _ _ _ _, ?_, by omega, by omega, by omega⟩⟩
      rw [hb]
      exact (balR (balR (Below.refl _ _) _) _).drew
    · have hb := HBE.out
      refine ⟨_, _, rfl, rfl, Lib.hid ⟨(blkAt (by simp) 26 _).drew, ((Blk.new w1 131 _).alloc _).drew, RowsOf.nil _ _ _ _, RowsOf.nil _ _ _ _, ?_, by omega, by omega, by omega⟩⟩
      rw [hb]
      exact (balR (balR (Below.refl _ _) _) _).drew
  case rest =>
    obtain ⟨g4, g5, rfl, rfl, HM0⟩ := hcut
    obtain ⟨r0, r1, r2⟩ := HTC.out _ (by rw [← HBE.out]; exact HM0.out.bel)
    go_wp2_with fail
    clear r0 r1 r2
    go_loopw [24] (fun u wr => ∃ (k : Nat) (AO : Option Addr) (cO : Nat) (AR : Option Addr) (cR : Nat) (mo mr : List WebM), k ≤ m ∧ u = .int .i64 (k : Int) ∧ Hid (CpyM B w1 wr p g4 g5 k k AO cO AR cR mo mr)) (fun u _ => m - (intOf u).toNat)
    case atStart => exact ⟨0, none, 0, none, 0, [], [], Nat.zero_le _, rfl, HM0⟩
    case round =>
      clear HM0
      obtain ⟨k, AO, cO, AR, cR, mo, mr, hk, rfl, HMW⟩ := hrel
      have HBL := Lib.hid (show Below w1.heap.size w1 wr from by rw [← HBE.out]; exact HMW.out.bel)
      by_cases hlt : k < m
      · have hkp : k < p.webs.length := by have := HML.out; omega
        obtain ⟨v, vA, vc, b, off, HV, HR, hba, HC⟩ := web_box HTP.out (by have := HM.out; omega) hkp
        obtain ⟨c0, c1, c2, c3⟩ := HC.out _ HBL.out
        subst hba
        have hv30 := H30.out v (by rw [HV.out]; exact List.getElem_mem hkp)
        obtain ⟨nv, hnv⟩ : ∃ n, n = v.reels.length := ⟨_, rfl⟩
        rw [← hnv] at c0 hv30
        have HNV := Lib.hid hnv
        obtain ⟨w7, g7, HW7, HG7, hb7, HK7⟩ := wv_box 41 v vA nv vc wr
        have HM7 := Lib.hid (HMW.out.below hb7.out)
        have HB7 := Lib.hid (show Below w1.heap.size w1 w7 from by rw [← HBE.out]; exact HM7.out.bel)
        have H104 := Lib.hid (show ∀ W, Below w7.heap.size w7 W → Calls Try.prog 104 #[.slice vA nv vc] W fun e w' => ∃ A' c', e = .returned (.slice A' nv c') ∧ w'.ownsRow B 54 4 (.slice A' nv c') nv (v.reels.flatMap encReel) ∧ Below W.heap.size W w' from fun W hb => by
          have h1 := cloneReels_any vA vc v.reels W (by omega) (HR.out W (HB7.out.trans (hb.mono HB7.out.size)))
          rw [← hnv] at h1
          refine h1.mono ?_
          rintro e w' ⟨A', c', he, ho, hbb⟩
          exact ⟨A', c', he, World.ownsRow.mono ho (Nat.le_trans HM7.out.low hb.size), hbb⟩)
        have i0 : (0 : Int) ≤ (k : Int) := by omega
        have i1 : (k : Int) < (m : Int) := by omega
        have hm1 : k + 1 ≤ maxLen := by simp only [maxLen]; omega
        have hm2 : (k + 1) * 48 ≤ 140737488355328 := by omega
        have HSQ := Lib.hid (show ∀ X, Below w7.heap.size w7 X → X.cell? ⟨g4, 2, none⟩ = some (.slice AO k cO) ∧ X.cell? ⟨g7, 0, none⟩ = some (.slice vA nv vc) ∧ X.cell? ⟨g7, 1, none⟩ = some (.int .i64 v.off) ∧ X.cell? ⟨g7, 2, none⟩ = some (.int .i64 v.bef) ∧ X.cell? ⟨g7, 3, none⟩ = some (.int .i64 v.aft) from fun X hX => ⟨(HM7.out.below hX).cells.1.2.2, wv_cells (HK7.out.below hX HK7.out.lt)⟩)
        have HAP := Lib.hid (show ∀ (W w9 : World) (A1 : Option Addr) (c1 g9 cap9 : Nat), Below w7.heap.size w7 W → W.grownBy w9 (Value.slice AO k cO).ownBlock → w9.ownsRow B 41 4 (.slice (some ⟨g9, 0, none⟩) (k + 1) cap9) (k + 1) (mo.flatMap encWeb ++ [.slice A1 nv c1, .int .i64 v.off, .int .i64 v.bef, .int .i64 v.aft]) → W.ownsRow B 54 4 (.slice A1 nv c1) nv (v.reels.flatMap encReel) →
            Blk w9 g4 26 #[.int .i64 p.cut, .int .i64 p.margin, .slice AO k cO] ∧ (w9.cell? ⟨g4, 2, none⟩ = some (.slice AO k cO) ∧ w9.cell? ⟨g7, 0, none⟩ = some (.slice vA nv vc) ∧ w9.cell? ⟨g7, 1, none⟩ = some (.int .i64 v.off) ∧ w9.cell? ⟨g7, 2, none⟩ = some (.int .i64 v.bef) ∧ w9.cell? ⟨g7, 3, none⟩ = some (.int .i64 v.aft)) ∧
            CpyM B w1 (w9.setCell ⟨g4, 2, none⟩ (.slice (some ⟨g9, 0, none⟩) (k + 1) cap9)) p g4 g5 (k + 1) k (some ⟨g9, 0, none⟩) cap9 AR cR (mo ++ [(v, (A1, c1))]) mr ∧ Blk (w9.setCell ⟨g4, 2, none⟩ (.slice (some ⟨g9, 0, none⟩) (k + 1) cap9)) g7 41 #[.slice vA nv vc, .int .i64 v.off, .int .i64 v.bef, .int .i64 v.aft] from fun W w9 A1 c1 g9 cap9 hb hg ho hr => by
          have hM := HM7.out.below hb
          have k4 := hM.k4.grown hg (own_blk_ne hM.o.row hM.k4 (by decide))
          have hk7 := HK7.out.below hb HK7.out.lt
          have hs4 : g4 < w7.heap.size := HM7.out.k4.lt
          have n47 : g4 ≠ g7 := Blk.ne_ HM7.out.k4 HK7.out (by decide)
          have k7 : Blk w9 g7 41 #[.slice vA nv vc, .int .i64 v.off, .int .i64 v.bef, .int .i64 v.aft] := by
            refine hk7.grown hg (fun e => ?_)
            have h1 := HMW.out.o.row
            have h2 := (h1.lt g7 e.symm).2
            have h3 := HG7.out
            omega
          have q2 := k4.cell 2
          simp at q2
          rw [HNV.out] at ho hr
          exact ⟨k4, ⟨q2, wv_cells k7⟩, hM.push_o hkp HV.out hg ho hr, k7.far (p := ⟨g4, 2, none⟩) (fun e => n47 e.symm) _⟩)
        have HSZ7 := Lib.hid HM7.out.low
        clear hnv hb7
        go_upto_region 5 with fail
        rw [← HW7.out, ← HG7.out]
        clear c0 c1 c2 c3
        refine wp_region_noPanic ?_
        refine wp_region_T (S := (fun X => X.cell? ⟨g4, 2, none⟩ = some (.slice AO k cO) ∧ X.cell? ⟨g7, 0, none⟩ = some (.slice vA nv vc) ∧ X.cell? ⟨g7, 1, none⟩ = some (.int .i64 v.off) ∧ X.cell? ⟨g7, 2, none⟩ = some (.int .i64 v.bef) ∧ X.cell? ⟨g7, 3, none⟩ = some (.int .i64 v.aft))) (T := (fun _ => True)) 15 (by kernel_rfl) ?_ (fun hHeld hHeldT => ?_)
        · (try dsimp only); (exact ⟨HSQ.out _ ((Below.refl _ _).drew), trivial⟩)
        refine wpAnyT_takeW (i := 0) (v := ?_) (some 28) rfl rfl (by kernel_rfl) (by kernel_rfl) (by kernel_rfl) (by kernel_rfl) (fun _ _ _ h => h) (Or.inl ⟨by rfl, ?_⟩) (by assumption) (by assumption) ?_
        rotate_left
        · intro w hSw; (try dsimp only at hSw); go_simp; (try with_reducible rfl)
        try simp only [Act.put, List.setIfInBounds_toArray, List.set_cons_zero, List.set_cons_succ]
        refine wpAnyT_takeD (i := 1) (v := ?_) (some 29) rfl rfl (by kernel_rfl) (by kernel_rfl) (by kernel_rfl) (by kernel_rfl) (fun _ _ _ h => h) (Or.inl ⟨by rfl, ?_⟩) (by assumption) (by assumption) ?_
        rotate_left
        · intro w hSw; (try dsimp only at hSw); go_simp; (try with_reducible rfl)
        try simp only [Act.put, List.setIfInBounds_toArray, List.set_cons_zero, List.set_cons_succ]
        refine wpAnyT_takeW (i := 2) (v := ?_) (some 30) rfl rfl (by kernel_rfl) (by kernel_rfl) (by kernel_rfl) (by kernel_rfl) (fun _ _ _ h => h) (Or.inl ⟨by rfl, ?_⟩) (by assumption) (by assumption) ?_
        rotate_left
        · intro w hSw; (try dsimp only at hSw); go_simp; (try with_reducible rfl)
        try simp only [Act.put, List.setIfInBounds_toArray, List.set_cons_zero, List.set_cons_succ]
        refine wpAnyT_takeD (i := 3) (v := ?_) (some 31) rfl rfl (by kernel_rfl) (by kernel_rfl) (by kernel_rfl) (by kernel_rfl) (fun _ _ _ h => h) (Or.inl ⟨by rfl, ?_⟩) (by assumption) (by assumption) ?_
        rotate_left
        · intro w hSw; (try dsimp only at hSw); go_simp; (try with_reducible rfl)
        try simp only [Act.put, List.setIfInBounds_toArray, List.set_cons_zero, List.set_cons_succ]
        refine wpAnyT_takeW (i := 5) (v := ?_) (some 33) rfl rfl (by kernel_rfl) (by kernel_rfl) (by kernel_rfl) (by kernel_rfl) (fun _ _ _ h => h) (Or.inl ⟨by rfl, ?_⟩) (by assumption) (by assumption) ?_
        rotate_left
        · intro w hSw; (try dsimp only at hSw); go_simp; (try with_reducible rfl)
        try simp only [Act.put, List.setIfInBounds_toArray, List.set_cons_zero, List.set_cons_succ]
        refine wpAnyT_takeD (i := 6) (v := ?_) (some 34) rfl rfl (by kernel_rfl) (by kernel_rfl) (by kernel_rfl) (by kernel_rfl) (fun _ _ _ h => h) (Or.inl ⟨by rfl, ?_⟩) (by assumption) (by assumption) ?_
        rotate_left
        · intro w hSw; (try dsimp only at hSw); go_simp; (try with_reducible rfl)
        try simp only [Act.put, List.setIfInBounds_toArray, List.set_cons_zero, List.set_cons_succ]
        refine wpAnyT_takeW (i := 7) (v := ?_) (some 35) rfl rfl (by kernel_rfl) (by kernel_rfl) (by kernel_rfl) (by kernel_rfl) (fun _ _ _ h => h) (Or.inl ⟨by rfl, ?_⟩) (by assumption) (by assumption) ?_
        rotate_left
        · intro w hSw; (try dsimp only at hSw); go_simp; (try with_reducible rfl)
        try simp only [Act.put, List.setIfInBounds_toArray, List.set_cons_zero, List.set_cons_succ]
        refine wpAnyT_takeD (i := 8) (v := ?_) (some 36) rfl rfl (by kernel_rfl) (by kernel_rfl) (by kernel_rfl) (by kernel_rfl) (fun _ _ _ h => h) (Or.inl ⟨by rfl, ?_⟩) (by assumption) (by assumption) ?_
        rotate_left
        · intro w hSw; (try dsimp only at hSw); go_simp; (try with_reducible rfl)
        try simp only [Act.put, List.setIfInBounds_toArray, List.set_cons_zero, List.set_cons_succ]
        refine wpAnyT_takeW (i := 9) (v := ?_) (some 37) rfl rfl (by kernel_rfl) (by kernel_rfl) (by kernel_rfl) (by kernel_rfl) (fun _ _ _ h => h) (Or.inl ⟨by rfl, ?_⟩) (by assumption) (by assumption) ?_
        rotate_left
        · intro w hSw; (try dsimp only at hSw); go_simp; (try with_reducible rfl)
        try simp only [Act.put, List.setIfInBounds_toArray, List.set_cons_zero, List.set_cons_succ]
        refine wpAnyT_takeD (i := 10) (v := ?_) (some 38) rfl rfl (by kernel_rfl) (by kernel_rfl) (by kernel_rfl) (by kernel_rfl) (fun _ _ _ h => h) (Or.inl ⟨by rfl, ?_⟩) (by assumption) (by assumption) ?_
        rotate_left
        · intro w hSw; (try dsimp only at hSw); go_simp; (try with_reducible rfl)
        try simp only [Act.put, List.setIfInBounds_toArray, List.set_cons_zero, List.set_cons_succ]
        refine wpAnyT_ready (rs := [4]) (by kernel_rfl) (by simp) ?_
        refine AllReadyT.cons rfl (fun K hK => ?_) AllReadyT.nil
        (go_simp; go_at_call 104; with_reducible refine (H104.out _ (by repeat (with_reducible first | exact Below.refl _ _ | refine Below.drew ?_))).mono ?_; rintro e wc ⟨A1, c1, rfl, ho1, hb1⟩; have HO1 := Lib.hid ho1; have HBc := Lib.hid (show Below w7.heap.size w7 wc from bstep ((Below.refl w7.heap.size w7).drew) hb1); clear ho1 hb1; go_wp2_with fail)
        refine hK.out _ _ ?_ (fun hHeld hHeldT => ?_)
        · (try dsimp only); (exact ⟨HSQ.out _ (by repeat (with_reducible first | exact Below.refl _ _ | exact HBc.out | refine Below.drew ?_ | refine balR ?_ _)), trivial⟩)
        clear hK K
        try simp only [List.getElem_toArray, List.getElem_cons_succ, List.getElem_cons_zero]
        try simp only [Act.put, List.setIfInBounds_toArray, List.set_cons_zero, List.set_cons_succ]
        refine wpAnyT_takeW (i := 11) (v := ?_) (some 39) rfl rfl (by kernel_rfl) (by kernel_rfl) (by kernel_rfl) (by kernel_rfl) (fun _ _ _ h => h) (Or.inl ⟨by rfl, ?_⟩) (by assumption) (by assumption) ?_
        rotate_left
        · intro w hSw; (try dsimp only at hSw); go_simp; (try with_reducible rfl)
        try simp only [Act.put, List.setIfInBounds_toArray, List.set_cons_zero, List.set_cons_succ]
        refine wpAnyT_ready (rs := [12]) (by kernel_rfl) (by simp) ?_
        refine AllReadyT.cons rfl (fun K hK => ?_) AllReadyT.nil
        go_simp
        refine hK.out _ _ ?_ (fun hHeld hHeldT => ?_)
        · (try dsimp only); (exact ⟨HSQ.out _ (by repeat (with_reducible first | exact Below.refl _ _ | exact HBc.out | refine Below.drew ?_ | refine balR ?_ _)), trivial⟩)
        clear hK K
        try simp only [List.getElem_toArray, List.getElem_cons_succ, List.getElem_cons_zero]
        try simp only [Act.put, List.setIfInBounds_toArray, List.set_cons_zero, List.set_cons_succ]
        refine wpAnyT_ready (rs := [13]) (by kernel_rfl) (by simp) ?_
        refine AllReadyT.cons rfl (fun K hK => ?_) AllReadyT.nil
        (refine step_append_lies _ rfl (.tmp 29) (.tmp 40) 24 rfl B 41 iT _ 4 48 Try.underlying24 HI.out hz0 hz1 hz2 rfl (by decide) (.slice AO k cO) k (mo.flatMap encWeb) (by rfl) ((HM7.out.below (by repeat (with_reducible first | exact Below.refl _ _ | exact HBc.out | refine Below.drew ?_ | refine balR ?_ _))).o.row) _ 1 1 [.slice A1 nv c1, .int .i64 v.off, .int .i64 v.bef, .int .i64 v.aft] (by rfl) rfl (World.news_of_block (cs := #[.slice A1 nv c1, .int .i64 v.off, .int .i64 v.bef, .int .i64 v.aft]) (t := 41) (fr := (0, 0)) (by show Blk _ _ 41 #[.slice A1 nv c1, .int .i64 v.off, .int .i64 v.bef, .int .i64 v.aft]; repeat (first | exact Blk.new _ _ _ | refine Blk.drew ?_))) (by intro u hu; simp at hu; rcases hu with rfl | rfl | rfl | rfl <;> rfl) (by decide) hm1 hm2 (by have h1 := HSZ7.out; have h2 := HBc.out.size; simp; omega) _ rfl ?_; intro g9 cap9 w9 hown9 hgrow9 hat9 hlt9; have h9 := HAP.out _ w9 A1 c1 g9 cap9 (by repeat (with_reducible first | exact Below.refl _ _ | exact HBc.out | refine Below.drew ?_ | refine balR ?_ _)) hgrow9 hown9 (own_belowV HO1.out (by repeat (with_reducible first | exact Below.refl _ _ | refine Below.drew ?_ | refine balR ?_ _))); have H9 := Lib.hid h9; have k49 := h9.1; have kf9 := k49.frozen 2; clear h9 hgrow9 hown9 hat9 hlt9)
        refine hK.out _ _ ?_ (fun hHeld hHeldT => ?_)
        · (try dsimp only); (exact ⟨H9.out.2.1, trivial⟩)
        clear hK K
        try simp only [List.getElem_toArray, List.getElem_cons_succ, List.getElem_cons_zero]
        try simp only [Act.put, List.setIfInBounds_toArray, List.set_cons_zero, List.set_cons_succ]
        refine wpAnyT_takeW (i := 14) (v := ?_) (some 42) rfl rfl (by kernel_rfl) (by kernel_rfl) (by kernel_rfl) (by kernel_rfl) (fun _ _ _ h => h) (Or.inl ⟨by rfl, ?_⟩) (by assumption) (by assumption) ?_
        rotate_left
        · intro w hSw; (try dsimp only at hSw); go_simp; (try with_reducible rfl)
        try simp only [Act.put, List.setIfInBounds_toArray, List.set_cons_zero, List.set_cons_succ]
        refine wpAnyT_ready (rs := [15]) (by kernel_rfl) (by simp) ?_
        refine AllReadyT.past rfl (by kernel_rfl) (fun K hK => ?_)
        go_simp
        refine hK.out _ _ ?_ ?_
        · (try dsimp only); (try exact trivial)
        clear hK K
        try simp only [List.getElem_toArray, List.getElem_cons_succ, List.getElem_cons_zero]
        try simp only [Act.put, List.setIfInBounds_toArray, List.set_cons_zero, List.set_cons_succ]
        refine wpAnyT_done (by kernel_rfl) ?_ _
        refine NoPanic.normal ?_
        obtain ⟨wx, hwx⟩ : ∃ W, W = w9.setCell ⟨g4, 2, none⟩ (.slice (some ⟨g9, 0, none⟩) (k + 1) cap9) := ⟨_, rfl⟩
        have HMX := Lib.hid (show CpyM B w1 wx p g4 g5 (k + 1) k (some ⟨g9, 0, none⟩) cap9 AR cR (mo ++ [(v, (A1, c1))]) mr from by rw [hwx]; exact H9.out.2.2.1)
        have HKX := Lib.hid (show Blk wx g7 41 #[.slice vA nv vc, .int .i64 v.off, .int .i64 v.bef, .int .i64 v.aft] from by rw [hwx]; exact H9.out.2.2.2)
        rw [← hwx]
        clear hwx
        have HBX := Lib.hid (show Below w1.heap.size w1 wx from by rw [← HBE.out]; exact HMX.out.bel)
        obtain ⟨y0, y1, y2, y3⟩ := wv_cells HKX.out
        obtain ⟨w8, g8, HW8, HG8, HB8, HK8⟩ := wv_box 181 v none 0 0 wx
        have HK78 := Lib.hid (HKX.out.below HB8.out HKX.out.lt)
        go_upto_region 7 with fail
        rw [← HW8.out, ← HG8.out]
        clear y0 y1 y2 y3
        obtain ⟨y0, y1, y2, y3⟩ := wv_cells HK78.out
        go_wp2_with fail
        clear y0 y1 y2 y3
        go_loopw [53] (fun u wq => ∃ (j : Nat) (A8 : Option Addr) (c8 : Nat), j ≤ nv ∧ u = .int .i64 (j : Int) ∧ Hid (Blk wq g8 181 #[.slice A8 j c8, .int .i64 v.off, .int .i64 v.bef, .int .i64 v.aft]) ∧ Hid (wq.ownsRow wx.heap.size 182 4 (.slice A8 j c8) j ((v.reels.take j).flatMap encReel)) ∧ Hid (Below wx.heap.size wx wq)) (fun u _ => nv - (intOf u).toNat)
        case atStart => exact ⟨0, none, 0, Nat.zero_le _, rfl, HK8, Lib.hid (World.ownsRow_nil _ _ _ _), HB8⟩
        case round =>
          obtain ⟨j, A8, c8, hj, rfl, HK, HO, HBQ⟩ := hrel
          obtain ⟨z0, z1, z2, z3⟩ := wv_cells HK.out
          have HBQ1 := Lib.hid (HBX.out.trans (HBQ.out.mono HBX.out.size))
          by_cases hltj : j < nv
          · have hjl : j < v.reels.length := by have := HNV.out; omega
            obtain ⟨b, off, hba, hbb, c0, c1', c2, c3⟩ := reel_at (HR.out _ HBQ1.out) hjl
            obtain ⟨r, hr⟩ : ∃ r, r = v.reels[j] := ⟨_, rfl⟩
            rw [← hr] at c0 c1' c2 c3
            have HTK := Lib.hid (show (v.reels.take (j + 1)).flatMap encReel = (v.reels.take j).flatMap encReel ++ encReel r from by rw [List.take_succ_eq_append_getElem hjl, ← hr, List.flatMap_append]; simp)
            subst hba
            obtain ⟨gz, hgz⟩ : ∃ g, g = wr.heap.size := ⟨_, rfl⟩
            obtain ⟨wz, hwz⟩ : ∃ W, W = wr.alloc (.cells #[.int .i64 r.id, .int .i64 r.width, .int .i64 r.len, .int .i64 r.core] 54) := ⟨_, rfl⟩
            have kz : Blk wz gz 54 #[.int .i64 r.id, .int .i64 r.width, .int .i64 r.len, .int .i64 r.core] := by rw [hwz, hgz]; exact Blk.new _ _ _
            have hbz : Below wr.heap.size wr wz := by rw [hwz]; exact balR (Below.refl _ _) _
            have HBZ := Lib.hid (bstep HBQ.out hbz)
            have HKZ := Lib.hid (HK.out.below hbz HK.out.lt)
            have HOZ := Lib.hid (own_belowV HO.out hbz)
            have x0 := kz.cell 0
            have x1 := kz.cell 1
            have x2 := kz.cell 2
            have x3 := kz.cell 3
            simp at x0 x1 x2 x3
            have HWZ := Lib.hid hwz
            have HGZ := Lib.hid hgz
            have j0 : (0 : Int) ≤ (j : Int) := by omega
            have j1 : (j : Int) < (nv : Int) := by omega
            have hn1 : j + 1 ≤ maxLen := by simp only [maxLen]; omega
            have hn2 : (j + 1) * 32 ≤ 140737488355328 := by omega
            have HG8S := Lib.hid (show wx.heap.size ≤ g8 from by rw [HG8.out]; exact Nat.le_refl _)
            clear hr hbb hgz hwz kz hbz z0 z1 z2 z3
            go_upto_region 10 with fail
            rw [← HWZ.out, ← HGZ.out]
            clear c0 c1' c2 c3
            obtain ⟨z0, z1, z2, z3⟩ := wv_cells HKZ.out
            have hszz := HBZ.out.size
            go_wp2_with (at_builtin; refine wpList_append_lies _ rfl (.tmp 58) (.tmp 60) 179 rfl wx.heap.size 182 iL _ 4 32 Try.underlying179 HI3.out yz0 yz1 yz2 rfl (by decide) (.slice A8 j c8) j ((v.reels.take j).flatMap encReel) rfl (HOZ.out.alloc _) ⟨wz.heap.size, 0, none⟩ 1 1 [.int .i64 r.id, .int .i64 r.width, .int .i64 r.len, .int .i64 r.core] rfl rfl (news_of1 wz 182 #[.int .i64 r.id, .int .i64 r.width, .int .i64 r.len, .int .i64 r.core]) (by intro u hu; simp at hu; rcases hu with rfl | rfl | rfl | rfl <;> rfl) (by decide) hn1 hn2 (by simp; omega) (wz.heap.size + 1) (by simp) ?_; intro g9 c9 w9 hown9 hg9 hat9 hlt9; have H9 := Lib.hid hown9; have HG9 := Lib.hid hg9; have hk9 := Blk.grown (HKZ.out.alloc _) hg9 (own_blk_ne HOZ.out HKZ.out (by decide)); have HK9 := Lib.hid hk9; have kf := hk9.frozen 0; have m0 := hk9.cell 0; simp at m0; clear hown9 hg9 hat9 hlt9 hk9)
            go_roundw
            case rel =>
              refine ⟨j + 1, some ⟨g9, 0, none⟩, c9, by omega, by go_num, Lib.hid ?_, Lib.hid ?_, Lib.hid ?_⟩
              · simpa using HK9.out.set_ 0 (.slice (some ⟨g9, 0, none⟩) (j + 1) c9)
              · rw [HTK.out]
                exact own_kept2 H9.out (gr_set _ g8 0 _) (.inr fun e => own_blk_ne H9.out HK9.out (by decide) e.symm)
              · have hb := (balR HBZ.out (.cells #[.int .i64 r.id, .int .i64 r.width, .int .i64 r.len, .int .i64 r.core] 182)).grown HG9.out (balR HBZ.out _).size (fun q hq => (own_at HOZ.out hq).2)
                exact bset hb HG8S.out _ _
            case measure => simp [intOf]; omega
          · obtain rfl : j = nv := by omega
            have HMQ := Lib.hid (HMX.out.below HBQ.out)
            have HOB := Lib.hid (show wr.ownsRow B 182 4 (.slice A8 v.reels.length c8) v.reels.length (v.reels.flatMap encReel) from by
              have h := HO.out
              rw [HNV.out, List.take_length] at h
              exact World.ownsRow.mono h HMX.out.low)
            obtain ⟨-, -, -, d2⟩ := HMQ.out.cells
            have hlow := HMQ.out.low
            go_wp2_with (at_builtin; refine wpList_append_lies _ rfl (.tmp 65) (.tmp 67) 129 rfl B 181 iR _ 4 48 Try.underlying129 HI2.out xz0 xz1 xz2 rfl (by decide) (.slice AR k cR) k (mr.flatMap encWeb) rfl (HMQ.out.r.row.alloc _) ⟨wr.heap.size, 0, none⟩ 1 1 [.slice A8 j c8, .int .i64 v.off, .int .i64 v.bef, .int .i64 v.aft] rfl rfl (news_of1 wr 181 #[.slice A8 j c8, .int .i64 v.off, .int .i64 v.bef, .int .i64 v.aft]) (by intro u hu; simp at hu; rcases hu with rfl | rfl | rfl | rfl <;> rfl) (by decide) hm1 hm2 (by simp; omega) (wr.heap.size + 1) (by simp) ?_; intro gq cq w9 hown9 hg9 hat9 hlt9; have H9 := Lib.hid hown9; have HG9 := Lib.hid hg9; have hM9 := HMQ.out.below (balR (Below.refl wr.heap.size wr) (.cells #[.slice A8 j c8, .int .i64 v.off, .int .i64 v.bef, .int .i64 v.aft] 181)); have hk9 := hM9.k5.grown hg9 (own_blk_ne hM9.r.row hM9.k5 (by decide)); have HK9 := Lib.hid hk9; have kf := hk9.frozen 2; have m0 := hk9.cell 2; simp at m0; clear hown9 hg9 hat9 hlt9 hk9 hM9)
            go_roundw
            case rel =>
              refine ⟨k + 1, some ⟨g9, 0, none⟩, cap9, some ⟨gq, 0, none⟩, cq, mo ++ [(v, (A1, c1))], mr ++ [(v, (A8, c8))], by omega, by go_num, Lib.hid ?_⟩
              have hM9 := HMQ.out.below (balR (Below.refl wr.heap.size wr) (.cells #[.slice A8 j c8, .int .i64 v.off, .int .i64 v.bef, .int .i64 v.aft] 181))
              have ho := H9.out
              rw [HNV.out] at ho
              exact hM9.push_r hkp HV.out HG9.out ho (HOB.out.alloc _)
            case measure => simp [intOf]; omega
      · obtain rfl : k = m := by omega
        have htk : p.webs.take k = p.webs := List.take_of_length_le (by rw [HML.out]; exact Nat.le_refl _)
        have ho := HMW.out.o
        have hr := HMW.out.r
        rw [htk] at ho hr
        have k2 := HK2.out.below HBL.out HK2.out.lt
        have k3 := HK3.out.below HBL.out HK3.out.lt
        have n23 : g2 ≠ g3 := Blk.ne_ HK2.out HK3.out (by decide)
        have hO3 := rows3 (rows3 ho k2 (by decide) (by decide) (.int .i64 p.cut) (.int .i64 p.margin) (.slice AO k cO)) (far3 k3 (fun e => n23 e.symm) (.int .i64 p.cut) (.int .i64 p.margin) (.slice AO k cO)) (by decide) (by decide) (.int .i64 p.cut) (.int .i64 p.margin) (.slice AR k cR)
        have hR3 := rows3 (rows3 hr k2 (by decide) (by decide) (.int .i64 p.cut) (.int .i64 p.margin) (.slice AO k cO)) (far3 k3 (fun e => n23 e.symm) (.int .i64 p.cut) (.int .i64 p.margin) (.slice AO k cO)) (by decide) (by decide) (.int .i64 p.cut) (.int .i64 p.margin) (.slice AR k cR)
        have HKA := Lib.hid (far3 (blk3 k2 (.int .i64 p.cut) (.int .i64 p.margin) (.slice AO k cO)) n23 (.int .i64 p.cut) (.int .i64 p.margin) (.slice AR k cR))
        have HKB := Lib.hid (blk3 (far3 k3 (fun e => n23 e.symm) (.int .i64 p.cut) (.int .i64 p.margin) (.slice AO k cO)) (.int .i64 p.cut) (.int .i64 p.margin) (.slice AR k cR))
        have HPA := Lib.hid hO3.prs
        have HPB := Lib.hid hR3.prs
        have hbw := HB1.out.trans (HBL.out.mono HB1.out.size)
        have HFB := Lib.hid (bset (bset (bset (bset (bset (bset hbw HGW.out.1 0 (.int .i64 p.cut)) HGW.out.1 1 (.int .i64 p.margin)) HGW.out.1 2 (.slice AO k cO)) HGW.out.2 0 (.int .i64 p.cut)) HGW.out.2 1 (.int .i64 p.margin)) HGW.out.2 2 (.slice AR k cR))
        have n24 : g2 ≠ g4 := by have h1 := HK2.out.lt; have h2 := HMW.out.l4; have h3 := HBE.out; omega
        have n25 : g2 ≠ g5 := by have h1 := HK2.out.lt; have h2 := HMW.out.l5; have h3 := HBE.out; omega
        have n34 : g3 ≠ g4 := by have h1 := HK3.out.lt; have h2 := HMW.out.l4; have h3 := HBE.out; omega
        have n35 : g3 ≠ g5 := by have h1 := HK3.out.lt; have h2 := HMW.out.l5; have h3 := HBE.out; omega
        have n45 : g4 ≠ g5 := Blk.ne_ HMW.out.k4 HMW.out.k5 (by decide)
        have e20 := k2.cell 0
        have e21 := k2.cell 1
        have e22 := k2.cell 2
        have e30 := k3.cell 0
        have e31 := k3.cell 1
        have e32 := k3.cell 2
        simp at e20 e21 e22 e30 e31 e32
        have f20 := k2.frozen 0
        have f21 := k2.frozen 1
        have f22 := k2.frozen 2
        have f30 := k3.frozen 0
        have f31 := k3.frozen 1
        have f32 := k3.frozen 2
        obtain ⟨⟨a0, a1, a2⟩, b0, b1, b2⟩ := HMW.out.cells
        have HCE := Lib.hid (show ∀ X, Below w1.heap.size w1 X ∧ Blk X g4 26 #[.int .i64 p.cut, .int .i64 p.margin, .slice AO k cO] ∧ Blk X g5 131 #[.int .i64 p.cut, .int .i64 p.margin, .slice AR k cR] → True from fun _ _ => trivial)
        clear htk ho hr k2 k3 hO3 hR3 hbw
        go_wp2_with fail
        go_region_law (fail)
        all_goals
          go_wp2_with fail
          refine bodyPost_ret (v := .tuple #[.agg #[.int .i64 p.cut, .int .i64 p.margin, .slice AO k cO], .agg #[.int .i64 p.cut, .int .i64 p.margin, .slice AR k cR]]) ?_ rfl ⟨AO, cO, AR, cR, mo, mr, rfl, ?_, ?_⟩
          · have kA := HKA.out
            have kB := HKB.out
            have qa0 := kA.cell 0
            have qa1 := kA.cell 1
            have qa2 := kA.cell 2
            have qb0 := kB.cell 0
            have qb1 := kB.cell 1
            have qb2 := kB.cell 2
            simp at qa0 qa1 qa2 qb0 qb1 qb2
            clear kA kB HKA HKB HPA HPB HFB e20 e21 e22 e30 e31 e32 f20 f21 f22 f30 f31 f32 a0 a1 a2 b0 b1 b2
            generalize World.setCell _ _ _ = W at qa0 qa1 qa2 qb0 qb1 qb2 ⊢
            simp [results, Try.results66, go_sem, qa0, qa1, qa2, qb0, qb1, qb2]
          · with_reducible exact Lib.hid ⟨HPA.out.step ((Below.refl _ _).drew), HPB.out.step ((Below.refl _ _).drew)⟩
          · with_reducible exact Lib.hid (HFB.out.drew)
end Go.Proofs.Ytnbnfadmbggfnaa
