/- Contracts of Fewest and Best; conditions: lengths that a title has. -/
import Derived.Test.YtokdleanpkkdpaaS4
set_option linter.unusedSimpArgs false
set_option linter.unusedVariables false
namespace Go.Ed
/-- what the search finds -/
def bestR (t : TitD) (time : Bool) : Best := dfs t (edsR t) time ((edsR t).length + 1) [] 0 none none
end Go.Ed
namespace Go.Proofs.Ytokdleanpkkdpaa
open Go.RowKit Go.Fh Go.Ed
section
set_option maxRecDepth 20000 in
set_option maxHeartbeats 2000000 in
theorem best_bad (t : TitD) (x : TA) (zs : List ZonM) (w : World) (hs : Sizes t) (hT : TitAt w w.heap.size t x zs) (hc : checkT t ≠ 0) :
    Calls Try.prog 33 #[.agg (titV t x)] w fun e w' => e = .returned (.tuple #[.slice none 0 0, .int .i64 0, .int .i64 (checkT t)]) ∧ Below w.heap.size w w' := by
  obtain ⟨w1, hw1⟩ : ∃ W, W = w.alloc (.cells (titV t x) 26) := ⟨_, rfl⟩
  have hb1 : Below w.heap.size w w1 := by rw [hw1]; exact (Below.refl _ _).alloc (Nat.le_refl _) _
  obtain ⟨gT, hgT⟩ : ∃ g, g = w.heap.size := ⟨_, rfl⟩
  have kT : Blk w1 gT 26 (titV t x) := by rw [hw1, hgT]; exact Blk.new _ _ _
  have HCK := Lib.hid (open_bad t x zs w1 hs ((hT.below hb1).mono hb1.size) hc)
  have r0 := kT.cell 0
  have r1 := kT.cell 1
  have r2 := kT.cell 2
  have r3 := kT.cell 3
  have r4 := kT.cell 4
  have r5 := kT.cell 5
  have r6 := kT.cell 6
  have r7 := kT.cell 7
  simp [titV] at r0 r1 r2 r3 r4 r5 r6 r7
  obtain ⟨ck, hck⟩ : ∃ c, c = checkT t := ⟨_, rfl⟩
  rw [← hck] at HCK hc ⊢
  have ht : (ck != 0) = true := by simpa using hc
  have HB1 := Lib.hid hb1
  have HW1 := Lib.hid hw1
  have HGT := Lib.hid hgT
  clear hb1 hw1 hgT kT hT hs hc hck
  unfold titV at *
  go_enter Try.func33, Try.ntmps33
  go_upto_region 1 with fail
  rw [← HW1.out, ← HGT.out]
  go_wp2_with (go_at_call 61; refine HCK.out.mono ?_; rintro e w2 ⟨rfl, hb2⟩; have HB2 := Lib.hid hb2; clear hb2)
  go_ret3
  exact ⟨rfl, HB1.out.trans (HB2.out.mono HB1.out.size)⟩
set_option maxRecDepth 20000 in
set_option maxHeartbeats 2000000 in
theorem fewest_bad (t : TitD) (x : TA) (zs : List ZonM) (w : World) (hs : Sizes t) (hT : TitAt w w.heap.size t x zs) (hc : checkT t ≠ 0) :
    Calls Try.prog 32 #[.agg (titV t x)] w fun e w' => e = .returned (.tuple #[.slice none 0 0, .int .i64 0, .int .i64 (checkT t)]) ∧ Below w.heap.size w w' := by
  obtain ⟨w1, hw1⟩ : ∃ W, W = w.alloc (.cells (titV t x) 26) := ⟨_, rfl⟩
  have hb1 : Below w.heap.size w w1 := by rw [hw1]; exact (Below.refl _ _).alloc (Nat.le_refl _) _
  obtain ⟨gT, hgT⟩ : ∃ g, g = w.heap.size := ⟨_, rfl⟩
  have kT : Blk w1 gT 26 (titV t x) := by rw [hw1, hgT]; exact Blk.new _ _ _
  have HCK := Lib.hid (open_bad t x zs w1 hs ((hT.below hb1).mono hb1.size) hc)
  have r0 := kT.cell 0
  have r1 := kT.cell 1
  have r2 := kT.cell 2
  have r3 := kT.cell 3
  have r4 := kT.cell 4
  have r5 := kT.cell 5
  have r6 := kT.cell 6
  have r7 := kT.cell 7
  simp [titV] at r0 r1 r2 r3 r4 r5 r6 r7
  obtain ⟨ck, hck⟩ : ∃ c, c = checkT t := ⟨_, rfl⟩
  rw [← hck] at HCK hc ⊢
  have ht : (ck != 0) = true := by simpa using hc
  have HB1 := Lib.hid hb1
  have HW1 := Lib.hid hw1
  have HGT := Lib.hid hgT
  clear hb1 hw1 hgT kT hT hs hc hck
  unfold titV at *
  go_enter Try.func32, Try.ntmps32
  go_upto_region 1 with fail
  rw [← HW1.out, ← HGT.out]
  go_wp2_with (go_at_call 61; refine HCK.out.mono ?_; rintro e w2 ⟨rfl, hb2⟩; have HB2 := Lib.hid hb2; clear hb2)
  go_ret3
  exact ⟨rfl, HB1.out.trans (HB2.out.mono HB1.out.size)⟩
set_option maxRecDepth 20000 in
set_option maxHeartbeats 4000000 in
theorem best_none (t : TitD) (x : TA) (zs : List ZonM) (w : World) (hs : Sizes t) (hT : TitAt w w.heap.size t x zs) (hc : checkT t = 0) (hb : bestR t true = none) :
    Calls Try.prog 33 #[.agg (titV t x)] w fun e w' => e = .returned (.tuple #[.slice none 0 0, .int .i64 0, .int .i64 4]) ∧ Below w.heap.size w w' := by
  have HBR := Lib.hid hb
  clear hb
  have HCH := Lib.hid (chk_ok hc)
  obtain ⟨w1, hw1⟩ : ∃ W, W = w.alloc (.cells (titV t x) 26) := ⟨_, rfl⟩
  have hb1 : Below w.heap.size w w1 := by rw [hw1]; exact (Below.refl _ _).alloc (Nat.le_refl _) _
  obtain ⟨gT, hgT⟩ : ∃ g, g = w.heap.size := ⟨_, rfl⟩
  have kT : Blk w1 gT 26 (titV t x) := by rw [hw1, hgT]; exact Blk.new _ _ _
  have HCK := Lib.hid (open_any t x zs w1 hs ((hT.below hb1).mono hb1.size) hc)
  have r0 := kT.cell 0
  have r1 := kT.cell 1
  have r2 := kT.cell 2
  have r3 := kT.cell 3
  have r4 := kT.cell 4
  have r5 := kT.cell 5
  have r6 := kT.cell 6
  have r7 := kT.cell 7
  simp [titV] at r0 r1 r2 r3 r4 r5 r6 r7
  have HB1 := Lib.hid hb1
  have HW1 := Lib.hid hw1
  have HGT := Lib.hid hgT
  clear hb1 hw1 hgT kT hT hs hc
  unfold titV at *
  go_enter Try.func33, Try.ntmps33
  go_upto_region 1 with fail
  rw [← HW1.out, ← HGT.out]
  go_upto_region 5 with first
    | (go_at_call 61; refine HCK.out.mono ?_; rintro e w2 ⟨k, rfl, hk, hb2⟩; have HK := Lib.hid hk; have HB2 := Lib.hid (HB1.out.trans (hb2.mono HB1.out.size)); clear hb2 hk)
    | (go_at_call 82; refine (search_any t x k w1.heap.size w2 HCH.out HK.out true).mono ?_; rintro e w3 ⟨⟨ba, bn, bc, bp, bf, rfl, hbs, hbn⟩, hb3⟩; rw [HK.out.len] at hbs hbn ⊢; have HBS := Lib.hid hbs; have HBN := Lib.hid hbn; have HB3 := Lib.hid (HB2.out.trans (hb3.mono HB2.out.size)); have HZ := Lib.hid HB2.out.size; clear hbs hbn hb3)
  rw [show dfs t (edsR t) true ((edsR t).length + 1) [] 0 none none = none from HBR.out]
  go_wp2_with fail
  go_ret3
  exact ⟨rfl, HB3.out.alloc (by exact HB3.out.size) _⟩
set_option maxRecDepth 20000 in
set_option maxHeartbeats 4000000 in
theorem best_some (t : TitD) (x : TA) (zs : List ZonM) (w : World) (hs : Sizes t) (hT : TitAt w w.heap.size t x zs) (hc : checkT t = 0) (ob : List Nat) (p f : Int) (hb : bestR t true = some (ob, p, f)) :
    Calls Try.prog 33 #[.agg (titV t x)] w fun e w' => ∃ A' c', e = .returned (.tuple #[.slice A' ob.length c', .int .i64 p, .int .i64 0]) ∧ w'.ownsRow w.heap.size 3 1 (.slice A' ob.length c') ob.length (intsV ob) ∧ 0 < ob.length ∧ Below w.heap.size w w' := by
  have HBR := Lib.hid hb
  clear hb
  have HCH := Lib.hid (chk_ok hc)
  obtain ⟨w1, hw1⟩ : ∃ W, W = w.alloc (.cells (titV t x) 26) := ⟨_, rfl⟩
  have hb1 : Below w.heap.size w w1 := by rw [hw1]; exact (Below.refl _ _).alloc (Nat.le_refl _) _
  obtain ⟨gT, hgT⟩ : ∃ g, g = w.heap.size := ⟨_, rfl⟩
  have kT : Blk w1 gT 26 (titV t x) := by rw [hw1, hgT]; exact Blk.new _ _ _
  have HCK := Lib.hid (open_any t x zs w1 hs ((hT.below hb1).mono hb1.size) hc)
  have r0 := kT.cell 0
  have r1 := kT.cell 1
  have r2 := kT.cell 2
  have r3 := kT.cell 3
  have r4 := kT.cell 4
  have r5 := kT.cell 5
  have r6 := kT.cell 6
  have r7 := kT.cell 7
  simp [titV] at r0 r1 r2 r3 r4 r5 r6 r7
  have HB1 := Lib.hid hb1
  have HW1 := Lib.hid hw1
  have HGT := Lib.hid hgT
  clear hb1 hw1 hgT kT hT hs hc
  unfold titV at *
  go_enter Try.func33, Try.ntmps33
  go_upto_region 1 with fail
  rw [← HW1.out, ← HGT.out]
  go_upto_region 5 with first
    | (go_at_call 61; refine HCK.out.mono ?_; rintro e w2 ⟨k, rfl, hk, hb2⟩; have HK := Lib.hid hk; have HB2 := Lib.hid (HB1.out.trans (hb2.mono HB1.out.size)); clear hb2 hk)
    | (go_at_call 82; refine (search_any t x k w1.heap.size w2 HCH.out HK.out true).mono ?_; rintro e w3 ⟨⟨ba, bn, bc, bp, bf, rfl, hbs, hbn⟩, hb3⟩; rw [HK.out.len] at hbs hbn ⊢; have HBS := Lib.hid hbs; have HBN := Lib.hid hbn; have HB3 := Lib.hid (HB2.out.trans (hb3.mono HB2.out.size)); have HZ := Lib.hid HB2.out.size; clear hbs hbn hb3)
  rw [show dfs t (edsR t) true ((edsR t).length + 1) [] 0 none none = some (ob, p, f) from HBR.out]
  obtain ⟨hbp, hbf, hop, hbn2, hor⟩ := HBS.out ob p f HBR.out
  subst hbp hbf hbn2
  have HOR := Lib.hid hor
  clear hor
  go_wp2_with fail
  go_quiet (fail)
  go_wp2_with fail
  go_ret3
  have hba : Below w3.heap.size w3 ((w3.alloc (.cells #[.slice ba ob.length bc, .int .i64 bp, .int .i64 bf] 151)).drewN nq) := below_drewN ((Below.refl _ _).alloc (Nat.le_refl _) _) _
  exact ⟨ba, bc, rfl, World.ownsRow.mono (own_belowV HOR.out hba) HZ.out, hop, HB3.out.trans (hba.mono HB3.out.size)⟩
set_option maxRecDepth 20000 in
set_option maxHeartbeats 4000000 in
theorem fewest_some (t : TitD) (x : TA) (zs : List ZonM) (w : World) (hs : Sizes t) (hT : TitAt w w.heap.size t x zs) (hc : checkT t = 0) (ob : List Nat) (p f : Int) (hb : bestR t false = some (ob, p, f)) :
    Calls Try.prog 32 #[.agg (titV t x)] w fun e w' => ∃ A' c', e = .returned (.tuple #[.slice A' ob.length c', .int .i64 p, .int .i64 0]) ∧ w'.ownsRow w.heap.size 3 1 (.slice A' ob.length c') ob.length (intsV ob) ∧ 0 < ob.length ∧ Below w.heap.size w w' := by
  have HBR := Lib.hid hb
  clear hb
  have HCH := Lib.hid (chk_ok hc)
  obtain ⟨w1, hw1⟩ : ∃ W, W = w.alloc (.cells (titV t x) 26) := ⟨_, rfl⟩
  have hb1 : Below w.heap.size w w1 := by rw [hw1]; exact (Below.refl _ _).alloc (Nat.le_refl _) _
  obtain ⟨gT, hgT⟩ : ∃ g, g = w.heap.size := ⟨_, rfl⟩
  have kT : Blk w1 gT 26 (titV t x) := by rw [hw1, hgT]; exact Blk.new _ _ _
  have HCK := Lib.hid (open_any t x zs w1 hs ((hT.below hb1).mono hb1.size) hc)
  have r0 := kT.cell 0
  have r1 := kT.cell 1
  have r2 := kT.cell 2
  have r3 := kT.cell 3
  have r4 := kT.cell 4
  have r5 := kT.cell 5
  have r6 := kT.cell 6
  have r7 := kT.cell 7
  simp [titV] at r0 r1 r2 r3 r4 r5 r6 r7
  have HB1 := Lib.hid hb1
  have HW1 := Lib.hid hw1
  have HGT := Lib.hid hgT
  clear hb1 hw1 hgT kT hT hs hc
  unfold titV at *
  go_enter Try.func32, Try.ntmps32
  go_upto_region 1 with fail
  rw [← HW1.out, ← HGT.out]
  go_upto_region 5 with first
    | (go_at_call 61; refine HCK.out.mono ?_; rintro e w2 ⟨k, rfl, hk, hb2⟩; have HK := Lib.hid hk; have HB2 := Lib.hid (HB1.out.trans (hb2.mono HB1.out.size)); clear hb2 hk)
    | (go_at_call 82; refine (search_any t x k w1.heap.size w2 HCH.out HK.out false).mono ?_; rintro e w3 ⟨⟨ba, bn, bc, bp, bf, rfl, hbs, hbn⟩, hb3⟩; rw [HK.out.len] at hbs hbn ⊢; have HBS := Lib.hid hbs; have HBN := Lib.hid hbn; have HB3 := Lib.hid (HB2.out.trans (hb3.mono HB2.out.size)); have HZ := Lib.hid HB2.out.size; clear hbs hbn hb3)
  rw [show dfs t (edsR t) false ((edsR t).length + 1) [] 0 none none = some (ob, p, f) from HBR.out]
  obtain ⟨hbp, hbf, hop, hbn2, hor⟩ := HBS.out ob p f HBR.out
  subst hbp hbf hbn2
  have HOR := Lib.hid hor
  clear hor
  go_wp2_with fail
  go_quiet (fail)
  go_wp2_with fail
  go_ret3
  have hba : Below w3.heap.size w3 ((w3.alloc (.cells #[.slice ba ob.length bc, .int .i64 bp, .int .i64 bf] 151)).drewN nq) := below_drewN ((Below.refl _ _).alloc (Nat.le_refl _) _) _
  exact ⟨ba, bc, rfl, World.ownsRow.mono (own_belowV HOR.out hba) HZ.out, hop, HB3.out.trans (hba.mono HB3.out.size)⟩
end
end Go.Proofs.Ytokdleanpkkdpaa
