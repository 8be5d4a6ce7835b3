/- Contracts of ask, Editions, Change, Plates; conditions: lengths that a title has. -/
import Derived.Test.YtokdleanpkkdpaaE1
set_option linter.unusedSimpArgs false
set_option linter.unusedVariables false
namespace Go.Ed
open Go.Fh Go.RowKit Go.Proofs.Ytokdleanpkkdpaa
theorem WorkAt.len {w : Go.World} {B : Nat} {t : TitD} {x : TA} {k : Wk} (h : WorkAt w B t x k) : k.es.length = (edsR t).length := by rw [← h.eds]; simp
theorem WorkAt.below {w w' : Go.World} {B : Nat} {t : TitD} {x : TA} {k : Wk} (h : WorkAt w B t x k) (hb : Below w.heap.size w w') : WorkAt w' B t x k :=
  ⟨h.eds, h.ed.below hb, h.hk.below hb h.hk.lt, h.hg, h.hrl, own_belowV h.oC hb, fun i hi => own_belowV (h.oR i hi) hb⟩
theorem WorkAt.hE {w : Go.World} {B : Nat} {t : TitD} {x : TA} {k : Wk} (h : WorkAt w B t x k) : Sl encEd 5 w w.heap.size k.E k.es := Sl.of_own encEd_len h.ed.row
theorem WorkAt.hV {w : Go.World} {B : Nat} {t : TitD} {x : TA} {k : Wk} (h : WorkAt w B t x k) (i : Nat) (hi : i < k.es.length) : Sl encInt 1 w w.heap.size k.es[i].2.v k.es[i].1.variants := own_sl (h.ed.var i hi)
theorem WorkAt.hZ {w : Go.World} {B : Nat} {t : TitD} {x : TA} {k : Wk} (h : WorkAt w B t x k) (i : Nat) (hi : i < k.es.length) : Sl encInt 1 w w.heap.size k.es[i].2.z k.es[i].1.zones := own_sl (h.ed.zon i hi)
theorem eds_le {t : TitD} (h : checkT t = 0) : 1 ≤ (edsR t).length ∧ (edsR t).length ≤ 7 := by rw [edsR_len]; exact ⟨(chk_ok h).n0, (chk_ok h).n1⟩
theorem WorkAt.base {w : Go.World} {B B' : Nat} {t : TitD} {x : TA} {k : Wk} (h : WorkAt w B t x k) (hB : B' ≤ B) : WorkAt w B' t x k :=
  ⟨h.eds, h.ed.base hB, h.hk, Nat.le_trans hB h.hg, h.hrl, Go.World.ownsRow.mono h.oC hB, fun i hi => Go.World.ownsRow.mono (h.oR i hi) hB⟩
def askE (t : TitD) (l : List Int) : Int := if checkT t ≠ 0 then checkT t else if ordersB (edsR t).length l then 0 else 1
end Go.Ed
namespace Go.Proofs.Ytokdleanpkkdpaa
open Go.RowKit Go.Fh Go.Ed
section
set_option maxRecDepth 20000 in
set_option maxHeartbeats 2000000 in
theorem ask_bad (t : TitD) (x : TA) (zs : List ZonM) (w : World) (hs : Sizes t) (hT : TitAt w w.heap.size t x zs) (A : Option Addr) (c : Nat) (l : List Int) (hc : checkT t ≠ 0) :
    Calls Try.prog 63 #[.agg (titV t x), .slice A l.length c] w fun e w' => e = .returned (.tuple #[.pointer none, .int .i64 (checkT t)]) ∧ Below w.heap.size w w' := by
  obtain ⟨w1, hw1⟩ : ∃ W, W = w.alloc (.cells (titV t x) 26) := ⟨_, rfl⟩
  have hb1 : Below w.heap.size w w1 := by rw [hw1]; exact (Below.refl _ _).alloc (Nat.le_refl _) _
  obtain ⟨gT, hgT⟩ : ∃ g, g = w.heap.size := ⟨_, rfl⟩
  have kT : Blk w1 gT 26 (titV t x) := by rw [hw1, hgT]; exact Blk.new _ _ _
  have HCK := Lib.hid (open_bad t x zs w1 hs ((hT.below hb1).mono hb1.size) hc)
  have r0 := kT.cell 0
  have r1 := kT.cell 1
  have r2 := kT.cell 2
  have r3 := kT.cell 3
  have r4 := kT.cell 4
  have r5 := kT.cell 5
  have r6 := kT.cell 6
  have r7 := kT.cell 7
  simp [titV] at r0 r1 r2 r3 r4 r5 r6 r7
  obtain ⟨ck, hck⟩ : ∃ c, c = checkT t := ⟨_, rfl⟩
  rw [← hck] at HCK hc ⊢
  have ht : (ck == 0) = false := by simpa using hc
  have HB1 := Lib.hid hb1
  have HW1 := Lib.hid hw1
  have HGT := Lib.hid hgT
  clear hb1 hw1 hgT kT hT hs hc hck
  unfold titV at *
  go_enter Try.func63, Try.ntmps63
  go_upto_region 1 with fail
  rw [← HW1.out, ← HGT.out]
  go_wp2_with (go_at_call 61; refine HCK.out.mono ?_; rintro e w2 ⟨rfl, hb2⟩; have HB2 := Lib.hid hb2; clear hb2)
  go_ret2
  exact ⟨rfl, HB1.out.trans (HB2.out.mono HB1.out.size)⟩
set_option maxRecDepth 20000 in
set_option maxHeartbeats 2000000 in
theorem ask_ok (t : TitD) (x : TA) (zs : List ZonM) (w : World) (hs : Sizes t) (hT : TitAt w w.heap.size t x zs) (A : Option Addr) (c : Nat) (l : List Int) (hl : l.length ≤ 1000000000) (hA : Sl encInt 1 w w.heap.size A l) (hc : checkT t = 0) :
    Calls Try.prog 63 #[.agg (titV t x), .slice A l.length c] w fun e w' => ∃ k : Wk, e = .returned (.tuple #[.pointer (some ⟨k.g, 0, none⟩), .int .i64 (if ordersB (edsR t).length l then 0 else 1)]) ∧ WorkAt w' w.heap.size t x k ∧ Below w.heap.size w w' := by
  obtain ⟨ob, hob⟩ : ∃ ob, ob = ordersB (edsR t).length l := ⟨_, rfl⟩
  rw [← hob]
  have HO := Lib.hid hob
  clear hob
  obtain ⟨w1, hw1⟩ : ∃ W, W = w.alloc (.cells (titV t x) 26) := ⟨_, rfl⟩
  have hb1 : Below w.heap.size w w1 := by rw [hw1]; exact (Below.refl _ _).alloc (Nat.le_refl _) _
  obtain ⟨gT, hgT⟩ : ∃ g, g = w.heap.size := ⟨_, rfl⟩
  have kT : Blk w1 gT 26 (titV t x) := by rw [hw1, hgT]; exact Blk.new _ _ _
  have HCK := Lib.hid (open_any t x zs w1 hs ((hT.below hb1).mono hb1.size) hc)
  have r0 := kT.cell 0
  have r1 := kT.cell 1
  have r2 := kT.cell 2
  have r3 := kT.cell 3
  have r4 := kT.cell 4
  have r5 := kT.cell 5
  have r6 := kT.cell 6
  have r7 := kT.cell 7
  simp [titV] at r0 r1 r2 r3 r4 r5 r6 r7
  have HB1 := Lib.hid hb1
  have HW1 := Lib.hid hw1
  have HGT := Lib.hid hgT
  have HA := Lib.hid hA
  have h7 := (eds_le hc).2
  clear hb1 hw1 hgT kT hT hs hc hA
  have hor := fun (k : Wk) W (hk : WorkAt W w1.heap.size t x k) (hb : Below w.heap.size w W) => orders_any t x k w1.heap.size A c l W hk (by rw [hk.len]; omega) hl ((HA.out.below hb).mono hb.size)
  have HOR := Lib.hid hor
  clear hor h7
  unfold titV at *
  go_enter Try.func63, Try.ntmps63
  go_upto_region 1 with fail
  rw [← HW1.out, ← HGT.out]
  cases ob
  all_goals
    go_wp2_with first
      | (go_at_call 61; refine HCK.out.mono ?_; rintro e w2 ⟨k, rfl, hk, hb2⟩; have HK := Lib.hid hk; have HB2 := Lib.hid (HB1.out.trans (hb2.mono HB1.out.size)); clear hb2 hk)
      | (go_at_call 112; refine (HOR.out k _ HK.out HB2.out).mono ?_; rintro e w3 ⟨he, hb3⟩; rw [HK.out.len, ← HO.out] at he; subst he; have HB3 := Lib.hid hb3; clear hb3)
    go_ret2
    exact ⟨k, rfl, (HK.out.below HB3.out).base HB1.out.size, HB2.out.trans (HB3.out.mono HB2.out.size)⟩
set_option maxRecDepth 20000 in
set_option maxHeartbeats 2000000 in
theorem eds_bad (t : TitD) (x : TA) (zs : List ZonM) (w : World) (hs : Sizes t) (hT : TitAt w w.heap.size t x zs) (hc : checkT t ≠ 0) :
    Calls Try.prog 15 #[.agg (titV t x)] w fun e w' => e = .returned (.tuple #[.slice none 0 0, .int .i64 (checkT t)]) ∧ Below w.heap.size w w' := by
  obtain ⟨w1, hw1⟩ : ∃ W, W = w.alloc (.cells (titV t x) 26) := ⟨_, rfl⟩
  have hb1 : Below w.heap.size w w1 := by rw [hw1]; exact (Below.refl _ _).alloc (Nat.le_refl _) _
  obtain ⟨gT, hgT⟩ : ∃ g, g = w.heap.size := ⟨_, rfl⟩
  have kT : Blk w1 gT 26 (titV t x) := by rw [hw1, hgT]; exact Blk.new _ _ _
  have HCK := Lib.hid (open_bad t x zs w1 hs ((hT.below hb1).mono hb1.size) hc)
  have r0 := kT.cell 0
  have r1 := kT.cell 1
  have r2 := kT.cell 2
  have r3 := kT.cell 3
  have r4 := kT.cell 4
  have r5 := kT.cell 5
  have r6 := kT.cell 6
  have r7 := kT.cell 7
  simp [titV] at r0 r1 r2 r3 r4 r5 r6 r7
  obtain ⟨ck, hck⟩ : ∃ c, c = checkT t := ⟨_, rfl⟩
  rw [← hck] at HCK hc ⊢
  have ht : (ck != 0) = true := by simpa using hc
  have HB1 := Lib.hid hb1
  have HW1 := Lib.hid hw1
  have HGT := Lib.hid hgT
  clear hb1 hw1 hgT kT hT hs hc hck
  unfold titV at *
  go_enter Try.func15, Try.ntmps15
  go_upto_region 1 with fail
  rw [← HW1.out, ← HGT.out]
  go_wp2_with (go_at_call 61; refine HCK.out.mono ?_; rintro e w2 ⟨rfl, hb2⟩; have HB2 := Lib.hid hb2; clear hb2)
  go_ret2
  exact ⟨rfl, HB1.out.trans (HB2.out.mono HB1.out.size)⟩
set_option maxRecDepth 20000 in
set_option maxHeartbeats 2000000 in
theorem eds_ok (t : TitD) (x : TA) (zs : List ZonM) (w : World) (hs : Sizes t) (hT : TitAt w w.heap.size t x zs) (hc : checkT t = 0) :
    Calls Try.prog 15 #[.agg (titV t x)] w fun e w' => ∃ k : Wk, e = .returned (.tuple #[.slice k.E k.es.length k.cE, .int .i64 0]) ∧ WorkAt w' w.heap.size t x k ∧ Below w.heap.size w w' := by
  obtain ⟨w1, hw1⟩ : ∃ W, W = w.alloc (.cells (titV t x) 26) := ⟨_, rfl⟩
  have hb1 : Below w.heap.size w w1 := by rw [hw1]; exact (Below.refl _ _).alloc (Nat.le_refl _) _
  obtain ⟨gT, hgT⟩ : ∃ g, g = w.heap.size := ⟨_, rfl⟩
  have kT : Blk w1 gT 26 (titV t x) := by rw [hw1, hgT]; exact Blk.new _ _ _
  have HCK := Lib.hid (open_any t x zs w1 hs ((hT.below hb1).mono hb1.size) hc)
  have r0 := kT.cell 0
  have r1 := kT.cell 1
  have r2 := kT.cell 2
  have r3 := kT.cell 3
  have r4 := kT.cell 4
  have r5 := kT.cell 5
  have r6 := kT.cell 6
  have r7 := kT.cell 7
  simp [titV] at r0 r1 r2 r3 r4 r5 r6 r7
  have HB1 := Lib.hid hb1
  have HW1 := Lib.hid hw1
  have HGT := Lib.hid hgT
  clear hb1 hw1 hgT kT hT hs hc
  unfold titV at *
  go_enter Try.func15, Try.ntmps15
  go_upto_region 1 with fail
  rw [← HW1.out, ← HGT.out]
  go_wp2_with (go_at_call 61; refine HCK.out.mono ?_; rintro e w2 ⟨k, rfl, hk, hb2⟩; have y8 := hk.hk.cell 8; simp [workV] at y8; have HK := Lib.hid hk; have HB2 := Lib.hid (HB1.out.trans (hb2.mono HB1.out.size)); clear hb2 hk)
  go_ret2
  exact ⟨k, rfl, HK.out.base HB1.out.size, HB2.out⟩
set_option maxRecDepth 20000 in
set_option maxHeartbeats 2000000 in
theorem plates_bad (t : TitD) (x : TA) (zs : List ZonM) (w : World) (hs : Sizes t) (hT : TitAt w w.heap.size t x zs) (hc : checkT t ≠ 0) :
    Calls Try.prog 23 #[.agg (titV t x)] w fun e w' => e = .returned (.tuple #[.int .i64 0, .int .i64 (checkT t)]) ∧ Below w.heap.size w w' := by
  obtain ⟨w1, hw1⟩ : ∃ W, W = w.alloc (.cells (titV t x) 26) := ⟨_, rfl⟩
  have hb1 : Below w.heap.size w w1 := by rw [hw1]; exact (Below.refl _ _).alloc (Nat.le_refl _) _
  obtain ⟨gT, hgT⟩ : ∃ g, g = w.heap.size := ⟨_, rfl⟩
  have kT : Blk w1 gT 26 (titV t x) := by rw [hw1, hgT]; exact Blk.new _ _ _
  have HCK := Lib.hid (open_bad t x zs w1 hs ((hT.below hb1).mono hb1.size) hc)
  have r0 := kT.cell 0
  have r1 := kT.cell 1
  have r2 := kT.cell 2
  have r3 := kT.cell 3
  have r4 := kT.cell 4
  have r5 := kT.cell 5
  have r6 := kT.cell 6
  have r7 := kT.cell 7
  simp [titV] at r0 r1 r2 r3 r4 r5 r6 r7
  obtain ⟨ck, hck⟩ : ∃ c, c = checkT t := ⟨_, rfl⟩
  rw [← hck] at HCK hc ⊢
  have ht : (ck != 0) = true := by simpa using hc
  have HB1 := Lib.hid hb1
  have HW1 := Lib.hid hw1
  have HGT := Lib.hid hgT
  clear hb1 hw1 hgT kT hT hs hc hck
  unfold titV at *
  go_enter Try.func23, Try.ntmps23
  go_upto_region 1 with fail
  rw [← HW1.out, ← HGT.out]
  go_wp2_with (go_at_call 61; refine HCK.out.mono ?_; rintro e w2 ⟨rfl, hb2⟩; have HB2 := Lib.hid hb2; clear hb2)
  go_ret2
  exact ⟨rfl, HB1.out.trans (HB2.out.mono HB1.out.size)⟩
set_option maxRecDepth 20000 in
set_option maxHeartbeats 2000000 in
theorem plates_ok (t : TitD) (x : TA) (zs : List ZonM) (w : World) (hs : Sizes t) (hT : TitAt w w.heap.size t x zs) (hc : checkT t = 0) :
    Calls Try.prog 23 #[.agg (titV t x)] w fun e w' => e = .returned (.tuple #[.int .i64 (allB t), .int .i64 0]) ∧ Below w.heap.size w w' := by
  obtain ⟨w1, hw1⟩ : ∃ W, W = w.alloc (.cells (titV t x) 26) := ⟨_, rfl⟩
  have hb1 : Below w.heap.size w w1 := by rw [hw1]; exact (Below.refl _ _).alloc (Nat.le_refl _) _
  obtain ⟨gT, hgT⟩ : ∃ g, g = w.heap.size := ⟨_, rfl⟩
  have kT : Blk w1 gT 26 (titV t x) := by rw [hw1, hgT]; exact Blk.new _ _ _
  have HCK := Lib.hid (open_any t x zs w1 hs ((hT.below hb1).mono hb1.size) hc)
  have r0 := kT.cell 0
  have r1 := kT.cell 1
  have r2 := kT.cell 2
  have r3 := kT.cell 3
  have r4 := kT.cell 4
  have r5 := kT.cell 5
  have r6 := kT.cell 6
  have r7 := kT.cell 7
  simp [titV] at r0 r1 r2 r3 r4 r5 r6 r7
  have HB1 := Lib.hid hb1
  have HW1 := Lib.hid hw1
  have HGT := Lib.hid hgT
  clear hb1 hw1 hgT kT hT hs hc
  unfold titV at *
  go_enter Try.func23, Try.ntmps23
  go_upto_region 1 with fail
  rw [← HW1.out, ← HGT.out]
  go_wp2_with (go_at_call 61; refine HCK.out.mono ?_; rintro e w2 ⟨k, rfl, hk, hb2⟩; have y8 := hk.hk.cell 10; simp [workV] at y8; have HK := Lib.hid hk; have HB2 := Lib.hid (HB1.out.trans (hb2.mono HB1.out.size)); clear hb2 hk)
  go_ret2
  exact ⟨rfl, HB2.out⟩
set_option maxRecDepth 20000 in
set_option maxHeartbeats 2000000 in
theorem change_bad (t : TitD) (x : TA) (zs : List ZonM) (w : World) (hs : Sizes t) (hT : TitAt w w.heap.size t x zs) (a b : Int) (hc : checkT t ≠ 0) :
    Calls Try.prog 22 #[.agg (titV t x), .int .i64 a, .int .i64 b] w fun e w' => e = .returned (.tuple #[.int .i64 0, .int .i64 (checkT t)]) ∧ Below w.heap.size w w' := by
  obtain ⟨w1, hw1⟩ : ∃ W, W = w.alloc (.cells (titV t x) 26) := ⟨_, rfl⟩
  have hb1 : Below w.heap.size w w1 := by rw [hw1]; exact (Below.refl _ _).alloc (Nat.le_refl _) _
  obtain ⟨gT, hgT⟩ : ∃ g, g = w.heap.size := ⟨_, rfl⟩
  have kT : Blk w1 gT 26 (titV t x) := by rw [hw1, hgT]; exact Blk.new _ _ _
  have HCK := Lib.hid (open_bad t x zs w1 hs ((hT.below hb1).mono hb1.size) hc)
  have r0 := kT.cell 0
  have r1 := kT.cell 1
  have r2 := kT.cell 2
  have r3 := kT.cell 3
  have r4 := kT.cell 4
  have r5 := kT.cell 5
  have r6 := kT.cell 6
  have r7 := kT.cell 7
  simp [titV] at r0 r1 r2 r3 r4 r5 r6 r7
  obtain ⟨ck, hck⟩ : ∃ c, c = checkT t := ⟨_, rfl⟩
  rw [← hck] at HCK hc ⊢
  have ht : (ck != 0) = true := by simpa using hc
  have HB1 := Lib.hid hb1
  have HW1 := Lib.hid hw1
  have HGT := Lib.hid hgT
  clear hb1 hw1 hgT kT hT hs hc hck
  unfold titV at *
  go_enter Try.func22, Try.ntmps22
  go_upto_region 1 with fail
  rw [← HW1.out, ← HGT.out]
  go_wp2_with (go_at_call 61; refine HCK.out.mono ?_; rintro e w2 ⟨rfl, hb2⟩; have HB2 := Lib.hid hb2; clear hb2)
  go_ret2
  exact ⟨rfl, HB1.out.trans (HB2.out.mono HB1.out.size)⟩
set_option maxRecDepth 20000 in
set_option maxHeartbeats 2000000 in
theorem change_out (t : TitD) (x : TA) (zs : List ZonM) (w : World) (hs : Sizes t) (hT : TitAt w w.heap.size t x zs) (a b : Int) (hc : checkT t = 0) (hab : inB a 0 (((edsR t).length : Int) - 1) = false ∨ inB b 0 (((edsR t).length : Int) - 1) = false) :
    Calls Try.prog 22 #[.agg (titV t x), .int .i64 a, .int .i64 b] w fun e w' => e = .returned (.tuple #[.int .i64 0, .int .i64 1]) ∧ Below w.heap.size w w' := by
  have h7 := (eds_le hc).2
  have f1 := IntWalk.i64_in (((edsR t).length : Int) - 1) (by omega)
  obtain ⟨w1, hw1⟩ : ∃ W, W = w.alloc (.cells (titV t x) 26) := ⟨_, rfl⟩
  have hb1 : Below w.heap.size w w1 := by rw [hw1]; exact (Below.refl _ _).alloc (Nat.le_refl _) _
  obtain ⟨gT, hgT⟩ : ∃ g, g = w.heap.size := ⟨_, rfl⟩
  have kT : Blk w1 gT 26 (titV t x) := by rw [hw1, hgT]; exact Blk.new _ _ _
  have HCK := Lib.hid (open_any t x zs w1 hs ((hT.below hb1).mono hb1.size) hc)
  have r0 := kT.cell 0
  have r1 := kT.cell 1
  have r2 := kT.cell 2
  have r3 := kT.cell 3
  have r4 := kT.cell 4
  have r5 := kT.cell 5
  have r6 := kT.cell 6
  have r7 := kT.cell 7
  simp [titV] at r0 r1 r2 r3 r4 r5 r6 r7
  have HB1 := Lib.hid hb1
  have HW1 := Lib.hid hw1
  have HGT := Lib.hid hgT
  clear hb1 hw1 hgT kT hT hs hc
  unfold titV at *
  go_enter Try.func22, Try.ntmps22
  go_upto_region 1 with fail
  rw [← HW1.out, ← HGT.out]
  cases ha : inB a 0 (((edsR t).length : Int) - 1)
  · clear hab
    go_wp2_with first
      | (go_at_call 61; refine HCK.out.mono ?_; rintro e w2 ⟨k, rfl, hk, hb2⟩; have y8 := hk.hk.cell 8; simp [workV] at y8; rw [hk.len] at y8; have HB2 := Lib.hid (HB1.out.trans (hb2.mono HB1.out.size)); clear hb2 hk)
      | (go_at_call 65; refine (within_any _ _ _ _).mono ?_; rintro e w' ⟨rfl, rfl⟩)
    go_ret2
    exact ⟨rfl, HB2.out⟩
  · have hb : inB b 0 (((edsR t).length : Int) - 1) = false := by rcases hab with h | h; (rw [ha] at h; cases h); exact h
    clear hab
    go_wp2_with first
      | (go_at_call 61; refine HCK.out.mono ?_; rintro e w2 ⟨k, rfl, hk, hb2⟩; have y8 := hk.hk.cell 8; simp [workV] at y8; rw [hk.len] at y8; have HB2 := Lib.hid (HB1.out.trans (hb2.mono HB1.out.size)); clear hb2 hk)
      | (go_at_call 65; refine (within_any _ _ _ _).mono ?_; rintro e w' ⟨rfl, rfl⟩)
    go_ret2
    exact ⟨rfl, HB2.out⟩
set_option maxRecDepth 20000 in
set_option maxHeartbeats 2000000 in
theorem change_ok (t : TitD) (x : TA) (zs : List ZonM) (w : World) (hs : Sizes t) (hT : TitAt w w.heap.size t x zs) (a b : Nat) (hc : checkT t = 0) (ha : a < (edsR t).length) (hb : b < (edsR t).length) :
    Calls Try.prog 22 #[.agg (titV t x), .int .i64 (a : Int), .int .i64 (b : Int)] w fun e w' => e = .returned (.tuple #[.int .i64 (changeB t ((edsR t).getD a ed0) ((edsR t).getD b ed0)), .int .i64 0]) ∧ Below w.heap.size w w' := by
  have h7 := (eds_le hc).2
  have f1 := IntWalk.i64_in (((edsR t).length : Int) - 1) (by omega)
  have i1 : inB (a : Int) 0 (((edsR t).length : Int) - 1) = true := inB_iff.2 ⟨by omega, by omega⟩
  have i2 : inB (b : Int) 0 (((edsR t).length : Int) - 1) = true := inB_iff.2 ⟨by omega, by omega⟩
  obtain ⟨ch, hch⟩ : ∃ c, c = changeB t ((edsR t).getD a ed0) ((edsR t).getD b ed0) := ⟨_, rfl⟩
  rw [← hch]
  have hfa : ∀ (k : Wk) (W : World) (B : Nat), WorkAt W B t x k → ∃ cb co rc rb ro cC, W.cell? ⟨k.g, 9, none⟩ = some (.slice (some ⟨cb, co, none⟩) (edsR t).length cC) ∧ W.cell? ⟨cb, co + a, none⟩ = some (.slice (some ⟨rb, ro, none⟩) (edsR t).length rc) ∧ W.cell? ⟨rb, ro + b, none⟩ = some (.int .i64 ch) := by
    intro k W B hk
    have y9 := hk.hk.cell 9
    simp [workV] at y9
    have hra : a < k.rows.length := by rw [hk.hrl, hk.len]; exact ha
    obtain ⟨cb, co, hkc, hcl, c0⟩ := Sl.atRow hk.hC hra
    have hcl' : b < (chgL t (k.es.map (·.1)) a).length := by simp [chgL, hk.len, hb]
    obtain ⟨rb, ro, hrq, hrb, q0⟩ := (hk.hR a hra).at1 hcl'
    have hq : (chgL t (k.es.map (·.1)) a)[b] = ch := by
      rw [hch]
      simp only [hk.eds, chgL, List.getElem_map]
      congr 1
      simp [hb]
    rw [hkc, hk.len] at y9
    rw [hrq, hk.len] at c0
    rw [hq] at q0
    exact ⟨cb, co, _, rb, ro, _, y9, c0, q0⟩
  have HFA := Lib.hid hfa
  clear hch hfa
  obtain ⟨w1, hw1⟩ : ∃ W, W = w.alloc (.cells (titV t x) 26) := ⟨_, rfl⟩
  have hb1 : Below w.heap.size w w1 := by rw [hw1]; exact (Below.refl _ _).alloc (Nat.le_refl _) _
  obtain ⟨gT, hgT⟩ : ∃ g, g = w.heap.size := ⟨_, rfl⟩
  have kT : Blk w1 gT 26 (titV t x) := by rw [hw1, hgT]; exact Blk.new _ _ _
  have HCK := Lib.hid (open_any t x zs w1 hs ((hT.below hb1).mono hb1.size) hc)
  have r0 := kT.cell 0
  have r1 := kT.cell 1
  have r2 := kT.cell 2
  have r3 := kT.cell 3
  have r4 := kT.cell 4
  have r5 := kT.cell 5
  have r6 := kT.cell 6
  have r7 := kT.cell 7
  simp [titV] at r0 r1 r2 r3 r4 r5 r6 r7
  have HB1 := Lib.hid hb1
  have HW1 := Lib.hid hw1
  have HGT := Lib.hid hgT
  clear hb1 hw1 hgT kT hT hs hc
  unfold titV at *
  go_enter Try.func22, Try.ntmps22
  go_upto_region 1 with fail
  rw [← HW1.out, ← HGT.out]
  go_wp2_with first
    | (go_at_call 61; refine HCK.out.mono ?_; rintro e w2 ⟨k, rfl, hk, hb2⟩; obtain ⟨cb, co, rc, rb, ro, cC, y9, c0, q0⟩ := HFA.out k _ _ hk; have y8 := hk.hk.cell 8; simp [workV] at y8; rw [hk.len] at y8; have HB2 := Lib.hid (HB1.out.trans (hb2.mono HB1.out.size)); clear hb2 hk)
    | (go_at_call 65; refine (within_any _ _ _ _).mono ?_; rintro e w' ⟨rfl, rfl⟩)
  go_ret2
  exact ⟨rfl, HB2.out⟩
end
end Go.Proofs.Ytokdleanpkkdpaa
