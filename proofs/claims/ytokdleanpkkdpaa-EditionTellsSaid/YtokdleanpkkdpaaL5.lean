/- Contracts of Latest where it refuses; conditions: a title in memory. Printed by a program. -/
import Derived.Test.YtokdleanpkkdpaaL2
import Derived.Test.YtokdleanpkkdpaaZ4
set_option linter.unusedSimpArgs false
set_option linter.unusedVariables false
namespace Go.Proofs.Ytokdleanpkkdpaa
open Go.RowKit Go.Fh Go.Ed
set_option maxRecDepth 20000 in
set_option maxHeartbeats 2000000 in
theorem Latest_bad (t : TitD) (x : TA) (zs : List ZonM) (w : World) (hs : Sizes t) (hT : TitAt w w.heap.size t x zs) (A : Option Addr) (c : Nat) (l : List Int) (p v : Int) (hc : checkT t ≠ 0) :
    Calls Try.prog 27 #[.agg (titV t x), .slice A l.length c, .int .i64 p, .int .i64 v] w fun e w' => e = .returned (.tuple #[.int .i64 0, .int .i64 (checkT t)]) ∧ Below w.heap.size w w' := by
  obtain ⟨w1, hw1⟩ : ∃ W, W = (((w.alloc (.cells (titV t x) 26)).alloc (.cells #[.slice A l.length c] 22)).alloc (.cells #[.int .i64 p] 3)).alloc (.cells #[.int .i64 v] 3) := ⟨_, rfl⟩
  have hb1 : Below w.heap.size w w1 := by rw [hw1]; exact balR (balR (balR (balR (Below.refl _ _) _) _) _) _
  obtain ⟨gT, hgT⟩ : ∃ g, g = w.heap.size := ⟨_, rfl⟩
  obtain ⟨gO, hgO⟩ : ∃ g, g = w.heap.size + 1 := ⟨_, rfl⟩
  obtain ⟨gG, hgG⟩ : ∃ g, g = w.heap.size + 1 + 1 := ⟨_, rfl⟩
  obtain ⟨gV, hgV⟩ : ∃ g, g = w.heap.size + 1 + 1 + 1 := ⟨_, rfl⟩
  have kT : Blk w1 gT 26 (titV t x) := by rw [hw1, hgT]; exact (((blkAt rfl 26 _).alloc _).alloc _).alloc _
  have kO : Blk w1 gO 22 #[.slice A l.length c] := by rw [hw1, hgO]; exact ((blkAt (by simp) 22 _).alloc _).alloc _
  have kG : Blk w1 gG 3 #[.int .i64 p] := by rw [hw1, hgG]; exact (blkAt (by simp) 3 _).alloc _
  have kV : Blk w1 gV 3 #[.int .i64 v] := by rw [hw1, hgV]; exact blkAt (by simp) 3 _
  obtain ⟨r0, r1, r2, r3, r4, r5, r6, r7⟩ := box26 t x kT w1 (Below.refl _ _)
  have rO := kO.cell 0
  simp at rO
  have HCK := Lib.hid (ask_bad t x zs w1 hs ((hT.below hb1).mono hb1.size) A c l hc)
  obtain ⟨ck, hck⟩ : ∃ c, c = checkT t := ⟨_, rfl⟩
  rw [← hck] at HCK hc ⊢
  have ht : (ck == 0) = false := by simpa using hc
  have HB1 := Lib.hid hb1
  have HW1 := Lib.hid hw1
  have HGG := Lib.hid (And.intro hgT (And.intro hgO (And.intro hgG hgV)))
  have KT := Lib.hid kT
  have KG := Lib.hid kG
  have KV := Lib.hid kV
  clear hb1 hw1 hgT hgO hgG hgV kT kO kG kV hT hs hc hck
  unfold titV at *
  go_enter Try.func27, Try.ntmps27
  go_upto_region 1 with fail
  rw [← HW1.out, ← HGG.out.2.2.2, ← HGG.out.2.2.1, ← HGG.out.2.1, ← HGG.out.1]
  go_wp2_with (go_at_call 63; refine HCK.out.mono ?_; rintro e w2 ⟨rfl, hb2⟩; have HB2 := Lib.hid hb2; clear hb2)
  go_ret2
  exact ⟨rfl, HB1.out.trans ((balR HB2.out _).mono HB1.out.size)⟩
set_option maxRecDepth 20000 in
set_option maxHeartbeats 2000000 in
theorem Latest_arg (t : TitD) (x : TA) (zs : List ZonM) (w : World) (hs : Sizes t) (hT : TitAt w w.heap.size t x zs) (A : Option Addr) (c : Nat) (l : List Int) (p v : Int) (hl : l.length ≤ 1000000000) (hA : Sl encInt 1 w w.heap.size A l) (hc : checkT t = 0) (ho : ordersB (edsR t).length l = false) :
    Calls Try.prog 27 #[.agg (titV t x), .slice A l.length c, .int .i64 p, .int .i64 v] w fun e w' => e = .returned (.tuple #[.int .i64 0, .int .i64 1]) ∧ Below w.heap.size w w' := by
  obtain ⟨w1, hw1⟩ : ∃ W, W = (((w.alloc (.cells (titV t x) 26)).alloc (.cells #[.slice A l.length c] 22)).alloc (.cells #[.int .i64 p] 3)).alloc (.cells #[.int .i64 v] 3) := ⟨_, rfl⟩
  have hb1 : Below w.heap.size w w1 := by rw [hw1]; exact balR (balR (balR (balR (Below.refl _ _) _) _) _) _
  obtain ⟨gT, hgT⟩ : ∃ g, g = w.heap.size := ⟨_, rfl⟩
  obtain ⟨gO, hgO⟩ : ∃ g, g = w.heap.size + 1 := ⟨_, rfl⟩
  obtain ⟨gG, hgG⟩ : ∃ g, g = w.heap.size + 1 + 1 := ⟨_, rfl⟩
  obtain ⟨gV, hgV⟩ : ∃ g, g = w.heap.size + 1 + 1 + 1 := ⟨_, rfl⟩
  have kT : Blk w1 gT 26 (titV t x) := by rw [hw1, hgT]; exact (((blkAt rfl 26 _).alloc _).alloc _).alloc _
  have kO : Blk w1 gO 22 #[.slice A l.length c] := by rw [hw1, hgO]; exact ((blkAt (by simp) 22 _).alloc _).alloc _
  have kG : Blk w1 gG 3 #[.int .i64 p] := by rw [hw1, hgG]; exact (blkAt (by simp) 3 _).alloc _
  have kV : Blk w1 gV 3 #[.int .i64 v] := by rw [hw1, hgV]; exact blkAt (by simp) 3 _
  obtain ⟨r0, r1, r2, r3, r4, r5, r6, r7⟩ := box26 t x kT w1 (Below.refl _ _)
  have rO := kO.cell 0
  simp at rO
  have HCK := Lib.hid (ask_ok t x zs w1 hs ((hT.below hb1).mono hb1.size) A c l hl ((hA.below hb1).mono hb1.size) hc)
  rw [ho] at HCK
  simp only [Bool.false_eq_true, if_false] at HCK
  have HB1 := Lib.hid hb1
  have HW1 := Lib.hid hw1
  have HGG := Lib.hid (And.intro hgT (And.intro hgO (And.intro hgG hgV)))
  have KT := Lib.hid kT
  have KG := Lib.hid kG
  have KV := Lib.hid kV
  clear hb1 hw1 hgT hgO hgG hgV kT kO kG kV hT hs hc hA ho
  unfold titV at *
  go_enter Try.func27, Try.ntmps27
  go_upto_region 1 with fail
  rw [← HW1.out, ← HGG.out.2.2.2, ← HGG.out.2.2.1, ← HGG.out.2.1, ← HGG.out.1]
  go_wp2_with (go_at_call 63; refine HCK.out.mono ?_; rintro e w2 ⟨k, rfl, hk, hb2⟩; have HB2 := Lib.hid hb2; clear hb2 hk)
  go_ret2
  exact ⟨rfl, HB1.out.trans ((balR HB2.out _).mono HB1.out.size)⟩
set_option maxRecDepth 20000 in
set_option maxHeartbeats 2000000 in
theorem Latest_out (t : TitD) (x : TA) (zs : List ZonM) (w : World) (hs : Sizes t) (hT : TitAt w w.heap.size t x zs) (A : Option Addr) (c : Nat) (o : List Nat) (p v : Int) (hl : o.length ≤ 100) (hA : Sl encInt 1 w w.heap.size A (o.map fun (e : Nat) => (e : Int))) (hc : checkT t = 0) (ho : ordersB (edsR t).length (o.map fun (e : Nat) => (e : Int)) = true) (hpv : inB p 0 ((t.colours.length : Int) - 1) = false ∨ inB v 0 9 = false) :
    Calls Try.prog 27 #[.agg (titV t x), .slice A o.length c, .int .i64 p, .int .i64 v] w fun e w' => e = .returned (.tuple #[.int .i64 0, .int .i64 1]) ∧ Below w.heap.size w w' := by
  obtain ⟨w1, hw1⟩ : ∃ W, W = (((w.alloc (.cells (titV t x) 26)).alloc (.cells #[.slice A o.length c] 22)).alloc (.cells #[.int .i64 p] 3)).alloc (.cells #[.int .i64 v] 3) := ⟨_, rfl⟩
  have hb1 : Below w.heap.size w w1 := by rw [hw1]; exact balR (balR (balR (balR (Below.refl _ _) _) _) _) _
  obtain ⟨gT, hgT⟩ : ∃ g, g = w.heap.size := ⟨_, rfl⟩
  obtain ⟨gO, hgO⟩ : ∃ g, g = w.heap.size + 1 := ⟨_, rfl⟩
  obtain ⟨gG, hgG⟩ : ∃ g, g = w.heap.size + 1 + 1 := ⟨_, rfl⟩
  obtain ⟨gV, hgV⟩ : ∃ g, g = w.heap.size + 1 + 1 + 1 := ⟨_, rfl⟩
  have kT : Blk w1 gT 26 (titV t x) := by rw [hw1, hgT]; exact (((blkAt rfl 26 _).alloc _).alloc _).alloc _
  have kO : Blk w1 gO 22 #[.slice A o.length c] := by rw [hw1, hgO]; exact ((blkAt (by simp) 22 _).alloc _).alloc _
  have kG : Blk w1 gG 3 #[.int .i64 p] := by rw [hw1, hgG]; exact (blkAt (by simp) 3 _).alloc _
  have kV : Blk w1 gV 3 #[.int .i64 v] := by rw [hw1, hgV]; exact blkAt (by simp) 3 _
  obtain ⟨r0, r1, r2, r3, r4, r5, r6, r7⟩ := box26 t x kT w1 (Below.refl _ _)
  have rO := kO.cell 0
  simp at rO
  have hlo : (o.map fun (e : Nat) => (e : Int)).length = o.length := by simp
  have HCK := Lib.hid (ask_ok t x zs w1 hs ((hT.below hb1).mono hb1.size) A c (o.map fun (e : Nat) => (e : Int)) (by rw [hlo]; omega) ((hA.below hb1).mono hb1.size) hc)
  rw [hlo, ho] at HCK
  simp only [if_true] at HCK
  have hcl := (chk_ok hc).c0
  have s1 := hs.s1
  have f1 := IntWalk.i64_in ((t.colours.length : Int) - 1) (by omega)
  have HX := Lib.hid (fun W hb => box26 t x kT W hb)
  have HB1 := Lib.hid hb1
  have HW1 := Lib.hid hw1
  have HGG := Lib.hid (And.intro hgT (And.intro hgO (And.intro hgG hgV)))
  have KT := Lib.hid kT
  have KG := Lib.hid kG
  have KV := Lib.hid kV
  clear hb1 hw1 hgT hgO hgG hgV kT kO kG kV hT hs hc hA ho hlo
  unfold titV at *
  go_enter Try.func27, Try.ntmps27
  go_upto_region 1 with fail
  rw [← HW1.out, ← HGG.out.2.2.2, ← HGG.out.2.2.1, ← HGG.out.2.1, ← HGG.out.1]
  have HW65 := Lib.hid (fun W => within_any p 0 ((t.colours.length : Int) - 1) W)
  have HV65 := Lib.hid (fun W => within_any v 0 9 W)
  cases h1 : inB p 0 ((t.colours.length : Int) - 1)
  · rw [h1] at HW65
    clear h1 hpv
    go_upto_region 4 with (go_at_call 63; refine HCK.out.mono ?_; rintro e w2 ⟨k, rfl, hk, hb2⟩; have HB2 := Lib.hid hb2; clear hb2 hk)
    obtain ⟨w3, hw3⟩ : ∃ W, W = w2.alloc (.cells #[.pointer (some ⟨k.g, 0, none⟩)] 124) := ⟨_, rfl⟩
    rw [← hw3]
    have HB3 := Lib.hid (show Below w1.heap.size w1 w3 by rw [hw3]; exact balR HB2.out _)
    clear hw3 r0 r1 r2 r3 r4 r5 r6 r7 rO
    obtain ⟨r0, r1, r2, r3, r4, r5, r6, r7⟩ := HX.out _ HB3.out
    have kg := (KG.out.below HB3.out KG.out.lt).cell 0
    have kv := (KV.out.below HB3.out KV.out.lt).cell 0
    simp at kg kv
    go_wp2_with (go_at_call 65; with_reducible refine (HW65.out _).mono ?_; rintro e w4 ⟨rfl, rfl⟩)
    go_ret2
    exact ⟨rfl, HB1.out.trans (HB3.out.mono HB1.out.size)⟩
  · have h2 : inB v 0 9 = false := by
      rcases hpv with h | h
      · rw [h1] at h; cases h
      · exact h
    rw [h1] at HW65
    rw [h2] at HV65
    clear h1 h2 hpv
    go_upto_region 4 with (go_at_call 63; refine HCK.out.mono ?_; rintro e w2 ⟨k, rfl, hk, hb2⟩; have HB2 := Lib.hid hb2; clear hb2 hk)
    obtain ⟨w3, hw3⟩ : ∃ W, W = w2.alloc (.cells #[.pointer (some ⟨k.g, 0, none⟩)] 124) := ⟨_, rfl⟩
    rw [← hw3]
    have HB3 := Lib.hid (show Below w1.heap.size w1 w3 by rw [hw3]; exact balR HB2.out _)
    clear hw3 r0 r1 r2 r3 r4 r5 r6 r7 rO
    obtain ⟨r0, r1, r2, r3, r4, r5, r6, r7⟩ := HX.out _ HB3.out
    have kg := (KG.out.below HB3.out KG.out.lt).cell 0
    have kv := (KV.out.below HB3.out KV.out.lt).cell 0
    simp at kg kv
    go_wp2_with first
      | (go_at_call 65; with_reducible refine (HW65.out _).mono ?_; rintro e w4 ⟨rfl, rfl⟩)
      | (go_at_call 65; with_reducible refine (HV65.out _).mono ?_; rintro e w4 ⟨rfl, rfl⟩)
    go_ret2
    exact ⟨rfl, HB1.out.trans (HB3.out.mono HB1.out.size)⟩
end Go.Proofs.Ytokdleanpkkdpaa
