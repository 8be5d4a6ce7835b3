/- Contract of awake; conditions: none. -/
import Derived.Test.YtgopdfbmddkpfaaP2
import Derived.Test.YtgopdfbmddkpfaaW1
import Derived.Test.YtgopdfbmddkpfaaB2
import Derived.Test.YtgopdfbmddkpfaaH2
import Derived.Test.YtgopdfbmddkpfaaS2
import Derived.Test.YtgopdfbmddkpfaaL1
set_option linter.unusedSimpArgs false
set_option linter.unusedVariables false
namespace Go.Proofs.Ytgopdfbmddkpfaa
open Go.RowKit Go.Fh Go.Ag

def wk : List (Int × Int) := [(10, 2), (10, 0), (12, 5)]
theorem aw_best (g c : Nat) (W : World) (h : Sl enc2 2 W W.heap.size (some ⟨g, 0, none⟩) [(10, 2), (10, 0), (12, 5)]) :
    Calls Try.prog 14 #[.slice (some ⟨g, 0, none⟩) 3 c, .int .i64 1, .int .i64 2] W fun e w' => e = .returned (.tuple #[.int .i64 8, .int .i64 5, .int .i64 0]) ∧ Below W.heap.size W w' := by
  have es : sortD (ableD [(10, 2), (10, 0), (12, 5)]) = [0, 7, 8, 10] := by
    simp [sortD, ableD, List.mergeSort, List.MergeSort.Internal.splitInTwo]
  have e : bestD [(10, 2), (10, 0), (12, 5)] 1 2 = (8, 5, 0) := by
    unfold bestD bestQ
    rw [es]
    decide +kernel
  have := best_any (some ⟨g, 0, none⟩) c [(10, 2), (10, 0), (12, 5)] 1 2 W (by decide) h
  rw [e] at this
  exact this
theorem aw_says (g c : Nat) (W : World) (h : Sl enc2 2 W W.heap.size (some ⟨g, 0, none⟩) [(10, 2), (10, 0), (12, 5)]) :
    Calls Try.prog 31 #[.agg #[.int .i64 2, .int .i64 3], .slice (some ⟨g, 0, none⟩) 3 c, .int .i64 3] W fun e w' => e = .returned (.tuple #[.int .i64 9, .bool true, .int .i64 0]) ∧ Below W.heap.size W w' := by
  have e : saysD (2, 3) [(10, 2), (10, 0), (12, 5)] 3 = (9, true, 0) := by decide +kernel
  have := saysD_any (2, 3) (some ⟨g, 0, none⟩) c [(10, 2), (10, 0), (12, 5)] 3 W (by decide) h
  rw [e] at this
  exact this
theorem aw_share (g c : Nat) (W : World) (h : Sl enc3 3 W W.heap.size (some ⟨g, 0, none⟩) [(1, 10, 1), (2, 4, 1), (3, 2, 1)]) :
    Calls Try.prog 19 #[.slice (some ⟨g, 0, none⟩) 3 c, .int .i64 8] W fun e w' => ∃ A' c', e = .returned (.tuple #[.slice A' 3 c', .int .i64 0]) ∧ Sl encInt 1 w' w'.heap.size A' [5, 2, 1] ∧ Below W.heap.size W w' := by
  have e : shareL [(1, 10, 1), (2, 4, 1), (3, 2, 1)] 8 = [5, 2, 1] := by decide +kernel
  have e2 : sharedE [(1, 10, 1), (2, 4, 1), (3, 2, 1)] 8 = 0 := by decide +kernel
  have := share_any (some ⟨g, 0, none⟩) c [(1, 10, 1), (2, 4, 1), (3, 2, 1)] 8 W (by decide) (by decide) h
  rw [e, e2] at this
  refine this.mono ?_
  rintro e w' ⟨A', c', rfl, h1, _, h2⟩
  exact ⟨A', c', rfl, h1, h2⟩
theorem aw_copies (g : Nat) (W : World) (h : Sl enc2 2 W W.heap.size (some ⟨g, 0, none⟩) [(5, 9)]) :
    Calls Try.prog 34 #[.agg #[.int .i64 1, .int .i64 0, .int .i64 20, .int .i64 127, .slice (some ⟨g, 0, none⟩) 1 1], .int .i64 0, .int .i64 30] W fun e w' => e = .returned (.tuple #[.int .i64 16, .int .i64 0]) ∧ Below W.heap.size W w' := by
  have e : copiesR ⟨1, 0, 20, 127, [(5, 9)]⟩ 0 30 = (16, 0) := by decide +kernel
  have := copiesR_any ⟨1, 0, 20, 127, [(5, 9)]⟩ (some ⟨g, 0, none⟩) 1 0 30 W (by decide) h
  rw [e] at this
  exact this
theorem aw_settle (g c g2 d : Nat) (W : World) (h : Sl enc2 2 W W.heap.size (some ⟨g, 0, none⟩) [(10, 2), (10, 0), (12, 5)]) (h2 : Sl encInt 1 W W.heap.size (some ⟨g2, 0, none⟩) [0, 0, 3]) :
    Calls Try.prog 24 #[.agg #[.int .i64 9, .int .i64 5, .int .i64 2, .int .i64 0, .int .i64 0], .slice (some ⟨g, 0, none⟩) 3 c, .slice (some ⟨g2, 0, none⟩) 3 d] W fun e w' => ∃ A' n c', e = .returned (.tuple #[.agg #[.slice A' n c', .int .i64 262], .int .i64 0]) ∧ Below W.heap.size W w' := by
  have e : (settleD ⟨9, 5, 2, 0, 0⟩ [(10, 2), (10, 0), (12, 5)] [0, 0, 3]).1 = 0 := by decide +kernel
  have e2 : (settleD ⟨9, 5, 2, 0, 0⟩ [(10, 2), (10, 0), (12, 5)] [0, 0, 3]).2.2 = 262 := by decide +kernel
  have := settle_any ⟨9, 5, 2, 0, 0⟩ (some ⟨g, 0, none⟩) c [(10, 2), (10, 0), (12, 5)] (some ⟨g2, 0, none⟩) d [0, 0, 3] W (by decide) (by decide) h h2
  refine this.mono ?_
  rintro x w' ⟨A', c', he, _, _, hb⟩
  rw [e, e2] at he
  exact ⟨A', _, c', he, hb⟩
theorem aw_equal (A : Option Addr) (c g d : Nat) (W : World) (h : Sl encInt 1 W W.heap.size A [5, 2, 1]) (h2 : Sl encInt 1 W W.heap.size (some ⟨g, 0, none⟩) [5, 2, 1]) :
    Calls Try.prog 47 #[.slice A 3 c, .slice (some ⟨g, 0, none⟩) 3 d] W fun e w' => e = .returned (.bool true) ∧ Below W.heap.size W w' := by
  have := equalInts_any A (some ⟨g, 0, none⟩) c d [5, 2, 1] [5, 2, 1] W (by decide) (by decide) h h2
  simpa using this

set_option maxRecDepth 20000 in
set_option maxHeartbeats 4000000 in
theorem awake_any (w : World) : Calls Try.prog 15 #[] w fun e w' => e = .returned (.bool true) ∧ Below w.heap.size w w' := by
  go_enter Try.func15, Try.ntmps15
  go_wp2_with fail
  refine (week_any w).mono ?_
  rintro e w1 ⟨g1, c1, rfl, hs1, hg1, hb1⟩
  go_wp2_with fail
  refine (aw_best g1 c1 w1 hs1).mono ?_
  rintro e w2 ⟨rfl, hb2⟩
  have hbb2 := hb1.trans (hb2.mono hb1.size)
  clear hs1 hb1 hb2
  go_wp2_with fail
  refine (week_any w2).mono ?_
  rintro e w3 ⟨g3, c3, rfl, hs3, hg3, hb3⟩
  have hbb3 := hbb2.trans (hb3.mono hbb2.size)
  go_wp2_with fail
  refine (aw_says g3 c3 w3 hs3).mono ?_
  rintro e w4 ⟨rfl, hb4⟩
  have hbb4 := hbb3.trans (hb4.mono hbb3.size)
  clear hs3 hb3 hb4 hbb2 hbb3
  go_wp2_with fail
  have hk5 := Blk.new w4 44 #[.int .i64 1, .int .i64 10, .int .i64 1, .int .i64 2, .int .i64 4, .int .i64 1, .int .i64 3, .int .i64 2, .int .i64 1]
  have hs5 := Sl.of_blk (enc := enc3) (size := 3) (l := [(1, 10, 1), (2, 4, 1), (3, 2, 1)]) (fun _ => rfl) (by decide) hk5 rfl
  have hbb5 := hbb4.alloc hbb4.size (.cells #[.int .i64 1, .int .i64 10, .int .i64 1, .int .i64 2, .int .i64 4, .int .i64 1, .int .i64 3, .int .i64 2, .int .i64 1] 44)
  refine (aw_share w4.heap.size 3 _ hs5).mono ?_
  rintro e w6 ⟨A6, c6, rfl, hs6, hb6⟩
  have hbb6 := hbb5.trans (hb6.mono hbb5.size)
  clear hk5 hs5 hb6 hbb5 hbb4
  have HS6 := Lib.hid hs6
  clear hs6
  go_wp2_with fail
  refine (reader_any w6).mono ?_
  rintro e w7 ⟨g7, rfl, hs7, hg7, hb7⟩
  have hbb7 := hbb6.trans (hb7.mono hbb6.size)
  have HS7 := Lib.hid (HS6.out.below hb7)
  have hz7 := hb7.size
  unfold subV
  dsimp only
  go_wp2_with fail
  refine (aw_copies g7 w7 hs7).mono ?_
  rintro e w8 ⟨rfl, hb8⟩
  have hbb8 := hbb7.trans (hb8.mono hbb7.size)
  have HS8 := Lib.hid (HS7.out.below (hb8.mono hz7))
  have hz8 := hb8.size
  clear hs7 hb7 hb8 hbb6 hbb7
  go_wp2_with fail
  refine (week_any w8).mono ?_
  rintro e w9 ⟨g9, c9, rfl, hs9, hg9, hb9⟩
  have hbb9 := hbb8.trans (hb9.mono hbb8.size)
  have HS9 := Lib.hid (HS8.out.below (hb9.mono (by omega)))
  have HW9 := Lib.hid hs9
  have hz9 := hb9.size
  clear hs9 hb9 hbb8
  go_wp2_with fail
  have hk9 := Blk.new w9 3 #[.int .i64 0, .int .i64 0, .int .i64 3]
  have hs10 := Sl.of_blk (enc := encInt) (size := 1) (l := [0, 0, 3]) (fun _ => rfl) (by decide) hk9 rfl
  have hba := (Below.refl w9.heap.size w9).alloc (Nat.le_refl _) (.cells #[.int .i64 0, .int .i64 0, .int .i64 3] 3)
  have hbb10 := hbb9.alloc hbb9.size (.cells #[.int .i64 0, .int .i64 0, .int .i64 3] 3)
  refine (aw_settle g9 c9 w9.heap.size 3 _ ((HW9.out.below hba).mono (by simp)) hs10).mono ?_
  rintro e w11 ⟨A11, n11, c11, rfl, hb11⟩
  have hbb11 := hbb10.trans (hb11.mono hbb10.size)
  have hz10 : w9.heap.size ≤ w11.heap.size := by have := hb11.size; simp at this; omega
  have HS11 := Lib.hid ((HS9.out.below (hba.mono (by omega))).below (hb11.mono (by simp; omega)))
  clear hk9 hs10 hba hbb10 hb11 hbb9
  have hb12 := hbb11.alloc hbb11.size (.cells #[.slice A11 n11 c11, .int .i64 262] 53)
  have hba := (Below.refl w11.heap.size w11).alloc (Nat.le_refl _) (.cells #[.slice A11 n11 c11, .int .i64 262] 53)
  have HS12 := Lib.hid (HS11.out.below (hba.mono (by omega)))
  have hk12 := Blk.new w11 53 #[.slice A11 n11 c11, .int .i64 262]
  clear hba
  go_wp2_with fail
  have hk13 := Blk.new (w11.alloc (.cells #[.slice A11 n11 c11, .int .i64 262] 53)) 3 #[.int .i64 5, .int .i64 2, .int .i64 1]
  rw [World.size_alloc] at hk13
  have hs13 := Sl.of_blk (enc := encInt) (size := 1) (l := [5, 2, 1]) (fun _ => rfl) (by decide) hk13 rfl
  have hba13 := (Below.refl w11.heap.size (w11.alloc (.cells #[.slice A11 n11 c11, .int .i64 262] 53))).alloc (by simp) (.cells #[.int .i64 5, .int .i64 2, .int .i64 1] 3)
  have hb13 := hb12.alloc hb12.size (.cells #[.int .i64 5, .int .i64 2, .int .i64 1] 3)
  have hk14 := hk12.alloc (.cells #[.int .i64 5, .int .i64 2, .int .i64 1] 3)
  refine (aw_equal A6 c6 (w11.heap.size + 1) 3 _ ((HS12.out.below (hba13.mono (by omega))).mono (by simp; omega)) hs13).mono ?_
  rintro e w14 ⟨rfl, hb14⟩
  have hk15 := Blk.below hk14 hb14 hk14.lt
  have hc15 := hk15.cell 1
  simp at hc15
  have hbb14 := hb13.trans (hb14.mono hb13.size)
  clear hk13 hs13 hba13 hb13 hk14 hb14 hk15 hk12
  go_wp2_with fail
  go_ret
  exact ⟨rfl, hbb14⟩
end Go.Proofs.Ytgopdfbmddkpfaa
