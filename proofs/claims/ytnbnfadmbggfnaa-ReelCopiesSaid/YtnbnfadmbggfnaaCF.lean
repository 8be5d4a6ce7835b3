/- The examples of the chapter, and awake; conditions: none. -/
import Derived.Test.YtnbnfadmbggfnaaCE
import Derived.Test.YtnbnfadmbggfnaaA5
set_option linter.unusedSimpArgs false
set_option linter.unusedVariables false
namespace Go.Rl
def exP : PrsD := ⟨500, 1, [⟨[⟨1, 1400, 10000, 200⟩, ⟨2, 1400, 10000, 200⟩], 0, 100, 200⟩]⟩
def exS : SupD := ⟨[2, 1, 3], [10, 10, 10], 2, 5⟩
theorem ex1 : rawK exP 39 1 = [(18, 20)] := by kernel_rfl
theorem ex2 : askE exP 39 9223372036854775807 = 0 := by kernel_rfl
theorem ex3 : askE exP 19 1000000 = 0 := by kernel_rfl
theorem ex4 : rchP exP = 39 := by kernel_rfl
theorem ex5 : schV exS 3 0 = [0, 2] := by kernel_rfl
theorem ex6 : resV exS 3 0 = 22 := by kernel_rfl
theorem ex7 : leaV exS 0 = 0 ∧ leaV exS 1 = 10 ∧ leaV exS 2 = 12 ∧ leaV exS 3 = 22 := ⟨by kernel_rfl, by kernel_rfl, by kernel_rfl, by kernel_rfl⟩
theorem ex8 : errS exS = 0 := by kernel_rfl
theorem ex9 : thrP exP 39 = [(18, 20)] := by
  unfold thrP
  rw [show exP.webs.length = 1 from rfl, ex1]
  exact (jnF_eq (l := [(18, 20)]) (m := [(18, 20)]) (by simp) (List.Perm.refl _) (List.pairwise_singleton _ _)).symm
theorem exT : thrO exP 39 = [(18, 20)] := by
  unfold thrO
  rw [if_neg (by rw [ex2]; simp), ex9]
theorem exR : runP exP 19 = (22, 0) := by
  unfold runP
  rw [if_neg (by rw [ex3]; simp), if_neg (by decide), ex4, ex9, if_neg (by decide)]
  rfl
end Go.Rl
namespace Go.Proofs.Ytnbnfadmbggfnaa
open Go.RowKit Go.Fh Go.Rl
set_option maxHeartbeats 4000000 in
theorem ex43_any (w : World) : Calls Try.prog 43 #[] w fun e w' => ∃ A ms, e = .returned (.agg #[.int .i64 500, .int .i64 1, .slice A 1 1]) ∧ PrsAt w' w'.heap.size exP A ms ∧ ms.length = 1 ∧ Hid (Below w.heap.size w w') := by
  go_enter Try.func43, Try.ntmps43
  go_wp2
  obtain ⟨W3, hW3⟩ : ∃ W, W = ((w.alloc (.cells #[.int .i64 500, .int .i64 1, .slice (some ⟨w.heap.size + 1 + 1, 0, none⟩) 1 1] 26)).alloc (.cells #[.int .i64 1, .int .i64 1400, .int .i64 10000, .int .i64 200, .int .i64 2, .int .i64 1400, .int .i64 10000, .int .i64 200] 54)).alloc (.cells #[.slice (some ⟨w.heap.size + 1, 0, none⟩) 2 2, .int .i64 0, .int .i64 100, .int .i64 200] 41) := ⟨_, rfl⟩
  rw [← hW3]
  have k0 : Blk W3 w.heap.size 26 #[.int .i64 500, .int .i64 1, .slice (some ⟨w.heap.size + 1 + 1, 0, none⟩) 1 1] := by rw [hW3]; exact ((Blk.new _ _ _).alloc _).alloc _
  have k1 : Blk W3 (w.heap.size + 1) 54 #[.int .i64 1, .int .i64 1400, .int .i64 10000, .int .i64 200, .int .i64 2, .int .i64 1400, .int .i64 10000, .int .i64 200] := by rw [hW3]; exact (blkAt (by simp) _ _).alloc _
  have k2 : Blk W3 (w.heap.size + 1 + 1) 41 #[.slice (some ⟨w.heap.size + 1, 0, none⟩) 2 2, .int .i64 0, .int .i64 100, .int .i64 200] := by rw [hW3]; exact blkAt (by simp) _ _
  have hb : Below w.heap.size w W3 := by rw [hW3]; exact balR (balR (balR (Below.refl _ _) _) _) _
  have c0 := k0.cell 0
  have c1 := k0.cell 1
  have c2 := k0.cell 2
  simp at c0 c1 c2
  clear hW3
  refine bodyPost_ret (v := .agg #[.int .i64 500, .int .i64 1, .slice (some ⟨w.heap.size + 1 + 1, 0, none⟩) 1 1]) (by simp [results, Try.f43, go_sem, c0, c1, c2]) rfl ?_
  refine ⟨some ⟨w.heap.size + 1 + 1, 0, none⟩, [(⟨[⟨1, 1400, 10000, 200⟩, ⟨2, 1400, 10000, 200⟩], 0, 100, 200⟩, (some ⟨w.heap.size + 1, 0, none⟩, 2))], rfl, ⟨Sl.of_blk (fun _ => rfl) (by simp [maxLen]) k2 rfl, rfl, fun i hi => ?_⟩, rfl, Lib.hid hb⟩
  have h0 : i = 0 := by simp at hi; exact hi
  subst h0
  exact Sl.of_blk (fun _ => rfl) (by simp [maxLen]) k1 rfl
set_option maxHeartbeats 4000000 in
theorem ex44_any (w : World) : Calls Try.prog 44 #[] w fun e w' => ∃ x : SA, e = .returned (.agg #[.slice x.a 3 x.ca, .slice x.b 3 x.cb, .int .i64 2, .int .i64 5]) ∧ SupAt w' w'.heap.size exS x ∧ Hid (Below w.heap.size w w') := by
  go_enter Try.func44, Try.ntmps44
  go_wp2
  obtain ⟨W3, hW3⟩ : ∃ W, W = ((w.alloc (.cells #[.slice (some ⟨w.heap.size + 1, 0, none⟩) 3 3, .slice (some ⟨w.heap.size + 1 + 1, 0, none⟩) 3 3, .int .i64 2, .int .i64 5] 60)).alloc (.cells #[.int .i64 2, .int .i64 1, .int .i64 3] 3)).alloc (.cells #[.int .i64 10, .int .i64 10, .int .i64 10] 3) := ⟨_, rfl⟩
  rw [← hW3]
  have k0 : Blk W3 w.heap.size 60 #[.slice (some ⟨w.heap.size + 1, 0, none⟩) 3 3, .slice (some ⟨w.heap.size + 1 + 1, 0, none⟩) 3 3, .int .i64 2, .int .i64 5] := by rw [hW3]; exact ((Blk.new _ _ _).alloc _).alloc _
  have k1 : Blk W3 (w.heap.size + 1) 3 #[.int .i64 2, .int .i64 1, .int .i64 3] := by rw [hW3]; exact (blkAt (by simp) _ _).alloc _
  have k2 : Blk W3 (w.heap.size + 1 + 1) 3 #[.int .i64 10, .int .i64 10, .int .i64 10] := by rw [hW3]; exact blkAt (by simp) _ _
  have hb : Below w.heap.size w W3 := by rw [hW3]; exact balR (balR (balR (Below.refl _ _) _) _) _
  have c0 := k0.cell 0
  have c1 := k0.cell 1
  have c2 := k0.cell 2
  have c3 := k0.cell 3
  simp at c0 c1 c2 c3
  clear hW3
  refine bodyPost_ret (v := .agg #[.slice (some ⟨w.heap.size + 1, 0, none⟩) 3 3, .slice (some ⟨w.heap.size + 1 + 1, 0, none⟩) 3 3, .int .i64 2, .int .i64 5]) (by simp [results, Try.f44, go_sem, c0, c1, c2, c3]) rfl ?_
  exact ⟨⟨some ⟨w.heap.size + 1, 0, none⟩, 3, some ⟨w.heap.size + 1 + 1, 0, none⟩, 3⟩, rfl, ⟨Sl.of_blk (l := [2, 1, 3]) (fun _ => rfl) (by decide) k1 rfl, Sl.of_blk (l := [10, 10, 10]) (fun _ => rfl) (by decide) k2 rfl⟩, Lib.hid hb⟩
theorem thEx (A : Option Addr) (ms : List WebM) (w : World) (hT : PrsAt w w.heap.size exP A ms) (hm : ms.length = 1) : Calls Try.prog 14 #[.agg #[.int .i64 500, .int .i64 1, .slice A 1 1], .int .i64 39] w fun e w' => ∃ A' c', e = .returned (.tuple #[.slice A' 1 c', .int .i64 0]) ∧ Hid (Sl enc2 2 w' w'.heap.size A' [(18, 20)]) ∧ Hid (Below w.heap.size w w') := by
  refine (thrown14_any exP A 1 1 ms w hT hm.symm (by omega) 39 0 ex2.symm [(18, 20)] exT.symm).mono ?_
  rintro e w' ⟨A', c', rfl, ho, hb⟩
  exact ⟨A', c', rfl, Lib.hid (Sl.of_own (fun _ => rfl) ho), hb⟩
theorem ruEx (A : Option Addr) (ms : List WebM) (w : World) (hT : PrsAt w w.heap.size exP A ms) (hm : ms.length = 1) : Calls Try.prog 15 #[.agg #[.int .i64 500, .int .i64 1, .slice A 1 1], .int .i64 19] w fun e w' => e = .returned (.tuple #[.int .i64 22, .int .i64 0]) ∧ Hid (Below w.heap.size w w') :=
  run15_any exP A 1 1 ms w hT hm.symm (by omega) 19 22 0 exR.symm
theorem scEx (x : SA) (w : World) (hT : SupAt w w.heap.size exS x) : Calls Try.prog 23 #[.agg #[.slice x.a 3 x.ca, .slice x.b 3 x.cb, .int .i64 2, .int .i64 5]] w fun e w' => ∃ A c, e = .returned (.tuple #[.slice A 2 c, .int .i64 22, .int .i64 0]) ∧ Hid (Sl encInt 1 w' w'.heap.size A [0, 2]) ∧ Hid (Below w.heap.size w w') := by
  refine (sched_ok exS x w hT ex8 3 rfl).mono ?_
  rintro e w' ⟨A, c, rfl, hs, hb⟩
  rw [ex5, ex6]
  rw [ex5] at hs
  exact ⟨A, c, rfl, hs, hb⟩
theorem prEx (x : SA) (w : World) (hT : SupAt w w.heap.size exS x) : Calls Try.prog 24 #[.agg #[.slice x.a 3 x.ca, .slice x.b 3 x.cb, .int .i64 2, .int .i64 5]] w fun e w' => ∃ A c, e = .returned (.tuple #[.slice A 4 c, .int .i64 0]) ∧ Hid (Sl encInt 1 w' w'.heap.size A [0, 10, 12, 22]) ∧ Hid (Below w.heap.size w w') := by
  refine (pric_ok exS x w hT ex8 3 rfl).mono ?_
  rintro e w' ⟨g, rfl, -, hr, hb⟩
  refine ⟨some ⟨g, 0, none⟩, 4, rfl, Lib.hid (Sl.of_blk (fun _ => rfl) (by decide) hr.out ?_), hb⟩
  obtain ⟨e0, e1, e2, e3⟩ := ex7
  simp [List.range_succ, e0, e1, e2, e3, encInt]
theorem eqSp (A : Option Addr) (c : Nat) (w : World) (hA : Sl enc2 2 w w.heap.size A [(18, 20)]) : Calls Try.prog 45 #[.slice A 1 c, .slice (some ⟨w.heap.size, 0, none⟩) 1 1] (w.alloc (.cells #[.int .i64 18, .int .i64 20] 43)) fun e w' => e = .returned (.bool true) ∧ Hid (Below w.heap.size w w') := by
  have hb := balR (Below.refl w.heap.size w) (.cells #[.int .i64 18, .int .i64 20] 43)
  refine (equalSpans_any A (some ⟨w.heap.size, 0, none⟩) c 1 [(18, 20)] [(18, 20)] _ (by simp) (by simp) ((hA.below hb).mono hb.size) (Sl.of_blk (fun _ => rfl) (by decide) (Blk.new w 43 _) rfl)).mono ?_
  rintro e w' ⟨rfl, h⟩
  exact ⟨by simp, Lib.hid (bstep hb h)⟩
theorem eqI (l : List Int) (hl : l.length ≤ 1000) (A : Option Addr) (c : Nat) (w : World) (hA : Sl encInt 1 w w.heap.size A l) : Calls Try.prog 34 #[.slice A l.length c, .slice (some ⟨w.heap.size, 0, none⟩) l.length l.length] (w.alloc (.cells ((l.map (Value.int .i64)).toArray) 3)) fun e w' => e = .returned (.bool true) ∧ Hid (Below w.heap.size w w') := by
  have hb := balR (Below.refl w.heap.size w) (.cells ((l.map (Value.int .i64)).toArray) 3)
  refine (equalInts_any A (some ⟨w.heap.size, 0, none⟩) c l.length l l _ (by omega) (by omega) ((hA.below hb).mono hb.size) (Sl.of_blk (fun _ => rfl) (by simp only [maxLen]; omega) (Blk.new w 3 _) (by rw [flat_int]))).mono ?_
  rintro e w' ⟨rfl, h⟩
  exact ⟨by simp, Lib.hid (bstep hb h)⟩
theorem eqI2 (A : Option Addr) (c : Nat) (w : World) (hA : Sl encInt 1 w w.heap.size A [0, 2]) : Calls Try.prog 34 #[.slice A 2 c, .slice (some ⟨w.heap.size, 0, none⟩) 2 2] (w.alloc (.cells #[.int .i64 0, .int .i64 2] 3)) fun e w' => e = .returned (.bool true) ∧ Hid (Below w.heap.size w w') := eqI [0, 2] (by decide) A c w hA
theorem eqI4 (A : Option Addr) (c : Nat) (w : World) (hA : Sl encInt 1 w w.heap.size A [0, 10, 12, 22]) : Calls Try.prog 34 #[.slice A 4 c, .slice (some ⟨w.heap.size, 0, none⟩) 4 4] (w.alloc (.cells #[.int .i64 0, .int .i64 10, .int .i64 12, .int .i64 22] 3)) fun e w' => e = .returned (.bool true) ∧ Hid (Below w.heap.size w w') := eqI [0, 10, 12, 22] (by decide) A c w hA
set_option maxRecDepth 20000 in
set_option maxHeartbeats 4000000 in
theorem awake_any (w : World) : Calls Try.prog 17 #[] w fun e w' => e = .returned (.bool true) ∧ Below w.heap.size w w' := by
  have HBA := Lib.hid (Below.refl w.heap.size w)
  go_enter Try.func17, Try.ntmps17
  go_wp2_with first
    | (go_at_call 43; with_reducible refine (ex43_any _).mono ?_; rintro e w1 ⟨A, ms, rfl, hT, hm, HB⟩; have HT := Lib.hid hT; have HM := Lib.hid hm; clear hT hm; have HBA := Lib.hid (bstep HBA.out HB.out); (try have HSA := Lib.hid ((HSA.out.below HB.out).mono HB.out.size)); (try have HSB := Lib.hid ((HSB.out.below HB.out).mono HB.out.size)))
    | (go_at_call 14; with_reducible refine (thEx _ _ _ HT.out HM.out).mono ?_; rintro e w2 ⟨A1, c1, rfl, HSA, HB⟩; have HBA := Lib.hid (bstep HBA.out HB.out))
    | (go_at_call 15; with_reducible refine (ruEx _ _ _ HT.out HM.out).mono ?_; rintro e w4 ⟨rfl, HB⟩; have HBA := Lib.hid (bstep HBA.out HB.out); (try have HSA := Lib.hid ((HSA.out.below HB.out).mono HB.out.size)); (try have HSB := Lib.hid ((HSB.out.below HB.out).mono HB.out.size)))
    | (go_at_call 44; with_reducible refine (ex44_any _).mono ?_; rintro e w5 ⟨x, rfl, hT, HB⟩; have HX := Lib.hid hT; clear hT; have HBA := Lib.hid (bstep HBA.out HB.out); (try have HSA := Lib.hid ((HSA.out.below HB.out).mono HB.out.size)); (try have HSB := Lib.hid ((HSB.out.below HB.out).mono HB.out.size)))
    | (go_at_call 23; with_reducible refine (scEx _ _ HX.out).mono ?_; rintro e w6 ⟨A2, c2, rfl, HSB, HB⟩; have HBA := Lib.hid (bstep HBA.out HB.out); (try have HSA := Lib.hid ((HSA.out.below HB.out).mono HB.out.size)))
    | (go_at_call 24; with_reducible refine (prEx _ _ HX.out).mono ?_; rintro e w8 ⟨A3, c3, rfl, HSC, HB⟩; have HBA := Lib.hid (bstep HBA.out HB.out); (try have HSA := Lib.hid ((HSA.out.below HB.out).mono HB.out.size)); (try have HSB := Lib.hid ((HSB.out.below HB.out).mono HB.out.size)))
    | (go_at_call 45; with_reducible refine (eqSp _ _ _ HSA.out).mono ?_; rintro e w9 ⟨rfl, HB⟩; have HBA := Lib.hid (bstep HBA.out HB.out); (try have HSB := Lib.hid ((HSB.out.below HB.out).mono HB.out.size)); (try have HSC := Lib.hid ((HSC.out.below HB.out).mono HB.out.size)))
    | (go_at_call 34; with_reducible refine (eqI2 _ _ _ HSB.out).mono ?_; rintro e w10 ⟨rfl, HB⟩; have HBA := Lib.hid (bstep HBA.out HB.out); (try have HSC := Lib.hid ((HSC.out.below HB.out).mono HB.out.size)))
    | (go_at_call 34; with_reducible refine (eqI4 _ _ _ HSC.out).mono ?_; rintro e w11 ⟨rfl, HB⟩; have HBA := Lib.hid (bstep HBA.out HB.out))
  go_ret
  exact ⟨rfl, HBA.out⟩
end Go.Proofs.Ytnbnfadmbggfnaa
