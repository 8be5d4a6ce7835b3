/- Contracts of the three function values that thrown hands on, and of the closure by which joined sorts; conditions: small numbers. -/
import Derived.Test.YtnbnfadmbggfnaaB5
import Derived.Deep.RegionHeld3
import Derived.Sort.Grow
set_option linter.unusedSimpArgs false
set_option linter.unusedVariables false
namespace Go.Proofs.Ytnbnfadmbggfnaa
open Go.RowKit Go.Fh Go.Rl Go.Sort
theorem lo91_any (a b : Int) (w : World) : Calls Try.prog 91 #[.agg #[.int .i64 a, .int .i64 b]] w fun e w' => e = .returned (.int .i64 a) ∧ w' = w.alloc (.cells #[.int .i64 a, .int .i64 b] 43) := by
  go_enter Try.func91, Try.ntmps91
  go_wp2_with fail
  go_ret
  exact ⟨rfl, rfl⟩
theorem hi92_any (a b : Int) (w : World) : Calls Try.prog 92 #[.agg #[.int .i64 a, .int .i64 b]] w fun e w' => e = .returned (.int .i64 b) ∧ w' = w.alloc (.cells #[.int .i64 a, .int .i64 b] 43) := by
  go_enter Try.func92, Try.ntmps92
  go_wp2_with fail
  go_ret
  exact ⟨rfl, rfl⟩
theorem mk93_any (a b : Int) (w : World) : Calls Try.prog 93 #[.int .i64 a, .int .i64 b] w fun e w' => e = .returned (.agg #[.int .i64 a, .int .i64 b]) ∧ w' = w.alloc (.cells #[.int .i64 a, .int .i64 b] 43) := by
  go_enter Try.func93, Try.ntmps93
  go_wp2_with fail
  refine bodyPost_ret (v := .agg #[.int .i64 a, .int .i64 b]) (by simp [results, Try.f93, go_sem]) rfl ?_
  exact ⟨rfl, rfl⟩
set_option maxRecDepth 20000 in
set_option maxHeartbeats 4000000 in
theorem cmp127_any (x y : Int × Int) (g : Nat) (w : World) (hx : 0 ≤ x.1 ∧ x.1 ≤ 1000000000) (hy : 0 ≤ y.1 ∧ y.1 ≤ 1000000000) (hg : Blk w g 169 #[.func (.func 91) #[] #[]]) :
    Calls Try.prog 127 #[.agg #[.int .i64 x.1, .int .i64 x.2], .agg #[.int .i64 y.1, .int .i64 y.2], .pointer (some ⟨g, 0, none⟩)] w fun e w' => e = .returned (.int .i64 (x.1 - y.1)) ∧ ∃ q os', w' = grow (w.drewN q) os' := by
  obtain ⟨x1, x2⟩ := x
  obtain ⟨y1, y2⟩ := y
  dsimp only at hx hy ⊢
  have wr : IntKind.i64.wrap (x1 - y1) = x1 - y1 := by rw [IntKind.wrap_i64]; omega
  obtain ⟨w1, hw1⟩ : ∃ W, W = (w.alloc (.cells #[.int .i64 x1, .int .i64 x2] 43)).alloc (.cells #[.int .i64 y1, .int .i64 y2] 43) := ⟨_, rfl⟩
  obtain ⟨gX, hgX⟩ : ∃ k, k = w.heap.size := ⟨_, rfl⟩
  obtain ⟨gY, hgY⟩ : ∃ k, k = w.heap.size + 1 := ⟨_, rfl⟩
  have kX : Blk w1 gX 43 #[.int .i64 x1, .int .i64 x2] := by rw [hw1, hgX]; exact (Blk.new w 43 _).alloc _
  have kY : Blk w1 gY 43 #[.int .i64 y1, .int .i64 y2] := by rw [hw1]; exact blkAt (by simp [hgY]) _ _
  have kg : Blk w1 g 169 #[.func (.func 91) #[] #[]] := by rw [hw1]; exact (hg.alloc _).alloc _
  have HSB := Lib.hid (show ∀ W, Below w1.heap.size w1 W → W.cell? ⟨g, 0, none⟩ = some (.func (.func 91) #[] #[]) ∧ (W.cell? ⟨gX, 0, none⟩ = some (.int .i64 x1) ∧ W.cell? ⟨gX, 1, none⟩ = some (.int .i64 x2)) ∧ W.cell? ⟨gY, 0, none⟩ = some (.int .i64 y1) ∧ W.cell? ⟨gY, 1, none⟩ = some (.int .i64 y2) from fun W hb => by
    have k1 := kg.below hb kg.lt
    have k2 := kX.below hb kX.lt
    have k3 := kY.below hb kY.lt
    have a0 := k1.cell 0
    have a1 := k2.cell 0
    have a2 := k2.cell 1
    have a3 := k3.cell 0
    have a4 := k3.cell 1
    simp at a0 a1 a2 a3 a4
    exact ⟨a0, ⟨a1, a2⟩, a3, a4⟩)
  have HW1 := Lib.hid hw1
  have HGX := Lib.hid hgX
  have HGY := Lib.hid hgY
  clear hw1 hgX hgY kX kY kg hg hx hy
  go_enter Try.func127, Try.ntmps127
  go_upto_region 1 with fail
  rw [← HW1.out, ← HGY.out, ← HGX.out]
  go_region_held3 (fun W => W.cell? ⟨g, 0, none⟩ = some (.func (.func 91) #[] #[]) ∧ (W.cell? ⟨gX, 0, none⟩ = some (.int .i64 x1) ∧ W.cell? ⟨gX, 1, none⟩ = some (.int .i64 x2)) ∧ W.cell? ⟨gY, 0, none⟩ = some (.int .i64 y1) ∧ W.cell? ⟨gY, 1, none⟩ = some (.int .i64 y2))
    ((refine HSB.out _ ?_; (repeat (with_reducible first | exact Below.refl _ _ | refine Below.drew ?_ | refine balR ?_ _)); done))
    ((go_at_call 91; with_reducible refine (lo91_any _ _ _).mono ?_; rintro e w6 ⟨rfl, rfl⟩))
  all_goals
    go_wp2_with fail
    go_ret
    refine ⟨rfl, 1, ?_⟩
    rw [HW1.out]
    simp only [alloc_eq_grow, drew_grow, grow_grow]
    exact ⟨_, rfl⟩
end Go.Proofs.Ytnbnfadmbggfnaa
