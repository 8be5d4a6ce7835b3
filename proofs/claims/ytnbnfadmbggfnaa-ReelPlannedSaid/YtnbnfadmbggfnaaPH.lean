/- Contract of Plan at a right store; conditions: a right store in memory. -/
import Derived.Test.YtnbnfadmbggfnaaPG
set_option linter.unusedSimpArgs false
set_option linter.unusedVariables false
namespace Go.Proofs.Ytnbnfadmbggfnaa
open Go.RowKit Go.Fh Go.Rl
set_option maxRecDepth 20000 in
set_option maxHeartbeats 4000000 in
theorem plan_none (st : List ReelD) (ns : List (Int × Int)) (h : StoOk st ns) (A An : Option Addr) (c cn N m : Nat) (w : World) (hN : st.length = N) (hm : ns.length = m) (hA : Sl encReel 4 w w.heap.size A st) (hB : Sl enc2 2 w w.heap.size An ns) (hb : bestPl st ns = none) :
    Calls Try.prog 32 #[.slice A N c, .slice An m cn] w fun e w' => e = .returned (.tuple #[.slice none 0 0, .int .i64 4]) ∧ Hid (Below w.heap.size w w') := by
  have H76 := Lib.hid (chk76_ok st ns h A An c cn N m w hN hm hA hB)
  have H77 := Lib.hid (fun W (hw : Below w.heap.size w W) => least_any st ns h A An c cn N m W hN hm ((hA.below hw).mono hw.size) ((hB.below hw).mono hw.size))
  rw [hb] at H77
  clear hb hA hB hN hm h
  go_enter Try.func32, Try.ntmps32
  go_wp2_with first
    | (go_at_call 76; with_reducible refine H76.out.mono ?_; rintro e w2 ⟨rfl, HB2⟩)
    | (go_at_call 77; refine (H77.out _ HB2.out).mono ?_; rintro e w3 ⟨Ab, nb, cb, ub, bb, rfl, -, HB3⟩)
  go_ret2
  exact ⟨rfl, Lib.hid (balR (bstep HB2.out HB3.out) _)⟩
set_option maxRecDepth 20000 in
set_option maxHeartbeats 4000000 in
theorem plan_some (st : List ReelD) (ns : List (Int × Int)) (h : StoOk st ns) (A An : Option Addr) (c cn N m : Nat) (w : World) (hN : st.length = N) (hm : ns.length = m) (hA : Sl encReel 4 w w.heap.size A st) (hB : Sl enc2 2 w w.heap.size An ns) (z : PlT) (hb : bestPl st ns = some z) :
    Calls Try.prog 32 #[.slice A N c, .slice An m cn] w fun e w' => ∃ Ab cb, e = .returned (.tuple #[.slice Ab z.1.length cb, .int .i64 0]) ∧ Hid (Sl encInt 1 w' w'.heap.size Ab z.1) ∧ Hid (Below w.heap.size w w') := by
  have H76 := Lib.hid (chk76_ok st ns h A An c cn N m w hN hm hA hB)
  have H77 := Lib.hid (fun W (hw : Below w.heap.size w W) => least_any st ns h A An c cn N m W hN hm ((hA.below hw).mono hw.size) ((hB.below hw).mono hw.size))
  rw [hb] at H77
  clear hb hA hB hN hm h
  go_enter Try.func32, Try.ntmps32
  go_upto_region 7 with first
    | (go_at_call 76; with_reducible refine H76.out.mono ?_; rintro e w2 ⟨rfl, HB2⟩)
    | (go_at_call 77; refine (H77.out _ HB2.out).mono ?_; rintro e w3 ⟨Ab, nb, cb, ub, bb, rfl, HZ, HB3⟩)
  obtain ⟨h1, h2, h3, h4⟩ := HZ.out z rfl
  subst h1
  have HSL := Lib.hid h2
  obtain ⟨g7, hg7⟩ : ∃ g, g = w3.heap.size := ⟨_, rfl⟩
  obtain ⟨w4, hw4⟩ : ∃ W, W = w3.alloc (.cells #[.slice Ab z.1.length cb, .int .i64 ub, .int .i64 bb] 148) := ⟨_, rfl⟩
  rw [← hw4, ← hg7]
  have k4 : Blk w4 g7 148 #[.slice Ab z.1.length cb, .int .i64 ub, .int .i64 bb] := by rw [hw4, hg7]; exact Blk.new _ _ _
  have c0 := k4.cell 0
  simp at c0
  have HB4 := Lib.hid (show Below w3.heap.size w3 w4 from by rw [hw4]; exact balR (Below.refl _ _) _)
  clear h2 h3 h4 hw4 hg7 k4
  go_wp2_with fail
  go_ret2
  exact ⟨Ab, cb, rfl, Lib.hid ((HSL.out.below HB4.out).mono HB4.out.size), Lib.hid (bstep (bstep HB2.out HB3.out) HB4.out)⟩
end Go.Proofs.Ytnbnfadmbggfnaa
