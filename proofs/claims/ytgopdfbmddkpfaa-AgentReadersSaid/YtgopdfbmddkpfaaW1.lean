/- Contracts: week, reader, Method.wrong; conditions: none. -/
import Derived.Test.YtgopdfbmddkpfaaA5
import Derived.Test.YtgopdfbmddkpfaaS2
set_option linter.unusedSimpArgs false
set_option linter.unusedVariables false
namespace Go.Proofs.Ytgopdfbmddkpfaa
open Go.RowKit Go.Fh Go.Ag

theorem week_any (w : World) :
    Calls Try.prog 45 #[] w fun e w' => ∃ g c, e = .returned (.slice (some ⟨g, 0, none⟩) 3 c) ∧ Sl enc2 2 w' w'.heap.size (some ⟨g, 0, none⟩) [(10, 2), (10, 0), (12, 5)] ∧ w.heap.size ≤ g ∧ Below w.heap.size w w' := by
  go_enter Try.func45, Try.ntmps45
  go_wp2_with fail
  go_ret
  exact ⟨_, _, rfl, Sl.of_blk (enc := enc2) (fun _ => rfl) (by decide) (Blk.new w 33 _) rfl, Nat.le_refl _, (Below.refl _ _).alloc (Nat.le_refl _) _⟩

theorem reader_any (w : World) :
    Calls Try.prog 46 #[] w fun e w' => ∃ g, e = .returned (.agg (subV ⟨1, 0, 20, 127, [(5, 9)]⟩ (some ⟨g, 0, none⟩) 1)) ∧ Sl enc2 2 w' w'.heap.size (some ⟨g, 0, none⟩) [(5, 9)] ∧ w.heap.size ≤ g ∧ Below w.heap.size w w' := by
  go_enter Try.func46, Try.ntmps46
  go_wp2_with fail
  have kf : Blk ((w.alloc (.cells #[.int .i64 1, .int .i64 0, .int .i64 20, .int .i64 127, .slice (some ⟨w.heap.size + 1, 0, none⟩) 1 1] 63)).alloc (.cells #[.int .i64 5, .int .i64 9] 88)) w.heap.size 63 #[.int .i64 1, .int .i64 0, .int .i64 20, .int .i64 127, .slice (some ⟨w.heap.size + 1, 0, none⟩) 1 1] := (Blk.new w 63 _).alloc _
  refine bodyPost_ret (v := .agg (subV ⟨1, 0, 20, 127, [(5, 9)]⟩ (some ⟨w.heap.size + 1, 0, none⟩) 1)) ?_ rfl ⟨w.heap.size + 1, rfl, ?_, by omega, ((Below.refl _ _).alloc (Nat.le_refl _) _).alloc (by simp) _⟩
  · have z0 := kf.cell 0
    have z1 := kf.cell 1
    have z2 := kf.cell 2
    have z3 := kf.cell 3
    have z4 := kf.cell 4
    simp at z0 z1 z2 z3 z4
    simp [results, Try.results46, go_sem, subV]
  · have kn := Blk.new (w.alloc (.cells #[.int .i64 1, .int .i64 0, .int .i64 20, .int .i64 127, .slice (some ⟨w.heap.size + 1, 0, none⟩) 1 1] 63)) 88 #[.int .i64 5, .int .i64 9]
    rw [World.size_alloc] at kn
    exact Sl.of_blk (enc := enc2) (fun _ => rfl) (by decide) kn rfl

def wrongM (m : Int × Int) : Bool := !inB m.1 1 4 || (!inB m.2 1 60 || (decide (m.1 = 1) && decide (1 < m.2)))
set_option maxRecDepth 20000 in
set_option maxHeartbeats 1000000 in
theorem wrongM_any (m : Int × Int) (w : World) :
    Calls Try.prog 78 #[.agg #[.int .i64 m.1, .int .i64 m.2]] w fun e w' => e = .returned (.bool (wrongM m)) ∧ Below w.heap.size w w' := by
  have hb0 : Below w.heap.size w (w.alloc (.cells #[.int .i64 m.1, .int .i64 m.2] 72)) := (Below.refl _ _).alloc (Nat.le_refl _) _
  cases h1 : inB m.1 1 4
  · have hr : wrongM m = true := by simp [wrongM, h1]
    have HR := Lib.hid hr
    clear hr
    go_enter Try.func78, Try.ntmps78
    go_wp2_with (go_at_call 48; refine (within_any _ _ _ _).mono ?_; rintro e w' ⟨rfl, rfl⟩)
    go_ret
    exact ⟨ret_bool HR.out.symm, hb0⟩
  · cases h2 : inB m.2 1 60
    · have hr : wrongM m = true := by simp [wrongM, h1, h2]
      have HR := Lib.hid hr
      clear hr
      go_enter Try.func78, Try.ntmps78
      go_wp2_with (go_at_call 48; refine (within_any _ _ _ _).mono ?_; rintro e w' ⟨rfl, rfl⟩)
      go_ret
      exact ⟨ret_bool HR.out.symm, hb0⟩
    · have hr : wrongM m = (decide (m.1 = 1) && decide (1 < m.2)) := by simp [wrongM, h1, h2]
      have HR := Lib.hid hr
      clear hr
      go_enter Try.func78, Try.ntmps78
      go_wp2_with (go_at_call 48; refine (within_any _ _ _ _).mono ?_; rintro e w' ⟨rfl, rfl⟩)
      · rename_i hx
        have hx1 : m.1 = 1 := by simpa using hx
        have HX := Lib.hid hx1
        clear hx hx1
        go_ret
        exact ⟨ret_bool (by rw [HR.out, HX.out]; simp), (Below.refl _ _).alloc (Nat.le_refl _) _⟩
      · rename_i hx
        have hx1 : m.1 ≠ 1 := by simpa using hx
        have HX := Lib.hid hx1
        clear hx hx1
        go_ret
        exact ⟨ret_bool (by rw [HR.out]; simp [HX.out]), hb0⟩
end Go.Proofs.Ytgopdfbmddkpfaa
