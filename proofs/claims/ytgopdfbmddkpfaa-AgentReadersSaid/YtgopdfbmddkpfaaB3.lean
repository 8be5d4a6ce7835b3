/- Sorting an own row; conditions: none. -/
import Derived.Test.YtgopdfbmddkpfaaB1
import Derived.Test.YtgopdfbmddkpfaaShelf
import Derived.Lib.OwnBridge
import Derived.Lib.SortBridge
set_option linter.unusedSimpArgs false
set_option linter.unusedVariables false
namespace Go.Proofs.Ytgopdfbmddkpfaa
open Go.RowKit Go.Fh Go.Ag Go.Sort

theorem below_grow {B : Nat} {w : World} (os : Array Obj) (hB : B ≤ w.heap.size) : Below B w (grow w os) :=
  ⟨rfl, rfl, rfl, by simp, fun k hk => by rw [heap_grow_old w os (by omega)]⟩
theorem flat_encInt' (l : List Int) : l.flatMap encInt = l.map (Value.int .i64) := by
  induction l with
  | nil => rfl
  | cons x l ih => simp [List.flatMap_cons, encInt, ih]
theorem sl_ownInt' {w : World} {base c : Nat} {A : Option Addr} {l : List Int} (h : w.ownsRow base 3 1 (.slice A l.length c) l.length (l.map (Value.int .i64))) : Sl encInt 1 w w.heap.size A l :=
  Sl.of_own (enc := encInt) (fun _ => rfl) (by rw [flat_encInt']; exact h)
theorem sort_own {w : World} {base c : Nat} {A : Option Addr} {op : List Int} (h : w.ownsRow base 3 1 (.slice A op.length c) op.length (op.map (Value.int .i64))) (hp : 0 < op.length) (hl : op.length < 4611686018427387904) :
    Calls Try.prog 41 #[.slice A op.length c] w fun e w' => e = .returned (.tuple #[]) ∧ w'.ownsRow base 3 1 (.slice A op.length c) op.length ((op.mergeSort fun x y => decide (x ≤ y)).map (Value.int .i64)) ∧ Below base w w' := by
  obtain ⟨g, cap, e, hbo1, hbo2, hcap1, hcap2, _, hH⟩ := Lib.holds_of_ownsRow h (by intro e; injection e; omega)
  injection e with e1 _ e3
  subst e1; subst e3
  refine (Try.slices_Sort_int g 0 c op w hH hbo2 hl).mono ?_
  rintro e w' ⟨rfl, q, os, rfl⟩
  have h1 := Lib.ownsRow_putRow (q := q) (k := op.length) (ys := op.mergeSort fun x y => decide (x ≤ y)) h (by simp) (Nat.le_refl _)
  rw [List.take_of_length_le (by simp)] at h1
  have hb1 : Below base w (putRow (Value.int .i64) (Sort.ahead w q) g 0 (op.mergeSort fun x y => decide (x ≤ y)).toArray) := Lib.below_putRow (Below.refl _ _) hbo1
  have hs := hb1.size
  refine ⟨rfl, ?_, hb1.trans (below_grow os (by omega))⟩
  refine ⟨h1.1, ?_⟩
  rcases h1.2 with h0 | ⟨g', cap, cur, e, hbs, hh, rest⟩
  · exact .inl h0
  · exact .inr ⟨g', cap, cur, e, hbs, by rw [heap_grow_old _ os (Array.getElem?_eq_some_iff.1 hh).1]; exact hh, rest⟩
end Go.Proofs.Ytgopdfbmddkpfaa
