/- Contracts: days (the maker of the iterator), the array of functions; conditions: none. -/
import Derived.Test.YtgopdfbmddkpfaaN2
import Derived.Maps.AppendAt
import Derived.Deep.WholeRow
set_option linter.unusedSimpArgs false
set_option linter.unusedVariables false
namespace Go.Proofs.Ytgopdfbmddkpfaa
open Go.RowKit Go.Shelf Go.Ag Go.Fh
attribute [local go_sem] Oper.semAt_some

set_option maxHeartbeats 1000000 in
theorem days_in (F : Fence) (n : Nat) (h5 : F.fn 117) (hro : F.round = none) (m : Int × Int) (day : Int) (w : World) :
    CallsIn F n Try.prog 117 #[.agg #[.int .i64 m.1, .int .i64 m.2], .int .i64 day] w fun e w' => e = .returned (.func (.func 138) #[] #[.pointer (some ⟨w.heap.size, 0, none⟩), .pointer (some ⟨w.heap.size + 1, 0, none⟩)]) ∧
      w' = (w.alloc (.cells #[.int .i64 m.1, .int .i64 m.2] 72)).alloc (.cells #[.int .i64 day] 3) := by
  refine callsIn_of_wp Try.func117 rfl h5 ?_ hro
  simp only [Try.ntmps117, List.size_toArray, List.length_cons, List.length_nil, Nat.reduceAdd, Nat.reduceSub, Array.replicate_succ, Array.replicate_zero, List.push_toArray, List.append_toArray, List.nil_append, List.cons_append]
  gi_wp2
  go_ret
  exact ⟨rfl, rfl⟩

theorem run_store_fn (P : Program) (w : World) (a : Addr) (m : Mode) (f : Fn) (x y : Array Value) : (store a (.func f x y) m).run P w = stored P w a (.func f x y) m := run_store P w a _ m rfl
theorem run_store_nilFn (P : Program) (w : World) (a : Addr) (m : Mode) : (store a .nilFunc m).run P w = stored P w a .nilFunc m := run_store P w a _ m rfl
attribute [local go_sem] run_store_fn run_store_nilFn
theorem saysArr_any (w : World) : Calls Try.prog 118 #[] w fun e w' => e = .returned (.agg #[.nilFunc, .func (.func 139) #[] #[], .func (.func 140) #[] #[], .func (.func 140) #[] #[], .func (.func 141) #[] #[]]) ∧ Below w.heap.size w w' := by
  go_enter Try.func118, Try.ntmps118
  go_wp2_with fail
  refine bodyPost_ret (v := .agg #[.nilFunc, .func (.func 139) #[] #[], .func (.func 140) #[] #[], .func (.func 140) #[] #[], .func (.func 141) #[] #[]]) ?_ rfl ⟨rfl, (Below.refl _ _).alloc (Nat.le_refl _) _⟩
  have := Go.run_loadVar_new (P := Try.prog) w 200 #[Value.nilFunc, Value.func (Fn.func 139) #[] #[], Value.func (Fn.func 140) #[] #[], Value.func (Fn.func 140) #[] #[], Value.func (Fn.func 141) #[] #[]] 5 _ Try.underlying200 (by kernel_rfl)
  simp [results, Try.f118, go_sem, this]
end Go.Proofs.Ytgopdfbmddkpfaa
