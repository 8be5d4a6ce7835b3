/- Law of the map of complaints: keys that are pairs of ints; conditions: none. -/
import Derived.Test.YtgopdfbmddkpfaaV1
import Derived.Test.YtgopdfbmddkpfaaE1
set_option linter.unusedSimpArgs false
set_option linter.unusedVariables false
namespace Go.Proofs.Ytgopdfbmddkpfaa
open Go.RowKit Go.Fh Go.Ag
def ekCom (x : Int × Int) : Value := .agg #[.int .i64 x.1, .int .i64 x.2]
theorem eqlComplaint (x y : Int × Int) (w : World) : (Op.equal 66 (ekCom x) (ekCom y)).run Try.prog w = .ok (decide (x = y)) w := by
  have u3 := Try.underlying3
  have hS : Try.prog.underlying 66 = some (.struct (Try.prog.fieldsOf 66)) := by kernel_rfl
  have hp : Try.prog.stoodInHeld 66 = false := by kernel_rfl
  unfold ekCom Op.equal Op.maxDepth
  rw [show (10000 : Nat) = 9999 + 1 from rfl, run_equalIn_agg w 9999 66 _ _ hS hp]
  simp only [Program.fieldsOf, Try.underlying66]
  go_simp
  have hxy : x = y ↔ x.1 = y.1 ∧ x.2 = y.2 := by constructor; (intro e; subst e; simp); (intro e; exact Prod.ext e.1 e.2)
  by_cases h0 : x.1 = y.1 <;> by_cases h1 : x.2 = y.2 <;> simp [hxy, h0, h1]
theorem checkCom (b : Bool) (x : Int × Int) (w : World) : (Instr.checkKey b 10000 66 (ekCom x)).run Try.prog w = .ok () w := by
  cases b <;> kernel_rfl
theorem askCom : ∀ (es : List MapEntry) (ks : List (Int × Int)) (x : Int × Int) (i : Nat) (w : World), es.map (·.key) = ks.map ekCom → (Instr.findAsking 66 (ekCom x) es i).run Try.prog w = .ok (fnd es ks x i) w := by
  intro es
  induction es with
  | nil =>
    intro ks x i w h
    cases ks with
    | nil => rfl
    | cons _ _ => simp at h
  | cons e es ih =>
    intro ks x i w h
    cases ks with
    | nil => simp at h
    | cons k ks =>
      simp only [List.map_cons, List.cons.injEq] at h
      unfold Instr.findAsking
      rw [Sem.run_bind, h.1, eqlComplaint]
      simp only [Result.andThen_ok, fnd]
      by_cases hx : x = k
      · simp [hx]
      · simp only [decide_eq_false hx, Bool.false_eq_true, if_false, if_neg hx]
        exact ih ks x (i + 1) w h.2
theorem keyLaw_com : KeyLaw Try.prog 66 ekCom where
  check := checkCom
  find es ks x w h := by
    cases es with
    | nil =>
      cases ks with
      | nil => kernel_rfl
      | cons _ _ => simp at h
    | cons e es =>
      have ha := askCom (e :: es) ks x 0 w h
      simp only [Instr.findKey, Sem.run_bind, run_underlying Try.underlying66, Result.andThen_ok, Instr.findNow, Instr.sameNow]
      exact ha
  stay x := (fun n : Nat => (by cases n <;> simp [Instr.sameBits, ekCom] : Instr.sameBits (n + 1) (ekCom x) (ekCom x) = true)) 9999
end Go.Proofs.Ytgopdfbmddkpfaa
