/- Maps whose keys are arrays of numbers; conditions: as each says. -/
import Derived.Test.YtfejedmpplbmjaaMaps
import Derived.Maps.Own
import Derived.Maps.OwnOps
import Derived.ChangeKeysEq
set_option linter.unusedSimpArgs false
set_option linter.unusedVariables false
namespace Go.Fh
open Go.RowKit
/-- a list of ints as the value of an array -/
def arrV (k : IntKind) (l : List Int) : Value := .agg (l.map (Value.int k)).toArray
section
variable {P : Program} {t e : TypeId} {n : Nat} {k : IntKind} {i : TypeInfo}
theorem cells_int (hu : P.underlying e = some (.int k)) (hc : P.cellsOf e = 1) : True := trivial
theorem arrV_get {l : List Int} {j : Nat} (hj : j < l.length) : (l.map (Value.int k)).toArray[j]? = some (.int k l[j]) := by
  simp [hj]
theorem plain_int (hu : P.underlying e = some (.int k)) : P.plainKey e = true := by simp [Program.plainKey, hu]
theorem run_eqItems_ints (d : Nat) (hu : P.underlying e = some (.int k)) (x y : List Int) (w : World) : ∀ (is : List Nat), (∀ j ∈ is, j < x.length ∧ j < y.length) →
    (Op.eqItems (d + 1) e 1 (x.map (Value.int k)).toArray (y.map (Value.int k)).toArray is).run P w = .ok (is.all fun j => x.getD j 0 == y.getD j 0) w := by
  intro is
  induction is with
  | nil => intro _; simp [Op.eqItems]
  | cons j is ih =>
    intro h
    obtain ⟨h1, h2⟩ := h j (by simp)
    have p1 := run_part_plain (P := P) w (plain_int hu) (xs := (x.map (Value.int k)).toArray) (off := j * 1) (v := .int k x[j]) (by rw [Nat.mul_one]; exact arrV_get h1)
    have p2 := run_part_plain (P := P) w (plain_int hu) (xs := (y.map (Value.int k)).toArray) (off := j * 1) (v := .int k y[j]) (by rw [Nat.mul_one]; exact arrV_get h2)
    have g1 : x.getD j 0 = x[j] := by simp [h1]
    have g2 : y.getD j 0 = y[j] := by simp [h2]
    simp only [Op.eqItems, Sem.run_bind, p1, p2, Result.andThen_ok, run_equalIn_int w d e k k _ _ hu, List.all_cons, g1, g2]
    cases hb : (x[j] == y[j])
    · simp
    · simpa using ih fun q hq => h q (by simp [hq])
theorem eq_all {x y : List Int} (hx : x.length = n) (hy : y.length = n) : ((List.range n).all fun j => x.getD j 0 == y.getD j 0) = decide (x = y) := by
  rw [Bool.eq_iff_iff]
  simp only [List.all_eq_true, List.mem_range, beq_iff_eq, decide_eq_true_eq]
  constructor
  · intro h
    refine List.ext_getElem (by omega) fun j h1 h2 => ?_
    have := h j (by omega)
    simpa [h1, h2] using this
  · rintro rfl j _; rfl
abbrev ArrK (n : Nat) := { l : List Int // l.length = n }
theorem equal_arr (ht : P.underlying t = some (.array n e)) (hi : P.info? e = some i) (hc : P.cellsOf e = 1) (hu : P.underlying e = some (.int k)) (x y : ArrK n) (w : World) :
    (Op.equal t (arrV k x.1) (arrV k y.1)).run P w = .ok (decide (x = y)) w := by
  unfold arrV Op.equal Op.maxDepth
  rw [show (10000 : Nat) = 9998 + 1 + 1 from rfl, run_equalIn_array w (9998 + 1) _ _ ht hi, hc, run_eqItems_ints 9998 hu x.1 y.1 w _ (fun j hj => by rw [x.2, y.2]; simpa using hj), eq_all x.2 y.2]
  congr 1
  simp [Subtype.ext_iff]
theorem check_arr (ht : P.underlying t = some (.array n e)) (hi : P.info? e = some i) (hc : P.cellsOf e = 1) (hu : P.underlying e = some (.int k)) (b : Bool) (x : ArrK n) (w : World) (d : Nat) :
    (Instr.checkKey b (d + 2) t (arrV k x.1)).run P w = .ok () w := by
  unfold arrV
  rw [show d + 2 = (d + 1) + 1 from rfl]
  simp only [Instr.checkKey, Sem.run_bind, run_underlying ht, Result.andThen_ok, run_sizeOf w hi, hc]
  simp only [Std.Legacy.Range.forIn_eq_forIn_range', Std.Legacy.Range.size, Nat.sub_zero, Nat.add_one_sub_one, Nat.div_one, ← List.range_eq_range']
  have h : ∀ j ∈ List.range n, j < x.1.length := fun j hj => by rw [x.2]; simpa using hj
  generalize List.range n = is at h ⊢
  induction is with
  | nil => simp
  | cons j is ih =>
    have h1 := h j (by simp)
    have p1 := run_part_plain (P := P) w (plain_int hu) (xs := (x.1.map (Value.int k)).toArray) (off := j * 1) (v := .int k x.1[j]) (by rw [Nat.mul_one]; exact arrV_get h1)
    simp only [List.forIn_cons, Sem.run_bind, p1, Result.andThen_ok, run_sizeOf w hi, hc, run_underlying hu, Sem.run_pure]
    simpa [hc, run_sizeOf w hi] using ih fun q hq => h q (by simp [hq])
theorem stay_arr (k : IntKind) (x : List Int) (d : Nat) : Instr.sameBits (d + 1) (arrV k x) (arrV k x) = true := by
  unfold arrV
  simp only [Instr.sameBits, BEq.rfl, Bool.true_and]
  induction x with
  | nil => rfl
  | cons z x ih =>
    simp only [List.map_cons, List.zip_cons_cons, List.all_cons, Bool.and_eq_true]
    exact ⟨by cases d <;> simp [Instr.sameBits], ih⟩
theorem ask_arr (ht : P.underlying t = some (.array n e)) (hi : P.info? e = some i) (hc : P.cellsOf e = 1) (hu : P.underlying e = some (.int k)) : ∀ (es : List MapEntry) (ks : List (ArrK n)) (x : ArrK n) (j : Nat) (w : World), es.map (·.key) = ks.map (fun x => arrV k x.1) → (Instr.findAsking t (arrV k x.1) es j).run P w = .ok (fnd es ks x j) w := by
  intro es
  induction es with
  | nil =>
    intro ks x i w h
    cases ks with
    | nil => rfl
    | cons _ _ => simp at h
  | cons e es ih =>
    intro ks x i w h
    cases ks with
    | nil => simp at h
    | cons y ks =>
      simp only [List.map_cons, List.cons.injEq] at h
      unfold Instr.findAsking
      rw [Sem.run_bind, h.1, equal_arr ht hi hc hu]
      simp only [Result.andThen_ok, fnd]
      by_cases hx : x = y
      · simp [hx]
      · simp only [decide_eq_false hx, Bool.false_eq_true, if_false, if_neg hx]
        exact ih ks x (i + 1) w h.2
theorem keyLaw_arr (ht : P.underlying t = some (.array n e)) (hi : P.info? e = some i) (hc : P.cellsOf e = 1) (hu : P.underlying e = some (.int k)) : KeyLaw P t (fun x : ArrK n => arrV k x.1) where
  check b x w := check_arr ht hi hc hu b x w 9998
  find es ks x w h := by
    cases es with
    | nil =>
      cases ks with
      | nil => simp [Instr.findKey, run_underlying ht, Instr.findNow, fnd]
      | cons _ _ => simp at h
    | cons e' es =>
      have ha := ask_arr ht hi hc hu (e' :: es) ks x 0 w h
      cases ks with
      | nil => simp at h
      | cons y ks =>
        have hk : e'.key = arrV k y.1 := by simpa using (List.cons.inj (by simpa using h)).1
        simp only [Instr.findKey, Sem.run_bind, run_underlying ht, Result.andThen_ok, Instr.findNow, Instr.sameNow]
        exact ha
  stay x := stay_arr k x.1 9999
end
end Go.Fh
