/- Best is the least of the supplies with the least total: plain law; conditions: none. -/
import Derived.Test.YtgopdfbmddkpfaaSpec
set_option linter.unusedSimpArgs false
set_option linter.unusedVariables false
namespace Go.Ag
/-- what one copy more costs on a day -/
def costD (q over under : Int) (d : Int × Int) : Int := if q < d.1 - d.2 then -under else if 0 < d.2 then over else 0
def costS (q over under : Int) : List (Int × Int) → Int
  | [] => 0
  | d :: ds => costD q over under d + costS q over under ds
theorem costS_snoc (q over under : Int) (l : List (Int × Int)) (d : Int × Int) : costS q over under (l ++ [d]) = costS q over under l + costD q over under d := by
  induction l with
  | nil => simp [costS]
  | cons x l ih => simp only [List.cons_append, costS, ih]; omega
theorem loss_step (d : Int × Int) (q over under : Int) : lossOf d.1 d.2 (q + 1) over under - lossOf d.1 d.2 q over under = costD q over under d := by
  unfold lossOf costD
  have e1 : under * (d.1 - d.2 - (q + 1)) = under * (d.1 - d.2 - q) - under := by rw [show d.1 - d.2 - (q + 1) = (d.1 - d.2 - q) - 1 by omega, Int.mul_sub, Int.mul_one]
  have e2 : over * -(d.1 - d.2 - (q + 1)) = over * -(d.1 - d.2 - q) + over := by rw [show -(d.1 - d.2 - (q + 1)) = -(d.1 - d.2 - q) + 1 by omega, Int.mul_add, Int.mul_one]
  by_cases h1 : q < d.1 - d.2
  · rw [if_pos (by omega), if_pos (by omega), if_pos h1, e1]; omega
  · rw [if_neg (by omega), if_neg h1, e2]
    by_cases h3 : 0 ≤ d.1 - d.2 - q
    · have h4 : d.1 - d.2 - q = 0 := by omega
      rw [if_pos h3, h4]
      by_cases h2 : 0 < d.2
      · rw [if_pos h2, if_pos h2]; simp
      · rw [if_neg h2, if_neg h2]; simp
    · rw [if_neg h3]
      by_cases h2 : 0 < d.2
      · rw [if_pos h2, if_pos h2, if_pos h2]; omega
      · rw [if_neg h2, if_neg h2, if_neg h2]; simp
theorem total_step (l : List (Int × Int)) (q over under : Int) : totalOf (q + 1) over under l - totalOf q over under l = costS q over under l := by
  induction l with
  | nil => simp [totalOf, costS]
  | cons d l ih =>
    have := loss_step d q over under
    simp only [totalOf, costS]
    omega
/-- at a supply that was sold on no day the step is that of the supply below -/
theorem costS_even {l : List (Int × Int)} {q over under : Int} (h : ∀ d ∈ l, d.1 - d.2 ≠ q) : costS q over under l = costS (q - 1) over under l := by
  induction l with
  | nil => rfl
  | cons d l ih =>
    simp only [costS, ih (fun x hx => h x (by simp [hx]))]
    have := h d (by simp)
    unfold costD
    by_cases h1 : q < d.1 - d.2
    · rw [if_pos h1, if_pos (by omega)]
    · rw [if_neg h1, if_neg (show ¬ q - 1 < d.1 - d.2 by omega)]
theorem costS_pos {l : List (Int × Int)} {q over under : Int} (ho : 0 ≤ over) (h : ∀ d ∈ l, d.1 - d.2 ≤ q) : 0 ≤ costS q over under l := by
  induction l with
  | nil => simp [costS]
  | cons d l ih =>
    have a := ih (fun x hx => h x (by simp [hx]))
    have b := h d (by simp)
    have c : 0 ≤ costD q over under d := by
      unfold costD
      rw [if_neg (by omega)]
      split <;> omega
    simp only [costS]; omega
def Cand (l : List (Int × Int)) (c : Int) : Prop := c = 0 ∨ ∃ d ∈ l, d.1 - d.2 = c
/-- where one copy more saves, a number that was sold has a lesser total -/
theorem up_cand {l : List (Int × Int)} {over under : Int} (ho : 0 ≤ over) (hM : ∀ d ∈ l, d.1 - d.2 ≤ 10000) : ∀ (n : Nat) (q : Int), 10000 - q < n → costS q over under l < 0 → ∃ c, Cand l c ∧ totalOf c over under l < totalOf q over under l := by
  intro n
  induction n with
  | zero =>
    intro q hq hs
    have := costS_pos (q := q) (under := under) ho (fun d hd => by have := hM d hd; omega)
    omega
  | succ n ih =>
    intro q hq hs
    have ht := total_step l q over under
    by_cases hc : Cand l (q + 1)
    · exact ⟨q + 1, hc, by omega⟩
    · have he := costS_even (l := l) (q := q + 1) (over := over) (under := under) (fun d hd e => hc (.inr ⟨d, hd, e⟩))
      rw [show q + 1 - 1 = q by omega] at he
      obtain ⟨c, h1, h2⟩ := ih (q + 1) (by omega) (by omega)
      exact ⟨c, h1, by omega⟩
theorem any_cand {l : List (Int × Int)} {over under : Int} (ho : 0 ≤ over) (hM : ∀ d ∈ l, d.1 - d.2 ≤ 10000) : ∀ (n : Nat), ∃ c, Cand l c ∧ (totalOf c over under l < totalOf n over under l ∨ (totalOf c over under l ≤ totalOf n over under l ∧ c ≤ n)) := by
  intro n
  induction n with
  | zero => exact ⟨0, .inl rfl, .inr ⟨Int.le_refl _, Int.le_refl _⟩⟩
  | succ n ih =>
    by_cases hc : Cand l ((n : Int) + 1)
    · exact ⟨_, hc, .inr ⟨Int.le_refl _, by simp⟩⟩
    · have he := costS_even (l := l) (q := (n : Int) + 1) (over := over) (under := under) (fun d hd e => hc (.inr ⟨d, hd, e⟩))
      rw [show (n : Int) + 1 - 1 = n by omega] at he
      have ht := total_step l n over under
      by_cases hs : costS n over under l < 0
      · obtain ⟨c, h1, h2⟩ := up_cand (l := l) (over := over) (under := under) ho hM ((10000 - ((n : Int) + 1)).toNat + 1) ((n : Int) + 1) (by omega) (by omega)
        exact ⟨c, h1, .inl (by simpa using h2)⟩
      · obtain ⟨c, h1, h2⟩ := ih
        refine ⟨c, h1, ?_⟩
        simp only [Int.natCast_add, Int.cast_ofNat_Int]
        rcases h2 with h2 | ⟨h2, h3⟩
        · exact .inl (by omega)
        · exact .inr ⟨by omega, by omega⟩
end Go.Ag
