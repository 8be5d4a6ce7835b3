/- Plain functions of chapter 11: what a method says; conditions: none. -/
import Derived.Test.YtgopdfbmddkpfaaSpec
namespace Go.Ag
def stepM (m : Int × Int) : Int := if m.1 = 3 then 7 else 1
/-- how many days a method looks at -/
def lookN (m : Int × Int) (day : Int) : Nat := if m.1 = 3 then min m.2.toNat (day.toNat / 7) else min m.2.toNat day.toNat
theorem lookN_lt {m : Int × Int} {day : Int} (hd : 0 ≤ day) (hm : 0 ≤ m.2) (k : Nat) : k < lookN m day ↔ ((k : Int) + 1 ≤ m.2 ∧ 0 ≤ day - ((k : Int) + 1) * stepM m) := by
  unfold lookN stepM
  split <;> omega
def dayAt (m : Int × Int) (day : Int) (k : Nat) : Int := day - ((k : Int) + 1) * stepM m
def uptoF {α : Type} (f : Nat → α) (k : Nat) : List α := (List.range k).map f
theorem uptoF_succ {α : Type} (f : Nat → α) (k : Nat) : uptoF f (k + 1) = uptoF f k ++ [f k] := by simp [uptoF, List.range_succ]
theorem uptoF_length {α : Type} (f : Nat → α) (k : Nat) : (uptoF f k).length = k := by simp [uptoF]
theorem dayAt_bd {m : Int × Int} {day : Int} {k : Nat} (hd : 0 ≤ day) (hm : 0 ≤ m.2) (hk : k < lookN m day) : 0 ≤ dayAt m day k ∧ dayAt m day k < day := by
  obtain ⟨h1, h2⟩ := (lookN_lt hd hm k).1 hk
  unfold dayAt
  refine ⟨h2, ?_⟩
  have h3 : 1 ≤ stepM m := by unfold stepM; split <;> omega
  have h4 : 1 ≤ ((k : Int) + 1) * stepM m := Int.le_trans h3 (by
    have := Int.mul_le_mul_of_nonneg_right (show (1 : Int) ≤ (k : Int) + 1 by omega) (show 0 ≤ stepM m by omega)
    omega)
  omega
/-- a day that a method looks at -/
abbrev DayI (day : Int) := {x : Int // day ≤ 0 ∨ (0 ≤ x ∧ x < day)}
def fD (m : Int × Int) (day : Int) (k : Nat) : DayI day := if h : 0 ≤ dayAt m day k ∧ dayAt m day k < day then ⟨dayAt m day k, .inr h⟩ else ⟨0, by omega⟩
theorem fD_eq {m : Int × Int} {day : Int} {k : Nat} {x : Int} (hx : day ≤ 0 ∨ (0 ≤ x ∧ x < day)) (h : 0 ≤ x ∧ x < day) (e : dayAt m day k = x) : fD m day k = ⟨x, hx⟩ := by
  subst e
  unfold fD
  rw [dif_pos h]
def soldAt (h : List (Int × Int)) (k : Int) : Int := (h.getD k.toNat (0, 0)).1 - (h.getD k.toNat (0, 0)).2
theorem soldAt_bd {h : List (Int × Int)} (hd : ∀ d ∈ h, OkDay d) (k : Int) : 0 ≤ soldAt h k ∧ soldAt h k ≤ 10000 := by
  unfold soldAt
  by_cases hk : k.toNat < h.length
  · have := hd _ (List.getElem_mem hk)
    simp only [List.getD_eq_getElem?_getD, List.getElem?_eq_getElem hk, Option.getD_some]
    unfold OkDay at this
    omega
  · rw [List.getD_eq_getElem?_getD, List.getElem?_eq_none (by omega)]
    simp
def soldL (m : Int × Int) (h : List (Int × Int)) (day : Int) : List Int := (uptoF (dayAt m day) (lookN m day)).map (soldAt h)
theorem soldL_fD {m : Int × Int} {h : List (Int × Int)} {day : Int} (hd : 0 ≤ day) (hm : 0 ≤ m.2) : (uptoF (fD m day) (lookN m day)).map (fun x => soldAt h x.1) = soldL m h day := by
  unfold soldL uptoF
  rw [List.map_map, List.map_map]
  apply List.map_congr_left
  intro k hk
  have hb := dayAt_bd hd hm (List.mem_range.1 hk)
  simp only [Function.comp]
  rw [fD_eq (.inr hb) hb rfl]
theorem soldL_len (m : Int × Int) (h : List (Int × Int)) (day : Int) : (soldL m h day).length = lookN m day := by simp [soldL, uptoF]
end Go.Ag
