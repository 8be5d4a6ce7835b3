/- Plain functions: the orders and the subscribers that the law makes of numbers; conditions: none. -/
import Derived.Test.YtgopdfbmddkpfaaSpec8
import Derived.Test.YtgopdfbmddkpfaaSpec5
namespace Go.Ag
def ordN (l : List Int) : Nat := min (l.length / 2) 12
def ordF (l : List Int) (k : Nat) : Ord3 := (6 * (k : Int), l.getD (2 * k) 0 % 60, l.getD (2 * k + 1) 0 % (l.getD (2 * k) 0 % 60 + 1) / 3)
def ordD (l : List Int) : List Ord3 := uptoF (ordF l) (ordN l)
theorem ordD_len (l : List Int) : (ordD l).length = ordN l ∧ ordN l ≤ 12 := by simp [ordD, uptoF_length, ordN]; omega
theorem ordF_ok {l : List Int} {k : Nat} (hk : k ≤ 12) : OkOrd (ordF l k) ∧ (ordF l k).2.1 < 60 := by
  unfold ordF OkOrd
  have h1 : 0 ≤ l.getD (2 * k) 0 % 60 := Int.emod_nonneg _ (by decide)
  have h2 : l.getD (2 * k) 0 % 60 < 60 := Int.emod_lt_of_pos _ (by decide)
  have h3 : 0 ≤ l.getD (2 * k + 1) 0 % (l.getD (2 * k) 0 % 60 + 1) := Int.emod_nonneg _ (by omega)
  have h4 : l.getD (2 * k + 1) 0 % (l.getD (2 * k) 0 % 60 + 1) < l.getD (2 * k) 0 % 60 + 1 := Int.emod_lt_of_pos _ (by omega)
  dsimp only
  omega
theorem uptoF_get {α : Type} (f : Nat → α) (d : α) {n k : Nat} (hk : k < n) : (uptoF f n).getD k d = f k := by simp [uptoF, hk]
theorem uptoF_getElem {α : Type} (f : Nat → α) {n k : Nat} (hk : k < (uptoF f n).length) : (uptoF f n)[k] = f k := by simp [uptoF]
theorem ordD_ok (l : List Int) : ∀ o ∈ ordD l, OkOrd o := by
  intro o ho
  obtain ⟨k, hk, rfl⟩ := List.mem_iff_getElem.1 ho
  unfold ordD at hk ⊢
  rw [uptoF_getElem]
  have := (ordD_len l).2
  rw [uptoF_length] at hk
  exact (ordF_ok (by omega)).1
theorem ordD_getElem {l : List Int} {k : Nat} (hk : k < (ordD l).length) : (ordD l)[k] = ordF l k := by simp [ordD, uptoF]
theorem ordD_err (l : List Int) : firstErr (errO (ordD l)) (ordD l).length = 0 := by
  refine firstErr_of_zero fun k hk => ?_
  rw [errO_get hk]
  have h1 := (OkOrd_iff _).2 (ordD_ok l _ (List.getElem_mem hk))
  rw [h1]
  have h2 : metO (ordD l) k (ordD l)[k].1 = false := by
    unfold metO
    rw [List.any_eq_false]
    intro p hp
    obtain ⟨j, hj, rfl⟩ := List.mem_iff_getElem.1 hp
    rw [List.length_take] at hj
    rw [List.getElem_take]
    rw [ordD_getElem, ordD_getElem]
    simp [ordF]
    omega
  rw [h2]
  simp
theorem ordD_shared (l : List Int) {n : Int} (hn : 0 ≤ n) : sharedE (ordD l) n = if n < needO (ordD l) then 4 else 0 := by
  unfold sharedE
  have := ordD_len l
  rw [if_neg (by omega), ordD_err, if_neg (by simp), if_neg (by omega)]

def subN (l : List Int) : Nat := min (l.length / 4) 10
def holF (x y : Int) : List (Int × Int) := if 60 < x then [(x % 50, x % 50 + y % 9)] else []
def subF (l : List Int) (k : Nat) : SubD := ⟨4 * (k : Int), l.getD (4 * k) 0 % 40, l.getD (4 * k) 0 % 40 + l.getD (4 * k + 1) 0 % 60, 1 + l.getD (4 * k + 2) 0 % 127, holF (l.getD (4 * k + 3) 0) (l.getD (4 * k + 2) 0)⟩
def subD (l : List Int) : List SubD := uptoF (subF l) (subN l)
theorem subD_len (l : List Int) : (subD l).length = subN l ∧ subN l ≤ 10 := by simp [subD, uptoF_length, subN]; omega
theorem holF_len (x y : Int) : (holF x y).length ≤ 1 := by unfold holF; split <;> simp
theorem holF_ok (x y : Int) : ∀ d ∈ holF x y, (0 ≤ d.1 ∧ d.1 < 50) ∧ d.1 ≤ d.2 ∧ d.2 < d.1 + 9 := by
  intro d hd
  unfold holF at hd
  split at hd
  · simp at hd
    subst hd
    have h1 : 0 ≤ x % 50 := Int.emod_nonneg _ (by decide)
    have h2 : x % 50 < 50 := Int.emod_lt_of_pos _ (by decide)
    have h3 : 0 ≤ y % 9 := Int.emod_nonneg _ (by decide)
    have h4 : y % 9 < 9 := Int.emod_lt_of_pos _ (by decide)
    dsimp only
    omega
  · cases hd
theorem subF_ok {l : List Int} {k : Nat} (hk : k ≤ 10) : OkS (subF l k) := by
  unfold OkS subF
  have h1 : 0 ≤ l.getD (4 * k) 0 % 40 := Int.emod_nonneg _ (by decide)
  have h2 : l.getD (4 * k) 0 % 40 < 40 := Int.emod_lt_of_pos _ (by decide)
  have h3 : 0 ≤ l.getD (4 * k + 1) 0 % 60 := Int.emod_nonneg _ (by decide)
  have h4 : l.getD (4 * k + 1) 0 % 60 < 60 := Int.emod_lt_of_pos _ (by decide)
  have h5 : 0 ≤ l.getD (4 * k + 2) 0 % 127 := Int.emod_nonneg _ (by decide)
  have h6 : l.getD (4 * k + 2) 0 % 127 < 127 := Int.emod_lt_of_pos _ (by decide)
  have h7 := holF_len (l.getD (4 * k + 3) 0) (l.getD (4 * k + 2) 0)
  have h8 := holF_ok (l.getD (4 * k + 3) 0) (l.getD (4 * k + 2) 0)
  dsimp only
  refine ⟨by omega, by omega, by omega, by omega, by omega, fun j hj => ?_⟩
  generalize holF (l.getD (4 * k + 3) 0) (l.getD (4 * k + 2) 0) = hol at *
  obtain rfl : j = 0 := by omega
  have e : hol.getD 0 (0, 0) = hol[0] := by simp [hj]
  have := h8 _ (List.getElem_mem hj)
  unfold badAt
  rw [e]
  simp [inB]
  omega
theorem subD_ok (l : List Int) : ∀ s ∈ subD l, OkS s := by
  intro o ho
  obtain ⟨k, hk, rfl⟩ := List.mem_iff_getElem.1 ho
  unfold subD at hk ⊢
  rw [uptoF_getElem]
  have := (subD_len l).2
  rw [uptoF_length] at hk
  exact subF_ok (by omega)
theorem subD_getElem {l : List Int} {k : Nat} (hk : k < (subD l).length) : (subD l)[k] = subF l k := by simp [subD, uptoF]
theorem subD_listE (l : List Int) : listE (subD l) = 0 := by
  unfold listE
  have hlen := subD_len l
  rw [if_neg (by omega)]
  refine firstErr_of_zero fun k hk => ?_
  rw [errS_get hk, (OkS_iff _).2 (subD_ok l _ (List.getElem_mem hk))]
  have h2 : metS (subD l) k (subD l)[k].id = false := by
    unfold metS
    rw [List.any_eq_false]
    intro p hp
    obtain ⟨j, hj, rfl⟩ := List.mem_iff_getElem.1 hp
    rw [List.length_take] at hj
    rw [List.getElem_take]
    rw [subD_getElem, subD_getElem]
    simp [subF]
    omega
  rw [h2]
  simp
/-- what a sum of shares is, when all are shared or all copies -/
theorem fin_sum {l : List Ord3} {n : Int} (h : sharedE l n = 0) : sumN (finS l n).1 l.length = min (sumN (cpO l) l.length) n := by
  obtain ⟨h40, hok, hc, hn⟩ := sharedE_zero h
  have := runS_sum hok (n - needO l).toNat
  unfold finS
  rw [this]
  congr 1
  omega
theorem sharedE_more {l : List Ord3} {n : Int} (h : sharedE l n = 0) : sharedE l (n + 1) = 0 := by
  obtain ⟨h40, hok, hc, hn⟩ := sharedE_zero h
  unfold sharedE at h ⊢
  rw [if_neg (by omega)] at h ⊢
  by_cases h2 : firstErr (errO l) l.length ≠ 0
  · rw [if_pos h2] at h; exact absurd h h2
  · rw [if_neg h2, if_neg (by omega), if_neg (by omega)]
end Go.Ag
