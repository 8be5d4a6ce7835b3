/- Plain functions of orders and shares; conditions: none. -/
import Derived.Test.YtgopdfbmddkpfaaSpec
namespace Go.Ag
/-- the first of f 0, f 1, .. that is not 0; 0 if there is none -/
def firstErr (f : Nat → Int) : Nat → Int
  | 0 => 0
  | n + 1 => if firstErr f n ≠ 0 then firstErr f n else f n
theorem firstErr_stay {f : Nat → Int} {n : Nat} (h : firstErr f n ≠ 0) : ∀ m, n ≤ m → firstErr f m = firstErr f n := by
  intro m hm
  induction m with
  | zero => have : n = 0 := by omega
            subst this; rfl
  | succ m ih =>
    by_cases e : n = m + 1
    · rw [e]
    · have := ih (by omega)
      rw [firstErr, this, if_pos h]
theorem firstErr_stop {f : Nat → Int} {k n : Nat} (h0 : firstErr f k = 0) (h1 : f k ≠ 0) (hn : k < n) : firstErr f n = f k := by
  have hk : firstErr f (k + 1) = f k := by rw [firstErr, h0]; simp
  rw [firstErr_stay (n := k + 1) (by rw [hk]; exact h1) n (by omega), hk]
theorem firstErr_go {f : Nat → Int} {k : Nat} (h0 : firstErr f k = 0) (h1 : f k = 0) : firstErr f (k + 1) = 0 := by
  rw [firstErr, h0, h1]; simp
theorem firstErr_zero {f : Nat → Int} {n : Nat} (h : firstErr f n = 0) : ∀ k, k < n → f k = 0 := by
  intro k hk
  by_cases e : f k = 0
  · exact e
  · have h0 : firstErr f k = 0 := by
      by_cases e0 : firstErr f k = 0
      · exact e0
      · rw [firstErr_stay e0 n (by omega)] at h; exact absurd h e0
    rw [firstErr_stop h0 e hk] at h
    exact absurd h e
theorem firstErr_of_zero {f : Nat → Int} {n : Nat} (h : ∀ k, k < n → f k = 0) : firstErr f n = 0 := by
  induction n with
  | zero => rfl
  | succ n ih => exact firstErr_go (ih fun k hk => h k (by omega)) (h n (by omega))

abbrev Ord3 := Int × Int × Int
def badOrder (o : Ord3) : Bool := !inB o.1 0 1000000 || (!inB o.2.1 0 10000 || !inB o.2.2 0 o.2.1)
def OkOrd (o : Ord3) : Prop := (0 ≤ o.1 ∧ o.1 ≤ 1000000) ∧ (0 ≤ o.2.1 ∧ o.2.1 ≤ 10000) ∧ (0 ≤ o.2.2 ∧ o.2.2 ≤ o.2.1)
theorem OkOrd_iff (o : Ord3) : badOrder o = false ↔ OkOrd o := by
  simp [badOrder, inB, OkOrd]
def metO (l : List Ord3) (k : Nat) (x : Int) : Bool := (l.take k).any fun p => p.1 == x
def errO (l : List Ord3) (k : Nat) : Int := if badOrder (l.getD k (0, 0, 0)) then 120 else if metO l k (l.getD k (0, 0, 0)).1 then 10 else 0
def needO : List Ord3 → Int
  | [] => 0
  | o :: l => o.2.2 + needO l
theorem needO_snoc (l : List Ord3) (o : Ord3) : needO (l ++ [o]) = needO l + o.2.2 := by
  induction l with
  | nil => simp [needO]
  | cons y l ih => simp only [List.cons_append, needO, ih]; omega
theorem needO_bd {l : List Ord3} (h : ∀ o ∈ l, OkOrd o) : 0 ≤ needO l ∧ needO l ≤ 10000 * l.length := by
  induction l with
  | nil => simp [needO]
  | cons x l ih =>
    have := ih (fun y hy => h y (by simp [hy]))
    have := h x (by simp)
    unfold OkOrd at this
    simp only [needO, List.length_cons]
    omega
def sharedE (l : List Ord3) (copies : Int) : Int :=
  if 40 < l.length then 2 else if firstErr (errO l) l.length ≠ 0 then firstErr (errO l) l.length else if copies < 0 then 6 else if copies < needO l then 4 else 0
theorem metO_succ {l : List Ord3} {k : Nat} (hk : k < l.length) (x : Int) : metO l (k + 1) x = (metO l k x || l[k].1 == x) := by
  unfold metO
  rw [List.take_succ_eq_append_getElem hk, List.any_append]
  simp
theorem errO_get {l : List Ord3} {k : Nat} (hk : k < l.length) : errO l k = if badOrder l[k] then 120 else if metO l k l[k].1 then 10 else 0 := by
  have : l.getD k (0, 0, 0) = l[k] := by simp [hk]
  rw [errO, this]
theorem errO_ok {l : List Ord3} {k : Nat} (hk : k < l.length) (h : errO l k = 0) : OkOrd l[k] := by
  rw [errO_get hk] at h
  by_cases hb : badOrder l[k] = true
  · rw [if_pos hb] at h; omega
  · exact (OkOrd_iff _).1 (by simpa using hb)
theorem firstO_ok {l : List Ord3} {k : Nat} (hk : k ≤ l.length) (h : firstErr (errO l) k = 0) : ∀ o ∈ l.take k, OkOrd o := by
  intro o ho
  obtain ⟨j, hj, rfl⟩ := List.mem_iff_getElem.1 ho
  have hj2 : j < k := by simp at hj; omega
  rw [List.getElem_take]
  exact errO_ok (by omega) (firstErr_zero h j hj2)
end Go.Ag
