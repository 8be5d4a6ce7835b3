/- Plain laws: the reference's shares, copy by copy, are the program's; conditions: none. -/
import Derived.Test.YtgopdfbmddkpfaaSpec6
namespace Go.Ag
def refB (l : List Ord3) (s : Nat → Int) : Nat → Int
  | 0 => -1
  | k + 1 => if s k < cpO l k ∧ (refB l s k < 0 ∨ s k * cpO l (refB l s k).toNat < s (refB l s k).toNat * cpO l k) then (k : Int) else refB l s k
theorem refB_bd (l : List Ord3) (s : Nat → Int) (k : Nat) : -1 ≤ refB l s k ∧ refB l s k < k ∨ refB l s k = -1 := by
  induction k with
  | zero => right; rfl
  | succ k ih =>
    unfold refB
    split
    · left; omega
    · rcases ih with ih | ih
      · left; omega
      · right; exact ih
theorem refB_cp {l : List Ord3} {s : Nat → Int} {k : Nat} (h : 0 ≤ refB l s k) : s (refB l s k).toNat < cpO l (refB l s k).toNat := by
  induction k with
  | zero => simp [refB] at h
  | succ k ih =>
    unfold refB at h ⊢
    split
    · rename_i hc; simpa using hc.1
    · rename_i hc; rw [if_neg hc] at h; exact ih h
theorem refB_open {l : List Ord3} {s : SSt} (h : ShInv l s) (k : Nat) (hk : k ≤ l.length) : ∃ c, c ≤ s.2.length ∧ (∀ j, j < c → s.2.getD j 0 < k) ∧ (∀ j, c ≤ j → j < s.2.length → (k : Int) ≤ s.2.getD j 0) ∧ refB l s.1 k = if c = 0 then -1 else s.2.getD (bestK l s c) 0 := by
  obtain ⟨⟨h1, h2, h3⟩, _, hm, _⟩ := h
  have hget : ∀ j, j < s.2.length → ∃ hj : j < s.2.length, s.2.getD j 0 = s.2[j] := fun j hj => ⟨hj, by simp [hj]⟩
  have hlt : ∀ i j, i < j → j < s.2.length → s.2.getD i 0 < s.2.getD j 0 := by
    intro i j hij hj
    obtain ⟨_, e1⟩ := hget i (by omega)
    obtain ⟨_, e2⟩ := hget j hj
    rw [e1, e2]
    exact List.pairwise_iff_getElem.1 h2 i j (by omega) hj hij
  induction k with
  | zero =>
    refine ⟨0, Nat.zero_le _, fun j hj => by omega, fun j _ hj => ?_, rfl⟩
    obtain ⟨_, e⟩ := hget j hj
    rw [e]
    have := (h3 _ (List.getElem_mem hj)).1
    simpa using this
  | succ k ih =>
    obtain ⟨c, c1, c2, c3, c4⟩ := ih (by omega)
    by_cases hopen : s.1 k < cpO l k
    · obtain ⟨j, hj, hje⟩ := List.mem_iff_getElem.1 (hm k (by omega) hopen)
      have ej : s.2.getD j 0 = k := by obtain ⟨_, e⟩ := hget j hj; rw [e, hje]
      have hjc : j = c := by
        by_cases e1 : j < c
        · have := c2 j e1; omega
        · by_cases e2 : c < j
          · have := hlt c j e2 hj
            have := c3 c (Nat.le_refl _) (by omega)
            omega
          · omega
      subst hjc
      refine ⟨j + 1, by omega, fun i hi => ?_, fun i hi hi2 => ?_, ?_⟩
      · by_cases e : i = j
        · subst e; omega
        · have := c2 i (by omega); omega
      · have := hlt j i (by omega) hi2
        omega
      · rw [if_neg (by omega)]
        unfold refB bestK
        rw [ej]
        by_cases e0 : j = 0
        · subst e0
          rw [if_pos ⟨hopen, .inl (by rw [c4]; simp)⟩]
          split <;> exact ej.symm
        · rw [if_neg e0] at c4
          rw [c4]
          have hbl : bestK l s j < s.2.length := by
            rcases bestK_le l s j with h | ⟨h, h'⟩ <;> omega
          have hb0 : 0 ≤ s.2.getD (bestK l s j) 0 := by
            obtain ⟨hh, e⟩ := hget _ hbl
            rw [e]
            exact (h3 _ (List.getElem_mem hh)).1
          have ek : ((k : Int)).toNat = k := by omega
          rw [ek]
          by_cases ht : s.1 k * cpO l (s.2.getD (bestK l s j) 0).toNat < s.1 (s.2.getD (bestK l s j) 0).toNat * cpO l k
          · rw [if_pos ⟨hopen, .inr ht⟩, if_pos ht, ej]
          · rw [if_neg (by rintro ⟨_, h | h⟩; omega; exact ht h), if_neg ht]
    · refine ⟨c, c1, fun j hj => by have := c2 j hj; omega, fun j hj hj2 => ?_, ?_⟩
      · have := c3 j hj hj2
        obtain ⟨hh, e⟩ := hget j hj2
        have hs := h3 _ (List.getElem_mem hh)
        rw [← e] at hs
        by_cases e2 : s.2.getD j 0 = k
        · rw [e2] at hs
          have ek : ((k : Int)).toNat = k := by omega
          rw [ek] at hs
          omega
        · omega
      · unfold refB
        rw [if_neg (fun h => hopen h.1)]
        exact c4
theorem refB_at {l : List Ord3} {s : SSt} (h : ShInv l s) : (s.2 = [] → refB l s.1 l.length = -1) ∧ (s.2 ≠ [] → refB l s.1 l.length = (atS l s : Int)) := by
  obtain ⟨c, c1, c2, c3, c4⟩ := refB_open h l.length (Nat.le_refl _)
  have hc : c = s.2.length := by
    by_cases e : c < s.2.length
    · have := c3 c (Nat.le_refl _) e
      have he : s.2.getD c 0 = s.2[c] := by simp [e]
      have := h.1.2.2 _ (List.getElem_mem e)
      rw [← he] at this
      omega
    · omega
  subst hc
  constructor
  · intro e
    rw [c4, if_pos (by simp [e])]
  · intro e
    have hpos : s.2.length ≠ 0 := by simpa using e
    rw [c4, if_neg hpos]
    unfold atS
    have hb := bestK_lt (l := l) e (Nat.le_refl s.2.length)
    have he : s.2.getD (bestK l s s.2.length) 0 = s.2[bestK l s s.2.length] := by simp [hb]
    have := (h.1.2.2 _ (List.getElem_mem hb)).1
    rw [he]
    omega
/-- the state after k copies, without the list of those that are open -/
theorem runS_step {l : List Ord3} (hok : ∀ o ∈ l, OkOrd o) (k : Nat) :
    ((runS l k (startS l)).2 = [] ∧ refB l (runS l k (startS l)).1 l.length = -1 ∧ ∀ m, k ≤ m → (runS l m (startS l)).1 = (runS l k (startS l)).1) ∨
    (0 ≤ refB l (runS l k (startS l)).1 l.length ∧ refB l (runS l k (startS l)).1 l.length < l.length ∧ (runS l (k + 1) (startS l)).1 = setF (runS l k (startS l)).1 (refB l (runS l k (startS l)).1 l.length).toNat ((runS l k (startS l)).1 (refB l (runS l k (startS l)).1 l.length).toNat + 1)) := by
  have hI := ShInv_run k (ShInv_start hok)
  obtain ⟨r1, r2⟩ := refB_at hI
  by_cases e : (runS l k (startS l)).2 = []
  · left
    refine ⟨e, r1 e, fun m hm => ?_⟩
    have : ∀ j, (runS l (k + j) (startS l)) = runS l k (startS l) := by
      intro j
      induction j with
      | zero => rfl
      | succ j ih => rw [← Nat.add_assoc, runS_last, ih, if_pos e]
    have h2 := this (m - k)
    rw [show k + (m - k) = m by omega] at h2
    rw [h2]
  · right
    have hr := r2 e
    have hm := hI.1.2.2 _ (atS_mem (l := l) e)
    have ha : atS l (runS l k (startS l)) = ((runS l k (startS l)).2.getD (bestK l (runS l k (startS l)) (runS l k (startS l)).2.length) 0).toNat := rfl
    rw [← ha] at hm
    refine ⟨by rw [hr]; omega, by rw [hr]; omega, ?_⟩
    rw [runS_last, if_neg e, hr]
    simp [stepS]
/-- the reference's test of the sums is the program's -/
theorem sums_ref {got all copies : Int} (h : got ≤ all) : got = min all copies ↔ ¬ ((got ≠ copies ∧ got ≠ all) ∨ copies < got) := by omega
end Go.Ag
