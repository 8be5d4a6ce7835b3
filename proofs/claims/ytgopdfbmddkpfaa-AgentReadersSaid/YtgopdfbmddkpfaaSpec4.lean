/- Plain functions of shares; conditions: none. -/
import Derived.Test.YtgopdfbmddkpfaaSpec3
namespace Go.Ag
def cpO (l : List Ord3) (i : Nat) : Int := (l.getD i (0, 0, 0)).2.1
def lsO (l : List Ord3) (i : Nat) : Int := (l.getD i (0, 0, 0)).2.2
abbrev SSt := (Nat → Int) × List Int
def openK (l : List Ord3) : Nat → List Int
  | 0 => []
  | k + 1 => if lsO l k < cpO l k then openK l k ++ [(k : Int)] else openK l k
def bestK (l : List Ord3) (s : SSt) : Nat → Nat
  | 0 => 0
  | k + 1 => if s.1 (s.2.getD k 0).toNat * cpO l (s.2.getD (bestK l s k) 0).toNat < s.1 (s.2.getD (bestK l s k) 0).toNat * cpO l (s.2.getD k 0).toNat then k else bestK l s k
def setF (f : Nat → Int) (i : Nat) (v : Int) : Nat → Int := fun j => if j = i then v else f j
def atS (l : List Ord3) (s : SSt) : Nat := (s.2.getD (bestK l s s.2.length) 0).toNat
def stepS (l : List Ord3) (s : SSt) : SSt :=
  (setF s.1 (atS l s) (s.1 (atS l s) + 1), if s.1 (atS l s) + 1 = cpO l (atS l s) then s.2.take (bestK l s s.2.length) ++ s.2.drop (bestK l s s.2.length + 1) else s.2)
def runS (l : List Ord3) : Nat → SSt → SSt
  | 0, s => s
  | n + 1, s => if s.2 = [] then s else runS l n (stepS l s)
def startS (l : List Ord3) : SSt := (lsO l, openK l l.length)
def finS (l : List Ord3) (copies : Int) : SSt := runS l (copies - needO l).toNat (startS l)
def shareL (l : List Ord3) (copies : Int) : List Int := if sharedE l copies ≠ 0 then [] else (List.range l.length).map (finS l copies).1

def OkSh (l : List Ord3) (s : SSt) : Prop :=
  (∀ i, i < l.length → (0 ≤ s.1 i ∧ s.1 i ≤ cpO l i) ∧ cpO l i ≤ 10000) ∧ s.2.Pairwise (· < ·) ∧ ∀ x ∈ s.2, 0 ≤ x ∧ x.toNat < l.length ∧ s.1 x.toNat < cpO l x.toNat

theorem bestK_le (l : List Ord3) (s : SSt) (k : Nat) : bestK l s k ≤ k - 1 ∨ (k = 0 ∧ bestK l s k = 0) := by
  induction k with
  | zero => simp [bestK]
  | succ k ih =>
    unfold bestK
    split
    · left; omega
    · left; rcases ih with h | ⟨h, h'⟩ <;> omega
theorem bestK_lt {l : List Ord3} {s : SSt} (h : s.2 ≠ []) {k : Nat} (hk : k ≤ s.2.length) : bestK l s k < s.2.length := by
  have : 0 < s.2.length := List.length_pos_iff.2 h
  rcases bestK_le l s k with h | ⟨h, h'⟩ <;> omega

theorem openK_bd (l : List Ord3) (k : Nat) : (openK l k).length ≤ k ∧ (openK l k).Pairwise (· < ·) ∧ ∀ x ∈ openK l k, 0 ≤ x ∧ x < k ∧ lsO l x.toNat < cpO l x.toNat := by
  induction k with
  | zero => simp [openK]
  | succ k ih =>
    obtain ⟨h1, h2, h3⟩ := ih
    unfold openK
    split
    · rename_i hlt
      refine ⟨by simp; omega, ?_, ?_⟩
      · rw [List.pairwise_append]
        refine ⟨h2, by simp, fun a ha b hb => ?_⟩
        have := h3 a ha
        simp at hb; omega
      · intro x hx
        rw [List.mem_append] at hx
        rcases hx with hx | hx
        · have := h3 x hx; omega
        · simp at hx; subst hx; exact ⟨by omega, by omega, by simpa using hlt⟩
    · refine ⟨by omega, h2, fun x hx => ?_⟩
      have := h3 x hx; omega

theorem okO {l : List Ord3} (h : ∀ o ∈ l, OkOrd o) {i : Nat} (hi : i < l.length) : (0 ≤ lsO l i ∧ lsO l i ≤ cpO l i) ∧ cpO l i ≤ 10000 := by
  have := h l[i] (List.getElem_mem hi)
  unfold OkOrd at this
  have e : l.getD i (0, 0, 0) = l[i] := by simp [hi]
  unfold lsO cpO
  rw [e]
  omega

theorem OkSh_start {l : List Ord3} (h : ∀ o ∈ l, OkOrd o) : OkSh l (startS l) := by
  have hb := openK_bd l l.length
  refine ⟨fun i hi => okO h hi, hb.2.1, fun x hx => ?_⟩
  have := hb.2.2 x hx
  exact ⟨by omega, by omega, this.2.2⟩

theorem atS_mem {l : List Ord3} {s : SSt} (hne : s.2 ≠ []) : s.2.getD (bestK l s s.2.length) 0 ∈ s.2 := by
  have hb := bestK_lt (l := l) hne (Nat.le_refl _)
  have e : s.2.getD (bestK l s s.2.length) 0 = s.2[bestK l s s.2.length] := by simp [hb]
  rw [e]; exact List.getElem_mem hb

theorem OkSh_step {l : List Ord3} {s : SSt} (h : OkSh l s) (hne : s.2 ≠ []) : OkSh l (stepS l s) := by
  obtain ⟨h1, h2, h3⟩ := h
  have hm := atS_mem (l := l) hne
  obtain ⟨m1, m2, m3⟩ := h3 _ hm
  have hb := bestK_lt (l := l) hne (Nat.le_refl s.2.length)
  have hge : s.2.getD (bestK l s s.2.length) 0 = s.2[bestK l s s.2.length] := by simp [hb]
  have ha : atS l s = (s.2.getD (bestK l s s.2.length) 0).toNat := rfl
  rw [← ha] at m2 m3
  refine ⟨fun i hi => ?_, ?_, ?_⟩
  · have := h1 i hi
    simp only [stepS, setF]
    split
    · rename_i e; subst e; omega
    · exact this
  · simp only [stepS]
    split
    · rw [List.pairwise_append]
      refine ⟨h2.sublist (List.take_sublist _ _), h2.sublist (List.drop_sublist _ _), fun a ha b hb' => ?_⟩
      obtain ⟨i, hi, rfl⟩ := List.mem_iff_getElem.1 ha
      obtain ⟨j, hj, rfl⟩ := List.mem_iff_getElem.1 hb'
      rw [List.getElem_take, List.getElem_drop]
      refine List.pairwise_iff_getElem.1 h2 _ _ _ _ ?_
      simp at hi; omega
    · exact h2
  · have key : ∀ x ∈ s.2, x ≠ s.2[bestK l s s.2.length] ∨ s.1 (atS l s) + 1 ≠ cpO l (atS l s) → 0 ≤ x ∧ x.toNat < l.length ∧ setF s.1 (atS l s) (s.1 (atS l s) + 1) x.toNat < cpO l x.toNat := by
      intro x hx hor
      obtain ⟨a1, a2, a3⟩ := h3 x hx
      refine ⟨a1, a2, ?_⟩
      unfold setF
      split
      · rename_i e
        rw [e]
        rcases hor with hor | hor
        · exfalso; apply hor; rw [← hge]; omega
        · omega
      · exact a3
    simp only [stepS]
    split
    · rename_i heq
      intro x hx
      rw [List.mem_append] at hx
      have hmem : x ∈ s.2 := by rcases hx with hx | hx; exact List.mem_of_mem_take hx; exact List.mem_of_mem_drop hx
      refine key x hmem (.inl ?_)
      intro hxe
      rcases hx with hx | hx
      · obtain ⟨i, hi, hix⟩ := List.mem_iff_getElem.1 hx
        rw [List.getElem_take] at hix
        simp at hi
        have := List.pairwise_iff_getElem.1 h2 i (bestK l s s.2.length) (by omega) hb (by omega)
        omega
      · obtain ⟨i, hi, hix⟩ := List.mem_iff_getElem.1 hx
        rw [List.getElem_drop] at hix
        simp at hi
        have := List.pairwise_iff_getElem.1 h2 (bestK l s s.2.length) (bestK l s s.2.length + 1 + i) hb (by omega) (by omega)
        omega
    · rename_i hne2
      intro x hx
      exact key x hx (.inr hne2)
end Go.Ag
