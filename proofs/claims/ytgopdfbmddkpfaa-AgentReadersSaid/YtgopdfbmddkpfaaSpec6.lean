/- Plain laws of shares: they are fair, they add up, and one copy more goes to one agent; conditions: none. -/
import Derived.Test.YtgopdfbmddkpfaaSpec4
namespace Go.Ag
def sumN (f : Nat → Int) : Nat → Int
  | 0 => 0
  | k + 1 => sumN f k + f k
theorem sumN_congr {f g : Nat → Int} {n : Nat} (h : ∀ i, i < n → f i = g i) : sumN f n = sumN g n := by
  induction n with
  | zero => rfl
  | succ n ih => rw [sumN, sumN, ih (fun i hi => h i (by omega)), h n (by omega)]
theorem sumN_le {f g : Nat → Int} {n : Nat} (h : ∀ i, i < n → f i ≤ g i) : sumN f n ≤ sumN g n := by
  induction n with
  | zero => simp [sumN]
  | succ n ih =>
    have := ih (fun i hi => h i (by omega))
    have := h n (by omega)
    simp only [sumN]; omega
theorem sumN_bd {f : Nat → Int} {n : Nat} {B : Int} (h : ∀ i, i < n → 0 ≤ f i ∧ f i ≤ B) : 0 ≤ sumN f n ∧ sumN f n ≤ B * n := by
  induction n with
  | zero => simp [sumN]
  | succ n ih =>
    have := ih (fun i hi => h i (by omega))
    have := h n (by omega)
    have e : B * ((n + 1 : Nat) : Int) = B * n + B := by rw [Int.natCast_add, Int.mul_add]; simp
    rw [e]
    simp only [sumN]; omega
theorem sumN_set {f : Nat → Int} {n i : Nat} (hi : i < n) : sumN (setF f i (f i + 1)) n = sumN f n + 1 := by
  induction n with
  | zero => omega
  | succ n ih =>
    simp only [sumN]
    by_cases e : i = n
    · subst e
      rw [sumN_congr (g := f) (fun j hj => by simp [setF]; omega)]
      simp [setF]; omega
    · rw [ih (by omega)]
      have : setF f i (f i + 1) n = f n := by simp [setF]; omega
      rw [this]; omega
theorem needO_sum (l : List Ord3) : needO l = sumN (lsO l) l.length := by
  have key : ∀ k, k ≤ l.length → needO (l.take k) = sumN (lsO l) k := by
    intro k hk
    induction k with
    | zero => simp [needO, sumN]
    | succ k ih =>
      have hlt : k < l.length := by omega
      rw [List.take_succ_eq_append_getElem hlt, needO_snoc, ih (by omega), sumN]
      have : l.getD k (0, 0, 0) = l[k] := by simp [hlt]
      unfold lsO
      rw [this]
  have := key l.length (Nat.le_refl _)
  rwa [List.take_length] at this
/-- what holds while copies are given away -/
def ShInv (l : List Ord3) (s : SSt) : Prop :=
  OkSh l s ∧ (∀ i, i < l.length → lsO l i ≤ s.1 i) ∧ (∀ i, i < l.length → s.1 i < cpO l i → (i : Int) ∈ s.2) ∧
  ∀ i k, i < l.length → k < l.length → lsO l i < s.1 i → s.1 k < cpO l k → (s.1 i - 1) * cpO l k ≤ s.1 k * cpO l i
theorem openK_mem (l : List Ord3) (k i : Nat) (hi : i < k) (h : lsO l i < cpO l i) : (i : Int) ∈ openK l k := by
  induction k with
  | zero => omega
  | succ k ih =>
    unfold openK
    by_cases e : i = k
    · subst e; rw [if_pos h]; simp
    · have := ih (by omega)
      split
      · simp [this]
      · exact this
theorem ShInv_start {l : List Ord3} (h : ∀ o ∈ l, OkOrd o) : ShInv l (startS l) :=
  ⟨OkSh_start h, fun i _ => Int.le_refl _, fun i hi hlt => openK_mem l _ i hi hlt, fun i k _ _ hl _ => by simp [startS] at hl⟩
theorem bestK_least {l : List Ord3} {s : SSt} (h : OkSh l s) (k : Nat) (hk : k ≤ s.2.length) : ∀ j, j < k → s.1 (s.2.getD (bestK l s k) 0).toNat * cpO l (s.2.getD j 0).toNat ≤ s.1 (s.2.getD j 0).toNat * cpO l (s.2.getD (bestK l s k) 0).toNat := by
  obtain ⟨h1, h2, h3⟩ := h
  have pos : ∀ j, j < s.2.length → 0 ≤ s.1 (s.2.getD j 0).toNat ∧ 0 < cpO l (s.2.getD j 0).toNat := by
    intro j hj
    have e : s.2.getD j 0 = s.2[j] := by simp [hj]
    rw [e]
    obtain ⟨a1, a2, a3⟩ := h3 s.2[j] (List.getElem_mem hj)
    have := h1 _ a2
    omega
  induction k with
  | zero => intro j hj; omega
  | succ k ih =>
    have ih := ih (by omega)
    intro j hj
    have hb : bestK l s k < s.2.length := by
      rcases bestK_le l s k with h | ⟨h, h'⟩ <;> omega
    obtain ⟨pk1, pk2⟩ := pos k (by omega)
    obtain ⟨pb1, pb2⟩ := pos _ hb
    obtain ⟨pj1, pj2⟩ := pos j (by omega)
    unfold bestK
    split
    · rename_i hlt
      by_cases e : j = k
      · subst e; exact Int.le_refl _
      · have hj' := ih j (by omega)
        generalize s.1 (s.2.getD k 0).toNat = a at *
        generalize cpO l (s.2.getD k 0).toNat = ca at *
        generalize s.1 (s.2.getD (bestK l s k) 0).toNat = b at *
        generalize cpO l (s.2.getD (bestK l s k) 0).toNat = cb at *
        generalize s.1 (s.2.getD j 0).toNat = x at *
        generalize cpO l (s.2.getD j 0).toNat = cx at *
        refine Int.le_of_mul_le_mul_right (a := cb) ?_ pb2
        have f1 := Int.mul_le_mul_of_nonneg_right (Int.le_of_lt hlt) (show 0 ≤ cx by omega)
        have f2 := Int.mul_le_mul_of_nonneg_right hj' (show 0 ≤ ca by omega)
        have g1 : a * cx * cb = a * cb * cx := Int.mul_right_comm _ _ _
        have g2 : b * ca * cx = b * cx * ca := Int.mul_right_comm _ _ _
        have g3 : x * cb * ca = x * ca * cb := Int.mul_right_comm _ _ _
        omega
    · rename_i hge
      by_cases e : j = k
      · subst e; omega
      · exact ih j (by omega)
theorem ShInv_step {l : List Ord3} {s : SSt} (h : ShInv l s) (hne : s.2 ≠ []) : ShInv l (stepS l s) := by
  obtain ⟨h1, h2, h3, h4⟩ := h
  have hok := OkSh_step h1 hne
  have hm := atS_mem (l := l) hne
  have hlst := bestK_least h1 s.2.length (Nat.le_refl _)
  have hb := bestK_lt (l := l) hne (Nat.le_refl s.2.length)
  have hge : s.2.getD (bestK l s s.2.length) 0 = s.2[bestK l s s.2.length] := by simp [hb]
  obtain ⟨q1, q2, q3⟩ := h1
  obtain ⟨m1, m2, m3⟩ := q3 _ hm
  have hat : (s.2.getD (bestK l s s.2.length) 0).toNat = atS l s := rfl
  rw [hat] at m2 m3 hlst
  have hge2 : s.2[bestK l s s.2.length] = (atS l s : Int) := by rw [← hge]; omega
  have hs1 : (stepS l s).1 = setF s.1 (atS l s) (s.1 (atS l s) + 1) := rfl
  refine ⟨hok, ?_, ?_, ?_⟩
  · intro i hi
    rw [hs1]; unfold setF
    have := h2 i hi
    split
    · rename_i e; subst e; omega
    · exact this
  · intro i hi hlt
    rw [hs1] at hlt
    have hold : s.1 i < cpO l i := by
      unfold setF at hlt
      split at hlt
      · rename_i e; subst e; omega
      · exact hlt
    have hmem := h3 i hi hold
    simp only [stepS]
    split
    · rename_i heq
      have hne' : i ≠ atS l s := by
        intro e; subst e; simp [setF] at hlt; omega
      obtain ⟨j, hj, hje⟩ := List.mem_iff_getElem.1 hmem
      rw [List.mem_append]
      have hjb : j ≠ bestK l s s.2.length := by
        intro e
        subst e
        rw [hge2] at hje; omega
      by_cases hjlt : j < bestK l s s.2.length
      · left
        rw [List.mem_take_iff_getElem]
        exact ⟨j, by omega, hje⟩
      · right
        rw [List.mem_drop_iff_getElem]
        refine ⟨j - (bestK l s s.2.length + 1), by omega, ?_⟩
        have : bestK l s s.2.length + 1 + (j - (bestK l s s.2.length + 1)) = j := by omega
        simp only [this, hje]
    · exact hmem
  · intro i k hi hk hl hc
    rw [hs1] at hl hc ⊢
    have bi := q1 i hi
    have bk := q1 k hk
    have hck : s.1 k < cpO l k := by
      unfold setF at hc
      split at hc
      · rename_i e; subst e; omega
      · exact hc
    have key : s.1 (atS l s) * cpO l k ≤ s.1 k * cpO l (atS l s) := by
      obtain ⟨j, hj, hje⟩ := List.mem_iff_getElem.1 (h3 k hk hck)
      have := hlst j hj
      have e : (s.2.getD j 0).toNat = k := by
        have : s.2.getD j 0 = s.2[j] := by simp [hj]
        rw [this, hje]; omega
      rw [e] at this
      exact this
    have ba := q1 _ m2
    by_cases ei : i = atS l s
    · subst ei
      have e1 : setF s.1 (atS l s) (s.1 (atS l s) + 1) (atS l s) - 1 = s.1 (atS l s) := by simp [setF]
      rw [e1]
      by_cases ek : k = atS l s
      · subst ek
        have : setF s.1 (atS l s) (s.1 (atS l s) + 1) (atS l s) = s.1 (atS l s) + 1 := by simp [setF]
        rw [this]
        exact Int.mul_le_mul_of_nonneg_right (by omega) (by omega)
      · have : setF s.1 (atS l s) (s.1 (atS l s) + 1) k = s.1 k := by simp [setF, ek]
        rw [this]; exact key
    · have e1 : setF s.1 (atS l s) (s.1 (atS l s) + 1) i = s.1 i := by simp [setF, ei]
      rw [e1] at hl ⊢
      have old := h4 i k hi hk hl hck
      by_cases ek : k = atS l s
      · subst ek
        have : setF s.1 (atS l s) (s.1 (atS l s) + 1) (atS l s) = s.1 (atS l s) + 1 := by simp [setF]
        rw [this]
        have := Int.mul_le_mul_of_nonneg_right (show s.1 (atS l s) ≤ s.1 (atS l s) + 1 by omega) (show 0 ≤ cpO l i by omega)
        omega
      · have : setF s.1 (atS l s) (s.1 (atS l s) + 1) k = s.1 k := by simp [setF, ek]
        rw [this]; exact old
theorem runS_last (l : List Ord3) (n : Nat) (s : SSt) : runS l (n + 1) s = if (runS l n s).2 = [] then runS l n s else stepS l (runS l n s) := by
  induction n generalizing s with
  | zero => by_cases h : s.2 = [] <;> simp [runS, h]
  | succ n ih =>
    by_cases h : s.2 = []
    · have e : ∀ m, runS l m s = s := by intro m; cases m <;> simp [runS, h]
      rw [e, e, if_pos h]
    · have e : ∀ m, runS l (m + 1) s = runS l m (stepS l s) := by intro m; simp [runS, h]
      rw [e, e, ih]
theorem ShInv_run {l : List Ord3} (n : Nat) {s : SSt} (h : ShInv l s) : ShInv l (runS l n s) := by
  induction n with
  | zero => exact h
  | succ n ih =>
    rw [runS_last]
    split
    · exact ih
    · rename_i hne; exact ShInv_step ih hne
theorem stepS_sum {l : List Ord3} {s : SSt} (h : OkSh l s) (hne : s.2 ≠ []) : sumN (stepS l s).1 l.length = sumN s.1 l.length + 1 := by
  have hm := atS_mem (l := l) hne
  obtain ⟨_, m2, _⟩ := h.2.2 _ hm
  exact sumN_set m2
/-- the copies that are given away add up -/
theorem runS_sum {l : List Ord3} (h : ∀ o ∈ l, OkOrd o) (n : Nat) : sumN (runS l n (startS l)).1 l.length = min (sumN (cpO l) l.length) (needO l + n) := by
  have full : ∀ s : SSt, ShInv l s → s.2 = [] → sumN s.1 l.length = sumN (cpO l) l.length := by
    intro s hs he
    refine sumN_congr fun i hi => ?_
    have h1 := hs.1.1 i hi
    by_cases e : s.1 i < cpO l i
    · have := hs.2.2.1 i hi e
      rw [he] at this; cases this
    · omega
  have notfull : ∀ s : SSt, OkSh l s → s.2 ≠ [] → sumN s.1 l.length < sumN (cpO l) l.length := by
    intro s hs he
    have hok := OkSh_step hs he
    have := sumN_le (f := (stepS l s).1) (g := cpO l) (n := l.length) (fun i hi => (hok.1 i hi).1.2)
    rw [stepS_sum hs he] at this
    omega
  induction n with
  | zero =>
    have e : sumN (runS l 0 (startS l)).1 l.length = needO l := by rw [needO_sum]; rfl
    have := sumN_le (f := lsO l) (g := cpO l) (n := l.length) (fun i hi => (okO h hi).1.2)
    rw [← needO_sum] at this
    rw [e]
    omega
  | succ n ih =>
    have hI := ShInv_run n (ShInv_start h)
    rw [runS_last]
    split
    · rename_i he
      have := full _ hI he
      omega
    · rename_i hne
      rw [stepS_sum hI.1 hne, ih]
      have := notfull _ hI.1 hne
      rw [ih] at this
      omega

/-- when shares are fair -/
def FairP (l : List Ord3) (copies : Int) (sh : List Int) : Prop :=
  (∀ i, i < l.length → lsO l i ≤ sh.getD i 0 ∧ sh.getD i 0 ≤ cpO l i) ∧ sumN (fun i => sh.getD i 0) l.length = min (sumN (cpO l) l.length) copies ∧
  ∀ i k, i < l.length → k < l.length → ¬ (lsO l i < sh.getD i 0 ∧ sh.getD k 0 < cpO l k ∧ i ≠ k ∧ sh.getD k 0 * cpO l i < (sh.getD i 0 - 1) * cpO l k)
noncomputable def fairB (l : List Ord3) (copies : Int) (sh : List Int) : Bool := @decide (FairP l copies sh) (Classical.propDecidable _)
theorem fairB_true {l : List Ord3} {copies : Int} {sh : List Int} (h : FairP l copies sh) : fairB l copies sh = true := by unfold fairB; exact @decide_eq_true _ (Classical.propDecidable _) h
theorem fairB_false {l : List Ord3} {copies : Int} {sh : List Int} (h : ¬ FairP l copies sh) : fairB l copies sh = false := by unfold fairB; exact @decide_eq_false _ (Classical.propDecidable _) h
noncomputable def fairR (l : List Ord3) (copies : Int) (sh : List Int) : Bool × Int :=
  if sharedE l copies ≠ 0 then (false, sharedE l copies) else if sh.length ≠ l.length then (false, 1) else (fairB l copies sh, 0)
theorem sharedE_zero {l : List Ord3} {copies : Int} (h : sharedE l copies = 0) : l.length ≤ 40 ∧ (∀ o ∈ l, OkOrd o) ∧ 0 ≤ copies ∧ needO l ≤ copies := by
  unfold sharedE at h
  by_cases h1 : 40 < l.length
  · rw [if_pos h1] at h; omega
  · rw [if_neg h1] at h
    by_cases h2 : firstErr (errO l) l.length ≠ 0
    · rw [if_pos h2] at h; exact absurd h h2
    · rw [if_neg h2] at h
      by_cases h3 : copies < 0
      · rw [if_pos h3] at h; omega
      · rw [if_neg h3] at h
        by_cases h4 : copies < needO l
        · rw [if_pos h4] at h; omega
        · have := firstO_ok (l := l) (Nat.le_refl _) (by simpa using h2)
          rw [List.take_length] at this
          exact ⟨by omega, this, by omega, by omega⟩
theorem shareL_get {l : List Ord3} {copies : Int} (h : sharedE l copies = 0) {i : Nat} (hi : i < l.length) : (shareL l copies).getD i 0 = (finS l copies).1 i := by
  simp [shareL, h, hi]
theorem shareL_len {l : List Ord3} {copies : Int} (h : sharedE l copies = 0) : (shareL l copies).length = l.length := by simp [shareL, h]
/-- the shares are fair -/
theorem share_fair {l : List Ord3} {copies : Int} (h : sharedE l copies = 0) : FairP l copies (shareL l copies) := by
  obtain ⟨h40, hok, hc, hn⟩ := sharedE_zero h
  have hI : ShInv l (finS l copies) := ShInv_run _ (ShInv_start hok)
  refine ⟨fun i hi => ?_, ?_, ?_⟩
  · rw [shareL_get h hi]
    exact ⟨hI.2.1 i hi, (hI.1.1 i hi).1.2⟩
  · rw [sumN_congr (g := (finS l copies).1) (fun i hi => shareL_get h hi)]
    have := runS_sum hok (copies - needO l).toNat
    unfold finS
    rw [this]
    congr 1
    omega
  · rintro i k hi hk ⟨a1, a2, a3, a4⟩
    rw [shareL_get h hi] at a1 a4
    rw [shareL_get h hk] at a2 a4
    have := hI.2.2.2 i k hi hk a1 a2
    omega
/-- one copy more: no agent gets less, none more than one copy more -/
theorem share_more {l : List Ord3} {copies : Int} (h : sharedE l copies = 0) (i : Nat) (hi : i < l.length) : (finS l copies).1 i ≤ (finS l (copies + 1)).1 i ∧ (finS l (copies + 1)).1 i ≤ (finS l copies).1 i + 1 := by
  obtain ⟨h40, hok, hc, hn⟩ := sharedE_zero h
  have e : (copies + 1 - needO l).toNat = (copies - needO l).toNat + 1 := by omega
  unfold finS
  rw [e, runS_last]
  split
  · omega
  · show _ ≤ setF _ _ _ i ∧ setF _ _ _ i ≤ _
    unfold setF
    split
    · rename_i e; subst e; omega
    · omega
end Go.Ag
