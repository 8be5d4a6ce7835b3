/- Intervals that are joined where they overlap or adjoin; conditions: none. No program in sight. -/
import Derived.Lib.Hide
set_option linter.unusedSimpArgs false
set_option linter.unusedVariables false
namespace Go.Rl
theorem list_snoc {α : Type} {p : List α → Prop} (h0 : p []) (h1 : ∀ l x, p l → p (l ++ [x])) (l : List α) : p l := by
  have : ∀ m : List α, p m.reverse := by
    intro m
    induction m with
    | nil => exact h0
    | cons x m ih => rw [List.reverse_cons]; exact h1 _ _ ih
  have h := this l.reverse
  rwa [List.reverse_reverse] at h
/-- an interval of the list holds k -/
def cvS (l : List (Int × Int)) (k : Int) : Prop := ∃ s ∈ l, s.1 ≤ k ∧ k ≤ s.2
/-- the intervals of S, in order and apart, hold what those of l hold -/
structure JoinP (l S : List (Int × Int)) : Prop where
  le : ∀ s ∈ S, s.1 ≤ s.2
  gap : S.Pairwise fun a b => a.2 + 1 < b.1
  cov : ∀ k, cvS S k ↔ cvS l k
theorem cv_nil (k : Int) : ¬ cvS [] k := by rintro ⟨s, h, _⟩; simp at h
theorem cv_cons (a : Int × Int) (l : List (Int × Int)) (k : Int) : cvS (a :: l) k ↔ (a.1 ≤ k ∧ k ≤ a.2) ∨ cvS l k := by
  constructor
  · rintro ⟨s, h, h2⟩
    rcases List.mem_cons.1 h with rfl | h
    · exact .inl h2
    · exact .inr ⟨s, h, h2⟩
  · rintro (h | ⟨s, h, h2⟩)
    · exact ⟨a, by simp, h⟩
    · exact ⟨s, by simp [h], h2⟩
theorem cv_append (l m : List (Int × Int)) (k : Int) : cvS (l ++ m) k ↔ cvS l k ∨ cvS m k := by
  constructor
  · rintro ⟨s, h, h2⟩
    rcases List.mem_append.1 h with h | h
    · exact .inl ⟨s, h, h2⟩
    · exact .inr ⟨s, h, h2⟩
  · rintro (⟨s, h, h2⟩ | ⟨s, h, h2⟩)
    · exact ⟨s, by simp [h], h2⟩
    · exact ⟨s, by simp [h], h2⟩
theorem cv_perm {l m : List (Int × Int)} (h : l.Perm m) (k : Int) : cvS l k ↔ cvS m k :=
  ⟨fun ⟨s, a, b⟩ => ⟨s, h.mem_iff.1 a, b⟩, fun ⟨s, a, b⟩ => ⟨s, h.mem_iff.2 a, b⟩⟩
theorem apart_eq : ∀ (S T : List (Int × Int)), (∀ s ∈ S, s.1 ≤ s.2) → (∀ s ∈ T, s.1 ≤ s.2) → S.Pairwise (fun a b => a.2 + 1 < b.1) → T.Pairwise (fun a b => a.2 + 1 < b.1) → (∀ k, cvS S k ↔ cvS T k) → S = T := by
  intro S
  induction S with
  | nil =>
    intro T _ hT _ _ h
    cases T with
    | nil => rfl
    | cons b T => exact absurd ((h b.1).2 ((cv_cons _ _ _).2 (.inl ⟨Int.le_refl _, hT b (by simp)⟩))) (cv_nil _)
  | cons a S ih =>
    intro T hS hT pS pT h
    cases T with
    | nil => exact absurd ((h a.1).1 ((cv_cons _ _ _).2 (.inl ⟨Int.le_refl _, hS a (by simp)⟩))) (cv_nil _)
    | cons b T =>
      have pS1 := List.pairwise_cons.1 pS
      have pT1 := List.pairwise_cons.1 pT
      have ha := hS a (by simp)
      have hb := hT b (by simp)
      have lowS : ∀ k, cvS (a :: S) k → a.1 ≤ k := by
        rintro k ⟨s, hs, h1, _⟩
        rcases List.mem_cons.1 hs with rfl | hs
        · exact h1
        · have := pS1.1 s hs; omega
      have lowT : ∀ k, cvS (b :: T) k → b.1 ≤ k := by
        rintro k ⟨s, hs, h1, _⟩
        rcases List.mem_cons.1 hs with rfl | hs
        · exact h1
        · have := pT1.1 s hs; omega
      have e1 : a.1 = b.1 := by
        have h1 := lowT a.1 ((h a.1).1 ((cv_cons _ _ _).2 (.inl ⟨Int.le_refl _, ha⟩)))
        have h2 := lowS b.1 ((h b.1).2 ((cv_cons _ _ _).2 (.inl ⟨Int.le_refl _, hb⟩)))
        omega
      have farS : ∀ k, cvS S k → a.2 + 1 < k := by rintro k ⟨s, hs, h1, _⟩; have := pS1.1 s hs; omega
      have farT : ∀ k, cvS T k → b.2 + 1 < k := by rintro k ⟨s, hs, h1, _⟩; have := pT1.1 s hs; omega
      have e2 : a.2 = b.2 := by
        rcases Int.lt_trichotomy a.2 b.2 with hl | he | hl
        · have h1 := (h (a.2 + 1)).2 ((cv_cons _ _ _).2 (.inl ⟨by omega, by omega⟩))
          rcases (cv_cons _ _ _).1 h1 with h1 | h1
          · omega
          · have := farS _ h1; omega
        · exact he
        · have h1 := (h (b.2 + 1)).1 ((cv_cons _ _ _).2 (.inl ⟨by omega, by omega⟩))
          rcases (cv_cons _ _ _).1 h1 with h1 | h1
          · omega
          · have := farT _ h1; omega
      have e : a = b := Prod.ext e1 e2
      rw [e, ih T (fun s hs => hS s (by simp [hs])) (fun s hs => hT s (by simp [hs])) pS1.2 pT1.2 fun k => ?_]
      constructor
      · intro hk
        rcases (cv_cons _ _ _).1 ((h k).1 ((cv_cons _ _ _).2 (.inr hk))) with h1 | h1
        · have := farS k hk; omega
        · exact h1
      · intro hk
        rcases (cv_cons _ _ _).1 ((h k).2 ((cv_cons _ _ _).2 (.inr hk))) with h1 | h1
        · have := farT k hk; omega
        · exact h1
theorem JoinP.unique {l S T : List (Int × Int)} (h : JoinP l S) (k : JoinP l T) : S = T := apart_eq S T h.le k.le h.gap k.gap fun x => (h.cov x).trans (k.cov x).symm
theorem JoinP.perm {l m S : List (Int × Int)} (h : JoinP l S) (hp : l.Perm m) : JoinP m S := ⟨h.le, h.gap, fun k => (h.cov k).trans (cv_perm hp k)⟩
/-- one more interval -/
def jnS (out : List (Int × Int)) (x : Int × Int) : List (Int × Int) :=
  if out = [] then [x] else if x.1 ≤ (out.getLast!).2 + 1 then out.dropLast ++ [((out.getLast!).1, max (out.getLast!).2 x.2)] else out ++ [x]
def jnF (l : List (Int × Int)) : List (Int × Int) := l.foldl jnS []
theorem jnF_snoc (l : List (Int × Int)) (x : Int × Int) : jnF (l ++ [x]) = jnS (jnF l) x := by simp [jnF]
theorem jnS_nil (x : Int × Int) : jnS [] x = [x] := by simp [jnS]
theorem jnS_snoc (o : List (Int × Int)) (b x : Int × Int) : jnS (o ++ [b]) x = if x.1 ≤ b.2 + 1 then o ++ [(b.1, max b.2 x.2)] else o ++ [b] ++ [x] := by
  have e : (o ++ [b]).getLast! = b := by simp [List.getLast!_eq_getLast?_getD]
  simp [jnS, e]
theorem jnS_len (o : List (Int × Int)) (x : Int × Int) : (jnS o x).length ≤ o.length + 1 := by
  rcases List.eq_nil_or_concat o with rfl | ⟨o', b, rfl⟩
  · simp [jnS_nil]
  · rw [List.concat_eq_append, jnS_snoc]; split <;> simp
theorem jnF_join : ∀ (l : List (Int × Int)), (∀ s ∈ l, s.1 ≤ s.2) → l.Pairwise (fun a b => a.1 ≤ b.1) → JoinP l (jnF l) ∧ (∀ s ∈ jnF l, ∃ x ∈ l, s.1 = x.1) := by
  refine list_snoc ?_ ?_
  · exact fun _ _ => ⟨⟨by simp [jnF], by simp [jnF], fun k => by simp [jnF]⟩, by simp [jnF]⟩
  · intro l x ih
    intro h1 h2
    have hx : x.1 ≤ x.2 := h1 x (by simp)
    rw [List.pairwise_append] at h2
    obtain ⟨h2, -, h3⟩ := h2
    have h3 : ∀ a ∈ l, a.1 ≤ x.1 := fun a ha => h3 a ha x (by simp)
    obtain ⟨hj, hl⟩ := ih (fun s hs => h1 s (by simp [hs])) h2
    rw [jnF_snoc]
    have hle := hj.le
    have hgap := hj.gap
    have hcov := hj.cov
    rcases List.eq_nil_or_concat (jnF l) with e | ⟨o, b, e⟩
    · rw [e] at hcov ⊢
      rw [jnS_nil]
      refine ⟨⟨by simpa using hx, by simp, fun k => ?_⟩, by simp⟩
      rw [cv_append, ← hcov]
      simp [cv_nil]
    · rw [List.concat_eq_append] at e
      rw [e] at hcov hle hgap hl ⊢
      rw [jnS_snoc]
      rw [List.pairwise_append] at hgap
      obtain ⟨g1, -, g2⟩ := hgap
      have hb := hle b (by simp)
      have hbx : b.1 ≤ x.1 := by
        obtain ⟨y, hy, e1⟩ := hl b (by simp)
        rw [e1]; exact h3 y hy
      split
      · rename_i hc
        refine ⟨⟨fun s hs => ?_, ?_, fun k => ?_⟩, fun s hs => ?_⟩
        · rcases List.mem_append.1 hs with hs | hs
          · exact hle s (by simp [hs])
          · simp at hs; subst hs; dsimp only; omega
        · rw [List.pairwise_append]
          refine ⟨g1, by simp, fun a ha c hc => ?_⟩
          simp at hc; subst hc
          exact g2 a ha b (by simp)
        · rw [cv_append, cv_append, ← hcov, cv_append, cv_cons, cv_cons, cv_cons]
          have n := cv_nil k
          simp only [n, or_false]
          rw [or_assoc]
          refine or_congr Iff.rfl ?_
          omega
        · rcases List.mem_append.1 hs with hs | hs
          · obtain ⟨y, hy, e1⟩ := hl s (by simp [hs]); exact ⟨y, by simp [hy], e1⟩
          · simp at hs; subst hs
            obtain ⟨y, hy, e1⟩ := hl b (by simp); exact ⟨y, by simp [hy], e1⟩
      · rename_i hc
        refine ⟨⟨fun s hs => ?_, ?_, fun k => ?_⟩, fun s hs => ?_⟩
        · rcases List.mem_append.1 hs with hs | hs
          · exact hle s hs
          · simp at hs; subst hs; exact hx
        · rw [List.pairwise_append]
          refine ⟨List.pairwise_append.2 ⟨g1, by simp, g2⟩, by simp, fun a ha c hc => ?_⟩
          simp at hc; subst hc
          rcases List.mem_append.1 ha with ha | ha
          · have := g2 a ha b (by simp); omega
          · simp at ha; subst ha; omega
        · rw [cv_append (o ++ [b]), cv_append l, hcov]
        · rcases List.mem_append.1 hs with hs | hs
          · obtain ⟨y, hy, e1⟩ := hl s hs; exact ⟨y, by simp [hy], e1⟩
          · simp at hs; subst hs; exact ⟨s, by simp, rfl⟩
/-- the one answer -/
def joinC (l : List (Int × Int)) : List (Int × Int) := jnF (l.mergeSort fun a b => decide (a.1 ≤ b.1))
theorem joinC_join {l : List (Int × Int)} (h : ∀ s ∈ l, s.1 ≤ s.2) : JoinP l (joinC l) := by
  have hp : (l.mergeSort fun a b => decide (a.1 ≤ b.1)).Perm l := List.mergeSort_perm _ _
  refine (jnF_join _ (fun s hs => h s (hp.mem_iff.1 hs)) ?_).1.perm hp
  have := List.pairwise_mergeSort (le := fun a b : Int × Int => decide (a.1 ≤ b.1)) (fun a b c => by simp; omega) (fun a b => by simp; omega) l
  exact this.imp (fun h => by simpa using h)
theorem jnF_eq {l m : List (Int × Int)} (h : ∀ s ∈ l, s.1 ≤ s.2) (hp : m.Perm l) (hs : m.Pairwise fun a b => a.1 ≤ b.1) : jnF m = joinC l :=
  ((jnF_join m (fun s h1 => h s (hp.mem_iff.1 h1)) hs).1.perm hp).unique (joinC_join h)
/-- each end of the answer is an end of the list -/
theorem jnF_len (l : List (Int × Int)) : (jnF l).length ≤ l.length := by
  refine list_snoc (p := fun l => (jnF l).length ≤ l.length) ?_ ?_ l
  · simp [jnF]
  · intro l x ih
    rw [jnF_snoc]; have := jnS_len (jnF l) x; simp; omega
theorem joinC_len (l : List (Int × Int)) : (joinC l).length ≤ l.length := by
  have := jnF_len (l.mergeSort fun a b => decide (a.1 ≤ b.1))
  rw [List.length_mergeSort] at this
  exact this
theorem jnF_bd {lo hi : Int} : ∀ (l : List (Int × Int)), (∀ s ∈ l, lo ≤ s.1 ∧ s.1 ≤ s.2 ∧ s.2 ≤ hi) → ∀ s ∈ jnF l, lo ≤ s.1 ∧ s.1 ≤ s.2 ∧ s.2 ≤ hi := by
  refine list_snoc ?_ ?_
  · simp [jnF]
  · intro l x ih
    intro h s hs
    rw [jnF_snoc] at hs
    have hx := h x (by simp)
    have ih := ih (fun s hs => h s (by simp [hs]))
    rcases List.eq_nil_or_concat (jnF l) with e | ⟨o, b, e⟩
    · rw [e, jnS_nil] at hs; simp at hs; subst hs; exact hx
    · rw [List.concat_eq_append] at e
      rw [e] at ih
      rw [e, jnS_snoc] at hs
      have hb := ih b (by simp)
      split at hs
      · rcases List.mem_append.1 hs with hs | hs
        · exact ih s (by simp [hs])
        · simp at hs; subst hs; dsimp only; omega
      · rcases List.mem_append.1 hs with hs | hs
        · exact ih s hs
        · simp at hs; subst hs; exact hx
theorem joinC_bd {lo hi : Int} {l : List (Int × Int)} (h : ∀ s ∈ l, lo ≤ s.1 ∧ s.1 ≤ s.2 ∧ s.2 ≤ hi) : ∀ s ∈ joinC l, lo ≤ s.1 ∧ s.1 ≤ s.2 ∧ s.2 ≤ hi :=
  jnF_bd _ fun s hs => h s ((List.mergeSort_perm _ _).mem_iff.1 hs)
end Go.Rl
namespace Go.Rl
/-- how many numbers intervals hold that lie apart -/
def cntS : List (Int × Int) → Int
  | [] => 0
  | s :: l => (s.2 - s.1 + 1) + cntS l
/-- what of intervals lies below n -/
def clip (n : Int) : List (Int × Int) → List (Int × Int)
  | [] => []
  | s :: l => if s.1 < n then (s.1, min s.2 (n - 1)) :: clip n l else clip n l
/-- how many must be printed for g good ones -/
def runN : List (Int × Int) → Int → Int
  | [], n => n
  | s :: l, n => if n ≤ s.1 then n else runN l (n + (s.2 - s.1 + 1))
theorem clip_cov (n : Int) (l : List (Int × Int)) (k : Int) : cvS (clip n l) k ↔ cvS l k ∧ k < n := by
  induction l with
  | nil => simp [clip, cv_nil]
  | cons s l ih =>
    rw [clip, cv_cons]
    split
    · rw [cv_cons, ih]
      dsimp only
      constructor
      · rintro (h | h)
        · exact ⟨.inl (by omega), by omega⟩
        · exact ⟨.inr h.1, h.2⟩
      · rintro ⟨h | h, h2⟩
        · exact .inl (by omega)
        · exact .inr ⟨h, h2⟩
    · rw [ih]
      constructor
      · rintro h; exact ⟨.inr h.1, h.2⟩
      · rintro ⟨h | h, h2⟩
        · omega
        · exact ⟨h, h2⟩
theorem clip_mem {n : Int} {l : List (Int × Int)} (hl : ∀ s ∈ l, s.1 ≤ s.2) {s : Int × Int} (h : s ∈ clip n l) : ∃ a ∈ l, s.1 = a.1 ∧ s.2 ≤ a.2 ∧ s.1 ≤ s.2 := by
  induction l with
  | nil => simp [clip] at h
  | cons a l ih =>
    rw [clip] at h
    split at h
    · rcases List.mem_cons.1 h with rfl | h
      · have := hl a (by simp)
        exact ⟨a, by simp, rfl, by dsimp only; omega, by dsimp only; omega⟩
      · obtain ⟨b, hb, h⟩ := ih (fun s hs => hl s (by simp [hs])) h
        exact ⟨b, by simp [hb], h⟩
    · obtain ⟨b, hb, h⟩ := ih (fun s hs => hl s (by simp [hs])) h
      exact ⟨b, by simp [hb], h⟩
theorem clip_gap {n : Int} {l : List (Int × Int)} (hl : ∀ s ∈ l, s.1 ≤ s.2) (h : l.Pairwise fun a b => a.2 + 1 < b.1) : (clip n l).Pairwise fun a b => a.2 + 1 < b.1 := by
  induction l with
  | nil => simp [clip]
  | cons a l ih =>
    have h2 := List.pairwise_cons.1 h
    have hl2 : ∀ s ∈ l, s.1 ≤ s.2 := fun s hs => hl s (by simp [hs])
    rw [clip]
    split
    · refine List.pairwise_cons.2 ⟨fun b hb => ?_, ih hl2 h2.2⟩
      obtain ⟨c, hc, e1, e2, e3⟩ := clip_mem hl2 hb
      have := h2.1 c hc
      dsimp only; omega
    · exact ih hl2 h2.2
theorem clip_none {n : Int} {l : List (Int × Int)} (h : ∀ s ∈ l, n ≤ s.1) : clip n l = [] := by
  induction l with
  | nil => rfl
  | cons a l ih =>
    rw [clip, if_neg (by have := h a (by simp); omega)]
    exact ih fun s hs => h s (by simp [hs])
theorem cntS_nonneg {l : List (Int × Int)} (h : ∀ s ∈ l, s.1 ≤ s.2) : 0 ≤ cntS l := by
  induction l with
  | nil => simp [cntS]
  | cons a l ih =>
    rw [cntS]
    have := ih fun s hs => h s (by simp [hs])
    have := h a (by simp)
    omega
theorem runN_le {l : List (Int × Int)} (h : ∀ s ∈ l, s.1 ≤ s.2) : ∀ g, g ≤ runN l g ∧ runN l g ≤ g + cntS l := by
  induction l with
  | nil => intro g; simp [runN, cntS]
  | cons a l ih =>
    intro g
    have hl : ∀ s ∈ l, s.1 ≤ s.2 := fun s hs => h s (by simp [hs])
    have h1 := cntS_nonneg hl
    have h2 := h a (by simp)
    rw [runN, cntS]
    split
    · omega
    · have := ih hl (g + (a.2 - a.1 + 1))
      omega
theorem run_spec : ∀ (l : List (Int × Int)), (∀ s ∈ l, s.1 ≤ s.2) → l.Pairwise (fun a b => a.2 + 1 < b.1) → ∀ g, runN l g - cntS (clip (runN l g) l) = g ∧ ¬ cvS l (runN l g - 1) ∧ ∀ m, m < runN l g → m - cntS (clip m l) < g := by
  intro l
  induction l with
  | nil => intro _ _ g; refine ⟨by simp [runN, clip, cntS], cv_nil _, fun m hm => by simp [clip, cntS, runN] at hm ⊢; exact hm⟩
  | cons s l ih =>
    intro hl hg g
    have hg2 := List.pairwise_cons.1 hg
    have hl2 : ∀ s ∈ l, s.1 ≤ s.2 := fun s hs => hl s (by simp [hs])
    have hs := hl s (by simp)
    have hfar : ∀ b ∈ l, s.2 + 1 < b.1 := hg2.1
    rw [runN]
    split
    · rename_i hc
      have hn : ∀ m, m ≤ s.1 → clip m (s :: l) = [] := fun m hm => clip_none fun b hb => by
        rcases List.mem_cons.1 hb with rfl | hb
        · exact hm
        · have := hfar b hb; omega
      refine ⟨by rw [hn g hc]; simp [cntS], ?_, fun m hm => by rw [hn m (by omega)]; simp [cntS]; exact hm⟩
      rintro ⟨b, hb, h1, h2⟩
      rcases List.mem_cons.1 hb with rfl | hb
      · omega
      · have := hfar b hb; omega
    · rename_i hc
      obtain ⟨i1, i2, i3⟩ := ih hl2 hg2.2 (g + (s.2 - s.1 + 1))
      have hle := (runN_le hl2 (g + (s.2 - s.1 + 1))).1
      obtain ⟨n, hn⟩ : ∃ n, n = runN l (g + (s.2 - s.1 + 1)) := ⟨_, rfl⟩
      rw [← hn] at i1 i2 i3 hle ⊢
      refine ⟨?_, ?_, fun m hm => ?_⟩
      · rw [clip, if_pos (by omega), cntS]
        dsimp only
        have : min s.2 (n - 1) = s.2 := by omega
        rw [this]; omega
      · rw [cv_cons]
        rintro (h | h)
        · omega
        · exact i2 h
      · rw [clip]
        by_cases h1 : s.1 < m
        · rw [if_pos h1, cntS]
          dsimp only
          by_cases h2 : m ≤ s.2 + 1
          · have : min s.2 (m - 1) = m - 1 := by omega
            have h0 : clip m l = [] := clip_none fun b hb => by have := hfar b hb; omega
            rw [this, h0]; simp [cntS]; omega
          · have : min s.2 (m - 1) = s.2 := by omega
            rw [this]
            have := i3 m hm
            omega
        · rw [if_neg h1]
          have h0 : clip m l = [] := clip_none fun b hb => by have := hfar b hb; omega
          rw [h0]; simp [cntS]; omega
/-- an interval whose numbers are all held lies in one of the intervals -/
theorem apart_one {l : List (Int × Int)} (hg : l.Pairwise fun a b => a.2 + 1 < b.1) (hl : ∀ s ∈ l, s.1 ≤ s.2) {lo hi : Int} (h : lo ≤ hi) (hc : ∀ k, lo ≤ k → k ≤ hi → cvS l k) : ∃ x ∈ l, x.1 ≤ lo ∧ hi ≤ x.2 := by
  induction l with
  | nil => exact absurd (hc lo (by omega) h) (cv_nil _)
  | cons a l ih =>
    have hg2 := List.pairwise_cons.1 hg
    have far : ∀ k, cvS l k → a.2 + 1 < k := by rintro k ⟨b, hb, h1, _⟩; have := hg2.1 b hb; omega
    by_cases h1 : a.1 ≤ lo ∧ lo ≤ a.2
    · refine ⟨a, by simp, h1.1, ?_⟩
      by_cases h2 : hi ≤ a.2
      · exact h2
      · rcases (cv_cons _ _ _).1 (hc (a.2 + 1) (by omega) (by omega)) with h3 | h3
        · omega
        · have := far _ h3; omega
    · have h2 : cvS l lo := by
        rcases (cv_cons _ _ _).1 (hc lo (by omega) h) with h3 | h3
        · exact absurd h3 h1
        · exact h3
      have h3 := far _ h2
      obtain ⟨x, hx, h4⟩ := ih hg2.2 (fun s hs => hl s (by simp [hs])) fun k k1 k2 => by
        rcases (cv_cons _ _ _).1 (hc k k1 k2) with h3 | h3
        · omega
        · exact h3
      exact ⟨x, by simp [hx], h4⟩
/-- what is held by fewer intervals is no more -/
theorem cnt_mono : ∀ (T S : List (Int × Int)), (∀ s ∈ S, s.1 ≤ s.2) → (∀ s ∈ T, s.1 ≤ s.2) → S.Pairwise (fun a b => a.2 + 1 < b.1) → T.Pairwise (fun a b => a.2 + 1 < b.1) → (∀ s ∈ S, ∃ x ∈ T, x.1 ≤ s.1 ∧ s.2 ≤ x.2) → cntS S ≤ cntS T := by
  intro T
  induction T with
  | nil =>
    intro S _ _ _ _ h
    cases S with
    | nil => simp [cntS]
    | cons a S => obtain ⟨x, hx, _⟩ := h a (by simp); simp at hx
  | cons t T ih =>
    intro S hS hT gS gT h
    have gT2 := List.pairwise_cons.1 gT
    have hT2 : ∀ s ∈ T, s.1 ≤ s.2 := fun s hs => hT s (by simp [hs])
    have ht := hT t (by simp)
    have key : ∀ (S : List (Int × Int)) (lo : Int), (∀ s ∈ S, s.1 ≤ s.2) → S.Pairwise (fun a b => a.2 + 1 < b.1) → (∀ s ∈ S, lo ≤ s.1) → lo ≤ t.2 + 1 → (∀ s ∈ S, (t.1 ≤ s.1 ∧ s.2 ≤ t.2) ∨ ∃ x ∈ T, x.1 ≤ s.1 ∧ s.2 ≤ x.2) → cntS S ≤ (t.2 - lo + 1) + cntS T := by
      intro S
      induction S with
      | nil => intro lo _ _ _ h1 _; have := cntS_nonneg hT2; simp [cntS]; omega
      | cons a S ihS =>
        intro lo hS gS hlo h1 h
        have gS2 := List.pairwise_cons.1 gS
        have hS2 : ∀ s ∈ S, s.1 ≤ s.2 := fun s hs => hS s (by simp [hs])
        have ha := hS a (by simp)
        have hl := hlo a (by simp)
        rcases h a (by simp) with h2 | ⟨x, hx, h2⟩
        · rw [cntS]
          have := ihS (a.2 + 1) hS2 gS2.2 (fun s hs => by have := gS2.1 s hs; omega) (by omega) (fun s hs => h s (by simp [hs]))
          omega
        · have h3 := gT2.1 x hx
          have := ih (a :: S) hS hT2 gS gT2.2 fun s hs => by
            rcases List.mem_cons.1 hs with rfl | hs
            · exact ⟨x, hx, h2⟩
            · rcases h s (by simp [hs]) with h4 | h4
              · have := gS2.1 s hs; have := hS2 s hs; omega
              · exact h4
          omega
    rw [cntS]
    refine key S t.1 hS gS (fun s hs => ?_) (by omega) (fun s hs => ?_)
    · obtain ⟨x, hx, h1, h2⟩ := h s hs
      rcases List.mem_cons.1 hx with rfl | hx
      · exact h1
      · have := gT2.1 x hx; omega
    · obtain ⟨x, hx, h1, h2⟩ := h s hs
      rcases List.mem_cons.1 hx with rfl | hx
      · exact .inl ⟨h1, h2⟩
      · exact .inr ⟨x, hx, h1, h2⟩
end Go.Rl
