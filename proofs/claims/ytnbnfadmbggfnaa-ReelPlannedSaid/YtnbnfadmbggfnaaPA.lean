/- Plans of a store, plain: the search finds the least right plan; conditions: none. -/
import Derived.Test.YtnbnfadmbggfnaaB1
set_option linter.unusedSimpArgs false
set_option linter.unusedVariables false
namespace Go.Rl
open Go.Fh Go.RowKit
def rl0 : ReelD := ⟨0, 0, 0, 0⟩
/-- how many reels are used -/
def usedL (l : List Int) : Int := sumN (fun i => if 0 ≤ nd l i then 1 else 0) l.length
/-- what a stand still needs -/
def leftF (st : List ReelD) (ns : List (Int × Int)) (l : List Int) (s : Nat) : Int := (ns.getD s (0, 0)).2 - sumN (fun i => if nd l i = (s : Int) then giv (st.getD i rl0) else 0) l.length
def beyL (st : List ReelD) (ns : List (Int × Int)) (l : List Int) : Int := sumN (fun s => - leftF st ns l s) ns.length
def fitP (st : List ReelD) (ns : List (Int × Int)) (l : List Int) : Bool := (List.range ns.length).all fun s => decide (leftF st ns l s ≤ 0)
/-- whether a reel may stand there -/
def okP (st : List ReelD) (ns : List (Int × Int)) (i : Nat) (v : Int) : Bool := decide (v < 0) || decide ((st.getD i rl0).width = (ns.getD v.toNat (0, 0)).1)
abbrev PlT := List Int × Int × Int
def plOf (st : List ReelD) (ns : List (Int × Int)) (l : List Int) : PlT := (l, usedL l, beyL st ns l)
def lessP (a b : PlT) : Bool := if a.2.1 ≠ b.2.1 then decide (a.2.1 < b.2.1) else if a.2.2 ≠ b.2.2 then decide (a.2.2 < b.2.2) else lessL a.1 b.1
def betP (b : Option PlT) (x : PlT) : Bool := match b with
  | none => true
  | some y => lessP x y
def moreP (b : Option PlT) (u : Int) : Bool := match b with
  | none => false
  | some y => decide (y.2.1 < u)
def candL (m : Nat) : List Int := (-1) :: (List.range m).map fun (s : Nat) => (s : Int)
def dfsP (st : List ReelD) (ns : List (Int × Int)) : Nat → List Int → Option PlT → Option PlT
  | 0, _, b => b
  | f + 1, l, b => if moreP b (usedL l) = true then b else if l.length = st.length then (if fitP st ns l = true ∧ betP b (plOf st ns l) = true then some (plOf st ns l) else b)
    else (candL ns.length).foldl (fun b s => if okP st ns l.length s = true then dfsP st ns f (l ++ [s]) b else b) b
def stepP (st : List ReelD) (ns : List (Int × Int)) (f : Nat) (l : List Int) (b : Option PlT) (s : Int) : Option PlT := if okP st ns l.length s = true then dfsP st ns f (l ++ [s]) b else b
theorem dfsP_more {st : List ReelD} {ns : List (Int × Int)} {f : Nat} {l : List Int} {b : Option PlT} (h : moreP b (usedL l) = true) : dfsP st ns (f + 1) l b = b := by
  conv => lhs; unfold dfsP
  rw [if_pos h]
theorem dfsP_full {st : List ReelD} {ns : List (Int × Int)} {f : Nat} {l : List Int} {b : Option PlT} (h : moreP b (usedL l) = false) (hl : l.length = st.length) : dfsP st ns (f + 1) l b = if fitP st ns l = true ∧ betP b (plOf st ns l) = true then some (plOf st ns l) else b := by
  conv => lhs; unfold dfsP
  rw [if_neg (by rw [h]; simp), if_pos hl]
theorem dfsP_step {st : List ReelD} {ns : List (Int × Int)} {f : Nat} {l : List Int} {b : Option PlT} (h : moreP b (usedL l) = false) (hl : l.length ≠ st.length) : dfsP st ns (f + 1) l b = (candL ns.length).foldl (stepP st ns f l) b := by
  conv => lhs; unfold dfsP
  rw [if_neg (by rw [h]; simp), if_neg hl]
  rfl
theorem nd_app {l m : List Int} {i : Nat} (h : i < l.length) : nd (l ++ m) i = nd l i := by
  unfold nd
  rw [List.getD_eq_getElem?_getD, List.getD_eq_getElem?_getD, List.getElem?_append_left h]
theorem nd_last (l : List Int) (v : Int) : nd (l ++ [v]) l.length = v := by
  unfold nd
  rw [List.getD_eq_getElem?_getD, List.getElem?_append_right (Nat.le_refl _)]
  simp
theorem usedL_snoc (l : List Int) (v : Int) : usedL (l ++ [v]) = usedL l + (if 0 ≤ v then 1 else 0) := by
  unfold usedL
  rw [List.length_append]
  show sumN _ (l.length + 1) = _
  rw [sumN, nd_last, sumN_congr (g := fun i => if 0 ≤ nd l i then 1 else 0) fun i hi => by rw [nd_app hi]]
theorem leftF_snoc (st : List ReelD) (ns : List (Int × Int)) (l : List Int) (v : Int) (s : Nat) : leftF st ns (l ++ [v]) s = leftF st ns l s - (if v = (s : Int) then giv (st.getD l.length rl0) else 0) := by
  unfold leftF
  rw [List.length_append]
  show _ - sumN _ (l.length + 1) = _
  rw [sumN, nd_last, sumN_congr (g := fun i => if nd l i = (s : Int) then giv (st.getD i rl0) else 0) fun i hi => by rw [nd_app hi]]
  omega
theorem usedL_bd (l : List Int) : 0 ≤ usedL l ∧ usedL l ≤ l.length := by
  have := sumN_bd (f := fun i => if 0 ≤ nd l i then (1 : Int) else 0) (n := l.length) (B := 1) (fun i _ => by split <;> omega)
  unfold usedL
  omega
theorem usedL_app (l m : List Int) : usedL l ≤ usedL (l ++ m) := by
  induction m generalizing l with
  | nil => simp
  | cons v m ih =>
    have := ih (l ++ [v])
    rw [List.append_assoc] at this
    have h2 := usedL_snoc l v
    simp only [List.singleton_append] at this
    split at h2 <;> omega
theorem lessL_irr : ∀ l : List Int, lessL l l = false := by
  intro l
  induction l with
  | nil => rfl
  | cons a l ih => simp [lessL, ih]
theorem lessL_tri : ∀ l m : List Int, l = m ∨ lessL l m = true ∨ lessL m l = true := by
  intro l
  induction l with
  | nil => intro m; cases m with
    | nil => exact .inl rfl
    | cons b m => exact .inr (.inl rfl)
  | cons a l ih => intro m; cases m with
    | nil => exact .inr (.inr rfl)
    | cons b m =>
      by_cases h : a = b
      · subst h
        rcases ih m with h | h | h
        · exact .inl (by rw [h])
        · exact .inr (.inl (by simp [lessL, h]))
        · exact .inr (.inr (by simp [lessL, h]))
      · rcases Int.lt_or_gt_of_ne h with k | k
        · exact .inr (.inl (by simp [lessL, h, k]))
        · exact .inr (.inr (by unfold lessL; rw [if_neg (fun e => h e.symm)]; simpa using k))
theorem lessL_tr : ∀ l m k : List Int, lessL l m = true → lessL m k = true → lessL l k = true := by
  intro l
  induction l with
  | nil => intro m k h1 h2; cases m with
    | nil => cases h1
    | cons b m => cases k with
      | nil => cases h2
      | cons c k => rfl
  | cons a l ih => intro m k h1 h2; cases m with
    | nil => cases h1
    | cons b m => cases k with
      | nil => cases h2
      | cons c k =>
        simp only [lessL] at h1 h2 ⊢
        by_cases e1 : a = b
        · rw [if_pos e1] at h1
          by_cases e2 : b = c
          · rw [if_pos e2] at h2
            rw [if_pos (e1.trans e2)]
            exact ih m k h1 h2
          · rw [if_neg e2] at h2
            rw [if_neg (by rw [e1]; exact e2), e1]
            exact h2
        · rw [if_neg e1] at h1
          have h1 := of_decide_eq_true h1
          by_cases e2 : b = c
          · rw [if_neg (by omega)]
            exact decide_eq_true (by omega)
          · rw [if_neg e2] at h2
            have h2 := of_decide_eq_true h2
            rw [if_neg (by omega)]
            exact decide_eq_true (by omega)
theorem lessP_irr (a : PlT) : lessP a a = false := by unfold lessP; simp [lessL_irr]
theorem lessP_tr {a b c : PlT} (h1 : lessP a b = true) (h2 : lessP b c = true) : lessP a c = true := by
  have e : ∀ x y : PlT, lessP x y = true ↔ (x.2.1 < y.2.1 ∨ (x.2.1 = y.2.1 ∧ (x.2.2 < y.2.2 ∨ (x.2.2 = y.2.2 ∧ lessL x.1 y.1 = true)))) := fun x y => by
    unfold lessP
    by_cases h : x.2.1 = y.2.1
    · by_cases k : x.2.2 = y.2.2
      · simp [h, k]
      · simp [h, k]
    · simp [h]
  rw [e] at h1 h2 ⊢
  rcases h1 with h1 | ⟨h1, h1'⟩ <;> rcases h2 with h2 | ⟨h2, h2'⟩
  · exact .inl (by omega)
  · exact .inl (by omega)
  · exact .inl (by omega)
  · refine .inr ⟨by omega, ?_⟩
    rcases h1' with k1 | ⟨k1, k1'⟩ <;> rcases h2' with k2 | ⟨k2, k2'⟩
    · exact .inl (by omega)
    · exact .inl (by omega)
    · exact .inl (by omega)
    · exact .inr ⟨by omega, lessL_tr _ _ _ k1' k2'⟩
theorem lessP_tri (a b : PlT) : (a.1 = b.1 ∧ a.2.1 = b.2.1 ∧ a.2.2 = b.2.2) ∨ lessP a b = true ∨ lessP b a = true := by
  unfold lessP
  by_cases h : a.2.1 = b.2.1
  · by_cases k : a.2.2 = b.2.2
    · rcases lessL_tri a.1 b.1 with e | e | e
      · exact .inl ⟨e, h, k⟩
      · exact .inr (.inl (by simp [h, k, e]))
      · exact .inr (.inr (by simp [h, k, e]))
    · rcases Int.lt_or_gt_of_ne k with e | e
      · exact .inr (.inl (by simp [h, k, e]))
      · exact .inr (.inr (by rw [if_neg (by simp [h]), if_pos (fun q => k q.symm)]; exact decide_eq_true e))
  · rcases Int.lt_or_gt_of_ne h with e | e
    · exact .inr (.inl (by simp [h, e]))
    · exact .inr (.inr (by rw [if_pos (fun q => h q.symm)]; exact decide_eq_true e))
/-- a right plan -/
structure GoodP (st : List ReelD) (ns : List (Int × Int)) (l : List Int) : Prop where
  len : l.length = st.length
  ok : ∀ i, i < l.length → -1 ≤ nd l i ∧ nd l i < ns.length ∧ okP st ns i (nd l i) = true
  fit : fitP st ns l = true
/-- the best of some right plans -/
structure BestP (st : List ReelD) (ns : List (Int × Int)) (X : List Int → Prop) (b : Option PlT) : Prop where
  no : b = none → ∀ l, X l → ¬ GoodP st ns l
  yes : ∀ y, b = some y → ∃ l, X l ∧ GoodP st ns l ∧ y = plOf st ns l
  min : ∀ y, b = some y → ∀ l, X l → GoodP st ns l → y = plOf st ns l ∨ lessP y (plOf st ns l) = true
section
variable {st : List ReelD} {ns : List (Int × Int)} {X Y : List Int → Prop} {b : Option PlT}
theorem BestP.congr (h : BestP st ns X b) (e : ∀ l, GoodP st ns l → (X l ↔ Y l)) : BestP st ns Y b :=
  ⟨fun hb l hY hg => h.no hb l ((e l hg).2 hY) hg, fun y hb => by
    obtain ⟨l, a, g, q⟩ := h.yes y hb
    exact ⟨l, (e l g).1 a, g, q⟩, fun y hb l hY hg => h.min y hb l ((e l hg).2 hY) hg⟩
/-- more plans, none of which is better -/
theorem BestP.worse (h : BestP st ns X b) (hw : ∀ l, Y l → GoodP st ns l → ∃ y, b = some y ∧ lessP y (plOf st ns l) = true) : BestP st ns (fun l => X l ∨ Y l) b := by
  refine ⟨fun hb l hl hg => ?_, fun y hb => ?_, fun y hb l hl hg => ?_⟩
  · rcases hl with hl | hl
    · exact h.no hb l hl hg
    · obtain ⟨y, hy, _⟩ := hw l hl hg
      rw [hb] at hy; cases hy
  · obtain ⟨l, a, g, q⟩ := h.yes y hb
    exact ⟨l, .inl a, g, q⟩
  · rcases hl with hl | hl
    · exact h.min y hb l hl hg
    · obtain ⟨z, hz, hk⟩ := hw l hl hg
      rw [hb] at hz
      injection hz with hz
      subst hz
      exact .inr hk
theorem pref_eq {l m : List Int} (h : l <+: m) (hl : l.length = m.length) : l = m := h.eq_of_length hl
theorem cand_mem {m : Nat} {v : Int} : v ∈ candL m ↔ -1 ≤ v ∧ v < m := by
  unfold candL
  simp only [List.mem_cons, List.mem_map, List.mem_range]
  constructor
  · rintro (h | ⟨s, h1, h2⟩)
    · omega
    · omega
  · intro h
    by_cases e : v = -1
    · exact .inl e
    · exact .inr ⟨v.toNat, by omega, by omega⟩
def ValP (st : List ReelD) (ns : List (Int × Int)) (l : List Int) : Prop := ∀ i, i < l.length → -1 ≤ nd l i ∧ nd l i < ns.length ∧ okP st ns i (nd l i) = true
theorem ValP.snoc {l : List Int} (h : ValP st ns l) {v : Int} (h1 : -1 ≤ v) (h2 : v < ns.length) (h3 : okP st ns l.length v = true) : ValP st ns (l ++ [v]) := fun i hi => by
  rw [List.length_append] at hi
  by_cases e : i < l.length
  · rw [nd_app e]; exact h i e
  · obtain rfl : i = l.length := by simp at hi; omega
    rw [nd_last]; exact ⟨h1, h2, h3⟩
theorem dfs_best : ∀ (f : Nat) (l : List Int) (X : List Int → Prop) (b : Option PlT), l.length + f = st.length + 1 → ValP st ns l → BestP st ns X b → BestP st ns (fun k => X k ∨ l <+: k) (dfsP st ns f l b) := by
  intro f
  induction f with
  | zero =>
    intro l X b hf _ hb
    unfold dfsP
    refine hb.congr fun k hg => ⟨.inl, fun h => ?_⟩
    rcases h with h | h
    · exact h
    · have := h.length_le
      have := hg.len
      omega
  | succ f ih =>
    intro l X b hf hv hb
    by_cases hm : moreP b (usedL l) = true
    · rw [dfsP_more hm]
      refine hb.worse fun k hk hg => ?_
      cases b with
      | none => cases hm
      | some y =>
        refine ⟨y, rfl, ?_⟩
        have h1 : y.2.1 < usedL l := by simpa [moreP] using hm
        obtain ⟨r, rfl⟩ := hk
        have h2 := usedL_app l r
        unfold lessP plOf
        dsimp only
        rw [if_pos (by omega)]
        simp
        omega
    · have hm0 : moreP b (usedL l) = false := by simpa using hm
      by_cases hl : l.length = st.length
      · rw [dfsP_full hm0 hl]
        have hone : ∀ k, GoodP st ns k → l <+: k → k = l := fun k hg h => (pref_eq h (by rw [hl, hg.len])).symm
        by_cases hc : fitP st ns l = true ∧ betP b (plOf st ns l) = true
        · rw [if_pos hc]
          have hgl : GoodP st ns l := ⟨hl, hv, hc.1⟩
          refine ⟨fun h => (by cases h), fun y hy => ?_, fun y hy k hk hg => ?_⟩
          · injection hy with hy
            exact ⟨l, .inr ⟨[], by simp⟩, hgl, hy.symm⟩
          · injection hy with hy
            subst hy
            rcases hk with hk | hk
            · cases b with
              | none => exact absurd hg (hb.no rfl k hk)
              | some z =>
                have h1 : lessP (plOf st ns l) z = true := hc.2
                rcases hb.min z rfl k hk hg with h | h
                · exact .inr (by rw [← h]; exact h1)
                · exact .inr (lessP_tr h1 h)
            · exact .inl (by rw [hone k hg hk])
        · rw [if_neg hc]
          by_cases hf2 : fitP st ns l = true
          · cases b with
            | none => exact absurd ⟨hf2, rfl⟩ hc
            | some z =>
              have h1 : lessP (plOf st ns l) z = false := by
                cases hh : lessP (plOf st ns l) z with
                | false => rfl
                | true => exact absurd ⟨hf2, hh⟩ hc
              refine ⟨fun h => (by cases h), fun y hy => ?_, fun y hy k hk hg => ?_⟩
              · obtain ⟨k, a, g, q⟩ := hb.yes y hy
                exact ⟨k, .inl a, g, q⟩
              · rcases hk with hk | hk
                · exact hb.min y hy k hk hg
                · injection hy with hy
                  subst hy
                  rw [hone k hg hk]
                  rcases lessP_tri (plOf st ns l) z with ⟨e1, e2, e3⟩ | e | e
                  · exact .inl (Prod.ext e1.symm (Prod.ext e2.symm e3.symm))
                  · rw [h1] at e; cases e
                  · exact .inr e
          · refine hb.congr fun k hg => ⟨.inl, fun h => ?_⟩
            rcases h with h | h
            · exact h
            · rw [← hone k hg h] at hf2
              exact absurd hg.fit hf2
      · rw [dfsP_step hm0 hl]
        have key : ∀ (cs : List Int) (X : List Int → Prop) (b : Option PlT), (∀ v ∈ cs, -1 ≤ v ∧ v < ns.length) → BestP st ns X b → BestP st ns (fun k => X k ∨ ∃ v ∈ cs, (l ++ [v]) <+: k) (cs.foldl (stepP st ns f l) b) := by
          intro cs
          induction cs with
          | nil => intro X b _ hb; exact hb.congr fun k _ => ⟨.inl, fun h => by rcases h with h | ⟨v, hv, _⟩; (exact h); (cases hv)⟩
          | cons v cs ihc =>
            intro X b hcs hb
            have hv1 := hcs v (by simp)
            rw [List.foldl_cons]
            have hstep : BestP st ns (fun k => X k ∨ (l ++ [v]) <+: k) (stepP st ns f l b v) := by
              unfold stepP
              by_cases ho : okP st ns l.length v = true
              · rw [if_pos ho]
                exact ih (l ++ [v]) X b (by rw [List.length_append]; simp; omega) (hv.snoc hv1.1 hv1.2 ho) hb
              · rw [if_neg ho]
                refine hb.congr fun k hg => ⟨.inl, fun h => ?_⟩
                rcases h with h | ⟨r, rfl⟩
                · exact h
                · have h2 := hg.ok l.length (by simp)
                  rw [nd_app (l := l ++ [v]) (by simp), nd_last] at h2
                  exact absurd h2.2.2 ho
            refine (ihc _ _ (fun x hx => hcs x (by simp [hx])) hstep).congr fun k hg => ?_
            constructor
            · rintro ((h | h) | ⟨x, hx, h⟩)
              · exact .inl h
              · exact .inr ⟨v, by simp, h⟩
              · exact .inr ⟨x, by simp [hx], h⟩
            · rintro (h | ⟨x, hx, h⟩)
              · exact .inl (.inl h)
              · rcases List.mem_cons.1 hx with rfl | hx
                · exact .inl (.inr h)
                · exact .inr ⟨x, hx, h⟩
        refine (key (candL ns.length) X b (fun v hv => cand_mem.1 hv) hb).congr fun k hg => ?_
        constructor
        · rintro (h | ⟨v, _, r, h⟩)
          · exact .inl h
          · exact .inr ⟨[v] ++ r, by rw [← h, List.append_assoc]⟩
        · rintro (h | ⟨r, h⟩)
          · exact .inl h
          · cases r with
            | nil => rw [List.append_nil] at h; exact absurd (by rw [h]; exact hg.len) hl
            | cons v r =>
              have h2 := hg.ok l.length (by rw [← h]; simp)
              have e : nd k l.length = v := by
                rw [← h, show l ++ v :: r = (l ++ [v]) ++ r by simp, nd_app (l := l ++ [v]) (by simp), nd_last]
              rw [e] at h2
              exact .inr ⟨v, cand_mem.2 ⟨h2.1, h2.2.1⟩, r, by rw [← h]; simp⟩
/-- what the search finds -/
def bestPl (st : List ReelD) (ns : List (Int × Int)) : Option PlT := dfsP st ns (st.length + 1) [] none
theorem bestPl_ok (st : List ReelD) (ns : List (Int × Int)) : BestP st ns (fun _ => True) (bestPl st ns) := by
  have h0 : BestP st ns (fun _ => False) (none : Option PlT) := ⟨fun _ l h => h.elim, fun y h => (by cases h), fun y h => (by cases h)⟩
  exact (dfs_best (st.length + 1) [] _ none (by simp) (fun i h => by simp at h) h0).congr fun k _ => ⟨fun _ => trivial, fun _ => .inr ⟨k, by simp⟩⟩
end
end Go.Rl
