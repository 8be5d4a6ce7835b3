/- Plain laws of copies and zones: each copy has its part, each zone its copies; conditions: none. -/
import Derived.Test.YtokdleanpkkdpaaSpec6
set_option linter.unusedSimpArgs false
set_option linter.unusedVariables false
namespace Go.Ed
/-- the i-th number of a list, below n -/
def dig (l : List Nat) (i n : Nat) : Int := ((l.getD i 0 % n : Nat) : Int)
theorem dig_bd (l : List Nat) (i : Nat) {n : Nat} (hn : 0 < n) : 0 ≤ dig l i n ∧ dig l i n < n := by
  unfold dig
  have := Nat.mod_lt (l.getD i 0) hn
  omega
def colM (l : List Nat) (i : Nat) : Nat → List Int
  | 0 => []
  | k + 1 => colM l i k ++ [1 + 3 * dig l (i + k) 2]
/-- pairs: from page p on; colours and pairs so far, and the next number's place -/
def pairM (l : List Nat) (n : Nat) : Nat → Nat → Nat → List Int → List Int → List Int × List Int × Nat
  | 0, _, i, c, q => (c, q, i)
  | fuel + 1, p, i, c, q => if p + 1 < n then pairM l n fuel (p + 2 + (dig l i 3).toNat) (i + 1) (c.set (p + 1) (c.getD p 0)) (q ++ [(p : Int)]) else (c, q, i)
def varM (l : List Nat) (i : Nat) : Nat → List Int
  | 0 => []
  | k + 1 => varM l i k ++ [dig l (i + k) 5 / 3]
def dueM (l : List Nat) (i : Nat) : Int × Nat := if dig l i 3 = 0 then (60 + 8 * dig l (i + 1) 256, i + 2) else (86400, i + 1)
def zonM (l : List Nat) (n : Nat) (i : Nat) : ZonD × Nat := (⟨1 + dig l i 200, (dueM l (i + 1)).1, varM l (dueM l (i + 1)).2 n⟩, (dueM l (i + 1)).2 + n)
def zonsM (l : List Nat) (n : Nat) (i : Nat) : Nat → List ZonD × Nat
  | 0 => ([], i)
  | k + 1 => ((zonsM l n i k).1 ++ [(zonM l n (zonsM l n i k).2).1], (zonM l n (zonsM l n i k).2).2)
def rdyM (l : List Nat) (i : Nat) : Nat → List (Int × Int × Int) × Nat
  | 0 => ([], i)
  | k + 1 => if dig l (rdyM l i k).2 3 = 0 then ((rdyM l i k).1 ++ [((k : Int), dig l ((rdyM l i k).2 + 1) 2, 10 * dig l ((rdyM l i k).2 + 2) 60)], (rdyM l i k).2 + 3) else ((rdyM l i k).1, (rdyM l i k).2 + 1)
def pagesM (l : List Nat) : Nat := 2 + (dig l 4 5).toNat
def pairsM (l : List Nat) : List Int × List Int × Nat := pairM l (pagesM l) 7 (dig l (5 + pagesM l) 3).toNat (6 + pagesM l) (colM l 5 (pagesM l)) []
def zonesM (l : List Nat) : List ZonD × Nat := zonsM l (pagesM l) ((pairsM l).2.2 + 1) (1 + (dig l (pairsM l).2.2 7).toNat)
def madeT (l : List Nat) : TitD := ⟨(pairsM l).1, (pairsM l).2.1, (zonesM l).1, (rdyM l (zonesM l).2 (pagesM l)).1, 10 * dig l 3 30, 20 + dig l 0 200, dig l 1 60, dig l 2 20⟩
theorem getD_set_ne {c : List Int} {k j : Nat} {v : Int} (h : k ≠ j) : (c.set k v).getD j 0 = c.getD j 0 := by
  simp [List.getD_eq_getElem?_getD, List.getElem?_set_ne h]
theorem getD_set_self {c : List Int} {k : Nat} {v : Int} (h : k < c.length) : (c.set k v).getD k 0 = v := by
  simp [List.getD_eq_getElem?_getD, h]
theorem colM_len (l : List Nat) (i k : Nat) : (colM l i k).length = k := by
  induction k with
  | zero => rfl
  | succ k ih => simp [colM, ih]
theorem colM_mem (l : List Nat) (i k : Nat) : ∀ c ∈ colM l i k, c = 1 ∨ c = 4 := by
  induction k with
  | zero => intro c hc; simp [colM] at hc
  | succ k ih =>
    intro c hc
    simp only [colM, List.mem_append, List.mem_singleton] at hc
    rcases hc with hc | hc
    · exact ih c hc
    · have := dig_bd l (i + k) (n := 2) (by omega); omega
theorem pagesM_bd (l : List Nat) : 2 ≤ pagesM l ∧ pagesM l ≤ 6 := by
  unfold pagesM
  have := dig_bd l 4 (n := 5) (by omega)
  omega
theorem varM_len (l : List Nat) (i k : Nat) : (varM l i k).length = k := by
  induction k with
  | zero => rfl
  | succ k ih => simp [varM, ih]
theorem varM_mem (l : List Nat) (i k : Nat) : ∀ c ∈ varM l i k, c = 0 ∨ c = 1 := by
  induction k with
  | zero => intro c hc; simp [varM] at hc
  | succ k ih =>
    intro c hc
    simp only [varM, List.mem_append, List.mem_singleton] at hc
    rcases hc with hc | hc
    · exact ih c hc
    · have := dig_bd l (i + k) (n := 5) (by omega); omega
/-- what the pairs so far are: below p, and right -/
structure PairOk (n p : Nat) (c q : List Int) : Prop where
  len : c.length = n
  mem : ∀ x ∈ c, x = 1 ∨ x = 4
  low : ∀ x ∈ q, 0 ≤ x ∧ x + 2 ≤ (p : Int) ∧ x + 1 < (n : Int) ∧ c.getD x.toNat 0 = c.getD (x.toNat + 1) 0
  apart : ∀ k (h : k < q.length) j (hj : j < k), q[j]'(by omega) + 2 ≤ q[k]
  few : q.length ≤ p
theorem pairM_ok (l : List Nat) (n : Nat) : ∀ fuel p i c q, PairOk n p c q → ∃ p', PairOk n p' (pairM l n fuel p i c q).1 (pairM l n fuel p i c q).2.1 := by
  intro fuel
  induction fuel with
  | zero => intro p i c q h; exact ⟨p, h⟩
  | succ fuel ih =>
    intro p i c q h
    unfold pairM
    by_cases hp : p + 1 < n
    · rw [if_pos hp]
      refine ih _ _ _ _ ?_
      have hgp : c.getD p 0 = c[p]'(by rw [h.len]; omega) := by simp [show p < c.length by rw [h.len]; omega]
      refine ⟨by simp [h.len], ?_, ?_, ?_, ?_⟩
      · intro x hx
        rcases List.mem_or_eq_of_mem_set hx with h1 | h1
        · exact h.mem x h1
        · rw [h1, hgp]; exact h.mem _ (List.getElem_mem _)
      · intro x hx
        rw [List.mem_append, List.mem_singleton] at hx
        rcases hx with hx | rfl
        · obtain ⟨a1, a2, a3, a4⟩ := h.low x hx
          refine ⟨a1, by omega, a3, ?_⟩
          rw [getD_set_ne (by omega), getD_set_ne (by omega)]
          exact a4
        · refine ⟨by omega, by omega, by omega, ?_⟩
          simp only [Int.toNat_natCast]
          rw [getD_set_ne (by omega), getD_set_self (by rw [h.len]; omega)]
      · intro k hk j hj
        simp only [List.length_append, List.length_singleton] at hk
        by_cases e : k = q.length
        · subst e
          rw [List.getElem_append_left (by omega), List.getElem_append_right (by omega)]
          simp only [Nat.sub_self, List.getElem_cons_zero]
          exact (h.low _ (List.getElem_mem _)).2.1
        · rw [List.getElem_append_left (by omega), List.getElem_append_left (by omega)]
          exact h.apart k (by omega) j hj
      · have := h.few; simp; omega
    · rw [if_neg hp]; exact ⟨p, h⟩
theorem pairsM_ok (l : List Nat) : ∃ p, PairOk (pagesM l) p (pairsM l).1 (pairsM l).2.1 := by
  unfold pairsM
  exact pairM_ok l _ _ _ _ _ _ ⟨colM_len _ _ _, colM_mem _ _ _, fun x hx => absurd hx (by simp), fun k h => absurd h (by simp), Nat.zero_le _⟩
theorem paired_ok {n p : Nat} {t : TitD} (h : PairOk n p t.colours t.pairs) : pairedB t = true := by
  unfold pairedB
  rw [List.all_eq_true]
  intro k hk
  have hk' := List.mem_range.1 hk
  have hg : t.pairs.getD k 0 = t.pairs[k] := by simp [hk']
  obtain ⟨a1, a2, a3, a4⟩ := h.low _ (List.getElem_mem hk')
  unfold pairAt
  rw [hg]
  simp only [Bool.and_eq_true, Bool.not_eq_true', beq_iff_eq]
  refine ⟨⟨inB_iff.2 ⟨a1, by rw [h.len]; omega⟩, ?_⟩, a4⟩
  rw [List.any_eq_false]
  intro x hx
  obtain ⟨j, hj, rfl⟩ := List.getElem_of_mem hx
  rw [List.length_take] at hj
  rw [List.getElem_take]
  have := h.apart k hk' j (by omega)
  simp only [Bool.or_eq_true, beq_iff_eq]
  omega
theorem pairs_few {n p : Nat} {c q : List Int} (h : PairOk n p c q) : q.length ≤ n := by
  have key : ∀ k (hk : k < q.length), (k : Int) ≤ q[k] := by
    intro k
    induction k with
    | zero => intro hk; exact (h.low _ (List.getElem_mem hk)).1
    | succ k ih => intro hk; have := ih (by omega); have := h.apart (k + 1) hk k (by omega); omega
  rcases Nat.eq_zero_or_pos q.length with e | e
  · omega
  · have := key (q.length - 1) (by omega)
    have := (h.low _ (List.getElem_mem (show q.length - 1 < q.length by omega))).2.2.1
    omega
/-- a zone that is made -/
structure ZonOk (n : Nat) (z : ZonD) : Prop where
  lo : 1 ≤ z.copies
  hi : z.copies ≤ 200
  due0 : 60 ≤ z.due
  due1 : z.due ≤ 86400
  len : z.variants.length = n
  mem : ∀ v ∈ z.variants, v = 0 ∨ v = 1
theorem zonM_ok (l : List Nat) (n i : Nat) : ZonOk n (zonM l n i).1 := by
  have h1 := dig_bd l i (n := 200) (by omega)
  have hd : 60 ≤ (dueM l (i + 1)).1 ∧ (dueM l (i + 1)).1 ≤ 86400 := by
    unfold dueM
    have := dig_bd l (i + 1 + 1) (n := 256) (by omega)
    split <;> simp only <;> omega
  exact ⟨by simp only [zonM]; omega, by simp only [zonM]; omega, hd.1, hd.2, varM_len _ _ _, varM_mem _ _ _⟩
theorem zonsM_ok (l : List Nat) (n i k : Nat) : (zonsM l n i k).1.length = k ∧ ∀ z ∈ (zonsM l n i k).1, ZonOk n z := by
  induction k with
  | zero => simp [zonsM]
  | succ k ih =>
    refine ⟨by simp [zonsM, ih.1], fun z hz => ?_⟩
    simp only [zonsM, List.mem_append, List.mem_singleton] at hz
    rcases hz with hz | rfl
    · exact ih.2 z hz
    · exact zonM_ok _ _ _
theorem rdyM_ok (l : List Nat) (i k : Nat) : (rdyM l i k).1.length ≤ k ∧ (∀ r ∈ (rdyM l i k).1, 0 ≤ r.1 ∧ r.1 < (k : Int) ∧ 0 ≤ r.2.1 ∧ r.2.1 ≤ 1 ∧ 0 ≤ r.2.2 ∧ r.2.2 ≤ 590) ∧ ((rdyM l i k).1.map (·.1)).Nodup := by
  induction k with
  | zero => simp [rdyM]
  | succ k ih =>
    obtain ⟨h1, h2, h3⟩ := ih
    unfold rdyM
    split
    · refine ⟨by simp; omega, ?_, ?_⟩
      · intro r hr
        rw [List.mem_append, List.mem_singleton] at hr
        have b1 := dig_bd l ((rdyM l i k).2 + 1) (n := 2) (by omega)
        have b2 := dig_bd l ((rdyM l i k).2 + 2) (n := 60) (by omega)
        rcases hr with hr | rfl
        · have := h2 r hr; omega
        · simp only; omega
      · simp only [List.map_append, List.map_cons, List.map_nil]
        rw [List.nodup_append]
        refine ⟨h3, by simp, ?_⟩
        intro a ha b hb
        simp at hb
        subst hb
        obtain ⟨r, hr, rfl⟩ := List.mem_map.1 ha
        have := h2 r hr
        intro e
        have e' : r.1 = (k : Int) := e
        omega
    · exact ⟨by simp only; omega, fun r hr => by have := h2 r hr; omega, h3⟩
theorem firstErr_of {f : Nat → Int} {n : Nat} (h : ∀ i, i < n → f i = 0) : firstErr f n = 0 := by
  induction n with
  | zero => rfl
  | succ n ih => exact firstErr_go (ih fun i hi => h i (by omega)) (h n (by omega))
theorem addZ_pos {es : List EdD} {i : Int} {z : ZonD} (h : z.copies ≠ 0) : 0 < (addZ es i z).length := by
  unfold addZ
  rw [if_neg h]
  split
  · rename_i hh
    cases es with
    | nil => simp at hh
    | cons a b => simp
  · simp
theorem madeT_ok (l : List Nat) : checkT (madeT l) = 0 := by
  obtain ⟨p, hp⟩ := pairsM_ok l
  have hpg := pagesM_bd l
  have hpd : pairedB (madeT l) = true := paired_ok (t := madeT l) hp
  have hz := zonsM_ok l (pagesM l) ((pairsM l).2.2 + 1) (1 + (dig l (pairsM l).2.2 7).toNat)
  have hzn := dig_bd l (pairsM l).2.2 (n := 7) (by omega)
  have hr := rdyM_ok l (zonesM l).2 (pagesM l)
  have d0 := dig_bd l 0 (n := 200) (by omega)
  have d1 := dig_bd l 1 (n := 60) (by omega)
  have d2 := dig_bd l 2 (n := 20) (by omega)
  have d3 := dig_bd l 3 (n := 30) (by omega)
  have hcl : (madeT l).colours.length = pagesM l := hp.len
  have hzl : (madeT l).zones.length = 1 + (dig l (pairsM l).2.2 7).toNat := hz.1
  have hrl : (madeT l).ready.length ≤ pagesM l := hr.1
  have e1 : firstErr (fun k => errZ (madeT l) ((madeT l).zones.getD k ⟨0, 0, []⟩)) (madeT l).zones.length = 0 := by
    refine firstErr_of fun k hk => ?_
    have hg : (madeT l).zones.getD k ⟨0, 0, []⟩ = (madeT l).zones[k] := by simp [hk]
    rw [hg]
    have ok := hz.2 _ (List.getElem_mem hk)
    obtain ⟨a1, a2, a3, a4, a5, a6⟩ := ok
    unfold errZ
    have q1 : inB (madeT l).zones[k].copies 0 1000000 = true := inB_iff.2 ⟨by omega, by omega⟩
    have q2 : inB (madeT l).zones[k].due 0 86400 = true := inB_iff.2 ⟨by omega, by omega⟩
    have q3 : ((madeT l).zones[k].variants.any fun v => !inB v 0 9) = false := by
      rw [List.any_eq_false]
      intro v hv
      have := a6 v hv
      have : inB v 0 9 = true := inB_iff.2 ⟨by omega, by omega⟩
      simp [this]
    have q4 : (madeT l).zones[k].variants.length = (madeT l).colours.length := by rw [hcl]; exact a5
    rw [q1, q2, q3, q4]
    simp
  have e2 : firstErr (errR (madeT l)) (madeT l).ready.length = 0 := by
    refine firstErr_of fun k hk => ?_
    have hg : (madeT l).ready.getD k (0, 0, 0) = (madeT l).ready[k] := by simp [hk]
    have ok := hr.2.1 _ (List.getElem_mem hk)
    unfold errR
    rw [hg]
    have q1 : inB (madeT l).ready[k].1 0 (((madeT l).colours.length : Int) - 1) = true := inB_iff.2 ⟨ok.1, by rw [hcl]; have := ok.2.1; exact Int.le_sub_one_of_lt this⟩
    have q2 : inB (madeT l).ready[k].2.1 0 9 = true := inB_iff.2 ⟨ok.2.2.1, by have := ok.2.2.2.1; exact Int.le_trans this (by omega)⟩
    have q3 : inB (madeT l).ready[k].2.2 0 86400 = true := inB_iff.2 ⟨ok.2.2.2.2.1, Int.le_trans ok.2.2.2.2.2 (by omega)⟩
    have q4 : metR (madeT l).ready k (madeT l).ready[k] = false := by
      unfold metR
      rw [List.any_eq_false]
      intro x hx
      obtain ⟨j, hj, rfl⟩ := List.getElem_of_mem hx
      rw [List.length_take] at hj
      rw [List.getElem_take]
      simp only [Bool.and_eq_true, beq_iff_eq, not_and]
      intro h
      exfalso
      have hnd := hr.2.2
      have := (List.pairwise_iff_getElem.1 hnd) j k (by rw [List.length_map]; show j < (madeT l).ready.length; omega) (by rw [List.length_map]; exact hk) (by omega)
      rw [List.getElem_map, List.getElem_map] at this
      exact this h
    show (if (!inB (madeT l).ready[k].1 0 (((madeT l).colours.length : Int) - 1) || (!inB (madeT l).ready[k].2.1 0 9 || !inB (madeT l).ready[k].2.2 0 86400)) = true then 6 else if metR (madeT l).ready k (madeT l).ready[k] = true then 10 else 0) = (0 : Int)
    rw [q1, q2, q3, q4]
    simp
  have e3 : (edsN (madeT l) (madeT l).zones.length).length ≤ 7 := Nat.le_trans (edsN_len _ _) (by rw [hzl]; omega)
  have e4 : 0 < (edsN (madeT l) (madeT l).zones.length).length := by
    rw [hzl, Nat.add_comm]
    unfold edsN
    refine addZ_pos ?_
    have hk : (dig l (pairsM l).2.2 7).toNat < (madeT l).zones.length := by rw [hzl]; omega
    have hg : (madeT l).zones.getD (dig l (pairsM l).2.2 7).toNat ⟨0, 0, []⟩ = (madeT l).zones[(dig l (pairsM l).2.2 7).toNat] := by simp [hk]
    rw [hg]
    have := (hz.2 _ (List.getElem_mem hk)).lo
    exact fun h => by have h2 : (1 : Int) ≤ (madeT l).zones[(dig l (pairsM l).2.2 7).toNat].copies := this; omega
  have c1 : inB ((madeT l).colours.length : Int) 1 64 = true := inB_iff.2 ⟨by rw [hcl]; omega, by rw [hcl]; omega⟩
  have c2 : inB ((madeT l).zones.length : Int) 1 12 = true := inB_iff.2 ⟨by rw [hzl]; omega, by rw [hzl]; omega⟩
  have c3 : ¬ 200 < (madeT l).ready.length := by omega
  have c4 : inB (madeT l).start 0 86400 = true := inB_iff.2 ⟨by show 0 ≤ 10 * dig l 3 30; omega, by show 10 * dig l 3 30 ≤ 86400; omega⟩
  have c5 : inB (madeT l).rate 1 3000 = true := inB_iff.2 ⟨by show 1 ≤ 20 + dig l 0 200; omega, by show 20 + dig l 0 200 ≤ 3000; omega⟩
  have c6 : inB (madeT l).stop 0 3600 = true := inB_iff.2 ⟨by show 0 ≤ dig l 1 60; omega, by show dig l 1 60 ≤ 3600; omega⟩
  have c7 : inB (madeT l).hang 0 3600 = true := inB_iff.2 ⟨by show 0 ≤ dig l 2 20; omega, by show dig l 2 20 ≤ 3600; omega⟩
  have c8 : ((madeT l).colours.any fun c => !inB c 1 4) = false := by
    rw [List.any_eq_false]
    intro v hv
    have := hp.mem v hv
    have : inB v 1 4 = true := inB_iff.2 ⟨by omega, by omega⟩
    simp [this]
  unfold checkT
  rw [c1, c2, c4, c5, c6, c7, c8, hpd, e1, e2, if_neg (show ¬ (edsN (madeT l) (madeT l).zones.length).length = 0 by omega), if_neg (show ¬ 7 < (edsN (madeT l) (madeT l).zones.length).length by omega)]
  simp [c3]
end Go.Ed
namespace Go.Ed
def zon0 : ZonD := ⟨0, 0, []⟩
def copZ (t : TitD) (z : Int) : Int := (t.zones.getD z.toNat zon0).copies
def sumC (t : TitD) (zs : List Int) : Int := (zs.map (copZ t)).sum
/-- zone, first and last copy -/
def partsGo (t : TitD) : Int → List Int → List (Int × Int × Int)
  | _, [] => []
  | n, z :: zs => (z, n, n + copZ t z - 1) :: partsGo t (n + copZ t z) zs
theorem sumC_snoc (t : TitD) (zs : List Int) (z : Int) : sumC t (zs ++ [z]) = sumC t zs + copZ t z := by simp [sumC, List.sum_append]
theorem sumC_cons (t : TitD) (zs : List Int) (z : Int) : sumC t (z :: zs) = copZ t z + sumC t zs := by simp [sumC]
theorem sumC_app (t : TitD) (zs ys : List Int) : sumC t (zs ++ ys) = sumC t zs + sumC t ys := by simp [sumC, List.sum_append]
theorem partsGo_snoc (t : TitD) (z : Int) : ∀ (zs : List Int) (n : Int), partsGo t n (zs ++ [z]) = partsGo t n zs ++ [(z, n + sumC t zs, n + sumC t zs + copZ t z - 1)] := by
  intro zs
  induction zs with
  | nil => intro n; simp [partsGo, sumC]
  | cons y zs ih =>
    intro n
    simp only [List.cons_append, partsGo, ih, sumC_cons]
    simp only [List.cons_append, List.cons.injEq, true_and]
    rw [show n + copZ t y + sumC t zs = n + (copZ t y + sumC t zs) by omega]
theorem partsGo_len (t : TitD) : ∀ (zs : List Int) (n : Int), (partsGo t n zs).length = zs.length := by
  intro zs
  induction zs with
  | nil => intro n; rfl
  | cons y zs ih => intro n; simp [partsGo, ih]
theorem partsGo_get (t : TitD) : ∀ (zs : List Int) (n : Int) (k : Nat) (h : k < zs.length), (partsGo t n zs)[k]'(by rw [partsGo_len]; exact h) = (zs[k], n + sumC t (zs.take k), n + sumC t (zs.take (k + 1)) - 1) := by
  intro zs
  induction zs with
  | nil => intro n k h; simp at h
  | cons y zs ih =>
    intro n k h
    cases k with
    | zero => simp [partsGo, sumC]
    | succ k =>
      simp only [partsGo, List.getElem_cons_succ, List.take_succ_cons, sumC_cons]
      rw [ih (n + copZ t y) k (by simpa using h)]
      simp only [Prod.mk.injEq, true_and]
      constructor <;> omega
def zoneL (es : List EdD) (o : List Nat) : List Int := o.flatMap fun e => (es.getD e ed0).zones
def partsL (t : TitD) (es : List EdD) (o : List Nat) : List (Int × Int × Int) := partsGo t 0 (zoneL es o)
/-- the zones with copies, of the first so many -/
def hasC (t : TitD) (k : Nat) : List Int := ((List.range k).filter fun i => decide ((t.zones.getD i zon0).copies ≠ 0)).map fun (i : Nat) => (i : Int)
theorem addZ_zones (es : List EdD) (hn : (es.map EdD.variants).Nodup) (i : Int) (z : ZonD) (h : z.copies ≠ 0) : ((addZ es i z).flatMap EdD.zones).Perm (es.flatMap EdD.zones ++ [i]) := by
  unfold addZ
  rw [if_neg h]
  split
  · rename_i ha
    clear h
    induction es with
    | nil => simp at ha
    | cons e es ih =>
      simp only [List.map_cons, List.nodup_cons] at hn
      by_cases he : e.variants = z.variants
      · have hrest : (es.map fun e => if (e.variants == z.variants) = true then (⟨e.zones ++ [i], e.copies + z.copies, e.ready, min e.due z.due, e.variants⟩ : EdD) else e) = es := by
          refine (List.map_congr_left fun x hx => ?_).trans (List.map_id _)
          rw [if_neg]
          · rfl
          · intro hxe
            exact hn.1 (List.mem_map.2 ⟨x, hx, by rw [he]; simpa using hxe⟩)
        simp only [List.map_cons, List.flatMap_cons, he, BEq.rfl, if_true]
        rw [hrest]
        simp only [List.append_assoc]
        exact List.Perm.append_left _ List.perm_append_comm
      · have ha' : (es.any fun e => e.variants == z.variants) = true := by
          simp only [List.any_cons, Bool.or_eq_true, beq_iff_eq] at ha
          exact ha.resolve_left he
        have hb : (e.variants == z.variants) = false := by simpa using he
        simp only [List.map_cons, List.flatMap_cons, hb, Bool.false_eq_true, if_false, List.append_assoc]
        exact List.Perm.append_left _ (ih hn.2 ha')
  · simp
theorem edsN_zones (t : TitD) (k : Nat) : ((edsN t k).flatMap EdD.zones).Perm (hasC t k) := by
  induction k with
  | zero => simp [edsN, hasC]
  | succ k ih =>
    unfold edsN
    have hs : hasC t (k + 1) = hasC t k ++ if (t.zones.getD k zon0).copies ≠ 0 then [(k : Int)] else [] := by
      unfold hasC
      rw [List.range_succ, List.filter_append, List.map_append]
      by_cases h : (t.zones.getD k zon0).copies = 0
      · rw [if_neg (fun hn => hn h), List.filter_cons, if_neg (by rw [h]; simp)]; simp
      · rw [if_pos h, List.filter_cons, if_pos (by simpa using h)]; simp
    rw [hs]
    by_cases h : (t.zones.getD k zon0).copies = 0
    · have h' : (t.zones.getD k ⟨0, 0, []⟩).copies = 0 := h
      rw [if_neg (by simpa using h), List.append_nil]
      unfold addZ
      rw [if_pos h']
      exact ih
    · rw [if_pos h]
      exact (addZ_zones _ (edsN_nodup t k) _ _ h).trans (ih.append_right _)
theorem edsR_zones (t : TitD) : ((edsR t).flatMap EdD.zones).Perm (hasC t t.zones.length) := by
  have : (edsR t).flatMap EdD.zones = (edsN t t.zones.length).flatMap EdD.zones := by
    unfold edsR
    rw [List.flatMap_map]
  rw [this]
  exact edsN_zones t _
theorem zoneL_range (es : List EdD) : zoneL es (List.range es.length) = es.flatMap EdD.zones := by
  unfold zoneL
  have : es = (List.range es.length).map fun e => es.getD e ed0 := by
    refine List.ext_getElem (by simp) fun k h1 h2 => ?_
    simp [h1]
  conv => rhs; rw [this]
  rw [List.flatMap_map]
theorem perm_flatMap {α β : Type} (f : α → List β) {l m : List α} (h : l.Perm m) : (l.flatMap f).Perm (m.flatMap f) := by
  induction h with
  | nil => exact .refl _
  | cons x _ ih => simp only [List.flatMap_cons]; exact ih.append_left _
  | swap x y l => simp only [List.flatMap_cons, ← List.append_assoc]; exact List.perm_append_comm.append_right _
  | trans _ _ h1 h2 => exact h1.trans h2
theorem zoneL_perm (t : TitD) {o : List Nat} (h : o.Perm (List.range (edsR t).length)) : (zoneL (edsR t) o).Perm (hasC t t.zones.length) :=
  (perm_flatMap _ h).trans (by have := edsR_zones t; rw [← zoneL_range] at this; exact this)
/-- if all zones have copies, all are there, each once -/
theorem zoneL_all (t : TitD) {o : List Nat} (h : o.Perm (List.range (edsR t).length)) (hc : ∀ z ∈ t.zones, 1 ≤ z.copies) : (zoneL (edsR t) o).Perm ((List.range t.zones.length).map fun (i : Nat) => (i : Int)) := by
  have := zoneL_perm t h
  unfold hasC at this
  rw [List.filter_eq_self.2] at this
  · exact this
  · intro i hi
    have hi' := List.mem_range.1 hi
    have hg : t.zones.getD i zon0 = t.zones[i] := by simp [hi']
    rw [hg]
    have := hc _ (List.getElem_mem hi')
    simp only [decide_eq_true_eq]
    omega
/-- each edition's zones have its variants -/
theorem edsN_vars (t : TitD) (k : Nat) (hk : k ≤ t.zones.length) : ∀ e ∈ edsN t k, ∀ z ∈ e.zones, 0 ≤ z ∧ z < (k : Int) ∧ (t.zones.getD z.toNat zon0).variants = e.variants := by
  induction k with
  | zero => intro e he; simp [edsN] at he
  | succ k ih =>
    have h0 := ih (by omega)
    have h1 : ∀ e ∈ edsN t k, ∀ z ∈ e.zones, 0 ≤ z ∧ z < ((k + 1 : Nat) : Int) ∧ (t.zones.getD z.toNat zon0).variants = e.variants := fun e he z hz => by have := h0 e he z hz; exact ⟨this.1, by omega, this.2.2⟩
    intro e he
    unfold edsN addZ at he
    split at he
    · exact h1 e he
    · split at he
      · obtain ⟨x, hx, rfl⟩ := List.mem_map.1 he
        by_cases hv : (x.variants == (t.zones.getD k ⟨0, 0, []⟩).variants) = true
        · rw [if_pos hv]
          intro z hz
          simp only [List.mem_append, List.mem_singleton] at hz
          rcases hz with hz | rfl
          · exact h1 x hx z hz
          · refine ⟨by omega, by omega, ?_⟩
            simp only [Int.toNat_natCast]
            exact (eq_of_beq hv).symm
        · rw [if_neg hv]; exact h1 x hx
      · rw [List.mem_append, List.mem_singleton] at he
        rcases he with he | rfl
        · exact h1 e he
        · intro z hz
          simp only [List.mem_singleton] at hz
          subst hz
          exact ⟨by omega, by omega, rfl⟩
theorem edsR_vars (t : TitD) : ∀ e ∈ edsR t, ∀ z ∈ e.zones, 0 ≤ z ∧ z < (t.zones.length : Int) ∧ (t.zones.getD z.toNat zon0).variants = e.variants := by
  intro e he
  unfold edsR at he
  obtain ⟨x, hx, rfl⟩ := List.mem_map.1 he
  exact edsN_vars t _ (Nat.le_refl _) x hx
end Go.Ed
namespace Go.Ed
/-- the numbers below k, each laid in at the place that the next number says -/
def permM (l : List Nat) : Nat → List Nat
  | 0 => []
  | k + 1 => (permM l k).insertIdx (dig l k (k + 1)).toNat k
theorem permM_len (l : List Nat) (k : Nat) : (permM l k).length = k := by
  induction k with
  | zero => rfl
  | succ k ih =>
    unfold permM
    have := dig_bd l k (n := k + 1) (by omega)
    rw [List.length_insertIdx_of_le_length (by omega), ih]
theorem permM_perm (l : List Nat) (k : Nat) : (permM l k).Perm (List.range k) := by
  induction k with
  | zero => exact List.Perm.refl _
  | succ k ih =>
    unfold permM
    have := dig_bd l k (n := k + 1) (by omega)
    have hl := permM_len l k
    refine (List.perm_insertIdx k (permM l k) (by omega)).trans ?_
    rw [List.range_succ]
    exact ((List.Perm.cons k ih).trans (List.perm_append_singleton _ _).symm)
theorem orders_perm {n : Nat} {o : List Nat} (h : o.Perm (List.range n)) : ordersB n (o.map fun (e : Nat) => (e : Int)) = true := by
  have hl : o.length = n := by rw [h.length_eq, List.length_range]
  have hm : ∀ e ∈ o, e < n := fun e he => List.mem_range.1 (h.mem_iff.1 he)
  have hd : o.Nodup := h.nodup_iff.2 List.nodup_range
  have hdi : (o.map fun (e : Nat) => (e : Int)).Nodup := List.Pairwise.map _ (fun a b hab => fun e => hab (Int.ofNat.inj e)) hd
  unfold ordersB
  simp only [Bool.and_eq_true, decide_eq_true_eq]
  refine ⟨⟨by rw [List.length_map, hl], ?_⟩, hdi⟩
  rw [List.all_eq_true]
  intro e he
  obtain ⟨k, hk, rfl⟩ := List.mem_map.1 he
  have := hm k hk
  exact inB_iff.2 ⟨by omega, by omega⟩
theorem permM_orders (l : List Nat) (n : Nat) : ordersB n ((permM l n).map fun (e : Nat) => (e : Int)) = true := orders_perm (permM_perm l n)
end Go.Ed
namespace Go.Ed
theorem sumC_take_le (t : TitD) {zs : List Int} (h : ∀ z ∈ zs, 0 ≤ copZ t z) (k : Nat) : 0 ≤ sumC t (zs.take k) ∧ sumC t (zs.take k) ≤ sumC t zs := by
  have h1 : ∀ l : List Int, (∀ z ∈ l, 0 ≤ copZ t z) → 0 ≤ sumC t l := by
    intro l
    induction l with
    | nil => intro _; simp [sumC]
    | cons x l ih => intro hl; rw [sumC_cons]; have := hl x (by simp); have := ih (fun z hz => hl z (by simp [hz])); omega
  have h2 := sumC_app t (zs.take k) (zs.drop k)
  rw [List.take_append_drop] at h2
  have h3 := h1 (zs.take k) (fun z hz => h z (List.mem_of_mem_take hz))
  have h4 := h1 (zs.drop k) (fun z hz => h z (List.mem_of_mem_drop hz))
  omega
theorem copy_find (t : TitD) : ∀ (zs : List Int) (n k : Int), n ≤ k → k < n + sumC t zs → ∃ p ∈ partsGo t n zs, p.2.1 ≤ k ∧ k ≤ p.2.2 := by
  intro zs
  induction zs with
  | nil => intro n k h1 h2; simp [sumC] at h2; omega
  | cons z zs ih =>
    intro n k h1 h2
    rw [sumC_cons] at h2
    by_cases h : k < n + copZ t z
    · exact ⟨_, List.mem_cons_self, by dsimp only; omega, by dsimp only; omega⟩
    · obtain ⟨p, hp, h3⟩ := ih (n + copZ t z) k (by omega) (by omega)
      exact ⟨p, List.mem_cons_of_mem _ hp, h3⟩
theorem copy_none (t : TitD) {zs : List Int} (h : ∀ z ∈ zs, 0 ≤ copZ t z) : ∀ p ∈ partsGo t 0 zs, p.2.2 < sumC t zs := by
  intro p hp
  obtain ⟨k, hk, rfl⟩ := List.mem_iff_getElem.1 hp
  have hk' : k < zs.length := by rw [partsGo_len] at hk; exact hk
  rw [partsGo_get t zs 0 k hk']
  have := (sumC_take_le t h (k + 1)).2
  dsimp only
  omega
/-- copies that zones have got -/
def gotL (t : TitD) (zs : List Int) (g : List Int) : List Int := zs.foldl (fun g z => g.set z.toNat (g.getD z.toNat 0 + copZ t z)) g
theorem gotL_len (t : TitD) (zs : List Int) : ∀ g : List Int, (gotL t zs g).length = g.length := by
  induction zs with
  | nil => intro g; rfl
  | cons z zs ih => intro g; show (gotL t zs _).length = _; rw [ih]; simp
theorem gotL_snoc (t : TitD) (zs : List Int) (z : Int) (g : List Int) : gotL t (zs ++ [z]) g = (gotL t zs g).set z.toNat ((gotL t zs g).getD z.toNat 0 + copZ t z) := by unfold gotL; simp
theorem gotL_get (t : TitD) (zs : List Int) : ∀ g : List Int, zs.Nodup → (∀ z ∈ zs, 0 ≤ z ∧ z < (g.length : Int)) → ∀ i : Nat, i < g.length → (gotL t zs g).getD i 0 = g.getD i 0 + if (i : Int) ∈ zs then copZ t i else 0 := by
  induction zs with
  | nil => intro g _ _ i _; simp [gotL]
  | cons z zs ih =>
    intro g hd hm i hi
    have hz := hm z (by simp)
    rw [List.nodup_cons] at hd
    show (gotL t zs (g.set z.toNat (g.getD z.toNat 0 + copZ t z))).getD i 0 = _
    rw [ih _ hd.2 (fun y hy => by have := hm y (by simp [hy]); simpa using this) i (by simpa using hi)]
    by_cases h : (i : Int) = z
    · subst h
      have h1 : (i : Int).toNat = i := by simp
      rw [h1, if_neg hd.1, if_pos (by simp)]
      simp [List.getD_eq_getElem?_getD, hi]
    · have h1 : z.toNat ≠ i := by omega
      have h2 : (g.set z.toNat (g.getD z.toNat 0 + copZ t z)).getD i 0 = g.getD i 0 := by simp [List.getD_eq_getElem?_getD, List.getElem?_set_ne h1]
      rw [h2]
      simp only [List.mem_cons, h, false_or]
/-- all zones get their copies -/
theorem gotL_all (t : TitD) {zs : List Int} (h : zs.Perm ((List.range t.zones.length).map fun (i : Nat) => (i : Int))) {i : Nat} (hi : i < t.zones.length) : (gotL t zs (List.replicate t.zones.length 0)).getD i 0 = (t.zones.getD i zon0).copies := by
  have hd : zs.Nodup := h.nodup_iff.2 (List.Pairwise.map _ (fun a b hab => fun e => hab (Int.ofNat.inj e)) List.nodup_range)
  have hm : ∀ z, z ∈ zs ↔ ∃ k : Nat, k < t.zones.length ∧ (k : Int) = z := by
    intro z
    rw [h.mem_iff, List.mem_map]
    constructor
    · rintro ⟨k, hk, rfl⟩; exact ⟨k, List.mem_range.1 hk, rfl⟩
    · rintro ⟨k, hk, rfl⟩; exact ⟨k, List.mem_range.2 hk, rfl⟩
  rw [gotL_get t zs _ hd (fun z hz => by obtain ⟨k, hk, rfl⟩ := (hm z).1 hz; simp; omega) i (by simpa using hi), if_pos ((hm _).2 ⟨i, hi, rfl⟩)]
  simp [List.getD_eq_getElem?_getD, hi, copZ]
theorem sum_pos_copies (t : TitD) {zs : List Int} (h : ∀ z ∈ zs, 1 ≤ copZ t z) (hn : zs ≠ []) : 1 ≤ sumC t zs := by
  cases zs with
  | nil => exact absurd rfl hn
  | cons z zs =>
    rw [sumC_cons]
    have h1 := h z (by simp)
    have := (sumC_take_le t (zs := zs) (fun y hy => by have := h y (by simp [hy]); omega) 0).2
    simp [sumC] at this
    unfold sumC
    omega
end Go.Ed
