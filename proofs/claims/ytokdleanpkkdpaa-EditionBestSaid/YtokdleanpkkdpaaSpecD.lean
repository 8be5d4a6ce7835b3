/- Plain laws of the reference: whole minutes; orders by search; conditions: none. -/
import Derived.Test.YtokdleanpkkdpaaSpec6
set_option linter.unusedSimpArgs false
set_option linter.unusedVariables false
namespace Go.Ed
/-- a title whose page and variant is ready at a second -/
def rdyW (l : List (Int × Int × Int)) (p v a : Int) : List (Int × Int × Int) := (l.filter fun r => !(r.1 == p && r.2.1 == v)) ++ [(p, v, a)]
def withT (t : TitD) (p v a : Int) : TitD := ⟨t.colours, t.pairs, t.zones, rdyW t.ready p v a, t.start, t.rate, t.stop, t.hang⟩
theorem edsN_zones_only {t t' : TitD} (h : t.zones = t'.zones) (k : Nat) : edsN t k = edsN t' k := by
  induction k with
  | zero => rfl
  | succ k ih => simp only [edsN]; rw [ih, h]
theorem stepE_like {t t' : TitD} (h1 : t.colours = t'.colours) (h2 : t.pairs = t'.pairs) (h3 : t.start = t'.start) (h4 : t.rate = t'.rate) (h5 : t.stop = t'.stop) (h6 : t.hang = t'.hang) (es : List EdD) : stepE t es = stepE t' es := by
  obtain ⟨a, b, c, d, e, f, g, i⟩ := t
  obtain ⟨a', b', c', d', e', f', g', i'⟩ := t'
  simp only at h1 h2 h3 h4 h5 h6
  subst h1 h2 h3 h4 h5 h6
  rfl
theorem runE_with (t : TitD) (p v a : Int) (es : List EdD) (o : List Nat) : runE (withT t p v a) es o = runE t es o := by
  unfold runE
  rw [stepE_like (t := withT t p v a) (t' := t) rfl rfl rfl rfl rfl rfl]
theorem readyN_app (l : List (Int × Int × Int)) (x : Int × Int × Int) (v : List Int) (k : Nat) (h : k ≤ l.length) : readyN (l ++ [x]) v k = readyN l v k := by
  induction k with
  | zero => rfl
  | succ k ih =>
    have e : (l ++ [x]).getD k (0, 0, 0) = l.getD k (0, 0, 0) := by simp [List.getD_eq_getElem?_getD, List.getElem?_append_left (show k < l.length by omega)]
    simp only [readyN]
    rw [e, ih (by omega)]
theorem readyN_last (l : List (Int × Int × Int)) (x : Int × Int × Int) (v : List Int) : readyN (l ++ [x]) v (l ++ [x]).length = if v.getD x.1.toNat (-1) = x.2.1 then max (readyN l v l.length) x.2.2 else readyN l v l.length := by
  rw [List.length_append, List.length_singleton]
  simp only [readyN]
  rw [readyN_app l x v _ (Nat.le_refl _)]
  have e : (l ++ [x]).getD l.length (0, 0, 0) = x := by simp [List.getD_eq_getElem?_getD]
  rw [e]
theorem later_of_ready {t t' : TitD} (hz : t.zones = t'.zones) (h : ∀ v, readyN t.ready v t.ready.length ≤ readyN t'.ready v t'.ready.length) : Later (edsR t) (edsR t') := by
  unfold edsR
  rw [← hz, edsN_zones_only hz]
  refine ⟨by simp, fun e => ?_⟩
  by_cases he : e < (edsN t' t.zones.length).length
  · have e1 : ∀ f : EdD → EdD, ((edsN t' t.zones.length).map f).getD e ed0 = f (edsN t' t.zones.length)[e] := by intro f; simp [he]
    rw [e1, e1]
    exact ⟨rfl, rfl, rfl, h _⟩
  · have e1 : ∀ f : EdD → EdD, ((edsN t' t.zones.length).map f).getD e ed0 = ed0 := by intro f; rw [List.getD_eq_getElem?_getD, List.getElem?_map, List.getElem?_eq_none (Nat.le_of_not_lt he)]; rfl
    rw [e1, e1]
    exact ⟨rfl, rfl, rfl, Int.le_refl _⟩
theorem with_later (t : TitD) (p v : Int) {a b : Int} (h : a ≤ b) : Later (edsR (withT t p v a)) (edsR (withT t p v b)) := by
  refine later_of_ready (t := withT t p v a) (t' := withT t p v b) rfl fun vs => ?_
  show readyN (rdyW t.ready p v a) vs (rdyW t.ready p v a).length ≤ readyN (rdyW t.ready p v b) vs (rdyW t.ready p v b).length
  unfold rdyW
  rw [readyN_last, readyN_last]
  dsimp only
  split <;> omega
/-- whether an order is in time if a page is ready at a second -/
def inTW (t : TitD) (o : List Nat) (p v a : Int) : Bool := !(runE t (edsR (withT t p v a)) o).2.2
theorem inTW_mono {t : TitD} {o : List Nat} {p v a b : Int} (h : a ≤ b) (hb : inTW t o p v b = true) : inTW t o p v a = true := by
  unfold inTW at *
  have := (runE_later (t := t) (with_later t p v h) o).2.2
  cases h1 : (runE t (edsR (withT t p v a)) o).2.2
  · rfl
  · rw [this h1] at hb; exact hb
theorem inTW_anti {t : TitD} {o : List Nat} {p v a b : Int} (h : a ≤ b) (ha : inTW t o p v a = false) : inTW t o p v b = false := by
  cases hb : inTW t o p v b
  · rfl
  · rw [inTW_mono h hb] at ha; cases ha
/-- what a search for the latest second finds -/
def LatI (t : TitD) (o : List Nat) (p v n : Int) : Prop := 0 ≤ n ∧ n ≤ 86400 ∧ inTW t o p v n = true ∧ ∀ m, n < m → m ≤ 86400 → inTW t o p v m = false
theorem latI_iff {t : TitD} {o : List Nat} {p v n a : Int} (h : LatI t o p v n) (ha : a ≤ 86400) : inTW t o p v a = true ↔ a ≤ n := by
  constructor
  · intro hi
    by_cases hn : a ≤ n
    · exact hn
    · rw [h.2.2.2 a (by omega) ha] at hi; cases hi
  · intro hi; exact inTW_mono hi h.2.2.1
theorem latI_uniq {t : TitD} {o : List Nat} {p v n m : Int} (h : LatI t o p v n) (k : LatI t o p v m) : n = m := by
  have h1 := (latI_iff h k.2.1).1 k.2.2.1
  have h2 := (latI_iff k h.2.1).1 h.2.2.1
  omega
/-- a press that is faster, and pages that are ready earlier -/
structure Quick (t t' : TitD) : Prop where
  cols : t.colours = t'.colours
  pairs : t.pairs = t'.pairs
  start : t.start = t'.start
  stop : t.stop = t'.stop
  hang : t.hang = t'.hang
  r1 : 1 ≤ t.rate
  rate : t.rate ≤ t'.rate
theorem ceil_le {n r r' : Int} (hn : 0 ≤ n) (h1 : 1 ≤ r) (h : r ≤ r') : (n + r' - 1) / r' ≤ (n + r - 1) / r := by
  have e : ∀ q : Int, 1 ≤ q → (n + q - 1) / q * q ≤ n + q - 1 ∧ n + q - 1 < (n + q - 1) / q * q + q := by
    intro q hq
    have a := Int.mul_ediv_add_emod (n + q - 1) q
    have b := Int.emod_nonneg (n + q - 1) (show q ≠ 0 by omega)
    have c := Int.emod_lt_of_pos (n + q - 1) (show 0 < q by omega)
    have d : (n + q - 1) / q * q = q * ((n + q - 1) / q) := Int.mul_comm _ _
    omega
  obtain ⟨a, ha⟩ : ∃ a, a = (n + r - 1) / r := ⟨_, rfl⟩
  obtain ⟨b, hb⟩ : ∃ b, b = (n + r' - 1) / r' := ⟨_, rfl⟩
  have e1 := e r h1
  have e2 := e r' (by omega)
  rw [← ha] at e1 ⊢
  rw [← hb] at e2 ⊢
  rcases Int.lt_or_le a b with hlt | hle
  · exfalso
    -- n ≤ a * r ≤ a * r'; b * r' ≤ n + r' - 1 < (a + 1) * r'
    have h0 : 0 ≤ a := by rw [ha]; exact Int.ediv_nonneg (by omega) (by omega)
    have h2 : a * r ≤ a * r' := Int.mul_le_mul_of_nonneg_left h h0
    have h3 : (a + 1) * r' ≤ b * r' := Int.mul_le_mul_of_nonneg_right (by omega) (by omega)
    rw [Int.add_mul] at h3
    omega
  · exact hle
theorem quick_slot {t t' : TitD} {es es' : List EdD} (q : Quick t t') (h : Later es' es) (hc : ∀ e, 0 ≤ (es.getD e ed0).copies) {l l' : Option SloD} {e : Nat} (hl : (l = none ∧ l' = none) ∨ ∃ s s', l = some s ∧ l' = some s' ∧ s.edition = s'.edition ∧ s'.fin ≤ s.fin) :
    (slotE t' es' l' e).edition = (slotE t es l e).edition ∧ (slotE t' es' l' e).plates = (slotE t es l e).plates ∧ (slotE t' es' l' e).fin ≤ (slotE t es l e).fin := by
  obtain ⟨h1, h2, h3, h4⟩ := h.2 e
  have hcl := ceil_le (n := 60 * (es.getD e ed0).copies) (by have := hc e; omega) q.r1 q.rate
  have hB : ∀ g, platesB t' g = platesB t g := fun g => by unfold platesB; rw [q.cols, q.pairs]
  rcases hl with ⟨rfl, rfl⟩ | ⟨s, s', rfl, rfl, he, hf⟩
  · refine ⟨rfl, hB _, ?_⟩
    show endOf t' _ _ ≤ endOf t _ _
    unfold endOf
    rw [h1, q.start]
    omega
  · have hv := changeB_vars t' (h.2 s'.edition.toNat).2.2.1 h3
    have hv2 : changeB t' (es'.getD s'.edition.toNat ed0) (es'.getD e ed0) = changeB t (es.getD s.edition.toNat ed0) (es.getD e ed0) := by
      rw [hv, he]; exact hB _
    refine ⟨rfl, hv2, ?_⟩
    show endOf t' _ (max s'.fin _ + t'.stop + changeB t' _ _ * t'.hang) ≤ endOf t _ (max s.fin _ + t.stop + changeB t _ _ * t.hang)
    rw [hv2, q.stop, q.hang]
    unfold endOf
    rw [h1]
    omega
theorem quick_run {t t' : TitD} {es es' : List EdD} (q : Quick t t') (h : Later es' es) (hc : ∀ e, 0 ≤ (es.getD e ed0).copies) (o : List Nat) :
    ((runE t es o).2.1 = none ∧ (runE t' es' o).2.1 = none) ∨ ∃ s s', (runE t es o).2.1 = some s ∧ (runE t' es' o).2.1 = some s' ∧ s.edition = s'.edition ∧ s'.fin ≤ s.fin ∧ s'.plates = s.plates := by
  have key : ∀ (r : List Nat) (st st' : RunS), ((st.2.1 = none ∧ st'.2.1 = none) ∨ ∃ s s', st.2.1 = some s ∧ st'.2.1 = some s' ∧ s.edition = s'.edition ∧ s'.fin ≤ s.fin ∧ s'.plates = s.plates) →
      (((r.foldl (stepE t es) st).2.1 = none ∧ (r.foldl (stepE t' es') st').2.1 = none) ∨ ∃ s s', (r.foldl (stepE t es) st).2.1 = some s ∧ (r.foldl (stepE t' es') st').2.1 = some s' ∧ s.edition = s'.edition ∧ s'.fin ≤ s.fin ∧ s'.plates = s.plates) := by
    intro r
    induction r with
    | nil => intro st st' b; exact b
    | cons e r ih =>
      intro st st' b
      have b' : (st.2.1 = none ∧ st'.2.1 = none) ∨ ∃ s s', st.2.1 = some s ∧ st'.2.1 = some s' ∧ s.edition = s'.edition ∧ s'.fin ≤ s.fin := by
        rcases b with b | ⟨s, s', x, y, z, u, _⟩
        · exact .inl b
        · exact .inr ⟨s, s', x, y, z, u⟩
      obtain ⟨q1, q2, q3⟩ := quick_slot q h hc (e := e) b'
      rw [List.foldl_cons, List.foldl_cons]
      exact ih _ _ (.inr ⟨_, _, rfl, rfl, q1.symm, q3, q2⟩)
  exact key o _ _ (.inl ⟨rfl, rfl⟩)
end Go.Ed
namespace Go.Ed
def bitB (set e : Nat) : Bool := decide (set / 2 ^ e % 2 = 1)
theorem bit_tab : ((List.range 128).all fun set => (List.range 7).all fun e => if bitB set e then decide (2 ^ e ≤ set) && !bitB (set - 2 ^ e) e && (List.range 7).all (fun b => b == e || bitB (set - 2 ^ e) b == bitB set b) else bitB (set + 2 ^ e) e && (List.range 7).all fun b => b == e || bitB (set + 2 ^ e) b == bitB set b) = true := by decide +kernel
theorem bit_facts : ∀ set, set < 128 → ∀ e, e < 7 → (bitB set e = false → bitB (set + 2 ^ e) e = true ∧ ∀ b, b < 7 → b ≠ e → bitB (set + 2 ^ e) b = bitB set b) := by
  intro set hs e he h
  have := List.all_eq_true.1 (List.all_eq_true.1 bit_tab set (List.mem_range.2 hs)) e (List.mem_range.2 he)
  rw [h] at this
  simp only [Bool.false_eq_true, if_false, Bool.and_eq_true] at this
  refine ⟨this.1, fun b hb hne => ?_⟩
  have := List.all_eq_true.1 this.2 b (List.mem_range.2 hb)
  simpa [hne] using this
theorem bit_sub : ∀ set, set < 128 → ∀ e, e < 7 → (bitB set e = true → 2 ^ e ≤ set ∧ bitB (set - 2 ^ e) e = false ∧ ∀ b, b < 7 → b ≠ e → bitB (set - 2 ^ e) b = bitB set b) := by
  intro set hs e he h
  have := List.all_eq_true.1 (List.all_eq_true.1 bit_tab set (List.mem_range.2 hs)) e (List.mem_range.2 he)
  rw [h] at this
  simp only [if_true, Bool.and_eq_true, decide_eq_true_eq, Bool.not_eq_true'] at this
  refine ⟨this.1.1, this.1.2, fun b hb hne => ?_⟩
  have := List.all_eq_true.1 this.2 b (List.mem_range.2 hb)
  simpa [hne] using this
theorem bit_room : ∀ n, n < 8 → ∀ set, set < 128 → ∀ e, e < 7 → (set < 2 ^ n → e < n → bitB set e = false → set + 2 ^ e < 2 ^ n) := by
  have h : ((List.range 8).all fun n => (List.range 128).all fun set => (List.range 7).all fun e => !decide (set < 2 ^ n) || !decide (e < n) || bitB set e || decide (set + 2 ^ e < 2 ^ n)) = true := by decide +kernel
  intro n hn set hs e he h1 h2 h3
  have := List.all_eq_true.1 (List.all_eq_true.1 (List.all_eq_true.1 h n (List.mem_range.2 hn)) set (List.mem_range.2 hs)) e (List.mem_range.2 he)
  simpa [h1, h2, h3] using this
theorem bit_full : ∀ n, n < 8 → ∀ set, set < 128 → (set < 2 ^ n → (∀ b, b < n → bitB set b = true) → set + 1 = 2 ^ n) := by decide +kernel
theorem bit_all : ∀ n, n < 8 → ∀ b, b < n → bitB (2 ^ n - 1) b = true := by decide +kernel
theorem bit_pow : ∀ e, e < 7 → ∀ b, b < 7 → bitB (2 ^ e) b = decide (b = e) := by decide +kernel
theorem bit_zero (b : Nat) : bitB 0 b = false := by simp [bitB]
theorem pow_le7 : ∀ n, n < 8 → 2 ^ n ≤ 128 := by decide
theorem bit_le {set e : Nat} (h : bitB set e = true) : 2 ^ e ≤ set := by
  rcases Nat.lt_or_ge set (2 ^ e) with hlt | hge
  · unfold bitB at h; rw [Nat.div_eq_of_lt hlt] at h; simp at h
  · exact hge
def putV (es : List EdD) (old : Int) (s : SloD) : Int := if !lateB es s && (decide (old < 0) || decide (s.fin < old)) then s.fin else old
def leaG (t : TitD) (es : List EdD) (g : Nat → Int) (e c : Nat) : Int := (List.range c).foldl (fun out b => if g b < 0 then out else putV es out (nextS t es e b (g b))) (-1)
theorem leaG_succ (t : TitD) (es : List EdD) (g : Nat → Int) (e c : Nat) : leaG t es g e (c + 1) = if g c < 0 then leaG t es g e c else putV es (leaG t es g e c) (nextS t es e c (g c)) := by
  unfold leaG; rw [List.range_succ, List.foldl_append]; rfl
def lea (t : TitD) (es : List EdD) : Nat → Nat → Nat → Int
  | 0, _, _ => -1
  | f + 1, set, e => if bitB set e = false then -1 else if set = 2 ^ e then putV es (-1) (firstS t es e) else leaG t es (fun b => lea t es f (set - 2 ^ e) b) e es.length
theorem lea_stable (t : TitD) (es : List EdD) : ∀ f f' set e, set < f → set < f' → lea t es f set e = lea t es f' set e := by
  intro f
  induction f with
  | zero => intro f' set e h; omega
  | succ f ih =>
    intro f' set e h h'
    obtain ⟨f', rfl⟩ : ∃ k, f' = k + 1 := ⟨f' - 1, by omega⟩
    unfold lea
    by_cases hb : bitB set e = false
    · rw [if_pos hb, if_pos hb]
    · rw [if_neg hb, if_neg hb]
      have h2 := bit_le (show bitB set e = true by simpa using hb)
      have h3 : 0 < 2 ^ e := Nat.two_pow_pos e
      congr 2
      funext b
      exact ih f' _ _ (by omega) (by omega)
def leaT (t : TitD) (es : List EdD) (set e : Nat) : Int := lea t es (set + 1) set e
theorem leaT_eq (t : TitD) (es : List EdD) (set e : Nat) : leaT t es set e = if bitB set e = false then -1 else if set = 2 ^ e then putV es (-1) (firstS t es e) else leaG t es (leaT t es (set - 2 ^ e)) e es.length := by
  unfold leaT
  conv => lhs; unfold lea
  by_cases hb : bitB set e = false
  · rw [if_pos hb, if_pos hb]
  · rw [if_neg hb, if_neg hb]
    have h2 := bit_le (show bitB set e = true by simpa using hb)
    have h3 : 0 < 2 ^ e := Nat.two_pow_pos e
    congr 2
    funext b
    exact lea_stable t es _ _ _ _ (by omega) (by omega)
/-- slots end late enough -/
structure PosT (t : TitD) (es : List EdD) : Prop where
  f : ∀ e, 0 ≤ (firstS t es e).fin
  n : ∀ e b x, 0 ≤ x → 0 ≤ (nextS t es e b x).fin
theorem putV_cases {es : List EdD} {old : Int} {s : SloD} : (putV es old s = old ∧ (lateB es s = true ∨ (0 ≤ old ∧ old ≤ s.fin))) ∨ (putV es old s = s.fin ∧ lateB es s = false ∧ (old < 0 ∨ s.fin < old)) := by
  unfold putV
  cases lateB es s
  · by_cases h : old < 0 ∨ s.fin < old
    · right
      rw [if_pos (by simpa using h)]
      exact ⟨rfl, rfl, h⟩
    · left
      rw [if_neg (by simpa using h)]
      exact ⟨rfl, .inr (by omega)⟩
  · left; simp
theorem leaG_from (t : TitD) (es : List EdD) (g : Nat → Int) (e c : Nat) : leaG t es g e c = -1 ∨ ∃ b, b < c ∧ 0 ≤ g b ∧ lateB es (nextS t es e b (g b)) = false ∧ leaG t es g e c = (nextS t es e b (g b)).fin := by
  induction c with
  | zero => left; rfl
  | succ c ih =>
    have old : leaG t es g e (c + 1) = leaG t es g e c → leaG t es g e (c + 1) = -1 ∨ ∃ b, b < c + 1 ∧ 0 ≤ g b ∧ lateB es (nextS t es e b (g b)) = false ∧ leaG t es g e (c + 1) = (nextS t es e b (g b)).fin := by
      intro h
      rw [h]
      rcases ih with ih | ⟨b, h1, h2, h3, h4⟩
      · exact .inl ih
      · exact .inr ⟨b, by omega, h2, h3, h4⟩
    by_cases hg : g c < 0
    · exact old (by rw [leaG_succ, if_pos hg])
    · rcases putV_cases (es := es) (old := leaG t es g e c) (s := nextS t es e c (g c)) with ⟨h, _⟩ | ⟨h, h2, _⟩
      · exact old (by rw [leaG_succ, if_neg hg, h])
      · right
        exact ⟨c, by omega, by omega, h2, by rw [leaG_succ, if_neg hg, h]⟩
theorem leaG_low {t : TitD} {es : List EdD} (hp : PosT t es) (g : Nat → Int) (e c b : Nat) (hb : b < c) (hg : 0 ≤ g b) (hl : lateB es (nextS t es e b (g b)) = false) : 0 ≤ leaG t es g e c ∧ leaG t es g e c ≤ (nextS t es e b (g b)).fin := by
  induction c with
  | zero => omega
  | succ c ih =>
    by_cases hgc : g c < 0
    · rw [leaG_succ, if_pos hgc]
      exact ih (by by_cases e : b = c; (subst e; omega); omega)
    · rw [leaG_succ, if_neg hgc]
      have hn := hp.n e c (g c) (by omega)
      by_cases hbc : b = c
      · subst hbc
        rcases putV_cases (es := es) (old := leaG t es g e b) (s := nextS t es e b (g b)) with ⟨h, h2⟩ | ⟨h, _⟩
        · rw [h]
          rcases h2 with h2 | h2
          · rw [hl] at h2; cases h2
          · exact h2
        · rw [h]; omega
      · have := ih (by omega)
        rcases putV_cases (es := es) (old := leaG t es g e c) (s := nextS t es e c (g c)) with ⟨h, h2⟩ | ⟨h, _, h2⟩
        · rw [h]; exact this
        · rw [h]; omega
/-- each number of the table is the end of an order that is in time -/
theorem leaT_sound {t : TitD} {es : List EdD} (hn : es.length ≤ 7) : ∀ m set, set ≤ m → set < 2 ^ es.length → ∀ e, e < es.length → 0 ≤ leaT t es set e →
    ∃ o : List Nat, o.Nodup ∧ (∀ b, b < 7 → (b ∈ o ↔ bitB set b = true)) ∧ (∀ b ∈ o, b < es.length) ∧ ∃ s : SloD, (runE t es o).2.1 = some s ∧ s.edition = (e : Int) ∧ s.fin = leaT t es set e ∧ (runE t es o).2.2 = false := by
  have h128 := pow_le7 es.length (by omega)
  intro m
  induction m with
  | zero =>
    intro set h0 _ e _ hl
    obtain rfl : set = 0 := by omega
    rw [leaT_eq, if_pos (bit_zero e)] at hl
    omega
  | succ m ih =>
    intro set hm hs e he hl
    by_cases hb : bitB set e = false
    · rw [leaT_eq, if_pos hb] at hl; omega
    · have hb1 : bitB set e = true := by simpa using hb
      obtain ⟨q1, q2, q3⟩ := bit_sub set (by omega) e (by omega) hb1
      have hpos : 0 < 2 ^ e := Nat.two_pow_pos e
      by_cases hp : set = 2 ^ e
      · have hv : leaT t es set e = putV es (-1) (firstS t es e) := by rw [leaT_eq, if_neg hb, if_pos hp]
        rw [hv] at hl ⊢
        rcases putV_cases (es := es) (old := -1) (s := firstS t es e) with ⟨h, h2⟩ | ⟨h, h2, _⟩
        · rw [h] at hl; omega
        · refine ⟨[e], by simp, fun b hb7 => ?_, by simpa using he, firstS t es e, rfl, rfl, by rw [h], by simp [runE, stepE, slotE, h2]⟩
          rw [hp, bit_pow e (by omega) b hb7]
          simp
      · have hv : leaT t es set e = leaG t es (leaT t es (set - 2 ^ e)) e es.length := by rw [leaT_eq, if_neg hb, if_neg hp]
        rw [hv] at hl ⊢
        rcases leaG_from t es (leaT t es (set - 2 ^ e)) e es.length with h | ⟨b, h1, h2, h3, h4⟩
        · omega
        · obtain ⟨o, o1, o2, o3, s, s1, s2, s3, s4⟩ := ih (set - 2 ^ e) (by omega) (by omega) b h1 h2
          have heo : e ∉ o := fun hm => by have := (o2 e (by omega)).1 hm; rw [q2] at this; cases this
          refine ⟨o ++ [e], ?_, fun c hc => ?_, fun c hc => ?_, nextS t es e b s.fin, ?_, rfl, by rw [h4, s3], ?_⟩
          · rw [List.nodup_append]
            exact ⟨o1, by simp, fun a ha c hc => by simp at hc; subst hc; exact fun e' => heo (e' ▸ ha)⟩
          · rw [List.mem_append, List.mem_singleton, o2 c hc]
            by_cases hce : c = e
            · subst hce; simp [hb1]
            · rw [q3 c hc hce]; simp [hce]
          · rcases List.mem_append.1 hc with hc | hc
            · exact o3 c hc
            · simp at hc; subst hc; exact he
          · rw [runE_snoc]
            simp only [stepE, s1, slotE, s2, Int.toNat_natCast]
          · rw [runE_snoc]
            simp only [stepE, s1, slotE, s2, s4, Bool.false_or, Int.toNat_natCast, s3, h3]
/-- a slot that is in time has a number that is not later -/
def hasB (es : List EdD) (x : Int) (s : SloD) : Bool := lateB es s || (decide (0 ≤ x) && decide (x ≤ s.fin))
/-- a table proves that no order is in time -/
structure ProvOk (t : TitD) (es : List EdD) (T : Nat → Nat → Int) : Prop where
  full : ∀ e, e < es.length → T (2 ^ es.length - 1) e < 0
  first : ∀ e, e < es.length → hasB es (T (2 ^ e) e) (firstS t es e) = true
  next : ∀ set, 1 ≤ set → set + 1 < 2 ^ es.length → ∀ last, last < es.length → bitB set last = true → 0 ≤ T set last → ∀ e, e < es.length → bitB set e = false → hasB es (T (set + 2 ^ e) e) (nextS t es e last (T set last)) = true
def setO (o : List Nat) : Nat := o.foldl (fun s e => s + 2 ^ e) 0
theorem setO_snoc (o : List Nat) (e : Nat) : setO (o ++ [e]) = setO o + 2 ^ e := by simp [setO]
/-- induction from the end -/
theorem snocInd {P : List Nat → Prop} (h0 : P []) (h1 : ∀ o e, P o → P (o ++ [e])) (o : List Nat) : P o := by
  have : ∀ l : List Nat, P l.reverse := by
    intro l
    induction l with
    | nil => exact h0
    | cons x l ih => rw [List.reverse_cons]; exact h1 _ _ ih
  have h := this o.reverse
  rwa [List.reverse_reverse] at h
theorem setO_bits {n : Nat} (hn : n ≤ 7) (o : List Nat) : o.Nodup → (∀ e ∈ o, e < n) → setO o < 2 ^ n ∧ ∀ b, b < 7 → (bitB (setO o) b = true ↔ b ∈ o) := by
  have h128 := pow_le7 n (by omega)
  refine snocInd (P := fun o => o.Nodup → (∀ e ∈ o, e < n) → setO o < 2 ^ n ∧ ∀ b, b < 7 → (bitB (setO o) b = true ↔ b ∈ o)) ?_ ?_ o
  · intro _ _
    refine ⟨Nat.two_pow_pos n, fun b _ => ?_⟩
    show bitB 0 b = true ↔ _
    rw [bit_zero]; simp
  · intro o e ih hd hm
    rw [List.nodup_append] at hd
    obtain ⟨i1, i2⟩ := ih hd.1 (fun x hx => hm x (by simp [hx]))
    have he := hm e (by simp)
    have hb : bitB (setO o) e = false := by
      cases h : bitB (setO o) e
      · rfl
      · exact absurd rfl (hd.2.2 e ((i2 e (by omega)).1 h) e (by simp))
    obtain ⟨f1, f2⟩ := bit_facts (setO o) (by omega) e (by omega) hb
    rw [setO_snoc]
    refine ⟨bit_room n (by omega) _ (by omega) e (by omega) i1 he hb, fun b hb7 => ?_⟩
    by_cases hbe : b = e
    · subst hbe; rw [f1]; simp
    · rw [f2 b hb7 hbe, i2 b hb7]; simp [hbe]
theorem nextS_mono {t : TitD} {es : List EdD} {e b : Nat} {x y : Int} (h : x ≤ y) : (nextS t es e b x).fin ≤ (nextS t es e b y).fin := by
  show endOf t _ _ ≤ endOf t _ _
  exact endOf_mono rfl (by omega)
theorem hasB_go {es : List EdD} {x : Int} {s s' : SloD} (h : hasB es x s = true) (he : s.edition = s'.edition) (hf : s.fin ≤ s'.fin) (hl : lateB es s' = false) : 0 ≤ x ∧ x ≤ s'.fin := by
  have hl2 : lateB es s = false := by
    unfold lateB at hl ⊢
    rw [← he] at hl
    simp only [decide_eq_false_iff_not] at hl ⊢
    omega
  unfold hasB at h
  rw [hl2] at h
  simp at h
  omega
theorem prov_sound {t : TitD} {es : List EdD} (hn : es.length ≤ 7) {T : Nat → Nat → Int} (h : ProvOk t es T) {o : List Nat} (h0 : o ≠ []) (hd : o.Nodup) (hm : ∀ e ∈ o, e < es.length) (hl : (runE t es o).2.2 = false) :
    ∃ (e : Nat) (s : SloD), e ∈ o ∧ (runE t es o).2.1 = some s ∧ s.edition = (e : Int) ∧ 0 ≤ T (setO o) e ∧ T (setO o) e ≤ s.fin := by
  revert h0 hd hm hl
  refine snocInd (P := fun o => o ≠ [] → o.Nodup → (∀ e ∈ o, e < es.length) → (runE t es o).2.2 = false → ∃ (e : Nat) (s : SloD), e ∈ o ∧ (runE t es o).2.1 = some s ∧ s.edition = (e : Int) ∧ 0 ≤ T (setO o) e ∧ T (setO o) e ≤ s.fin) ?_ ?_ o
  · intro h; exact absurd rfl h
  · intro o e ih _ hd hm hl
    have he := hm e (by simp)
    rw [runE_snoc] at hl ⊢
    simp only [stepE, Bool.or_eq_false_iff] at hl ⊢
    by_cases ho : o = []
    · subst ho
      refine ⟨e, firstS t es e, by simp, rfl, rfl, ?_⟩
      have hf := h.first e he
      have hs : setO ([] ++ [e]) = 2 ^ e := by simp [setO]
      rw [hs]
      exact hasB_go hf rfl (Int.le_refl _) hl.2
    · have hdd := hd
      rw [List.nodup_append] at hdd
      obtain ⟨b, s, i0, i1, i2, i3, i4⟩ := ih ho hdd.1 (fun x hx => hm x (by simp [hx])) hl.1
      obtain ⟨k1, k2⟩ := setO_bits hn o hdd.1 (fun x hx => hm x (by simp [hx]))
      have hbl := hm b (by simp [i0])
      have hbb := (k2 b (by omega)).2 i0
      have hbe : bitB (setO o) e = false := by
        cases hh : bitB (setO o) e
        · rfl
        · exact absurd rfl (hdd.2.2 e ((k2 e (by omega)).1 hh) e (by simp))
      have hroom := bit_room es.length (by omega) (setO o) (by have := pow_le7 es.length (by omega); omega) e (by omega) k1 he hbe
      have hp1 : 0 < 2 ^ e := Nat.two_pow_pos e
      have hp2 := bit_le hbb
      have hp3 : 0 < 2 ^ b := Nat.two_pow_pos b
      have hx := h.next (setO o) (by omega) (by omega) b hbl hbb i3 e he hbe
      rw [i1] at hl ⊢
      simp only [slotE, i2, Int.toNat_natCast] at hl ⊢
      refine ⟨e, _, by simp, rfl, rfl, ?_⟩
      rw [setO_snoc]
      exact hasB_go hx rfl (nextS_mono i4) hl.2
/-- if a table is accepted, no order is in time -/
theorem prov_none {t : TitD} {es : List EdD} (hn : es.length ≤ 7) (h1 : 1 ≤ es.length) {T : Nat → Nat → Int} (h : ProvOk t es T) {o : List Nat} (ho : o.Perm (List.range es.length)) : (runE t es o).2.2 = true := by
  cases hl : (runE t es o).2.2
  · exfalso
    have hd : o.Nodup := ho.nodup_iff.2 List.nodup_range
    have hm : ∀ e ∈ o, e < es.length := fun e he => List.mem_range.1 (ho.mem_iff.1 he)
    obtain ⟨e, s, he, _, _, hx, _⟩ := prov_sound hn h (by intro e; subst e; have := ho.length_eq; simp at this; omega) hd hm hl
    obtain ⟨k1, k2⟩ := setO_bits hn o hd hm
    have := bit_full es.length (by omega) (setO o) (by have := pow_le7 es.length (by omega); omega) k1 (fun b hb => (k2 b (by omega)).2 (ho.mem_iff.2 (List.mem_range.2 hb)))
    have hf := h.full e (hm e he)
    rw [show setO o = 2 ^ es.length - 1 by omega] at hx
    omega
  · rfl
/-- if no order is in time, the table of least ends is accepted -/
theorem lea_prov {t : TitD} {es : List EdD} (hn : es.length ≤ 7) (hp : PosT t es) (h : ∀ o : List Nat, o.Perm (List.range es.length) → (runE t es o).2.2 = true) : ProvOk t es (leaT t es) := by
  refine ⟨fun e he => ?_, fun e he => ?_, fun set h1 h2 last hla hbl hx e he hbe => ?_⟩
  · rcases Int.lt_or_le (leaT t es (2 ^ es.length - 1) e) 0 with hlt | hge
    · exact hlt
    · exfalso
      have hpp : 0 < 2 ^ es.length := Nat.two_pow_pos _
      obtain ⟨o, o1, o2, o3, s, _, _, _, o4⟩ := leaT_sound hn (2 ^ es.length - 1) _ (Nat.le_refl _) (by omega) e he hge
      have hperm : o.Perm (List.range es.length) := by
        rw [List.perm_ext_iff_of_nodup o1 List.nodup_range]
        intro b
        rw [List.mem_range]
        constructor
        · exact o3 b
        · intro hb; exact (o2 b (by omega)).2 (bit_all es.length (by omega) b hb)
      rw [h o hperm] at o4; cases o4
  · have hv : leaT t es (2 ^ e) e = putV es (-1) (firstS t es e) := by
      rw [leaT_eq, if_neg (by rw [bit_pow e (by omega) e (by omega)]; simp), if_pos rfl]
    rw [hv]
    unfold hasB
    have := hp.f e
    rcases putV_cases (es := es) (old := -1) (s := firstS t es e) with ⟨h, h2⟩ | ⟨h, h2, _⟩
    · rcases h2 with h2 | h2
      · simp [h2]
      · omega
    · rw [h]; simp [this]
  · have hs := pow_le7 es.length (by omega)
    obtain ⟨f1, f2⟩ := bit_facts set (by omega) e (by omega) hbe
    have hv : leaT t es (set + 2 ^ e) e = leaG t es (leaT t es set) e es.length := by
      rw [leaT_eq, if_neg (by rw [f1]; simp), if_neg (by omega), Nat.add_sub_cancel]
    rw [hv]
    unfold hasB
    cases hl : lateB es (nextS t es e last (leaT t es set last))
    · have := leaG_low hp (leaT t es set) e es.length last hla hx hl
      simp; omega
    · rfl
/-- all orders are looked at -/
theorem allO_mem {n : Nat} : ∀ fuel (o r : List Nat), r.length < fuel → (o ++ r).Nodup → (∀ e ∈ r, e < n) → (o ++ r).length = n → o ++ r ∈ allO n fuel o := by
  intro fuel
  induction fuel with
  | zero => intro o r h; omega
  | succ fuel ih =>
    intro o r h hd hm hl
    unfold allO
    cases r with
    | nil => rw [List.append_nil] at hl ⊢; rw [if_pos hl]; simp
    | cons e r =>
      rw [if_neg (by rw [List.length_append, List.length_cons] at hl; omega)]
      refine List.mem_flatMap.2 ⟨e, List.mem_range.2 (hm e (by simp)), ?_⟩
      have heo : o.contains e = false := by
        cases hc : o.contains e
        · rfl
        · rw [List.nodup_append] at hd
          exact absurd rfl (hd.2.2 e (List.contains_iff_mem.1 hc) e (by simp))
      rw [heo, if_neg (by simp)]
      have := ih (o ++ [e]) r (by simp at h; omega) (by simpa using hd) (fun x hx => hm x (by simp [hx])) (by simpa using hl)
      simpa using this
theorem pig : ∀ (n : Nat) (l : List Nat), l.Nodup → (∀ x ∈ l, x < n) → l.length ≤ n ∧ (l.length = n → ∀ b, b < n → b ∈ l) := by
  intro n
  induction n with
  | zero => intro l _ hm; cases l with
    | nil => simp
    | cons x l => exact absurd (hm x (by simp)) (by omega)
  | succ n ih =>
    intro l hd hm
    by_cases hn : n ∈ l
    · have hl := List.length_erase_of_mem hn
      have h0 : 0 < l.length := List.length_pos_of_mem hn
      obtain ⟨h1, h2⟩ := ih (l.erase n) (hd.erase n) (fun x hx => by
        have hx2 := (List.Nodup.mem_erase_iff hd).1 hx
        have := hm x hx2.2
        omega)
      refine ⟨by omega, fun he b hb => ?_⟩
      by_cases hbn : b = n
      · subst hbn; exact hn
      · exact List.mem_of_mem_erase (h2 (by omega) b (by omega))
    · obtain ⟨h1, _⟩ := ih l hd (fun x hx => by
        have := hm x hx
        have : x ≠ n := fun e => hn (e ▸ hx)
        omega)
      exact ⟨by omega, fun he => by omega⟩
theorem allO_ok {n : Nat} : ∀ fuel (o : List Nat), o.Nodup → (∀ e ∈ o, e < n) → ∀ x ∈ allO n fuel o, x.Nodup ∧ (∀ e ∈ x, e < n) ∧ x.length = n := by
  intro fuel
  induction fuel with
  | zero =>
    intro o hd hm x hx
    unfold allO at hx
    split at hx
    · rename_i h; simp at hx; subst hx; exact ⟨hd, hm, h⟩
    · simp at hx
  | succ fuel ih =>
    intro o hd hm x hx
    unfold allO at hx
    split at hx
    · rename_i h; simp at hx; subst hx; exact ⟨hd, hm, h⟩
    · obtain ⟨e, he, hx⟩ := List.mem_flatMap.1 hx
      split at hx
      · simp at hx
      · rename_i hc
        refine ih _ ?_ ?_ x hx
        · rw [List.nodup_append]
          exact ⟨hd, by simp, fun a ha c hc' => by simp at hc'; subst hc'; intro e'; subst e'; exact hc (List.contains_iff_mem.2 ha)⟩
        · intro y hy
          rcases List.mem_append.1 hy with hy | hy
          · exact hm y hy
          · simp at hy; subst hy; exact List.mem_range.1 he
theorem allO_perm {n : Nat} {x : List Nat} (hx : x ∈ allO n (n + 1) []) : x.Perm (List.range n) := by
  obtain ⟨h1, h2, h3⟩ := allO_ok (n + 1) [] (by simp) (by simp) x hx
  rw [List.perm_ext_iff_of_nodup h1 List.nodup_range]
  intro b
  rw [List.mem_range]
  exact ⟨h2 b, (pig n x h1 h2).2 h3 b⟩
theorem perm_allO {n : Nat} {x : List Nat} (hx : x.Perm (List.range n)) : x ∈ allO n (n + 1) [] := by
  have := allO_mem (n := n) (n + 1) [] x (by rw [hx.length_eq]; simp) (by simpa using hx.nodup_iff.2 List.nodup_range) (fun e he => List.mem_range.1 (hx.mem_iff.1 he)) (by simp [hx.length_eq])
  simpa using this
/-- what a look at many orders finds: none is better -/
structure ScanOk (t : TitD) (es : List EdD) (time : Bool) (L : List (List Nat)) (b : Best) : Prop where
  from_ : ∀ o p f, b = some (o, p, f) → o ∈ L ∧ p = (runE t es o).1 ∧ f = endE (runE t es o) ∧ (time && (runE t es o).2.2) = false
  least : ∀ o ∈ L, (time && (runE t es o).2.2) = false → ∃ bo p f, b = some (bo, p, f) ∧ (p < (runE t es o).1 ∨ (p = (runE t es o).1 ∧ (time = true → f ≤ endE (runE t es o))))
theorem scan_ok (t : TitD) (es : List EdD) (time : Bool) (L : List (List Nat)) : ScanOk t es time L (L.foldl (scan t es time) none) := by
  have : ∀ M : List (List Nat), ScanOk t es time M.reverse (M.reverse.foldl (scan t es time) none) := by
    intro M
    induction M with
    | nil => exact ⟨fun o p f h => by simp at h, fun o h => by simp at h⟩
    | cons x M ih =>
      rw [List.reverse_cons, List.foldl_append, List.foldl_cons, List.foldl_nil]
      obtain ⟨b, hb⟩ : ∃ b, b = M.reverse.foldl (scan t es time) none := ⟨_, rfl⟩
      rw [← hb] at ih ⊢
      clear hb
      unfold scan
      by_cases h1 : (time && (runE t es x).2.2) = true
      · rw [if_pos h1]
        refine ⟨fun o p f h => ?_, fun o ho hl => ?_⟩
        · obtain ⟨a, b, c, d⟩ := ih.from_ o p f h
          exact ⟨by simp only [List.mem_append]; exact .inl a, b, c, d⟩
        · rcases List.mem_append.1 ho with ho | ho
          · exact ih.least o ho hl
          · simp at ho; subst ho; rw [h1] at hl; cases hl
      · rw [if_neg h1]
        have h1' : (time && (runE t es x).2.2) = false := by simpa using h1
        by_cases h2 : better time b (runE t es x).1 (endE (runE t es x)) = true
        · rw [if_pos h2]
          refine ⟨fun o p f h => ?_, fun o ho hl => ?_⟩
          · injection h with h; injection h with h3 h4; injection h4 with h4 h5
            subst h3
            exact ⟨by simp, h4.symm, h5.symm, h1'⟩
          · refine ⟨_, _, _, rfl, ?_⟩
            rcases List.mem_append.1 ho with ho | ho
            · obtain ⟨bo, p, f, hb, hp⟩ := ih.least o ho hl
              subst hb
              simp only [better, Bool.or_eq_true, Bool.and_eq_true, decide_eq_true_eq] at h2
              rcases h2 with h2 | ⟨⟨ht, h2⟩, h3⟩
              · left; omega
              · rcases hp with hp | ⟨hp, hq⟩
                · left; omega
                · right; exact ⟨by omega, fun _ => by have := hq ht; omega⟩
            · simp at ho; subst ho; exact .inr ⟨rfl, fun _ => Int.le_refl _⟩
        · rw [if_neg h2]
          refine ⟨fun o p f h => ?_, fun o ho hl => ?_⟩
          · obtain ⟨a, b, c, d⟩ := ih.from_ o p f h
            exact ⟨by simp only [List.mem_append]; exact .inl a, b, c, d⟩
          · rcases List.mem_append.1 ho with ho | ho
            · exact ih.least o ho hl
            · simp at ho; subst ho
              match b, h2 with
              | none, h2 => simp [better] at h2
              | some (bo, p, f), h2 =>
                refine ⟨bo, p, f, rfl, ?_⟩
                simp only [better, Bool.or_eq_true, Bool.and_eq_true, decide_eq_true_eq, not_or, not_and] at h2
                rcases Int.lt_or_le p (runE t es o).1 with h | h
                · exact .inl h
                · right
                  have h3 : p = (runE t es o).1 := by omega
                  exact ⟨h3, fun ht => by have := h2.2 ⟨ht, h3.symm⟩; omega⟩
  have h := this L.reverse
  rwa [List.reverse_reverse] at h
end Go.Ed
namespace Go.Ed
theorem ceil_eq {n r : Int} (hn : 0 ≤ n) (hr : 1 ≤ r) : (n + r - 1) / r = n / r + if 0 < n % r then 1 else 0 := by
  have a := Int.mul_ediv_add_emod n r
  have b := Int.emod_nonneg n (show r ≠ 0 by omega)
  have c := Int.emod_lt_of_pos n (show 0 < r by omega)
  obtain ⟨q, hq⟩ : ∃ q, q = n / r := ⟨_, rfl⟩
  obtain ⟨m, hm⟩ : ∃ m, m = n % r := ⟨_, rfl⟩
  rw [← hq, ← hm] at a
  rw [← hm] at b c
  rw [← hq, ← hm]
  split
  · have h1 : n + r - 1 = (m - 1) + r * (q + 1) := by rw [Int.mul_add]; omega
    rw [h1, Int.add_mul_ediv_left _ _ (show r ≠ 0 by omega), Int.ediv_eq_zero_of_lt (by omega) (by omega)]; omega
  · have h1 : n + r - 1 = (r - 1) + r * q := by omega
    rw [h1, Int.add_mul_ediv_left _ _ (show r ≠ 0 by omega), Int.ediv_eq_zero_of_lt (by omega) (by omega)]; omega
/-- a list without doubles that lies in another one of its length is that, in some order -/
theorem perm_of_sub {α : Type} [BEq α] [LawfulBEq α] : ∀ (l m : List α), l.Nodup → (∀ x ∈ l, x ∈ m) → m.length ≤ l.length → l.Perm m := by
  intro l
  induction l with
  | nil => intro m _ _ h; simp at h; subst h; exact .refl _
  | cons x l ih =>
    intro m hd hs hl
    rw [List.nodup_cons] at hd
    have hx := hs x (by simp)
    have h1 := List.length_erase_of_mem hx
    have h0 : 0 < m.length := List.length_pos_of_mem hx
    simp at hl
    have := ih (m.erase x) hd.2 (fun y hy => (List.mem_erase_of_ne (by intro e; subst e; exact hd.1 hy)).2 (hs y (by simp [hy]))) (by omega)
    exact (List.Perm.cons x this).trans (List.perm_cons_erase hx).symm
def rightB (n : Nat) (l : List Int) : Bool := decide (l.length = n) && (List.range n).all fun e => l.any fun x => x == (e : Int)
theorem rightB_eq (n : Nat) (l : List Int) : rightB n l = ordersB n l := by
  rw [Bool.eq_iff_iff]
  unfold rightB ordersB
  simp only [Bool.and_eq_true, decide_eq_true_eq, List.all_eq_true, List.any_eq_true, beq_iff_eq, inB_iff]
  have hrd : ((List.range n).map fun (e : Nat) => (e : Int)).Nodup := List.Pairwise.map _ (fun a b hab => fun e => hab (Int.ofNat.inj e)) List.nodup_range
  constructor
  · rintro ⟨h1, h2⟩
    have hp : ((List.range n).map fun (e : Nat) => (e : Int)).Perm l := by
      refine perm_of_sub _ _ hrd (fun x hx => ?_) (by simp [h1])
      obtain ⟨e, he, rfl⟩ := List.mem_map.1 hx
      obtain ⟨y, hy, rfl⟩ := h2 e he
      exact hy
    refine ⟨⟨h1, fun x hx => ?_⟩, hp.nodup_iff.1 hrd⟩
    obtain ⟨e, he, rfl⟩ := List.mem_map.1 (hp.mem_iff.2 hx)
    have := List.mem_range.1 he
    omega
  · rintro ⟨⟨h1, h2⟩, h3⟩
    refine ⟨h1, fun e he => ?_⟩
    have hp : l.Perm ((List.range n).map fun (e : Nat) => (e : Int)) := by
      refine perm_of_sub _ _ h3 (fun x hx => ?_) (by simp [h1])
      have := h2 x hx
      exact List.mem_map.2 ⟨x.toNat, List.mem_range.2 (by omega), by omega⟩
    exact ⟨_, hp.mem_iff.2 (List.mem_map.2 ⟨e, he, rfl⟩), rfl⟩
end Go.Ed
