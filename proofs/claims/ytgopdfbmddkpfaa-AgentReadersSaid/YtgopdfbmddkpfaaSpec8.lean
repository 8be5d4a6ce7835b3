/- Plain laws of subscribers, rounds and carriers; conditions: none. -/
import Derived.Test.YtgopdfbmddkpfaaSpec7
import Derived.Test.YtgopdfbmddkpfaaSpec2
namespace Go.Ag
def sub0 : SubD := ⟨0, 0, 0, 0, []⟩
def metS (l : List SubD) (k : Nat) (x : Int) : Bool := (l.take k).any fun p => p.id == x
def errS (l : List SubD) (k : Nat) : Int := if wrongS (l.getD k sub0) then 120 else if metS l k (l.getD k sub0).id then 10 else 0
def listE (l : List SubD) : Int := if 500 < l.length then 2 else firstErr (errS l) l.length
def roundR (l : List SubD) (day : Int) : List Int × Int :=
  if listE l ≠ 0 then ([], listE l) else if inB day 0 20000 = false then ([], 6) else ((l.filter fun s => getsB s day).map SubD.id, 0)
def getsR (s : SubD) (day : Int) : Bool × Int := if wrongS s then (false, 120) else if inB day 0 20000 = false then (false, 6) else (getsB s day, 0)
def comOk (l : List SubD) (a b : Int) (x : Int × Int) : Bool := l.any fun s => s.id == x.1 && (inB x.2 a b && getsB s x.2)
def metC (c : List (Int × Int)) (k : Nat) (x : Int × Int) : Bool := (c.take k).any fun p => p == x
def errC (l : List SubD) (c : List (Int × Int)) (a b : Int) (k : Nat) : Int := if comOk l a b (c.getD k (0, 0)) = false then 4 else if metC c k (c.getD k (0, 0)) then 10 else 0
def allC (l : List SubD) (a b : Int) : Nat → Int := sumN fun k => copiesB (l.getD k sub0) a b
def carrierE (t : TariffD) (l : List SubD) (c : List (Int × Int)) (a b : Int) : Int :=
  if wrongT t then 1 else if listE l ≠ 0 then listE l else if periodB a b = false then 6 else if 500 < c.length then 2 else firstErr (errC l c a b) c.length
def carrierL (t : TariffD) (l : List SubD) (c : List (Int × Int)) (a b : Int) : List (Int × Int × Int) :=
  [(4, allC l a b l.length, allC l a b l.length * t.carry), (5, c.length, c.length * -t.credit)]
def carrierD (t : TariffD) (l : List SubD) (c : List (Int × Int)) (a b : Int) : Int × List (Int × Int × Int) × Int :=
  if carrierE t l c a b ≠ 0 then (carrierE t l c a b, [], 0) else (0, carrierL t l c a b, sumLines (carrierL t l c a b))
theorem metS_succ {l : List SubD} {k : Nat} (hk : k < l.length) (x : Int) : metS l (k + 1) x = (metS l k x || l[k].id == x) := by
  unfold metS
  rw [List.take_succ_eq_append_getElem hk, List.any_append]
  simp
theorem metC_succ {c : List (Int × Int)} {k : Nat} (hk : k < c.length) (x : Int × Int) : metC c (k + 1) x = (metC c k x || c[k] == x) := by
  unfold metC
  rw [List.take_succ_eq_append_getElem hk, List.any_append]
  simp
theorem errS_get {l : List SubD} {k : Nat} (hk : k < l.length) : errS l k = if wrongS l[k] then 120 else if metS l k l[k].id then 10 else 0 := by
  have : l.getD k sub0 = l[k] := by simp [hk]
  rw [errS, this]
theorem errC_get {l : List SubD} {c : List (Int × Int)} {a b : Int} {k : Nat} (hk : k < c.length) : errC l c a b k = if comOk l a b c[k] = false then 4 else if metC c k c[k] then 10 else 0 := by
  have : c.getD k (0, 0) = c[k] := by simp [hk]
  rw [errC, this]
theorem errS_ok {l : List SubD} {k : Nat} (hk : k < l.length) (h : errS l k = 0) : OkS l[k] := by
  rw [errS_get hk] at h
  by_cases hb : wrongS l[k] = true
  · rw [if_pos hb] at h; omega
  · exact (OkS_iff _).1 (by simpa using hb)
theorem errS_new {l : List SubD} {k : Nat} (hk : k < l.length) (h : errS l k = 0) : metS l k l[k].id = false := by
  rw [errS_get hk] at h
  by_cases hb : wrongS l[k] = true
  · rw [if_pos hb] at h; omega
  · rw [if_neg hb] at h
    by_cases hm : metS l k l[k].id = true
    · rw [if_pos hm] at h; omega
    · simpa using hm
theorem listE_zero {l : List SubD} (h : listE l = 0) : l.length ≤ 500 ∧ (∀ s ∈ l, OkS s) ∧ ∀ k (hk : k < l.length), metS l k l[k].id = false := by
  unfold listE at h
  by_cases h1 : 500 < l.length
  · rw [if_pos h1] at h; omega
  · rw [if_neg h1] at h
    have hz := firstErr_zero h
    refine ⟨by omega, fun s hs => ?_, fun k hk => errS_new hk (hz k hk)⟩
    obtain ⟨k, hk, rfl⟩ := List.mem_iff_getElem.1 hs
    exact errS_ok hk (hz k hk)
/-- subscribers with ids of their own: the one with an id -/
theorem ids_apart {l : List SubD} (h : ∀ k (hk : k < l.length), metS l k l[k].id = false) {i j : Nat} (hi : i < l.length) (hj : j < l.length) (e : l[i].id = l[j].id) : i = j := by
  have key : ∀ i j (hi : i < l.length) (hj : j < l.length), i < j → l[i].id ≠ l[j].id := by
    intro i j hi hj hlt he
    have := h j hj
    unfold metS at this
    rw [List.any_eq_false] at this
    have hm : l[i] ∈ l.take j := by
      rw [List.mem_take_iff_getElem]
      exact ⟨i, by omega, rfl⟩
    have := this _ hm
    simp [he] at this
  by_cases h1 : i < j
  · exact absurd e (key i j hi hj h1)
  · by_cases h2 : j < i
    · exact absurd e.symm (key j i hj hi h2)
    · omega
/-- of how many of n days from a a subscriber gets a copy -/
theorem copiesN_split (s : SubD) (a : Int) (n m : Nat) : copiesN s a (n + m) = copiesN s a n + copiesN s (a + n) m := by
  induction m with
  | zero => simp [copiesN]
  | succ m ih =>
    rw [← Nat.add_assoc, copiesN, copiesN, ih]
    have : a + ((n + m : Nat) : Int) = a + n + m := by omega
    rw [this]
    omega
theorem copiesN_zero {s : SubD} {a : Int} {n : Nat} (h : ∀ d, a ≤ d → d < a + n → getsB s d = false) : copiesN s a n = 0 := by
  induction n with
  | zero => rfl
  | succ n ih =>
    rw [copiesN, ih (fun d h1 h2 => h d h1 (by omega)), h (a + n) (by omega) (by omega)]
    simp
theorem getsB_out {s : SubD} {d : Int} (h : d < s.lo ∨ s.hi < d) : getsB s d = false := by
  have : inB d s.lo s.hi = false := by simp [inB]; omega
  simp [getsB, this]
theorem copiesB_count (s : SubD) (a b : Int) : copiesB s a b = copiesN s a (b + 1 - a).toNat := by
  unfold copiesB
  by_cases h1 : max a s.lo ≤ min b s.hi
  · have e : (b + 1 - a).toNat = (max a s.lo - a).toNat + ((min b s.hi + 1 - max a s.lo).toNat + (b - min b s.hi).toNat) := by omega
    rw [e, copiesN_split, copiesN_split]
    rw [copiesN_zero (a := a) (fun d g1 g2 => getsB_out (by omega))]
    have e2 : a + ((max a s.lo - a).toNat : Int) = max a s.lo := by omega
    rw [e2]
    rw [copiesN_zero (n := (b - min b s.hi).toNat) (fun d g1 g2 => getsB_out (by omega))]
    omega
  · have e : (min b s.hi + 1 - max a s.lo).toNat = 0 := by omega
    rw [e]
    rw [copiesN_zero (a := a) (fun d g1 g2 => getsB_out (by omega))]
    rfl
/-- how many of a list get a copy on a day, in the order of the list -/
def roundN (l : List SubD) (d : Int) : Int := ((l.filter fun s => getsB s d).map SubD.id).length
theorem roundN_sum (l : List SubD) (d : Int) (k : Nat) (hk : k ≤ l.length) : roundN (l.take k) d = sumN (fun i => if getsB (l.getD i sub0) d then 1 else 0) k := by
  induction k with
  | zero => simp [roundN, sumN]
  | succ k ih =>
    have hlt : k < l.length := by omega
    have e : l.getD k sub0 = l[k] := by simp [hlt]
    have ih := ih (by omega)
    unfold roundN at ih ⊢
    rw [List.take_succ_eq_append_getElem hlt, List.filter_append, List.map_append, List.length_append, sumN, ← ih, e]
    cases h : getsB l[k] d
    · simp [h]
    · simp [h]
/-- the rounds of n days from a, together -/
def roundsN (l : List SubD) (a : Int) : Nat → Int := sumN fun i => roundN l (a + i)
theorem rounds_copies (l : List SubD) (a : Int) (n : Nat) : roundsN l a n = sumN (fun k => copiesN (l.getD k sub0) a n) l.length := by
  have hz : ∀ k, sumN (fun _ => (0 : Int)) k = 0 := by
    intro k; induction k with
    | zero => rfl
    | succ k ih => rw [sumN, ih]; rfl
  have hadd : ∀ (f g : Nat → Int) k, sumN (fun i => f i + g i) k = sumN f k + sumN g k := by
    intro f g k; induction k with
    | zero => rfl
    | succ k ih => simp only [sumN, ih]; omega
  induction n with
  | zero => simp only [copiesN]; rw [hz]; rfl
  | succ n ih =>
    have e1 : roundsN l a (n + 1) = roundsN l a n + roundN l (a + n) := rfl
    have e2 := roundN_sum l (a + n) l.length (Nat.le_refl _)
    rw [List.take_length] at e2
    rw [e1, ih, e2, ← hadd]
    rfl
/-- the copies of all are the rounds' -/
theorem allC_rounds (l : List SubD) (a b : Int) : allC l a b l.length = roundsN l a (b + 1 - a).toNat := by
  rw [rounds_copies]
  unfold allC
  exact sumN_congr fun i _ => copiesB_count _ a b
/-- one holiday more: the days of the holiday on which a copy would come are lost -/
def lostN (s : SubD) (a b lo : Int) : Nat → Int
  | 0 => 0
  | n + 1 => lostN s a b lo n + if getsB s (lo + n) && inB (lo + n) a b then 1 else 0
theorem away_copies {s t : SubD} {lo hi : Int} (h : ∀ d, getsB t d = (getsB s d && !inB d lo hi)) (a b : Int) (hab : a ≤ b + 1) (hlh : lo ≤ hi + 1) : copiesB t a b = copiesB s a b - lostN s a b lo (hi + 1 - lo).toNat := by
  rw [copiesB_count, copiesB_count]
  -- what is lost, counted over the days from a to b
  have key : ∀ n : Nat, copiesN t a n = copiesN s a n - sumN (fun i => if getsB s (a + i) && inB (a + i) lo hi then 1 else 0) n := by
    intro n
    induction n with
    | zero => rfl
    | succ n ih =>
      simp only [copiesN, sumN, ih, h]
      cases getsB s (a + n) <;> cases inB (a + n) lo hi <;> simp <;> omega
  rw [key]
  -- both count the days in both periods
  have zero : ∀ (f : Nat → Int) n, (∀ i, i < n → f i = 0) → sumN f n = 0 := by
    intro f n hf
    rw [sumN_congr (g := fun _ => 0) hf]
    clear hf
    induction n with
    | zero => rfl
    | succ k ih => rw [sumN, ih]; rfl
  have split : ∀ (f : Nat → Int) n m, sumN f (n + m) = sumN f n + sumN (fun i => f (n + i)) m := by
    intro f n m
    induction m with
    | zero => simp [sumN]
    | succ m ih => rw [← Nat.add_assoc, sumN, sumN, ih]; omega
  have lost : ∀ n, lostN s a b lo n = sumN (fun i => if getsB s (lo + i) && inB (lo + i) a b then 1 else 0) n := by
    intro n
    induction n with
    | zero => rfl
    | succ n ih => rw [lostN, ih, sumN]
  rw [lost]
  suffices hs : sumN (fun i => if getsB s (a + i) && inB (a + i) lo hi then (1 : Int) else 0) (b + 1 - a).toNat = sumN (fun i => if getsB s (lo + i) && inB (lo + i) a b then (1 : Int) else 0) (hi + 1 - lo).toNat by rw [hs]
  by_cases hx : max a lo ≤ min b hi
  · have e1 : (b + 1 - a).toNat = (max a lo - a).toNat + ((min b hi + 1 - max a lo).toNat + (b - min b hi).toNat) := by omega
    have e2 : (hi + 1 - lo).toNat = (max a lo - lo).toNat + ((min b hi + 1 - max a lo).toNat + (hi - min b hi).toNat) := by omega
    rw [e1, e2, split, split, split, split]
    rw [zero _ (max a lo - a).toNat, zero _ (max a lo - lo).toNat, zero _ (b - min b hi).toNat, zero _ (hi - min b hi).toNat]
    · congr 1
      congr 1
      refine sumN_congr fun i hi' => ?_
      have d1 : a + (((max a lo - a).toNat + i : Nat) : Int) = lo + (((max a lo - lo).toNat + i : Nat) : Int) := by omega
      rw [d1]
      have i1 : inB (lo + (((max a lo - lo).toNat + i : Nat) : Int)) lo hi = true := by rw [inB_iff]; omega
      have i2 : inB (lo + (((max a lo - lo).toNat + i : Nat) : Int)) a b = true := by rw [inB_iff]; omega
      rw [i1, i2]
    · intro i hi'
      have : inB (lo + (((max a lo - lo).toNat + ((min b hi + 1 - max a lo).toNat + i) : Nat) : Int)) a b = false := by simp only [inB, decide_eq_false_iff_not]; omega
      rw [this]; simp
    · intro i hi'
      have : inB (a + (((max a lo - a).toNat + ((min b hi + 1 - max a lo).toNat + i) : Nat) : Int)) lo hi = false := by simp only [inB, decide_eq_false_iff_not]; omega
      rw [this]; simp
    · intro i hi'
      have : inB (lo + (i : Int)) a b = false := by simp only [inB, decide_eq_false_iff_not]; omega
      rw [this]; simp
    · intro i hi'
      have : inB (a + (i : Int)) lo hi = false := by simp only [inB, decide_eq_false_iff_not]; omega
      rw [this]; simp
  · rw [zero, zero]
    · intro i hi'
      have : inB (lo + (i : Int)) a b = false := by simp only [inB, decide_eq_false_iff_not]; omega
      rw [this]; simp
    · intro i hi'
      have : inB (a + (i : Int)) lo hi = false := by simp only [inB, decide_eq_false_iff_not]; omega
      rw [this]; simp
end Go.Ag
