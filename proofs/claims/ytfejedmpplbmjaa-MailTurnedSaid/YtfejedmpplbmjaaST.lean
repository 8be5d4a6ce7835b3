/- Stacks: the plain law; conditions: none. No program in sight. -/
import Derived.WalkKit
set_option linter.unusedSimpArgs false
set_option linter.unusedVariables false
namespace Go.Ml
/-- the lean behind a layer more -/
def leanS (x k : Int) (j : Nat) : Int := if j % 2 = 1 then x - k else x + k
def inL (x limit : Int) : Bool := decide (-limit ≤ x ∧ x ≤ limit)
theorem inL_iff {x limit : Int} : inL x limit = true ↔ -limit ≤ x ∧ x ≤ limit := by simp [inL]
/-- the lean at the end of layers, if none on the way is too much -/
def runS (limit : Int) : List Int → Nat → Int → Option Int
  | [], _, x => some x
  | k :: l, j, x => if inL (leanS x k j) limit = true then runS limit l (j + 1) (leanS x k j) else none
def sumS : List Int → Int
  | [] => 0
  | k :: l => k + sumS l
/-- a stack from a state on is right -/
structure FromS (n limit last : Int) (j : Nat) (u x : Int) (l : List Int) : Prop where
  pos : ∀ k ∈ l, 1 ≤ k
  sum : u + sumS l = n
  run : ∃ y, runS limit l j x = some y ∧ inL y last = true
abbrev RightS (n limit last : Int) (l : List Int) : Prop := FromS n limit last 0 0 0 l
def sgS (j : Nat) : Int := if j % 2 = 1 then -1 else 1
theorem sg_next (j : Nat) : sgS (j + 1) = - sgS j := by unfold sgS; split <;> split <;> omega
theorem lean_sg (x k : Int) (j : Nat) : leanS x k j = x + sgS j * k := by unfold leanS sgS; split <;> simp <;> omega
theorem sg_cases (j : Nat) : sgS j = 1 ∨ sgS j = -1 := by unfold sgS; split <;> simp
theorem run_bound {limit : Int} (h0 : 0 ≤ limit) : ∀ (l : List Int) (j : Nat) (x y : Int), l ≠ [] → runS limit l j x = some y → sumS l ≤ - sgS j * x + 2 * (limit * ((l.length : Int) - 1)) + y.natAbs := by
  intro l
  induction l with
  | nil => intro j x y h; exact absurd rfl h
  | cons k l ih =>
    intro j x y _ h
    unfold runS at h
    split at h
    · rename_i hin
      have hb := inL_iff.1 hin
      rw [lean_sg] at hb h
      by_cases hl : l = []
      · subst hl
        unfold runS at h
        injection h with h
        simp only [sumS, List.length_cons, List.length_nil]
        rcases sg_cases j with e | e <;> rw [e] at h ⊢ <;> simp <;> omega
      · have := ih (j + 1) _ y hl h
        rw [sg_next] at this
        have e2 : limit * (((k :: l).length : Int) - 1) = limit * ((l.length : Int) - 1) + limit := by
          rw [List.length_cons, show (((l.length + 1 : Nat) : Int) - 1) = ((l.length : Int) - 1) + 1 by omega, Int.mul_add, Int.mul_one]
        rw [e2]
        simp only [sumS]
        rcases sg_cases j with e | e <;> rw [e] at this hb ⊢ <;> simp at this hb ⊢ <;> omega
    · cases h
theorem run_par {limit : Int} : ∀ (l : List Int) (j : Nat) (x y : Int), runS limit l j x = some y → (sumS l - (y - x)) % 2 = 0 := by
  intro l
  induction l with
  | nil => intro j x y h; unfold runS at h; injection h with h; subst h; simp [sumS]
  | cons k l ih =>
    intro j x y h
    unfold runS at h
    split at h
    · have := ih _ _ _ h
      simp only [sumS]
      unfold leanS at this
      split at this <;> omega
    · cases h
/-- the end, with the parity of the number -/
def endS (n last : Int) : Int := if (n - last) % 2 = 0 then last else last - 1
theorem right_bound {n limit last : Int} (h0 : 0 ≤ limit) (hn : 0 < n) {l : List Int} (h : RightS n limit last l) : 0 ≤ endS n last ∧ n ≤ 2 * (limit * ((l.length : Int) - 1)) + endS n last := by
  obtain ⟨y, hr, hy⟩ := h.run
  have hs := h.sum
  have hne : l ≠ [] := by rintro rfl; simp [sumS] at hs; omega
  have h1 := run_bound h0 l 0 0 y hne hr
  have h2 := run_par l 0 0 y hr
  have h3 := inL_iff.1 hy
  simp at h1
  unfold endS
  split <;> omega
/-- with how few layers -/
def mS (n limit e : Int) : Nat := if n ≤ e then 1 else 1 + ((n - e + 2 * limit - 1) / (2 * limit)).toNat
theorem mS_spec {n limit e : Int} (hl : 1 ≤ limit) : 1 ≤ mS n limit e ∧ n ≤ 2 * (limit * ((mS n limit e : Int) - 1)) + e ∧ (mS n limit e ≠ 1 → 2 * (limit * ((mS n limit e : Int) - 2)) + e < n) := by
  unfold mS
  split
  · exact ⟨by omega, by simp; omega, fun h => absurd rfl h⟩
  · rename_i hn
    have hq0 : 0 ≤ (n - e + 2 * limit - 1) / (2 * limit) := Int.ediv_nonneg (by omega) (by omega)
    have h1 := Int.mul_ediv_add_emod (n - e + 2 * limit - 1) (2 * limit)
    have h2 := Int.emod_nonneg (n - e + 2 * limit - 1) (show 2 * limit ≠ 0 by omega)
    have h3 := Int.emod_lt_of_pos (n - e + 2 * limit - 1) (show 0 < 2 * limit by omega)
    obtain ⟨q, hq⟩ : ∃ q, q = (n - e + 2 * limit - 1) / (2 * limit) := ⟨_, rfl⟩
    rw [← hq] at hq0 h1 ⊢
    have e1 : (((1 + q.toNat : Nat)) : Int) = 1 + q := by omega
    rw [e1]
    have e2 : limit * (1 + q - 1) = limit * q := by rw [show 1 + q - 1 = q by omega]
    have e3 : limit * (1 + q - 2) = limit * q - limit := by rw [show 1 + q - 2 = q - 1 by omega, Int.mul_sub, Int.mul_one]
    have e4 : 2 * limit * q = 2 * (limit * q) := by rw [Int.mul_assoc]
    rw [e2, e3]
    rw [e4] at h1
    exact ⟨by omega, by omega, fun _ => by omega⟩
theorem mS_le {n limit e : Int} (hl : 1 ≤ limit) {m : Nat} (hm : 1 ≤ m) (h : n ≤ 2 * (limit * ((m : Int) - 1)) + e) : mS n limit e ≤ m := by
  obtain ⟨h1, h2, h3⟩ := mS_spec (n := n) (e := e) hl
  rcases Nat.lt_or_ge m (mS n limit e) with hlt | hge
  · have h4 := h3 (by omega)
    have h5 : limit * ((m : Int) - 1) ≤ limit * ((mS n limit e : Int) - 2) := Int.mul_le_mul_of_nonneg_left (by omega) (by omega)
    omega
  · exact hge
/-- the middle of a stack with the fewest layers -/
theorem fill_ex {limit last e : Int} (hl : 1 ≤ limit) (he : 0 ≤ e) (hle : e ≤ last) (hll : last ≤ limit) : ∀ (f j : Nat) (x : Int), x = - sgS j * limit → ∃ l : List Int, l.length = f + 1 ∧ (∀ k ∈ l, 1 ≤ k) ∧ sumS l = 2 * (limit * f) + limit + e ∧ ∃ y, runS limit l j x = some y ∧ inL y last = true := by
  intro f
  induction f with
  | zero =>
    intro j x hx
    refine ⟨[limit + e], rfl, by simp; omega, by simp [sumS], sgS j * e, ?_, ?_⟩
    · unfold runS
      have e1 : leanS x (limit + e) j = sgS j * e := by rw [lean_sg, hx, Int.mul_add]; rw [Int.neg_mul]; omega
      rw [e1, if_pos (inL_iff.2 (by rcases sg_cases j with e | e <;> rw [e] <;> omega))]
      rfl
    · rw [inL_iff]; rcases sg_cases j with e | e <;> rw [e] <;> omega
  | succ f ih =>
    intro j x hx
    obtain ⟨l, h1, h2, h3, y, h4, h5⟩ := ih (j + 1) (sgS j * limit) (by rw [sg_next]; simp)
    refine ⟨2 * limit :: l, by simp [h1], by intro k hk; simp at hk; rcases hk with rfl | hk; omega; exact h2 k hk, ?_, y, ?_, h5⟩
    · simp only [sumS]
      rw [h3, show ((f + 1 : Nat) : Int) = (f : Int) + 1 by omega, Int.mul_add]; omega
    · unfold runS
      have e1 : leanS x (2 * limit) j = sgS j * limit := by rw [lean_sg, hx]; rcases sg_cases j with e | e <;> rw [e] <;> omega
      rw [e1, if_pos (inL_iff.2 (by rcases sg_cases j with e | e <;> rw [e] <;> omega))]
      exact h4
theorem right_ex {n limit last : Int} (hl : 1 ≤ limit) (hn : 0 < n) (hll : last ≤ limit) (h0 : 0 ≤ last) (he : 0 ≤ endS n last) : ∃ l, RightS n limit last l ∧ l.length = mS n limit (endS n last) := by
  have hle : endS n last ≤ last := by unfold endS; split <;> omega
  have hpar : (n - endS n last) % 2 = 0 := by unfold endS; split <;> omega
  obtain ⟨h1, h2, h3⟩ := mS_spec (n := n) (e := endS n last) hl
  obtain ⟨m, hm⟩ : ∃ m, m = mS n limit (endS n last) := ⟨_, rfl⟩
  obtain ⟨e, hee⟩ : ∃ e, e = endS n last := ⟨_, rfl⟩
  rw [← hee] at he hle hpar h1 h2 h3 hm
  rw [← hm] at h1 h2 h3
  rw [← hee, ← hm]
  by_cases hm1 : m = 1
  · subst hm1
    simp at h2
    refine ⟨[n], ⟨by simp; omega, by simp [sumS], n, ?_, inL_iff.2 (by omega)⟩, rfl⟩
    unfold runS
    have e1 : leanS 0 n 0 = n := by simp [leanS]
    rw [e1, if_pos (inL_iff.2 (by omega))]
    rfl
  · have h4 := h3 hm1
    obtain ⟨f, rfl⟩ : ∃ f, m = f + 2 := ⟨m - 2, by omega⟩
    have e2 : limit * (((f + 2 : Nat) : Int) - 2) = limit * f := by rw [show ((f + 2 : Nat) : Int) - 2 = (f : Int) by omega]
    have e3 : limit * (((f + 2 : Nat) : Int) - 1) = limit * f + limit := by rw [show ((f + 2 : Nat) : Int) - 1 = (f : Int) + 1 by omega, Int.mul_add, Int.mul_one]
    rw [e2] at h4
    rw [e3] at h2
    obtain ⟨d, hd⟩ : ∃ d, n = 2 * (limit * f) + 2 * limit + e - 2 * d := ⟨(2 * (limit * f) + 2 * limit + e - n) / 2, by omega⟩
    have hd0 : 0 ≤ d := by omega
    have hd1 : d < limit := by omega
    cases f with
    | zero =>
      refine ⟨[limit - d, limit - d + e], ⟨by simp; omega, by simp [sumS]; simp at hd; omega, -e, ?_, inL_iff.2 (by omega)⟩, rfl⟩
      unfold runS
      have e1 : leanS 0 (limit - d) 0 = limit - d := by simp [leanS]
      rw [e1, if_pos (inL_iff.2 (by omega))]
      unfold runS
      have e1 : leanS (limit - d) (limit - d + e) (0 + 1) = -e := by simp [leanS]; omega
      rw [e1, if_pos (inL_iff.2 (by omega))]
      rfl
    | succ f =>
      obtain ⟨l, g1, g2, g3, y, g4, g5⟩ := fill_ex hl he hle hll f 2 (-limit) (by simp [sgS])
      refine ⟨(limit - d) :: (2 * limit - d) :: l, ⟨?_, ?_, y, ?_, g5⟩, by simp [g1]⟩
      · intro k hk
        simp at hk
        rcases hk with rfl | rfl | hk
        · omega
        · omega
        · exact g2 k hk
      · simp only [sumS]
        rw [g3]
        rw [show ((f + 1 : Nat) : Int) = (f : Int) + 1 by omega, Int.mul_add] at hd
        omega
      · unfold runS
        have e1 : leanS 0 (limit - d) 0 = limit - d := by simp [leanS]
        rw [e1, if_pos (inL_iff.2 (by omega))]
        unfold runS
        have e1 : leanS (limit - d) (2 * limit - d) (0 + 1) = -limit := by simp [leanS]; omega
        rw [e1, if_pos (inL_iff.2 (by omega))]
        exact g4
/-- whether a stack of f layers more can be made -/
def canF (n limit last : Int) : Nat → Nat → Int → Int → Bool
  | 0, _, u, x => decide (u = n) && inL x last
  | f + 1, j, u, x => (List.range (n - u).toNat).any fun i => inL (leanS x (i + 1) j) limit && canF n limit last f (j + 1) (u + (i + 1)) (leanS x (i + 1) j)
theorem can_iff {n limit last : Int} : ∀ (f j : Nat) (u x : Int), canF n limit last f j u x = true ↔ ∃ l, l.length = f ∧ FromS n limit last j u x l := by
  intro f
  induction f with
  | zero =>
    intro j u x
    unfold canF
    rw [Bool.and_eq_true, decide_eq_true_eq]
    constructor
    · rintro ⟨h1, h2⟩
      exact ⟨[], rfl, by simp, by simp [sumS, h1], x, rfl, h2⟩
    · rintro ⟨l, hl, h⟩
      obtain rfl := List.eq_nil_of_length_eq_zero hl
      obtain ⟨y, hr, hy⟩ := h.run
      unfold runS at hr
      injection hr with hr
      subst hr
      have := h.sum
      simp [sumS] at this
      exact ⟨this, hy⟩
  | succ f ih =>
    intro j u x
    unfold canF
    rw [List.any_eq_true]
    constructor
    · rintro ⟨i, hi, h⟩
      rw [Bool.and_eq_true] at h
      obtain ⟨l, hl, hf⟩ := (ih _ _ _).1 h.2
      obtain ⟨y, hr, hy⟩ := hf.run
      refine ⟨((i : Int) + 1) :: l, by simp [hl], ?_, ?_, y, ?_, hy⟩
      · intro k hk
        simp at hk
        rcases hk with rfl | hk
        · omega
        · exact hf.pos k hk
      · have := hf.sum
        simp only [sumS]; omega
      · unfold runS
        rw [if_pos h.1]; exact hr
    · rintro ⟨l, hl, h⟩
      match l, hl, h with
      | k :: l, hl, h =>
        obtain ⟨y, hr, hy⟩ := h.run
        have hs := h.sum
        have hk := h.pos k (by simp)
        have hsl : 0 ≤ sumS l := by
          have : ∀ l : List Int, (∀ k ∈ l, 1 ≤ k) → 0 ≤ sumS l := by
            intro l
            induction l with
            | nil => simp [sumS]
            | cons a l ih => intro h; have := ih (fun k hk => h k (by simp [hk])); have := h a (by simp); simp only [sumS]; omega
          exact this l fun k hk => h.pos k (by simp [hk])
        unfold runS at hr
        split at hr
        · rename_i hin
          simp only [sumS] at hs
          refine ⟨(k - 1).toNat, List.mem_range.2 (by omega), ?_⟩
          rw [show (((k - 1).toNat : Nat) : Int) + 1 = k by omega, Bool.and_eq_true]
          exact ⟨hin, (ih _ _ _).2 ⟨l, by simpa using hl, fun q hq => h.pos q (by simp [hq]), by omega, y, hr, hy⟩⟩
        · cases hr
/-- the least next layer -/
def kF (n limit last : Int) (f j : Nat) (u x : Int) : Nat :=
  ((List.range (n - u).toNat).find? fun i : Nat => inL (leanS x ((i : Int) + 1) j) limit && canF n limit last f (j + 1) (u + ((i : Int) + 1)) (leanS x ((i : Int) + 1) j)).getD 0
def grdF (n limit last : Int) : Nat → Nat → Int → Int → List Int
  | 0, _, _, _ => []
  | f + 1, j, u, x => ((kF n limit last f j u x : Int) + 1) :: grdF n limit last f (j + 1) (u + ((kF n limit last f j u x : Int) + 1)) (leanS x ((kF n limit last f j u x : Int) + 1) j)
theorem kF_spec {n limit last : Int} {f j : Nat} {u x : Int} (h : canF n limit last (f + 1) j u x = true) :
    ((kF n limit last f j u x : Nat) : Int) < n - u ∧ (inL (leanS x ((kF n limit last f j u x : Int) + 1) j) limit && canF n limit last f (j + 1) (u + ((kF n limit last f j u x : Int) + 1)) (leanS x ((kF n limit last f j u x : Int) + 1) j)) = true ∧
    ∀ i : Nat, i < kF n limit last f j u x → (inL (leanS x ((i : Int) + 1) j) limit && canF n limit last f (j + 1) (u + ((i : Int) + 1)) (leanS x ((i : Int) + 1) j)) = false := by
  unfold canF at h
  unfold kF
  cases hf : (List.range (n - u).toNat).find? (fun i : Nat => inL (leanS x ((i : Int) + 1) j) limit && canF n limit last f (j + 1) (u + ((i : Int) + 1)) (leanS x ((i : Int) + 1) j)) with
  | none =>
    rw [List.any_eq_true] at h
    obtain ⟨i, hi, hh⟩ := h
    have := List.find?_eq_none.1 hf i hi
    rw [hh] at this
    exact absurd rfl this
  | some k =>
    rw [Option.getD_some]
    have h1 := List.find?_some hf
    have h2 := List.mem_of_find?_eq_some hf
    have h3 := List.mem_range.1 h2
    refine ⟨by omega, h1, fun i hi => ?_⟩
    rw [List.find?_range_eq_some] at hf
    have := hf.2.2 i hi
    cases h : (inL (leanS x ((i : Int) + 1) j) limit && canF n limit last f (j + 1) (u + ((i : Int) + 1)) (leanS x ((i : Int) + 1) j)) with
    | false => rfl
    | true => rw [h] at this; cases this
/-- less in the order of words, for words of one length -/
def lexS : List Int → List Int → Bool
  | a :: l, b :: m => decide (a < b) || (decide (a = b) && lexS l m)
  | _, _ => false
theorem grd_spec {n limit last : Int} : ∀ (f j : Nat) (u x : Int), canF n limit last f j u x = true → (grdF n limit last f j u x).length = f ∧ FromS n limit last j u x (grdF n limit last f j u x) ∧ ∀ l, l.length = f → FromS n limit last j u x l → lexS l (grdF n limit last f j u x) = false := by
  intro f
  induction f with
  | zero =>
    intro j u x h
    obtain ⟨l, hl, hf⟩ := (can_iff 0 j u x).1 h
    obtain rfl := List.eq_nil_of_length_eq_zero hl
    refine ⟨rfl, hf, fun l hl _ => ?_⟩
    obtain rfl := List.eq_nil_of_length_eq_zero hl
    rfl
  | succ f ih =>
    intro j u x h
    obtain ⟨k1, k2, k3⟩ := kF_spec h
    unfold grdF
    obtain ⟨k, hk⟩ : ∃ k, k = kF n limit last f j u x := ⟨_, rfl⟩
    rw [← hk] at k1 k2 k3 ⊢
    rw [Bool.and_eq_true] at k2
    obtain ⟨g1, g2, g3⟩ := ih (j + 1) (u + ((k : Int) + 1)) (leanS x ((k : Int) + 1) j) k2.2
    obtain ⟨y, hr, hy⟩ := g2.run
    refine ⟨by simp [g1], ⟨?_, ?_, y, ?_, hy⟩, ?_⟩
    · intro q hq
      simp at hq
      rcases hq with rfl | hq
      · omega
      · exact g2.pos q hq
    · have := g2.sum
      simp only [sumS]; omega
    · unfold runS
      rw [if_pos k2.1]; exact hr
    · intro l hl hf
      match l, hl, hf with
      | q :: l, hl, hf =>
        obtain ⟨z, hz, hzl⟩ := hf.run
        have hq := hf.pos q (by simp)
        have hs := hf.sum
        unfold runS at hz
        split at hz
        · rename_i hin
          simp only [sumS] at hs
          have hfl : FromS n limit last (j + 1) (u + q) (leanS x q j) l := ⟨fun a ha => hf.pos a (by simp [ha]), by omega, z, hz, hzl⟩
          unfold lexS
          rcases Int.lt_trichotomy q ((k : Int) + 1) with c | c | c
          · have := k3 (q - 1).toNat (by omega)
            rw [show (((q - 1).toNat : Nat) : Int) + 1 = q by omega, hin, (can_iff _ _ _ _).2 ⟨l, by simpa using hl, hfl⟩] at this
            cases this
          · have := g3 l (by simpa using hl) (by rw [← c]; exact hfl)
            simp [c, this]
          · simp; omega
        · cases hz
/-- what Turns returns -/
def turnS (n limit last : Int) : Option (List Int) := if endS n last < 0 then none else some (grdF n limit last (mS n limit (endS n last)) 0 0 0)
structure TurnP (n limit last : Int) (l : List Int) : Prop where
  right : RightS n limit last l
  few : ∀ m, RightS n limit last m → l.length < m.length ∨ (l.length = m.length ∧ lexS m l = false)
theorem turn_can {n limit last : Int} (hl : 1 ≤ limit) (hn : 0 < n) (hll : last ≤ limit) (h0 : 0 ≤ last) (he : 0 ≤ endS n last) : canF n limit last (mS n limit (endS n last)) 0 0 0 = true := by
  obtain ⟨l, h1, h2⟩ := right_ex hl hn hll h0 he
  exact (can_iff _ _ _ _).2 ⟨l, h2, h1⟩
theorem turn_some {n limit last : Int} (hl : 1 ≤ limit) (hn : 0 < n) (hll : last ≤ limit) (h0 : 0 ≤ last) (he : 0 ≤ endS n last) : TurnP n limit last (grdF n limit last (mS n limit (endS n last)) 0 0 0) := by
  obtain ⟨g1, g2, g3⟩ := grd_spec _ _ _ _ (turn_can hl hn hll h0 he)
  refine ⟨g2, fun m hm => ?_⟩
  obtain ⟨_, hb⟩ := right_bound (by omega) hn hm
  have hne : m ≠ [] := by rintro rfl; have := hm.sum; simp [sumS] at this; omega
  have hml : 1 ≤ m.length := by cases m with | nil => exact absurd rfl hne | cons a m => simp
  have := mS_le hl hml hb
  rw [g1]
  rcases Nat.lt_or_ge (mS n limit (endS n last)) m.length with h | h
  · exact .inl h
  · exact .inr ⟨by omega, g3 m (by omega) hm⟩
theorem turn_none {n limit last : Int} (hl : 1 ≤ limit) (hn : 0 < n) (he : endS n last < 0) (l : List Int) : ¬ RightS n limit last l := fun h => by
  have := (right_bound (by omega) hn h).1
  omega
theorem lex_tri : ∀ (a b : List Int), a.length = b.length → lexS a b = false → lexS b a = false → a = b := by
  intro a
  induction a with
  | nil => intro b hl _ _; exact (List.eq_nil_of_length_eq_zero hl.symm).symm
  | cons x a ih =>
    intro b hl h1 h2
    match b, hl, h1, h2 with
    | y :: b, hl, h1, h2 =>
      unfold lexS at h1 h2
      simp only [Bool.or_eq_false_iff, decide_eq_false_iff_not, Bool.and_eq_false_iff] at h1 h2
      have hxy : x = y := by omega
      subst hxy
      have := ih b (by simpa using hl) (by simpa using h1.2) (by simpa using h2.2)
      rw [this]
theorem TurnP.unique {n limit last : Int} {l m : List Int} (h : TurnP n limit last l) (k : TurnP n limit last m) : l = m := by
  rcases h.few m k.right with a | ⟨a, b⟩ <;> rcases k.few l h.right with c | ⟨c, d⟩
  · omega
  · omega
  · omega
  · exact lex_tri l m a d b
end Go.Ml
