/- Plain laws of scores; conditions: none. -/
import Derived.Test.YtgopdfbmddkpfaaG4
set_option linter.unusedSimpArgs false
set_option linter.unusedVariables false
namespace Go.Ag
open Go.Proofs.Ytgopdfbmddkpfaa
theorem lossOf_twice (s r q over under : Int) : lossOf s r q (2 * over) (2 * under) = 2 * lossOf s r q over under := by
  unfold lossOf
  split
  · rw [Int.mul_assoc]
  · split
    · rw [Int.mul_assoc]
    · rfl
theorem rateN_twice (m : Int × Int) (h : List (Int × Int)) (over under : Int) (k : Nat) : rateN m h (2 * over) (2 * under) k = ((rateN m h over under k).1, 2 * (rateN m h over under k).2) := by
  induction k with
  | zero => rfl
  | succ k ih =>
    unfold rateN
    rw [ih, lossOf_twice]
    split
    · simp only [Prod.mk.injEq, true_and]; omega
    · rfl
/-- what a ratio is: the two numbers without a common factor -/
theorem ratioD_spec {n d : Nat} (hd : 0 < d) : ∃ g : Nat, 0 < g ∧ (n : Int) = (ratioD n d).1 * g ∧ (d : Int) = (ratioD n d).2 * g ∧ 1 ≤ (ratioD n d).2 ∧ 0 ≤ (ratioD n d).1 := by
  have hg : 0 < Nat.gcd n d := Nat.gcd_pos_of_pos_right _ hd
  refine ⟨Nat.gcd n d, hg, ?_, ?_, ?_, ?_⟩
  · unfold ratioD
    dsimp only
    rw [← Int.natCast_mul, Nat.div_mul_cancel (Nat.gcd_dvd_left n d)]
  · unfold ratioD
    dsimp only
    rw [← Int.natCast_mul, Nat.div_mul_cancel (Nat.gcd_dvd_right n d)]
  · unfold ratioD
    dsimp only
    have := Nat.div_pos (Nat.le_of_dvd hd (Nat.gcd_dvd_right n d)) hg
    omega
  · unfold ratioD
    exact Int.natCast_nonneg _
theorem ratioD_cross {n d : Nat} (hd : 0 < d) : (ratioD n d).1 * d = n * (ratioD n d).2 := by
  obtain ⟨g, hg, hn, hdd, _, _⟩ := ratioD_spec (n := n) hd
  conv => lhs; rw [hdd]
  conv => rhs; rw [hn]
  rw [← Int.mul_assoc, Int.mul_right_comm]
theorem ratioD_twice {n d : Nat} (hd : 0 < d) : (ratioD (2 * n) d).1 * (ratioD n d).2 = 2 * (ratioD n d).1 * (ratioD (2 * n) d).2 := by
  obtain ⟨g, hg, hn, hdd, h1, _⟩ := ratioD_spec (n := n) hd
  obtain ⟨g', hg', hn', hdd', h1', _⟩ := ratioD_spec (n := 2 * n) hd
  have e : ((2 * n : Nat) : Int) = 2 * (n : Int) := by omega
  rw [e, hn] at hn'
  rw [hdd] at hdd'
  -- 2 N g = N' g',  D g = D' g'
  refine Int.eq_of_mul_eq_mul_right (a := (g' : Int)) (by omega) ?_
  calc (ratioD (2 * n) d).1 * (ratioD n d).2 * g' = ((ratioD (2 * n) d).1 * g') * (ratioD n d).2 := by rw [Int.mul_right_comm]
    _ = (2 * ((ratioD n d).1 * g)) * (ratioD n d).2 := by rw [← hn']
    _ = 2 * (ratioD n d).1 * ((ratioD n d).2 * g) := by rw [← Int.mul_assoc, Int.mul_assoc (2 * (ratioD n d).1), Int.mul_comm (g : Int)]
    _ = 2 * (ratioD n d).1 * ((ratioD (2 * n) d).2 * g') := by rw [hdd']
    _ = 2 * (ratioD n d).1 * (ratioD (2 * n) d).2 * g' := by rw [← Int.mul_assoc]
theorem mul_pos_lt {a b c : Int} (hc : 0 < c) (h : a < b) : a * c < b * c := Int.mul_lt_mul_of_pos_right h hc
theorem lt_of_mul_right {a b c : Int} (hc : 0 < c) (h : a * c < b * c) : a < b := Int.lt_of_mul_lt_mul_right h (by omega)
/-- the chosen score against all that were looked at -/
def ChInv (r : Nat → Nat × Int) (C : Sco) (K : Nat) : Prop :=
  (0 ≤ C.1 → ∃ k : Nat, k < K ∧ C.1 = (k : Int) ∧ 0 < (r k).1) ∧ (C.1 < 0 → ∀ k < K, (r k).1 = 0) ∧ (0 ≤ C.1 → 1 ≤ C.2.2.2) ∧
  ∀ k < K, 0 < (r k).1 → 0 ≤ C.1 ∧ C.2.2.1 * (r k).1 ≤ (r k).2 * C.2.2.2 ∧ ((k : Int) = C.1 → C.2 = ((((r k).1 : Nat) : Int), ratioD (r k).2.toNat (r k).1)) ∧ ((k : Int) < C.1 → C.2.2.1 * (r k).1 < (r k).2 * C.2.2.2)
theorem chooseN_inv {l h : List (Int × Int)} {over under : Int} (hr : ∀ k, 0 ≤ (rateN (l.getD k (0, 0)) h over under h.length).2) (K : Nat) : ChInv (fun k => rateN (l.getD k (0, 0)) h over under h.length) (chooseN l h over under K) K := by
  induction K with
  | zero => exact ⟨fun h => by simp [chooseN] at h, fun _ k hk => by omega, fun h => by simp [chooseN] at h, fun k hk => by omega⟩
  | succ K ih =>
    have hrK := hr K
    unfold chooseN
    generalize hR : rateN (l.getD K (0, 0)) h over under h.length = R at hrK
    generalize chooseN l h over under K = C at ih
    obtain ⟨i1, i2, i3, i4⟩ := ih
    dsimp only at i1 i2 i3 i4
    by_cases hc : 0 < R.1 ∧ (C.1 < 0 ∨ R.2 * C.2.2.2 < C.2.2.1 * (R.1 : Nat))
    · rw [if_pos hc]
      obtain ⟨g, hg, hn, hd, hp, hp0⟩ := ratioD_spec (n := R.2.toNat) hc.1
      rw [Int.toNat_of_nonneg hrK] at hn
      have hgi : (0 : Int) < g := by omega
      refine ⟨fun _ => ⟨K, by omega, rfl, by dsimp only; rw [hR]; exact hc.1⟩, fun h => by dsimp only at h; omega, fun _ => hp, ?_⟩
      intro k hk hpos
      dsimp only at hpos ⊢
      refine ⟨by omega, ?_⟩
      by_cases hkK : k = K
      · subst hkK
        rw [hR]
        have hx := ratioD_cross (n := R.2.toNat) hc.1
        rw [Int.toNat_of_nonneg hrK] at hx
        exact ⟨by omega, fun _ => rfl, fun h => by omega⟩
      · obtain ⟨j1, j2, j3, j4⟩ := i4 k (by omega) hpos
        have hlt : R.2 * C.2.2.2 < C.2.2.1 * (R.1 : Nat) := by
          rcases hc.2 with h | h
          · omega
          · exact h
        have hD := i3 j1
        generalize rateN (l.getD k (0, 0)) h over under h.length = r at *
        generalize (ratioD R.2.toNat R.1).1 = N' at *
        generalize (ratioD R.2.toNat R.1).2 = D' at *
        have e1 : N' * C.2.2.2 < C.2.2.1 * D' := by
          refine lt_of_mul_right hgi ?_
          rw [hn, hd] at hlt
          rw [Int.mul_right_comm, Int.mul_assoc C.2.2.1]
          exact hlt
        have hrp : (0 : Int) < (r.1 : Nat) := by omega
        have e2 : N' * r.1 < r.2 * D' := by
          refine lt_of_mul_right (c := C.2.2.2) (by omega) ?_
          have f1 := mul_pos_lt hrp e1
          have f2 := Int.mul_le_mul_of_nonneg_right j2 (show 0 ≤ D' by omega)
          have g1 : N' * (r.1 : Int) * C.2.2.2 = N' * C.2.2.2 * r.1 := by rw [Int.mul_right_comm]
          have g2 : r.2 * D' * C.2.2.2 = r.2 * C.2.2.2 * D' := by rw [Int.mul_right_comm]
          have g3 : C.2.2.1 * (r.1 : Int) * D' = C.2.2.1 * D' * r.1 := by rw [Int.mul_right_comm]
          omega
        exact ⟨by omega, fun h => by omega, fun _ => e2⟩
    · rw [if_neg hc]
      refine ⟨fun h => ?_, fun h k hk => ?_, i3, ?_⟩
      · obtain ⟨k, h1, h2, h3⟩ := i1 h
        exact ⟨k, by omega, h2, h3⟩
      · by_cases hkK : k = K
        · subst hkK
          dsimp only
          rw [hR]
          by_cases h0 : R.1 = 0
          · exact h0
          · exact absurd ⟨by omega, .inl h⟩ hc
        · exact i2 h k (by omega)
      · intro k hk hpos
        by_cases hkK : k = K
        · subst hkK
          dsimp only at hpos ⊢
          rw [hR] at hpos ⊢
          have h1 : ¬ C.1 < 0 := fun h => hc ⟨hpos, .inl h⟩
          have h2 : ¬ R.2 * C.2.2.2 < C.2.2.1 * (R.1 : Nat) := fun h => hc ⟨hpos, .inr h⟩
          obtain ⟨k', h3, h4, h5⟩ := i1 (by omega)
          exact ⟨by omega, by omega, fun h => by omega, fun h => by omega⟩
        · exact i4 k (by omega) hpos
/-- the methods that the law makes of numbers -/
def methN (l : List Int) : Nat := min (l.length / 2) 10
def methF (l : List Int) (k : Nat) : Int × Int := (1 + l.getD (2 * k) 0 % 4, if l.getD (2 * k) 0 % 4 = 0 then 1 else 1 + l.getD (2 * k + 1) 0 % 8)
def methD (l : List Int) : List (Int × Int) := uptoF (methF l) (methN l)
theorem methD_len (l : List Int) : (methD l).length = methN l ∧ methN l ≤ 10 := by simp [methD, uptoF_length, methN]; omega
theorem methF_ok (l : List Int) (k : Nat) : wrongM (methF l k) = false := by
  unfold methF
  have h1 : 0 ≤ l.getD (2 * k) 0 % 4 := Int.emod_nonneg _ (by decide)
  have h2 : l.getD (2 * k) 0 % 4 < 4 := Int.emod_lt_of_pos _ (by decide)
  have h3 : 0 ≤ l.getD (2 * k + 1) 0 % 8 := Int.emod_nonneg _ (by decide)
  have h4 : l.getD (2 * k + 1) 0 % 8 < 8 := Int.emod_lt_of_pos _ (by decide)
  simp only [wrongM, inB, Bool.or_eq_false_iff, Bool.not_eq_false', decide_eq_true_iff, Bool.and_eq_false_iff, decide_eq_false_iff_not]
  split <;> omega
theorem methD_ok (l : List Int) : ∀ m ∈ methD l, wrongM m = false := by
  intro m hm
  simp only [methD, uptoF, List.mem_map] at hm
  obtain ⟨k, _, rfl⟩ := hm
  exact methF_ok l k
end Go.Ag
