/- Plain facts for the law of zones: good copies between two runs; conditions: none. -/
import Derived.Test.YtnbnfadmbggfnaaQR
set_option linter.unusedSimpArgs false
set_option linter.unusedVariables false
namespace Go.Rl
open Go.Fh
theorem cnt_clip_s : ∀ (l : List (Int × Int)), (∀ s ∈ l, s.1 ≤ s.2) → l.Pairwise (fun a b => a.2 + 1 < b.1) → ∀ n : Int, cntS (clip (n + 1) l) = cntS (clip n l) + (if outS l n = true then 1 else 0) := by
  intro l
  induction l with
  | nil => intro _ _ n; simp [clip, cntS, outS]
  | cons s l ih =>
    intro hle hg n
    have h1 := hle s (by simp)
    have hp := List.pairwise_cons.1 hg
    have ih := ih (fun x hx => hle x (by simp [hx])) hp.2 n
    have ho : outS (s :: l) n = (decide (s.1 ≤ n ∧ n ≤ s.2) || outS l n) := by simp [outS]
    have hno : n ≤ s.2 + 1 → outS l n = false := fun h => by
      cases hh : outS l n with
      | false => rfl
      | true =>
        obtain ⟨x, hx, h2, h3⟩ := outS_iff.1 hh
        have := hp.1 x hx
        omega
    have hcl : n ≤ s.2 + 1 → clip n l = [] := fun h => clip_none fun x hx => by have := hp.1 x hx; omega
    have hcl1 : n + 1 ≤ s.2 + 1 → clip (n + 1) l = [] := fun h => clip_none fun x hx => by have := hp.1 x hx; omega
    rw [ho]
    unfold clip
    by_cases a : s.1 < n
    · rw [if_pos (show s.1 < n + 1 by omega), if_pos a]
      simp only [cntS]
      by_cases b : n ≤ s.2
      · rw [show decide (s.1 ≤ n ∧ n ≤ s.2) = true from decide_eq_true ⟨by omega, b⟩, hcl (by omega), hcl1 (by omega)]
        simp only [cntS, Bool.true_or, if_true]
        omega
      · rw [show decide (s.1 ≤ n ∧ n ≤ s.2) = false from decide_eq_false (by omega), Bool.false_or, ih]
        omega
    · by_cases b : s.1 = n
      · rw [if_pos (show s.1 < n + 1 by omega), if_neg a, show decide (s.1 ≤ n ∧ n ≤ s.2) = true from decide_eq_true ⟨by omega, by omega⟩, hcl (by omega), hcl1 (by omega)]
        simp only [cntS, Bool.true_or, if_true]
        omega
      · rw [if_neg (show ¬ s.1 < n + 1 by omega), if_neg a, show decide (s.1 ≤ n ∧ n ≤ s.2) = false from decide_eq_false (by omega), Bool.false_or]
        exact ih
/-- how many of the first n copies are good -/
def goodN (p : PrsD) (n : Int) : Int := n - cntS (clip n (thrP p (rchP p)))
theorem good_s (p : PrsD) (n : Int) : goodN p (n + 1) = goodN p n + (if outS (thrP p (rchP p)) n = true then 0 else 1) := by
  have hj := thr_join p (rchP p)
  unfold goodN
  rw [cnt_clip_s _ hj.le hj.gap n]
  split <;> omega
theorem good_add (p : PrsD) (n : Int) (d : Nat) : goodN p n ≤ goodN p (n + d) := by
  induction d with
  | zero => simp
  | succ d ih =>
    have := good_s p (n + d)
    rw [show n + ((d + 1 : Nat) : Int) = n + d + 1 by omega, this]
    split <;> omega
theorem good_mono (p : PrsD) {n m : Int} (h : n ≤ m) : goodN p n ≤ goodN p m := by
  have := good_add p n (m - n).toNat
  rw [show n + ((m - n).toNat : Int) = m by omega] at this
  exact this
theorem run_good {p : PrsD} (g : Int) : goodN p (runN (thrP p (rchP p)) g) = g ∧ ∀ m, m < runN (thrP p (rchP p)) g → goodN p m < g := by
  have hj := thr_join p (rchP p)
  obtain ⟨a, _, c⟩ := run_spec _ hj.le hj.gap g
  exact ⟨a, c⟩
/-- what Run says of the end says what it says of the beginning -/
theorem run_two {p : PrsD} (h : errP p = 0) {lo hi : Int} (h0 : 0 ≤ lo) (h1 : lo ≤ hi) (h2 : hi ≤ 1000000) :
    (runP p hi).2 = 70 ∨ ∃ a b : Int, runP p lo = (a, 0) ∧ runP p hi = (b, 0) ∧ 0 ≤ a ∧ a ≤ b ∧ b ≤ rchP p ∧ goodN p a = lo ∧ goodN p b = hi := by
  rcases run_cases h (g := hi) (by omega) h2 with ⟨e, _⟩ | ⟨e, b0, b1, _⟩
  · exact .inl (by rw [e])
  · right
    obtain ⟨gb, _⟩ := run_good (p := p) hi
    obtain ⟨ga, la⟩ := run_good (p := p) lo
    rcases run_cases h (g := lo) h0 (by omega) with ⟨_, k⟩ | ⟨e2, a0, a1, _⟩
    · exfalso
      have := good_mono p b1
      have hc : goodN p (rchP p) = rchP p - cntS (thrP p (rchP p)) := by unfold goodN; rw [← thr_clip (Int.le_refl _)]
      omega
    · refine ⟨_, _, e2, e, a0, ?_, b1, ga, gb⟩
      rcases Int.lt_or_le (runN (thrP p (rchP p)) hi) (runN (thrP p (rchP p)) lo) with hlt | hle
      · have := la _ hlt
        omega
      · exact hle
end Go.Rl
