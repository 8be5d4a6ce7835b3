/- Which copies are thrown out, and how many must be printed: the plain law; conditions: none. No program in sight. -/
import Derived.Test.YtnbnfadmbggfnaaC4
import Derived.Test.YtnbnfadmbggfnaaC6
set_option linter.unusedSimpArgs false
set_option linter.unusedVariables false
namespace Go.Rl
open Go.Fh Go.RowKit
/-- the copies of the first n that are thrown out -/
def thrP (p : PrsD) (n : Int) : List (Int × Int) := joinC (rawK p n p.webs.length)
theorem raw_all (p : PrsD) (n : Int) : rawK p n p.webs.length = p.webs.flatMap (rawW p n) := by
  unfold rawK; rw [List.take_length]
theorem spn_cov (p : PrsD) (n : Int) (v : WebD) (x k : Int) : cvS (spnS p n v x) k ↔ v.bef + v.aft ≠ 0 ∧ loS p v x ≤ k ∧ k ≤ hiS p v n x := by
  unfold spnS
  split
  · rename_i h
    exact ⟨fun h2 => absurd h2 (cv_nil _), fun h2 => absurd h h2.1⟩
  · rename_i h
    split
    · rw [cv_cons]
      dsimp only
      have := cv_nil k
      constructor
      · rintro (h2 | h2)
        · exact ⟨h, h2⟩
        · exact absurd h2 this
      · rintro ⟨_, h2⟩; exact .inl h2
    · exact ⟨fun h2 => absurd h2 (cv_nil _), fun h2 => by omega⟩
theorem cv_flat {α : Type} (f : α → List (Int × Int)) (l : List α) (k : Int) : cvS (l.flatMap f) k ↔ ∃ x ∈ l, cvS (f x) k := by
  constructor
  · rintro ⟨s, hs, h⟩
    obtain ⟨x, hx, h2⟩ := List.mem_flatMap.1 hs
    exact ⟨x, hx, s, h2, h⟩
  · rintro ⟨x, hx, s, h2, h⟩
    exact ⟨s, List.mem_flatMap.2 ⟨x, hx, h2⟩, h⟩
/-- copy k is near what a splice at x spoils -/
def nearS (p : PrsD) (v : WebD) (x k : Int) : Prop := v.bef + v.aft ≠ 0 ∧ loS p v x ≤ k ∧ k ≤ (x + v.aft - 1 - v.off) / p.cut + p.margin
theorem raw_cov (p : PrsD) (n k : Int) : cvS (rawK p n p.webs.length) k ↔ (∃ v ∈ p.webs, ∃ x ∈ plcs v.reels, nearS p v x k) ∧ k ≤ n - 1 := by
  rw [raw_all, cv_flat]
  constructor
  · rintro ⟨v, hv, h⟩
    unfold rawW at h
    rw [cv_flat] at h
    obtain ⟨x, hx, h⟩ := h
    rw [spn_cov] at h
    unfold hiS at h
    exact ⟨⟨v, hv, x, hx, h.1, h.2.1, by omega⟩, by omega⟩
  · rintro ⟨⟨v, hv, x, hx, h⟩, h2⟩
    refine ⟨v, hv, ?_⟩
    unfold rawW
    rw [cv_flat]
    refine ⟨x, hx, ?_⟩
    rw [spn_cov]
    unfold hiS
    exact ⟨h.1, h.2.1, by have := h.2.2; omega⟩
theorem thr_join (p : PrsD) (n : Int) : JoinP (rawK p n p.webs.length) (thrP p n) := joinC_join fun s hs => (rawK_bd hs).2.1
theorem thr_bd {p : PrsD} {n : Int} {s : Int × Int} (h : s ∈ thrP p n) : 0 ≤ s.1 ∧ s.1 ≤ s.2 ∧ s.2 ≤ n - 1 := joinC_bd (fun s hs => rawK_bd hs) s h
theorem thr_cov (p : PrsD) (n k : Int) : cvS (thrP p n) k ↔ (∃ v ∈ p.webs, ∃ x ∈ plcs v.reels, nearS p v x k) ∧ k ≤ n - 1 := ((thr_join p n).cov k).trans (raw_cov p n k)
theorem thr_clip {p : PrsD} {n R : Int} (h : n ≤ R) : thrP p n = clip n (thrP p R) := by
  have hR := thr_join p R
  refine apart_eq _ _ (thr_join p n).le (fun s hs => ?_) (thr_join p n).gap (clip_gap hR.le hR.gap) fun k => ?_
  · obtain ⟨_, _, _, _, h⟩ := clip_mem hR.le hs; exact h
  · rw [clip_cov, thr_cov, thr_cov]
    constructor
    · rintro ⟨h1, h2⟩; exact ⟨⟨h1, by omega⟩, by omega⟩
    · rintro ⟨⟨h1, _⟩, h2⟩; exact ⟨h1, by omega⟩
theorem thr_len {p : PrsD} (hp : ∀ v ∈ p.webs, v.reels.length ≤ 20) (n : Int) : (thrP p n).length ≤ 20 * p.webs.length := Nat.le_trans (joinC_len _) (rawK_len n hp _)
/-- how many copies must be printed -/
def runP (p : PrsD) (g : Int) : Int × Int :=
  if askE p g 1000000 ≠ 0 then (0, askE p g 1000000) else if g = 0 then (0, 0) else if rchP p < runN (thrP p (rchP p)) g then (0, 70) else (runN (thrP p (rchP p)) g, 0)
theorem runN_bd {p : PrsD} {R g : Int} (hR : 0 ≤ R) : ∀ l : List (Int × Int), (∀ s ∈ l, 0 ≤ s.1 ∧ s.1 ≤ s.2 ∧ s.2 ≤ R - 1) → runN l g ≤ g + R * l.length := by
  intro l
  induction l generalizing g with
  | nil => intro _; simp [runN]
  | cons s l ih =>
    intro h
    have hs := h s (by simp)
    have := ih (g := g + (s.2 - s.1 + 1)) fun s hs => h s (by simp [hs])
    have e : R * ((s :: l).length : Int) = R * (l.length : Int) + R := by simp [Int.mul_add]
    have h0 : 0 ≤ R * (l.length : Int) := Int.mul_nonneg hR (by omega)
    rw [runN, e]
    split
    · omega
    · omega
end Go.Rl
