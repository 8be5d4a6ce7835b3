/- Plain facts for the law of copies: what the reference looks at copy by copy is what the layer reckons; conditions: right presses. No program in sight. -/
import Derived.Test.YtnbnfadmbggfnaaCM
import Derived.Test.YtnbnfadmbggfnaaQH
set_option linter.unusedSimpArgs false
set_option linter.unusedVariables false
namespace Go.Rl
open Go.Fh
/-- a copy takes a spoiled millimetre of a splice -/
def spX (p : PrsD) (v : WebD) (k x : Int) : Bool :=
  decide (x - v.bef ≤ x + v.aft - 1) && (decide (x - v.bef ≤ v.off + k * p.cut + p.cut - 1) && decide (v.off + k * p.cut ≤ x + v.aft - 1))
def spW (p : PrsD) (k : Int) (v : WebD) : Bool := (plcs v.reels).any (spX p v k)
def spB (p : PrsD) (k : Int) : Bool := p.webs.any (spW p k)
def ouB (p : PrsD) (k : Int) : Bool := (List.range (2 * p.margin + 1).toNat).any fun d => spB p (k - p.margin + d)
theorem spX_iff {p : PrsD} {v : WebD} {k x : Int} (hc : 0 < p.cut) : spX p v k x = true ↔ x - v.bef ≤ x + v.aft - 1 ∧ (x - v.bef - v.off) / p.cut ≤ k ∧ k ≤ (x + v.aft - 1 - v.off) / p.cut := by
  unfold spX
  simp only [Bool.and_eq_true, decide_eq_true_eq]
  have h1 : (x - v.bef - v.off) / p.cut ≤ k ↔ x - v.bef - v.off < (k + 1) * p.cut := by
    rw [← Int.lt_add_one_iff]; exact Int.ediv_lt_iff_lt_mul hc
  have h2 : k ≤ (x + v.aft - 1 - v.off) / p.cut ↔ k * p.cut ≤ x + v.aft - 1 - v.off := Int.le_ediv_iff_mul_le hc
  rw [h1, h2, Int.add_mul, Int.one_mul]
  omega
theorem ouB_iff {p : PrsD} (h : PrsOk p) {k : Int} (hk : 0 ≤ k) : ouB p k = true ↔ ∃ v ∈ p.webs, ∃ x ∈ plcs v.reels, nearS p v x k := by
  have hc : 0 < p.cut := by have := h.c0; omega
  have hm := h.m0
  unfold ouB
  rw [List.any_eq_true]
  constructor
  · rintro ⟨d, hd, hs⟩
    unfold spB at hs
    obtain ⟨v, hv, hs⟩ := List.any_eq_true.1 hs
    unfold spW at hs
    obtain ⟨x, hx, hs⟩ := List.any_eq_true.1 hs
    rw [spX_iff hc] at hs
    refine ⟨v, hv, x, hx, by omega, ?_, ?_⟩
    · unfold loS
      have := List.mem_range.1 hd
      omega
    · have := List.mem_range.1 hd
      omega
  · rintro ⟨v, hv, x, hx, h1, h2, h3⟩
    have hb := (h.w v hv).b0
    have ha := (h.w v hv).a0
    have hle : (x - v.bef - v.off) / p.cut ≤ (x + v.aft - 1 - v.off) / p.cut := Int.ediv_le_ediv hc (by omega)
    unfold loS at h2
    obtain ⟨j, hj1, hj2, hj3, hj4⟩ : ∃ j, k - p.margin ≤ j ∧ j ≤ k + p.margin ∧ (x - v.bef - v.off) / p.cut ≤ j ∧ j ≤ (x + v.aft - 1 - v.off) / p.cut :=
      ⟨max (k - p.margin) ((x - v.bef - v.off) / p.cut), by omega, by omega, by omega, by omega⟩
    refine ⟨(j - (k - p.margin)).toNat, List.mem_range.2 (by omega), ?_⟩
    rw [show k - p.margin + ((j - (k - p.margin)).toNat : Int) = j by omega]
    unfold spB
    refine List.any_eq_true.2 ⟨v, hv, ?_⟩
    unfold spW
    refine List.any_eq_true.2 ⟨x, hx, ?_⟩
    rw [spX_iff hc]
    exact ⟨by omega, hj3, hj4⟩
/-- the copies of the first ones that are thrown out, one by one -/
def oneL (p : PrsD) : Nat → List (Int × Int)
  | 0 => []
  | k + 1 => oneL p k ++ (if ouB p k then [((k : Int), (k : Int))] else [])
def thR (p : PrsD) (k : Nat) : List (Int × Int) := jnF (oneL p k)
theorem oneL_mem {p : PrsD} {k : Nat} {s : Int × Int} : s ∈ oneL p k ↔ ∃ j : Nat, j < k ∧ ouB p j = true ∧ s = ((j : Int), (j : Int)) := by
  induction k with
  | zero => simp [oneL]
  | succ k ih =>
    unfold oneL
    rw [List.mem_append, ih]
    constructor
    · rintro (⟨j, hj, ho, e⟩ | hm)
      · exact ⟨j, by omega, ho, e⟩
      · split at hm
        · rename_i ho; exact ⟨k, by omega, ho, by simpa using hm⟩
        · simp at hm
    · rintro ⟨j, hj, ho, e⟩
      by_cases hjk : j = k
      · subst hjk; right; rw [if_pos ho]; simp [e]
      · exact .inl ⟨j, by omega, ho, e⟩
theorem oneL_pw (p : PrsD) (k : Nat) : (oneL p k).Pairwise fun a b => a.1 ≤ b.1 := by
  induction k with
  | zero => simp [oneL]
  | succ k ih =>
    unfold oneL
    rw [List.pairwise_append]
    refine ⟨ih, by split <;> simp, fun a ha b hb => ?_⟩
    obtain ⟨j, hj, _, rfl⟩ := oneL_mem.1 ha
    split at hb
    · simp at hb; subst hb; dsimp only; omega
    · simp at hb
theorem thR_join (p : PrsD) (k : Nat) : JoinP (oneL p k) (thR p k) := (jnF_join _ (fun s hs => by obtain ⟨j, _, _, rfl⟩ := oneL_mem.1 hs; simp) (oneL_pw p k)).1
theorem thR_bd {p : PrsD} {k : Nat} {s : Int × Int} (h : s ∈ thR p k) : 0 ≤ s.1 ∧ s.1 ≤ s.2 ∧ s.2 ≤ (k : Int) - 1 :=
  jnF_bd (oneL p k) (fun s hs => by obtain ⟨j, hj, _, rfl⟩ := oneL_mem.1 hs; dsimp only; omega) s h
theorem thR_len (p : PrsD) (k : Nat) : (thR p k).length ≤ k := by
  refine Nat.le_trans (jnF_len _) ?_
  induction k with
  | zero => simp [oneL]
  | succ k ih => unfold oneL; rw [List.length_append]; split <;> simp <;> omega
theorem thR_no {p : PrsD} {k : Nat} (h : ouB p k = false) : thR p (k + 1) = thR p k := by unfold thR; rw [oneL, h]; simp
theorem thR_yes {p : PrsD} {k : Nat} (h : ouB p k = true) : thR p (k + 1) = jnS (thR p k) ((k : Int), (k : Int)) := by
  unfold thR; rw [oneL, if_pos h]; exact jnF_snoc _ _
theorem thR_eq {p : PrsD} (h : PrsOk p) (n : Nat) : thR p n = thrP p n := by
  have h1 := thR_join p n
  have h2 := thr_join p n
  refine apart_eq _ _ h1.le h2.le h1.gap h2.gap fun k => ?_
  rw [h1.cov, thr_cov]
  constructor
  · rintro ⟨s, hs, ha, hb⟩
    obtain ⟨j, hj, ho, rfl⟩ := oneL_mem.1 hs
    dsimp only at ha hb
    obtain rfl : k = (j : Int) := by omega
    exact ⟨(ouB_iff h (by omega)).1 ho, by omega⟩
  · rintro ⟨hv, hk⟩
    have h0 : 0 ≤ k := by
      obtain ⟨v, _, x, _, hn⟩ := hv
      have := hn.2.1
      unfold loS at this
      omega
    have ho := (ouB_iff h h0).2 hv
    obtain ⟨j, rfl⟩ : ∃ j : Nat, k = (j : Int) := ⟨k.toNat, by omega⟩
    exact ⟨((j : Int), (j : Int)), oneL_mem.2 ⟨j, by omega, ho, rfl⟩, by dsimp only; omega, by dsimp only; omega⟩
/-- what is used of a reel -/
theorem us_eq {v : WebD} {L0 : Int} (h : ∀ r ∈ v.reels, ReelOk r) (h0 : 0 ≤ L0) {j : Nat} (hj : j < v.reels.length) : min (lfJ v L0 j) (giv v.reels[j]) = max (min L0 (gsum v.reels (j + 1)) - gsum v.reels j) 0 := by
  rw [lfJ_eq h h0 j (by omega), gsum_s hj]
  have h2 := h v.reels[j] (List.getElem_mem _)
  have hc1 := h2.c1
  unfold giv
  omega
/-- how many good copies there are among the first ones: the loop of Run -/
theorem ou_out {p : PrsD} (h : errP p = 0) {k : Int} (hk : 0 ≤ k) (hr : k < rchP p) : outS (thrP p (rchP p)) k = ouB p k := by
  have hp := prs_ok h
  have e : outS (thrP p (rchP p)) k = true ↔ ouB p k = true := by
    rw [outS_iff, thr_cov, ouB_iff hp hk]
    exact ⟨fun h => h.1, fun h => ⟨h, by omega⟩⟩
  cases h1 : outS (thrP p (rchP p)) k with
  | true => exact (e.1 h1).symm
  | false =>
    cases h2 : ouB p k with
    | false => rfl
    | true => rw [e.2 h2] at h1; cases h1
theorem good_0 (p : PrsD) : goodN p 0 = 0 := by
  have h1 := thr_join p (rchP p)
  unfold goodN
  rw [clip_none (fun s hs => (thr_bd hs).1)]
  rfl
theorem good_le (p : PrsD) (k : Nat) : goodN p k ≤ k := by
  induction k with
  | zero => have := good_0 p; simp [this]
  | succ k ih =>
    have := good_s p k
    rw [show ((k + 1 : Nat) : Int) = (k : Int) + 1 by omega, this]
    split <;> omega
/-- the answer of Run at the first number of copies that is enough -/
theorem runP_end {p : PrsD} (h : errP p = 0) {g : Int} (h0 : 0 < g) (h1 : g ≤ 1000000) {k : Nat} (hk : (k : Int) ≤ rchP p) (hg : goodN p k = g) (hl : ∀ j : Nat, j < k → goodN p j < g) : runP p g = ((k : Int), 0) := by
  have hb := rch_bd h
  obtain ⟨a, b⟩ := run_good (p := p) g
  have hk2 : (k : Int) = Go.Rl.runN (thrP p (rchP p)) g := by
    have hle := Go.Rl.runN_le (thr_join p (rchP p)).le g
    rcases Int.lt_trichotomy (k : Int) (Go.Rl.runN (thrP p (rchP p)) g) with h2 | h2 | h2
    · have := b _ h2; omega
    · exact h2
    · have := hl (Go.Rl.runN (thrP p (rchP p)) g).toNat (by omega)
      rw [show ((Go.Rl.runN (thrP p (rchP p)) g).toNat : Int) = Go.Rl.runN (thrP p (rchP p)) g by omega] at this
      omega
  have hgl := good_le p k
  have ha := ask_ok (most := 1000000) h (by omega) (show g ≤ rchP p by omega) h1
  unfold runP
  rw [if_neg (by simpa using ha), if_neg (by omega), ← hk2, if_neg (by omega)]
theorem runP_no {p : PrsD} (h : errP p = 0) {g : Int} (h0 : 0 < g) (h1 : g ≤ 1000000) (hg : goodN p (rchP p) < g) : runP p g = (0, 70) := by
  have hb := rch_bd h
  obtain ⟨a, b⟩ := run_good (p := p) g
  have hle := Go.Rl.runN_le (thr_join p (rchP p)).le g
  unfold runP
  by_cases h2 : rchP p < g
  · have ha : askE p g 1000000 = 70 := by
      unfold askE
      rw [if_neg (by simpa using h), inB_iff.2 ⟨by omega, h1⟩, if_neg (by simp), if_pos h2]
    rw [if_pos (by rw [ha]; decide), ha]
  · have ha := ask_ok (most := 1000000) h (by omega) (show g ≤ rchP p by omega) h1
    rw [if_neg (by simpa using ha), if_neg (by omega), if_pos]
    have hm : ¬ Go.Rl.runN (thrP p (rchP p)) g ≤ rchP p := fun h3 => by
      have := good_mono p h3
      omega
    omega
theorem runP_zero {p : PrsD} (h : errP p = 0) : runP p 0 = (0, 0) := by
  have hb := rch_bd h
  have ha := ask_ok (most := 1000000) h (Int.le_refl 0) hb.1 (by omega)
  unfold runP
  rw [if_neg (by simpa using ha), if_pos rfl]
theorem runP_bad {p : PrsD} (h : errP p ≠ 0) (g : Int) : runP p g = (0, errP p) := by
  have ha : askE p g 1000000 = errP p := by unfold askE; rw [if_pos h]
  unfold runP
  rw [ha, if_pos h]
theorem runP_rng {p : PrsD} (h : errP p = 0) {g : Int} (hg : inB g 0 1000000 = false) : runP p g = (0, 6) := by
  have ha : askE p g 1000000 = 6 := by unfold askE; rw [if_neg (by simpa using h), if_pos hg]
  unfold runP
  rw [ha, if_pos (by decide)]
end Go.Rl
