/- What splices spoil, millimetre by millimetre: the plain law of ReelClean; conditions: none. -/
import Derived.Test.YtnbnfadmbggfnaaQR
import Derived.Test.YtnbnfadmbggfnaaCL
set_option linter.unusedSimpArgs false
set_option linter.unusedVariables false
namespace Go.Rl
open Go.Fh
/-- a splice at x is near the millimetres from f to l -/
def nearB (v : WebD) (f l x : Int) : Bool := decide (v.bef + v.aft > 0) && (decide (x - v.bef ≤ l) && decide (f ≤ x + v.aft - 1))
def firstM (p : PrsD) (v : WebD) (k : Int) : Int := v.off + (k - p.margin) * p.cut
def lastM (p : PrsD) (v : WebD) (k : Int) : Int := v.off + (k + p.margin + 1) * p.cut - 1
def nearV (p : PrsD) (k : Int) (v : WebD) : Bool := (plcs v.reels).any (nearB v (firstM p v k) (lastM p v k))
/-- some splice of the first webs is near the copy -/
def nearK (p : PrsD) (k : Int) (i : Nat) : Bool := (p.webs.take i).any (nearV p k)
theorem near_iff {p : PrsD} {v : WebD} (hc : 0 < p.cut) (hb : 0 ≤ v.bef) (ha : 0 ≤ v.aft) {k x : Int} (hk : 0 ≤ k) : nearB v (firstM p v k) (lastM p v k) x = true ↔ nearS p v x k := by
  unfold nearB nearS firstM lastM loS
  simp only [Bool.and_eq_true, decide_eq_true_eq]
  have h1 : x - v.bef ≤ v.off + (k + p.margin + 1) * p.cut - 1 ↔ (x - v.bef - v.off) / p.cut - p.margin ≤ k := by
    rw [show ((x - v.bef - v.off) / p.cut - p.margin ≤ k) ↔ ((x - v.bef - v.off) / p.cut < k + p.margin + 1) by omega, Int.ediv_lt_iff_lt_mul hc]
    omega
  have h2 : v.off + (k - p.margin) * p.cut ≤ x + v.aft - 1 ↔ k ≤ (x + v.aft - 1 - v.off) / p.cut + p.margin := by
    rw [show (k ≤ (x + v.aft - 1 - v.off) / p.cut + p.margin) ↔ (k - p.margin ≤ (x + v.aft - 1 - v.off) / p.cut) by omega, Int.le_ediv_iff_mul_le hc]
    omega
  rw [h1, h2]
  constructor
  · rintro ⟨a, b, c⟩; exact ⟨by omega, by omega, c⟩
  · rintro ⟨a, b, c⟩; exact ⟨by omega, by omega, c⟩
theorem near_out {p : PrsD} (hp : FitP p) {n k : Int} (hk : 0 ≤ k) (hkn : k < n) : nearK p k p.webs.length = outS (thrP p n) k := by
  have e : nearK p k p.webs.length = true ↔ outS (thrP p n) k = true := by
    rw [outS_iff, thr_cov]
    unfold nearK
    rw [List.take_length, List.any_eq_true]
    constructor
    · rintro ⟨v, hv, h⟩
      unfold nearV at h
      obtain ⟨x, hx, h1⟩ := List.any_eq_true.1 h
      have hw := hp.w v hv
      exact ⟨⟨v, hv, x, hx, (near_iff (by have := hp.c; omega) hw.2.2.1.1 hw.2.2.2.1.1 hk).1 h1⟩, by omega⟩
    · rintro ⟨⟨v, hv, x, hx, h1⟩, -⟩
      have hw := hp.w v hv
      exact ⟨v, hv, List.any_eq_true.2 ⟨x, hx, (near_iff (by have := hp.c; omega) hw.2.2.1.1 hw.2.2.2.1.1 hk).2 h1⟩⟩
  cases h1 : nearK p k p.webs.length with
  | true => exact (e.1 h1).symm
  | false =>
    cases h2 : outS (thrP p n) k with
    | false => rfl
    | true => rw [e.2 h2] at h1; cases h1
theorem nearK_s {p : PrsD} {k : Int} {i : Nat} (h : i < p.webs.length) : nearK p k (i + 1) = (nearK p k i || nearV p k p.webs[i]) := by
  unfold nearK
  rw [List.take_succ_eq_append_getElem h, List.any_append]
  simp
/-- bounds of what is reckoned -/
theorem prod_bd {a c : Int} (h0 : -100 ≤ a) (h1 : a ≤ 1000100) (c0 : 300 ≤ c) (c1 : c ≤ 1500) : -150000 ≤ a * c ∧ a * c ≤ 1500150000 := by
  have h2 : a * c ≤ 1000100 * c := Int.mul_le_mul_of_nonneg_right h1 (by omega)
  have h3 : -100 * c ≤ a * c := Int.mul_le_mul_of_nonneg_right h0 (by omega)
  omega
end Go.Rl
