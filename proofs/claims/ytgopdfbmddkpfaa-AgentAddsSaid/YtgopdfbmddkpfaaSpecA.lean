/- Plain laws of accounts: what Settle and Carrier add up; conditions: none. -/
import Derived.Test.YtgopdfbmddkpfaaSpec9
set_option linter.unusedSimpArgs false
set_option linter.unusedVariables false
namespace Go.Ag
def supN (h : List (Int × Int)) : Nat → Int := sumN fun i => (h.getD i (0, 0)).1
def retN (h : List (Int × Int)) : Nat → Int := sumN fun i => (h.getD i (0, 0)).2
def lateN (x : List Int) : Nat → Int := sumN fun i => x.getD i 0
theorem settleSums_all {h : List (Int × Int)} {x : List Int} (hl : x.length = h.length) (hx : ∀ i, i < h.length → 0 ≤ x.getD i 0 ∧ x.getD i 0 ≤ (h.getD i (0, 0)).2) :
    settleSums h x = some (supN h h.length, retN h h.length - lateN x h.length, lateN x h.length) := by
  have key : ∀ k, k ≤ h.length → settleSums (h.take k) (x.take k) = some (supN h k, retN h k - lateN x k, lateN x k) := by
    intro k hk
    induction k with
    | zero => simp [settleSums, supN, retN, lateN, sumN]
    | succ k ih =>
      have hlt : k < h.length := by omega
      have hlt2 : k < x.length := by omega
      have e1 : h.getD k (0, 0) = h[k] := by simp [hlt]
      have e2 : x.getD k 0 = x[k] := by simp [hlt2]
      have hb := hx k hlt
      rw [e1, e2] at hb
      have hin : inB x[k] 0 h[k].2 = true := by rw [inB_iff]; exact hb
      rw [settleSums_snoc hl hlt hlt2 (ih (by omega)) hin]
      have s1 : supN h (k + 1) = supN h k + h[k].1 := by rw [← e1]; rfl
      have s2 : retN h (k + 1) = retN h k + h[k].2 := by rw [← e1]; rfl
      have s3 : lateN x (k + 1) = lateN x k + x[k] := by rw [← e2]; rfl
      rw [s1, s2, s3, Option.some.injEq, Prod.mk.injEq, Prod.mk.injEq]
      exact ⟨rfl, by omega, rfl⟩
  have := key h.length (Nat.le_refl _)
  rwa [List.take_length, ← hl, List.take_length, hl] at this
theorem sums_bd {h : List (Int × Int)} (hd : ∀ d ∈ h, OkDay d) (k : Nat) (hk : k ≤ h.length) : (0 ≤ supN h k ∧ supN h k ≤ 10000 * k) ∧ 0 ≤ retN h k ∧ retN h k ≤ 10000 * k := by
  have : ∀ i, i < h.length → OkDay (h.getD i (0, 0)) := by
    intro i hi
    have e1 : h.getD i (0, 0) = h[i] := by simp [hi]
    rw [e1]; exact hd _ (List.getElem_mem hi)
  refine ⟨sumN_bd fun i hi => ?_, sumN_bd fun i hi => ?_⟩
  · have := this i (by omega); unfold OkDay at this; omega
  · have := this i (by omega); unfold OkDay at this; omega
/-- the accounts without and with copies that are late -/
theorem settle_late {t : TariffD} (ht : wrongT t = false) {h : List (Int × Int)} (hc : checkH h = 0) {x : List Int} (hl : x.length = h.length) (hx : ∀ i, i < h.length → 0 ≤ x.getD i 0 ∧ x.getD i 0 ≤ (h.getD i (0, 0)).2) :
    settleD t h x = (0, linesOf t (supN h h.length, retN h h.length - lateN x h.length, lateN x h.length), supN h h.length * t.price - retN h h.length * t.back + lateN x h.length * (t.back - t.late)) := by
  unfold settleD
  rw [ht, hc, settleSums_all hl hx]
  simp only [Bool.false_eq_true, if_false, ne_eq, not_true, hl, if_true]
  simp only [linesOf, sumLines, Prod.mk.injEq, true_and]
  simp only [Int.sub_mul, Int.mul_sub, Int.mul_neg]
  omega
theorem lateN_zero (n k : Nat) : lateN (List.replicate n 0) k = 0 := by
  induction k with
  | zero => rfl
  | succ k ih =>
    have e : (List.replicate n (0 : Int)).getD k 0 = 0 := by
      by_cases h : k < n
      · simp [h]
      · simp [h]
    unfold lateN at ih ⊢
    rw [sumN, ih, e]; rfl
/-- one complaint: it is right just if a copy would have come -/
theorem comOk_one {l : List SubD} (h : listE l = 0) {a b d : Int} {i : Nat} (hi : i < l.length) (hd : a ≤ d ∧ d ≤ b) : comOk l a b (l[i].id, d) = getsB l[i] d := by
  obtain ⟨_, _, hap⟩ := listE_zero h
  unfold comOk
  cases hg : getsB l[i] d
  · rw [List.any_eq_false]
    intro s hs
    obtain ⟨j, hj, rfl⟩ := List.mem_iff_getElem.1 hs
    dsimp only
    by_cases e : l[j].id = l[i].id
    · obtain rfl := ids_apart hap hj hi e
      rw [hg]; simp
    · simp [e]
  · rw [List.any_eq_true]
    refine ⟨l[i], List.getElem_mem hi, ?_⟩
    dsimp only
    rw [hg, (inB_iff).2 hd]; simp
theorem carrier_none {t : TariffD} (ht : wrongT t = false) {l : List SubD} (h : listE l = 0) {a b : Int} (hp : periodB a b = true) :
    carrierD t l [] a b = (0, [(4, allC l a b l.length, allC l a b l.length * t.carry), (5, 0, 0 * -t.credit)], allC l a b l.length * t.carry) := by
  have e : carrierE t l [] a b = 0 := by simp [carrierE, ht, h, hp, firstErr]
  unfold carrierD
  rw [e]
  simp [carrierL, sumLines]
theorem carrier_one {t : TariffD} (ht : wrongT t = false) {l : List SubD} (h : listE l = 0) {a b : Int} (hp : periodB a b = true) {d : Int} {i : Nat} (hi : i < l.length) (hd : a ≤ d ∧ d ≤ b) :
    carrierD t l [(l[i].id, d)] a b = if getsB l[i] d then (0, [(4, allC l a b l.length, allC l a b l.length * t.carry), (5, 1, 1 * -t.credit)], allC l a b l.length * t.carry - t.credit) else (4, [], 0) := by
  have e1 : errC l [(l[i].id, d)] a b 0 = if getsB l[i] d then 0 else 4 := by
    rw [errC_get (by simp)]
    simp only [List.getElem_cons_zero]
    rw [comOk_one h hi hd]
    cases getsB l[i] d
    · simp
    · simp [metC]
  have e : carrierE t l [(l[i].id, d)] a b = if getsB l[i] d then 0 else 4 := by simp [carrierE, ht, h, hp, firstErr, e1]
  unfold carrierD
  rw [e]
  cases getsB l[i] d
  · simp
  · simp only [if_true, ne_eq, not_true, if_false, carrierL, sumLines, Prod.mk.injEq, true_and, List.length_cons, List.length_nil]
    refine ⟨by simp, by simp; omega⟩
theorem allC_bd (l : List SubD) (a b : Int) : 0 ≤ allC l a b l.length ∧ allC l a b l.length ≤ (b + 1 - a).toNat * l.length := by
  unfold allC
  refine sumN_bd fun i hi => ?_
  rw [copiesB_count]
  have := copiesN_bd (l.getD i sub0) a (b + 1 - a).toNat
  exact this
end Go.Ag
