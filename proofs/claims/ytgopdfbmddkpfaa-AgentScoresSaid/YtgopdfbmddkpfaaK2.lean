/- Plain laws of scores, bound together; conditions: none. -/
import Derived.Test.YtgopdfbmddkpfaaK1
import Derived.Test.YtgopdfbmddkpfaaD1
set_option linter.unusedSimpArgs false
set_option linter.unusedVariables false
namespace Go.Ag
open Go.Proofs.Ytgopdfbmddkpfaa
theorem mul_bdN {x y A B : Int} (h0 : 0 ≤ x) (h1 : x ≤ A) (h2 : 0 ≤ y) (h3 : y ≤ B) : 0 ≤ x * y ∧ x * y ≤ A * B :=
  ⟨Int.mul_nonneg h0 h2, Int.mul_le_mul h1 h3 h2 (by omega)⟩
/-- of how many days the k-th method says something, and its losses -/
def rK (ms H : List (Int × Int)) (a b : Int) (k : Nat) : Nat × Int := rateN (ms.getD k (0, 0)) H a b H.length
/-- what is true of the method that is chosen -/
def ScF (ms H : List (Int × Int)) (a b at_ bd bn bv e : Int) : Prop :=
  (e = 0 ∨ e = 4) ∧ (e = 4 → ∀ k, k < ms.length → (rK ms H a b k).1 = 0) ∧ (e = 0 → ∃ k : Nat, k < ms.length ∧ 0 < (rK ms H a b k).1) ∧ ((0 ≤ bn ∧ bn ≤ 4000000000) ∧ 0 ≤ bv ∧ bv ≤ 400) ∧
  ∀ k : Nat, k < ms.length → 0 < (rK ms H a b k).1 → e = 0 ∧ bn * (rK ms H a b k).1 ≤ (rK ms H a b k).2 * bv ∧ ((k : Int) = at_ → bd = ((rK ms H a b k).1 : Nat) ∧ bn = (ratioD (rK ms H a b k).2.toNat (rK ms H a b k).1).1 ∧ bv = (ratioD (rK ms H a b k).2.toNat (rK ms H a b k).1).2) ∧ ((k : Int) < at_ → bn * (rK ms H a b k).1 < (rK ms H a b k).2 * bv)
theorem chooseD_facts {ms H : List (Int × Int)} {a b : Int} (hc : checkH H = 0) (hms : ms.length ≤ 10) (hw : ∀ m ∈ ms, wrongM m = false) (ha : 1 ≤ a) (ha2 : a ≤ 99) (hb : 0 ≤ b) (hb2 : b ≤ 99) :
    ScF ms H a b (chooseD ms H a b).1 (chooseD ms H a b).2.1.1 (chooseD ms H a b).2.1.2.1 (chooseD ms H a b).2.1.2.2 (chooseD ms H a b).2.2 := by
  obtain ⟨h400, hd⟩ := checkH_zero.1 hc
  have hcb : costsB a b = true := by simp [costsB, inB]; omega
  have hwm : ms.any wrongM = false := by rw [List.any_eq_false]; intro m hm; simp [hw m hm]
  have hr : ∀ k, 0 ≤ (rateN (ms.getD k (0, 0)) H a b H.length).2 := by
    intro k
    by_cases hk : k < ms.length
    · have e : ms.getD k (0, 0) = ms[k] := by simp [hk]
      have hwk := hw _ (List.getElem_mem hk)
      rw [e]
      exact (rateN_bd (by simp [wrongM, inB] at hwk; omega) hd (by omega) (by omega) hb (by omega) H.length (Nat.le_refl _)).2.1
    · have e : ms.getD k (0, 0) = (0, 0) := by simp [List.getD_eq_getElem?_getD, List.getElem?_eq_none (Nat.le_of_not_lt hk)]
      rw [e]
      have hz : ∀ j, (rateN (0, 0) H a b j).2 = 0 ∨ True := fun _ => .inr trivial
      -- a method that is none: its losses are not below 0 either
      have : ∀ j, 0 ≤ (rateN (0, 0) H a b j).2 := by
        intro j
        induction j with
        | zero => simp [rateN]
        | succ j ih =>
          unfold rateN
          split
          · dsimp only
            by_cases hj : j < H.length
            · have ej : H.getD j (0, 0) = H[j] := by simp [hj]
              rw [ej]
              have ok := hd _ (List.getElem_mem hj)
              have : 0 ≤ lossOf H[j].1 H[j].2 (saysM (0, 0) H j).1 a b := by
                unfold lossOf
                split
                · exact Int.mul_nonneg hb (by omega)
                · split
                  · exact Int.mul_nonneg (by omega) (by omega)
                  · omega
              omega
            · have ej : H.getD j (0, 0) = (0, 0) := by simp [List.getD_eq_getElem?_getD, List.getElem?_eq_none (Nat.le_of_not_lt hj)]
              rw [ej]
              have : 0 ≤ lossOf 0 0 (saysM (0, 0) H j).1 a b := by
                unfold lossOf
                split
                · exact Int.mul_nonneg hb (by omega)
                · simp
              dsimp only
              omega
          · exact ih
      exact this H.length
  obtain ⟨i1, i2, i3, i4⟩ := chooseN_inv (l := ms) (h := H) (over := a) (under := b) hr ms.length
  have hok := chooseN_ok (l := ms) (h := H) (over := a) (under := b) hw h400 hd (by omega) (by omega) hb (by omega) ms.length (Nat.le_refl _)
  unfold ScF rK
  unfold chooseD
  rw [if_neg (by simp [hc]), if_neg (by omega), if_neg (by simp [hwm]), if_neg (by simp [hcb])]
  generalize chooseN ms H a b ms.length = C at *
  dsimp only at i1 i2 i3 i4
  unfold ScoOk at hok
  by_cases hC : C.1 < 0
  · rw [if_pos hC]
    dsimp only
    refine ⟨.inr rfl, fun _ k hk => i2 hC k hk, fun h => by omega, by omega, fun k hk hp => ?_⟩
    have := i2 hC k hk
    omega
  · rw [if_neg hC]
    dsimp only
    refine ⟨.inl rfl, fun h => by omega, fun _ => ?_, by omega, fun k hk hp => ?_⟩
    · obtain ⟨k, h1, _, h3⟩ := i1 (by omega)
      exact ⟨k, h1, h3⟩
    · obtain ⟨_, j2, j3, j4⟩ := i4 k hk hp
      refine ⟨rfl, j2, fun h => ?_, j4⟩
      have := j3 h
      rw [this]
      exact ⟨rfl, rfl, rfl⟩
theorem rateD_val {m : Int × Int} {H : List (Int × Int)} {a b : Int} (hc : checkH H = 0) (hw : wrongM m = false) (ha : 1 ≤ a) (ha2 : a ≤ 198) (hb : 0 ≤ b) (hb2 : b ≤ 198) :
    rateD m H a b = if (rateN m H a b H.length).1 = 0 then ((0, 0, 0), 4) else (((((rateN m H a b H.length).1 : Nat) : Int), ratioD (rateN m H a b H.length).2.toNat (rateN m H a b H.length).1), 0) := by
  have hcb : costsB a b = true := by simp [costsB, inB]; omega
  simp [rateD, hc, hw, hcb]
theorem saysD_val {m : Int × Int} {H : List (Int × Int)} {k : Nat} (hc : checkH H = 0) (hw : wrongM m = false) (hk : k ≤ H.length) : saysD m H k = ((saysM m H k).1, (saysM m H k).2, 0) := by
  have hi : inB (k : Int) 0 H.length = true := by rw [inB_iff]; omega
  simp [saysD, hc, hw, hi]
theorem lossR_val {d : Int × Int} {q a b : Int} (hd : OkDay d) (hq : 0 ≤ q) (hq2 : q ≤ 10000) (ha : 1 ≤ a) (ha2 : a ≤ 198) (hb : 0 ≤ b) (hb2 : b ≤ 198) : lossR d q a b = (lossOf d.1 d.2 q a b, 0) := by
  have hcb : costsB a b = true := by simp [costsB, inB]; omega
  have hi : inB q 0 10000 = true := by rw [inB_iff]; omega
  simp [lossR, (OkDay_iff d).2 hd, hcb, hi]
/-- the second score, of twice the costs -/
theorem ratio_two {dn : Nat} {ln : Int} (hd : 0 < dn) (hl : 0 ≤ ln) :
    (ratioD (2 * ln).toNat dn).1 * (ratioD ln.toNat dn).2 = 2 * (ratioD ln.toNat dn).1 * (ratioD (2 * ln).toNat dn).2 := by
  have e : (2 * ln).toNat = 2 * ln.toNat := by omega
  rw [e]
  exact ratioD_twice hd
end Go.Ag
