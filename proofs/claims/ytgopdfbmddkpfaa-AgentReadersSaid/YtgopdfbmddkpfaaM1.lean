/- Contracts: last; conditions: none. -/
import Derived.Test.YtgopdfbmddkpfaaW1
set_option linter.unusedSimpArgs false
set_option linter.unusedVariables false
namespace Go.Proofs.Ytgopdfbmddkpfaa
open Go.RowKit Go.Fh Go.Ag

theorem last_any (m : Int × Int) (A : Option Addr) (c : Nat) (l : List Int) (w : World) (hl : l.length ≤ 9223372036854775807) (hA : Sl encInt 1 w w.heap.size A l) (hp : 0 < l.length) :
    Calls Try.prog 139 #[.agg #[.int .i64 m.1, .int .i64 m.2], .slice A l.length c] w fun e w' => e = .returned (.int .i64 (l.getD 0 0)) ∧ Below w.heap.size w w' := by
  have hb0 : Below w.heap.size w (w.alloc (.cells #[.int .i64 m.1, .int .i64 m.2] 72)) := (Below.refl _ _).alloc (Nat.le_refl _) _
  obtain ⟨b, off, rfl, hb, c1⟩ := (hA.below hb0).at1 hp
  simp only [Nat.add_zero] at c1
  have e : l.getD 0 0 = l[0] := by simp [hp]
  have HE := Lib.hid e
  clear e
  go_enter Try.func139, Try.ntmps139
  go_wp2_with fail
  go_ret
  exact ⟨ret_int HE.out.symm, hb0⟩

def sumI : List Int → Int
  | [] => 0
  | x :: l => x + sumI l
theorem sumI_snoc (l : List Int) (x : Int) : sumI (l ++ [x]) = sumI l + x := by
  induction l with
  | nil => simp [sumI]
  | cons y l ih => simp only [List.cons_append, sumI, ih]; omega
theorem sumI_bd {l : List Int} (h : ∀ x ∈ l, 0 ≤ x ∧ x ≤ 10000) : 0 ≤ sumI l ∧ sumI l ≤ 10000 * l.length := by
  induction l with
  | nil => simp [sumI]
  | cons x l ih =>
    have := ih (fun y hy => h y (by simp [hy]))
    have := h x (by simp)
    simp only [sumI, List.length_cons]
    omega

set_option maxRecDepth 20000 in
theorem mean_any (m : Int × Int) (A : Option Addr) (c : Nat) (l : List Int) (w : World) (hl : l.length ≤ 1000) (hA : Sl encInt 1 w w.heap.size A l) (hp : 0 < l.length) (hd : ∀ x ∈ l, 0 ≤ x ∧ x ≤ 10000) :
    Calls Try.prog 140 #[.agg #[.int .i64 m.1, .int .i64 m.2], .slice A l.length c] w fun e w' => e = .returned (.int .i64 ((sumI l + l.length - 1) / l.length)) ∧ Below w.heap.size w w' := by
  have hb0 : Below w.heap.size w (w.alloc (.cells #[.int .i64 m.1, .int .i64 m.2] 72)) := (Below.refl _ _).alloc (Nat.le_refl _) _
  have HA := Lib.hid hA
  have HD := Lib.hid hd
  clear hA hd
  go_enter Try.func140, Try.ntmps140
  go_wp2_with fail
  go_loopw [5, 10] (fun n i wr => ∃ k : Nat, k ≤ l.length ∧ i = .int .i64 k ∧ n = .int .i64 (sumI (l.take k)) ∧ Below w.heap.size w wr) (fun _ i _ => l.length - (intOf i).toNat)
  case atStart => exact ⟨0, Nat.zero_le _, rfl, rfl, hb0⟩
  case round =>
    obtain ⟨k, hk, rfl, rfl, hB⟩ := hrel
    have hbd := sumI_bd (l := l.take k) (fun x hx => HD.out x (List.mem_of_mem_take hx))
    have hlk : (l.take k).length ≤ 1000 := by simp; omega
    by_cases hlt : k < l.length
    · obtain ⟨b, off, rfl, hb, c1⟩ := (HA.out.below hB).at1 hlt
      have hx := HD.out _ (List.getElem_mem hlt)
      have hsn := sumI_snoc (l.take k) l[k]
      rw [← List.take_succ_eq_append_getElem hlt] at hsn
      have HSN := Lib.hid hsn
      have gw := IntWalk.i64_in (sumI (l.take k) + l[k]) (by omega)
      clear hsn
      go_wp2_with fail
      go_roundw
      case rel => exact ⟨k + 1, by omega, by go_num, int_eq HSN.out.symm, hB⟩
      case measure => simp [intOf]; omega
    · obtain rfl : k = l.length := by omega
      rw [List.take_length] at hbd ⊢
      have g1 := IntWalk.i64_in (sumI l + l.length) (by omega)
      have g2 := IntWalk.i64_in (sumI l + l.length - 1) (by omega)
      go_wp2_with fail
      go_ret
      exact ⟨rfl, hB⟩
end Go.Proofs.Ytgopdfbmddkpfaa
