/- Contracts: slices.Index, Contains, owner, SameInts; conditions: none. -/
import Derived.Test.YtokdleanpkkdpaaA3
set_option linter.unusedSimpArgs false
set_option linter.unusedVariables false
namespace Go.Ed
def findI {α : Type} (p : α → Bool) : List α → Int
  | [] => -1
  | x :: l => if p x then 0 else if findI p l < 0 then -1 else findI p l + 1

theorem findI_hit {α : Type} {p : α → Bool} {l : List α} {k : Nat} (hk : k < l.length) (h0 : ∀ x ∈ l.take k, p x = false) (h1 : p l[k] = true) : findI p l = k := by
  induction l generalizing k with
  | nil => simp at hk
  | cons x l ih =>
    cases k with
    | zero => simp at h1; simp [findI, h1]
    | succ k =>
      have hx : p x = false := h0 x (by simp)
      have := ih (k := k) (by simpa using hk) (fun y hy => h0 y (by simp [hy])) (by simpa using h1)
      simp only [findI, hx, this]
      split
      · contradiction
      · split
        · omega
        · omega
theorem findI_miss {α : Type} {p : α → Bool} {l : List α} (h0 : ∀ x ∈ l, p x = false) : findI p l = -1 := by
  induction l with
  | nil => rfl
  | cons x l ih =>
    have hx : p x = false := h0 x (by simp)
    simp [findI, hx, ih (fun y hy => h0 y (by simp [hy]))]
theorem findI_any {α : Type} (p : α → Bool) (l : List α) : decide (0 ≤ findI p l) = l.any p := by
  induction l with
  | nil => simp [findI]
  | cons x l ih =>
    simp only [findI, List.any_cons]
    by_cases hx : p x = true
    · simp [hx]
    · have hx' : p x = false := by simpa using hx
      simp only [hx', Bool.false_eq_true, if_false, Bool.false_or, ← ih]
      by_cases h : findI p l < 0
      · simp only [if_pos h]; rw [decide_eq_false (by omega), decide_eq_false (by omega)]
      · simp only [if_neg h]; rw [decide_eq_true (by omega), decide_eq_true (by omega)]
theorem findI_bd {α : Type} (p : α → Bool) (l : List α) : -1 ≤ findI p l ∧ findI p l < l.length := by
  induction l with
  | nil => simp [findI]
  | cons x l ih =>
    simp only [findI, List.length_cons]
    split
    · omega
    · split <;> omega

end Go.Ed
namespace Go.Proofs.Ytokdleanpkkdpaa
open Go.RowKit Go.Fh Go.Ed

set_option maxHeartbeats 1000000 in
theorem index_any (A : Option Addr) (c : Nat) (l : List Int) (v : Int) (w : World) (hl : l.length ≤ 9223372036854775807) (hA : Sl encInt 1 w w.heap.size A l) :
    Calls Try.prog 113 #[.slice A l.length c, .int .i64 v] w fun e w' => e = .returned (.int .i64 (findI (fun x => v == x) l)) ∧ Below w.heap.size w w' := by
  have HA := Lib.hid hA
  clear hA
  go_enter Try.func113, Try.ntmps113
  go_wp2
  go_loopw [8] (fun i wr => ∃ k : Nat, k ≤ l.length ∧ i = .int .i64 k ∧ Hid (∀ x ∈ l.take k, (v == x) = false) ∧ Below w.heap.size w wr) (fun i _ => l.length - (intOf i).toNat)
  case atStart => exact ⟨0, Nat.zero_le _, rfl, by simp [Hid], Below.refl _ _⟩
  case round =>
    obtain ⟨k, hk, rfl, HN, hB⟩ := hrel
    by_cases hlt : k < l.length
    · obtain ⟨b, off, rfl, hb, c0⟩ := (HA.out.below hB).at1 hlt
      cases hw : (v == l[k])
      · have HW := Lib.hid hw
        go_wp2_with fail
        go_roundw
        case rel =>
          refine ⟨k + 1, by omega, by go_num, ?_, hB⟩
          intro x hx
          rw [List.take_succ_eq_append_getElem hlt, List.mem_append] at hx
          rcases hx with hx | hx
          · exact HN.out x hx
          · simp at hx; subst hx; exact HW.out
        case measure => simp [intOf]; omega
      · have HF := Lib.hid (findI_hit (p := fun x => v == x) hlt HN.out hw)
        go_wp2_with fail
        go_ret
        exact ⟨ret_int HF.out.symm, hB⟩
    · go_wp2
      go_ret
      exact ⟨ret_int (findI_miss (fun x hx => HN.out x (by rw [List.take_of_length_le (by omega)]; exact hx))).symm, hB⟩

theorem contains_any (A : Option Addr) (c : Nat) (l : List Int) (v : Int) (w : World) (hl : l.length ≤ 9223372036854775807) (hA : Sl encInt 1 w w.heap.size A l) :
    Calls Try.prog 68 #[.slice A l.length c, .int .i64 v] w fun e w' => e = .returned (.bool (l.any fun x => v == x)) ∧ Below w.heap.size w w' := by
  have hf := findI_any (fun x => v == x) l
  have HF := Lib.hid hf
  clear hf
  go_enter Try.func68, Try.ntmps68
  go_wp2_with (go_at_call 113; refine (index_any _ _ _ _ _ hl hA).mono ?_; rintro e w' ⟨rfl, hb⟩)
  go_ret
  exact ⟨ret_bool HF.out, hb⟩
end Go.Proofs.Ytokdleanpkkdpaa
