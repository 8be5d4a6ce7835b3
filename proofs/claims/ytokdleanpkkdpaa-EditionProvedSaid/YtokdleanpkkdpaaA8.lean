/- Contracts of ContainsFunc for colours and variants that are wrong; conditions: none. -/
import Derived.Test.YtokdleanpkkdpaaA4
set_option linter.unusedSimpArgs false
set_option linter.unusedVariables false
namespace Go.Proofs.Ytokdleanpkkdpaa
open Go.RowKit Go.Fh Go.Ed

theorem badColourC_any (v : Int) (w : World) :
    Calls Try.prog 90 #[.int .i64 v] w fun e w' => e = .returned (.bool (!inB v 1 4)) ∧ w = w' := by
  cases h : inB v 1 4
  all_goals
    go_enter Try.func90, Try.ntmps90
    go_wp2_with (go_at_call 65; refine (within_any _ _ _ _).mono ?_; rintro e w' ⟨rfl, rfl⟩)
    go_ret
    exact ⟨ret_bool (by simp [h]), rfl⟩

set_option maxHeartbeats 1000000 in
theorem badColourI_any (A : Option Addr) (c : Nat) (l : List Int) (w : World) (hl : l.length ≤ 9223372036854775807) (hA : Sl encInt 1 w w.heap.size A l) :
    Calls Try.prog 122 #[.slice A l.length c, .func (.func 90) #[] #[]] w fun e w' => e = .returned (.int .i64 (findI (fun v => !inB v 1 4) l)) ∧ Below w.heap.size w w' := by
  have HA := Lib.hid hA
  clear hA
  go_enter Try.func122, Try.ntmps122
  go_wp2
  go_loopw [8] (fun i wr => ∃ k : Nat, k ≤ l.length ∧ i = .int .i64 k ∧ Hid (∀ x ∈ l.take k, (!inB x 1 4) = false) ∧ Below w.heap.size w wr) (fun i _ => l.length - (intOf i).toNat)
  case atStart => exact ⟨0, Nat.zero_le _, rfl, by simp [Hid], Below.refl _ _⟩
  case round =>
    obtain ⟨k, hk, rfl, HN, hB⟩ := hrel
    by_cases hlt : k < l.length
    · obtain ⟨b, off, rfl, hb, c0⟩ := (HA.out.below hB).at1 hlt
      cases hw : (!inB l[k] 1 4)
      · have HW := Lib.hid hw
        go_wp2_with (go_at_call 90; refine (badColourC_any _ _).mono ?_; rintro e w' ⟨rfl, rfl⟩)
        go_roundw
        case rel =>
          refine ⟨k + 1, by omega, by go_num, ?_, hB⟩
          intro x hx
          rw [List.take_succ_eq_append_getElem hlt, List.mem_append] at hx
          rcases hx with hx | hx
          · exact HN.out x hx
          · simp at hx; subst hx; exact HW.out
        case measure => simp [intOf]; omega
      · have HF := Lib.hid (findI_hit (p := fun v => !inB v 1 4) hlt HN.out hw)
        go_wp2_with (go_at_call 90; refine (badColourC_any _ _).mono ?_; rintro e w' ⟨rfl, rfl⟩)
        go_ret
        exact ⟨ret_int HF.out.symm, hB⟩
    · go_wp2
      go_ret
      exact ⟨ret_int (findI_miss (fun x hx => HN.out x (by rw [List.take_of_length_le (by omega)]; exact hx))).symm, hB⟩

theorem badColour_any (A : Option Addr) (c : Nat) (l : List Int) (w : World) (hl : l.length ≤ 9223372036854775807) (hA : Sl encInt 1 w w.heap.size A l) :
    Calls Try.prog 84 #[.slice A l.length c, .func (.func 90) #[] #[]] w fun e w' => e = .returned (.bool (l.any fun v => !inB v 1 4)) ∧ Below w.heap.size w w' := by
  have hf := findI_any (fun v => !inB v 1 4) l
  have HF := Lib.hid hf
  clear hf
  go_enter Try.func84, Try.ntmps84
  go_wp2_with (go_at_call 122; refine (badColourI_any _ _ _ _ hl hA).mono ?_; rintro e w' ⟨rfl, hb⟩)
  go_ret
  exact ⟨ret_bool HF.out, hb⟩

theorem badVariantC_any (v : Int) (w : World) :
    Calls Try.prog 92 #[.int .i64 v] w fun e w' => e = .returned (.bool (!inB v 0 9)) ∧ w = w' := by
  cases h : inB v 0 9
  all_goals
    go_enter Try.func92, Try.ntmps92
    go_wp2_with (go_at_call 65; refine (within_any _ _ _ _).mono ?_; rintro e w' ⟨rfl, rfl⟩)
    go_ret
    exact ⟨ret_bool (by simp [h]), rfl⟩

set_option maxHeartbeats 1000000 in
theorem badVariantI_any (A : Option Addr) (c : Nat) (l : List Int) (w : World) (hl : l.length ≤ 9223372036854775807) (hA : Sl encInt 1 w w.heap.size A l) :
    Calls Try.prog 122 #[.slice A l.length c, .func (.func 92) #[] #[]] w fun e w' => e = .returned (.int .i64 (findI (fun v => !inB v 0 9) l)) ∧ Below w.heap.size w w' := by
  have HA := Lib.hid hA
  clear hA
  go_enter Try.func122, Try.ntmps122
  go_wp2
  go_loopw [8] (fun i wr => ∃ k : Nat, k ≤ l.length ∧ i = .int .i64 k ∧ Hid (∀ x ∈ l.take k, (!inB x 0 9) = false) ∧ Below w.heap.size w wr) (fun i _ => l.length - (intOf i).toNat)
  case atStart => exact ⟨0, Nat.zero_le _, rfl, by simp [Hid], Below.refl _ _⟩
  case round =>
    obtain ⟨k, hk, rfl, HN, hB⟩ := hrel
    by_cases hlt : k < l.length
    · obtain ⟨b, off, rfl, hb, c0⟩ := (HA.out.below hB).at1 hlt
      cases hw : (!inB l[k] 0 9)
      · have HW := Lib.hid hw
        go_wp2_with (go_at_call 92; refine (badVariantC_any _ _).mono ?_; rintro e w' ⟨rfl, rfl⟩)
        go_roundw
        case rel =>
          refine ⟨k + 1, by omega, by go_num, ?_, hB⟩
          intro x hx
          rw [List.take_succ_eq_append_getElem hlt, List.mem_append] at hx
          rcases hx with hx | hx
          · exact HN.out x hx
          · simp at hx; subst hx; exact HW.out
        case measure => simp [intOf]; omega
      · have HF := Lib.hid (findI_hit (p := fun v => !inB v 0 9) hlt HN.out hw)
        go_wp2_with (go_at_call 92; refine (badVariantC_any _ _).mono ?_; rintro e w' ⟨rfl, rfl⟩)
        go_ret
        exact ⟨ret_int HF.out.symm, hB⟩
    · go_wp2
      go_ret
      exact ⟨ret_int (findI_miss (fun x hx => HN.out x (by rw [List.take_of_length_le (by omega)]; exact hx))).symm, hB⟩

theorem badVariant_any (A : Option Addr) (c : Nat) (l : List Int) (w : World) (hl : l.length ≤ 9223372036854775807) (hA : Sl encInt 1 w w.heap.size A l) :
    Calls Try.prog 84 #[.slice A l.length c, .func (.func 92) #[] #[]] w fun e w' => e = .returned (.bool (l.any fun v => !inB v 0 9)) ∧ Below w.heap.size w w' := by
  have hf := findI_any (fun v => !inB v 0 9) l
  have HF := Lib.hid hf
  clear hf
  go_enter Try.func84, Try.ntmps84
  go_wp2_with (go_at_call 122; refine (badVariantI_any _ _ _ _ hl hA).mono ?_; rintro e w' ⟨rfl, hb⟩)
  go_ret
  exact ⟨ret_bool HF.out, hb⟩
end Go.Proofs.Ytokdleanpkkdpaa
