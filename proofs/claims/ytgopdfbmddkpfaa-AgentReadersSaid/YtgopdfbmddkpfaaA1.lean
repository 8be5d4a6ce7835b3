/- Contracts of the small functions of package agent; conditions: none. -/
import Derived.Test.YtgopdfbmddkpfaaChecked
import Derived.Test.YtgopdfbmddkpfaaBase
import Derived.Test.YtgopdfbmddkpfaaSpec
set_option linter.unusedSimpArgs false
set_option linter.unusedVariables false
namespace Go.Proofs.Ytgopdfbmddkpfaa
open Go.RowKit Go.Fh Go.Ag

theorem within_any (n a b : Int) (w : World) :
    Calls Try.prog 48 #[.int .i64 n, .int .i64 a, .int .i64 b] w fun e w' => e = .returned (.bool (inB n a b)) ∧ w = w' := by
  by_cases h1 : a ≤ n
  · by_cases h2 : n ≤ b
    all_goals
      go_enter Try.func48, Try.ntmps48
      go_wp2
      go_ret
      exact ⟨by simp [inB]; try omega, rfl⟩
  · go_enter Try.func48, Try.ntmps48
    go_wp2
    go_ret
    exact ⟨by simp [inB]; omega, rfl⟩

theorem costs_any (a b : Int) (w : World) :
    Calls Try.prog 39 #[.int .i64 a, .int .i64 b] w fun e w' => e = .returned (.bool (costsB a b)) ∧ w = w' := by
  cases h1 : inB a 0 1000
  · go_enter Try.func39, Try.ntmps39
    go_wp2_with (go_at_call 48; refine (within_any _ _ _ _).mono ?_; rintro e w' ⟨rfl, rfl⟩)
    go_ret
    exact ⟨ret_bool (by simp [costsB, h1]), rfl⟩
  · cases h2 : inB b 0 1000
    · go_enter Try.func39, Try.ntmps39
      go_wp2_with (go_at_call 48; refine (within_any _ _ _ _).mono ?_; rintro e w' ⟨rfl, rfl⟩)
      go_ret
      exact ⟨ret_bool (by simp [costsB, h1, h2]), rfl⟩
    · have b1 := inB_iff.1 h1
      have b2 := inB_iff.1 h2
      go_enter Try.func39, Try.ntmps39
      go_wp2_with (go_at_call 48; refine (within_any _ _ _ _).mono ?_; rintro e w' ⟨rfl, rfl⟩)
      go_ret
      exact ⟨ret_bool (by simp [costsB, h1, h2]), rfl⟩

theorem sold_any (s r : Int) (w : World) (h1 : 0 ≤ s) (h2 : s ≤ 10000) (h3 : 0 ≤ r) (h4 : r ≤ s) :
    Calls Try.prog 40 #[.agg #[.int .i64 s, .int .i64 r]] w fun e w' => e = .returned (.int .i64 (s - r)) ∧ Below w.heap.size w w' := by
  go_enter Try.func40, Try.ntmps40
  go_wp2
  go_ret
  exact ⟨rfl, (Below.refl _ _).alloc (Nat.le_refl _) _⟩

set_option maxHeartbeats 1000000 in
theorem loss_any (s r q over under : Int) (w : World) (h1 : 0 ≤ s) (h2 : s ≤ 10000) (h3 : 0 ≤ r) (h4 : r ≤ s) (h5 : 0 ≤ q) (h6 : q ≤ 10000) (h7 : 0 ≤ over) (h8 : over ≤ 1000) (h9 : 0 ≤ under) (h10 : under ≤ 1000) :
    Calls Try.prog 83 #[.agg #[.int .i64 s, .int .i64 r], .int .i64 q, .int .i64 over, .int .i64 under] w fun e w' => e = .returned (.int .i64 (lossOf s r q over under)) ∧ Below w.heap.size w w' := by
  have hu : -100000000 ≤ under * (s - r - q) ∧ under * (s - r - q) ≤ 100000000 := by
    have := Int.mul_le_mul_of_nonneg_left (show s - r - q ≤ 10000 by omega) h9
    have := Int.mul_le_mul_of_nonneg_left (show -10000 ≤ s - r - q by omega) h9
    omega
  have ho : -100000000 ≤ over * -(s - r - q) ∧ over * -(s - r - q) ≤ 100000000 := by
    have := Int.mul_le_mul_of_nonneg_left (show -(s - r - q) ≤ 10000 by omega) h7
    have := Int.mul_le_mul_of_nonneg_left (show -10000 ≤ -(s - r - q) by omega) h7
    omega
  go_enter Try.func83, Try.ntmps83
  go_wp2_with (go_at_call 40; refine (sold_any s r _ (by omega) (by omega) (by omega) (by omega)).mono ?_; rintro e w' ⟨rfl, hb⟩; obtain ⟨hc, hf⟩ := bcell hb)
  all_goals
    go_ret
    refine ⟨?_, ((Below.refl _ _).alloc (Nat.le_refl _) _).trans (hb.mono (by simp))⟩
  · exact ret_int (by rw [lossOf, if_pos (by omega)])
  · exact ret_int (by rw [lossOf, if_neg (by omega), if_pos (by omega)])
  · exact ret_int (by rw [lossOf, if_neg (by omega), if_neg (by omega)])

theorem wrongDay_any (s r : Int) (w : World) :
    Calls Try.prog 82 #[.agg #[.int .i64 s, .int .i64 r]] w fun e w' => e = .returned (.bool (wrongDay (s, r))) ∧ Below w.heap.size w w' := by
  cases h1 : inB s 0 10000 <;> cases h2 : inB r 0 s
  all_goals
    go_enter Try.func82, Try.ntmps82
    go_wp2_with (go_at_call 48; refine (within_any _ _ _ _).mono ?_; rintro e w' ⟨rfl, rfl⟩)
    go_ret
    exact ⟨ret_bool (by simp [wrongDay, h1, h2]), (Below.refl _ _).alloc (Nat.le_refl _) _⟩

set_option maxHeartbeats 1000000 in
theorem indexWrongDay_any (A : Option Addr) (c : Nat) (l : List (Int × Int)) (w : World) (hl : l.length ≤ 9223372036854775807) (hA : Sl enc2 2 w w.heap.size A l) :
    Calls Try.prog 124 #[.slice A l.length c, .func (.func 82) #[] #[]] w fun e w' => e = .returned (.int .i64 (findI wrongDay l)) ∧ Below w.heap.size w w' := by
  go_enter Try.func124, Try.ntmps124
  go_wp2
  go_loopw [8] (fun i wr => ∃ k : Nat, k ≤ l.length ∧ i = .int .i64 k ∧ (∀ x ∈ l.take k, wrongDay x = false) ∧ Below w.heap.size w wr) (fun i _ => l.length - (intOf i).toNat)
  case atStart => exact ⟨0, Nat.zero_le _, rfl, by simp, Below.refl _ _⟩
  case round =>
    obtain ⟨k, hk, rfl, hno, hB⟩ := hrel
    have HN := Lib.hid hno
    clear hno
    by_cases hlt : k < l.length
    · obtain ⟨b, off, rfl, hb, c0, c1⟩ := (hA.below hB).at2 hlt
      cases hw : wrongDay l[k]
      · have hw' : wrongDay (l[k].1, l[k].2) = false := hw
        go_wp2_with (go_at_call 82; refine (wrongDay_any l[k].1 l[k].2 _).mono ?_; rintro e w' ⟨rfl, hb1⟩)
        go_roundw
        case rel =>
          refine ⟨k + 1, by omega, by go_num, fun x hx => ?_, hB.trans (hb1.mono hB.size)⟩
          rw [List.take_succ_eq_append_getElem hlt, List.mem_append] at hx
          rcases hx with hx | hx
          · exact HN.out x hx
          · simp at hx; subst hx; exact hw
        case measure => simp [intOf]; omega
      · have hw' : wrongDay (l[k].1, l[k].2) = true := hw
        go_wp2_with (go_at_call 82; refine (wrongDay_any l[k].1 l[k].2 _).mono ?_; rintro e w' ⟨rfl, hb1⟩)
        go_ret
        exact ⟨ret_int (findI_hit hlt HN.out hw).symm, hB.trans (hb1.mono hB.size)⟩
    · go_wp2
      go_ret
      exact ⟨ret_int (findI_miss (fun x hx => HN.out x (by rw [List.take_of_length_le (by omega)]; exact hx))).symm, hB⟩
end Go.Proofs.Ytgopdfbmddkpfaa
