/- Contracts of IndexFunc and ContainsFunc, printed by gen11.py; conditions: none. -/
import Derived.Test.YtgopdfbmddkpfaaA1
import Derived.Test.YtgopdfbmddkpfaaSpec2
import Derived.BigQuiet
import Derived.Deep.QuietTactic
import Derived.WalkSpells
set_option linter.unusedSimpArgs false
set_option linter.unusedVariables false
namespace Go.Proofs.Ytgopdfbmddkpfaa
open Go.RowKit Go.Fh Go.Ag

theorem badPrice_any (n : Int) (w : World) : Calls Try.prog 109 #[.int .i64 n] w fun e w' => e = .returned (.bool (badPrice n)) ∧ Below w.heap.size w w' := by
  cases h1 : inB n 0 10000
  all_goals
    go_enter Try.func109, Try.ntmps109
    go_wp2_with (go_at_call 48; refine (within_any _ _ _ _).mono ?_; rintro e w' ⟨rfl, rfl⟩)
    go_ret
    exact ⟨ret_bool (by simp [badPrice, h1]), Below.refl _ _⟩

set_option maxHeartbeats 1000000 in
theorem indexBadPrice_any  (A : Option Addr) (c : Nat) (l : List (Int)) (w : World) (hl : l.length ≤ 9223372036854775807) (hA : Sl encInt 1 w w.heap.size A l)  :
    Calls Try.prog 136 #[.slice A l.length c, .func (.func 109) #[] #[]] w fun e w' => e = .returned (.int .i64 (findI badPrice l)) ∧ Below w.heap.size w w' := by
  go_enter Try.func136, Try.ntmps136
  go_wp2
  go_loopw [8] (fun i wr => ∃ k : Nat, k ≤ l.length ∧ i = .int .i64 k ∧ (∀ x ∈ l.take k, badPrice x = false) ∧ Below w.heap.size w wr) (fun i _ => l.length - (intOf i).toNat)
  case atStart => exact ⟨0, Nat.zero_le _, rfl, by simp, Below.refl _ _⟩
  case round =>
    obtain ⟨k, hk, rfl, hno, hB⟩ := hrel
    have HN := Lib.hid hno
    clear hno
    by_cases hlt : k < l.length
    · obtain ⟨b, off, rfl, hb, c0⟩ := (hA.below hB).at1 hlt
      cases hw : badPrice l[k]
      · have hc : Calls Try.prog _ _ wr _ := badPrice_any l[k] _
        go_wp2_with (go_at_call 109; refine hc.mono ?_; clear hc; rintro e w' ⟨rfl, hb1⟩)
        go_roundw
        case rel =>
          refine ⟨k + 1, by omega, by go_num, fun x hx => ?_, hB.trans (hb1.mono hB.size)⟩
          rw [List.take_succ_eq_append_getElem hlt, List.mem_append] at hx
          rcases hx with hx | hx
          · exact HN.out x hx
          · simp at hx; subst hx; exact hw
        case measure => simp [intOf]; omega
      · have hc : Calls Try.prog _ _ wr _ := badPrice_any l[k] _
        go_wp2_with (go_at_call 109; refine hc.mono ?_; clear hc; rintro e w' ⟨rfl, hb1⟩)
        go_ret
        exact ⟨ret_int (findI_hit hlt HN.out hw).symm, hB.trans (hb1.mono hB.size)⟩
    · go_wp2
      go_ret
      exact ⟨ret_int (findI_miss (fun x hx => HN.out x (by rw [List.take_of_length_le (by omega)]; exact hx))).symm, hB⟩
theorem anyBadPrice_any  (A : Option Addr) (c : Nat) (l : List (Int)) (w : World) (hl : l.length ≤ 9223372036854775807) (hA : Sl encInt 1 w w.heap.size A l)  :
    Calls Try.prog 108 #[.slice A l.length c, .func (.func 109) #[] #[]] w fun e w' => e = .returned (.bool (l.any badPrice)) ∧ Below w.heap.size w w' := by
  have hf := findI_any badPrice l
  have HF := Lib.hid hf
  clear hf
  have hc := indexBadPrice_any  A c l w hl hA 
  go_enter Try.func108, Try.ntmps108
  go_wp2_with (go_at_call 136; refine hc.mono ?_; clear hc; rintro e w' ⟨rfl, hb⟩)
  go_ret
  exact ⟨ret_bool HF.out, hb⟩

end Go.Proofs.Ytgopdfbmddkpfaa
