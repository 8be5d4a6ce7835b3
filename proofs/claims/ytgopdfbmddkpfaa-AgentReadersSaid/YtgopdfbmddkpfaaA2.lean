/- Contracts: Check, total, Equal and Clone; conditions: none. -/
import Derived.Test.YtgopdfbmddkpfaaA1
import Derived.BigQuiet
import Derived.Deep.QuietTactic
set_option linter.unusedSimpArgs false
set_option linter.unusedVariables false
namespace Go.Proofs.Ytgopdfbmddkpfaa
open Go.RowKit Go.Fh Go.Ag

theorem anyWrongDay_any (A : Option Addr) (c : Nat) (l : List (Int × Int)) (w : World) (hl : l.length ≤ 9223372036854775807) (hA : Sl enc2 2 w w.heap.size A l) :
    Calls Try.prog 95 #[.slice A l.length c, .func (.func 82) #[] #[]] w fun e w' => e = .returned (.bool (l.any wrongDay)) ∧ Below w.heap.size w w' := by
  have hf := findI_any wrongDay l
  have HF := Lib.hid hf
  clear hf
  go_enter Try.func95, Try.ntmps95
  go_wp2_with (go_at_call 124; refine (indexWrongDay_any _ _ _ _ hl hA).mono ?_; rintro e w' ⟨rfl, hb⟩)
  go_ret
  exact ⟨ret_bool HF.out, hb⟩

theorem check_any (A : Option Addr) (c : Nat) (l : List (Int × Int)) (w : World) (hl : l.length ≤ 9223372036854775807) (hA : Sl enc2 2 w w.heap.size A l) :
    Calls Try.prog 38 #[.slice A l.length c] w fun e w' => e = .returned (.int .i64 (checkH l)) ∧ Below w.heap.size w w' := by
  by_cases h1 : 400 < l.length
  · go_enter Try.func38, Try.ntmps38
    go_wp2
    go_ret
    exact ⟨ret_int (by simp [checkH, h1]), Below.refl _ _⟩
  · cases h2 : l.any wrongDay
    all_goals
      go_enter Try.func38, Try.ntmps38
      go_wp2_with (go_at_call 95; refine (anyWrongDay_any _ _ _ _ hl hA).mono ?_; rintro e w' ⟨rfl, hb⟩)
      go_ret
      exact ⟨ret_int (by simp only [checkH, h2]; rw [if_neg h1]; rfl), hb⟩

set_option maxHeartbeats 1000000 in
theorem total_any (A : Option Addr) (c : Nat) (l : List (Int × Int)) (q over under : Int) (w : World) (hl : l.length ≤ 400) (hA : Sl enc2 2 w w.heap.size A l) (hd : ∀ d ∈ l, OkDay d)
   (h5 : 0 ≤ q) (h6 : q ≤ 10000) (h7 : 0 ≤ over) (h8 : over ≤ 1000) (h9 : 0 ≤ under) (h10 : under ≤ 1000) :
    Calls Try.prog 44 #[.slice A l.length c, .int .i64 q, .int .i64 over, .int .i64 under] w fun e w' => e = .returned (.int .i64 (totalOf q over under l)) ∧ Below w.heap.size w w' := by
  go_enter Try.func44, Try.ntmps44
  go_wp2
  go_loopw [9, 14] (fun n i wr => ∃ k : Nat, k ≤ l.length ∧ i = .int .i64 k ∧ n = .int .i64 (totalOf q over under (l.take k)) ∧ Below w.heap.size w wr) (fun _ i _ => l.length - (intOf i).toNat)
  case atStart => exact ⟨0, Nat.zero_le _, rfl, rfl, Below.refl _ _⟩
  case round =>
    obtain ⟨k, hk, rfl, rfl, hB⟩ := hrel
    by_cases hlt : k < l.length
    · have hsn := totalOf_snoc q over under (l.take k) l[k]
      rw [← List.take_succ_eq_append_getElem hlt] at hsn
      have HS := Lib.hid hsn
      clear hsn
      obtain ⟨b, off, rfl, hb, c0, c1⟩ := (hA.below hB).at2 hlt
      have hok := hd _ (List.getElem_mem hlt)
      have hbd := totalOf_bd (l := l.take k) (fun x hx => hd x (List.mem_of_mem_take hx)) h5 h6 h7 h8 h9 h10
      have hlb := lossOf_bd (s := l[k].1) (r := l[k].2) hok h5 h6 h7 h8 h9 h10
      have hlen : (l.take k).length ≤ 400 := by simp; omega
      go_wp2_with (go_at_call 83; refine (loss_any l[k].1 l[k].2 q over under _ hok.1 hok.2.1 hok.2.2.1 hok.2.2.2 h5 h6 h7 h8 h9 h10).mono ?_; rintro e w' ⟨rfl, hb1⟩; obtain ⟨hc1, hf1⟩ := bcell hb1)
      go_roundw
      case rel => exact ⟨k + 1, by omega, by go_num, int_eq HS.out.symm, (hB.alloc hB.size _).trans (hb1.mono (by have := hB.size; simp; omega))⟩
      case measure => simp [intOf]; omega
    · go_wp2
      go_ret
      exact ⟨ret_int (by rw [List.take_of_length_le (by omega)]), hB⟩

set_option maxHeartbeats 1000000 in
theorem equalInts_any (A B : Option Addr) (c d : Nat) (l m : List Int) (w : World) (hl : l.length ≤ 9223372036854775807) (hm : m.length ≤ 9223372036854775807) (hA : Sl encInt 1 w w.heap.size A l) (hB : Sl encInt 1 w w.heap.size B m) :
    Calls Try.prog 47 #[.slice A l.length c, .slice B m.length d] w fun e w' => e = .returned (.bool (decide (l = m))) ∧ Below w.heap.size w w' := by
  by_cases hlen : l.length = m.length
  · have hb0 : ((l.length : Int) != (m.length : Int)) = false := by simp [hlen]
    have HL := Lib.hid hlen
    clear hlen
    go_enter Try.func47, Try.ntmps47
    go_wp2
    go_loopw [13] (fun i wr => ∃ k : Nat, k ≤ l.length ∧ i = .int .i64 k ∧ Hid (l.take k = m.take k) ∧ Below w.heap.size w wr) (fun i _ => l.length - (intOf i).toNat)
    case atStart => exact ⟨0, Nat.zero_le _, rfl, by simp [Hid], Below.refl _ _⟩
    case round =>
      obtain ⟨k, hk, rfl, HK, hW⟩ := hrel
      by_cases hlt : k < l.length
      · have hlt2 : k < m.length := by have := HL.out; omega
        obtain ⟨b, off, rfl, hb, c0⟩ := (hA.below hW).at1 hlt
        obtain ⟨b2, off2, rfl, hb2, c2⟩ := (hB.below hW).at1 hlt2
        by_cases he : l[k] = m[k]
        · have hne : (l[k] != m[k]) = false := by simp [he]
          have HE := Lib.hid he
          clear he
          go_wp2
          go_quiet (fail)
          go_wp2
          go_roundw
          case rel => exact ⟨k + 1, by omega, by go_num, by unfold Hid; rw [List.take_succ_eq_append_getElem hlt, List.take_succ_eq_append_getElem hlt2, HK.out, HE.out], below_drewN hW _⟩
          case measure => simp [intOf]; omega
        · have hne : (l[k] != m[k]) = true := by simp [he]
          have hlm : l ≠ m := by intro e; subst e; exact he rfl
          have HE := Lib.hid hlm
          clear he hlm
          go_wp2
          go_quiet (fail)
          go_wp2
          go_ret
          exact ⟨ret_bool (by simp [HE.out]), below_drewN hW _⟩
      · go_wp2
        go_ret
        have e1 : l.take k = l := List.take_of_length_le (by omega)
        have e2 : m.take k = m := List.take_of_length_le (by have := HL.out; omega)
        exact ⟨ret_bool (by have := HK.out; rw [e1, e2] at this; simp [this]), hW⟩
  · have hb0 : ((l.length : Int) != (m.length : Int)) = true := by simp; omega
    have hlm : l ≠ m := by intro e; subst e; exact hlen rfl
    have HE := Lib.hid hlm
    clear hlen hlm
    go_enter Try.func47, Try.ntmps47
    go_wp2
    go_ret
    exact ⟨ret_bool (by simp [HE.out]), Below.refl _ _⟩
end Go.Proofs.Ytgopdfbmddkpfaa
