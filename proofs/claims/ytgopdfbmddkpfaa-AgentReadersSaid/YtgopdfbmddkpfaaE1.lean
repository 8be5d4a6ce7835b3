/- Contracts of slices.Equal at structs, printed by gen11.py; conditions: none. -/
import Derived.Test.YtgopdfbmddkpfaaA1
import Derived.Test.YtgopdfbmddkpfaaSpec2
import Derived.BigQuiet
import Derived.Deep.QuietTactic
import Derived.WalkSpells
set_option linter.unusedSimpArgs false
set_option linter.unusedVariables false
namespace Go.Proofs.Ytgopdfbmddkpfaa
open Go.RowKit Go.Fh Go.Ag

theorem neqDay (x y : Int × Int) (w : World) : (binOp .neq 33 (.agg #[.int .i64 x.1, .int .i64 x.2]) (.agg #[.int .i64 y.1, .int .i64 y.2])).run Try.prog w = .ok (.bool (decide (x ≠ y))) w := by
  have u3 := Try.underlying3
  have hS : Try.prog.underlying 33 = some (.struct (Try.prog.fieldsOf 33)) := by kernel_rfl
  have hp : Try.prog.stoodInHeld 33 = false := by kernel_rfl
  rw [run_neq_struct, show (10000 : Nat) = 9999 + 1 from rfl, run_equalIn_agg w 9999 33 _ _ hS hp]
  simp only [Program.fieldsOf, Try.underlying33]
  go_simp
  have hxy : x = y ↔ x.1 = y.1 ∧ x.2 = y.2 := by constructor; (intro e; subst e; simp); (intro e; exact Prod.ext e.1 e.2)
  by_cases h0 : x.1 = y.1 <;> by_cases h1 : x.2 = y.2 <;> simp [hxy, h0, h1]

set_option maxHeartbeats 1000000 in
theorem equalDay_any (A B : Option Addr) (c d : Nat) (l m : List (Int × Int)) (w : World) (hl : l.length ≤ 9223372036854775807) (hm : m.length ≤ 9223372036854775807) (hA : Sl enc2 2 w w.heap.size A l) (hB : Sl enc2 2 w w.heap.size B m) :
    Calls Try.prog 54 #[.slice A l.length c, .slice B m.length d] w fun e w' => e = .returned (.bool (decide (l = m))) ∧ Below w.heap.size w w' := by
  have hgt : Try.prog.eqGuardType Try.prog.depth 33 = false := by kernel_rfl
  by_cases hlen : l.length = m.length
  · have hb0 : ((l.length : Int) != (m.length : Int)) = false := by simp [hlen]
    have HL := Lib.hid hlen
    clear hlen
    go_enter Try.func54, Try.ntmps54
    go_wp2
    go_loopw [13] (fun i wr => ∃ k : Nat, k ≤ l.length ∧ i = .int .i64 k ∧ Hid (l.take k = m.take k) ∧ Below w.heap.size w wr) (fun i _ => l.length - (intOf i).toNat)
    case atStart => exact ⟨0, Nat.zero_le _, rfl, by simp [Hid], Below.refl _ _⟩
    case round =>
      obtain ⟨k, hk, rfl, HK, hW⟩ := hrel
      by_cases hlt : k < l.length
      · have hlt2 : k < m.length := by have := HL.out; omega
        obtain ⟨b, off, rfl, hb, c0, c1⟩ := (hA.below hW).at2 hlt
        obtain ⟨b2, off2, rfl, hb2, e0, e1⟩ := (hB.below hW).at2 hlt2
        have hq := fun w => neqDay l[k] m[k] w
        by_cases he : l[k] = m[k]
        · have hq2 : ∀ w, (binOp .neq 33 (.agg #[.int .i64 l[k].1, .int .i64 l[k].2]) (.agg #[.int .i64 m[k].1, .int .i64 m[k].2])).run Try.prog w = .ok (.bool false) w := fun w => by rw [hq]; simp [he]
          have HE := Lib.hid he
          clear he hq
          go_wp2
          go_quiet (fail)
          go_wp2
          go_roundw
          case rel => exact ⟨k + 1, by omega, by go_num, by unfold Hid; rw [List.take_succ_eq_append_getElem hlt, List.take_succ_eq_append_getElem hlt2, HK.out, HE.out], below_drewN hW _⟩
          case measure => simp [intOf]; omega
        · have hq2 : ∀ w, (binOp .neq 33 (.agg #[.int .i64 l[k].1, .int .i64 l[k].2]) (.agg #[.int .i64 m[k].1, .int .i64 m[k].2])).run Try.prog w = .ok (.bool true) w := fun w => by rw [hq]; simp [he]
          have hlm : l ≠ m := by intro e; subst e; exact he rfl
          have HE := Lib.hid hlm
          clear he hlm hq
          go_wp2
          go_quiet (fail)
          go_wp2
          go_ret
          exact ⟨ret_bool (by simp [HE.out]), below_drewN hW _⟩
      · go_wp2
        go_ret
        have e1 : l.take k = l := List.take_of_length_le (by omega)
        have e2 : m.take k = m := List.take_of_length_le (by have := HL.out; omega)
        exact ⟨ret_bool (by have := HK.out; rw [e1, e2] at this; simp [this]), hW⟩
  · have hb0 : ((l.length : Int) != (m.length : Int)) = true := by simp; omega
    have hlm : l ≠ m := by intro e; subst e; exact hlen rfl
    have HE := Lib.hid hlm
    clear hlen hlm
    go_enter Try.func54, Try.ntmps54
    go_wp2
    go_ret
    exact ⟨ret_bool (by simp [HE.out]), Below.refl _ _⟩

theorem neqOrder (x y : Int × Int × Int) (w : World) : (binOp .neq 44 (.agg #[.int .i64 x.1, .int .i64 x.2.1, .int .i64 x.2.2]) (.agg #[.int .i64 y.1, .int .i64 y.2.1, .int .i64 y.2.2])).run Try.prog w = .ok (.bool (decide (x ≠ y))) w := by
  have u3 := Try.underlying3
  have hS : Try.prog.underlying 44 = some (.struct (Try.prog.fieldsOf 44)) := by kernel_rfl
  have hp : Try.prog.stoodInHeld 44 = false := by kernel_rfl
  rw [run_neq_struct, show (10000 : Nat) = 9999 + 1 from rfl, run_equalIn_agg w 9999 44 _ _ hS hp]
  simp only [Program.fieldsOf, Try.underlying44]
  go_simp
  have hxy : x = y ↔ x.1 = y.1 ∧ x.2.1 = y.2.1 ∧ x.2.2 = y.2.2 := by constructor; (intro e; subst e; simp); (intro e; exact Prod.ext e.1 (Prod.ext e.2.1 e.2.2))
  by_cases h0 : x.1 = y.1 <;> by_cases h1 : x.2.1 = y.2.1 <;> by_cases h2 : x.2.2 = y.2.2 <;> simp [hxy, h0, h1, h2]

set_option maxHeartbeats 1000000 in
theorem equalOrder_any (A B : Option Addr) (c d : Nat) (l m : List (Int × Int × Int)) (w : World) (hl : l.length ≤ 9223372036854775807) (hm : m.length ≤ 9223372036854775807) (hA : Sl enc3 3 w w.heap.size A l) (hB : Sl enc3 3 w w.heap.size B m) :
    Calls Try.prog 64 #[.slice A l.length c, .slice B m.length d] w fun e w' => e = .returned (.bool (decide (l = m))) ∧ Below w.heap.size w w' := by
  have hgt : Try.prog.eqGuardType Try.prog.depth 44 = false := by kernel_rfl
  by_cases hlen : l.length = m.length
  · have hb0 : ((l.length : Int) != (m.length : Int)) = false := by simp [hlen]
    have HL := Lib.hid hlen
    clear hlen
    go_enter Try.func64, Try.ntmps64
    go_wp2
    go_loopw [13] (fun i wr => ∃ k : Nat, k ≤ l.length ∧ i = .int .i64 k ∧ Hid (l.take k = m.take k) ∧ Below w.heap.size w wr) (fun i _ => l.length - (intOf i).toNat)
    case atStart => exact ⟨0, Nat.zero_le _, rfl, by simp [Hid], Below.refl _ _⟩
    case round =>
      obtain ⟨k, hk, rfl, HK, hW⟩ := hrel
      by_cases hlt : k < l.length
      · have hlt2 : k < m.length := by have := HL.out; omega
        obtain ⟨b, off, rfl, hb, c0, c1, c2⟩ := (hA.below hW).at3 hlt
        obtain ⟨b2, off2, rfl, hb2, e0, e1, e2⟩ := (hB.below hW).at3 hlt2
        have hq := fun w => neqOrder l[k] m[k] w
        by_cases he : l[k] = m[k]
        · have hq2 : ∀ w, (binOp .neq 44 (.agg #[.int .i64 l[k].1, .int .i64 l[k].2.1, .int .i64 l[k].2.2]) (.agg #[.int .i64 m[k].1, .int .i64 m[k].2.1, .int .i64 m[k].2.2])).run Try.prog w = .ok (.bool false) w := fun w => by rw [hq]; simp [he]
          have HE := Lib.hid he
          clear he hq
          go_wp2
          go_quiet (fail)
          go_wp2
          go_roundw
          case rel => exact ⟨k + 1, by omega, by go_num, by unfold Hid; rw [List.take_succ_eq_append_getElem hlt, List.take_succ_eq_append_getElem hlt2, HK.out, HE.out], below_drewN hW _⟩
          case measure => simp [intOf]; omega
        · have hq2 : ∀ w, (binOp .neq 44 (.agg #[.int .i64 l[k].1, .int .i64 l[k].2.1, .int .i64 l[k].2.2]) (.agg #[.int .i64 m[k].1, .int .i64 m[k].2.1, .int .i64 m[k].2.2])).run Try.prog w = .ok (.bool true) w := fun w => by rw [hq]; simp [he]
          have hlm : l ≠ m := by intro e; subst e; exact he rfl
          have HE := Lib.hid hlm
          clear he hlm hq
          go_wp2
          go_quiet (fail)
          go_wp2
          go_ret
          exact ⟨ret_bool (by simp [HE.out]), below_drewN hW _⟩
      · go_wp2
        go_ret
        have e1 : l.take k = l := List.take_of_length_le (by omega)
        have e2 : m.take k = m := List.take_of_length_le (by have := HL.out; omega)
        exact ⟨ret_bool (by have := HK.out; rw [e1, e2] at this; simp [this]), hW⟩
  · have hb0 : ((l.length : Int) != (m.length : Int)) = true := by simp; omega
    have hlm : l ≠ m := by intro e; subst e; exact hlen rfl
    have HE := Lib.hid hlm
    clear hlen hlm
    go_enter Try.func64, Try.ntmps64
    go_wp2
    go_ret
    exact ⟨ret_bool (by simp [HE.out]), Below.refl _ _⟩

theorem neqMethod (x y : Int × Int) (w : World) : (binOp .neq 72 (.agg #[.int .i64 x.1, .int .i64 x.2]) (.agg #[.int .i64 y.1, .int .i64 y.2])).run Try.prog w = .ok (.bool (decide (x ≠ y))) w := by
  have u3 := Try.underlying3
  have hS : Try.prog.underlying 72 = some (.struct (Try.prog.fieldsOf 72)) := by kernel_rfl
  have hp : Try.prog.stoodInHeld 72 = false := by kernel_rfl
  rw [run_neq_struct, show (10000 : Nat) = 9999 + 1 from rfl, run_equalIn_agg w 9999 72 _ _ hS hp]
  simp only [Program.fieldsOf, Try.underlying72]
  go_simp
  have hxy : x = y ↔ x.1 = y.1 ∧ x.2 = y.2 := by constructor; (intro e; subst e; simp); (intro e; exact Prod.ext e.1 e.2)
  by_cases h0 : x.1 = y.1 <;> by_cases h1 : x.2 = y.2 <;> simp [hxy, h0, h1]

set_option maxHeartbeats 1000000 in
theorem equalMethod_any (A B : Option Addr) (c d : Nat) (l m : List (Int × Int)) (w : World) (hl : l.length ≤ 9223372036854775807) (hm : m.length ≤ 9223372036854775807) (hA : Sl enc2 2 w w.heap.size A l) (hB : Sl enc2 2 w w.heap.size B m) :
    Calls Try.prog 76 #[.slice A l.length c, .slice B m.length d] w fun e w' => e = .returned (.bool (decide (l = m))) ∧ Below w.heap.size w w' := by
  have hgt : Try.prog.eqGuardType Try.prog.depth 72 = false := by kernel_rfl
  by_cases hlen : l.length = m.length
  · have hb0 : ((l.length : Int) != (m.length : Int)) = false := by simp [hlen]
    have HL := Lib.hid hlen
    clear hlen
    go_enter Try.func76, Try.ntmps76
    go_wp2
    go_loopw [13] (fun i wr => ∃ k : Nat, k ≤ l.length ∧ i = .int .i64 k ∧ Hid (l.take k = m.take k) ∧ Below w.heap.size w wr) (fun i _ => l.length - (intOf i).toNat)
    case atStart => exact ⟨0, Nat.zero_le _, rfl, by simp [Hid], Below.refl _ _⟩
    case round =>
      obtain ⟨k, hk, rfl, HK, hW⟩ := hrel
      by_cases hlt : k < l.length
      · have hlt2 : k < m.length := by have := HL.out; omega
        obtain ⟨b, off, rfl, hb, c0, c1⟩ := (hA.below hW).at2 hlt
        obtain ⟨b2, off2, rfl, hb2, e0, e1⟩ := (hB.below hW).at2 hlt2
        have hq := fun w => neqMethod l[k] m[k] w
        by_cases he : l[k] = m[k]
        · have hq2 : ∀ w, (binOp .neq 72 (.agg #[.int .i64 l[k].1, .int .i64 l[k].2]) (.agg #[.int .i64 m[k].1, .int .i64 m[k].2])).run Try.prog w = .ok (.bool false) w := fun w => by rw [hq]; simp [he]
          have HE := Lib.hid he
          clear he hq
          go_wp2
          go_quiet (fail)
          go_wp2
          go_roundw
          case rel => exact ⟨k + 1, by omega, by go_num, by unfold Hid; rw [List.take_succ_eq_append_getElem hlt, List.take_succ_eq_append_getElem hlt2, HK.out, HE.out], below_drewN hW _⟩
          case measure => simp [intOf]; omega
        · have hq2 : ∀ w, (binOp .neq 72 (.agg #[.int .i64 l[k].1, .int .i64 l[k].2]) (.agg #[.int .i64 m[k].1, .int .i64 m[k].2])).run Try.prog w = .ok (.bool true) w := fun w => by rw [hq]; simp [he]
          have hlm : l ≠ m := by intro e; subst e; exact he rfl
          have HE := Lib.hid hlm
          clear he hlm hq
          go_wp2
          go_quiet (fail)
          go_wp2
          go_ret
          exact ⟨ret_bool (by simp [HE.out]), below_drewN hW _⟩
      · go_wp2
        go_ret
        have e1 : l.take k = l := List.take_of_length_le (by omega)
        have e2 : m.take k = m := List.take_of_length_le (by have := HL.out; omega)
        exact ⟨ret_bool (by have := HK.out; rw [e1, e2] at this; simp [this]), hW⟩
  · have hb0 : ((l.length : Int) != (m.length : Int)) = true := by simp; omega
    have hlm : l ≠ m := by intro e; subst e; exact hlen rfl
    have HE := Lib.hid hlm
    clear hlen hlm
    go_enter Try.func76, Try.ntmps76
    go_wp2
    go_ret
    exact ⟨ret_bool (by simp [HE.out]), Below.refl _ _⟩

theorem neqComplaint (x y : Int × Int) (w : World) : (binOp .neq 66 (.agg #[.int .i64 x.1, .int .i64 x.2]) (.agg #[.int .i64 y.1, .int .i64 y.2])).run Try.prog w = .ok (.bool (decide (x ≠ y))) w := by
  have u3 := Try.underlying3
  have hS : Try.prog.underlying 66 = some (.struct (Try.prog.fieldsOf 66)) := by kernel_rfl
  have hp : Try.prog.stoodInHeld 66 = false := by kernel_rfl
  rw [run_neq_struct, show (10000 : Nat) = 9999 + 1 from rfl, run_equalIn_agg w 9999 66 _ _ hS hp]
  simp only [Program.fieldsOf, Try.underlying66]
  go_simp
  have hxy : x = y ↔ x.1 = y.1 ∧ x.2 = y.2 := by constructor; (intro e; subst e; simp); (intro e; exact Prod.ext e.1 e.2)
  by_cases h0 : x.1 = y.1 <;> by_cases h1 : x.2 = y.2 <;> simp [hxy, h0, h1]

set_option maxHeartbeats 1000000 in
theorem equalComplaint_any (A B : Option Addr) (c d : Nat) (l m : List (Int × Int)) (w : World) (hl : l.length ≤ 9223372036854775807) (hm : m.length ≤ 9223372036854775807) (hA : Sl enc2 2 w w.heap.size A l) (hB : Sl enc2 2 w w.heap.size B m) :
    Calls Try.prog 91 #[.slice A l.length c, .slice B m.length d] w fun e w' => e = .returned (.bool (decide (l = m))) ∧ Below w.heap.size w w' := by
  have hgt : Try.prog.eqGuardType Try.prog.depth 66 = false := by kernel_rfl
  by_cases hlen : l.length = m.length
  · have hb0 : ((l.length : Int) != (m.length : Int)) = false := by simp [hlen]
    have HL := Lib.hid hlen
    clear hlen
    go_enter Try.func91, Try.ntmps91
    go_wp2
    go_loopw [13] (fun i wr => ∃ k : Nat, k ≤ l.length ∧ i = .int .i64 k ∧ Hid (l.take k = m.take k) ∧ Below w.heap.size w wr) (fun i _ => l.length - (intOf i).toNat)
    case atStart => exact ⟨0, Nat.zero_le _, rfl, by simp [Hid], Below.refl _ _⟩
    case round =>
      obtain ⟨k, hk, rfl, HK, hW⟩ := hrel
      by_cases hlt : k < l.length
      · have hlt2 : k < m.length := by have := HL.out; omega
        obtain ⟨b, off, rfl, hb, c0, c1⟩ := (hA.below hW).at2 hlt
        obtain ⟨b2, off2, rfl, hb2, e0, e1⟩ := (hB.below hW).at2 hlt2
        have hq := fun w => neqComplaint l[k] m[k] w
        by_cases he : l[k] = m[k]
        · have hq2 : ∀ w, (binOp .neq 66 (.agg #[.int .i64 l[k].1, .int .i64 l[k].2]) (.agg #[.int .i64 m[k].1, .int .i64 m[k].2])).run Try.prog w = .ok (.bool false) w := fun w => by rw [hq]; simp [he]
          have HE := Lib.hid he
          clear he hq
          go_wp2
          go_quiet (fail)
          go_wp2
          go_roundw
          case rel => exact ⟨k + 1, by omega, by go_num, by unfold Hid; rw [List.take_succ_eq_append_getElem hlt, List.take_succ_eq_append_getElem hlt2, HK.out, HE.out], below_drewN hW _⟩
          case measure => simp [intOf]; omega
        · have hq2 : ∀ w, (binOp .neq 66 (.agg #[.int .i64 l[k].1, .int .i64 l[k].2]) (.agg #[.int .i64 m[k].1, .int .i64 m[k].2])).run Try.prog w = .ok (.bool true) w := fun w => by rw [hq]; simp [he]
          have hlm : l ≠ m := by intro e; subst e; exact he rfl
          have HE := Lib.hid hlm
          clear he hlm hq
          go_wp2
          go_quiet (fail)
          go_wp2
          go_ret
          exact ⟨ret_bool (by simp [HE.out]), below_drewN hW _⟩
      · go_wp2
        go_ret
        have e1 : l.take k = l := List.take_of_length_le (by omega)
        have e2 : m.take k = m := List.take_of_length_le (by have := HL.out; omega)
        exact ⟨ret_bool (by have := HK.out; rw [e1, e2] at this; simp [this]), hW⟩
  · have hb0 : ((l.length : Int) != (m.length : Int)) = true := by simp; omega
    have hlm : l ≠ m := by intro e; subst e; exact hlen rfl
    have HE := Lib.hid hlm
    clear hlen hlm
    go_enter Try.func91, Try.ntmps91
    go_wp2
    go_ret
    exact ⟨ret_bool (by simp [HE.out]), Below.refl _ _⟩

theorem neqSpan (x y : Int × Int) (w : World) : (binOp .neq 88 (.agg #[.int .i64 x.1, .int .i64 x.2]) (.agg #[.int .i64 y.1, .int .i64 y.2])).run Try.prog w = .ok (.bool (decide (x ≠ y))) w := by
  have u3 := Try.underlying3
  have hS : Try.prog.underlying 88 = some (.struct (Try.prog.fieldsOf 88)) := by kernel_rfl
  have hp : Try.prog.stoodInHeld 88 = false := by kernel_rfl
  rw [run_neq_struct, show (10000 : Nat) = 9999 + 1 from rfl, run_equalIn_agg w 9999 88 _ _ hS hp]
  simp only [Program.fieldsOf, Try.underlying88]
  go_simp
  have hxy : x = y ↔ x.1 = y.1 ∧ x.2 = y.2 := by constructor; (intro e; subst e; simp); (intro e; exact Prod.ext e.1 e.2)
  by_cases h0 : x.1 = y.1 <;> by_cases h1 : x.2 = y.2 <;> simp [hxy, h0, h1]

set_option maxHeartbeats 1000000 in
theorem equalSpan_any (A B : Option Addr) (c d : Nat) (l m : List (Int × Int)) (w : World) (hl : l.length ≤ 9223372036854775807) (hm : m.length ≤ 9223372036854775807) (hA : Sl enc2 2 w w.heap.size A l) (hB : Sl enc2 2 w w.heap.size B m) :
    Calls Try.prog 94 #[.slice A l.length c, .slice B m.length d] w fun e w' => e = .returned (.bool (decide (l = m))) ∧ Below w.heap.size w w' := by
  have hgt : Try.prog.eqGuardType Try.prog.depth 88 = false := by kernel_rfl
  by_cases hlen : l.length = m.length
  · have hb0 : ((l.length : Int) != (m.length : Int)) = false := by simp [hlen]
    have HL := Lib.hid hlen
    clear hlen
    go_enter Try.func94, Try.ntmps94
    go_wp2
    go_loopw [13] (fun i wr => ∃ k : Nat, k ≤ l.length ∧ i = .int .i64 k ∧ Hid (l.take k = m.take k) ∧ Below w.heap.size w wr) (fun i _ => l.length - (intOf i).toNat)
    case atStart => exact ⟨0, Nat.zero_le _, rfl, by simp [Hid], Below.refl _ _⟩
    case round =>
      obtain ⟨k, hk, rfl, HK, hW⟩ := hrel
      by_cases hlt : k < l.length
      · have hlt2 : k < m.length := by have := HL.out; omega
        obtain ⟨b, off, rfl, hb, c0, c1⟩ := (hA.below hW).at2 hlt
        obtain ⟨b2, off2, rfl, hb2, e0, e1⟩ := (hB.below hW).at2 hlt2
        have hq := fun w => neqSpan l[k] m[k] w
        by_cases he : l[k] = m[k]
        · have hq2 : ∀ w, (binOp .neq 88 (.agg #[.int .i64 l[k].1, .int .i64 l[k].2]) (.agg #[.int .i64 m[k].1, .int .i64 m[k].2])).run Try.prog w = .ok (.bool false) w := fun w => by rw [hq]; simp [he]
          have HE := Lib.hid he
          clear he hq
          go_wp2
          go_quiet (fail)
          go_wp2
          go_roundw
          case rel => exact ⟨k + 1, by omega, by go_num, by unfold Hid; rw [List.take_succ_eq_append_getElem hlt, List.take_succ_eq_append_getElem hlt2, HK.out, HE.out], below_drewN hW _⟩
          case measure => simp [intOf]; omega
        · have hq2 : ∀ w, (binOp .neq 88 (.agg #[.int .i64 l[k].1, .int .i64 l[k].2]) (.agg #[.int .i64 m[k].1, .int .i64 m[k].2])).run Try.prog w = .ok (.bool true) w := fun w => by rw [hq]; simp [he]
          have hlm : l ≠ m := by intro e; subst e; exact he rfl
          have HE := Lib.hid hlm
          clear he hlm hq
          go_wp2
          go_quiet (fail)
          go_wp2
          go_ret
          exact ⟨ret_bool (by simp [HE.out]), below_drewN hW _⟩
      · go_wp2
        go_ret
        have e1 : l.take k = l := List.take_of_length_le (by omega)
        have e2 : m.take k = m := List.take_of_length_le (by have := HL.out; omega)
        exact ⟨ret_bool (by have := HK.out; rw [e1, e2] at this; simp [this]), hW⟩
  · have hb0 : ((l.length : Int) != (m.length : Int)) = true := by simp; omega
    have hlm : l ≠ m := by intro e; subst e; exact hlen rfl
    have HE := Lib.hid hlm
    clear hlen hlm
    go_enter Try.func94, Try.ntmps94
    go_wp2
    go_ret
    exact ⟨ret_bool (by simp [HE.out]), Below.refl _ _⟩

end Go.Proofs.Ytgopdfbmddkpfaa
