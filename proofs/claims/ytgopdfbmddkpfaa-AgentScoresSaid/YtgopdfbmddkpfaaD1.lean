/- Contracts of the reference: costs, loss, total, Loss, Total; of Loss; conditions: none. -/
import Derived.Test.YtgopdfbmddkpfaaT2
import Derived.Test.YtgopdfbmddkpfaaR1
set_option linter.unusedSimpArgs false
set_option linter.unusedVariables false
namespace Go.Ag
def lossR (d : Int × Int) (q over under : Int) : Int × Int :=
  if wrongDay d = true then (0, 120) else if inB q 0 10000 = false then (0, 6) else if costsB over under = false then (0, 1) else (lossOf d.1 d.2 q over under, 0)
end Go.Ag
namespace Go.Proofs.Ytgopdfbmddkpfaa
open Go.RowKit Go.Fh Go.Ag

set_option maxRecDepth 20000 in
theorem rcosts_any (a b : Int) (w : World) :
    Calls Try.prog 104 #[.int .i64 a, .int .i64 b] w fun e w' => e = .returned (.bool (costsB a b)) ∧ w = w' := by
  cases h1 : inB a 0 1000
  · have hr : costsB a b = false := by simp [costsB, h1]
    have HR := Lib.hid hr
    clear hr
    go_enter Try.func104, Try.ntmps104
    go_wp2_with (go_at_call 103; refine (rin_any _ _ _ _).mono ?_; rintro e w' ⟨rfl, rfl⟩)
    go_ret
    exact ⟨ret_bool HR.out.symm, rfl⟩
  · cases h2 : inB b 0 1000
    · have hr : costsB a b = false := by simp [costsB, h1, h2]
      have HR := Lib.hid hr
      clear hr
      go_enter Try.func104, Try.ntmps104
      go_wp2_with (go_at_call 103; refine (rin_any _ _ _ _).mono ?_; rintro e w' ⟨rfl, rfl⟩)
      go_ret
      exact ⟨ret_bool HR.out.symm, rfl⟩
    · have ha := inB_iff.1 h1
      have hb := inB_iff.1 h2
      by_cases h3 : a = 0
      · by_cases h4 : b = 0
        · have hr : costsB a b = false := by simp [costsB, h1, h2, h3, h4]
          have HR := Lib.hid hr
          have t3 : (a != 0) = false := by simp [h3]
          have t4 : (b != 0) = false := by simp [h4]
          clear hr h3 h4
          go_enter Try.func104, Try.ntmps104
          go_wp2_with (go_at_call 103; refine (rin_any _ _ _ _).mono ?_; rintro e w' ⟨rfl, rfl⟩)
          go_ret
          exact ⟨ret_bool HR.out.symm, rfl⟩
        · have hr : costsB a b = true := by simp [costsB, h1, h2]; omega
          have HR := Lib.hid hr
          have t3 : (a != 0) = false := by simp [h3]
          have t4 : (b != 0) = true := by simpa using h4
          clear hr h3 h4
          go_enter Try.func104, Try.ntmps104
          go_wp2_with (go_at_call 103; refine (rin_any _ _ _ _).mono ?_; rintro e w' ⟨rfl, rfl⟩)
          go_ret
          exact ⟨ret_bool HR.out.symm, rfl⟩
      · have hr : costsB a b = true := by simp [costsB, h1, h2]; omega
        have HR := Lib.hid hr
        have t3 : (a != 0) = true := by simpa using h3
        clear hr h3
        go_enter Try.func104, Try.ntmps104
        go_wp2_with (go_at_call 103; refine (rin_any _ _ _ _).mono ?_; rintro e w' ⟨rfl, rfl⟩)
        go_ret
        exact ⟨ret_bool HR.out.symm, rfl⟩

set_option maxRecDepth 20000 in
set_option maxHeartbeats 2000000 in
theorem rloss_any (s r q over under : Int) (w : World) (h1 : 0 ≤ s) (h2 : s ≤ 10000) (h3 : 0 ≤ r) (h4 : r ≤ s) (h5 : 0 ≤ q) (h6 : q ≤ 10000) (h7 : 0 ≤ over) (h8 : over ≤ 1000) (h9 : 0 ≤ under) (h10 : under ≤ 1000) :
    Calls Try.prog 105 #[.agg #[.int .i64 s, .int .i64 r], .int .i64 q, .int .i64 over, .int .i64 under] w fun e w' => e = .returned (.int .i64 (lossOf s r q over under)) ∧ Below w.heap.size w w' := by
  have hb0 : Below w.heap.size w (w.alloc (.cells #[.int .i64 s, .int .i64 r] 120)) := (Below.refl _ _).alloc (Nat.le_refl _) _
  have g0 := IntWalk.i64_in (s - r) (by omega)
  have hmul : ∀ (c : Int) (j : Nat), 0 ≤ c → c ≤ 1000 → (j : Int) ≤ 10000 → 0 ≤ c * j ∧ c * j ≤ 10000000 := fun c j a b d => by
    have x := Int.mul_nonneg a (show (0 : Int) ≤ (j : Int) by omega)
    have y := Int.mul_le_mul b d (by omega) (by omega)
    omega
  have HM := Lib.hid hmul
  clear hmul
  obtain ⟨so, hso⟩ : ∃ so, so = s - r := ⟨_, rfl⟩
  have hso1 : 0 ≤ so := by omega
  have hso2 : so ≤ 10000 := by omega
  have HSO := Lib.hid hso
  go_enter Try.func105, Try.ntmps105
  go_wp2_with fail
  rw [← hso]
  clear hso g0
  go_loopw [10, 11] (fun n k wr => ∃ j : Nat, (j : Int) ≤ 10000 ∧ (j = 0 ∨ q + (j : Int) ≤ so) ∧ k = .int .i64 (q + j) ∧ n = .int .i64 (under * j) ∧ wr = w.alloc (.cells #[.int .i64 s, .int .i64 r] 120)) (fun _ k _ => (so - intOf k).toNat)
  case atStart => exact ⟨0, by omega, .inl rfl, by simp, by simp, rfl⟩
  case round =>
    obtain ⟨j, hj, hj2, rfl, rfl, rfl⟩ := hrel
    have hm := HM.out under j h9 h10 hj
    by_cases hlt : q + (j : Int) < so
    · have t1 : decide (q + (j : Int) < so) = true := by simpa using hlt
      have f1 := IntWalk.i64_in (under * j + under) (by omega)
      have f2 := IntWalk.i64_in (q + j + 1) (by omega)
      go_wp2_with fail
      go_roundw
      case rel => exact ⟨j + 1, by omega, .inr (by omega), int_eq (by omega), int_eq (by rw [Int.natCast_add, Int.mul_add]; simp), trivial⟩
      case measure => simp [intOf]; omega
    · have t1 : decide (q + (j : Int) < so) = false := by simpa using hlt
      have hjc : (j = 0 ∧ so ≤ q) ∨ (0 < j ∧ (j : Int) = so - q) := by omega
      have hu := HM.out under j h9 h10 hj
      go_wp2_with fail
      go_loopw [10, 12] (fun n k wr => ∃ i : Nat, (i : Int) ≤ 10000 ∧ (i = 0 ∨ (so + (i : Int) ≤ q ∧ 0 < r)) ∧ k = .int .i64 (so + i) ∧ n = .int .i64 (under * j + over * i) ∧ wr = w.alloc (.cells #[.int .i64 s, .int .i64 r] 120)) (fun _ k _ => (q - intOf k).toNat)
      case atStart => exact ⟨0, by omega, .inl rfl, by simp, by simp, rfl⟩
      case round =>
        obtain ⟨i, hi, hi2, rfl, rfl, rfl⟩ := hrel
        have ho := HM.out over i h7 h8 hi
        by_cases hlt2 : so + (i : Int) < q
        · have t2 : decide (so + (i : Int) < q) = true := by simpa using hlt2
          by_cases hr : 0 < r
          · have t3 : decide (0 < r) = true := by simpa using hr
            have f1 := IntWalk.i64_in (under * j + over * i + over) (by omega)
            have f2 := IntWalk.i64_in (so + i + 1) (by omega)
            go_wp2_with fail
            go_roundw
            case rel => exact ⟨i + 1, by omega, .inr (by omega), int_eq (by omega), int_eq (by rw [Int.natCast_add i 1, Int.mul_add over]; simp; omega), trivial⟩
            case measure => simp [intOf]; omega
          · have t3 : decide (0 < r) = false := by simpa using hr
            have hr' : r ≤ 0 := by omega
            have hv : lossOf s r q over under = under * j + over * i := by
              have hi0 : i = 0 := by omega
              unfold lossOf
              rw [← HSO.out, if_neg (by omega), if_neg hr, hi0]
              rcases hjc with ⟨rfl, _⟩ | ⟨_, e⟩
              · simp
              · omega
            have HV := Lib.hid hv
            clear hv hr
            go_wp2_with fail
            go_ret
            exact ⟨ret_int HV.out.symm, hb0⟩
        · have t2 : decide (so + (i : Int) < q) = false := by simpa using hlt2
          have hv : lossOf s r q over under = under * j + over * i := by
            unfold lossOf
            rw [← HSO.out]
            by_cases hq : 0 ≤ so - q
            · have hi0 : i = 0 := by omega
              rw [if_pos hq, hi0]
              rcases hjc with ⟨rfl, hh⟩ | ⟨_, e⟩
              · have : so - q = 0 := by omega
                rw [this]; simp
              · rw [e]; simp
            · have hj0 : j = 0 := by omega
              have hr : 0 < r := by omega
              have e : -(so - q) = (i : Int) := by omega
              rw [if_neg hq, if_pos hr, e, hj0]; simp
          have HV := Lib.hid hv
          clear hv
          go_wp2_with fail
          go_ret
          exact ⟨ret_int HV.out.symm, hb0⟩
end Go.Proofs.Ytgopdfbmddkpfaa
