/- Contract of least; conditions: numbers that fit. -/
import Derived.Test.YtfejedmpplbmjaaM4
set_option linter.unusedSimpArgs false
set_option linter.unusedVariables false
namespace Go.Proofs.Ytfejedmpplbmjaa
open Go.RowKit Go.Fh Go.Ml
set_option maxRecDepth 20000 in
set_option maxHeartbeats 4000000 in
theorem least_any (n limit last : Int) (w : World) (h1 : 1 ≤ limit) (h2 : limit ≤ n) (h3 : n ≤ 200) (h4 : 0 ≤ last) (h5 : last ≤ limit) (m : Nat) (ok : Bool) (hm : (m, ok) = if endS n last < 0 then (0, false) else (mS n limit (endS n last), true)) :
    Calls Try.prog 73 #[.agg #[.int .i64 n, .int .i64 limit, .int .i64 last]] w fun e w' => e = .returned (.tuple #[.int .i64 (m : Int), .bool ok]) ∧ Hid (Below w.heap.size w w') := by
  obtain ⟨w1, hw1⟩ : ∃ W, W = w.alloc (.cells #[.int .i64 n, .int .i64 limit, .int .i64 last] 146) := ⟨_, rfl⟩
  obtain ⟨g1, hg1⟩ : ∃ g, g = w.heap.size := ⟨_, rfl⟩
  have k1 : Blk w1 g1 146 #[.int .i64 n, .int .i64 limit, .int .i64 last] := by rw [hw1, hg1]; exact Blk.new _ _ _
  have HB1 := Lib.hid (show Below w.heap.size w w1 from by rw [hw1]; exact balR (Below.refl _ _) _)
  have r0 := k1.cell 0
  have r1 := k1.cell 1
  have r2 := k1.cell 2
  simp at r0 r1 r2
  have HW1 := Lib.hid hw1
  have HG1 := Lib.hid hg1
  obtain ⟨e, he⟩ : ∃ e, e = endS n last := ⟨_, rfl⟩
  rw [← he] at hm
  have heb : -1 ≤ e ∧ e ≤ last := by rw [he]; unfold endS; split <;> omega
  have HE := Lib.hid (show e = if (n - last) % 2 = 0 then last else last - 1 from he)
  have s1 : IntKind.i64.wrap (n - last) = n - last := by rw [IntKind.wrap_i64]; omega
  have s2 : 0 ≤ n - last := by omega
  have s3 : IntKind.i64.wrap ((n - last).tmod 2) = (n - last) % 2 := by rw [Int.tmod_eq_emod_of_nonneg s2, IntKind.wrap_i64]; omega
  have s4 : IntKind.i64.wrap (last - 1) = last - 1 := by rw [IntKind.wrap_i64]; omega
  have s5 : IntKind.i64.wrap (2 * limit) = 2 * limit := by rw [IntKind.wrap_i64]; omega
  have HSP := Lib.hid (mS_spec (n := n) (e := e) h1)
  obtain ⟨M, hM⟩ : ∃ M, M = mS n limit e := ⟨_, rfl⟩
  rw [← hM] at hm HSP
  clear k1 hw1 hg1 he hM
  by_cases hpar : (n - last) % 2 = 0
  · obtain rfl : e = last := by have := HE.out; rw [if_pos hpar] at this; exact this
    have t1 : ((n - e) % 2 != 0) = false := by simpa using hpar
    clear hpar
    have HM := Lib.hid hm
    clear hm HE
    by_cases hn : e < 0
    · have t2 : decide (e < 0) = true := by simpa using hn
      have hx := HM.out
      rw [if_pos hn] at hx
      injection hx with hx1 hx2
      subst hx1 hx2
      clear hn
      go_enter Try.func73, Try.ntmps73
      go_upto_region 1 with fail
      rw [← HW1.out, ← HG1.out]
      go_wp2_with fail
      go_ret2
      exact ⟨rfl, HB1⟩
    · have t2 : decide (e < 0) = false := by simpa using hn
      have hx := HM.out
      rw [if_neg hn] at hx
      injection hx with hx1 hx2
      rw [hx1, hx2]
      clear hx1 hx2 HM
      have HB2 := Lib.hid (show M ≤ 300 from by
        have h := HSP.out
        by_cases hM1 : M = 1
        · omega
        · have h6 := h.2.2 hM1
          rcases Nat.lt_or_ge M 301 with h7 | h7
          · omega
          · have h8 : 1 * ((M : Int) - 2) ≤ limit * ((M : Int) - 2) := Int.mul_le_mul_of_nonneg_right h1 (by omega)
            omega)
      have HT := Lib.hid (show ∀ k : Nat, 1 ≤ k → k < M → 2 * (limit * ((k : Int) - 1)) + e < n from fun k hk hkM => by
        have h := HSP.out
        have h6 := h.2.2 (by omega)
        have h8 : limit * ((k : Int) - 1) ≤ limit * ((M : Int) - 2) := Int.mul_le_mul_of_nonneg_left (by omega) (by omega)
        omega)
      have HPB := Lib.hid (show ∀ k : Nat, 1 ≤ k → k ≤ 300 → 0 ≤ 2 * limit * ((k : Int) - 1) ∧ 2 * limit * ((k : Int) - 1) ≤ 200000 ∧ 2 * limit * ((k : Int) - 1) = 2 * (limit * ((k : Int) - 1)) from fun k hk hkM => by
        have h8 : 0 ≤ limit * ((k : Int) - 1) := Int.mul_nonneg (by omega) (by omega)
        have h9 : limit * ((k : Int) - 1) ≤ 200 * ((k : Int) - 1) := Int.mul_le_mul_of_nonneg_right (by omega) (by omega)
        have h10 : 2 * limit * ((k : Int) - 1) = 2 * (limit * ((k : Int) - 1)) := by rw [Int.mul_assoc]
        omega)
      clear hn
      go_enter Try.func73, Try.ntmps73
      go_upto_region 1 with fail
      rw [← HW1.out, ← HG1.out]
      go_wp2_with fail
      go_loopw [5] (fun u wr => ∃ k : Nat, 1 ≤ k ∧ k ≤ M ∧ u = .int .i64 (k : Int) ∧ Hid (wr = w1)) (fun u _ => M - (intOf u).toNat)
      case atStart => exact ⟨1, Nat.le_refl _, HSP.out.1, rfl, Lib.hid rfl⟩
      case round =>
        obtain ⟨k, hk1, hk, rfl, hwr⟩ := hrel
        have hwr := hwr.out
        subst hwr
        have hkb := HB2.out
        have hp := HPB.out k hk1 (by omega)
        obtain ⟨pr, hpr⟩ : ∃ pr, pr = 2 * limit * ((k : Int) - 1) := ⟨_, rfl⟩
        rw [← hpr] at hp
        have p1 : IntKind.i64.wrap ((k : Int) - 1) = (k : Int) - 1 := by rw [IntKind.wrap_i64]; omega
        have p2 : IntKind.i64.wrap (2 * limit * ((k : Int) - 1)) = pr := by rw [← hpr, IntKind.wrap_i64]; omega
        have p3 : IntKind.i64.wrap (pr + e) = pr + e := by rw [IntKind.wrap_i64]; omega
        have HPR := Lib.hid hpr
        by_cases hlt : k < M
        · have t4 := HT.out k hk1 hlt
          have t5 : decide (n > pr + e) = true := by simp; omega
          have t6 : decide (pr + e < n) = true := by simp; omega
          clear hpr
          go_wp2_with fail
          go_roundw
          case rel => exact ⟨k + 1, by omega, by omega, by go_num, Lib.hid trivial⟩
          case measure => simp [intOf]; omega
        · obtain rfl : k = M := by omega
          have t4 := HSP.out.2.1
          have t5 : decide (n > pr + e) = false := by simp; omega
          have t6 : decide (pr + e < n) = false := by simp; omega
          clear hpr
          go_wp2_with fail
          go_ret2
          exact ⟨rfl, HB1⟩
  · obtain rfl : e = last - 1 := by have := HE.out; rw [if_neg hpar] at this; exact this
    have t1 : ((n - last) % 2 != 0) = true := by simpa using hpar
    clear hpar
    have HM := Lib.hid hm
    clear hm HE
    by_cases hn : (last - 1) < 0
    · have t2 : decide ((last - 1) < 0) = true := by simpa using hn
      have hx := HM.out
      rw [if_pos hn] at hx
      injection hx with hx1 hx2
      subst hx1 hx2
      clear hn
      go_enter Try.func73, Try.ntmps73
      go_upto_region 1 with fail
      rw [← HW1.out, ← HG1.out]
      go_wp2_with fail
      go_ret2
      exact ⟨rfl, HB1⟩
    · have t2 : decide ((last - 1) < 0) = false := by simpa using hn
      have hx := HM.out
      rw [if_neg hn] at hx
      injection hx with hx1 hx2
      rw [hx1, hx2]
      clear hx1 hx2 HM
      have HB2 := Lib.hid (show M ≤ 300 from by
        have h := HSP.out
        by_cases hM1 : M = 1
        · omega
        · have h6 := h.2.2 hM1
          rcases Nat.lt_or_ge M 301 with h7 | h7
          · omega
          · have h8 : 1 * ((M : Int) - 2) ≤ limit * ((M : Int) - 2) := Int.mul_le_mul_of_nonneg_right h1 (by omega)
            omega)
      have HT := Lib.hid (show ∀ k : Nat, 1 ≤ k → k < M → 2 * (limit * ((k : Int) - 1)) + (last - 1) < n from fun k hk hkM => by
        have h := HSP.out
        have h6 := h.2.2 (by omega)
        have h8 : limit * ((k : Int) - 1) ≤ limit * ((M : Int) - 2) := Int.mul_le_mul_of_nonneg_left (by omega) (by omega)
        omega)
      have HPB := Lib.hid (show ∀ k : Nat, 1 ≤ k → k ≤ 300 → 0 ≤ 2 * limit * ((k : Int) - 1) ∧ 2 * limit * ((k : Int) - 1) ≤ 200000 ∧ 2 * limit * ((k : Int) - 1) = 2 * (limit * ((k : Int) - 1)) from fun k hk hkM => by
        have h8 : 0 ≤ limit * ((k : Int) - 1) := Int.mul_nonneg (by omega) (by omega)
        have h9 : limit * ((k : Int) - 1) ≤ 200 * ((k : Int) - 1) := Int.mul_le_mul_of_nonneg_right (by omega) (by omega)
        have h10 : 2 * limit * ((k : Int) - 1) = 2 * (limit * ((k : Int) - 1)) := by rw [Int.mul_assoc]
        omega)
      clear hn
      go_enter Try.func73, Try.ntmps73
      go_upto_region 1 with fail
      rw [← HW1.out, ← HG1.out]
      go_wp2_with fail
      go_loopw [5] (fun u wr => ∃ k : Nat, 1 ≤ k ∧ k ≤ M ∧ u = .int .i64 (k : Int) ∧ Hid (wr = w1)) (fun u _ => M - (intOf u).toNat)
      case atStart => exact ⟨1, Nat.le_refl _, HSP.out.1, rfl, Lib.hid rfl⟩
      case round =>
        obtain ⟨k, hk1, hk, rfl, hwr⟩ := hrel
        have hwr := hwr.out
        subst hwr
        have hkb := HB2.out
        have hp := HPB.out k hk1 (by omega)
        obtain ⟨pr, hpr⟩ : ∃ pr, pr = 2 * limit * ((k : Int) - 1) := ⟨_, rfl⟩
        rw [← hpr] at hp
        have p1 : IntKind.i64.wrap ((k : Int) - 1) = (k : Int) - 1 := by rw [IntKind.wrap_i64]; omega
        have p2 : IntKind.i64.wrap (2 * limit * ((k : Int) - 1)) = pr := by rw [← hpr, IntKind.wrap_i64]; omega
        have p3 : IntKind.i64.wrap (pr + (last - 1)) = pr + (last - 1) := by rw [IntKind.wrap_i64]; omega
        have HPR := Lib.hid hpr
        by_cases hlt : k < M
        · have t4 := HT.out k hk1 hlt
          have t5 : decide (n > pr + (last - 1)) = true := by simp; omega
          have t6 : decide (pr + (last - 1) < n) = true := by simp; omega
          clear hpr
          go_wp2_with fail
          go_roundw
          case rel => exact ⟨k + 1, by omega, by omega, by go_num, Lib.hid trivial⟩
          case measure => simp [intOf]; omega
        · obtain rfl : k = M := by omega
          have t4 := HSP.out.2.1
          have t5 : decide (n > pr + (last - 1)) = false := by simp; omega
          have t6 : decide (pr + (last - 1) < n) = false := by simp; omega
          clear hpr
          go_wp2_with fail
          go_ret2
          exact ⟨rfl, HB1⟩
end Go.Proofs.Ytfejedmpplbmjaa
