/- Contract of the reference's less; conditions: lists in memory, lengths that fit. -/
import Derived.Test.YtnbnfadmbggfnaaCP
set_option linter.unusedSimpArgs false
set_option linter.unusedVariables false
namespace Go.Rl
theorem lessL_drop : ∀ (k : Nat) (l m : List Int), l.take k = m.take k → k ≤ l.length → k ≤ m.length → lessL l m = lessL (l.drop k) (m.drop k) := by
  intro k
  induction k with
  | zero => intro l m _ _ _; rfl
  | succ k ih =>
    intro l m h h1 h2
    cases l with
    | nil => simp at h1
    | cons a l =>
      cases m with
      | nil => simp at h2
      | cons b m =>
        simp only [List.take_succ_cons, List.cons.injEq] at h
        simp only [List.length_cons, Nat.add_le_add_iff_right] at h1 h2
        simp only [lessL, List.drop_succ_cons]
        rw [if_pos h.1]
        exact ih l m h.2 h1 h2
theorem lessL_at {k : Nat} {l m : List Int} (h : l.take k = m.take k) (h1 : k < l.length) (h2 : k < m.length) (hne : l[k] ≠ m[k]) : lessL l m = decide (l[k] < m[k]) := by
  rw [lessL_drop k l m h (by omega) (by omega), List.drop_eq_getElem_cons h1, List.drop_eq_getElem_cons h2]
  simp only [lessL]
  rw [if_neg hne]
theorem lessL_end {k : Nat} {l m : List Int} (h : l.take k = m.take k) (h1 : k ≤ l.length) (h2 : k ≤ m.length) (he : ¬ (k < l.length ∧ k < m.length)) : lessL l m = decide ((l.length : Int) < (m.length : Int)) := by
  rw [lessL_drop k l m h h1 h2]
  by_cases e : k = l.length
  · rw [List.drop_eq_nil_of_le (by omega)]
    by_cases e2 : k = m.length
    · rw [List.drop_eq_nil_of_le (by omega)]
      simp [lessL]; omega
    · rw [List.drop_eq_getElem_cons (show k < m.length by omega)]
      simp [lessL]; omega
  · have e2 : k = m.length := by omega
    rw [List.drop_eq_getElem_cons (show k < l.length by omega), List.drop_eq_nil_of_le (show m.length ≤ k by omega)]
    simp [lessL]; omega
end Go.Rl
namespace Go.Proofs.Ytnbnfadmbggfnaa
open Go.RowKit Go.Fh Go.Rl
set_option maxHeartbeats 1000000 in
theorem rless_any (A B : Option Addr) (c d : Nat) (l m : List Int) (w : World) (hl : l.length ≤ 1000000000) (hm : m.length ≤ 1000000000) (hA : Sl encInt 1 w w.heap.size A l) (hB : Sl encInt 1 w w.heap.size B m) :
    Calls Try.prog 129 #[.slice A l.length c, .slice B m.length d] w fun e w' => e = .returned (.bool (lessL l m)) ∧ ∃ q, w' = w.drewN q := by
  go_enter Try.func129, Try.ntmps129
  go_wp2_with fail
  go_loopw [5] (fun i wr => ∃ k q : Nat, k ≤ l.length ∧ k ≤ m.length ∧ i = .int .i64 k ∧ Hid (l.take k = m.take k) ∧ Hid (wr = w.drewN q)) (fun i _ => l.length - (intOf i).toNat)
  case atStart => exact ⟨0, 0, Nat.zero_le _, Nat.zero_le _, rfl, by simp [Hid], Lib.hid rfl⟩
  case round =>
    obtain ⟨k, q, hk, hk2, rfl, HK, HW⟩ := hrel
    have hWB : Below w.heap.size w wr := by rw [HW.out]; exact below_drewN (Below.refl _ _) _
    by_cases hlt : k < l.length
    · by_cases hlt2 : k < m.length
      · obtain ⟨b, off, rfl, hb, c0⟩ := (hA.below hWB).at1 hlt
        obtain ⟨b2, off2, rfl, hb2, c2⟩ := (hB.below hWB).at1 hlt2
        have i1 : IntKind.i64.wrap ((k : Int) + 1) = (k : Int) + 1 := by rw [IntKind.wrap_i64]; omega
        have i0 : (0 : Int) ≤ (k : Int) := by omega
        clear hWB
        by_cases he : l[k] = m[k]
        · have hne : (l[k] != m[k]) = false := by simp [he]
          have HE := Lib.hid he
          clear he
          go_wp2_with fail
          go_quiet (fail)
          go_wp2_with fail
          go_roundw
          case rel => exact ⟨k + 1, q + nq, by omega, by omega, by go_num, by unfold Hid; rw [List.take_succ_eq_append_getElem hlt, List.take_succ_eq_append_getElem hlt2, HK.out, HE.out], Lib.hid (by rw [HW.out, World.drewN_drewN])⟩
          case measure => simp [intOf]; omega
        · have hne : (l[k] != m[k]) = true := by simp [he]
          have HE := Lib.hid (lessL_at HK.out hlt hlt2 he)
          clear he
          go_wp2_with fail
          go_quiet (fail)
          go_wp2_with fail
          go_quiet (fail)
          go_wp2_with fail
          go_ret
          refine ⟨ret_bool (by rw [HE.out]), ?_⟩
          rw [HW.out, World.drewN_drewN]
          first | exact ⟨_, rfl⟩ | (rw [World.drewN_drewN]; exact ⟨_, rfl⟩)
      · have HE := Lib.hid (lessL_end HK.out hk hk2 (by omega))
        go_wp2_with fail
        go_ret
        exact ⟨ret_bool (by rw [HE.out]; simp), ⟨q, HW.out⟩⟩
    · have HE := Lib.hid (lessL_end HK.out hk hk2 (by omega))
      go_wp2_with fail
      go_ret
      exact ⟨ret_bool (by rw [HE.out]; simp), ⟨q, HW.out⟩⟩
end Go.Proofs.Ytnbnfadmbggfnaa
