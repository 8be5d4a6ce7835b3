/- Contracts of cmp.Compare, slices.Compare, less of plans and the search's test of what is left; conditions: rows in memory. Printed by a program. -/
import Derived.Test.YtnbnfadmbggfnaaPA
import Derived.Test.YtnbnfadmbggfnaaCQ
set_option linter.unusedSimpArgs false
set_option linter.unusedVariables false
namespace Go.Proofs.Ytnbnfadmbggfnaa
open Go.RowKit Go.Fh Go.Rl
theorem nan145_any (a : Int) (w : World) : Calls Try.prog 145 #[.int .i64 a] w fun e w' => e = .returned (.bool false) ∧ w = w' := by
  go_enter Try.func145, Try.ntmps145
  go_wp2_with fail
  go_ret
  exact ⟨rfl, rfl⟩
def cmpI (a b : Int) : Int := if a < b then -1 else if b < a then 1 else 0
theorem cmp131_any (a b : Int) (w : World) : Calls Try.prog 131 #[.int .i64 a, .int .i64 b] w fun e w' => e = .returned (.int .i64 (cmpI a b)) ∧ w = w' := by
  by_cases h1 : a < b
  · go_enter Try.func131, Try.ntmps131
    go_wp2_with (go_at_call 145; with_reducible refine (nan145_any _ _).mono ?_; rintro e w2 ⟨rfl, rfl⟩)
    go_ret
    exact ⟨ret_int (by unfold cmpI; rw [if_pos h1]), rfl⟩
  · by_cases h2 : b < a
    · go_enter Try.func131, Try.ntmps131
      go_wp2_with (go_at_call 145; with_reducible refine (nan145_any _ _).mono ?_; rintro e w2 ⟨rfl, rfl⟩)
      go_ret
      exact ⟨ret_int (by unfold cmpI; rw [if_neg (by omega), if_pos (by omega)]), rfl⟩
    · go_enter Try.func131, Try.ntmps131
      go_wp2_with (go_at_call 145; with_reducible refine (nan145_any _ _).mono ?_; rintro e w2 ⟨rfl, rfl⟩)
      go_ret
      exact ⟨ret_int (by unfold cmpI; rw [if_neg (by omega), if_neg (by omega)]), rfl⟩
set_option maxRecDepth 20000 in
set_option maxHeartbeats 2000000 in
theorem compare_any (A B : Option Addr) (c d : Nat) (l m : List Int) (w : World) (hl : l.length ≤ 9223372036854775807) (hm : m.length ≤ 9223372036854775807) (hA : Sl encInt 1 w w.heap.size A l) (hB : Sl encInt 1 w w.heap.size B m) :
    Calls Try.prog 116 #[.slice A l.length c, .slice B m.length d] w fun e w' => ∃ v : Int, e = .returned (.int .i64 v) ∧ Hid (decide (v < 0) = lessL l m) ∧ w = w' := by
  go_enter Try.func116, Try.ntmps116
  go_wp2_with fail
  go_loopw [11] (fun i wr => ∃ k : Nat, k ≤ l.length ∧ k ≤ m.length ∧ i = .int .i64 k ∧ Hid (l.take k = m.take k) ∧ w = wr) (fun i _ => l.length - (intOf i).toNat)
  case atStart => exact ⟨0, Nat.zero_le _, Nat.zero_le _, rfl, by simp [Hid], rfl⟩
  case round =>
    obtain ⟨k, hk, hk2, rfl, HK, rfl⟩ := hrel
    by_cases hlt : k < l.length
    · have i0 : (0 : Int) ≤ (k : Int) := by omega
      obtain ⟨b, off, rfl, hb, c0⟩ := hA.at1 hlt
      by_cases hlt2 : k < m.length
      · obtain ⟨b2, off2, rfl, hb2, c2⟩ := hB.at1 hlt2
        have i2 : ¬ (m.length : Int) ≤ (k : Int) := by omega
        by_cases he : l[k] = m[k]
        · have hc : cmpI l[k] m[k] = 0 := by unfold cmpI; rw [if_neg (by omega), if_neg (by omega)]
          have HE := Lib.hid he
          have HC := Lib.hid (cmp131_any l[k] m[k] w)
          rw [hc] at HC
          clear he hc
          go_wp2_with (go_at_call 131; with_reducible refine HC.out.mono ?_; rintro e w2 ⟨rfl, rfl⟩)
          go_roundw
          case rel => exact ⟨k + 1, by omega, by omega, by go_num, by unfold Hid; rw [List.take_succ_eq_append_getElem hlt, List.take_succ_eq_append_getElem hlt2, HK.out, HE.out], by first | rfl | trivial⟩
          case measure => simp [intOf]; omega
        · have HE := Lib.hid (lessL_at HK.out hlt hlt2 he)
          obtain ⟨v, hv⟩ : ∃ v, v = cmpI l[k] m[k] := ⟨_, rfl⟩
          have HC := Lib.hid (cmp131_any l[k] m[k] w)
          rw [← hv] at HC
          have hv0 : (v != 0) = true := by rw [hv]; unfold cmpI; split; (rfl); (rw [if_pos (by omega)]; rfl)
          have hvl : decide (v < 0) = decide (l[k] < m[k]) := by
            rw [hv]; unfold cmpI
            by_cases h : l[k] < m[k]
            · rw [if_pos h]; simp [h]
            · rw [if_neg h, if_pos (by omega)]; simp [h]
          have HV := Lib.hid hvl
          clear he hv hvl
          go_wp2_with (go_at_call 131; with_reducible refine HC.out.mono ?_; rintro e w2 ⟨rfl, rfl⟩)
          go_ret
          exact ⟨v, rfl, Lib.hid (HV.out.trans HE.out.symm), rfl⟩
      · have HE := Lib.hid (lessL_end HK.out hk hk2 (by omega))
        have i2 : (m.length : Int) ≤ (k : Int) := by omega
        go_wp2_with fail
        go_ret
        exact ⟨1, rfl, Lib.hid (by rw [HE.out]; simp; omega), rfl⟩
    · have HE := Lib.hid (lessL_end HK.out hk hk2 (by omega))
      by_cases hlm : (l.length : Int) < (m.length : Int)
      · go_wp2_with fail
        go_ret
        exact ⟨-1, rfl, Lib.hid (by rw [HE.out]; simp; omega), rfl⟩
      · go_wp2_with fail
        go_ret
        exact ⟨0, rfl, Lib.hid (by rw [HE.out]; simp; omega), rfl⟩
set_option maxRecDepth 20000 in
set_option maxHeartbeats 2000000 in
theorem less79_any (A B : Option Addr) (c d n m : Nat) (a b : PlT) (w : World) (hn : a.1.length = n) (hm : b.1.length = m) (hn9 : n ≤ 9223372036854775807) (hm9 : m ≤ 9223372036854775807) (hA : Sl encInt 1 w w.heap.size A a.1) (hB : Sl encInt 1 w w.heap.size B b.1) :
    Calls Try.prog 79 #[.agg #[.slice A n c, .int .i64 a.2.1, .int .i64 a.2.2], .agg #[.slice B m d, .int .i64 b.2.1, .int .i64 b.2.2]] w fun e w' => e = .returned (.bool (lessP a b)) ∧ Hid (Below w.heap.size w w') := by
  obtain ⟨la, ua, ba⟩ := a
  obtain ⟨lb, ub, bb⟩ := b
  dsimp only at *
  obtain ⟨g1, hg1⟩ : ∃ g, g = w.heap.size := ⟨_, rfl⟩
  obtain ⟨w1, hw1⟩ : ∃ W, W = w.alloc (.cells #[.slice A n c, .int .i64 ua, .int .i64 ba] 148) := ⟨_, rfl⟩
  obtain ⟨g2, hg2⟩ : ∃ g, g = g1 + 1 := ⟨_, rfl⟩
  obtain ⟨w2, hw2⟩ : ∃ W, W = w1.alloc (.cells #[.slice B m d, .int .i64 ub, .int .i64 bb] 148) := ⟨_, rfl⟩
  have k1 : Blk w2 g1 148 #[.slice A n c, .int .i64 ua, .int .i64 ba] := by rw [hw2, hw1, hg1]; exact (Blk.new _ _ _).alloc _
  have k2 : Blk w2 g2 148 #[.slice B m d, .int .i64 ub, .int .i64 bb] := by rw [hw2, hg2, hg1]; exact blkAt (by rw [hw1]; simp) 148 _
  have hb2 : Below w.heap.size w w2 := by rw [hw2, hw1]; exact balR (balR (Below.refl _ _) _) _
  have r0 := k1.cell 0
  have r1 := k1.cell 1
  have r2 := k1.cell 2
  have s0 := k2.cell 0
  have s1 := k2.cell 1
  have s2 := k2.cell 2
  simp at r0 r1 r2 s0 s1 s2
  have HCM := Lib.hid (show Calls Try.prog 116 #[.slice A n c, .slice B m d] w2 fun e w' => ∃ v : Int, e = .returned (.int .i64 v) ∧ Hid (decide (v < 0) = lessL la lb) ∧ w2 = w' from by
    have := compare_any A B c d la lb w2 (by omega) (by omega) ((hA.below hb2).mono hb2.size) ((hB.below hb2).mono hb2.size)
    rw [hn, hm] at this
    exact this)
  have HB := Lib.hid hb2
  have HW := Lib.hid (And.intro hw1 hw2)
  have HG := Lib.hid (And.intro hg1 hg2)
  clear k1 k2 hb2 hw1 hw2 hg1 hg2 hA hB hn hm
  by_cases h1 : ua = ub
  · subst h1
    have t1 : (ua != ua) = false := by simp
    by_cases h2 : ba = bb
    · subst h2
      go_enter Try.func79, Try.ntmps79
      go_upto_region 1 with fail
      rw [← HW.out.1, ← HG.out.1, ← HG.out.2, ← HW.out.2]
      go_wp2_with (go_at_call 116; with_reducible refine HCM.out.mono ?_; rintro e w3 ⟨v, rfl, HV, rfl⟩)
      go_ret
      exact ⟨ret_bool (by rw [HV.out]; unfold lessP; simp), HB⟩
    · have t2 : (ba != bb) = true := by simpa using h2
      go_enter Try.func79, Try.ntmps79
      go_upto_region 1 with fail
      rw [← HW.out.1, ← HG.out.1, ← HG.out.2, ← HW.out.2]
      go_wp2_with fail
      go_ret
      exact ⟨ret_bool (by unfold lessP; simp [h2]), HB⟩
  · have t1 : (ua != ub) = true := by simpa using h1
    go_enter Try.func79, Try.ntmps79
    go_upto_region 1 with fail
    rw [← HW.out.1, ← HG.out.1, ← HG.out.2, ← HW.out.2]
    go_wp2_with fail
    go_ret
    exact ⟨ret_bool (by unfold lessP; simp [h1]), HB⟩
theorem bPC5_any (v : Int) (w : World) :
    Calls Try.prog 115 #[.int .i64 v] w fun e w' => e = .returned (.bool (decide (0 < v))) ∧ w = w' := by
  by_cases h : 0 < v
  all_goals
    go_enter Try.func115, Try.ntmps115
    go_wp2_with fail
    go_ret
    exact ⟨ret_bool (by simp [h]), rfl⟩

set_option maxRecDepth 20000 in
set_option maxHeartbeats 2000000 in
theorem bPI5_any (A : Option Addr) (c : Nat) (l : List Int) (w : World) (hl : l.length ≤ 9223372036854775807) (hA : Sl encInt 1 w w.heap.size A l) :
    Calls Try.prog 99 #[.slice A l.length c, .func (.func 115) #[] #[]] w fun e w' => e = .returned (.int .i64 (findI (fun v => decide (0 < v)) l)) ∧ Below w.heap.size w w' := by
  have HA := Lib.hid hA
  clear hA
  go_enter Try.func99, Try.ntmps99
  go_wp2
  go_loopw [8] (fun i wr => ∃ k : Nat, k ≤ l.length ∧ i = .int .i64 k ∧ Hid (∀ x ∈ l.take k, (decide (0 < x)) = false) ∧ Below w.heap.size w wr) (fun i _ => l.length - (intOf i).toNat)
  case atStart => exact ⟨0, Nat.zero_le _, rfl, by simp [Hid], Below.refl _ _⟩
  case round =>
    obtain ⟨k, hk, rfl, HN, hB⟩ := hrel
    by_cases hlt : k < l.length
    · obtain ⟨b, off, rfl, hb, c0⟩ := (HA.out.below hB).at1 hlt
      cases hw : (decide (0 < l[k]))
      · have HW := Lib.hid hw
        go_wp2_with (go_at_call 115; refine (bPC5_any _ _).mono ?_; rintro e w' ⟨rfl, rfl⟩)
        go_roundw
        case rel =>
          refine ⟨k + 1, by omega, by go_num, ?_, hB⟩
          intro x hx
          rw [List.take_succ_eq_append_getElem hlt, List.mem_append] at hx
          rcases hx with hx | hx
          · exact HN.out x hx
          · simp at hx; subst hx; exact HW.out
        case measure => simp [intOf]; omega
      · have HF := Lib.hid (findI_hit (p := fun v => decide (0 < v)) hlt HN.out hw)
        go_wp2_with (go_at_call 115; refine (bPC5_any _ _).mono ?_; rintro e w' ⟨rfl, rfl⟩)
        go_ret
        exact ⟨ret_int HF.out.symm, hB⟩
    · go_wp2
      go_ret
      exact ⟨ret_int (findI_miss (fun x hx => HN.out x (by rw [List.take_of_length_le (by omega)]; exact hx))).symm, hB⟩

set_option maxRecDepth 20000 in
set_option maxHeartbeats 2000000 in
theorem bP5_any (A : Option Addr) (c : Nat) (l : List Int) (w : World) (hl : l.length ≤ 9223372036854775807) (hA : Sl encInt 1 w w.heap.size A l) :
    Calls Try.prog 56 #[.slice A l.length c, .func (.func 115) #[] #[]] w fun e w' => e = .returned (.bool (l.any fun v => decide (0 < v))) ∧ Below w.heap.size w w' := by
  have hf := findI_any (fun v => decide (0 < v)) l
  have HF := Lib.hid hf
  clear hf
  go_enter Try.func56, Try.ntmps56
  go_wp2_with (go_at_call 99; refine (bPI5_any _ _ _ _ hl hA).mono ?_; rintro e w' ⟨rfl, hb⟩)
  go_ret
  exact ⟨ret_bool HF.out, hb⟩
end Go.Proofs.Ytnbnfadmbggfnaa
