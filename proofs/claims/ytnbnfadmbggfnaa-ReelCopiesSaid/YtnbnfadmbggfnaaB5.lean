/- Contracts of Reach, ask and floor; conditions: a press in memory. Printed by a program. -/
import Derived.Test.YtnbnfadmbggfnaaB4
set_option linter.unusedSimpArgs false
set_option linter.unusedVariables false
namespace Go.Rl
theorem floor_eq (a : Int) {b : Int} (hb : 0 < b) : a / b = if a.tmod b < 0 then a.tdiv b - 1 else a.tdiv b := by
  have h1 := Int.mul_tdiv_add_tmod a b
  have h2 := Int.tmod_lt_of_pos a hb
  have h3 : -b < a.tmod b := by
    have := Int.tmod_lt_of_pos (-a) hb
    rw [Int.neg_tmod] at this
    omega
  obtain ⟨q, hq⟩ : ∃ q, q = a.tdiv b := ⟨_, rfl⟩
  obtain ⟨r, hr⟩ : ∃ r, r = a.tmod b := ⟨_, rfl⟩
  rw [← hq, ← hr] at h1
  rw [← hr] at h2 h3
  rw [← hq, ← hr]
  split
  · rename_i hn
    have e : a = (r + b) + b * (q - 1) := by rw [Int.mul_sub]; omega
    rw [e, Int.add_mul_ediv_left _ _ (by omega), Int.ediv_eq_zero_of_lt (by omega) (by omega)]
    omega
  · rename_i hn
    have e : a = r + b * q := by omega
    rw [e, Int.add_mul_ediv_left _ _ (by omega), Int.ediv_eq_zero_of_lt (by omega) (by omega)]
    omega
def askE (p : PrsD) (n most : Int) : Int := if errP p ≠ 0 then errP p else if inB n 0 most = false then 6 else if rchP p < n then 70 else 0
end Go.Rl
namespace Go.Proofs.Ytnbnfadmbggfnaa
open Go.RowKit Go.Fh Go.Rl
set_option maxRecDepth 20000 in
set_option maxHeartbeats 4000000 in
theorem floor_any (a b : Int) (w : World) (hb : 0 < b) (hb2 : b ≤ 1000000) (ha : -1000000000000 ≤ a) (ha2 : a ≤ 1000000000000) : Calls Try.prog 89 #[.int .i64 a, .int .i64 b] w fun e w' => e = .returned (.int .i64 (a / b)) ∧ w = w' := by
  have hf := floor_eq a hb
  have hd1 : -1000000000000 ≤ a / b ∧ a / b ≤ 1000000000000 := by
    constructor
    · exact Int.le_ediv_of_mul_le hb (by have : -1000000000000 * b ≤ -1000000000000 * 1 := Int.mul_le_mul_of_nonpos_left (by omega) (by omega); omega)
    · by_cases h : 0 ≤ a
      · exact Int.le_trans (Int.ediv_le_self _ h) ha2
      · have := Int.ediv_neg_of_neg_of_pos (show a < 0 by omega) hb; omega
  obtain ⟨q, hq⟩ : ∃ q, q = a.tdiv b := ⟨_, rfl⟩
  obtain ⟨r, hr⟩ : ∃ r, r = a.tmod b := ⟨_, rfl⟩
  obtain ⟨f, hff⟩ : ∃ f, f = a / b := ⟨_, rfl⟩
  rw [← hq, ← hr, ← hff] at hf
  rw [← hff] at hd1 ⊢
  have h2 := Int.tmod_lt_of_pos a hb
  have h3 : -b < a.tmod b := by
    have := Int.tmod_lt_of_pos (-a) hb
    rw [Int.neg_tmod] at this
    omega
  rw [← hr] at h2 h3
  have hz1 : (b == 0) = false := by simp; omega
  have hz2 : ¬ b = 0 := by omega
  by_cases hn : r < 0
  · rw [if_pos hn] at hf
    have e1 : IntKind.i64.wrap (a.tdiv b) = q := by rw [← hq, IntKind.wrap_i64]; omega
    have e2 : a.tmod b = r := hr.symm
    have e3 : IntKind.i64.wrap (q - 1) = q - 1 := by rw [IntKind.wrap_i64]; omega
    have t1 : decide (r < 0) = true := by simpa using hn
    have HF := Lib.hid hf
    clear hf hq hr hff hn
    go_enter Try.func89, Try.ntmps89
    go_wp2_with fail
    go_ret
    exact ⟨ret_int (by rw [HF.out]), rfl⟩
  · rw [if_neg hn] at hf
    have e1 : IntKind.i64.wrap (a.tdiv b) = q := by rw [← hq, IntKind.wrap_i64]; omega
    have e2 : a.tmod b = r := hr.symm
    have t1 : decide (r < 0) = false := by simpa using hn
    have HF := Lib.hid hf
    clear hf hq hr hff hn
    go_enter Try.func89, Try.ntmps89
    go_wp2_with fail
    go_ret
    exact ⟨ret_int (by rw [HF.out]), rfl⟩
set_option maxRecDepth 20000 in
set_option maxHeartbeats 4000000 in
theorem reach13_c (p : PrsD) (A : Option Addr) (c m : Nat) (ms : List WebM) (w : World) (hT : PrsAt w w.heap.size p A ms) (hm : m = ms.length) (hm9 : m ≤ 1000000) (r : Int × Int) (hr : r = if errP p ≠ 0 then (0, errP p) else (rchP p, 0)) :
    Calls Try.prog 13 #[.agg #[.int .i64 p.cut, .int .i64 p.margin, .slice A m c]] w fun e w' => e = .returned (.tuple #[.int .i64 r.1, .int .i64 r.2]) ∧ Hid (Below w.heap.size w w') := by
  obtain ⟨w1, gT, HW1, HGT, HB1, HTB⟩ := prs_box p A c m ms w hT
  obtain ⟨hT1, r0, r1, r2⟩ := HTB.out w1 (Below.refl _ _)
  have HC := Lib.hid (check_any p A c m ms w1 hT1 hm hm9)
  obtain ⟨er, her⟩ : ∃ e, e = errP p := ⟨_, rfl⟩
  rw [← her] at HC hr
  by_cases hz : er = 0
  · have H40 := Lib.hid (fun W (hb : Below w1.heap.size w1 W) => reach_any p A c m ms W (prs_ok (her.symm.trans hz)) (HTB.out W hb).1 hm)
    have hr2 : r = (rchP p, 0) := by rw [hr, if_neg (by simpa using hz)]
    obtain ⟨rv, hrv⟩ : ∃ z, z = rchP p := ⟨_, rfl⟩
    rw [← hrv] at H40 hr2
    subst hr2
    rw [hz] at HC
    clear hr her hz hT hT1 hm hm9 hrv
    go_enter Try.func13, Try.ntmps13
    go_upto_region 1 with fail
    rw [← HW1.out, ← HGT.out]
    go_wp2_with first
      | (go_at_call 39; with_reducible refine HC.out.mono ?_; rintro e w2 ⟨rfl, HB2⟩; clear r0 r1 r2; obtain ⟨-, r0, r1, r2⟩ := HTB.out w2 HB2.out)
      | (go_at_call 40; with_reducible refine (H40.out _ HB2.out).mono ?_; rintro e w3 ⟨rfl, HB3⟩)
    go_ret2
    exact ⟨rfl, Lib.hid (HB1.out.trans ((HB2.out.trans (HB3.out.mono HB2.out.size)).mono HB1.out.size))⟩
  · have hr2 : r = (0, er) := by rw [hr, if_pos hz]
    subst hr2
    have ht : (er != 0) = true := by simpa using hz
    clear hr her hz hT hT1 hm hm9
    go_enter Try.func13, Try.ntmps13
    go_upto_region 1 with fail
    rw [← HW1.out, ← HGT.out]
    go_wp2_with (go_at_call 39; with_reducible refine HC.out.mono ?_; rintro e w2 ⟨rfl, HB2⟩)
    go_ret2
    exact ⟨rfl, Lib.hid (HB1.out.trans (HB2.out.mono HB1.out.size))⟩
set_option maxRecDepth 20000 in
set_option maxHeartbeats 4000000 in
theorem ask_any (p : PrsD) (A : Option Addr) (c m : Nat) (ms : List WebM) (w : World) (hT : PrsAt w w.heap.size p A ms) (hm : m = ms.length) (hm9 : m ≤ 1000000) (n most : Int) (er : Int) (her : er = askE p n most) :
    Calls Try.prog 41 #[.agg #[.int .i64 p.cut, .int .i64 p.margin, .slice A m c], .int .i64 n, .int .i64 most] w fun e w' => e = .returned (.int .i64 er) ∧ Hid (Below w.heap.size w w') := by
  obtain ⟨w1, gT, HW1, HGT, HB1, HTB⟩ := prs_box p A c m ms w hT
  obtain ⟨hT1, r0, r1, r2⟩ := HTB.out w1 (Below.refl _ _)
  have HC := Lib.hid (check_any p A c m ms w1 hT1 hm hm9)
  obtain ⟨ep, hep⟩ : ∃ e, e = errP p := ⟨_, rfl⟩
  unfold askE at her
  rw [← hep] at HC her
  by_cases hz : ep = 0
  · have H40 := Lib.hid (fun W (hb : Below w1.heap.size w1 W) => reach_any p A c m ms W (prs_ok (hep.symm.trans hz)) (HTB.out W hb).1 hm)
    rw [if_neg (by simpa using hz)] at her
    obtain ⟨rv, hrv⟩ : ∃ z, z = rchP p := ⟨_, rfl⟩
    obtain ⟨q, hq⟩ : ∃ b, b = inB n 0 most := ⟨_, rfl⟩
    obtain ⟨t, ht⟩ : ∃ b, b = decide (rv < n) := ⟨_, rfl⟩
    have ht' := ht.symm
    have H48 := Lib.hid (show ∀ W, Calls Try.prog 48 #[.int .i64 n, .int .i64 0, .int .i64 most] W fun e w' => e = .returned (.bool q) ∧ W = w' from fun W => by rw [hq]; exact within_any _ _ _ _)
    rw [← hrv] at H40 her
    rw [← hq] at her
    have her2 : er = if q = false then 6 else if t = true then 70 else 0 := by rw [her, ht]; simp
    have HER := Lib.hid her2
    rw [hz] at HC
    clear her her2 hep hz hT hT1 hm hm9 hrv hq ht
    cases q
    · clear ht'
      go_enter Try.func41, Try.ntmps41
      go_upto_region 1 with fail
      rw [← HW1.out, ← HGT.out]
      go_wp2_with first
        | (go_at_call 39; with_reducible refine HC.out.mono ?_; rintro e w2 ⟨rfl, HB2⟩; clear r0 r1 r2; obtain ⟨-, r0, r1, r2⟩ := HTB.out w2 HB2.out)
        | (go_at_call 48; with_reducible refine (H48.out _).mono ?_; rintro e wz ⟨rfl, rfl⟩)
      go_ret
      exact ⟨by rw [HER.out]; rfl, Lib.hid (HB1.out.trans (HB2.out.mono HB1.out.size))⟩
    · cases t
      all_goals
        go_enter Try.func41, Try.ntmps41
        go_upto_region 1 with fail
        rw [← HW1.out, ← HGT.out]
        go_wp2_with first
          | (go_at_call 39; with_reducible refine HC.out.mono ?_; rintro e w2 ⟨rfl, HB2⟩; clear r0 r1 r2; obtain ⟨-, r0, r1, r2⟩ := HTB.out w2 HB2.out)
          | (go_at_call 48; with_reducible refine (H48.out _).mono ?_; rintro e wz ⟨rfl, rfl⟩)
          | (go_at_call 40; with_reducible refine (H40.out _ HB2.out).mono ?_; rintro e w3 ⟨rfl, HB3⟩)
        go_ret
        exact ⟨by rw [HER.out]; rfl, Lib.hid (HB1.out.trans ((HB2.out.trans (HB3.out.mono HB2.out.size)).mono HB1.out.size))⟩
  · have her2 : er = ep := by rw [her, if_pos hz]
    subst her2
    have ht : (er != 0) = true := by simpa using hz
    clear her hep hz hT hT1 hm hm9
    go_enter Try.func41, Try.ntmps41
    go_upto_region 1 with fail
    rw [← HW1.out, ← HGT.out]
    go_wp2_with (go_at_call 39; with_reducible refine HC.out.mono ?_; rintro e w2 ⟨rfl, HB2⟩)
    go_ret
    exact ⟨rfl, Lib.hid (HB1.out.trans (HB2.out.mono HB1.out.size))⟩
end Go.Proofs.Ytnbnfadmbggfnaa
