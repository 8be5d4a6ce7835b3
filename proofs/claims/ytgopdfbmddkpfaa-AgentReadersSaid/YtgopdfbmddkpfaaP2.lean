/- Contracts: Says; conditions: none. -/
import Derived.Test.YtgopdfbmddkpfaaP1
import Derived.Test.YtgopdfbmddkpfaaA2
set_option linter.unusedSimpArgs false
set_option linter.unusedVariables false
namespace Go.Proofs.Ytgopdfbmddkpfaa
open Go.RowKit Go.Fh Go.Ag

set_option maxRecDepth 20000 in
set_option maxHeartbeats 2000000 in
theorem saysD_any (m : Int × Int) (A : Option Addr) (c : Nat) (h : List (Int × Int)) (day : Int) (w : World) (hl : h.length ≤ 9223372036854775807) (hA : Sl enc2 2 w w.heap.size A h) :
    Calls Try.prog 31 #[.agg #[.int .i64 m.1, .int .i64 m.2], .slice A h.length c, .int .i64 day] w fun e w' => e = .returned (.tuple #[.int .i64 (saysD m h day).1, .bool (saysD m h day).2.1, .int .i64 (saysD m h day).2.2]) ∧ Below w.heap.size w w' := by
  have hb0 : Below w.heap.size w (w.alloc (.cells #[.int .i64 m.1, .int .i64 m.2] 72)) := (Below.refl _ _).alloc (Nat.le_refl _) _
  have hk0 : Blk (w.alloc (.cells #[.int .i64 m.1, .int .i64 m.2] 72)) w.heap.size 72 #[.int .i64 m.1, .int .i64 m.2] := Blk.new _ _ _
  have HA := Lib.hid hA
  have HC := Lib.hid (check_any A c h (w.alloc (.cells #[.int .i64 m.1, .int .i64 m.2] 72)) hl ((hA.below hb0).mono (by simp)))
  clear hA
  by_cases hc : checkH h = 0
  · rw [hc] at HC
    obtain ⟨h400, hd⟩ := checkH_zero.1 hc
    have HD := Lib.hid hd
    have HCZ := Lib.hid hc
    clear hc hd
    cases hw : wrongM m
    · have HW := Lib.hid hw
      cases hr : inB day 0 h.length
      · have hs : saysD m h day = (0, false, 6) := by simp [saysD, HCZ.out, hw, hr]
        have HS := Lib.hid hs
        clear hs
        go_enter Try.func31, Try.ntmps31
        go_wp2_with fail
        refine HC.out.mono ?_
        rintro e w1 ⟨rfl, hb1⟩
        have k1 := Blk.below hk0 hb1 (by simp)
        have kc := k1.cell 0
        have kd := k1.cell 1
        simp at kc kd
        have hbb := hb0.trans (hb1.mono (by simp))
        go_wp2_with fail
        refine (wrongM_any m w1).mono ?_
        rintro e w2 ⟨rfl, hb2⟩
        have k2 := Blk.below k1 hb2 k1.lt
        have kc2 := k2.cell 0
        have kd2 := k2.cell 1
        simp at kc2 kd2
        have hbb2 := hbb.trans (hb2.mono hbb.size)
        go_wp2_with (go_at_call 48; refine (within_any _ _ _ _).mono ?_; rintro e w' ⟨rfl, rfl⟩)
        refine bodyPost_ret (v := .tuple #[.int .i64 0, .bool false, .int .i64 6]) ?_ rfl ⟨by rw [HS.out], hbb2⟩
        simp [results, Try.results31, go_sem]
      · have hs : saysD m h day = ((saysM m h day).1, (saysM m h day).2, 0) := by simp [saysD, HCZ.out, hw, hr]
        have HS := Lib.hid hs
        obtain ⟨hr1, hr2⟩ := inB_iff.1 hr
        clear hs
        go_enter Try.func31, Try.ntmps31
        go_wp2_with fail
        refine HC.out.mono ?_
        rintro e w1 ⟨rfl, hb1⟩
        have k1 := Blk.below hk0 hb1 (by simp)
        have kc := k1.cell 0
        have kd := k1.cell 1
        simp at kc kd
        have hbb := hb0.trans (hb1.mono (by simp))
        go_wp2_with fail
        refine (wrongM_any m w1).mono ?_
        rintro e w2 ⟨rfl, hb2⟩
        have k2 := Blk.below k1 hb2 k1.lt
        have kc2 := k2.cell 0
        have kd2 := k2.cell 1
        simp at kc2 kd2
        have hbb2 := hbb.trans (hb2.mono hbb.size)
        have HM := Lib.hid (saysM_any m A c h day w2 h400 ((HA.out.below hbb2).mono hbb2.size) HD.out HW.out hr1 hr2)
        go_wp2_with (first
          | (go_at_call 48; refine (within_any _ _ _ _).mono ?_; rintro e w' ⟨rfl, rfl⟩)
          | (go_at_call 81; refine HM.out.mono ?_; rintro e w3 ⟨rfl, hb3⟩; have hbb3 := hbb2.trans (hb3.mono hbb2.size)))
        refine bodyPost_ret (v := .tuple #[.int .i64 (saysM m h day).1, .bool (saysM m h day).2, .int .i64 0]) ?_ rfl ⟨by rw [HS.out], hbb3⟩
        simp [results, Try.results31, go_sem]
    · have hs : saysD m h day = (0, false, 1) := by simp [saysD, HCZ.out, hw]
      have HS := Lib.hid hs
      clear hs
      go_enter Try.func31, Try.ntmps31
      go_wp2_with fail
      refine HC.out.mono ?_
      rintro e w1 ⟨rfl, hb1⟩
      have k1 := Blk.below hk0 hb1 (by simp)
      have kc := k1.cell 0
      have kd := k1.cell 1
      simp at kc kd
      have hbb := hb0.trans (hb1.mono (by simp))
      go_wp2_with fail
      refine (wrongM_any m w1).mono ?_
      rintro e w2 ⟨rfl, hb2⟩
      have k2 := Blk.below k1 hb2 k1.lt
      have kc2 := k2.cell 0
      have kd2 := k2.cell 1
      simp at kc2 kd2
      have hbb2 := hbb.trans (hb2.mono hbb.size)
      go_wp2_with fail
      refine bodyPost_ret (v := .tuple #[.int .i64 0, .bool false, .int .i64 1]) ?_ rfl ⟨by rw [HS.out], hbb2⟩
      simp [results, Try.results31, go_sem]
  · have ht : (checkH h == 0) = false := by simpa using hc
    have hs : saysD m h day = (0, false, checkH h) := by simp [saysD, hc]
    have HS := Lib.hid hs
    clear hs hc
    go_enter Try.func31, Try.ntmps31
    go_wp2_with fail
    refine HC.out.mono ?_
    rintro e w1 ⟨rfl, hb1⟩
    have hbb := hb0.trans (hb1.mono (by simp))
    go_wp2_with fail
    refine bodyPost_ret (v := .tuple #[.int .i64 0, .bool false, .int .i64 (checkH h)]) ?_ rfl ⟨by rw [HS.out], hbb⟩
    simp [results, Try.results31, go_sem]
end Go.Proofs.Ytgopdfbmddkpfaa
