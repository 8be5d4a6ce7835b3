/- Contracts of Loss and of the reference's; conditions: none. -/
import Derived.Test.YtgopdfbmddkpfaaD1
set_option linter.unusedSimpArgs false
set_option linter.unusedVariables false
namespace Go.Proofs.Ytgopdfbmddkpfaa
open Go.RowKit Go.Fh Go.Ag

set_option maxRecDepth 20000 in
set_option maxHeartbeats 2000000 in
theorem lossR_any (d : Int × Int) (q over under : Int) (w : World) :
    Calls Try.prog 32 #[.agg #[.int .i64 d.1, .int .i64 d.2], .int .i64 q, .int .i64 over, .int .i64 under] w fun e w' => e = .returned (.tuple #[.int .i64 (lossR d q over under).1, .int .i64 (lossR d q over under).2]) ∧ Below w.heap.size w w' := by
  have hb0 : Below w.heap.size w (w.alloc (.cells #[.int .i64 d.1, .int .i64 d.2] 33)) := (Below.refl _ _).alloc (Nat.le_refl _) _
  have hk0 : Blk (w.alloc (.cells #[.int .i64 d.1, .int .i64 d.2] 33)) w.heap.size 33 #[.int .i64 d.1, .int .i64 d.2] := Blk.new _ _ _
  cases hw : wrongDay d
  · obtain ⟨o1, o2, o3, o4⟩ := (OkDay_iff d).1 hw
    have HW := Lib.hid (show wrongDay (d.1, d.2) = false from hw)
    cases hq : inB q 0 10000
    · have hs : lossR d q over under = (0, 6) := by simp [lossR, hw, hq]
      have HS := Lib.hid hs
      clear hs hw
      go_enter Try.func32, Try.ntmps32
      go_wp2_with fail
      refine (wrongDay_any d.1 d.2 _).mono ?_
      rintro e w1 ⟨rfl, hb1⟩
      have k1 := Blk.below hk0 hb1 (by simp)
      have kc := k1.cell 0
      have kd := k1.cell 1
      simp at kc kd
      have hbb := hb0.trans (hb1.mono (by simp))
      rw [HW.out]
      go_wp2_with (go_at_call 48; refine (within_any _ _ _ _).mono ?_; rintro e w' ⟨rfl, rfl⟩)
      go_ret2
      exact ⟨by rw [HS.out]; rfl, hbb⟩
    · cases hk : costsB over under
      · have hs : lossR d q over under = (0, 1) := by simp [lossR, hw, hq, hk]
        have HS := Lib.hid hs
        clear hs hw
        go_enter Try.func32, Try.ntmps32
        go_wp2_with fail
        refine (wrongDay_any d.1 d.2 _).mono ?_
        rintro e w1 ⟨rfl, hb1⟩
        have k1 := Blk.below hk0 hb1 (by simp)
        have kc := k1.cell 0
        have kd := k1.cell 1
        simp at kc kd
        have hbb := hb0.trans (hb1.mono (by simp))
        rw [HW.out]
        go_wp2_with (first
          | (go_at_call 48; refine (within_any _ _ _ _).mono ?_; rintro e w' ⟨rfl, rfl⟩)
          | (go_at_call 39; refine (costs_any _ _ _).mono ?_; rintro e w' ⟨rfl, rfl⟩))
        go_ret2
        exact ⟨by rw [HS.out]; rfl, hbb⟩
      · have hs : lossR d q over under = (lossOf d.1 d.2 q over under, 0) := by simp [lossR, hw, hq, hk]
        have HS := Lib.hid hs
        obtain ⟨q1, q2⟩ := inB_iff.1 hq
        obtain ⟨k1', k2', k3', k4'⟩ := costsB_bd hk
        clear hs hw
        go_enter Try.func32, Try.ntmps32
        go_wp2_with fail
        refine (wrongDay_any d.1 d.2 _).mono ?_
        rintro e w1 ⟨rfl, hb1⟩
        have k1 := Blk.below hk0 hb1 (by simp)
        have kc := k1.cell 0
        have kd := k1.cell 1
        simp at kc kd
        have hbb := hb0.trans (hb1.mono (by simp))
        rw [HW.out]
        go_wp2_with (first
          | (go_at_call 48; refine (within_any _ _ _ _).mono ?_; rintro e w' ⟨rfl, rfl⟩)
          | (go_at_call 39; refine (costs_any _ _ _).mono ?_; rintro e w' ⟨rfl, rfl⟩)
          | (go_at_call 83; refine (loss_any d.1 d.2 q over under w1 o1 o2 o3 o4 q1 q2 k1' k2' k3' k4').mono ?_; rintro e w2 ⟨rfl, hb2⟩; have hbb2 := hbb.trans (hb2.mono hbb.size)))
        go_ret2
        exact ⟨by rw [HS.out]; rfl, hbb2⟩
  · have HW := Lib.hid (show wrongDay (d.1, d.2) = true from hw)
    have hs : lossR d q over under = (0, 120) := by simp [lossR, hw]
    have HS := Lib.hid hs
    clear hs hw
    go_enter Try.func32, Try.ntmps32
    go_wp2_with fail
    refine (wrongDay_any d.1 d.2 _).mono ?_
    rintro e w1 ⟨rfl, hb1⟩
    have k1 := Blk.below hk0 hb1 (by simp)
    have kc := k1.cell 0
    have kd := k1.cell 1
    simp at kc kd
    have hbb := hb0.trans (hb1.mono (by simp))
    rw [HW.out]
    go_wp2_with fail
    go_ret2
    exact ⟨by rw [HS.out]; rfl, hbb⟩

set_option maxRecDepth 20000 in
set_option maxHeartbeats 2000000 in
theorem rlossR_any (d : Int × Int) (q over under : Int) (w : World) :
    Calls Try.prog 58 #[.agg #[.int .i64 d.1, .int .i64 d.2], .int .i64 q, .int .i64 over, .int .i64 under] w fun e w' => e = .returned (.tuple #[.int .i64 (lossR d q over under).1, .int .i64 (lossR d q over under).2]) ∧ Below w.heap.size w w' := by
  have hb0 : Below w.heap.size w (w.alloc (.cells #[.int .i64 d.1, .int .i64 d.2] 120)) := (Below.refl _ _).alloc (Nat.le_refl _) _
  have hk0 : Blk (w.alloc (.cells #[.int .i64 d.1, .int .i64 d.2] 120)) w.heap.size 120 #[.int .i64 d.1, .int .i64 d.2] := Blk.new _ _ _
  cases hw : wrongDay d
  · obtain ⟨o1, o2, o3, o4⟩ := (OkDay_iff d).1 hw
    have HW := Lib.hid (show wrongDay (d.1, d.2) = false from hw)
    cases hq : inB q 0 10000
    · have hs : lossR d q over under = (0, 6) := by simp [lossR, hw, hq]
      have HS := Lib.hid hs
      clear hs hw
      go_enter Try.func58, Try.ntmps58
      go_wp2_with fail
      refine (rright_any d.1 d.2 _).mono ?_
      rintro e w1 ⟨rfl, hb1⟩
      have k1 := Blk.below hk0 hb1 (by simp)
      have kc := k1.cell 0
      have kd := k1.cell 1
      simp at kc kd
      have hbb := hb0.trans (hb1.mono (by simp))
      rw [HW.out]
      go_wp2_with (go_at_call 103; refine (rin_any _ _ _ _).mono ?_; rintro e w' ⟨rfl, rfl⟩)
      go_ret2
      exact ⟨by rw [HS.out]; rfl, hbb⟩
    · cases hk : costsB over under
      · have hs : lossR d q over under = (0, 1) := by simp [lossR, hw, hq, hk]
        have HS := Lib.hid hs
        clear hs hw
        go_enter Try.func58, Try.ntmps58
        go_wp2_with fail
        refine (rright_any d.1 d.2 _).mono ?_
        rintro e w1 ⟨rfl, hb1⟩
        have k1 := Blk.below hk0 hb1 (by simp)
        have kc := k1.cell 0
        have kd := k1.cell 1
        simp at kc kd
        have hbb := hb0.trans (hb1.mono (by simp))
        rw [HW.out]
        go_wp2_with (first
          | (go_at_call 103; refine (rin_any _ _ _ _).mono ?_; rintro e w' ⟨rfl, rfl⟩)
          | (go_at_call 104; refine (rcosts_any _ _ _).mono ?_; rintro e w' ⟨rfl, rfl⟩))
        go_ret2
        exact ⟨by rw [HS.out]; rfl, hbb⟩
      · have hs : lossR d q over under = (lossOf d.1 d.2 q over under, 0) := by simp [lossR, hw, hq, hk]
        have HS := Lib.hid hs
        obtain ⟨q1, q2⟩ := inB_iff.1 hq
        obtain ⟨k1', k2', k3', k4'⟩ := costsB_bd hk
        clear hs hw
        go_enter Try.func58, Try.ntmps58
        go_wp2_with fail
        refine (rright_any d.1 d.2 _).mono ?_
        rintro e w1 ⟨rfl, hb1⟩
        have k1 := Blk.below hk0 hb1 (by simp)
        have kc := k1.cell 0
        have kd := k1.cell 1
        simp at kc kd
        have hbb := hb0.trans (hb1.mono (by simp))
        rw [HW.out]
        go_wp2_with (first
          | (go_at_call 103; refine (rin_any _ _ _ _).mono ?_; rintro e w' ⟨rfl, rfl⟩)
          | (go_at_call 104; refine (rcosts_any _ _ _).mono ?_; rintro e w' ⟨rfl, rfl⟩)
          | (go_at_call 105; refine (rloss_any d.1 d.2 q over under w1 o1 o2 o3 o4 q1 q2 k1' k2' k3' k4').mono ?_; rintro e w2 ⟨rfl, hb2⟩; have hbb2 := hbb.trans (hb2.mono hbb.size)))
        go_ret2
        exact ⟨by rw [HS.out]; rfl, hbb2⟩
  · have HW := Lib.hid (show wrongDay (d.1, d.2) = true from hw)
    have hs : lossR d q over under = (0, 120) := by simp [lossR, hw]
    have HS := Lib.hid hs
    clear hs hw
    go_enter Try.func58, Try.ntmps58
    go_wp2_with fail
    refine (rright_any d.1 d.2 _).mono ?_
    rintro e w1 ⟨rfl, hb1⟩
    have k1 := Blk.below hk0 hb1 (by simp)
    have kc := k1.cell 0
    have kd := k1.cell 1
    simp at kc kd
    have hbb := hb0.trans (hb1.mono (by simp))
    rw [HW.out]
    go_wp2_with fail
    go_ret2
    exact ⟨by rw [HS.out]; rfl, hbb⟩
end Go.Proofs.Ytgopdfbmddkpfaa
