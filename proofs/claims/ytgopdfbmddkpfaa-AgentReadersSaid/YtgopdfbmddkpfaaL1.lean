/- Contract of law's settles; conditions: none. -/
import Derived.Test.YtgopdfbmddkpfaaR3
import Derived.Test.YtgopdfbmddkpfaaA6
import Derived.Test.YtgopdfbmddkpfaaE1
import Derived.Test.YtgopdfbmddkpfaaE2
import Derived.Deep.RegionHeld3
import Derived.Deep.DeepCutAuto
import Derived.Deep.DeepMust
set_option linter.unusedSimpArgs false
set_option linter.unusedVariables false
namespace Go.Proofs.Ytgopdfbmddkpfaa
open Go.RowKit Go.Fh Go.Ag

theorem settle_any (t : TariffD) (A : Option Addr) (c : Nat) (hh : List (Int × Int)) (B : Option Addr) (d : Nat) (late : List Int) (w : World) (hl : hh.length ≤ 9223372036854775807) (hl2 : late.length ≤ 9223372036854775807)
    (hA : Sl enc2 2 w w.heap.size A hh) (hB : Sl encInt 1 w w.heap.size B late) :
    Calls Try.prog 24 #[.agg (tarV t), .slice A hh.length c, .slice B late.length d] w (AccPost (settleD t hh late) w) := by
  by_cases h : wrongT t = true ∨ checkH hh ≠ 0 ∨ late.length ≠ hh.length
  · exact settle_early t A c hh B d late w hl hl2 hA h
  · have h1 : wrongT t = false := by cases e : wrongT t; rfl; exact absurd (.inl e) h
    have h2 : checkH hh = 0 := by by_cases e : checkH hh = 0; exact e; exact absurd (.inr (.inl e)) h
    have h3 : late.length = hh.length := by by_cases e : late.length = hh.length; exact e; exact absurd (.inr (.inr e)) h
    exact settle_main t A c hh B d late w hA hB h1 h2 h3

theorem rsettle_any (t : TariffD) (A : Option Addr) (c : Nat) (hh : List (Int × Int)) (B : Option Addr) (d : Nat) (late : List Int) (w : World) (hl : hh.length ≤ 9223372036854775807) (hl2 : late.length ≤ 9223372036854775807)
    (hA : Sl enc2 2 w w.heap.size A hh) (hB : Sl encInt 1 w w.heap.size B late) :
    Calls Try.prog 51 #[.agg (tarV t), .slice A hh.length c, .slice B late.length d] w (AccPost (settleD t hh late) w) := by
  by_cases h : wrongT t = true ∨ checkH hh ≠ 0 ∨ late.length ≠ hh.length
  · exact rsettle_early t A c hh B d late w hl hl2 hA h
  · have h1 : wrongT t = false := by cases e : wrongT t; rfl; exact absurd (.inl e) h
    have h2 : checkH hh = 0 := by by_cases e : checkH hh = 0; exact e; exact absurd (.inr (.inl e)) h
    have h3 : late.length = hh.length := by by_cases e : late.length = hh.length; exact e; exact absurd (.inr (.inr e)) h
    exact rsettle_main t A c hh B d late w hA hB h1 h2 h3

theorem settleD_len (t : TariffD) (hh : List (Int × Int)) (late : List Int) : (settleD t hh late).2.1.length ≤ 9223372036854775807 := by
  unfold settleD
  split
  · simp
  · split
    · simp
    · split
      · simp
      · split <;> simp [linesOf]

theorem sl_far2 {α : Type} {enc : α → List Value} {size : Nat} {w : World} {A : Option Addr} {l : List α} {B g : Nat} (h : Sl enc size w w.heap.size A l) (hF : Fr B A) (hg : g < B) (u v : Value) :
    Sl enc size ((w.setCell ⟨g, 0, none⟩ u).setCell ⟨g, 1, none⟩ v) ((w.setCell ⟨g, 0, none⟩ u).setCell ⟨g, 1, none⟩ v).heap.size A l := by
  intro hn
  obtain ⟨b, off, hA, hb, hc⟩ := h hn
  have := hF _ hA
  refine ⟨b, off, hA, by simpa using hb, fun k x hx j y hy => ?_⟩
  rw [World.cell?_setCell_other _ _ _ _ (by intro e; injection e with e1 _; simp at this; omega), World.cell?_setCell_other _ _ _ _ (by intro e; injection e with e1 _; simp at this; omega)]
  exact hc k x hx j y hy

set_option maxHeartbeats 4000000 in
theorem settles_any (t : TariffD) (A : Option Addr) (c : Nat) (hh : List (Int × Int)) (B : Option Addr) (d : Nat) (late : List Int) (w : World) (hl : hh.length ≤ 500) (hl2 : late.length ≤ 600)
    (hA : Sl enc2 2 w w.heap.size A hh) (hB : Sl encInt 1 w w.heap.size B late) :
    Calls Try.prog 17 #[.agg (tarV t), .slice A hh.length c, .slice B late.length d] w fun e w' => e = .returned (.bool true) ∧ Below w.heap.size w w' := by
  have HA := Lib.hid hA
  have HB := Lib.hid hB
  obtain ⟨rs, hrs⟩ : ∃ rs, rs = settleD t hh late := ⟨_, rfl⟩
  have HRS := Lib.hid hrs
  clear hA hB hrs
  unfold tarV
  go_enter Try.func17, Try.ntmps17
  go_wp2_with fail
  have hb0 : Below w.heap.size w (w.alloc (.cells #[.int .i64 t.price, .int .i64 t.back, .int .i64 t.late, .int .i64 t.carry, .int .i64 t.credit] 36)) := (Below.refl _ _).alloc (Nat.le_refl _) _
  refine (cloneDay_any A c hh _ (by omega) ((HA.out.below hb0).mono hb0.size)).mono ?_
  rintro e w1 ⟨A1, c1, rfl, hA1, hb1⟩
  have hbw1 : Below w.heap.size w w1 := hb0.trans (hb1.mono hb0.size)
  have hz1 : w.heap.size < w1.heap.size := by have := hb1.size; simp at this; omega
  have HA1 := Lib.hid hA1
  have k1 : Blk w1 w.heap.size 36 #[.int .i64 t.price, .int .i64 t.back, .int .i64 t.late, .int .i64 t.carry, .int .i64 t.credit] := (Blk.new w 36 _).below hb1 (by simp)
  have K1 := Lib.hid k1
  clear hA1 k1
  go_wp2_with fail
  refine (cloneInt_any B d late w1 (by omega) ((HB.out.below hbw1).mono hbw1.size)).mono ?_
  rintro e w2 ⟨B1, d1, rfl, hB1, hb2⟩
  have hbw2 : Below w.heap.size w w2 := hbw1.trans (hb2.mono hbw1.size)
  have k1 := K1.out.below hb2 hz1
  have t0 := k1.cell 0
  have t1 := k1.cell 1
  have t2 := k1.cell 2
  have t3 := k1.cell 3
  have t4 := k1.cell 4
  simp at t0 t1 t2 t3 t4
  have K12 := Lib.hid k1
  have HB1 := Lib.hid hB1
  have HA12 := Lib.hid ((HA1.out.below hb2).mono hb2.size)
  have hz2 : w.heap.size < w2.heap.size := by have := hb2.size; omega
  clear hB1 k1
  go_wp2_with fail
  refine (settle_any t A1 c1 hh B1 d1 late w2 (by omega) (by omega) HA12.out HB1.out).mono ?_
  rw [← HRS.out]
  rintro e w3 ⟨A2, c2, rfl, hA2, -, hb3⟩
  have hbw3 : Below w.heap.size w w3 := hbw2.trans (hb3.mono hbw2.size)
  have hz3 : w.heap.size < w3.heap.size := by have := hb3.size; omega
  have HA2 := Lib.hid hA2
  have K13 := Lib.hid (K12.out.below hb3 hz2)
  clear hA2 t0 t1 t2 t3 t4
  obtain ⟨w4, hw4⟩ : ∃ w4, w4 = w3.alloc (.cells #[.slice A2 rs.2.1.length c2, .int .i64 rs.2.2] 53) := ⟨_, rfl⟩
  have hbw4 : Below w.heap.size w w4 := by rw [hw4]; exact hbw3.alloc hbw3.size _
  have hs4 : w4.heap.size = w3.heap.size + 1 := by rw [hw4]; simp
  have k9 : Blk w4 w3.heap.size 53 #[.slice A2 rs.2.1.length c2, .int .i64 rs.2.2] := by rw [hw4]; exact Blk.new _ _ _
  have k1 : Blk w4 w.heap.size 36 #[.int .i64 t.price, .int .i64 t.back, .int .i64 t.late, .int .i64 t.carry, .int .i64 t.credit] := by rw [hw4]; exact K13.out.alloc _
  have HA24 : Hid (Sl enc3 3 w4 w4.heap.size A2 rs.2.1) := by
    unfold Hid
    have hb : Below w3.heap.size w3 w4 := by rw [hw4]; exact (Below.refl _ _).alloc (Nat.le_refl _) _
    exact (HA2.out.below hb).mono hb.size
  have hb34 : Hid (Below w3.heap.size w3 w4) := by unfold Hid; rw [hw4]; exact (Below.refl _ _).alloc (Nat.le_refl _) _
  have HW4 := Lib.hid hw4
  have K9 := Lib.hid k9
  have K14 := Lib.hid k1
  have t0 := k1.cell 0
  have t1 := k1.cell 1
  have t2 := k1.cell 2
  have t3 := k1.cell 3
  have t4 := k1.cell 4
  simp at t0 t1 t2 t3 t4
  have hz4 : w.heap.size < w4.heap.size := by omega
  have hs4' : w3.heap.size < w4.heap.size := by omega
  have HBW4 := Lib.hid hbw4
  have HD := Lib.hid (fun W (hW : Below w.heap.size w W) => days_any A c hh W (by omega) ((HA.out.below hW).mono hW.size))
  have HR := Lib.hid (fun (A' : Option Addr) c' W (hW : Below w.heap.size w W) hA' => rsettle_any t A' c' hh B d late W (by omega) (by omega) hA' ((HB.out.below hW).mono hW.size))
  clear k9 k1 hbw4
  go_upto_region 3 with fail
  rw [← HW4.out]
  clear hw4 hs4
  go_cut [11, 12] (fun v11 v12 wx => v12 = .int .i64 rs.1 ∧ (∃ g A' c', v11 = .pointer (some ⟨g, 0, none⟩) ∧ Blk wx g 108 #[.slice A' rs.2.1.length c', .int .i64 rs.2.2] ∧ Sl enc3 3 wx wx.heap.size A' rs.2.1) ∧ Below w4.heap.size w4 wx)
  case first =>
    go_region_with (first
      | (go_at_call 52; refine (HD.out _ (by repeat (first | exact HBW4.out | refine Below.drew ?_ | refine Below.alloc ?_ (by omega) _))).mono ?_; rintro e w5 ⟨A3, c3, rfl, hA3, hb5⟩; obtain ⟨q1, q2⟩ := bcell hb5; have HA3 := Lib.hid hA3; clear hA3; have hb45 : Below w4.heap.size w4 w5 := Below.trans (by repeat (first | exact Below.refl _ _ | refine Below.drew ?_ | refine Below.alloc ?_ (by simp) _)) (hb5.mono (by simp)); have y0 : w5.cell? ⟨w.heap.size, 0, none⟩ = some (.int .i64 t.price) := (hb45.cell (p := ⟨w.heap.size, 0, none⟩) (by exact hz4)).trans t0; have y1 : w5.cell? ⟨w.heap.size, 1, none⟩ = some (.int .i64 t.back) := (hb45.cell (p := ⟨w.heap.size, 1, none⟩) (by exact hz4)).trans t1; have y2 : w5.cell? ⟨w.heap.size, 2, none⟩ = some (.int .i64 t.late) := (hb45.cell (p := ⟨w.heap.size, 2, none⟩) (by exact hz4)).trans t2; have y3 : w5.cell? ⟨w.heap.size, 3, none⟩ = some (.int .i64 t.carry) := (hb45.cell (p := ⟨w.heap.size, 3, none⟩) (by exact hz4)).trans t3; have y4 : w5.cell? ⟨w.heap.size, 4, none⟩ = some (.int .i64 t.credit) := (hb45.cell (p := ⟨w.heap.size, 4, none⟩) (by exact hz4)).trans t4; have hz5 : w4.heap.size ≤ w5.heap.size := hb45.size; have hz50 : w.heap.size < w5.heap.size := (by omega); try (have hz5' : w4.heap.size < w5.heap.size := (by have := hb5.size; simp at this; omega)))
      | (go_at_call 51; refine (HR.out A3 c3 _ (by repeat (first | exact HBW4.out.trans (hb45.mono (by omega)) | refine Below.alloc ?_ (by omega) _)) (by first | exact HA3.out | exact (HA3.out.below ((Below.refl _ _).alloc (Nat.le_refl _) _)).mono (by simp))).mono ?_; rw [← HRS.out]; rintro e w6 ⟨A6, c6, rfl, hA6, hF6, hb6⟩; obtain ⟨r1, r2⟩ := bcell hb6; have HA6 := Lib.hid hA6; have HF6 := Lib.hid hF6; have HB6 := Lib.hid hb6; clear hA6 hF6; have hb56 : Below w5.heap.size w5 w6 := Below.trans (by repeat (first | exact Below.refl _ _ | refine Below.alloc ?_ (by simp) _)) (hb6.mono (by simp)); have hz6 : w5.heap.size ≤ w6.heap.size := hb56.size; have hz60 : w.heap.size < w6.heap.size := (by have := hb45.size; omega); have hz61 : w4.heap.size ≤ w6.heap.size := (by have := hb45.size; omega); try (have hz62 : w4.heap.size < w6.heap.size := (by omega)); try (have hz6' : w5.heap.size < w6.heap.size := (by have := hb6.size; simp at this; omega))))
    all_goals go_wp2
    all_goals go_meet
    all_goals
      refine ⟨rfl, ?_⟩
      first
        | exact ⟨⟨w6.heap.size, A6, c6, rfl, Blk.new w6 108 _, (HA6.out.below ((Below.refl _ _).alloc (Nat.le_refl _) _)).mono (by simp), ⟩, (hb45.trans (hb56.mono (by omega))).alloc (by omega) _⟩
        | (have kb : Blk w6 w5.heap.size 108 #[.slice none 0 0, .int .i64 0] := (Blk.new w5 108 _).below HB6.out (by simp)
           exact ⟨⟨w5.heap.size, A6, c6, rfl, (kb.set_ 0 _).set_ 1 _, sl_far2 HA6.out HF6.out (by simp) _ _ , ⟩, ((hb45.trans (hb56.mono (by omega))).setCell (by exact hz5) _).setCell (by exact hz5) _⟩)
        | (have kb : Blk w6 w4.heap.size 108 #[.slice none 0 0, .int .i64 0] := by
             refine Blk.below (w := w5) ?_ HB6.out (by omega)
             refine Blk.below (w := _) ?_ hb5 (by simp)
             exact Blk.new w4 108 _
           exact ⟨⟨w4.heap.size, A6, c6, rfl, (kb.set_ 0 _).set_ 1 _, sl_far2 HA6.out HF6.out (by omega) _ _, ⟩, ((hb45.trans (hb56.mono (by omega))).setCell (Nat.le_refl _) _).setCell (Nat.le_refl _) _⟩)
  case rest =>
    obtain ⟨rfl, ⟨g, A7, c7, rfl, kg, hS7⟩, hb7⟩ := hcut
    have k9 := K9.out.below hb7 hs4'
    have u0 := k9.cell 0
    have u1 := k9.cell 1
    have v0 := kg.cell 0
    have v1 := kg.cell 1
    simp at u0 u1 v0 v1
    have hbwc : Below w.heap.size w wc := HBW4.out.trans (hb7.mono (by omega))
    have hbw2c : Below w2.heap.size w2 wc := (hb3.trans (hb34.out.mono hb3.size)).trans (hb7.mono (by have := hb3.size; omega))
    have HS7 := Lib.hid hS7
    have HS2 := Lib.hid ((HA24.out.below hb7).mono hb7.size)
    have HAc := Lib.hid ((HA.out.below hbwc).mono hbwc.size)
    have HBc := Lib.hid ((HB.out.below hbwc).mono hbwc.size)
    have HA1c := Lib.hid ((HA12.out.below hbw2c).mono hbw2c.size)
    have HB1c := Lib.hid ((HB1.out.below hbw2c).mono hbw2c.size)
    have hlen3 : rs.2.1.length ≤ 9223372036854775807 := by rw [HRS.out]; exact settleD_len _ _ _
    clear hS7 k9 kg
    go_wp2_with fail
    refine (sameAccount_any A2 A7 c2 c7 rs.2.1 rs.2.2 wc hlen3 HS2.out HS7.out).mono ?_
    rintro e w8 ⟨rfl, hb8⟩
    go_wp2_with fail
    refine (equalDay_any A1 A c1 c hh hh w8 (by omega) (by omega) ((HA1c.out.below hb8).mono hb8.size) ((HAc.out.below hb8).mono hb8.size)).mono ?_
    rw [show decide (hh = hh) = true by simp]
    rintro e w9 ⟨rfl, hb9⟩
    have hb89 := hb8.trans (hb9.mono hb8.size)
    go_wp2_with fail
    refine (equalInts_any B1 B d1 d late late w9 (by omega) (by omega) ((HB1c.out.below hb89).mono hb89.size) ((HBc.out.below hb89).mono hb89.size)).mono ?_
    rw [show decide (late = late) = true by simp]
    rintro e w10 ⟨rfl, hb10⟩
    go_wp2_with fail
    go_ret
    exact ⟨rfl, (hbwc.trans (hb89.mono hbwc.size)).trans (hb10.mono (by have := hbwc.size; have := hb89.size; omega))⟩
end Go.Proofs.Ytgopdfbmddkpfaa
