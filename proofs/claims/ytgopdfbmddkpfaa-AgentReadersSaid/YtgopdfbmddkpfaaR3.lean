/- Contract of the reference's Settle; conditions: none. -/
import Derived.Test.YtgopdfbmddkpfaaR2
import Derived.Test.YtgopdfbmddkpfaaA5
set_option linter.unusedSimpArgs false
set_option linter.unusedVariables false
namespace Go.Proofs.Ytgopdfbmddkpfaa
open Go.RowKit Go.Fh Go.Ag

set_option maxHeartbeats 1000000 in
theorem rsettle_early (t : TariffD) (A : Option Addr) (c : Nat) (h : List (Int × Int)) (B : Option Addr) (d : Nat) (late : List Int) (w : World) (hl : h.length ≤ 9223372036854775807) (hl2 : late.length ≤ 9223372036854775807)
    (hA : Sl enc2 2 w w.heap.size A h) (hno : wrongT t = true ∨ checkH h ≠ 0 ∨ late.length ≠ h.length) :
    Calls Try.prog 51 #[.agg (tarV t), .slice A h.length c, .slice B late.length d] w (AccPost (settleD t h late) w) := by
  have HA := Lib.hid hA
  clear hA
  cases h1 : wrongT t
  · by_cases h2 : checkH h = 0
    · have h3 : late.length ≠ h.length := by rcases hno with e | e | e; (rw [h1] at e; cases e); exact absurd h2 e; exact e
      have h3' : ((late.length : Int) != (h.length : Int)) = true := by simp; omega
      have hd : settleD t h late = (120, [], 0) := by simp [settleD, h1, h2, h3]
      have HD := Lib.hid hd
      have hC := fun W hW => rcheck_any A c h W hl hW
      clear h3 hd hno
      unfold tarV
      go_enter Try.func51, Try.ntmps51
      go_wp2_with fail
      refine (priced_any t _).mono ?_
      rintro e w1 ⟨rfl, hb1⟩
      obtain ⟨q1, q2⟩ := bcell hb1
      have hz : w.heap.size + 1 < w1.heap.size := by have := hb1.size; simp at this; omega
      have hz0 : w.heap.size < w1.heap.size := by omega
      have hbw : Below w.heap.size w w1 := (((Below.refl w.heap.size w).alloc (Nat.le_refl _) _).alloc (by simp) _).trans (hb1.mono (by simp; omega))
      go_wp2_with fail
      refine (hC _ (by exact (HA.out.below hbw).mono (by omega))).mono ?_
      clear hC
      rintro e w2 ⟨rfl, hb2⟩
      obtain ⟨r1, r2⟩ := bcell hb2
      have hz2 := hb2.size
      go_wp2_with fail
      refine bodyPost_ret (v := .tuple #[.agg #[.slice none 0 0, .int .i64 0], .int .i64 120]) ?_ rfl (AccPost.err HD.out ?_)
      · simp [results, Try.results51, go_sem, r1, q1, hz]
      · exact (((hbw.trans (hb2.mono (by omega))).setCell (by simp) _).setCell (by simp) _)
    · have hd : settleD t h late = (checkH h, [], 0) := by simp [settleD, h1, h2]
      have HD := Lib.hid hd
      have hC := fun W hW => rcheck_any A c h W hl hW
      have h2' : (checkH h != 0) = true := by simp [h2]
      clear h2 hd hno
      unfold tarV
      go_enter Try.func51, Try.ntmps51
      go_wp2_with fail
      refine (priced_any t _).mono ?_
      rintro e w1 ⟨rfl, hb1⟩
      obtain ⟨q1, q2⟩ := bcell hb1
      have hz : w.heap.size + 1 < w1.heap.size := by have := hb1.size; simp at this; omega
      have hz0 : w.heap.size < w1.heap.size := by omega
      have hbw : Below w.heap.size w w1 := (((Below.refl w.heap.size w).alloc (Nat.le_refl _) _).alloc (by simp) _).trans (hb1.mono (by simp; omega))
      go_wp2_with fail
      refine (hC _ (by exact (HA.out.below hbw).mono (by omega))).mono ?_
      clear hC
      rintro e w2 ⟨rfl, hb2⟩
      obtain ⟨r1, r2⟩ := bcell hb2
      have hz2 := hb2.size
      go_wp2_with fail
      refine bodyPost_ret (v := .tuple #[.agg #[.slice none 0 0, .int .i64 0], .int .i64 (checkH h)]) ?_ rfl (AccPost.err HD.out ?_)
      · simp [results, Try.results51, go_sem, r1, q1, hz]
      · exact (((hbw.trans (hb2.mono (by omega))).setCell (by simp) _).setCell (by simp) _)
  · have hd : settleD t h late = (1, [], 0) := by simp [settleD, h1]
    have HD := Lib.hid hd
    clear hd hno
    unfold tarV
    go_enter Try.func51, Try.ntmps51
    go_wp2_with fail
    refine (priced_any t _).mono ?_
    rintro e w1 ⟨rfl, hb1⟩
    obtain ⟨q1, q2⟩ := bcell hb1
    have hz : w.heap.size + 1 < w1.heap.size := by have := hb1.size; simp at this; omega
    go_wp2_with fail
    refine bodyPost_ret (v := .tuple #[.agg #[.slice none 0 0, .int .i64 0], .int .i64 1]) (by simp [results, Try.results51, go_sem, q1]) rfl (AccPost.err HD.out ?_)
    exact ((((((Below.refl w.heap.size w).alloc (Nat.le_refl _) _).alloc (by simp) _).trans (hb1.mono (by simp; omega))).setCell (by simp) _).setCell (by simp) _)
set_option maxHeartbeats 2000000 in
theorem rsettle_main (t : TariffD) (A : Option Addr) (c : Nat) (hh : List (Int × Int)) (B : Option Addr) (d : Nat) (late : List Int) (w : World)
    (hA : Sl enc2 2 w w.heap.size A hh) (hB : Sl encInt 1 w w.heap.size B late) (h1 : wrongT t = false) (h2 : checkH hh = 0) (h3 : late.length = hh.length) :
    Calls Try.prog 51 #[.agg (tarV t), .slice A hh.length c, .slice B late.length d] w (AccPost (settleD t hh late) w) := by
  obtain ⟨hlen, hok⟩ := checkH_zero.1 h2
  have hd1 : settleSums hh late = none → settleD t hh late = (120, [], 0) := fun e => by simp [settleD, h1, h2, h3, e]
  have hd2 : ∀ s, settleSums hh late = some s → settleD t hh late = (0, linesOf t s, sumLines (linesOf t s)) := fun s e => by simp [settleD, h1, h2, h3, e]
  have HD1 := Lib.hid hd1
  have HD2 := Lib.hid hd2
  have HA := Lib.hid hA
  have HBB := Lib.hid hB
  have h3' : ((late.length : Int) != (hh.length : Int)) = false := by simp [h3]
  have H3 := Lib.hid h3
  have hlen2 : late.length ≤ 400 := by omega
  have hT := (OkT_iff t).1 h1
  obtain ⟨⟨t1, t2⟩, ⟨t3, t4⟩, ⟨t5, t6⟩, ⟨t7, t8⟩, ⟨t9, t10⟩⟩ := hT
  have hC := fun W hW => rcheck_any A c hh W (by omega) hW
  clear hd1 hd2 hA hB h3
  unfold tarV
  go_enter Try.func51, Try.ntmps51
  go_wp2_with fail
  refine (priced_any t _).mono ?_
  rintro e w1 ⟨rfl, hb1⟩
  obtain ⟨q1, q2⟩ := bcell hb1
  have hz : w.heap.size + 1 < w1.heap.size := by have := hb1.size; simp at this; omega
  have hz0 : w.heap.size < w1.heap.size := by omega
  have hbw : Below w.heap.size w w1 := (((Below.refl w.heap.size w).alloc (Nat.le_refl _) _).alloc (by simp) _).trans (hb1.mono (by simp; omega))
  go_wp2_with fail
  refine (hC _ (by exact (HA.out.below hbw).mono (by omega))).mono ?_
  clear hC
  rintro e w2 ⟨rfl, hb2⟩
  have hbw2 : Below w.heap.size w w2 := hbw.trans (hb2.mono (by omega))
  have k1 : Blk w2 w.heap.size 111 #[.int .i64 t.price, .int .i64 t.back, .int .i64 t.late, .int .i64 t.carry, .int .i64 t.credit] :=
    (((Blk.new w 111 _).alloc _).below hb1 (by simp; omega)).below hb2 hz0
  have k2 : Blk w2 (w.heap.size + 1) 108 #[.slice none 0 0, .int .i64 0] := by
    have := Blk.new (w.alloc (.cells #[.int .i64 t.price, .int .i64 t.back, .int .i64 t.late, .int .i64 t.carry, .int .i64 t.credit] 111)) 108 #[.slice none 0 0, .int .i64 0]
    rw [World.size_alloc] at this
    exact (this.below hb1 (by simp)).below hb2 hz
  have hz2 := hb2.size
  have K1 := Lib.hid k1
  have K2 := Lib.hid k2
  clear q1 q2 k1 k2
  go_wp2_with fail
  go_loopw [9, 10, 11, 12] (fun a b c i wr => ∃ (k : Nat) (x y z : Int), k ≤ hh.length ∧ i = .int .i64 k ∧ a = .int .i64 x ∧ b = .int .i64 y ∧ c = .int .i64 z ∧ Hid (settleSums (hh.take k) (late.take k) = some (x, y, z)) ∧ Below w2.heap.size w2 wr) (fun _ _ _ i _ => hh.length - (intOf i).toNat)
  case atStart => exact ⟨0, 0, 0, 0, Nat.zero_le _, rfl, rfl, rfl, rfl, by simp [Hid, settleSums], Below.refl _ _⟩
  case round =>
    obtain ⟨k, x, y, z, hk, rfl, rfl, rfl, rfl, HS, hW⟩ := hrel
    by_cases hlt : k < hh.length
    · have hlt2 : k < late.length := by have := H3.out; omega
      have hbr : Below w.heap.size w wr := hbw2.trans (hW.mono (by omega))
      obtain ⟨b, off, rfl, hb, c0, c1⟩ := (HA.out.below hbr).at2 hlt
      obtain ⟨b2, off2, rfl, hb2', e0⟩ := (HBB.out.below hbr).at1 hlt2
      have hbd := settleSums_bd (h := hh.take k) (fun d hd => hok d (List.mem_of_mem_take hd)) HS.out
      have hlk : (hh.take k).length ≤ 400 := by simp; omega
      have okd := hok _ (List.getElem_mem hlt)
      unfold OkDay at okd
      have hsz : w.heap.size + 1 < wr.heap.size := by have := hW.size; omega
      have hsz0 : b < wr.heap.size := by omega
      have hsz1 : b2 < wr.heap.size := by omega
      have g0 := IntWalk.i64_in (x + hh[k].1) (by omega)
      by_cases hin0 : late[k] < 0
      · have hin : inB late[k] 0 hh[k].2 = false := by simp [inB]; omega
        have hbad := HD1.out (settleSums_bad hlt hlt2 hin)
        have HBAD := Lib.hid hbad
        have m1 := (K2.out.below hW (by omega)).cell 0
        have m2 := (K2.out.below hW (by omega)).cell 1
        have m3 := (K2.out.below hW (by omega)).frozen 0
        have m4 := (K2.out.below hW (by omega)).frozen 1
        simp at m1 m2
        clear hbad hin
        go_wp2_with fail
        go_quiet (fail)
        go_wp2_with fail
        refine bodyPost_ret (v := .tuple #[.agg #[.slice none 0 0, .int .i64 0], .int .i64 120]) ?_ rfl (AccPost.err HBAD.out ?_)
        · have kf := (((K2.out.below hW (by omega)).drewN nq).set_ 0 (.slice none 0 0)).set_ 1 (.int .i64 0)
          have z1 : World.cell? _ ⟨w.heap.size + 1, 0, none⟩ = some (Value.slice none 0 0) := kf.cell 0
          have z2 : World.cell? _ ⟨w.heap.size + 1, 1, none⟩ = some (Value.int .i64 0) := kf.cell 1
          generalize World.setCell _ _ _ = W at z1 z2 ⊢
          simp [results, Try.results51, go_sem, z1, z2]
        · exact (((below_drewN hbr _).setCell (by simp) _).setCell (by simp) _)
      by_cases hin1 : hh[k].2 < late[k]
      · have hin : inB late[k] 0 hh[k].2 = false := by simp [inB]; omega
        have hbad := HD1.out (settleSums_bad hlt hlt2 hin)
        have HBAD := Lib.hid hbad
        have m1 := (K2.out.below hW (by omega)).cell 0
        have m2 := (K2.out.below hW (by omega)).cell 1
        have m3 := (K2.out.below hW (by omega)).frozen 0
        have m4 := (K2.out.below hW (by omega)).frozen 1
        have hd0 : decide (late[k] < 0) = false := by simp; omega
        simp at m1 m2
        clear hbad hin
        go_wp2_with fail
        go_quiet (fail)
        go_wp2_with fail
        refine bodyPost_ret (v := .tuple #[.agg #[.slice none 0 0, .int .i64 0], .int .i64 120]) ?_ rfl (AccPost.err HBAD.out ?_)
        · have kf := (((K2.out.below hW (by omega)).drewN nq).set_ 0 (.slice none 0 0)).set_ 1 (.int .i64 0)
          have z1 : World.cell? _ ⟨w.heap.size + 1, 0, none⟩ = some (Value.slice none 0 0) := kf.cell 0
          have z2 : World.cell? _ ⟨w.heap.size + 1, 1, none⟩ = some (Value.int .i64 0) := kf.cell 1
          generalize World.setCell _ _ _ = W at z1 z2 ⊢
          simp [results, Try.results51, go_sem, z1, z2]
        · exact (((below_drewN hbr _).setCell (by simp) _).setCell (by simp) _)
      · have hin : inB late[k] 0 hh[k].2 = true := by simp [inB]; omega
        have HIN := Lib.hid hin
        clear hin
        have hd0 : decide (late[k] < 0) = false := by simp; omega
        have hd1 : decide (hh[k].2 < late[k]) = false := by simp; omega
        have g1 := IntWalk.i64_in (y + hh[k].2) (by omega)
        have g2 := IntWalk.i64_in (y + hh[k].2 - late[k]) (by omega)
        have e1 : y + hh[k].2 - late[k] = y + (hh[k].2 - late[k]) := by omega
        have E1 := Lib.hid e1
        clear e1
        go_wp2_with fail
        go_quiet (fail)
        go_wp2_with fail
        go_quiet (fail)
        go_wp2_with fail
        go_roundw
        case rel =>
          refine ⟨k + 1, x + hh[k].1, y + (hh[k].2 - late[k]), z + late[k], by omega, by go_num, rfl, int_eq E1.out, rfl, settleSums_snoc H3.out hlt hlt2 HS.out HIN.out, ?_⟩
          exact below_drewN hW _
        case measure => simp [intOf]; omega
    · have hfull : settleSums hh late = some (x, y, z) := by
        have := HS.out
        rwa [List.take_of_length_le (by omega), List.take_of_length_le (by have := H3.out; omega)] at this
      have hbd := settleSums_bd (h := hh) hok hfull
      have hr := HD2.out _ hfull
      have HR := Lib.hid hr
      have hbr : Below w.heap.size w wr := hbw2.trans (hW.mono (by omega))
      have k1 := K1.out.below hW (by omega)
      have k2 := K2.out.below hW (by omega)
      have K2' := Lib.hid k2
      have hsz : w.heap.size + 1 < wr.heap.size := by have := hW.size; omega
      have a0 := k1.cell 0
      have a1 := k1.cell 1
      have a2 := k1.cell 2
      simp at a0 a1 a2
      clear hfull hr k1 k2
      have p1 := Int.mul_le_mul (show x ≤ 4000000 by omega) t2 (by omega) (by omega)
      have p2 := Int.mul_nonneg hbd.1.1 t1
      have p3 := Int.mul_le_mul (show y ≤ 4000000 by omega) (show t.back ≤ 10000 by omega) (by omega) (by omega)
      have p4 := Int.mul_nonneg hbd.2.1.1 t3
      have p5 := Int.mul_le_mul (show z ≤ 4000000 by omega) (show t.late ≤ 10000 by omega) (by omega) (by omega)
      have p6 := Int.mul_nonneg hbd.2.2.1 t5
      have n1 : -y * t.back = -(y * t.back) := by rw [Int.neg_mul]
      have n2 : -z * t.late = -(z * t.late) := by rw [Int.neg_mul]
      have N1 := Lib.hid n1
      have N2 := Lib.hid n2
      have q1 : -100000000000 ≤ -y * t.back ∧ -y * t.back ≤ 100000000000 := by rw [n1]; omega
      have q2 : -100000000000 ≤ -z * t.late ∧ -z * t.late ≤ 100000000000 := by rw [n2]; omega
      clear n1 n2
      go_wp2_with fail
      have hk3 := Blk.new wr 182 #[.int .i64 1, .int .i64 x, .int .i64 (x * t.price), .int .i64 2, .int .i64 y, .int .i64 (-y * t.back), .int .i64 3, .int .i64 z, .int .i64 (-z * t.late)]
      have hl : linesOf t (x, y, z) = [(1, x, x * t.price), (2, y, -y * t.back), (3, z, -z * t.late)] := by
        simp [linesOf, Int.mul_neg, Int.neg_mul]
      refine (rsum_any (some ⟨wr.heap.size, 0, none⟩) 3 [(1, x, x * t.price), (2, y, -y * t.back), (3, z, -z * t.late)] _ (by simp) (Sl.of_blk (enc := enc3) (fun _ => rfl) (by simp [maxLen]) hk3 rfl) ?_).mono ?_
      · intro v hv
        simp at hv
        rcases hv with rfl | rfl | rfl <;> simp <;> omega
      · rintro e w3 ⟨rfl, hB3⟩
        have kk2 := (K2'.out.alloc (.cells #[.int .i64 1, .int .i64 x, .int .i64 (x * t.price), .int .i64 2, .int .i64 y, .int .i64 (-y * t.back), .int .i64 3, .int .i64 z, .int .i64 (-z * t.late)] 182)).below hB3 (by simp; omega)
        have m1 := kk2.cell 0
        have m2 := kk2.cell 1
        have m3 := kk2.frozen 0
        have m4 := kk2.frozen 1
        simp at m1 m2
        have KK := Lib.hid kk2
        have HL := Lib.hid hl
        have K3 := Lib.hid (hk3.below hB3 (by simp))
        clear kk2 hl hk3
        go_wp2_with fail
        have kf := (KK.out.set_ 0 (.slice (some ⟨wr.heap.size, 0, none⟩) 3 3)).set_ 1 (.int .i64 (sumLines [(1, x, x * t.price), (2, y, -y * t.back), (3, z, -z * t.late)]))
        refine bodyPost_ret (v := .tuple #[.agg #[.slice (some ⟨wr.heap.size, 0, none⟩) 3 3, .int .i64 (sumLines [(1, x, x * t.price), (2, y, -y * t.back), (3, z, -z * t.late)])], .int .i64 0]) ?_ rfl ?_
        · have z1 : World.cell? _ ⟨w.heap.size + 1, 0, none⟩ = some (Value.slice (some ⟨wr.heap.size, 0, none⟩) 3 3) := kf.cell 0
          have z2 : World.cell? _ ⟨w.heap.size + 1, 1, none⟩ = some (Value.int .i64 (sumLines [(1, x, x * t.price), (2, y, -y * t.back), (3, z, -z * t.late)])) := kf.cell 1
          generalize World.setCell _ _ _ = W at z1 z2 ⊢
          simp [results, Try.results51, go_sem, z1, z2]
        · rw [HR.out]
          have hne : wr.heap.size ≠ w.heap.size + 1 := by omega
          refine ⟨some ⟨wr.heap.size, 0, none⟩, 3, by rw [HL.out]; rfl, ?_, Fr.some (by omega), ((((hbr.alloc (by omega) _).trans (hB3.mono (by simp; omega))).setCell (by simp) _).setCell (by simp) _)⟩
          rw [HL.out]
          have := ((K3.out.far (p := ⟨w.heap.size + 1, 0, none⟩) hne (.slice (some ⟨wr.heap.size, 0, none⟩) 3 3)).far (p := ⟨w.heap.size + 1, 1, none⟩) hne (.int .i64 (sumLines [(1, x, x * t.price), (2, y, -y * t.back), (3, z, -z * t.late)])))
          exact Sl.of_blk (enc := enc3) (fun _ => rfl) (by simp [maxLen]) this rfl
end Go.Proofs.Ytgopdfbmddkpfaa
