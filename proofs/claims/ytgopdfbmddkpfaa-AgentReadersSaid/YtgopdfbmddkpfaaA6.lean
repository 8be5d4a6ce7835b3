/- Contract of Settle, the loop; conditions: none. -/
import Derived.Test.YtgopdfbmddkpfaaA5
set_option linter.unusedSimpArgs false
set_option linter.unusedVariables false
namespace Go.Proofs.Ytgopdfbmddkpfaa
open Go.RowKit Go.Fh Go.Ag

set_option maxHeartbeats 2000000 in
theorem settle_main (t : TariffD) (A : Option Addr) (c : Nat) (hh : List (Int × Int)) (B : Option Addr) (d : Nat) (late : List Int) (w : World)
    (hA : Sl enc2 2 w w.heap.size A hh) (hB : Sl encInt 1 w w.heap.size B late) (h1 : wrongT t = false) (h2 : checkH hh = 0) (h3 : late.length = hh.length) :
    Calls Try.prog 24 #[.agg (tarV t), .slice A hh.length c, .slice B late.length d] w (AccPost (settleD t hh late) w) := by
  obtain ⟨hlen, hok⟩ := checkH_zero.1 h2
  have hd1 : settleSums hh late = none → settleD t hh late = (120, [], 0) := fun e => by simp [settleD, h1, h2, h3, e]
  have hd2 : ∀ s, settleSums hh late = some s → settleD t hh late = (0, linesOf t s, sumLines (linesOf t s)) := fun s e => by simp [settleD, h1, h2, h3, e]
  have HD1 := Lib.hid hd1
  have HD2 := Lib.hid hd2
  have HA := Lib.hid hA
  have HBB := Lib.hid hB
  have h3' : ((late.length : Int) != (hh.length : Int)) = false := by simp [h3]
  have H3 := Lib.hid h3
  have hlen2 : late.length ≤ 400 := by omega
  have hT := (OkT_iff t).1 h1
  obtain ⟨⟨t1, t2⟩, ⟨t3, t4⟩, ⟨t5, t6⟩, ⟨t7, t8⟩, ⟨t9, t10⟩⟩ := hT
  have hC := fun W hW => check_any A c hh W (by omega) hW
  clear hd1 hd2 hA hB h3
  unfold tarV
  go_enter Try.func24, Try.ntmps24
  go_wp2_with fail
  refine (wrongT_any t _).mono ?_
  rintro e w1 ⟨rfl, hb1⟩
  obtain ⟨q1, q2⟩ := bcell hb1
  have hz : w.heap.size + 1 < w1.heap.size := by have := hb1.size; simp at this; omega
  have hz0 : w.heap.size < w1.heap.size := by omega
  have hbw : Below w.heap.size w w1 := (((Below.refl w.heap.size w).alloc (Nat.le_refl _) _).alloc (by simp) _).trans (hb1.mono (by simp; omega))
  go_wp2_with fail
  refine (hC _ (by exact (HA.out.below hbw).mono (by omega))).mono ?_
  clear hC
  rintro e w2 ⟨rfl, hb2⟩
  have hbw2 : Below w.heap.size w w2 := hbw.trans (hb2.mono (by omega))
  have k1 : Blk w2 w.heap.size 36 #[.int .i64 t.price, .int .i64 t.back, .int .i64 t.late, .int .i64 t.carry, .int .i64 t.credit] :=
    (((Blk.new w 36 _).alloc _).below hb1 (by simp; omega)).below hb2 hz0
  have k2 : Blk w2 (w.heap.size + 1) 53 #[.slice none 0 0, .int .i64 0] := by
    have := Blk.new (w.alloc (.cells #[.int .i64 t.price, .int .i64 t.back, .int .i64 t.late, .int .i64 t.carry, .int .i64 t.credit] 36)) 53 #[.slice none 0 0, .int .i64 0]
    rw [World.size_alloc] at this
    exact (this.below hb1 (by simp)).below hb2 hz
  have hz2 := hb2.size
  have K1 := Lib.hid k1
  have K2 := Lib.hid k2
  clear q1 q2 k1 k2
  go_wp2_with fail
  go_loopw [9, 10, 11, 33] (fun a b c i wr => ∃ (k : Nat) (x y z : Int), k ≤ hh.length ∧ i = .int .i64 k ∧ a = .int .i64 x ∧ b = .int .i64 y ∧ c = .int .i64 z ∧ Hid (settleSums (hh.take k) (late.take k) = some (x, y, z)) ∧ Below w2.heap.size w2 wr) (fun _ _ _ i _ => hh.length - (intOf i).toNat)
  case atStart => exact ⟨0, 0, 0, 0, Nat.zero_le _, rfl, rfl, rfl, rfl, by simp [Hid, settleSums], Below.refl _ _⟩
  case round =>
    obtain ⟨k, x, y, z, hk, rfl, rfl, rfl, rfl, HS, hW⟩ := hrel
    by_cases hlt : k < hh.length
    · have hlt2 : k < late.length := by have := H3.out; omega
      have hbr : Below w.heap.size w wr := hbw2.trans (hW.mono (by omega))
      obtain ⟨b, off, rfl, hb, c0, c1⟩ := (HA.out.below hbr).at2 hlt
      obtain ⟨b2, off2, rfl, hb2', e0⟩ := (HBB.out.below hbr).at1 hlt2
      have hbd := settleSums_bd (h := hh.take k) (fun d hd => hok d (List.mem_of_mem_take hd)) HS.out
      have hlk : (hh.take k).length ≤ 400 := by simp; omega
      have okd := hok _ (List.getElem_mem hlt)
      unfold OkDay at okd
      have hsz : w.heap.size + 1 < wr.heap.size := by have := hW.size; omega
      have hsz0 : b < wr.heap.size := by omega
      have hsz1 : b2 < wr.heap.size := by omega
      cases hin : inB late[k] 0 hh[k].2
      · have hbad := HD1.out (settleSums_bad hlt hlt2 hin)
        have HBAD := Lib.hid hbad
        have m1 := (K2.out.below hW (by omega)).cell 0
        have m2 := (K2.out.below hW (by omega)).cell 1
        have m3 := (K2.out.below hW (by omega)).frozen 0
        have m4 := (K2.out.below hW (by omega)).frozen 1
        simp at m1 m2
        clear hbad
        go_wp2_with fail
        go_quiet ((go_at_call 48; exact Calls.quiet_of_same ((within_any _ _ _ _).mono (fun e w' he => ⟨he.1, he.2.symm⟩))))
        go_wp2_with fail
        refine bodyPost_ret (v := .tuple #[.agg #[.slice none 0 0, .int .i64 0], .int .i64 120]) ?_ rfl (AccPost.err HBAD.out ?_)
        · have kf := ((((K2.out.below hW (by omega)).alloc (.cells #[.int .i64 hh[k].1, .int .i64 hh[k].2] 33)).drewN nq).set_ 0 (.slice none 0 0)).set_ 1 (.int .i64 0)
          have z1 : World.cell? _ ⟨w.heap.size + 1, 0, none⟩ = some (Value.slice none 0 0) := kf.cell 0
          have z2 : World.cell? _ ⟨w.heap.size + 1, 1, none⟩ = some (Value.int .i64 0) := kf.cell 1
          generalize World.setCell _ _ _ = W at z1 z2 ⊢
          simp [results, Try.results24, go_sem, z1, z2]
        · exact (((below_drewN (hbr.alloc hbr.size _) _).setCell (by simp) _).setCell (by simp) _)
      · have hx := inB_iff.1 hin
        have g1 := IntWalk.i64_in (hh[k].2 - late[k]) (by omega)
        have g2 := IntWalk.i64_in (y + (hh[k].2 - late[k])) (by omega)
        go_wp2_with fail
        go_quiet ((go_at_call 48; exact Calls.quiet_of_same ((within_any _ _ _ _).mono (fun e w' he => ⟨he.1, he.2.symm⟩))))
        go_wp2_with fail
        go_quiet (fail)
        go_wp2_with fail
        go_roundw
        case rel =>
          refine ⟨k + 1, x + hh[k].1, y + (hh[k].2 - late[k]), z + late[k], by omega, by go_num, rfl, rfl, rfl, settleSums_snoc H3.out hlt hlt2 HS.out hin, ?_⟩
          exact below_drewN (hW.alloc hW.size _) _
        case measure => simp [intOf]; omega
    · have hfull : settleSums hh late = some (x, y, z) := by
        have := HS.out
        rwa [List.take_of_length_le (by omega), List.take_of_length_le (by have := H3.out; omega)] at this
      have hbd := settleSums_bd (h := hh) hok hfull
      have hr := HD2.out _ hfull
      have HR := Lib.hid hr
      have hbr : Below w.heap.size w wr := hbw2.trans (hW.mono (by omega))
      have K1' := Lib.hid (K1.out.below hW (by omega))
      have K2' := Lib.hid (K2.out.below hW (by omega))
      have hsz : w.heap.size + 1 < wr.heap.size := by have := hW.size; omega
      clear hfull hr
      go_wp2_with fail
      refine (account_any _).mono ?_
      rintro e w3 ⟨rfl, he⟩
      have hacc : AccAt w3 (wr.heap.size + 1) wr.heap.size wr.heap.size none 0 [] 0 := by
        subst he
        refine ⟨?_, (Blk.new wr 53 _).alloc _, World.ownsRow_nil _ _ _ _⟩
        have := Blk.new (wr.alloc (.cells #[.slice none 0 0, .int .i64 0] 53)) 130 #[.pointer (some ⟨wr.heap.size, 0, none⟩)]
        rwa [World.size_alloc] at this
      have hB3 : Below wr.heap.size wr w3 := by subst he; exact ((Below.refl _ _).alloc (Nat.le_refl _) _).alloc (by simp) _
      have HACC := Lib.hid hacc
      have K13 := Lib.hid (K1'.out.below hB3 (by omega))
      have a0 := K13.out.cell 0
      simp at a0
      clear he hacc
      have p1 := Int.mul_le_mul (show x ≤ 4000000 by omega) t2 (by omega) (by omega)
      have p2 := Int.mul_nonneg hbd.1.1 t1
      have p3 := Int.mul_le_mul (show y ≤ 4000000 by omega) (show t.back ≤ 10000 by omega) (by omega) (by omega)
      have p4 := Int.mul_nonneg hbd.2.1.1 t3
      have p5 := Int.mul_le_mul (show z ≤ 4000000 by omega) (show t.late ≤ 10000 by omega) (by omega) (by omega)
      have p6 := Int.mul_nonneg hbd.2.2.1 t5
      have n1 : y * -t.back = -(y * t.back) := by rw [Int.mul_neg]
      have n2 : z * -t.late = -(z * t.late) := by rw [Int.mul_neg]
      have N1 := Lib.hid n1
      have N2 := Lib.hid n2
      clear n1 n2
      go_wp2_with fail
      refine (addLine_any 1 x t.price (wr.heap.size + 1) wr.heap.size wr.heap.size none 0 [] 0 w3 HACC.out (Nat.le_refl _) (by simp) (by omega) (by omega) (by omega) (by omega)).mono ?_
      rintro e w4 ⟨rfl, ⟨A1, c1, hacc1⟩, hB4⟩
      have HACC1 := Lib.hid hacc1
      have K14 := Lib.hid (K13.out.below hB4 (by omega))
      have a1 := K14.out.cell 1
      simp at a1
      clear hacc1 a0
      go_wp2_with fail
      refine (addLine_any 2 y (-t.back) (wr.heap.size + 1) wr.heap.size wr.heap.size A1 c1 _ _ w4 HACC1.out (Nat.le_refl _) (by simp) (by rw [N1.out]; omega) (by rw [N1.out]; omega) (by omega) (by omega)).mono ?_
      rintro e w5 ⟨rfl, ⟨A2, c2, hacc2⟩, hB5⟩
      have HACC2 := Lib.hid hacc2
      have K15 := Lib.hid (K14.out.below hB5 (by omega))
      have a2 := K15.out.cell 2
      simp at a2
      clear hacc2 a1
      go_wp2_with fail
      refine (addLine_any 3 z (-t.late) (wr.heap.size + 1) wr.heap.size wr.heap.size A2 c2 _ _ w5 HACC2.out (Nat.le_refl _) (by simp) (by rw [N2.out]; omega) (by rw [N2.out]; omega) (by rw [N1.out]; omega) (by rw [N1.out]; omega)).mono ?_
      rintro e w6 ⟨rfl, ⟨A3, c3, hacc3⟩, hB6⟩
      have HACC3 := Lib.hid hacc3
      have k2 := (((K2'.out.below hB3 (by omega)).below hB4 (by omega)).below hB5 (by omega)).below hB6 (by omega)
      have K26 := Lib.hid k2
      have b0 := hacc3.2.1.cell 0
      have b1 := hacc3.2.1.cell 1
      have m1 := k2.cell 0
      have m2 := k2.cell 1
      have m3 := k2.frozen 0
      have m4 := k2.frozen 1
      simp at b0 b1 m1 m2
      clear hacc3 a2 k2
      go_wp2_with fail
      have hBw : Below w.heap.size w w6 := ((((hbr.trans (hB3.mono (by omega))).trans (hB4.mono (by omega))).trans (hB5.mono (by omega))).trans (hB6.mono (by omega)))
      have kf := (K26.out.set_ 0 (.slice A3 3 c3)).set_ 1 (.int .i64 (0 + x * t.price + y * -t.back + z * -t.late))
      refine bodyPost_ret (v := .tuple #[.agg #[.slice A3 3 c3, .int .i64 (0 + x * t.price + y * -t.back + z * -t.late)], .int .i64 0]) ?_ rfl ?_
      · have z1 : World.cell? _ ⟨w.heap.size + 1, 0, none⟩ = some (Value.slice A3 3 c3) := kf.cell 0
        have z2 : World.cell? _ ⟨w.heap.size + 1, 1, none⟩ = some (Value.int .i64 (0 + x * t.price + y * -t.back + z * -t.late)) := kf.cell 1
        simp only [Int.zero_add] at z1 z2 ⊢
        generalize World.setCell _ _ _ = W at z1 z2 ⊢
        simp [results, Try.results24, go_sem, z1, z2]
      · rw [HR.out]
        refine ⟨A3, c3, by simp [linesOf, sumLines]; omega, ?_, Fr.own (HACC3.out.2.2) (by omega), (hBw.setCell (by simp) _).setCell (by simp) _⟩
        have hne := own_blk_ne HACC3.out.2.2 K26.out (by decide)
        exact Sl.of_own (enc := enc3) (l := linesOf t (x, y, z)) (fun _ => rfl) (own_far (own_far HACC3.out.2.2 hne _) hne _)
end Go.Proofs.Ytgopdfbmddkpfaa
