/- Contract of the law's methods; conditions: none. -/
import Derived.Test.YtgopdfbmddkpfaaG6
import Derived.Test.YtgopdfbmddkpfaaG8
import Derived.Test.YtgopdfbmddkpfaaE1
import Derived.Test.YtgopdfbmddkpfaaE2
import Derived.Deep.RegionHeld3
import Derived.Deep.DeepCutAuto
import Derived.Deep.DeepMust
set_option linter.unusedSimpArgs false
set_option linter.unusedVariables false
namespace Go.Proofs.Ytgopdfbmddkpfaa
open Go.RowKit Go.Fh Go.Ag
theorem info143 : (Try.prog.info? 143).map (fun i => (i.zero, i.size, i.bytes)) = some (some (.agg #[.int .i64 0, .int .i64 0]), 2, 16) := by kernel_rfl

set_option maxRecDepth 20000 in
set_option maxHeartbeats 8000000 in
theorem methods_any (L : Option Addr) (cl : Nat) (l : List (Int × Int)) (A : Option Addr) (c : Nat) (h : List (Int × Int)) (day over under : Int) (w : World) (hl50 : l.length ≤ 50) (hh : h.length * 16 ≤ 140737488355328) (hL : Sl enc2 2 w w.heap.size L l) (hA : Sl enc2 2 w w.heap.size A h) :
    Calls Try.prog 28 #[.slice L l.length cl, .slice A h.length c, .int .i64 day, .int .i64 over, .int .i64 under] w fun e w' => e = .returned (.bool true) ∧ Below w.heap.size w w' := by
  obtain ⟨i0, hi0, hz0, hz1, hz2⟩ := info_parts info143
  have HI0 := Lib.hid hi0
  have HL := Lib.hid hL
  have HA := Lib.hid hA
  have hll : l.length ≤ 9223372036854775807 := by omega
  have hhl : h.length ≤ 9223372036854775807 := by omega
  clear hi0 hL hA
  go_enter Try.func28, Try.ntmps28
  go_wp2_with fail
  refine (cloneDay_any A c h w hh HA.out).mono ?_
  rintro e w1 ⟨A1, ca1, rfl, hs1, hb1⟩
  go_wp2_with fail
  refine (cloneMethod_any L cl l w1 (by omega) ((HL.out.below hb1).mono hb1.size)).mono ?_
  rintro e w2 ⟨L1, d1, rfl, hs2, hb2⟩
  have hbb2 := hb1.trans (hb2.mono hb1.size)
  have HA1 := Lib.hid ((hs1.below hb2).mono hb2.size)
  have HL1 := Lib.hid hs2
  have HBB2 := Lib.hid hbb2
  clear hs1 hs2 hb1 hb2 hbb2
  go_wp2_with fail
  go_loopw [13, 38] (fun v i wr => ∃ k : Nat, k ≤ l.length ∧ i = .int .i64 k ∧ (∃ A' c', v = .slice A' k c') ∧ wr.ownsRow w2.heap.size 143 2 v k ((l.take k).flatMap enc2) ∧ Below w2.heap.size w2 wr) (fun _ i _ => l.length - (intOf i).toNat)
  case atStart => exact ⟨0, Nat.zero_le _, rfl, ⟨none, 0, rfl⟩, World.ownsRow_nil _ _ _ _, Below.refl _ _⟩
  case round =>
    obtain ⟨k, hk, rfl, ⟨R1, cc, rfl⟩, hown, hB⟩ := hrel
    have HOWN := Lib.hid hown
    clear hown
    by_cases hlt : k < l.length
    · obtain ⟨b, off, rfl, hb, c0, c1⟩ := (HL.out.below (HBB2.out.trans (hB.mono HBB2.out.size))).at2 hlt
      have hsz := hB.size
      have hsz2 := HBB2.out.size
      have hbw : b < wr.heap.size := by omega
      obtain ⟨x, hx⟩ : ∃ x, x = l[k] := ⟨_, rfl⟩
      rw [← hx] at c0 c1
      have HX := Lib.hid hx
      clear hx
      have hown2 := (HOWN.out.alloc (.cells #[.int .i64 x.1, .int .i64 x.2] 72)).alloc (.cells #[.int .i64 x.1, .int .i64 x.2] 143)
      have HOWN2 := Lib.hid hown2
      have HNEWS := Lib.hid (news_of2 wr (.cells #[.int .i64 x.1, .int .i64 x.2] 72) 143 #[.int .i64 x.1, .int .i64 x.2])
      have hone : ∀ u ∈ enc2 x, u.oneCell' = true := by intro u hu; simp [enc2] at hu; rcases hu with rfl | rfl <;> rfl
      have hm1 : k + 1 ≤ maxLen := by simp only [maxLen]; omega
      have hm2 : (k + 1) * 16 ≤ 140737488355328 := by omega
      have hm3 : w2.heap.size ≤ ((wr.alloc (.cells #[.int .i64 x.1, .int .i64 x.2] 72)).alloc (.cells #[.int .i64 x.1, .int .i64 x.2] 143)).heap.size := by simp; omega
      have HM3 := Lib.hid hm3
      have HONE := Lib.hid hone
      clear hown2 hm3 hone
      go_wp2_with (at_builtin; refine wpList_append_own _ rfl (.tmp 42) (.tmp 44) 142 rfl w2.heap.size 143 i0 (.agg #[.int .i64 0, .int .i64 0]) 2 16 Try.underlying142 HI0.out hz0 hz1 hz2 rfl (by decide) (.slice R1 k cc) k ((l.take k).flatMap enc2) rfl HOWN2.out ⟨wr.heap.size + 1, 0, none⟩ 1 1 (enc2 x) rfl rfl HNEWS.out HONE.out hm1 hm2 HM3.out ?_; intro v' w3 hown1 hg1 _)
      have HG1 := Lib.hid hg1
      have HO1 := Lib.hid hown1
      obtain ⟨A', c', rfl⟩ := own_shape hown1
      clear hg1 hown1
      go_wp2
      go_roundw
      case rel =>
        refine ⟨k + 1, by omega, by go_num, ⟨A', c', rfl⟩, ?_, ?_⟩
        · rw [List.take_succ_eq_append_getElem hlt, List.flatMap_append, ← HX.out]; simpa using HO1.out
        · exact (((hB.alloc hB.size _).alloc (by simp; omega) _).grown HG1.out (by simp; omega) (fun j hj => (HOWN.out.lt j hj).1))
      case measure => simp [intOf]; omega
    · obtain rfl : k = l.length := by omega
      have hR : Sl enc2 2 wr wr.heap.size R1 l := by
        have := HOWN.out
        rw [List.take_length] at this
        exact Sl.of_own (enc := enc2) (fun _ => rfl) this
      obtain ⟨w3, hw3⟩ : ∃ w3, w3 = wr := ⟨_, rfl⟩
      rw [← hw3] at hR hB ⊢
      have HR := Lib.hid hR
      have HB3 := Lib.hid hB
      have HBB3 := Lib.hid (HBB2.out.trans (hB.mono HBB2.out.size))
      clear hR hB hw3
      go_wp2_with fail
      go_loopw [49] (fun i wr => ∃ k : Nat, k ≤ l.length ∧ i = .int .i64 k ∧ Below w3.heap.size w3 wr) (fun i _ => l.length - (intOf i).toNat)
      case atStart => exact ⟨0, Nat.zero_le _, rfl, Below.refl _ _⟩
      case round =>
        obtain ⟨k, hk, rfl, hB⟩ := hrel
        by_cases hlt : k < l.length
        · have hbbr := HBB3.out.trans (hB.mono HBB3.out.size)
          obtain ⟨b, off, rfl, hb, c0, c1⟩ := (HL.out.below hbbr).at2 hlt
          obtain ⟨x, hx⟩ : ∃ x, x = l[k] := ⟨_, rfl⟩
          rw [← hx] at c0 c1
          have hsz := hB.size
          have hszw := hbbr.size
          have hbw : b < wr.heap.size := by omega
          have hKm := Blk.new wr 72 #[.int .i64 x.1, .int .i64 x.2]
          have hBn := hB.alloc hB.size (.cells #[.int .i64 x.1, .int .i64 x.2] 72)
          have HKM := Lib.hid hKm
          have HBN := Lib.hid hBn
          have HX := Lib.hid hx
          have h23 := HB3.out.size
          have HSA := Lib.hid (fun W (hW : Below w3.heap.size w3 W) => (HA1.out.below (HB3.out.trans (hW.mono h23))).mono (Nat.le_trans h23 hW.size))
          clear hKm hBn hx
          go_wp2_with fail
          refine (saysD_any x A1 ca1 h day _ hhl (HSA.out _ HBN.out)).mono ?_
          rintro e w4 ⟨rfl, hb4⟩
          have HB4 := Lib.hid (HBN.out.trans (hb4.mono HBN.out.size))
          have HK4 := Lib.hid (Blk.below HKM.out hb4 HKM.out.lt)
          clear hb4 c0 c1
          have hxk : x = l[k] := HX.out
          obtain ⟨rb, ro, hRe, hrb, e0, e1⟩ := (HR.out.below HB4.out).at2 hlt
          rw [← hxk] at e0 e1
          subst hRe
          clear hxk
          have hz4 : w3.heap.size ≤ w4.heap.size := HB4.out.size
          have hrb4 : rb < w4.heap.size := by omega
          have HDY := Lib.hid (fun W (hW : Below w4.heap.size w4 W) => days_any A c h W hh ((HA.out.below (HBB3.out.trans ((HB4.out.trans (hW.mono hz4)).mono HBB3.out.size))).mono (Nat.le_trans (Nat.le_trans HBB3.out.size hz4) hW.size)))
          have HSY := Lib.hid (fun A5 c5 W hA5 => rsaysD_any x A5 c5 h day W hhl hA5)
          go_upto_region 12 with fail
          go_cut [21, 22, 23] (fun p q r wx => p = .int .i64 (saysD x h day).1 ∧ q = .bool (saysD x h day).2.1 ∧ r = .int .i64 (saysD x h day).2.2 ∧ Below w4.heap.size w4 wx)
          case first =>
            clear HI0 HL HA HBB2 HA1 HL1 HOWN HR HB3 HBB3 HKM HBN HX HSA HB4 HK4 hz0 hz1 hz2
            go_region_with (first
              | (go_at_call 52; refine (HDY.out _ (by exact (Below.refl _ _).drew)).mono ?_; rintro e w5 ⟨A5, c5, rfl, hA5, hb5⟩; have HA5 := Lib.hid hA5; clear hA5; have f0 : w5.cell? ⟨rb, ro + k * 2, none⟩ = some (.int .i64 x.1) := (hb5.cell (p := ⟨rb, ro + k * 2, none⟩) (by exact hrb4)).trans e0; have f1 : w5.cell? ⟨rb, ro + k * 2 + 1, none⟩ = some (.int .i64 x.2) := (hb5.cell (p := ⟨rb, ro + k * 2 + 1, none⟩) (by exact hrb4)).trans e1)
              | (go_at_call 73; refine (HSY.out A5 c5 _ HA5.out).mono ?_; rintro e w6 ⟨rfl, hb6⟩; have hb46 : Below w4.heap.size w4 w6 := (Below.refl w4.heap.size w4).drew.trans (hb5.trans (hb6.mono hb5.size))))
            all_goals simp only [List.getElem_toArray, List.getElem_cons_succ, List.getElem_cons_zero]
            all_goals simp only [Act.put, List.setIfInBounds_toArray, List.set_cons_succ, List.set_cons_zero]
            all_goals go_wp2
            all_goals go_meet
            all_goals exact ⟨rfl, rfl, rfl, hb46⟩
          case rest =>
            obtain ⟨rfl, rfl, rfl, hb4c⟩ := hcut
            have HBC := Lib.hid (HB4.out.trans (hb4c.mono hz4))
            have hkc := Blk.below HK4.out hb4c HK4.out.lt
            have HKC := Lib.hid hkc
            have km0 := hkc.cell 0
            have km1 := hkc.cell 1
            simp at km0 km1
            clear hb4c hkc e0 e1 HDY HSY HKM HBN HB4 HK4 hb hrb hbw hrb4 HOWN
            go_wp2_with fail
            have hra := fun W hW => rateD_any x A1 ca1 h over under W hhl hW
            have hry := fun A5 c5 W hA5 => rrateD_any x A5 c5 h over under W hhl hA5
            obtain ⟨rr, hrr⟩ : ∃ rr, rr = rateD x h over under := ⟨_, rfl⟩
            simp only [← hrr, scoreV] at hra hry
            clear hrr
            obtain ⟨⟨sd, sn, sv⟩, se⟩ := rr
            have HRY := Lib.hid hry
            clear hry
            refine (hra _ (HSA.out _ HBC.out)).mono ?_
            clear hra
            rintro e w5 ⟨rfl, hb5⟩
            clear km0 km1
            obtain ⟨w6, hw6⟩ : ∃ w6, w6 = w5.alloc (.cells #[.int .i64 sd, .int .i64 sn, .int .i64 sv] 76) := ⟨_, rfl⟩
            have h35 := HBC.out.trans (hb5.mono HBC.out.size)
            have h36 : Below w3.heap.size w3 w6 := by rw [hw6]; exact h35.alloc h35.size _
            have hks : Blk w6 w5.heap.size 76 #[.int .i64 sd, .int .i64 sn, .int .i64 sv] := by rw [hw6]; exact Blk.new _ _ _
            have HKS := Lib.hid hks
            have H36 := Lib.hid h36
            have HW6 := Lib.hid hw6
            clear hb5 h35 h36 hw6 hks
            obtain ⟨rb, ro, hRe, hrb, e0, e1⟩ := (HR.out.below H36.out).at2 hlt
            obtain ⟨rfl, rfl⟩ : rb = _ ∧ ro = _ := by simpa using hRe.symm
            rw [← HX.out] at e0 e1
            have hz6 : w3.heap.size ≤ w6.heap.size := H36.out.size
            have hrb6 : rb < w6.heap.size := by omega
            have HDY := Lib.hid (fun W (hW : Below w6.heap.size w6 W) => days_any A c h W hh ((HA.out.below (HBB3.out.trans ((H36.out.trans (hW.mono hz6)).mono HBB3.out.size))).mono (Nat.le_trans (Nat.le_trans HBB3.out.size hz6) hW.size)))
            go_upto_region 16 with fail
            try rw [← HW6.out]
            go_cut [23, 25] (fun p q wx => p = .int .i64 se ∧ (∃ g, q = .pointer (some ⟨g, 0, none⟩) ∧ Blk wx g 145 #[.int .i64 sd, .int .i64 sn, .int .i64 sv]) ∧ Below w6.heap.size w6 wx)
            case first =>
              clear HI0 HL HA HBB2 HA1 HL1 HR HB3 HBB3 HX HSA HKC hz0 hz1 hz2 HKS HW6
              go_region_with (first
                | (go_at_call 52; refine (HDY.out _ (by repeat (first | exact Below.refl _ _ | refine Below.drew ?_ | refine Below.alloc ?_ (by simp) _))).mono ?_; rintro e w7 ⟨A5, c5, rfl, hA5, hb5⟩; obtain ⟨q1, q2⟩ := bcell hb5; have HA5 := Lib.hid hA5; clear hA5; have hb67 : Below w6.heap.size w6 w7 := Below.trans (by repeat (first | exact Below.refl _ _ | refine Below.drew ?_ | refine Below.alloc ?_ (by simp) _)) (hb5.mono (by simp)); have f0 : w7.cell? ⟨rb, ro + k * 2, none⟩ = some (.int .i64 x.1) := (hb67.cell (p := ⟨rb, ro + k * 2, none⟩) (by exact hrb6)).trans e0; have f1 : w7.cell? ⟨rb, ro + k * 2 + 1, none⟩ = some (.int .i64 x.2) := (hb67.cell (p := ⟨rb, ro + k * 2 + 1, none⟩) (by exact hrb6)).trans e1; have hz7 : w6.heap.size ≤ w7.heap.size := hb67.size; have hrb7 : rb < w7.heap.size := (by omega); try (have hz7' : w6.heap.size < w7.heap.size := (by have := hb5.size; simp at this; omega)))
                | (go_at_call 74; refine (HRY.out A5 c5 _ (by first | exact HA5.out | exact (HA5.out.below ((Below.refl _ _).alloc (Nat.le_refl _) _)).mono (by simp))).mono ?_; rintro e w8 ⟨rfl, hb6⟩; obtain ⟨r1, r2⟩ := bcell hb6; have HB6 := Lib.hid hb6; have hb78 : Below w7.heap.size w7 w8 := Below.trans (by repeat (first | exact Below.refl _ _ | refine Below.alloc ?_ (by simp) _)) (hb6.mono (by simp)); have hz8 : w7.heap.size ≤ w8.heap.size := hb78.size; have hz68 : w6.heap.size ≤ w8.heap.size := (by omega); try (have hz62 : w6.heap.size < w8.heap.size := (by omega)); try (have hz8' : w7.heap.size < w8.heap.size := (by have := hb6.size; simp at this; omega))))
              all_goals simp only [List.getElem_toArray, List.getElem_cons_succ, List.getElem_cons_zero]
              all_goals simp only [Act.put, List.setIfInBounds_toArray, List.set_cons_succ, List.set_cons_zero]
              all_goals go_wp2
              all_goals go_meet
              all_goals trace_state
              all_goals
                refine ⟨rfl, ?_⟩
                first
                  | exact ⟨⟨w8.heap.size, rfl, Blk.new w8 145 _⟩, (hb67.trans (hb78.mono (by omega))).alloc (by omega) _⟩
                  | (have kb : Blk w8 w7.heap.size 145 #[.int .i64 0, .int .i64 0, .int .i64 0] := (Blk.new w7 145 _).below HB6.out (by simp)
                     exact ⟨⟨w7.heap.size, rfl, ((kb.set_ 0 _).set_ 1 _).set_ 2 _⟩, (((hb67.trans (hb78.mono (by omega))).setCell (by exact hz7) _).setCell (by exact hz7) _).setCell (by exact hz7) _⟩)
                  | (have kb : Blk w8 w6.heap.size 145 #[.int .i64 0, .int .i64 0, .int .i64 0] := by
                       refine Blk.below (w := w7) ?_ HB6.out (by omega)
                       refine Blk.below (w := _) ?_ hb5 (by simp)
                       exact Blk.new w6 145 _
                     exact ⟨⟨w6.heap.size, rfl, ((kb.set_ 0 _).set_ 1 _).set_ 2 _⟩, (((hb67.trans (hb78.mono (by omega))).setCell (Nat.le_refl _) _).setCell (Nat.le_refl _) _).setCell (Nat.le_refl _) _⟩)
            case rest =>
              obtain ⟨rfl, ⟨g, rfl, kg⟩, hb7⟩ := hcut
              have hksc := HKS.out.below hb7 HKS.out.lt
              have v0 := kg.cell 0
              have v1 := kg.cell 1
              have v2 := kg.cell 2
              have u0 := hksc.cell 0
              have u1 := hksc.cell 1
              have u2 := hksc.cell 2
              simp at v0 v1 v2 u0 u1 u2
              have HB37 := Lib.hid (H36.out.trans (hb7.mono hz6))
              clear hb7 hksc kg HKS HW6 e0 e1 HDY HRY
              go_wp2_with fail
              go_roundw
              case rel => exact ⟨k + 1, by omega, by go_num, HB37.out⟩
              case measure => simp [intOf]; omega
        · obtain rfl : k = l.length := by omega
          have h23 := HB3.out.size
          have hz3 := HBB3.out.size
          have HTA1 := Lib.hid (fun W (hW : Below w3.heap.size w3 W) => (HA1.out.below (HB3.out.trans (hW.mono h23))).mono (Nat.le_trans h23 hW.size))
          have HTL1 := Lib.hid (fun W (hW : Below w3.heap.size w3 W) => (HL1.out.below (HB3.out.trans (hW.mono h23))).mono (Nat.le_trans h23 hW.size))
          have HTR := Lib.hid (fun W (hW : Below w3.heap.size w3 W) => (HR.out.below hW).mono hW.size)
          have HTA := Lib.hid (fun W (hW : Below w3.heap.size w3 W) => (HA.out.below (HBB3.out.trans (hW.mono hz3))).mono (Nat.le_trans hz3 hW.size))
          have HTL := Lib.hid (fun W (hW : Below w3.heap.size w3 W) => (HL.out.below (HBB3.out.trans (hW.mono hz3))).mono (Nat.le_trans hz3 hW.size))
          have H3R := Lib.hid hB
          have hca := fun W hW1 hW2 => chooseD_any L1 d1 l A1 ca1 h over under W hll hhl hW1 hW2
          have hcr := fun A5 c5 W hW1 hW2 => rchooseD_any R1 cc l A5 c5 h over under W hll hhl hW1 hW2
          obtain ⟨rr, hrr⟩ : ∃ rr, rr = chooseD l h over under := ⟨_, rfl⟩
          simp only [← hrr, scoreV] at hca hcr
          clear hrr
          obtain ⟨ci, ⟨sd, sn, sv⟩, se⟩ := rr
          have HCR := Lib.hid hcr
          clear hcr hB HA1 HL1 HR HB3 HBB2 HA HL HI0
          go_wp2_with fail
          refine (hca _ (HTL1.out _ H3R.out) (HTA1.out _ H3R.out)).mono ?_
          clear hca
          rintro e w4 ⟨rfl, hb4⟩
          have h34 := H3R.out.trans (hb4.mono H3R.out.size)
          have h34a := h34.alloc h34.size (.cells #[.int .i64 sd, .int .i64 sn, .int .i64 sv] 76)
          have hks := Blk.new w4 76 #[.int .i64 sd, .int .i64 sn, .int .i64 sv]
          have HKS := Lib.hid hks
          have H34 := Lib.hid h34a
          clear hb4 h34 h34a hks H3R
          go_wp2_with fail
          refine (days_any A c h _ hh (HTA.out _ H34.out)).mono ?_
          rintro e w5 ⟨A5, c5, rfl, hA5, hb5⟩
          have HA5 := Lib.hid hA5
          have H35 := Lib.hid (H34.out.trans (hb5.mono H34.out.size))
          have HKS5 := Lib.hid (Blk.below HKS.out hb5 HKS.out.lt)
          clear hA5 hb5 HKS
          go_wp2_with fail
          refine (HCR.out A5 c5 _ (HTR.out _ H35.out) HA5.out).mono ?_
          rintro e w6 ⟨rfl, hb6⟩
          have h36 := H35.out.trans (hb6.mono H35.out.size)
          have h36a := h36.alloc h36.size (.cells #[.int .i64 sd, .int .i64 sn, .int .i64 sv] 145)
          have hks6 := (Blk.below HKS5.out hb6 HKS5.out.lt).alloc (.cells #[.int .i64 sd, .int .i64 sn, .int .i64 sv] 145)
          have hkr6 := Blk.new w6 145 #[.int .i64 sd, .int .i64 sn, .int .i64 sv]
          have H36 := Lib.hid h36a
          have v0 := hks6.cell 0
          have v1 := hks6.cell 1
          have v2 := hks6.cell 2
          have u0 := hkr6.cell 0
          have u1 := hkr6.cell 1
          have u2 := hkr6.cell 2
          simp at v0 v1 v2 u0 u1 u2
          clear hb6 h36 h36a hks6 hkr6 HKS5 HA5
          go_wp2_with fail
          refine (equalDay_any A1 A ca1 c h h _ hhl hhl (HTA1.out _ H36.out) (HTA.out _ H36.out)).mono ?_
          rw [show decide (h = h) = true by simp]
          rintro e w7 ⟨rfl, hb7⟩
          have H37 := Lib.hid (H36.out.trans (hb7.mono H36.out.size))
          clear hb7
          go_wp2_with fail
          refine (equalMethod_any L1 L d1 cl l l _ hll hll (HTL1.out _ H37.out) (HTL.out _ H37.out)).mono ?_
          rw [show decide (l = l) = true by simp]
          rintro e w8 ⟨rfl, hb8⟩
          have h38 := HBB3.out.trans ((H37.out.trans (hb8.mono H37.out.size)).mono HBB3.out.size)
          clear hb8
          go_wp2_with fail
          go_ret
          exact ⟨by simp, h38⟩
end Go.Proofs.Ytgopdfbmddkpfaa
