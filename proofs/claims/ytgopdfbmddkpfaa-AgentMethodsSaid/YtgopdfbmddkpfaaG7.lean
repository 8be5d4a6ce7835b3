/- Contract of the reference's Rate; conditions: none. -/
import Derived.Test.YtgopdfbmddkpfaaG6
import Derived.Test.YtgopdfbmddkpfaaG3
import Derived.Test.YtgopdfbmddkpfaaD1
set_option linter.unusedSimpArgs false
set_option linter.unusedVariables false
namespace Go.Proofs.Ytgopdfbmddkpfaa
open Go.RowKit Go.Fh Go.Ag

set_option maxRecDepth 20000 in
set_option maxHeartbeats 4000000 in
theorem rrateD_any (m : Int × Int) (A : Option Addr) (c : Nat) (h : List (Int × Int)) (over under : Int) (w : World) (hl : h.length ≤ 9223372036854775807) (hA : Sl enc2 2 w w.heap.size A h) :
    Calls Try.prog 74 #[.agg #[.int .i64 m.1, .int .i64 m.2], .slice A h.length c, .int .i64 over, .int .i64 under] w fun e w' => e = .returned (.tuple #[scoreV (rateD m h over under).1, .int .i64 (rateD m h over under).2]) ∧ Below w.heap.size w w' := by
  obtain ⟨w0, hw0⟩ : ∃ w0, w0 = (w.alloc (.cells #[.int .i64 m.1, .int .i64 m.2] 143)).alloc (.cells #[.int .i64 0, .int .i64 0, .int .i64 0] 145) := ⟨_, rfl⟩
  have hb0 : Below w.heap.size w w0 := by rw [hw0]; exact ((Below.refl _ _).alloc (Nat.le_refl _) _).alloc (by simp) _
  have hkm : Blk w0 w.heap.size 143 #[.int .i64 m.1, .int .i64 m.2] := by rw [hw0]; exact (Blk.new _ _ _).alloc _
  have hks : Blk w0 (w.heap.size + 1) 145 #[.int .i64 0, .int .i64 0, .int .i64 0] := by
    rw [hw0]
    have := Blk.new (w.alloc (.cells #[.int .i64 m.1, .int .i64 m.2] 143)) 145 #[.int .i64 0, .int .i64 0, .int .i64 0]
    rwa [World.size_alloc] at this
  have HA := Lib.hid hA
  have HC := Lib.hid (rcheck_any A c h w0 hl ((hA.below hb0).mono hb0.size))
  have HB0 := Lib.hid hb0
  have HKM := Lib.hid hkm
  have HKS := Lib.hid hks
  have HW0 := Lib.hid hw0
  clear hA hb0 hkm hks
  by_cases hc : checkH h = 0
  · rw [hc] at HC
    obtain ⟨h400, hd⟩ := checkH_zero.1 hc
    have HD := Lib.hid hd
    have HCZ := Lib.hid hc
    clear hc hd hw0
    cases hw : wrongM m
    · have HW := Lib.hid hw
      cases hk : costsB over under
      · have hs : rateD m h over under = ((0, 0, 0), 1) := by simp [rateD, HCZ.out, hw, hk]
        have HS := Lib.hid hs
        clear hs
        go_enter Try.func74, Try.ntmps74
        go_wp2_with fail
        rw [← HW0.out]
        refine HC.out.mono ?_
        rintro e w1 ⟨rfl, hb1⟩
        have hbb1 := HB0.out.trans (hb1.mono HB0.out.size)
        have ks1 := Blk.below HKS.out hb1 HKS.out.lt
        have km1 := Blk.below HKM.out hb1 HKM.out.lt
        have m0 := km1.cell 0
        have m1 := km1.cell 1
        have mf0 := km1.frozen 0
        have mf1 := km1.frozen 1
        simp at m0 m1
        have KS1 := Lib.hid ks1
        have KM1 := Lib.hid km1
        clear ks1 km1 hb1
        go_wp2_with fail
        refine (rwrongM_any m w1).mono ?_
        rintro e w2 ⟨rfl, hb2⟩
        have hbb2 := hbb1.trans (hb2.mono hbb1.size)
        have ks2 := Blk.below KS1.out hb2 KS1.out.lt
        have km2 := Blk.below KM1.out hb2 KM1.out.lt
        have s0 := ks2.cell 0
        have s1 := ks2.cell 1
        have s2 := ks2.cell 2
        have sf0 := ks2.frozen 0
        have sf1 := ks2.frozen 1
        have sf2 := ks2.frozen 2
        simp at s0 s1 s2
        clear m0 m1 mf0 mf1
        go_wp2_with (go_at_call 104; refine (rcosts_any _ _ _).mono ?_; rintro e w' ⟨rfl, rfl⟩)
        have kf := (((ks2.set_ 0 (.int .i64 0)).set_ 1 (.int .i64 0)).set_ 2 (.int .i64 0))
        have z0 := kf.cell 0
        have z1 := kf.cell 1
        have z2 := kf.cell 2
        simp at z0 z1 z2
        have hbf := (((hbb2.setCell (p := ⟨w.heap.size + 1, 0, none⟩) (by simp) (.int .i64 0)).setCell (p := ⟨w.heap.size + 1, 1, none⟩) (by simp) (.int .i64 0)).setCell (p := ⟨w.heap.size + 1, 2, none⟩) (by simp) (.int .i64 0))
        refine bodyPost_ret (v := .tuple #[.agg #[(.int .i64 0), (.int .i64 0), (.int .i64 0)], .int .i64 1]) ?_ rfl ⟨by rw [HS.out]; rfl, hbf⟩
        simp [results, Try.results74, Try.f74, go_sem, z0, z1, z2]
      · obtain ⟨k1, k2, k3, k4⟩ := costsB_bd hk
        have hm2 : 1 ≤ m.2 := by simp [wrongM, inB] at hw; omega
        obtain ⟨r1, r2, r3⟩ := rateN_bd hm2 HD.out k1 k2 k3 k4 h.length (Nat.le_refl _)
        by_cases hz : (rateN m h over under h.length).1 = 0
        · have hs : rateD m h over under = ((0, 0, 0), 4) := by simp [rateD, HCZ.out, hw, hk, hz]
          have HS := Lib.hid hs
          have tz : (((rateN m h over under h.length).1 : Int) == 0) = true := by simp [hz]
          clear hs hz r1 r2 r3
          go_enter Try.func74, Try.ntmps74
          go_wp2_with fail
          rw [← HW0.out]
          refine HC.out.mono ?_
          rintro e w1 ⟨rfl, hb1⟩
          have hbb1 := HB0.out.trans (hb1.mono HB0.out.size)
          have ks1 := Blk.below HKS.out hb1 HKS.out.lt
          have km1 := Blk.below HKM.out hb1 HKM.out.lt
          have m0 := km1.cell 0
          have m1 := km1.cell 1
          have mf0 := km1.frozen 0
          have mf1 := km1.frozen 1
          simp at m0 m1
          have KS1 := Lib.hid ks1
          have KM1 := Lib.hid km1
          clear ks1 km1 hb1
          go_wp2_with fail
          refine (rwrongM_any m w1).mono ?_
          rintro e w2 ⟨rfl, hb2⟩
          have hbb2 := hbb1.trans (hb2.mono hbb1.size)
          have ks2 := Blk.below KS1.out hb2 KS1.out.lt
          have km2 := Blk.below KM1.out hb2 KM1.out.lt
          clear m0 m1 mf0 mf1
          have KS2 := Lib.hid ks2
          have KM2 := Lib.hid km2
          have HBB2 := Lib.hid hbb2
          clear ks2 km2 hb2
          go_wp2_with (go_at_call 104; refine (rcosts_any _ _ _).mono ?_; rintro e w' ⟨rfl, rfl⟩)
          go_loopw [11, 12, 13] (fun t n i wr => ∃ k : Nat, k ≤ h.length ∧ i = .int .i64 k ∧ n = .int .i64 ((rateN m h over under k).1 : Nat) ∧ t = .int .i64 (rateN m h over under k).2 ∧ Blk wr w.heap.size 143 #[.int .i64 m.1, .int .i64 m.2] ∧ Blk wr (w.heap.size + 1) 145 #[.int .i64 0, .int .i64 0, .int .i64 0] ∧ Below w.heap.size w wr) (fun _ _ i _ => h.length - (intOf i).toNat)
          case atStart => exact ⟨0, Nat.zero_le _, rfl, rfl, rfl, KM2.out, KS2.out, HBB2.out⟩
          case round =>
            obtain ⟨k, hk, rfl, rfl, rfl, hK, hKS, hB⟩ := hrel
            have hbd := rateN_bd hm2 HD.out k1 k2 k3 k4 k hk
            by_cases hlt : k < h.length
            · obtain ⟨b, off, rfl, hb, c0, c1⟩ := (HA.out.below hB).at2 hlt
              obtain ⟨o1, o2, o3, o4⟩ := HD.out _ (List.getElem_mem hlt)
              have hx : h.getD k (0, 0) = h[k] := by simp [hlt]
              obtain ⟨hq1, hq2⟩ := saysM_bd (day := k) hm2 HD.out
              have hst : rateN m h over under (k + 1) = if (saysM m h k).2 = true then ((rateN m h over under k).1 + 1, (rateN m h over under k).2 + lossOf h[k].1 h[k].2 (saysM m h k).1 over under) else rateN m h over under k := by rw [← hx]; rfl
              have hlb := lossOf_bd (s := h[k].1) (r := h[k].2) (q := (saysM m h k).1) (over := over) (under := under) ⟨o1, o2, o3, o4⟩ hq1 hq2 k1 k2 k3 k4
              have hsz := hB.size
              have HM := Lib.hid (rsaysM_any m (some ⟨b, off, none⟩) c h k wr h400 ((HA.out.below hB).mono hB.size) HD.out HW.out (by omega) (by omega))
              have HL := Lib.hid (fun W => rloss_any h[k].1 h[k].2 (saysM m h k).1 over under W o1 o2 o3 o4 hq1 hq2 k1 k2 k3 k4)
              have kc := hK.cell 0
              have kd := hK.cell 1
              simp at kc kd
              have HST := Lib.hid hst
              have HKN := Lib.hid hK
              have HKT := Lib.hid hKS
              have HSL := Lib.hid (HA.out.below hB)
              clear hst hK hKS hx
              have f1 := IntWalk.i64_in (((rateN m h over under k).1 : Int) + 1) (by omega)
              have f2 := IntWalk.i64_in ((rateN m h over under k).2 + lossOf h[k].1 h[k].2 (saysM m h k).1 over under) (by omega)
              cases hs2 : (saysM m h k).2
              · rw [hs2] at HM HST
                go_wp2_with fail
                refine HM.out.mono ?_
                rintro e w3 ⟨rfl, hb3⟩
                go_wp2_with fail
                go_roundw
                case rel => exact ⟨k + 1, by omega, by go_num, by rw [HST.out]; rfl, by rw [HST.out]; rfl, Blk.below HKN.out hb3 HKN.out.lt, Blk.below HKT.out hb3 HKT.out.lt, hB.trans (hb3.mono hB.size)⟩
                case measure => simp [intOf]; omega
              · rw [hs2] at HM HST
                go_wp2_with fail
                refine HM.out.mono ?_
                rintro e w3 ⟨rfl, hb3⟩
                have ke : w3.cell? ⟨b, off + k * 2, none⟩ = some (.int .i64 h[k].1) := (hb3.cell (p := ⟨b, off + k * 2, none⟩) (by show b < wr.heap.size; omega)).trans c0
                have kf : w3.cell? ⟨b, off + k * 2 + 1, none⟩ = some (.int .i64 h[k].2) := (hb3.cell (p := ⟨b, off + k * 2 + 1, none⟩) (by show b < wr.heap.size; omega)).trans c1
                have HB3 := Lib.hid hb3
                clear hb3 c0 c1
                go_wp2_with fail
                refine (HL.out _).mono ?_
                rintro e w4 ⟨rfl, hb4⟩
                have hb34 := HB3.out.trans (hb4.mono HB3.out.size)
                go_wp2_with fail
                go_roundw
                case rel => exact ⟨k + 1, by omega, by go_num, by rw [HST.out]; rfl, by rw [HST.out]; rfl, Blk.below HKN.out hb34 HKN.out.lt, Blk.below HKT.out hb34 HKT.out.lt, hB.trans (hb34.mono hB.size)⟩
                case measure => simp [intOf]; omega
            · obtain rfl : k = h.length := by omega
              have s0 := hKS.cell 0
              have s1 := hKS.cell 1
              have s2 := hKS.cell 2
              have sf0 := hKS.frozen 0
              have sf1 := hKS.frozen 1
              have sf2 := hKS.frozen 2
              simp at s0 s1 s2
              go_wp2_with fail
              have kf := (((hKS.set_ 0 (.int .i64 0)).set_ 1 (.int .i64 0)).set_ 2 (.int .i64 0))
              have z0 := kf.cell 0
              have z1 := kf.cell 1
              have z2 := kf.cell 2
              simp at z0 z1 z2
              have hbf := (((hB.setCell (p := ⟨w.heap.size + 1, 0, none⟩) (by simp) (.int .i64 0)).setCell (p := ⟨w.heap.size + 1, 1, none⟩) (by simp) (.int .i64 0)).setCell (p := ⟨w.heap.size + 1, 2, none⟩) (by simp) (.int .i64 0))
              refine bodyPost_ret (v := .tuple #[.agg #[(.int .i64 0), (.int .i64 0), (.int .i64 0)], .int .i64 4]) ?_ rfl ⟨by rw [HS.out]; rfl, hbf⟩
              simp [results, Try.results74, Try.f74, go_sem, z0, z1, z2]
        · obtain ⟨G, hG⟩ : ∃ G : Int, G = ((Nat.gcd (rateN m h over under h.length).2.toNat (rateN m h over under h.length).1 : Nat) : Int) := ⟨_, rfl⟩
          have hGp : 0 < G := by
            have := Nat.gcd_pos_of_pos_right (rateN m h over under h.length).2.toNat (show 0 < (rateN m h over under h.length).1 by omega)
            omega
          have hs : rateD m h over under = ((((rateN m h over under h.length).1 : Int), (rateN m h over under h.length).2 / G, ((rateN m h over under h.length).1 : Int) / G), 0) := by
            simp only [rateD, HCZ.out, hw, hk, hz, ratioD, hG]
            simp [Int.toNat_of_nonneg r2]
          have HS := Lib.hid hs
          have tz : (((rateN m h over under h.length).1 : Int) == 0) = false := by simp; exact hz
          have tg : (G == 0) = false := by simp; omega
          have HG := Lib.hid (show ∀ W, Calls Try.prog 115 #[.int .i64 (rateN m h over under h.length).2, .int .i64 ((rateN m h over under h.length).1 : Int)] W fun e w' => e = .returned (.int .i64 G) ∧ W = w' from fun W => by
            have h0 := gcd_any (rateN m h over under h.length).1 (rateN m h over under h.length).2.toNat W (by omega) (by omega)
            rw [Int.toNat_of_nonneg r2] at h0
            rw [hG]
            exact h0)
          have p1 := Int.ediv_nonneg r2 (show 0 ≤ G by omega)
          have p2 := Int.ediv_le_self G r2
          have p3 := Int.ediv_nonneg (show (0 : Int) ≤ ((rateN m h over under h.length).1 : Int) by omega) (show 0 ≤ G by omega)
          have p4 := Int.ediv_le_self G (show (0 : Int) ≤ ((rateN m h over under h.length).1 : Int) by omega)
          have w1' : wrap64 ((rateN m h over under h.length).2 / G) = (rateN m h over under h.length).2 / G := by unfold wrap64; omega
          have w2' : wrap64 (((rateN m h over under h.length).1 : Int) / G) = ((rateN m h over under h.length).1 : Int) / G := by unfold wrap64; omega
          clear hs hz hG
          go_enter Try.func74, Try.ntmps74
          go_wp2_with fail
          rw [← HW0.out]
          refine HC.out.mono ?_
          rintro e w1 ⟨rfl, hb1⟩
          have hbb1 := HB0.out.trans (hb1.mono HB0.out.size)
          have ks1 := Blk.below HKS.out hb1 HKS.out.lt
          have km1 := Blk.below HKM.out hb1 HKM.out.lt
          have m0 := km1.cell 0
          have m1 := km1.cell 1
          have mf0 := km1.frozen 0
          have mf1 := km1.frozen 1
          simp at m0 m1
          have KS1 := Lib.hid ks1
          have KM1 := Lib.hid km1
          clear ks1 km1 hb1
          go_wp2_with fail
          refine (rwrongM_any m w1).mono ?_
          rintro e w2 ⟨rfl, hb2⟩
          have hbb2 := hbb1.trans (hb2.mono hbb1.size)
          have ks2 := Blk.below KS1.out hb2 KS1.out.lt
          have km2 := Blk.below KM1.out hb2 KM1.out.lt
          clear m0 m1 mf0 mf1
          have KS2 := Lib.hid ks2
          have KM2 := Lib.hid km2
          have HBB2 := Lib.hid hbb2
          clear ks2 km2 hb2
          go_wp2_with (go_at_call 104; refine (rcosts_any _ _ _).mono ?_; rintro e w' ⟨rfl, rfl⟩)
          go_loopw [11, 12, 13] (fun t n i wr => ∃ k : Nat, k ≤ h.length ∧ i = .int .i64 k ∧ n = .int .i64 ((rateN m h over under k).1 : Nat) ∧ t = .int .i64 (rateN m h over under k).2 ∧ Blk wr w.heap.size 143 #[.int .i64 m.1, .int .i64 m.2] ∧ Blk wr (w.heap.size + 1) 145 #[.int .i64 0, .int .i64 0, .int .i64 0] ∧ Below w.heap.size w wr) (fun _ _ i _ => h.length - (intOf i).toNat)
          case atStart => exact ⟨0, Nat.zero_le _, rfl, rfl, rfl, KM2.out, KS2.out, HBB2.out⟩
          case round =>
            obtain ⟨k, hk, rfl, rfl, rfl, hK, hKS, hB⟩ := hrel
            have hbd := rateN_bd hm2 HD.out k1 k2 k3 k4 k hk
            by_cases hlt : k < h.length
            · obtain ⟨b, off, rfl, hb, c0, c1⟩ := (HA.out.below hB).at2 hlt
              obtain ⟨o1, o2, o3, o4⟩ := HD.out _ (List.getElem_mem hlt)
              have hx : h.getD k (0, 0) = h[k] := by simp [hlt]
              obtain ⟨hq1, hq2⟩ := saysM_bd (day := k) hm2 HD.out
              have hst : rateN m h over under (k + 1) = if (saysM m h k).2 = true then ((rateN m h over under k).1 + 1, (rateN m h over under k).2 + lossOf h[k].1 h[k].2 (saysM m h k).1 over under) else rateN m h over under k := by rw [← hx]; rfl
              have hlb := lossOf_bd (s := h[k].1) (r := h[k].2) (q := (saysM m h k).1) (over := over) (under := under) ⟨o1, o2, o3, o4⟩ hq1 hq2 k1 k2 k3 k4
              have hsz := hB.size
              have HM := Lib.hid (rsaysM_any m (some ⟨b, off, none⟩) c h k wr h400 ((HA.out.below hB).mono hB.size) HD.out HW.out (by omega) (by omega))
              have HL := Lib.hid (fun W => rloss_any h[k].1 h[k].2 (saysM m h k).1 over under W o1 o2 o3 o4 hq1 hq2 k1 k2 k3 k4)
              have kc := hK.cell 0
              have kd := hK.cell 1
              simp at kc kd
              have HST := Lib.hid hst
              have HKN := Lib.hid hK
              have HKT := Lib.hid hKS
              have HSL := Lib.hid (HA.out.below hB)
              clear hst hK hKS hx
              have f1 := IntWalk.i64_in (((rateN m h over under k).1 : Int) + 1) (by omega)
              have f2 := IntWalk.i64_in ((rateN m h over under k).2 + lossOf h[k].1 h[k].2 (saysM m h k).1 over under) (by omega)
              cases hs2 : (saysM m h k).2
              · rw [hs2] at HM HST
                go_wp2_with fail
                refine HM.out.mono ?_
                rintro e w3 ⟨rfl, hb3⟩
                go_wp2_with fail
                go_roundw
                case rel => exact ⟨k + 1, by omega, by go_num, by rw [HST.out]; rfl, by rw [HST.out]; rfl, Blk.below HKN.out hb3 HKN.out.lt, Blk.below HKT.out hb3 HKT.out.lt, hB.trans (hb3.mono hB.size)⟩
                case measure => simp [intOf]; omega
              · rw [hs2] at HM HST
                go_wp2_with fail
                refine HM.out.mono ?_
                rintro e w3 ⟨rfl, hb3⟩
                have ke : w3.cell? ⟨b, off + k * 2, none⟩ = some (.int .i64 h[k].1) := (hb3.cell (p := ⟨b, off + k * 2, none⟩) (by show b < wr.heap.size; omega)).trans c0
                have kf : w3.cell? ⟨b, off + k * 2 + 1, none⟩ = some (.int .i64 h[k].2) := (hb3.cell (p := ⟨b, off + k * 2 + 1, none⟩) (by show b < wr.heap.size; omega)).trans c1
                have HB3 := Lib.hid hb3
                clear hb3 c0 c1
                go_wp2_with fail
                refine (HL.out _).mono ?_
                rintro e w4 ⟨rfl, hb4⟩
                have hb34 := HB3.out.trans (hb4.mono HB3.out.size)
                go_wp2_with fail
                go_roundw
                case rel => exact ⟨k + 1, by omega, by go_num, by rw [HST.out]; rfl, by rw [HST.out]; rfl, Blk.below HKN.out hb34 HKN.out.lt, Blk.below HKT.out hb34 HKT.out.lt, hB.trans (hb34.mono hB.size)⟩
                case measure => simp [intOf]; omega
            · obtain rfl : k = h.length := by omega
              have HKT := Lib.hid hKS
              clear hKS
              go_wp2_with fail
              refine (HG.out wr).mono ?_
              rintro e w4 ⟨rfl, rfl⟩
              have hKS := HKT.out
              have s0 := hKS.cell 0
              have s1 := hKS.cell 1
              have s2 := hKS.cell 2
              have sf0 := hKS.frozen 0
              have sf1 := hKS.frozen 1
              have sf2 := hKS.frozen 2
              simp at s0 s1 s2
              go_wp2_with fail
              go_region
              all_goals go_wp2_with fail
              all_goals
                have kf := (((hKS.set_ 0 (.int .i64 ((rateN m h over under h.length).1 : Nat))).set_ 1 (.int .i64 ((rateN m h over under h.length).2 / G))).set_ 2 (.int .i64 (((rateN m h over under h.length).1 : Int) / G))).drew
                have z0 := kf.cell 0
                have z1 := kf.cell 1
                have z2 := kf.cell 2
                simp at z0 z1 z2
                have hbf := (((hB.setCell (p := ⟨w.heap.size + 1, 0, none⟩) (by simp) (.int .i64 ((rateN m h over under h.length).1 : Nat))).setCell (p := ⟨w.heap.size + 1, 1, none⟩) (by simp) (.int .i64 ((rateN m h over under h.length).2 / G))).setCell (p := ⟨w.heap.size + 1, 2, none⟩) (by simp) (.int .i64 (((rateN m h over under h.length).1 : Int) / G))).drew
                refine bodyPost_ret (v := .tuple #[.agg #[(.int .i64 ((rateN m h over under h.length).1 : Nat)), (.int .i64 ((rateN m h over under h.length).2 / G)), (.int .i64 (((rateN m h over under h.length).1 : Int) / G))], .int .i64 0]) ?_ rfl ⟨by rw [HS.out]; rfl, hbf⟩
                simp [results, Try.results74, Try.f74, go_sem, z0, z1, z2]
    · have hs : rateD m h over under = ((0, 0, 0), 1) := by simp [rateD, HCZ.out, hw]
      have HS := Lib.hid hs
      clear hs
      go_enter Try.func74, Try.ntmps74
      go_wp2_with fail
      rw [← HW0.out]
      refine HC.out.mono ?_
      rintro e w1 ⟨rfl, hb1⟩
      have hbb1 := HB0.out.trans (hb1.mono HB0.out.size)
      have ks1 := Blk.below HKS.out hb1 HKS.out.lt
      have km1 := Blk.below HKM.out hb1 HKM.out.lt
      have m0 := km1.cell 0
      have m1 := km1.cell 1
      have mf0 := km1.frozen 0
      have mf1 := km1.frozen 1
      simp at m0 m1
      have KS1 := Lib.hid ks1
      have KM1 := Lib.hid km1
      clear ks1 km1 hb1
      go_wp2_with fail
      refine (rwrongM_any m w1).mono ?_
      rintro e w2 ⟨rfl, hb2⟩
      have hbb2 := hbb1.trans (hb2.mono hbb1.size)
      have ks2 := Blk.below KS1.out hb2 KS1.out.lt
      have km2 := Blk.below KM1.out hb2 KM1.out.lt
      have s0 := ks2.cell 0
      have s1 := ks2.cell 1
      have s2 := ks2.cell 2
      have sf0 := ks2.frozen 0
      have sf1 := ks2.frozen 1
      have sf2 := ks2.frozen 2
      simp at s0 s1 s2
      clear m0 m1 mf0 mf1
      go_wp2_with fail
      have kf := (((ks2.set_ 0 (.int .i64 0)).set_ 1 (.int .i64 0)).set_ 2 (.int .i64 0))
      have z0 := kf.cell 0
      have z1 := kf.cell 1
      have z2 := kf.cell 2
      simp at z0 z1 z2
      have hbf := (((hbb2.setCell (p := ⟨w.heap.size + 1, 0, none⟩) (by simp) (.int .i64 0)).setCell (p := ⟨w.heap.size + 1, 1, none⟩) (by simp) (.int .i64 0)).setCell (p := ⟨w.heap.size + 1, 2, none⟩) (by simp) (.int .i64 0))
      refine bodyPost_ret (v := .tuple #[.agg #[(.int .i64 0), (.int .i64 0), (.int .i64 0)], .int .i64 1]) ?_ rfl ⟨by rw [HS.out]; rfl, hbf⟩
      simp [results, Try.results74, Try.f74, go_sem, z0, z1, z2]
  · have ht : (checkH h == 0) = false := by simpa using hc
    have hs : rateD m h over under = ((0, 0, 0), checkH h) := by simp [rateD, hc]
    have HS := Lib.hid hs
    clear hs hc hw0
    go_enter Try.func74, Try.ntmps74
    go_wp2_with fail
    rw [← HW0.out]
    refine HC.out.mono ?_
    rintro e w1 ⟨rfl, hb1⟩
    have hbb1 := HB0.out.trans (hb1.mono HB0.out.size)
    have ks1 := Blk.below HKS.out hb1 HKS.out.lt
    have km1 := Blk.below HKM.out hb1 HKM.out.lt
    have s0 := ks1.cell 0
    have s1 := ks1.cell 1
    have s2 := ks1.cell 2
    have sf0 := ks1.frozen 0
    have sf1 := ks1.frozen 1
    have sf2 := ks1.frozen 2
    simp at s0 s1 s2
    go_wp2_with fail
    have kf := (((ks1.set_ 0 (.int .i64 0)).set_ 1 (.int .i64 0)).set_ 2 (.int .i64 0))
    have z0 := kf.cell 0
    have z1 := kf.cell 1
    have z2 := kf.cell 2
    simp at z0 z1 z2
    have hbf := (((hbb1.setCell (p := ⟨w.heap.size + 1, 0, none⟩) (by simp) (.int .i64 0)).setCell (p := ⟨w.heap.size + 1, 1, none⟩) (by simp) (.int .i64 0)).setCell (p := ⟨w.heap.size + 1, 2, none⟩) (by simp) (.int .i64 0))
    refine bodyPost_ret (v := .tuple #[.agg #[(.int .i64 0), (.int .i64 0), (.int .i64 0)], .int .i64 (checkH h)]) ?_ rfl ⟨by rw [HS.out]; rfl, hbf⟩
    simp [results, Try.results74, Try.f74, go_sem, z0, z1, z2]
end Go.Proofs.Ytgopdfbmddkpfaa
