/- Contracts of the reference's Which; conditions: a title in memory. Printed by a program. -/
import Derived.Test.YtokdleanpkkdpaaUB
import Derived.Test.YtokdleanpkkdpaaSpecR
set_option linter.unusedSimpArgs false
set_option linter.unusedVariables false
namespace Go.Proofs.Ytokdleanpkkdpaa
open Go.RowKit Go.Fh Go.Ed
set_option maxRecDepth 20000 in
set_option maxHeartbeats 4000000 in
theorem rWhich_bad (t : TitD) (x : TA) (zs : List ZonM) (w : World) (hs : Sizes t) (hT : TitAt w w.heap.size t x zs) (A : Option Addr) (c : Nat) (l : List Int) (copy : Int) (hc : checkT t ≠ 0) :
    Calls Try.prog 59 #[.agg (titV t x), .slice A l.length c, .int .i64 copy] w fun e w' => e = .returned (.tuple #[.int .i64 0, .int .i64 0, .int .i64 (checkT t)]) ∧ Below w.heap.size w w' := by
  obtain ⟨w1, gT, HW1, HGT, HB1, HTB⟩ := tit_box t x zs w hT
  obtain ⟨hT1, r0, r1, r2, r3, r4, r5, r6, r7⟩ := HTB.out w1 (Below.refl _ _)
  have HCK := Lib.hid (rParts_bad t x zs w1 hs hT1 A c l hc)
  obtain ⟨ck, hck⟩ : ∃ c, c = checkT t := ⟨_, rfl⟩
  rw [← hck] at HCK hc ⊢
  have ht : (ck == 0) = false := by simpa using hc
  clear hT hT1 hs hc hck
  unfold titV at *
  go_enter Try.func59, Try.ntmps59
  go_upto_region 1 with fail
  rw [← HW1.out, ← HGT.out]
  go_wp2_with (go_at_call 56; refine HCK.out.mono ?_; rintro e w2 ⟨rfl, hb2⟩; have HB2 := Lib.hid hb2; clear hb2)
  go_ret3
  exact ⟨rfl, HB1.out.trans (HB2.out.mono HB1.out.size)⟩
set_option maxRecDepth 20000 in
set_option maxHeartbeats 4000000 in
theorem rWhich_arg (t : TitD) (x : TA) (zs : List ZonM) (w : World) (hs : Sizes t) (hT : TitAt w w.heap.size t x zs) (A : Option Addr) (c : Nat) (l : List Int) (copy : Int) (hl : l.length ≤ 1000000000) (hA : Sl encInt 1 w w.heap.size A l) (hc : checkT t = 0) (ho : ordersB (edsR t).length l = false) :
    Calls Try.prog 59 #[.agg (titV t x), .slice A l.length c, .int .i64 copy] w fun e w' => e = .returned (.tuple #[.int .i64 0, .int .i64 0, .int .i64 1]) ∧ Below w.heap.size w w' := by
  obtain ⟨w1, gT, HW1, HGT, HB1, HTB⟩ := tit_box t x zs w hT
  obtain ⟨hT1, r0, r1, r2, r3, r4, r5, r6, r7⟩ := HTB.out w1 (Below.refl _ _)
  have HCK := Lib.hid (rParts_arg t x zs w1 hs hT1 A c l hl ((hA.below HB1.out).mono HB1.out.size) hc ho)
  clear hT hT1 hs hc hA ho
  unfold titV at *
  go_enter Try.func59, Try.ntmps59
  go_upto_region 1 with fail
  rw [← HW1.out, ← HGT.out]
  go_wp2_with (go_at_call 56; refine HCK.out.mono ?_; rintro e w2 ⟨rfl, hb2⟩; have HB2 := Lib.hid hb2; clear hb2)
  go_ret3
  exact ⟨rfl, HB1.out.trans (HB2.out.mono HB1.out.size)⟩
set_option maxRecDepth 20000 in
set_option maxHeartbeats 4000000 in
theorem rWhich_ok (t : TitD) (x : TA) (zs : List ZonM) (w : World) (hs : Sizes t) (hT : TitAt w w.heap.size t x zs) (A : Option Addr) (c : Nat) (o : List Nat) (copy : Int) (hA : Sl encInt 1 w w.heap.size A (o.map fun (e : Nat) => (e : Int))) (hc : checkT t = 0) (ho : ordersB (edsR t).length (o.map fun (e : Nat) => (e : Int)) = true) :
    Calls Try.prog 59 #[.agg (titV t x), .slice A o.length c, .int .i64 copy] w fun e w' => e = .returned (.tuple #[.int .i64 (whichE t (edsR t) o copy).1, .int .i64 (whichE t (edsR t) o copy).2.1, .int .i64 (whichE t (edsR t) o copy).2.2]) ∧ Below w.heap.size w w' := by
  obtain ⟨w1, gT, HW1, HGT, HB1, HTB⟩ := tit_box t x zs w hT
  obtain ⟨hT1, r0, r1, r2, r3, r4, r5, r6, r7⟩ := HTB.out w1 (Below.refl _ _)
  have h7 := eds_le hc
  obtain ⟨N, hN⟩ : ∃ n, n = (edsR t).length := ⟨_, rfl⟩
  obtain ⟨pl, hpl⟩ : ∃ l, l = partsL t (edsR t) o := ⟨_, rfl⟩
  obtain ⟨m, hm⟩ : ∃ n, n = pl.length := ⟨_, rfl⟩
  have HNN := Lib.hid hN
  have HPL := Lib.hid hpl
  have HMM := Lib.hid hm
  have HC := Lib.hid (chk_ok hc)
  have HS := Lib.hid hs
  have HCK := Lib.hid (show Calls Try.prog 56 #[.agg (titV t x), .slice A o.length c] w1 fun e w' => ∃ A' c', e = .returned (.tuple #[.slice A' m c', .int .i64 0]) ∧ Sl enc3 3 w' w'.heap.size A' pl ∧ Below w1.heap.size w1 w' from (rParts_ok t x zs w1 hs hT1 A c o ((hA.below HB1.out).mono HB1.out.size) hc ho).mono (by
    rintro e w' ⟨A', c', rfl, hw, hb⟩
    rw [hm, hpl]
    exact ⟨A', c', rfl, Sl.of_own (enc := enc3) (fun _ => rfl) hw, hb⟩))
  have HRE := Lib.hid (show ∀ W, Below w1.heap.size w1 W → Calls Try.prog 96 #[.agg (titV t x)] W fun e w' => ∃ (A : Option Addr) (c : Nat) (es : List EdM), e = .returned (.slice A N c) ∧ N = es.length ∧ RefAt w' W.heap.size t A c es ∧ Below W.heap.size W w' from fun W hb => (reds_any t x zs W hs (HTB.out W hb).1 (chk_ok hc).rgt).mono (by
    rintro e w' ⟨A, c, es, rfl, hr, hb⟩
    exact ⟨A, c, es, by rw [hr.len, hN], by rw [hr.len, hN], hr, hb⟩))
  have hml : m ≤ 1000 := by
    have h1 : (partsL t (edsR t) o).length = (zoneL (edsR t) o).length := partsGo_len _ _ _
    have h2 := (zoneL_len (chk_ok hc) o (ord_lt ho)).1
    have h3 := ord_len ho
    rw [hm, hpl, h1]
    omega
  have HWH := Lib.hid (show whichE t (edsR t) o copy = match pl.find? (fun p => inB copy p.2.1 p.2.2) with
    | some p => (p.1, findI (fun e => e.zones.any fun z => p.1 == z) (edsR t), 0)
    | none => (0, 0, 6) by rw [hpl]; rfl)
  have hN7 : N ≤ 7 := by rw [hN]; exact h7.2
  clear hT hT1 hs hc hA ho hN h7 hpl hm
  unfold titV at *
  go_enter Try.func59, Try.ntmps59
  go_upto_region 1 with fail
  rw [← HW1.out, ← HGT.out]
  go_upto_region 2 with (go_at_call 56; refine HCK.out.mono ?_; rintro e w2 ⟨A2, c2, rfl, hp2, hb2⟩; have HB2 := Lib.hid hb2; have HP2 := Lib.hid hp2; clear hb2 hp2; clear r0 r1 r2 r3 r4 r5 r6 r7; obtain ⟨-, r0, r1, r2, r3, r4, r5, r6, r7⟩ := HTB.out _ HB2.out)
  go_wp2_with fail
  go_loopw [11] (fun i wr => ∃ q : Nat, q ≤ m ∧ i = .int .i64 q ∧ Hid (∀ p ∈ pl.take q, inB copy p.2.1 p.2.2 = false) ∧ Hid (Below w2.heap.size w2 wr)) (fun i _ => m - (intOf i).toNat)
  case atStart => exact ⟨0, Nat.zero_le _, rfl, by simp [Hid], Below.refl _ _⟩
  case round =>
    obtain ⟨q, hq, rfl, HN, HBQ⟩ := hrel
    by_cases hlt : q < m
    · have hlp : q < pl.length := by rw [← HMM.out]; exact hlt
      obtain ⟨b, off, hoa, hb, c0, c1, c2⟩ := HP2.out.at3 hlp
      subst hoa
      have HPZ := Lib.hid (part_zone t (o := o) (p := pl[q]) (by rw [← HPL.out]; exact List.getElem_mem hlp))
      have hfd := fun h1 => find_take (p := fun p : Int × Int × Int => inB copy p.2.1 p.2.2) hlp HN.out h1
      obtain ⟨⟨pz, lo, hi⟩, hp⟩ : ∃ p, p = pl[q] := ⟨_, rfl⟩
      rw [← hp] at c0 c1 c2 HPZ hfd
      dsimp only at c0 c1 c2 HPZ hfd
      have HTK := Lib.hid (show pl.take (q + 1) = pl.take q ++ [(pz, lo, hi)] by rw [List.take_succ_eq_append_getElem hlp, ← hp])
      have i0 : (0 : Int) ≤ (q : Int) := by omega
      have i1 : (q : Int) < (m : Int) := by omega
      have HPC3 := Lib.hid (show ∀ W, Below w2.heap.size w2 W → W.cell? ⟨b, off + q * 3, none⟩ = some (.int .i64 pz) ∧ W.cell? ⟨b, off + q * 3 + 1, none⟩ = some (.int .i64 lo) ∧ W.cell? ⟨b, off + q * 3 + 2, none⟩ = some (.int .i64 hi) from fun W hw => ⟨(hw.cell (p := ⟨b, off + q * 3, none⟩) hb).trans c0, (hw.cell (p := ⟨b, off + q * 3 + 1, none⟩) hb).trans c1, (hw.cell (p := ⟨b, off + q * 3 + 2, none⟩) hb).trans c2⟩)
      have HPC := Lib.hid (fun W (hw : Below w2.heap.size w2 W) => (HPC3.out W hw).1)
      clear c0 c1 c2
      obtain ⟨c0, c1, c2⟩ := HPC3.out _ HBQ.out
      have HB2r := Lib.hid (HB2.out.trans (HBQ.out.mono HB2.out.size))
      clear r0 r1 r2 r3 r4 r5 r6 r7
      obtain ⟨-, r0, r1, r2, r3, r4, r5, r6, r7⟩ := HTB.out _ HB2r.out
      cases hin : inB copy lo hi
      · skip
        have HIN := Lib.hid hin
        have HC9 := Lib.hid (show ∀ W, Calls Try.prog 94 #[.int .i64 copy, .int .i64 lo, .int .i64 hi] W fun e w' => e = .returned (.bool false) ∧ w' = W from fun W => by have := rin_any copy lo hi W; rw [hin] at this; exact this.mono fun e w' h => ⟨h.1, h.2.symm⟩)
        clear hin hp hfd
        go_upto_region 7 with fail
        go_quiet ((go_at_call 94; exact Calls.quiet_of_same (HC9.out _)))
        go_wp2_with fail
        go_roundw
        case rel =>
          refine ⟨q + 1, by omega, by go_num, Lib.hid fun y hy => ?_, Lib.hid (below_drewN HBQ.out _)⟩
          rw [HTK.out, List.mem_append] at hy
          rcases hy with hy | hy
          · exact HN.out y hy
          · simp at hy; subst hy; exact HIN.out
        case measure => simp [intOf]; omega
      · skip
        have hfd := hfd hin
        have hwv := HWH.out
        rw [hfd] at hwv
        dsimp only at hwv
        have HWV := Lib.hid hwv
        have HC9 := Lib.hid (show ∀ W, Calls Try.prog 94 #[.int .i64 copy, .int .i64 lo, .int .i64 hi] W fun e w' => e = .returned (.bool true) ∧ w' = W from fun W => by have := rin_any copy lo hi W; rw [hin] at this; exact this.mono fun e w' h => ⟨h.1, h.2.symm⟩)
        obtain ⟨ke, hke, -, hkv, hz0, hz1⟩ := zone_ed t HPZ.out
        obtain ⟨zn, rfl⟩ : ∃ n : Nat, pz = (n : Int) := ⟨pz.toNat, by omega⟩
        have HTW := (HTB.out _ HB2.out).1
        have hzn : zn < zs.length := by rw [HTW.zlen]; omega
        obtain ⟨tb, to_, htz, htb, g0, g1, g2⟩ := Sl.atZon (HTW.cZ) hzn
        have hzv : (t.zones.getD ((zn : Int)).toNat zon0).variants = zs[zn].1.variants := by
          rw [Int.toNat_natCast]; unfold zon0; rw [HTW.zget hzn]
        have hzl : zs[zn].1.variants.length ≤ 1000000000 := HS.out.s5 _ (by rw [← HTW.zeq]; exact List.mem_map.2 ⟨_, List.getElem_mem hzn, rfl⟩)
        have HZL := Lib.hid (show ∀ W, Below w1.heap.size w1 W → Sl encInt 1 W W.heap.size zs[zn].2.1 zs[zn].1.variants from fun W hw => (HTB.out W hw).1.cV zn hzn)
        obtain ⟨zv, hzv0⟩ : ∃ v, v = zs[zn].1.variants := ⟨_, rfl⟩
        rw [← hzv0] at g2 hzv hzl HZL
        generalize zs[zn].2.1 = zA at *
        generalize zs[zn].2.2 = zc at *
        have HG2 := Lib.hid (show ∀ W, Below w2.heap.size w2 W → W.cell? ⟨tb, to_ + zn * 3 + 2, none⟩ = some (.slice zA zv.length zc) from fun W hw => (hw.cell (p := ⟨tb, to_ + zn * 3 + 2, none⟩) htb).trans g2)
        have HTZ := Lib.hid htz
        have HKE := Lib.hid (show ∃ h : ke < (edsR t).length, (edsR t)[ke].variants = (t.zones.getD ((zn : Int)).toNat zon0).variants from ⟨hke, hkv⟩)
        have HZV := Lib.hid hzv
        have k0 : (0 : Int) ≤ (zn : Int) := by omega
        have k1 : (zn : Int) < (t.zones.length : Int) := hz1
        clear hin hp hfd hwv hke hkv htz hzv hzv0 g0 g1 g2 HTW
        go_upto_region 7 with fail
        go_quiet ((go_at_call 94; exact Calls.quiet_of_same (HC9.out _)))
        go_wp2_with (go_at_call 96; refine (HRE.out _ (below_drewN HB2r.out _)).mono ?_; rintro e w3 ⟨A3, c3, es, rfl, hn, hr3, hb3⟩; have HB23 := Lib.hid ((below_drewN HBQ.out _).trans (hb3.mono HBQ.out.size)); have HB3 := Lib.hid (HB2.out.trans (HB23.out.mono HB2.out.size)); have HR := Lib.hid hr3; have HNE := Lib.hid hn; clear hb3 hr3 hn; clear c0 c1 c2 r0 r1 r2 r3 r4 r5 r6 r7)
        have HEV := Lib.hid (show ∀ j (h : j < N) (h2 : j < es.length), ((edsR t)[j]'(by rw [← HNN.out]; exact h)).variants = es[j].1.variants from fun j h h2 => by
          have h3 : (es.map (·.1))[j]'(by simpa using h2) = es[j].1 := by simp
          rw [← h3]
          simp only [HR.out.eds])
        go_loopw [13] (fun i wr => ∃ k : Nat, k ≤ N ∧ i = .int .i64 k ∧ Hid (∀ j (h : j < es.length), j < k → es[j].1.variants ≠ zv) ∧ Hid (Below w3.heap.size w3 wr)) (fun i _ => N - (intOf i).toNat)
        case atStart => exact ⟨0, Nat.zero_le _, rfl, Lib.hid fun j _ hj => absurd hj (by omega), Below.refl _ _⟩
        case round =>
          obtain ⟨k, hk, rfl, HK, HB⟩ := hrel
          by_cases hlk : k < N
          · have hek : k < es.length := by rw [← HNE.out]; exact hlk
            obtain ⟨-, -, -, y2, -, -, -, -, -⟩ := HTB.out _ (HB3.out.trans (HB.out.mono HB3.out.size))
            rw [HTZ.out] at y2
            have c0 := HPC.out _ (HB23.out.trans (HB.out.mono HB23.out.size))
            have g2 := HG2.out _ (HB23.out.trans (HB.out.mono HB23.out.size))
            obtain ⟨eb', eo, hka, heb, d0, d1, d2, d3, d4⟩ := Sl.atEd (HR.out.below HB.out).hE hek
            subst hka
            have hvl : es[k].1.variants.length ≤ 1000000000 := by
              have h1 := (edsR_zn HC.out (show es[k].1 ∈ edsR t by rw [← HR.out.eds]; exact List.mem_map.2 ⟨_, List.getElem_mem hek, rfl⟩)).2.1
              have h2 := HC.out.ok.c1
              omega
            have hHV := fun W (hw : Below w3.heap.size w3 W) => (HR.out.below hw).hV k hek
            have HVE := Lib.hid (HEV.out k hlk hek)
            have HKK := Lib.hid (show ∀ j (h : j < es.length), j < k → es[j].1.variants ≠ zv from HK.out)
            obtain ⟨ev, hev⟩ : ∃ v, v = es[k].1.variants := ⟨_, rfl⟩
            have HEVV := Lib.hid hev
            rw [← hev] at d4 hvl hHV HVE
            generalize es[k].2.v = eA at *
            generalize es[k].2.cv = ec at *
            have j0 : (0 : Int) ≤ (k : Int) := by omega
            have j1 : (k : Int) < (N : Int) := by omega
            obtain ⟨bb, hbb⟩ : ∃ b, b = decide (ev = zv) := ⟨_, rfl⟩
            have HSI := Lib.hid (show ∀ W, Below wr.heap.size wr W → Calls Try.prog 106 #[.slice eA ev.length ec, .slice zA zv.length zc] W fun e w' => e = .returned (.bool bb) ∧ Below W.heap.size W w' from fun W hw => by
              have hw3 := HB.out.trans (hw.mono HB.out.size)
              rw [hbb]
              exact sameInts_any eA zA ec zc ev zv W hvl hzl (hHV W hw3) (HZL.out W (HB3.out.trans (hw3.mono HB3.out.size))))
            have HBB := Lib.hid hbb
            obtain ⟨wq, hwq⟩ : ∃ W, W = wr := ⟨_, rfl⟩
            rw [← hwq] at HB HSI y2 c0 g2 d4 ⊢
            clear hev hHV hbb d0 d1 d2 d3 hwq
            cases bb
            · skip
              go_upto_region 12 with fail
              go_region_law (go_simp; go_at_call 106; refine (HSI.out _ (by repeat (first | exact Below.refl _ _ | refine Below.drew ?_))).mono ?_; rintro e w5 ⟨rfl, hb5⟩; have HB5 := Lib.hid (Below.trans (show Below wq.heap.size wq _ from by repeat (first | exact Below.refl _ _ | refine Below.drew ?_)) hb5); clear hb5; go_wp2_with fail)
              all_goals
                go_wp2_with fail
                go_roundw
                case rel =>
                  refine ⟨k + 1, by omega, by go_num, Lib.hid fun j h hj => ?_, Lib.hid (HB.out.trans (HB5.out.mono HB.out.size))⟩
                  by_cases e : j = k
                  · subst e
                    rw [← HEVV.out]
                    simpa using HBB.out.symm
                  · exact HK.out j h (by omega)
                case measure => simp [intOf]; omega
            · skip
              have hfk := zone_find t HPZ.out (k := k) (by rw [← HNN.out]; exact hlk) (fun j hj => by
                have hj2 : j < N := by omega
                rw [HEV.out j hj2 (by rw [← HNE.out]; exact hj2), HZV.out]
                exact HK.out j _ hj) (by rw [HVE.out, HZV.out]; simpa using HBB.out.symm)
              have HFK := Lib.hid hfk
              have HPCq := Lib.hid (show ∀ W, Below wq.heap.size wq W → W.cell? ⟨b, off + q * 3, none⟩ = some (.int .i64 (zn : Int)) from fun W hw => HPC.out W (HB23.out.trans ((HB.out.trans (hw.mono HB.out.size)).mono HB23.out.size)))
              clear hfk
              go_upto_region 12 with fail
              go_region_law (go_simp; go_at_call 106; refine (HSI.out _ (by repeat (first | exact Below.refl _ _ | refine Below.drew ?_))).mono ?_; rintro e w5 ⟨rfl, hb5⟩; have HB5 := Lib.hid (Below.trans (show Below wq.heap.size wq _ from by repeat (first | exact Below.refl _ _ | refine Below.drew ?_)) hb5); have x0 := HPCq.out _ HB5.out; clear hb5; go_wp2_with fail)
              all_goals
                go_wp2_with fail
                go_ret3
                refine ⟨?_, HB1.out.trans ((HB3.out.trans ((HB.out.trans (HB5.out.mono HB.out.size)).mono HB3.out.size)).mono HB1.out.size)⟩
                rw [HWV.out, HFK.out]
                rfl
          · exfalso
            obtain ⟨hke, hkv⟩ := HKE.out
            have hk2 : ke < N := by rw [HNN.out]; exact hke
            have hk3 : ke < es.length := by rw [← HNE.out]; exact hk2
            refine HK.out ke hk3 (by omega) ?_
            rw [← HEV.out ke hk2 hk3, hkv, HZV.out]
    · skip
      obtain rfl : q = m := by omega
      have hnone : pl.find? (fun p => inB copy p.2.1 p.2.2) = none := by
        rw [List.find?_eq_none]
        intro y hy
        have := HN.out y (by rw [List.take_of_length_le (by have := HMM.out; omega)]; exact hy)
        simp [this]
      have hwv := HWH.out
      rw [hnone] at hwv
      have HWV := Lib.hid hwv
      clear hnone hwv
      go_wp2_with fail
      go_ret3
      exact ⟨by rw [HWV.out]; rfl, HB1.out.trans ((HB2.out.trans (HBQ.out.mono HB2.out.size)).mono HB1.out.size)⟩
end Go.Proofs.Ytokdleanpkkdpaa
