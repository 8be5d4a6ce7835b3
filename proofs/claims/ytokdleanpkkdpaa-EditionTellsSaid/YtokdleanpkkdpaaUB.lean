/- Contracts of the reference's Parts; conditions: a title in memory. Printed by a program. -/
import Derived.Test.YtokdleanpkkdpaaU8
import Derived.Test.YtokdleanpkkdpaaE3
set_option linter.unusedSimpArgs false
set_option linter.unusedVariables false
namespace Go.Proofs.Ytokdleanpkkdpaa
open Go.RowKit Go.Fh Go.Ed
set_option maxRecDepth 20000 in
set_option maxHeartbeats 4000000 in
theorem rParts_bad (t : TitD) (x : TA) (zs : List ZonM) (w : World) (hs : Sizes t) (hT : TitAt w w.heap.size t x zs) (A : Option Addr) (c : Nat) (l : List Int) (hc : checkT t ≠ 0) :
    Calls Try.prog 56 #[.agg (titV t x), .slice A l.length c] w fun e w' => e = .returned (.tuple #[.slice none 0 0, .int .i64 (checkT t)]) ∧ Below w.heap.size w w' := by
  obtain ⟨w1, gT, HW1, HGT, HB1, HTB⟩ := tit_box t x zs w hT
  obtain ⟨hT1, r0, r1, r2, r3, r4, r5, r6, r7⟩ := HTB.out w1 (Below.refl _ _)
  have HCK := Lib.hid (rSlots_bad t x zs w1 hs hT1 A c l hc)
  obtain ⟨ck, hck⟩ : ∃ c, c = checkT t := ⟨_, rfl⟩
  rw [← hck] at HCK hc ⊢
  have ht : (ck == 0) = false := by simpa using hc
  clear hT hT1 hs hc hck
  unfold titV at *
  go_enter Try.func56, Try.ntmps56
  go_upto_region 1 with fail
  rw [← HW1.out, ← HGT.out]
  go_wp2_with (go_at_call 48; refine HCK.out.mono ?_; rintro e w2 ⟨rfl, hb2⟩; have HB2 := Lib.hid hb2; clear hb2)
  go_ret2
  exact ⟨rfl, HB1.out.trans (HB2.out.mono HB1.out.size)⟩
set_option maxRecDepth 20000 in
set_option maxHeartbeats 4000000 in
theorem rParts_arg (t : TitD) (x : TA) (zs : List ZonM) (w : World) (hs : Sizes t) (hT : TitAt w w.heap.size t x zs) (A : Option Addr) (c : Nat) (l : List Int) (hl : l.length ≤ 1000000000) (hA : Sl encInt 1 w w.heap.size A l) (hc : checkT t = 0) (ho : ordersB (edsR t).length l = false) :
    Calls Try.prog 56 #[.agg (titV t x), .slice A l.length c] w fun e w' => e = .returned (.tuple #[.slice none 0 0, .int .i64 1]) ∧ Below w.heap.size w w' := by
  obtain ⟨w1, gT, HW1, HGT, HB1, HTB⟩ := tit_box t x zs w hT
  obtain ⟨hT1, r0, r1, r2, r3, r4, r5, r6, r7⟩ := HTB.out w1 (Below.refl _ _)
  have HCK := Lib.hid (rSlots_arg t x zs w1 hs hT1 A c l hl ((hA.below HB1.out).mono HB1.out.size) hc ho)
  clear hT hT1 hs hc hA ho
  unfold titV at *
  go_enter Try.func56, Try.ntmps56
  go_upto_region 1 with fail
  rw [← HW1.out, ← HGT.out]
  go_wp2_with (go_at_call 48; refine HCK.out.mono ?_; rintro e w2 ⟨rfl, hb2⟩; have HB2 := Lib.hid hb2; clear hb2)
  go_ret2
  exact ⟨rfl, HB1.out.trans (HB2.out.mono HB1.out.size)⟩
theorem infoRpart : (Try.prog.info? 117).map (fun i => (i.zero, i.size, i.bytes)) = some (some (.agg #[.int .i64 0, .int .i64 0, .int .i64 0]), 3, 24) := by kernel_rfl
set_option maxRecDepth 20000 in
set_option maxHeartbeats 4000000 in
theorem rParts_ok (t : TitD) (x : TA) (zs : List ZonM) (w : World) (hs : Sizes t) (hT : TitAt w w.heap.size t x zs) (A : Option Addr) (c : Nat) (o : List Nat) (hA : Sl encInt 1 w w.heap.size A (o.map fun (e : Nat) => (e : Int))) (hc : checkT t = 0) (ho : ordersB (edsR t).length (o.map fun (e : Nat) => (e : Int)) = true) :
    Calls Try.prog 56 #[.agg (titV t x), .slice A o.length c] w fun e w' => ∃ A' c', e = .returned (.tuple #[.slice A' (partsL t (edsR t) o).length c', .int .i64 0]) ∧ w'.ownsRow w.heap.size 117 3 (.slice A' (partsL t (edsR t) o).length c') (partsL t (edsR t) o).length ((partsL t (edsR t) o).flatMap enc3) ∧ Below w.heap.size w w' := by
  obtain ⟨w1, gT, HW1, HGT, HB1, HTB⟩ := tit_box t x zs w hT
  obtain ⟨hT1, r0, r1, r2, r3, r4, r5, r6, r7⟩ := HTB.out w1 (Below.refl _ _)
  have h7 := eds_le hc
  have hol := ord_len ho
  have HO := Lib.hid (ord_lt ho)
  obtain ⟨N, hN⟩ : ∃ n, n = (edsR t).length := ⟨_, rfl⟩
  have HNN := Lib.hid hN
  have HC := Lib.hid (chk_ok hc)
  have HCK := Lib.hid (show Calls Try.prog 48 #[.agg (titV t x), .slice A o.length c] w1 fun e w' => ∃ A' c', e = .returned (.tuple #[.slice A' o.length c', .int .i64 0]) ∧ Below w1.heap.size w1 w' from (rSlots_ok t x zs w1 hs hT1 A c o ((hA.below HB1.out).mono HB1.out.size) hc ho).mono (by
    rintro e w' ⟨A', c', rfl, -, hb⟩
    exact ⟨A', c', rfl, hb⟩))
  have HRE := Lib.hid (show ∀ W, Below w1.heap.size w1 W → Calls Try.prog 96 #[.agg (titV t x)] W fun e w' => ∃ (A : Option Addr) (c : Nat) (es : List EdM), e = .returned (.slice A N c) ∧ N = es.length ∧ RefAt w' W.heap.size t A c es ∧ Below W.heap.size W w' from fun W hb => (reds_any t x zs W hs (HTB.out W hb).1 (chk_ok hc).rgt).mono (by
    rintro e w' ⟨A, c, es, rfl, hr, hb⟩
    exact ⟨A, c, es, by rw [hr.len, hN], by rw [hr.len, hN], hr, hb⟩))
  have HA := Lib.hid ((hA.below HB1.out).mono HB1.out.size)
  have on7 : o.length ≤ 7 := by omega
  have hpl : (partsL t (edsR t) o).length = (zoneL (edsR t) o).length := partsGo_len _ _ _
  have HPL := Lib.hid hpl
  clear hT hT1 hs hc hA ho hN h7 hol hpl
  unfold titV at *
  go_enter Try.func56, Try.ntmps56
  go_upto_region 1 with fail
  rw [← HW1.out, ← HGT.out]
  go_wp2_with first
    | (go_at_call 48; refine HCK.out.mono ?_; rintro e w2 ⟨A2, c2, rfl, hb2⟩; have HB2 := Lib.hid hb2; clear hb2; clear r0 r1 r2 r3 r4 r5 r6 r7; obtain ⟨-, r0, r1, r2, r3, r4, r5, r6, r7⟩ := HTB.out _ HB2.out)
    | (go_at_call 96; refine (HRE.out _ HB2.out).mono ?_; rintro e w3 ⟨A3, c3, es, rfl, hn, hr3, hb3⟩; have HB3 := Lib.hid (HB2.out.trans (hb3.mono HB2.out.size)); have HR := Lib.hid hr3; have HNE := Lib.hid hn; clear hb3 hr3 hn)
  clear r0 r1 r2 r3 r4 r5 r6 r7
  go_loopw [9, 10, 11] (fun v n i wr => ∃ q : Nat, q ≤ o.length ∧ i = .int .i64 q ∧ n = .int .i64 (sumC t (zoneL (edsR t) (o.take q))) ∧ Hid (wr.ownsRow w3.heap.size 117 3 v (zoneL (edsR t) (o.take q)).length ((partsGo t 0 (zoneL (edsR t) (o.take q))).flatMap enc3)) ∧ Hid (Below w3.heap.size w3 wr)) (fun _ _ i _ => o.length - (intOf i).toNat)
  case atStart => exact ⟨0, Nat.zero_le _, rfl, rfl, World.ownsRow_nil _ _ _ _, Below.refl _ _⟩
  case round =>
    obtain ⟨q, hq, rfl, rfl, HV, HB⟩ := hrel
    by_cases hlt : q < o.length
    · have hlm : q < (o.map fun (e : Nat) => (e : Int)).length := by simpa using hlt
      obtain ⟨ob, oo, hoa, hob, c0⟩ := HA.out.at1 hlm
      rw [List.getElem_map] at c0
      subst hoa
      have hoq := HO.out o[q] (List.getElem_mem hlt)
      have hsn : zoneL (edsR t) (o.take (q + 1)) = zoneL (edsR t) (o.take q) ++ ((edsR t).getD o[q] ed0).zones := by rw [List.take_succ_eq_append_getElem hlt, zoneL_snoc]
      obtain ⟨en, hen⟩ : ∃ e, e = o[q] := ⟨_, rfl⟩
      rw [← hen] at c0 hoq hsn
      have hek : en < es.length := by rw [← HNE.out, HNN.out]; exact hoq
      obtain ⟨eb', eo, hka, heb, d0, d1, d2, d3, d4⟩ := Sl.atEd HR.out.hE hek
      subst hka
      have hZ := fun W (hb : Below w3.heap.size w3 W) => (HR.out.below hb).hZ en hek
      obtain ⟨zl, hzl⟩ : ∃ l, l = es[en].1.zones := ⟨_, rfl⟩
      rw [← hzl] at d0 hZ
      have hgz : ((edsR t).getD en ed0).zones = zl := by
        rw [hzl]
        have : (edsR t).getD en ed0 = es[en].1 := by
          have h1 : (es.map (·.1))[en]'(by simpa using hek) = es[en].1 := by simp
          rw [← h1]
          simp only [HR.out.eds]
          simp [hoq]
        rw [this]
      rw [hgz] at hsn
      have hmem : (edsR t).getD en ed0 ∈ edsR t := by rw [List.getD_eq_getElem?_getD, List.getElem?_eq_getElem hoq]; exact List.getElem_mem hoq
      have hzv := edsR_vars t _ hmem
      have hzn := (edsR_zn HC.out hmem).1
      rw [hgz] at hzv hzn
      have hzb := zoneL_len HC.out (o.take q) (fun e he => HO.out e (List.mem_of_mem_take he))
      obtain ⟨done, hdone⟩ : ∃ l, l = zoneL (edsR t) (o.take q) := ⟨_, rfl⟩
      rw [← hdone] at HV hzb hsn ⊢
      have hdl : done.length ≤ 12000 := by have := hzb.1; rw [List.length_take] at this; omega
      have hzz : ∀ j, j ≤ zl.length → ∀ z ∈ done ++ zl.take j, 0 ≤ z ∧ z < (t.zones.length : Int) := by
        intro j hj z hz
        rcases List.mem_append.1 hz with h | h
        · exact hzb.2 z h
        · have := hzv z (List.mem_of_mem_take h); exact ⟨this.1, this.2.1⟩
      generalize es[en].2.z = zA at *
      generalize es[en].2.cz = zc at *
      have HSE := Lib.hid (show ∀ W, Below w3.heap.size w3 W → W.cell? ⟨ob, oo + q, none⟩ = some (.int .i64 (en : Int)) ∧ W.cell? ⟨eb', eo + en * 5, none⟩ = some (.slice zA zl.length zc) from fun W hb => ⟨((HB3.out.trans (hb.mono HB3.out.size)).cell (p := ⟨ob, oo + q, none⟩) hob).trans c0, (hb.cell (p := ⟨eb', eo + en * 5, none⟩) heb).trans d0⟩)
      have i0 : (0 : Int) ≤ (q : Int) := by omega
      have i1 : (q : Int) < (o.length : Int) := by omega
      have i2 : (0 : Int) ≤ (en : Int) := by omega
      have i3 : (en : Int) < (N : Int) := by have := HNN.out; omega
      obtain ⟨wq, hwq⟩ : ∃ W, W = wr := ⟨_, rfl⟩
      rw [← hwq] at HV HB ⊢
      have HSN := Lib.hid hsn
      have HZZ := Lib.hid hzz
      have HZL := Lib.hid hZ
      have HDN := Lib.hid hdone
      clear hen hzl hgz hZ hsn hzz hdone hwq hmem hzv hzb d1 d2 d3 d4
      clear c0 d0
      obtain ⟨c0, d0⟩ := HSE.out _ HB.out
      go_wp2_with fail
      clear c0 d0
      go_loopw [9, 10, 12] (fun v n i wr => ∃ j : Nat, j ≤ zl.length ∧ i = .int .i64 j ∧ n = .int .i64 (sumC t (done ++ zl.take j)) ∧ Hid (wr.ownsRow w3.heap.size 117 3 v (done.length + j) ((partsGo t 0 (done ++ zl.take j)).flatMap enc3)) ∧ Hid (Below w3.heap.size w3 wr)) (fun _ _ i _ => zl.length - (intOf i).toNat)
      case atStart => exact ⟨0, Nat.zero_le _, rfl, by simp, by simpa using HV, HB⟩
      case round =>
        obtain ⟨j, hj, rfl, rfl, HVj, HBW⟩ := hrel
        have hsb := sumC_bd HC.out (done ++ zl.take j) (HZZ.out j hj)
        have hll : (done ++ zl.take j).length ≤ 12012 := by simp; omega
        obtain ⟨-, -, -, y2, -, -, -, -, -⟩ := HTB.out _ (HB3.out.trans (HBW.out.mono HB3.out.size))
        obtain ⟨c0, d0⟩ := HSE.out _ HBW.out
        obtain ⟨AR, cR, hvr⟩ := own_shape HVj.out
        subst hvr
        have hsz := HBW.out.size
        have k0 : (0 : Int) ≤ (j : Int) := by omega
        by_cases hlj : j < zl.length
        · skip
          obtain ⟨zb, zo, hza, hzb, e0⟩ := (HZL.out _ HBW.out).at1 hlj
          subst hza
          have hzj := HZZ.out (j + 1) (by omega) zl[j] (List.mem_append.2 (.inr (by rw [List.take_succ_eq_append_getElem hlj]; exact List.mem_append.2 (.inr (by simp)))))
          obtain ⟨z, hz⟩ : ∃ z, z = zl[j] := ⟨_, rfl⟩
          rw [← hz] at e0 hzj
          obtain ⟨zn, rfl⟩ : ∃ n : Nat, z = (n : Int) := ⟨z.toNat, by omega⟩
          have HTW := (HTB.out _ HB3.out).1
          have hzn2 : zn < zs.length := by rw [HTW.zlen]; omega
          have hzn3 : (zn : Int) < (t.zones.length : Int) := hzj.2
          obtain ⟨tb, to_, htz, htb, g0, g1, g2⟩ := Sl.atZon (HTW.cZ) hzn2
          have hcz : copZ t (zn : Int) = zs[zn].1.copies := by
            unfold copZ zon0
            rw [Int.toNat_natCast, HTW.zget hzn2]
          rw [← hcz] at g0
          have hcb := copZ_bd HC.out (show (0 : Int) ≤ (zn : Int) by omega) hzn3
          obtain ⟨cz, hcz2⟩ : ∃ c, c = copZ t (zn : Int) := ⟨_, rfl⟩
          obtain ⟨sm, hsm⟩ : ∃ s, s = sumC t (done ++ zl.take j) := ⟨_, rfl⟩
          rw [← hcz2] at g0 hcb
          rw [← hsm] at hsb ⊢
          have hts : zl.take (j + 1) = zl.take j ++ [(zn : Int)] := by rw [List.take_succ_eq_append_getElem hlj, ← hz]
          have hs2 : sumC t (done ++ zl.take (j + 1)) = sm + cz := by rw [hts, ← List.append_assoc, sumC_snoc, ← hsm, ← hcz2]
          have hp2 : partsGo t 0 (done ++ zl.take (j + 1)) = partsGo t 0 (done ++ zl.take j) ++ [((zn : Int), sm, sm + cz - 1)] := by
            rw [hts, ← List.append_assoc, partsGo_snoc, ← hsm, ← hcz2]
            simp
          rw [htz] at y2
          have f1 := IntWalk.i64_in (sm + cz) (by omega)
          have f2 := IntWalk.i64_in (sm + cz - 1) (by omega)
          have k1 : (j : Int) < (zl.length : Int) := by omega
          have k2 : (0 : Int) ≤ (zn : Int) := by omega
          obtain ⟨i0', hi, hq0, hq1, hq2⟩ := info_parts infoRpart
          have HI := Lib.hid hi
          have HS2 := Lib.hid hs2
          have HP2 := Lib.hid hp2
          have hm1 : done.length + j + 1 ≤ maxLen := by simp only [maxLen]; omega
          have hm2 : (done.length + j + 1) * 24 ≤ 140737488355328 := by omega
          have HG := Lib.hid (show ∀ W, Below w3.heap.size w3 W → W.cell? ⟨tb, to_ + zn * 3, none⟩ = some (.int .i64 cz) from fun W hb => (hb.cell (p := ⟨tb, to_ + zn * 3, none⟩) htb).trans g0)
          clear g0
          have g0 := HG.out _ HBW.out
          have HTZ := Lib.hid htz
          clear hz hts hs2 hp2 htz hcz hcz2 hsm hi HTW
          go_wp2_with (at_builtin; refine wpList_append_lies _ rfl (.tmp 55) (.tmp 69) 113 rfl w3.heap.size 117 i0' _ 3 24 Try.underlying113 HI.out hq0 hq1 hq2 rfl (by decide) (.slice AR (done.length + j) cR) (done.length + j) ((partsGo t 0 (done ++ zl.take j)).flatMap enc3) rfl (HVj.out.alloc _) ⟨wr.heap.size, 0, none⟩ 1 1 [.int .i64 (zn : Int), .int .i64 sm, .int .i64 (sm + cz - 1)] rfl rfl (news_of1 wr 117 #[.int .i64 (zn : Int), .int .i64 sm, .int .i64 (sm + cz - 1)]) (by intro u hu; simp at hu; rcases hu with rfl | rfl | rfl <;> rfl) (by decide) hm1 hm2 (by simp; omega) (wr.heap.size + 1) (by simp) ?_; intro g7 cap7 w7 hown7 hgrow7 hat7 hlt7; have hb7 := (HBW.out.alloc hsz (.cells #[.int .i64 (zn : Int), .int .i64 sm, .int .i64 (sm + cz - 1)] 117)).grown hgrow7 (by simp; omega) (fun p hp => (HVj.out.lt p hp).1); clear y2 g0; obtain ⟨-, -, -, y2, -, -, -, -, -⟩ := HTB.out _ (HB3.out.trans (hb7.mono HB3.out.size)); rw [HTZ.out] at y2; have g0 := HG.out _ hb7; have HO7 := Lib.hid hown7; have HB7 := Lib.hid hb7; clear hown7 hgrow7 hat7 hb7)
          go_roundw
          case rel =>
            refine ⟨j + 1, by omega, by go_num, by rw [HS2.out], ?_, HB7⟩
            rw [HP2.out]
            rw [List.flatMap_append]
            exact Lib.hid HO7.out
          case measure => simp [intOf]; omega
        · skip
          obtain rfl : j = zl.length := by omega
          have hds : done ++ zl.take zl.length = zoneL (edsR t) (o.take (q + 1)) := by rw [HSN.out]; simp
          have HDS := Lib.hid hds
          have hdz : done.length + zl.length = (zoneL (edsR t) (o.take (q + 1))).length := by rw [← hds]; simp
          have HDZ := Lib.hid hdz
          clear hds hdz
          go_wp2_with fail
          go_roundw
          case rel => exact ⟨q + 1, by omega, by go_num, by rw [HDS.out], Lib.hid (by rw [← HDZ.out, ← HDS.out]; exact HVj.out), HBW⟩
          case measure => simp [intOf]; omega
    · obtain rfl : q = o.length := by omega
      rw [List.take_of_length_le (Nat.le_refl _)] at HV
      obtain ⟨AR, cR, hvr⟩ := own_shape HV.out
      subst hvr
      go_wp2_with fail
      go_ret2
      refine ⟨AR, cR, by rw [HPL.out]; rfl, ?_, HB1.out.trans ((HB3.out.trans (HB.out.mono HB3.out.size)).mono HB1.out.size)⟩
      rw [HPL.out]
      exact World.ownsRow.mono HV.out (Nat.le_trans HB1.out.size HB3.out.size)
end Go.Proofs.Ytokdleanpkkdpaa
