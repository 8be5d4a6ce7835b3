/- Contracts of parts, Parts; conditions: lengths that a title has. -/
import Derived.Test.YtokdleanpkkdpaaE2
set_option linter.unusedSimpArgs false
set_option linter.unusedVariables false
namespace Go.Ed
open Go.Fh Go.RowKit Go.Proofs.Ytokdleanpkkdpaa
theorem copZ_bd {t : TitD} (h : ChkOk t) {z : Int} (h0 : 0 ≤ z) (h1 : z < (t.zones.length : Int)) : 0 ≤ copZ t z ∧ copZ t z ≤ 1000000 := by
  have := errZ_ok (h.ez z.toNat (by omega))
  unfold copZ zon0
  exact this.1
theorem sumC_bd {t : TitD} (h : ChkOk t) (zs : List Int) (hz : ∀ z ∈ zs, 0 ≤ z ∧ z < (t.zones.length : Int)) : 0 ≤ sumC t zs ∧ sumC t zs ≤ 1000000 * (zs.length : Int) := by
  induction zs with
  | nil => simp [sumC]
  | cons z zs ih =>
    have h1 := copZ_bd h (hz z (by simp)).1 (hz z (by simp)).2
    have h2 := ih fun y hy => hz y (by simp [hy])
    rw [sumC_cons]
    simp only [List.length_cons]
    omega
theorem edsR_mem {t : TitD} {e : EdD} (he : e ∈ edsR t) : ∃ e0 ∈ edsN t t.zones.length, e = ⟨e0.zones, e0.copies, readyN t.ready e0.variants t.ready.length, e0.due, e0.variants⟩ := by
  unfold edsR at he
  obtain ⟨e0, h0, rfl⟩ := List.mem_map.1 he
  exact ⟨e0, h0, rfl⟩
theorem edsR_zn {t : TitD} (h : ChkOk t) {e : EdD} (he : e ∈ edsR t) : e.zones.length ≤ 12 ∧ e.variants.length = t.colours.length ∧ 1 ≤ e.zones.length := by
  obtain ⟨e0, h0, rfl⟩ := edsR_mem he
  have b := edsN_bd h _ (Nat.le_refl _) e0 h0
  exact ⟨by have := b.zn; have := h.z1; show e0.zones.length ≤ 12; omega, b.vn, b.z1⟩
theorem zoneL_snoc (es : List EdD) (o : List Nat) (e : Nat) : zoneL es (o ++ [e]) = zoneL es o ++ (es.getD e ed0).zones := by simp [zoneL]
theorem zoneL_len {t : TitD} (h : ChkOk t) (o : List Nat) (ho : ∀ e ∈ o, e < (edsR t).length) : (zoneL (edsR t) o).length ≤ 12 * o.length ∧ ∀ z ∈ zoneL (edsR t) o, 0 ≤ z ∧ z < (t.zones.length : Int) := by
  induction o with
  | nil => simp [zoneL]
  | cons e o ih =>
    have he := ho e (by simp)
    have ih := ih fun y hy => ho y (by simp [hy])
    have hm : (edsR t).getD e ed0 ∈ edsR t := by rw [List.getD_eq_getElem?_getD, List.getElem?_eq_getElem he]; exact List.getElem_mem he
    have hl := (edsR_zn h hm).1
    have hv := edsR_vars t _ hm
    have e1 : zoneL (edsR t) (e :: o) = ((edsR t).getD e ed0).zones ++ zoneL (edsR t) o := by simp [zoneL]
    rw [e1]
    refine ⟨by simp only [List.length_append, List.length_cons]; omega, fun z hz => ?_⟩
    rcases List.mem_append.1 hz with h | h
    · exact ⟨(hv z h).1, (hv z h).2.1⟩
    · exact ih.2 z h
end Go.Ed
namespace Go.Proofs.Ytokdleanpkkdpaa
open Go.RowKit Go.Fh Go.Ed
theorem infoPart : (Try.prog.info? 45).map (fun i => (i.zero, i.size, i.bytes)) = some (some (.agg #[.int .i64 0, .int .i64 0, .int .i64 0]), 3, 24) := by kernel_rfl
set_option maxRecDepth 20000 in
set_option maxHeartbeats 4000000 in
theorem parts_any (t : TitD) (x : TA) (zs : List ZonM) (k : Wk) (B : Nat) (A : Option Addr) (c : Nat) (o : List Nat) (w : World) (hc : ChkOk t) (hT : TitAt w w.heap.size t x zs) (hW : WorkAt w B t x k) (hl : o.length ≤ 1000) (ho : ∀ e ∈ o, e < (edsR t).length) (hA : Sl encInt 1 w w.heap.size A (o.map fun (e : Nat) => (e : Int))) :
    Calls Try.prog 64 #[.pointer (some ⟨k.g, 0, none⟩), .slice A o.length c] w fun e w' => ∃ A' c', e = .returned (.slice A' (partsL t (edsR t) o).length c') ∧ w'.ownsRow w.heap.size 45 3 (.slice A' (partsL t (edsR t) o).length c') (partsL t (edsR t) o).length ((partsL t (edsR t) o).flatMap enc3) ∧ Below w.heap.size w w' := by
  have HT := Lib.hid hT
  have HW := Lib.hid hW
  have HA := Lib.hid hA
  have HC := Lib.hid hc
  have HO := Lib.hid ho
  have hkl := hW.hk.lt
  have hpl : (partsL t (edsR t) o).length = (zoneL (edsR t) o).length := partsGo_len _ _ _
  have HPL := Lib.hid hpl
  clear hT hW hA hc ho hpl
  go_enter Try.func64, Try.ntmps64
  go_wp2_with fail
  go_loopw [5, 6, 13] (fun v n i wr => ∃ q : Nat, q ≤ o.length ∧ i = .int .i64 q ∧ n = .int .i64 (sumC t (zoneL (edsR t) (o.take q))) ∧ Hid (wr.ownsRow w.heap.size 45 3 v (zoneL (edsR t) (o.take q)).length ((partsGo t 0 (zoneL (edsR t) (o.take q))).flatMap enc3)) ∧ Below w.heap.size w wr) (fun _ _ i _ => o.length - (intOf i).toNat)
  case atStart => exact ⟨0, Nat.zero_le _, rfl, rfl, World.ownsRow_nil _ _ _ _, Below.refl _ _⟩
  case round =>
    obtain ⟨q, hq, rfl, rfl, HV, hB⟩ := hrel
    have HB := Lib.hid hB
    have y8 := (HW.out.below hB).hk.cell 8
    simp [workV] at y8
    clear hB
    by_cases hlt : q < o.length
    · have hlm : q < (o.map fun (e : Nat) => (e : Int)).length := by simpa using hlt
      obtain ⟨ob, oo, hoa, hob, c0⟩ := (HA.out.below HB.out).at1 hlm
      rw [List.getElem_map] at c0
      subst hoa
      have hoq := HO.out o[q] (List.getElem_mem hlt)
      have hsn : zoneL (edsR t) (o.take (q + 1)) = zoneL (edsR t) (o.take q) ++ ((edsR t).getD o[q] ed0).zones := by rw [List.take_succ_eq_append_getElem hlt, zoneL_snoc]
      obtain ⟨en, hen⟩ : ∃ e, e = o[q] := ⟨_, rfl⟩
      rw [← hen] at c0 hoq hsn
      have hek : en < k.es.length := by rw [HW.out.len]; exact hoq
      have hE := (HW.out.below HB.out).hE
      obtain ⟨eb', eo, hka, heb, d0, d1, d2, d3, d4⟩ := Sl.atEd hE hek
      have hZ := fun W (hb : Below w.heap.size w W) => (HW.out.below hb).hZ en hek
      obtain ⟨zl, hzl⟩ : ∃ l, l = k.es[en].1.zones := ⟨_, rfl⟩
      rw [← hzl] at d0 hZ
      have hgz : ((edsR t).getD en ed0).zones = zl := by
        rw [hzl]
        have : (edsR t).getD en ed0 = k.es[en].1 := by
          have h1 : (k.es.map (·.1))[en]'(by simpa using hek) = k.es[en].1 := by simp
          rw [← h1]
          simp only [HW.out.eds]
          simp [hoq]
        rw [this]
      rw [hgz] at hsn
      have hmem : (edsR t).getD en ed0 ∈ edsR t := by rw [List.getD_eq_getElem?_getD, List.getElem?_eq_getElem hoq]; exact List.getElem_mem hoq
      have hzv := edsR_vars t _ hmem
      have hzn := (edsR_zn HC.out hmem).1
      rw [hgz] at hzv hzn
      have hzb := zoneL_len HC.out (o.take q) (fun e he => HO.out e (List.mem_of_mem_take he))
      obtain ⟨done, hdone⟩ : ∃ l, l = zoneL (edsR t) (o.take q) := ⟨_, rfl⟩
      rw [← hdone] at HV hzb hsn ⊢
      have hdl : done.length ≤ 12000 := by have := hzb.1; rw [List.length_take] at this; omega
      have hzz : ∀ j, j ≤ zl.length → ∀ z ∈ done ++ zl.take j, 0 ≤ z ∧ z < (t.zones.length : Int) := by
        intro j hj z hz
        rcases List.mem_append.1 hz with h | h
        · exact hzb.2 z h
        · have := hzv z (List.mem_of_mem_take h); exact ⟨this.1, this.2.1⟩
      rw [hka] at y8
      generalize k.es[en].2.z = zA at *
      generalize k.es[en].2.cz = zc at *
      obtain ⟨wq, hwq⟩ : ∃ W, W = wr := ⟨_, rfl⟩
      rw [← hwq] at HV HB y8 c0 d0 d1 d2 d3 d4 ⊢
      have HSN := Lib.hid hsn
      have HZZ := Lib.hid hzz
      have HZL := Lib.hid hZ
      have HDN := Lib.hid hdone
      clear hen hzl hgz hE hZ hsn hzz hdone hwq hka hmem hzv hzb d1 d2 d3 d4
      go_wp2_with fail
      clear y8 c0 d0
      go_loopw [5, 6, 26] (fun v n i wr => ∃ j : Nat, j ≤ zl.length ∧ i = .int .i64 j ∧ n = .int .i64 (sumC t (done ++ zl.take j)) ∧ Hid (wr.ownsRow w.heap.size 45 3 v (done.length + j) ((partsGo t 0 (done ++ zl.take j)).flatMap enc3)) ∧ Below w.heap.size w wr) (fun _ _ i _ => zl.length - (intOf i).toNat)
      case atStart => exact ⟨0, Nat.zero_le _, rfl, by simp, by simpa using HV, HB.out⟩
      case round =>
        obtain ⟨j, hj, rfl, rfl, HVj, hbj⟩ := hrel
        have hsb := sumC_bd HC.out (done ++ zl.take j) (HZZ.out j hj)
        have hll : (done ++ zl.take j).length ≤ 12012 := by simp; omega
        have HBW := Lib.hid hbj
        have hkr := (HW.out.below HBW.out).hk
        have y2 := hkr.cell 2
        have y8 := hkr.cell 8
        simp [workV] at y2 y8
        obtain ⟨AR, cR, hvr⟩ := own_shape HVj.out
        subst hvr
        have hsz := HBW.out.size
        by_cases hlj : j < zl.length
        · obtain ⟨zb, zo, hza, hzb, e0⟩ := (HZL.out _ HBW.out).at1 hlj
          subst hza
          have hzj := HZZ.out (j + 1) (by omega) zl[j] (List.mem_append.2 (.inr (by rw [List.take_succ_eq_append_getElem hlj]; exact List.mem_append.2 (.inr (by simp)))))
          obtain ⟨z, hz⟩ : ∃ z, z = zl[j] := ⟨_, rfl⟩
          rw [← hz] at e0 hzj
          obtain ⟨zn, rfl⟩ : ∃ n : Nat, z = (n : Int) := ⟨z.toNat, by omega⟩
          have hzn2 : zn < zs.length := by rw [HT.out.zlen]; omega
          have hzn3 : (zn : Int) < (t.zones.length : Int) := hzj.2
          obtain ⟨tb, to_, htz, htb, g0, g1, g2⟩ := Sl.atZon ((HT.out.below HBW.out).cZ) hzn2
          have hcz : copZ t (zn : Int) = zs[zn].1.copies := by
            unfold copZ zon0
            rw [Int.toNat_natCast, HT.out.zget hzn2]
          rw [← hcz] at g0
          have hcb := copZ_bd HC.out (show (0 : Int) ≤ (zn : Int) by omega) hzn3
          obtain ⟨cz, hcz2⟩ : ∃ c, c = copZ t (zn : Int) := ⟨_, rfl⟩
          obtain ⟨sm, hsm⟩ : ∃ s, s = sumC t (done ++ zl.take j) := ⟨_, rfl⟩
          rw [← hcz2] at g0 hcb
          rw [← hsm] at hsb ⊢
          have hts : zl.take (j + 1) = zl.take j ++ [(zn : Int)] := by rw [List.take_succ_eq_append_getElem hlj, ← hz]
          have hs2 : sumC t (done ++ zl.take (j + 1)) = sm + cz := by rw [hts, ← List.append_assoc, sumC_snoc, ← hsm, ← hcz2]
          have hp2 : partsGo t 0 (done ++ zl.take (j + 1)) = partsGo t 0 (done ++ zl.take j) ++ [((zn : Int), sm, sm + cz - 1)] := by
            rw [hts, ← List.append_assoc, partsGo_snoc, ← hsm, ← hcz2]
            simp
          rw [htz] at y2
          have f1 := IntWalk.i64_in (sm + cz) (by omega)
          have f2 := IntWalk.i64_in (sm + cz - 1) (by omega)
          obtain ⟨i0, hi, hq0, hq1, hq2⟩ := info_parts infoPart
          have HI := Lib.hid hi
          have HS2 := Lib.hid hs2
          have HP2 := Lib.hid hp2
          have hm1 : done.length + j + 1 ≤ maxLen := by simp only [maxLen]; omega
          have hm2 : (done.length + j + 1) * 24 ≤ 140737488355328 := by omega
          have HSN2 := Lib.hid (show ∀ W, Below w.heap.size w W → W.cell? ⟨k.g, 2, none⟩ = some (.slice (some ⟨tb, to_, none⟩) t.zones.length x.cz) ∧ W.cell? ⟨tb, to_ + zn * 3, none⟩ = some (.int .i64 cz) from fun W hb => by
            have h2 := (HW.out.below hb).hk.cell 2
            simp [workV] at h2
            rw [htz] at h2
            refine ⟨h2, ?_⟩
            have h3 := (hb.cell (p := ⟨tb, to_ + zn * 3, none⟩) htb).trans ((HBW.out.cell (p := ⟨tb, to_ + zn * 3, none⟩) htb).symm.trans g0)
            exact h3)
          clear hkr hz hts hs2 hp2 htz hcz hcz2 hsm hi hbj
          go_wp2_with (at_builtin; refine wpList_append_lies _ rfl (.tmp 30) (.tmp 47) 39 rfl w.heap.size 45 i0 _ 3 24 Try.underlying39 HI.out hq0 hq1 hq2 rfl (by decide) (.slice AR (done.length + j) cR) (done.length + j) ((partsGo t 0 (done ++ zl.take j)).flatMap enc3) rfl (HVj.out.alloc _) ⟨wr.heap.size, 0, none⟩ 1 1 [.int .i64 (zn : Int), .int .i64 sm, .int .i64 (sm + cz - 1)] rfl rfl (news_of1 wr 45 #[.int .i64 (zn : Int), .int .i64 sm, .int .i64 (sm + cz - 1)]) (by intro u hu; simp at hu; rcases hu with rfl | rfl | rfl <;> rfl) (by decide) hm1 hm2 (by simp; omega) (wr.heap.size + 1) (by simp) ?_; intro g7 cap7 w7 hown7 hgrow7 hat7 hlt7; have hb7 := (HBW.out.alloc hsz (.cells #[.int .i64 (zn : Int), .int .i64 sm, .int .i64 (sm + cz - 1)] 45)).grown hgrow7 (by simp; omega) (fun p hp => (HVj.out.lt p hp).1); obtain ⟨y7, g7c⟩ := HSN2.out w7 hb7; have HO7 := Lib.hid hown7; have HB7 := Lib.hid hb7; clear hown7 hgrow7 hat7 hb7 y2 g0)
          go_roundw
          case rel =>
            refine ⟨j + 1, by omega, by go_num, by rw [HS2.out], ?_, HB7.out⟩
            rw [HP2.out]
            rw [List.flatMap_append]
            exact Lib.hid HO7.out
          case measure => simp [intOf]; omega
        · obtain rfl : j = zl.length := by omega
          have hds : done ++ zl.take zl.length = zoneL (edsR t) (o.take (q + 1)) := by rw [HSN.out]; simp
          have HDS := Lib.hid hds
          have hdz : done.length + zl.length = (zoneL (edsR t) (o.take (q + 1))).length := by rw [← hds]; simp
          have HDZ := Lib.hid hdz
          clear hds hdz
          go_wp2_with fail
          go_roundw
          case rel => exact ⟨q + 1, by omega, by go_num, by rw [HDS.out], Lib.hid (by rw [← HDZ.out, ← HDS.out]; exact HVj.out), HBW.out⟩
          case measure => simp [intOf]; omega
    · obtain rfl : q = o.length := by omega
      rw [List.take_of_length_le (Nat.le_refl _)] at HV
      obtain ⟨AR, cR, hvr⟩ := own_shape HV.out
      subst hvr
      go_wp2_with fail
      go_ret
      refine ⟨AR, cR, by rw [HPL.out]; rfl, ?_, HB.out⟩
      rw [HPL.out]
      exact HV.out
section
set_option maxRecDepth 20000 in
set_option maxHeartbeats 2000000 in
theorem Parts_bad (t : TitD) (x : TA) (zs : List ZonM) (w : World) (hs : Sizes t) (hT : TitAt w w.heap.size t x zs) (A : Option Addr) (c : Nat) (l : List Int) (hc : checkT t ≠ 0) :
    Calls Try.prog 17 #[.agg (titV t x), .slice A l.length c] w fun e w' => e = .returned (.tuple #[.slice none 0 0, .int .i64 (checkT t)]) ∧ Below w.heap.size w w' := by
  obtain ⟨w1, hw1⟩ : ∃ W, W = w.alloc (.cells (titV t x) 26) := ⟨_, rfl⟩
  have hb1 : Below w.heap.size w w1 := by rw [hw1]; exact (Below.refl _ _).alloc (Nat.le_refl _) _
  obtain ⟨gT, hgT⟩ : ∃ g, g = w.heap.size := ⟨_, rfl⟩
  have kT : Blk w1 gT 26 (titV t x) := by rw [hw1, hgT]; exact Blk.new _ _ _
  have r0 := kT.cell 0
  have r1 := kT.cell 1
  have r2 := kT.cell 2
  have r3 := kT.cell 3
  have r4 := kT.cell 4
  have r5 := kT.cell 5
  have r6 := kT.cell 6
  have r7 := kT.cell 7
  simp [titV] at r0 r1 r2 r3 r4 r5 r6 r7
  have HCK := Lib.hid (ask_bad t x zs w1 hs ((hT.below hb1).mono hb1.size) A c l hc)
  obtain ⟨ck, hck⟩ : ∃ c, c = checkT t := ⟨_, rfl⟩
  rw [← hck] at HCK hc ⊢
  have ht : (ck != 0) = true := by simpa using hc
  have HB1 := Lib.hid hb1
  have HW1 := Lib.hid hw1
  have HGT := Lib.hid hgT
  clear hb1 hw1 hgT kT hT hs hc hck
  unfold titV at *
  go_enter Try.func17, Try.ntmps17
  go_upto_region 1 with fail
  rw [← HW1.out, ← HGT.out]
  go_wp2_with (go_at_call 63; refine HCK.out.mono ?_; rintro e w2 ⟨rfl, hb2⟩; have HB2 := Lib.hid hb2; clear hb2)
  go_ret2
  exact ⟨rfl, HB1.out.trans (HB2.out.mono HB1.out.size)⟩
set_option maxRecDepth 20000 in
set_option maxHeartbeats 2000000 in
theorem Parts_arg (t : TitD) (x : TA) (zs : List ZonM) (w : World) (hs : Sizes t) (hT : TitAt w w.heap.size t x zs) (A : Option Addr) (c : Nat) (l : List Int) (hl : l.length ≤ 1000000000) (hA : Sl encInt 1 w w.heap.size A l) (hc : checkT t = 0) (ho : ordersB (edsR t).length l = false) :
    Calls Try.prog 17 #[.agg (titV t x), .slice A l.length c] w fun e w' => e = .returned (.tuple #[.slice none 0 0, .int .i64 1]) ∧ Below w.heap.size w w' := by
  obtain ⟨w1, hw1⟩ : ∃ W, W = w.alloc (.cells (titV t x) 26) := ⟨_, rfl⟩
  have hb1 : Below w.heap.size w w1 := by rw [hw1]; exact (Below.refl _ _).alloc (Nat.le_refl _) _
  obtain ⟨gT, hgT⟩ : ∃ g, g = w.heap.size := ⟨_, rfl⟩
  have kT : Blk w1 gT 26 (titV t x) := by rw [hw1, hgT]; exact Blk.new _ _ _
  have r0 := kT.cell 0
  have r1 := kT.cell 1
  have r2 := kT.cell 2
  have r3 := kT.cell 3
  have r4 := kT.cell 4
  have r5 := kT.cell 5
  have r6 := kT.cell 6
  have r7 := kT.cell 7
  simp [titV] at r0 r1 r2 r3 r4 r5 r6 r7
  have HCK := Lib.hid (ask_ok t x zs w1 hs ((hT.below hb1).mono hb1.size) A c l hl ((hA.below hb1).mono hb1.size) hc)
  rw [ho] at HCK
  simp only [Bool.false_eq_true, if_false] at HCK
  have HB1 := Lib.hid hb1
  have HW1 := Lib.hid hw1
  have HGT := Lib.hid hgT
  clear hb1 hw1 hgT kT hT hs hc hA ho
  unfold titV at *
  go_enter Try.func17, Try.ntmps17
  go_upto_region 1 with fail
  rw [← HW1.out, ← HGT.out]
  go_wp2_with (go_at_call 63; refine HCK.out.mono ?_; rintro e w2 ⟨k, rfl, hk, hb2⟩; have HB2 := Lib.hid hb2; clear hb2 hk)
  go_ret2
  exact ⟨rfl, HB1.out.trans (HB2.out.mono HB1.out.size)⟩
set_option maxRecDepth 20000 in
set_option maxHeartbeats 2000000 in
theorem Parts_ok (t : TitD) (x : TA) (zs : List ZonM) (w : World) (hs : Sizes t) (hT : TitAt w w.heap.size t x zs) (A : Option Addr) (c : Nat) (o : List Nat) (hl : o.length ≤ 1000) (hA : Sl encInt 1 w w.heap.size A (o.map fun (e : Nat) => (e : Int))) (hc : checkT t = 0) (ho : ordersB (edsR t).length (o.map fun (e : Nat) => (e : Int)) = true) :
    Calls Try.prog 17 #[.agg (titV t x), .slice A o.length c] w fun e w' => ∃ A' c', e = .returned (.tuple #[.slice A' (partsL t (edsR t) o).length c', .int .i64 0]) ∧ w'.ownsRow w.heap.size 45 3 (.slice A' (partsL t (edsR t) o).length c') (partsL t (edsR t) o).length ((partsL t (edsR t) o).flatMap enc3) ∧ Below w.heap.size w w' := by
  obtain ⟨w1, hw1⟩ : ∃ W, W = w.alloc (.cells (titV t x) 26) := ⟨_, rfl⟩
  have hb1 : Below w.heap.size w w1 := by rw [hw1]; exact (Below.refl _ _).alloc (Nat.le_refl _) _
  obtain ⟨gT, hgT⟩ : ∃ g, g = w.heap.size := ⟨_, rfl⟩
  have kT : Blk w1 gT 26 (titV t x) := by rw [hw1, hgT]; exact Blk.new _ _ _
  have r0 := kT.cell 0
  have r1 := kT.cell 1
  have r2 := kT.cell 2
  have r3 := kT.cell 3
  have r4 := kT.cell 4
  have r5 := kT.cell 5
  have r6 := kT.cell 6
  have r7 := kT.cell 7
  simp [titV] at r0 r1 r2 r3 r4 r5 r6 r7
  have hlo : (o.map fun (e : Nat) => (e : Int)).length = o.length := by simp
  have HCK := Lib.hid (ask_ok t x zs w1 hs ((hT.below hb1).mono hb1.size) A c (o.map fun (e : Nat) => (e : Int)) (by rw [hlo]; omega) ((hA.below hb1).mono hb1.size) hc)
  rw [hlo, ho] at HCK
  simp only [if_true] at HCK
  have hoe : ∀ e ∈ o, e < (edsR t).length := by
    intro e he
    unfold ordersB at ho
    simp only [Bool.and_eq_true] at ho
    have := inB_iff.1 (List.all_eq_true.1 ho.1.2 (e : Int) (List.mem_map.2 ⟨e, he, rfl⟩))
    omega
  have HT1 := Lib.hid ((hT.below hb1).mono hb1.size)
  have HA1 := Lib.hid ((hA.below hb1).mono hb1.size)
  have HPA := Lib.hid (fun (k : Wk) W (hk : WorkAt W w1.heap.size t x k) (hb : Below w1.heap.size w1 W) => parts_any t x zs k w1.heap.size A c o W (chk_ok hc) ((HT1.out.below hb).mono hb.size) hk hl hoe ((HA1.out.below hb).mono hb.size))
  have HB1 := Lib.hid hb1
  have HW1 := Lib.hid hw1
  have HGT := Lib.hid hgT
  clear hb1 hw1 hgT kT hT hs hc hA ho hoe hlo
  unfold titV at *
  go_enter Try.func17, Try.ntmps17
  go_upto_region 1 with fail
  rw [← HW1.out, ← HGT.out]
  go_wp2_with first
    | (go_at_call 63; refine HCK.out.mono ?_; rintro e w2 ⟨k, rfl, hk, hb2⟩; have HB2 := Lib.hid hb2; have HK := Lib.hid hk; clear hb2 hk)
    | (go_at_call 64; refine (HPA.out k _ HK.out HB2.out).mono ?_; rintro e w3 ⟨A', c', rfl, hown, hb3⟩; have HO3 := Lib.hid hown; have HB3 := Lib.hid (HB2.out.trans (hb3.mono HB2.out.size)); have hs2 := HB2.out.size; clear hown hb3)
  go_ret2
  exact ⟨A', c', rfl, World.ownsRow.mono HO3.out (Nat.le_trans HB1.out.size hs2), HB1.out.trans (HB3.out.mono HB1.out.size)⟩
end
end Go.Proofs.Ytokdleanpkkdpaa
