/- The walk of EditionDistance; conditions: bytes. -/
import Derived.Test.YtokdleanpkkdpaaY2
import Derived.Deep.QuietTactic
import Derived.BigQuiet
import Derived.Deep.RegionHeld3
import Derived.Deep.DeepCutAuto
set_option linter.unusedSimpArgs false
set_option linter.unusedVariables false
namespace Go.Ed
theorem change_zero {t : TitD} (h : ChkOk t) {a b : Nat} (ha : a < (edsR t).length) (hb : b < (edsR t).length) : changeB t ((edsR t).getD a ed0) ((edsR t).getD b ed0) = 0 ↔ a = b := by
  have hg := good_of_paired h.ok.pair
  constructor
  · intro h0
    by_cases hab : a = b
    · exact hab
    · exfalso
      have hva := (edsR_zn h (getD_mem ha)).2
      have hvb := (edsR_zn h (getD_mem hb)).2
      have hne : ((edsR t).getD a ed0).variants ≠ ((edsR t).getD b ed0).variants := by
        intro e
        have hd := edsR_nodup t
        have hg1 : (edsR t).getD a ed0 = (edsR t)[a] := by simp [ha]
        have hg2 : (edsR t).getD b ed0 = (edsR t)[b] := by simp [hb]
        rw [hg1, hg2] at e
        rcases Nat.lt_or_gt_of_ne hab with hlt | hgt
        · exact List.pairwise_iff_getElem.1 hd a b (by simpa using ha) (by simpa using hb) hlt (by simpa using e)
        · exact List.pairwise_iff_getElem.1 hd b a (by simpa using hb) (by simpa using ha) hgt (by simpa using e.symm)
      apply hne
      have key := fun p hp hq => changeB_pos hg h.ok.c4 (a := (edsR t).getD a ed0) (b := (edsR t).getD b ed0) (p := p) hp hq
      rw [h0] at key
      generalize ((edsR t).getD a ed0).variants = va at hva key ⊢
      generalize ((edsR t).getD b ed0).variants = vb at hvb key ⊢
      refine List.ext_getElem (by omega) fun p h1 h2 => ?_
      by_cases hp : va.getD p (-1) = vb.getD p (-1)
      · simpa [h1, h2] using hp
      · have := key p (by omega) hp
        omega
  · rintro rfl; exact changeB_self hg _
end Go.Ed
namespace Go.Proofs.Ytokdleanpkkdpaa
open Go.RowKit Go.Fh Go.Ed
theorem Sl.atSlo {B : Nat} {w : World} {A : Option Addr} {l : List SloD} (h : Sl encSlo 4 w B A l) {k : Nat} (hk : k < l.length) :
    ∃ b off, A = some ⟨b, off, none⟩ ∧ b < B ∧ w.cell? ⟨b, off + k * 4, none⟩ = some (.int .i64 l[k].edition) ∧ w.cell? ⟨b, off + k * 4 + 1, none⟩ = some (.int .i64 l[k].plates) ∧ w.cell? ⟨b, off + k * 4 + 2, none⟩ = some (.int .i64 l[k].beg) ∧ w.cell? ⟨b, off + k * 4 + 3, none⟩ = some (.int .i64 l[k].fin) := by
  obtain ⟨b, off, hA, hb, hc⟩ := h.at_ hk
  exact ⟨b, off, hA, hb, hc 0 _ rfl, hc 1 _ rfl, hc 2 _ rfl, hc 3 _ rfl⟩
theorem Sl.atSlo' {B : Nat} {w : World} {b off : Nat} {l : List SloD} (h : Sl encSlo 4 w B (some ⟨b, off, none⟩) l) {k : Nat} (hk : k < l.length) :
    w.cell? ⟨b, off + k * 4 + 1, none⟩ = some (.int .i64 l[k].plates) ∧ w.cell? ⟨b, off + k * 4 + 3, none⟩ = some (.int .i64 l[k].fin) := by
  obtain ⟨b', off', hA, hb, e0, e1, e2, e3⟩ := Sl.atSlo h hk
  injection hA with hA; injection hA with h1 h2
  subst h1 h2
  exact ⟨e1, e3⟩
theorem Sl.at1' {B : Nat} {w : World} {b off : Nat} {l : List Int} (h : Sl encInt 1 w B (some ⟨b, off, none⟩) l) {k : Nat} (hk : k < l.length) : w.cell? ⟨b, off + k, none⟩ = some (.int .i64 l[k]) := by
  obtain ⟨b', off', hA, hb, e0⟩ := Sl.at1 h hk
  injection hA with hA; injection hA with h1 h2
  subst h1 h2
  exact e0
set_option maxRecDepth 100000 in
set_option maxHeartbeats 8000000 in
theorem editionDistance_walk (haw : ∀ w, Calls Try.prog 12 #[] w fun e w' => e = .returned (.bool true) ∧ Below w.heap.size w w') (A0 : Option Addr) (c0 : Nat) (l0 : List Nat) (A1 : Option Addr) (c1 : Nat) (l1 : List Nat) (a b c : Int) (W : World)
    (hl0 : l0.length ≤ 9223372036854775807) (hl1 : l1.length ≤ 9223372036854775807) (hb0 : ∀ x ∈ l0, x ≤ 255) (hb1 : ∀ x ∈ l1, x ≤ 255) (s0 : Sl encBn 1 W W.heap.size A0 l0) (s1 : Sl encBn 1 W W.heap.size A1 l1) (ha0 : 0 ≤ a) (ha1 : a ≤ 255) (hbb0 : 0 ≤ b) (hbb1 : b ≤ 255) (hc0 : 0 ≤ c) (hc1 : c ≤ 255) :
    Calls Try.prog 6 #[.slice A0 l0.length c0, .slice A1 l1.length c1, .int .u8 a, .int .u8 b, .int .u8 c] W fun e w' => e = .returned (.bool true) ∧ Below W.heap.size W w' := by
  obtain ⟨t, ht⟩ : ∃ t, t = madeT l0 := ⟨_, rfl⟩
  have hc : checkT t = 0 := by rw [ht]; exact madeT_ok l0
  have hs : Sizes t := by rw [ht]; exact made_sizes l0
  have hch := chk_ok hc
  obtain ⟨n, hn⟩ : ∃ n, n = (edsR t).length := ⟨_, rfl⟩
  have hn7 := eds_le hc
  rw [← hn] at hn7
  obtain ⟨hn1, hn2⟩ := hn7
  have mod : ∀ v : Int, 0 ≤ v → ∃ y : Nat, v % (n : Int) = (y : Int) ∧ y < n := fun v hv => ⟨(v % (n : Int)).toNat, by have := Int.emod_nonneg v (show (n : Int) ≠ 0 by omega); omega, by have := Int.emod_lt_of_pos v (show (0 : Int) < (n : Int) by omega); omega⟩
  obtain ⟨xa, hxa, hxl⟩ := mod a ha0
  obtain ⟨ya, hya, hyl⟩ := mod b hbb0
  obtain ⟨za, hza, hzl⟩ := mod c hc0
  obtain ⟨d1, hd1⟩ : ∃ x, x = changeB t ((edsR t).getD xa ed0) ((edsR t).getD ya ed0) := ⟨_, rfl⟩
  obtain ⟨d2, hd2⟩ : ∃ x, x = changeB t ((edsR t).getD xa ed0) ((edsR t).getD za ed0) := ⟨_, rfl⟩
  obtain ⟨d3, hd3⟩ : ∃ x, x = changeB t ((edsR t).getD za ed0) ((edsR t).getD ya ed0) := ⟨_, rfl⟩
  have hg := good_of_paired hch.ok.pair
  have b1 := changeB_bd' hch ((edsR t).getD xa ed0) ((edsR t).getD ya ed0)
  have b2 := changeB_bd' hch ((edsR t).getD xa ed0) ((edsR t).getD za ed0)
  have b3 := changeB_bd' hch ((edsR t).getD za ed0) ((edsR t).getD ya ed0)
  have bw := allB_bd hch
  have htri := changeB_tri hg hch.ok.c4 ((edsR t).getD xa ed0) ((edsR t).getD ya ed0) ((edsR t).getD za ed0)
  have hle := changeB_le hg hch.ok.c4 ((edsR t).getD xa ed0) ((edsR t).getD ya ed0)
  have hsy : d1 = changeB t ((edsR t).getD ya ed0) ((edsR t).getD xa ed0) := by rw [hd1]; exact changeB_symm hg _ _
  have hz0 := change_zero hch (a := xa) (b := ya) (by omega) (by omega)
  rw [← hd1] at b1 htri hle hz0
  rw [← hd2] at b2 htri
  rw [← hd3] at b3 htri
  obtain ⟨bq, hbq⟩ : ∃ q, q = decide (xa = ya) := ⟨_, rfl⟩
  have t1 : (d1 == 0) = bq := by rw [hbq, Bool.eq_iff_iff]; simp [hz0]
  have t2 : ((xa : Int) == (ya : Int)) = bq := by rw [hbq, Bool.eq_iff_iff]; simp; omega
  have t3 : decide (d2 + d3 < d1) = false := by simp; omega
  have t4 : decide (d1 < 0) = false := by simp; omega
  have t5 : decide (allB t < d1) = false := by simp; omega
  have t6 : decide ((n : Int) < 1) = false := by simp; omega
  have t7 : decide ((7 : Int) < (n : Int)) = false := by simp; omega
  have HX := Lib.hid (And.intro hxa (And.intro hya hza))
  have HT0 := Lib.hid ht
  have HN := Lib.hid hn
  have HCH := Lib.hid hch
  have HSZ := Lib.hid hs
  have HC := Lib.hid hc
  have HD := Lib.hid (And.intro hd1 (And.intro hsy (And.intro hd2 hd3)))
  have HS0 := Lib.hid s0
  have HS1 := Lib.hid s1
  have HB1' := Lib.hid hb1
  have hpl : (permM l1 n).length = n := permM_len l1 n
  clear hz0 hbq htri hle hd1 hd2 hd3 hsy hg hch hs hc hn s0 s1 hb1 mod ht
  go_enter Try.func6, Try.ntmps6
  go_upto_region 1 with fail
  go_upto_region 2 with (go_at_call 14; refine (made_w A0 c0 l0 _ t HT0.out hl0 hb0 HS0.out).mono ?_; rintro e w1 ⟨x, zs, rfl, HT, HB⟩)
  obtain ⟨gT, hgT⟩ : ∃ g, g = w1.heap.size := ⟨_, rfl⟩
  obtain ⟨w2, hw2⟩ : ∃ W, W = w1.alloc (.cells #[.slice x.a t.colours.length x.ca, .slice x.b t.pairs.length x.cb, .slice x.z t.zones.length x.cz, .slice x.r t.ready.length x.cr, .int .i64 t.start, .int .i64 t.rate, .int .i64 t.stop, .int .i64 t.hang] 26) := ⟨_, rfl⟩
  have KT := Lib.hid (show Blk w2 gT 26 (titV t x) by rw [hw2, hgT]; exact Blk.new w1 26 (titV t x))
  have hb12 : Below w1.heap.size w1 w2 := by rw [hw2]; exact (Below.refl _ _).alloc (Nat.le_refl _) _
  have H2 := Lib.hid (HB.out.trans (hb12.mono HB.out.size))
  have HT2 := Lib.hid (show ∀ W', Below w2.heap.size w2 W' → TitAt W' W'.heap.size t x zs from fun W' hb => ((HT.out.below (hb12.trans (hb.mono hb12.size))).mono ((hb12.trans (hb.mono hb12.size)).size)))
  rw [← hw2, ← hgT]
  clear hw2 hgT hb12
  obtain ⟨a0, a1, a2, a3, a4, a5, a6, a7⟩ := tit_cells KT.out
  go_upto_region 3 with (go_at_call 15; refine (eds_w t x zs _ HSZ.out HC.out n HN.out (HT2.out _ (Below.refl _ _))).mono ?_; rintro e w3 ⟨k, rfl, HK, HB3⟩; obtain ⟨a0, a1, a2, a3, a4, a5, a6, a7⟩ := tit_cells (KT.out.below HB3.out KT.out.lt))
  go_upto_region 5 with fail
  go_quiet (fail)
  go_upto_region 6 with fail
  rw [HX.out.1, HX.out.2.1, HX.out.2.2]
  obtain ⟨w4, hw4⟩ : ∃ W, W = w3.drewN nq := ⟨_, rfl⟩
  rw [← hw4]
  have H4 := Lib.hid (show Below w2.heap.size w2 w4 by rw [hw4]; exact below_drewN HB3.out nq)
  clear hw4 a0 a1 a2 a3 a4 a5 a6 a7
  obtain ⟨a0, a1, a2, a3, a4, a5, a6, a7⟩ := tit_cells (KT.out.below H4.out KT.out.lt)
  go_upto_region 7 with (go_at_call 22; refine (change_w t x zs _ HSZ.out HC.out xa ya (by rw [← HN.out]; exact hxl) (by rw [← HN.out]; exact hyl) d1 HD.out.1 (HT2.out _ H4.out)).mono ?_; rintro e w5 ⟨rfl, hb⟩; have H5 := Lib.hid (H4.out.trans (hb.out.mono H4.out.size)); clear hb; obtain ⟨a0, a1, a2, a3, a4, a5, a6, a7⟩ := tit_cells (KT.out.below H5.out KT.out.lt))
  go_upto_region 8 with (go_at_call 22; refine (change_w t x zs _ HSZ.out HC.out ya xa (by rw [← HN.out]; exact hyl) (by rw [← HN.out]; exact hxl) d1 HD.out.2.1 (HT2.out _ H5.out)).mono ?_; rintro e w6 ⟨rfl, hb⟩; have H6 := Lib.hid (H5.out.trans (hb.out.mono H5.out.size)); clear hb; obtain ⟨a0, a1, a2, a3, a4, a5, a6, a7⟩ := tit_cells (KT.out.below H6.out KT.out.lt))
  go_upto_region 9 with (go_at_call 22; refine (change_w t x zs _ HSZ.out HC.out xa za (by rw [← HN.out]; exact hxl) (by rw [← HN.out]; exact hzl) d2 HD.out.2.2.1 (HT2.out _ H6.out)).mono ?_; rintro e w7 ⟨rfl, hb⟩; have H7 := Lib.hid (H6.out.trans (hb.out.mono H6.out.size)); clear hb; obtain ⟨a0, a1, a2, a3, a4, a5, a6, a7⟩ := tit_cells (KT.out.below H7.out KT.out.lt))
  go_upto_region 10 with (go_at_call 22; refine (change_w t x zs _ HSZ.out HC.out za ya (by rw [← HN.out]; exact hzl) (by rw [← HN.out]; exact hyl) d3 HD.out.2.2.2 (HT2.out _ H7.out)).mono ?_; rintro e w8 ⟨rfl, hb⟩; have H8 := Lib.hid (H7.out.trans (hb.out.mono H7.out.size)); clear hb; obtain ⟨a0, a1, a2, a3, a4, a5, a6, a7⟩ := tit_cells (KT.out.below H8.out KT.out.lt))
  go_upto_region 11 with (go_at_call 23; refine (plates_w t x zs _ HSZ.out HC.out (HT2.out _ H8.out)).mono ?_; rintro e w9 ⟨rfl, hb⟩; have H9 := Lib.hid (H8.out.trans (hb.out.mono H8.out.size)); clear hb; obtain ⟨a0, a1, a2, a3, a4, a5, a6, a7⟩ := tit_cells (KT.out.below H9.out KT.out.lt))
  go_upto_region 13 with fail
  go_upto_region 14 with (go_at_call 16; refine (perm_w A1 c1 n l1 _ (by omega) hl1 HB1'.out ((HS1.out.below (H2.out.trans (H9.out.mono H2.out.size))).mono (H2.out.trans (H9.out.mono H2.out.size)).size)).mono ?_; rintro e w10 ⟨Ao, co, rfl, HO, hb⟩; have H10 := Lib.hid (H9.out.trans (hb.out.mono H9.out.size)); clear hb; obtain ⟨a0, a1, a2, a3, a4, a5, a6, a7⟩ := tit_cells (KT.out.below H10.out KT.out.lt))
  obtain ⟨o, ho⟩ : ∃ o, o = permM l1 n := ⟨_, rfl⟩
  rw [← ho] at hpl HO
  have HOE := Lib.hid (show ∀ e ∈ o, e < (edsR t).length from by rw [ho, ← HN.out]; exact permM_lt l1 n)
  have HOO := Lib.hid (show ordersB (edsR t).length (o.map fun (e : Nat) => (e : Int)) = true by rw [ho, ← HN.out]; exact permM_orders l1 n)
  clear ho
  have HCS := Lib.hid (show Calls Try.prog 24 #[.agg #[.slice x.a t.colours.length x.ca, .slice x.b t.pairs.length x.cb, .slice x.z t.zones.length x.cz, .slice x.r t.ready.length x.cr, .int .i64 t.start, .int .i64 t.rate, .int .i64 t.stop, .int .i64 t.hang], .slice Ao n co] w10 fun e w' => ∃ A' c', e = .returned (.tuple #[.slice A' n c', .int .i64 0]) ∧ Hid (Sl encSlo 4 w' w'.heap.size A' (slotsD t (edsR t) o)) ∧ Hid (Below w10.heap.size w10 w') from by
    have := slots_w t x zs w10 HSZ.out HC.out Ao co o (by omega) HO.out HOO.out (HT2.out _ H10.out)
    rw [hpl] at this; exact this)
  go_upto_region 15 with (go_at_call 24; refine HCS.out.mono ?_; rintro e ws ⟨As, cs, rfl, HS, hbs⟩; have H11 := Lib.hid (H10.out.trans (hbs.out.mono H10.out.size)); have HO2 := Lib.hid ((HO.out.below hbs.out).mono hbs.out.size); clear hbs; obtain ⟨a0, a1, a2, a3, a4, a5, a6, a7⟩ := tit_cells (KT.out.below H11.out KT.out.lt))
  go_upto_region 17 with fail
  go_wp2_with fail
  have hsl : (slotsD t (edsR t) o).length = n := by rw [← hpl]; exact upF_len _ _
  clear a0 a1 a2 a3 a4 a5 a6 a7 t1 t2 t3 t4 t5
  go_loopw [167] (fun ik wr => ∃ q : Nat, q ≤ n ∧ ik = .int .i64 q ∧ Hid (Below ws.heap.size ws wr)) (fun ik _ => n - (intOf ik).toNat)
  case atStart => exact ⟨0, Nat.zero_le _, rfl, Lib.hid (Below.refl _ _)⟩
  case round =>
    obtain ⟨q, hq, rfl, HBR⟩ := hrel
    by_cases hlt : q < n
    · obtain ⟨oe, hoe⟩ : ∃ e, e = o[q]'(by omega) := ⟨_, rfl⟩
      obtain ⟨sl, hsl0⟩ : ∃ s, s = slotAt t (edsR t) o q := ⟨_, rfl⟩
      have hsg : (slotsD t (edsR t) o)[q]'(by omega) = sl := by rw [hsl0]; simp [slotsD, upF]
      obtain ⟨sb, so, rfl, hsb, e0, e1, e2, e3⟩ := Sl.atSlo (HS.out.below HBR.out) (k := q) (by omega)
      rw [hsg] at e0 e1 e2 e3
      obtain ⟨ob, oo, rfl, hob, p0⟩ := (HO2.out.below HBR.out).at1 (k := q) (by simp; omega)
      have hp0 : ((o.map fun (e : Nat) => (e : Int))[q]'(by simp; omega)) = (oe : Int) := by simp [hoe]
      rw [hp0] at p0
      have hed : sl.edition = (oe : Int) := by rw [hsl0, hoe]; exact slotAt_ed _ _ _ (by omega)
      rw [hed] at e0
      have hbd := slotAt_bd HCH.out HOE.out q (by omega)
      rw [← hsl0] at hbd
      have tf : decide (sl.fin ≤ sl.beg) = false := by simp; omega
      have i0 : (0 : Int) ≤ (q : Int) := by omega
      have i1 : (q : Int) < (n : Int) := by omega
      have HSB := Lib.hid hsb
      have HOB := Lib.hid hob
      by_cases hq0 : q = 0
      · have tq : decide ((0 : Int) < (q : Int)) = false := by simp; omega
        have tq2 : decide (0 < q) = false := by simp; omega
        have hp1 : sl.plates = allB t := by rw [hsl0]; subst hq0; rw [slotAt_zero _ _ _ (by omega)]; rfl
        rw [hp1] at e1
        clear hq0 hsl0 hoe hsg hp0 hed hbd hp1
        go_upto_region 26 with fail
        go_quiet (fail)
        go_wp2_with fail
        go_roundw
        case rel => exact ⟨q + 1, by omega, by go_num, Lib.hid (by repeat (first | exact HBR.out | refine below_drewN ?_ _ | refine Below.drew ?_))⟩
        case measure => simp [intOf]; omega
      · have tq : decide ((0 : Int) < (q : Int)) = true := by simp; omega
        have tq2 : decide (0 < q) = true := by simp; omega
        obtain ⟨op, hop⟩ : ∃ e, e = o[q - 1]'(by omega) := ⟨_, rfl⟩
        obtain ⟨sp, hsp0⟩ : ∃ s, s = slotAt t (edsR t) o (q - 1) := ⟨_, rfl⟩
        obtain ⟨dk, hdk⟩ : ∃ d, d = changeB t ((edsR t).getD op ed0) ((edsR t).getD oe ed0) := ⟨_, rfl⟩
        have hsg2 : (slotsD t (edsR t) o)[q - 1]'(by omega) = sp := by rw [hsp0]; simp [slotsD, upF]
        have hsl1 : sl = nextS t (edsR t) oe op sp.fin := by
          rw [hsl0, hoe, hop, hsp0]
          have := slotAt_succ t (edsR t) o (i := q - 1) (by omega)
          simp only [show q - 1 + 1 = q by omega] at this
          exact this
        have hpl1 : sl.plates = dk := by rw [hsl1, hdk]; rfl
        have hbg1 : sl.beg = max sp.fin ((edsR t).getD oe ed0).ready + t.stop + dk * t.hang := by rw [hsl1, hdk]; rfl
        have hbd2 := slotAt_bd HCH.out HOE.out (q - 1) (by omega)
        rw [← hsp0] at hbd2
        have bdk := changeB_bd' HCH.out ((edsR t).getD op ed0) ((edsR t).getD oe ed0)
        rw [← hdk] at bdk
        have hok := HCH.out.ok
        have s0' := hok.stop0
        have s1' := hok.stop1
        have g0' := hok.hang0
        have g1' := hok.hang1
        have hmul : 0 ≤ dk * t.hang ∧ dk * t.hang ≤ 256 * 3600 := ⟨Int.mul_nonneg (by omega) g0', Int.mul_le_mul bdk.2 g1' g0' (by omega)⟩
        obtain ⟨hm0, hm1⟩ := hmul
        have tb : decide (sl.beg < sp.fin + t.stop + dk * t.hang) = false := by simp; omega
        have fb0 : 0 ≤ sp.fin := by omega
        have fb1 : sp.fin ≤ 5054000000 := by omega
        have hopl : op < n := by rw [HN.out, hop]; exact HOE.out _ (List.getElem_mem _)
        have hoel : oe < n := by rw [HN.out, hoe]; exact HOE.out _ (List.getElem_mem _)
        have HDK := Lib.hid hdk
        have c1' := Sl.atSlo' (HS.out.below HBR.out) (k := q - 1) (by omega)
        rw [hsg2] at c1'
        obtain ⟨-, f3⟩ := c1'
        have p1 := Sl.at1' (HO2.out.below HBR.out) (k := q - 1) (by simp; omega)
        have hp1 : ((o.map fun (e : Nat) => (e : Int))[q - 1]'(by simp; omega)) = (op : Int) := by simp [hop]
        rw [hp1] at p1
        rw [hpl1] at e1
        have HTR := Lib.hid (show ∀ W', Below wr.heap.size wr W' → TitAt W' W'.heap.size t x zs from fun W' hb => HT2.out W' (H11.out.trans ((HBR.out.trans (hb.mono HBR.out.size)).mono H11.out.size)))
        have i2 : (0 : Int) ≤ (q : Int) - 1 := by omega
        have i3 : (q : Int) - 1 < (n : Int) := by omega
        have i4 : ((q : Int) - 1).toNat = q - 1 := by omega
        obtain ⟨a0, a1, a2, a3, a4, a5, a6, a7⟩ := tit_cells (KT.out.below (H11.out.trans (HBR.out.mono H11.out.size)) KT.out.lt)
        have hgt := Nat.lt_of_lt_of_le KT.out.lt (H11.out.trans (HBR.out.mono H11.out.size)).size
        have SB := Lib.hid (show ∀ W', Below wr.heap.size wr W' → Blk W' gT 26 (titV t x) ∧ W'.cell? ⟨ob, oo + q, none⟩ = some (.int .i64 (oe : Int)) ∧ W'.cell? ⟨ob, oo + (q - 1), none⟩ = some (.int .i64 (op : Int)) ∧ W'.cell? ⟨sb, so + q * 4, none⟩ = some (.int .i64 (oe : Int)) ∧ W'.cell? ⟨sb, so + q * 4 + 1, none⟩ = some (.int .i64 dk) ∧ W'.cell? ⟨sb, so + q * 4 + 2, none⟩ = some (.int .i64 sl.beg) ∧ W'.cell? ⟨sb, so + q * 4 + 3, none⟩ = some (.int .i64 sl.fin) ∧ W'.cell? ⟨sb, so + (q - 1) * 4 + 3, none⟩ = some (.int .i64 sp.fin) from fun W' hb =>
          ⟨(KT.out.below (H11.out.trans (HBR.out.mono H11.out.size)) KT.out.lt).below hb hgt, (hb.cell (p := ⟨ob, _, none⟩) (Nat.lt_of_lt_of_le hob HBR.out.size)).trans p0, (hb.cell (p := ⟨ob, _, none⟩) (Nat.lt_of_lt_of_le hob HBR.out.size)).trans p1, (hb.cell (p := ⟨sb, _, none⟩) (Nat.lt_of_lt_of_le hsb HBR.out.size)).trans e0, (hb.cell (p := ⟨sb, _, none⟩) (Nat.lt_of_lt_of_le hsb HBR.out.size)).trans e1, (hb.cell (p := ⟨sb, _, none⟩) (Nat.lt_of_lt_of_le hsb HBR.out.size)).trans e2, (hb.cell (p := ⟨sb, _, none⟩) (Nat.lt_of_lt_of_le hsb HBR.out.size)).trans e3, (hb.cell (p := ⟨sb, _, none⟩) (Nat.lt_of_lt_of_le hsb HBR.out.size)).trans f3⟩)
        clear hq0 hsl0 hoe hsg hp0 hed hbd hp1 hop hsp0 hdk hsg2 hsl1 hpl1 hbg1 hbd2 hok hsb hob
        go_upto_region 22 with fail
        have k1 : IntKind.i64.wrap ((q : Int) - 1) = (q : Int) - 1 := by rw [IntKind.wrap_i64]; omega
        have j1 : (1 : Int) ≤ (q : Int) := by omega
        have j2 : (0 : Int) ≤ (q : Int) - 1 := by omega
        have j3 : (q : Int) - 1 < (n : Int) := by omega
        have HSS := Lib.hid (show ∀ W', Below wr.heap.size wr W' → (W'.cell? ⟨gT, 0, none⟩ = some (.slice x.a t.colours.length x.ca) ∧ W'.cell? ⟨gT, 1, none⟩ = some (.slice x.b t.pairs.length x.cb) ∧ W'.cell? ⟨gT, 2, none⟩ = some (.slice x.z t.zones.length x.cz) ∧ W'.cell? ⟨gT, 3, none⟩ = some (.slice x.r t.ready.length x.cr) ∧ W'.cell? ⟨gT, 4, none⟩ = some (.int .i64 t.start) ∧ W'.cell? ⟨gT, 5, none⟩ = some (.int .i64 t.rate) ∧ W'.cell? ⟨gT, 6, none⟩ = some (.int .i64 t.stop) ∧ W'.cell? ⟨gT, 7, none⟩ = some (.int .i64 t.hang)) ∧ W'.cell? ⟨ob, oo + q, none⟩ = some (.int .i64 (oe : Int)) ∧ W'.cell? ⟨ob, oo + (q - 1), none⟩ = some (.int .i64 (op : Int)) from fun W' hb => ⟨tit_cells (SB.out W' hb).1, (SB.out W' hb).2.1, (SB.out W' hb).2.2.1⟩)
        clear a0 a1 a2 a3 a4 a5 a6 a7 e0 e1 e2 e3 f3 p0 p1
        go_region_held3 (fun W' => (W'.cell? ⟨gT, 0, none⟩ = some (.slice x.a t.colours.length x.ca) ∧ W'.cell? ⟨gT, 1, none⟩ = some (.slice x.b t.pairs.length x.cb) ∧ W'.cell? ⟨gT, 2, none⟩ = some (.slice x.z t.zones.length x.cz) ∧ W'.cell? ⟨gT, 3, none⟩ = some (.slice x.r t.ready.length x.cr) ∧ W'.cell? ⟨gT, 4, none⟩ = some (.int .i64 t.start) ∧ W'.cell? ⟨gT, 5, none⟩ = some (.int .i64 t.rate) ∧ W'.cell? ⟨gT, 6, none⟩ = some (.int .i64 t.stop) ∧ W'.cell? ⟨gT, 7, none⟩ = some (.int .i64 t.hang)) ∧ W'.cell? ⟨ob, oo + q, none⟩ = some (.int .i64 (oe : Int)) ∧ W'.cell? ⟨ob, oo + (q - 1), none⟩ = some (.int .i64 (op : Int)))
          ((refine HSS.out _ ?_; (repeat (first | exact Below.refl _ _ | exact HB12.out | refine Below.drew ?_)); done))
          ((go_at_call 22; refine (change_w t x zs _ HSZ.out HC.out op oe (by rw [← HN.out]; exact hopl) (by rw [← HN.out]; exact hoel) dk HDK.out (HTR.out _ (by repeat (first | exact Below.refl _ _ | refine Below.drew ?_)))).mono ?_; rintro e w12 ⟨rfl, hb⟩; have HB12 := Lib.hid (((Below.refl wr.heap.size wr).drew).trans hb.out); clear hb))
        go_upto_region 23 with fail
        obtain ⟨kt12, p0, p1, e0, e1, e2, e3, f3⟩ := SB.out w12 HB12.out
        obtain ⟨a0, a1, a2, a3, a4, a5, a6, a7⟩ := tit_cells kt12
        clear kt12
        have k1 : IntKind.i64.wrap ((q : Int) - 1) = (q : Int) - 1 := by rw [IntKind.wrap_i64]; omega
        have k2 : IntKind.i64.wrap (dk * t.hang) = dk * t.hang := by rw [IntKind.wrap_i64]; omega
        have k3 : IntKind.i64.wrap (sp.fin + t.stop) = sp.fin + t.stop := by rw [IntKind.wrap_i64]; omega
        have k4 : IntKind.i64.wrap (sp.fin + t.stop + dk * t.hang) = sp.fin + t.stop + dk * t.hang := by rw [IntKind.wrap_i64]; omega
        go_quiet (fail)
        go_upto_region 26 with fail
        go_quiet (fail)
        go_wp2_with fail
        go_roundw
        case rel => exact ⟨q + 1, by omega, by go_num, Lib.hid (by repeat (first | exact HBR.out.trans (HB12.out.mono HBR.out.size) | refine below_drewN ?_ _ | refine Below.drew ?_))⟩
        case measure => simp [intOf]; omega
    · go_wp2_with (go_at_call 12; refine (haw _).mono ?_; rintro e wz ⟨rfl, hbz⟩; have HBZ := Lib.hid hbz; clear hbz)
      go_ret
      have hF := H2.out.trans ((H11.out.trans (HBR.out.mono H11.out.size)).mono H2.out.size)
      exact ⟨rfl, hF.trans (HBZ.out.mono hF.size)⟩
end Go.Proofs.Ytokdleanpkkdpaa
