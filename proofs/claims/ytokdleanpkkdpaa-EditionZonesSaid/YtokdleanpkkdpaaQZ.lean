/- The walk of EditionZones; conditions: bytes. -/
import Derived.Test.YtokdleanpkkdpaaQI
import Derived.Deep.QuietTactic
import Derived.BigQuiet
import Derived.Deep.RegionHeld3
import Derived.Deep.DeepCutAuto
set_option linter.unusedSimpArgs false
set_option linter.unusedVariables false
namespace Go.Ed
/-- what the parts of an order know -/
structure PartQ (t : TitD) (zl : List Int) (pl : List (Int × Int × Int)) (q : Nat) (zq : Nat) (m c : Int) : Prop where
  hz : zq < t.zones.length
  hzl : zl[q]? = some (zq : Int)
  hp : pl[q]? = some ((zq : Int), m, m + c - 1)
  hm : m = sumC t (zl.take q)
  hm2 : sumC t (zl.take (q + 1)) = m + c
  hc : c = copZ t (zq : Int)
  c1 : 1 ≤ c
  c2 : c ≤ 200
  m0 : 0 ≤ m
  m1 : m ≤ 200 * q
theorem part_q {t : TitD} {zl : List Int} (hp : zl.Perm ((List.range t.zones.length).map fun (i : Nat) => (i : Int))) (hz : ∀ z ∈ t.zones, 1 ≤ z.copies ∧ z.copies ≤ 200) {q : Nat} (hq : q < t.zones.length) : ∃ (zq : Nat) (m c : Int), PartQ t zl (partsGo t 0 zl) q zq m c := by
  have hl : zl.length = t.zones.length := by rw [hp.length_eq]; simp
  have hmem : ∀ z ∈ zl, ∃ k : Nat, k < t.zones.length ∧ (k : Int) = z := fun z h => by
    obtain ⟨k, hk, e⟩ := List.mem_map.1 (hp.mem_iff.1 h)
    exact ⟨k, List.mem_range.1 hk, e⟩
  have hcop : ∀ k : Nat, k < t.zones.length → 1 ≤ copZ t (k : Int) ∧ copZ t (k : Int) ≤ 200 := fun k hk => by
    have := hz t.zones[k] (List.getElem_mem hk)
    simp [copZ, List.getD_eq_getElem?_getD, hk]
    exact this
  have hb : ∀ j, j ≤ zl.length → 0 ≤ sumC t (zl.take j) ∧ sumC t (zl.take j) ≤ 200 * (j : Int) := by
    intro j
    induction j with
    | zero => intro _; simp [sumC]
    | succ j ih =>
      intro hj
      have h1 := ih (by omega)
      rw [List.take_succ_eq_append_getElem (by omega), sumC_snoc]
      obtain ⟨k, hk, e⟩ := hmem zl[j] (List.getElem_mem (by omega))
      rw [← e]
      have := hcop k hk
      omega
  obtain ⟨zq, hzq, e⟩ := hmem zl[q] (List.getElem_mem (by omega))
  have hg := partsGo_get t zl 0 q (by omega)
  have h2 : sumC t (zl.take (q + 1)) = sumC t (zl.take q) + copZ t (zq : Int) := by rw [List.take_succ_eq_append_getElem (by omega), sumC_snoc, e]
  have hc := hcop zq hzq
  have hbq := hb q (by omega)
  refine ⟨zq, sumC t (zl.take q), copZ t (zq : Int), hzq, ?_, ?_, rfl, h2, rfl, hc.1, hc.2, hbq.1, hbq.2⟩
  · rw [List.getElem?_eq_getElem (by omega), e]
  · rw [List.getElem?_eq_getElem (by rw [partsGo_len]; omega), hg, e, h2]
    simp [e]
end Go.Ed
namespace Go.Proofs.Ytokdleanpkkdpaa
open Go.RowKit Go.Fh Go.Ed
theorem sl3_at {B : Nat} {w : World} {A : Option Addr} {l : List (Int × Int × Int)} (h : Sl enc3 3 w B A l) {k : Nat} {a b c : Int} (hk : l[k]? = some (a, b, c)) :
    ∃ g off, A = some ⟨g, off, none⟩ ∧ g < B ∧ w.cell? ⟨g, off + k * 3, none⟩ = some (.int .i64 a) ∧ w.cell? ⟨g, off + k * 3 + 1, none⟩ = some (.int .i64 b) ∧ w.cell? ⟨g, off + k * 3 + 2, none⟩ = some (.int .i64 c) := by
  obtain ⟨hlt, e⟩ := List.getElem?_eq_some_iff.1 hk
  obtain ⟨g, off, hA, hg, c0, c1, c2⟩ := h.at3 hlt
  rw [e] at c0 c1 c2
  exact ⟨g, off, hA, hg, c0, c1, c2⟩
theorem slZ_at {B : Nat} {w : World} {A : Option Addr} {l : List ZonM} (h : Sl encZon 3 w B A l) {k : Nat} (hk : k < l.length) :
    ∃ g off, A = some ⟨g, off, none⟩ ∧ g < B ∧ w.cell? ⟨g, off + k * 3, none⟩ = some (.int .i64 l[k].1.copies) ∧ w.cell? ⟨g, off + k * 3 + 1, none⟩ = some (.int .i64 l[k].1.due) ∧ w.cell? ⟨g, off + k * 3 + 2, none⟩ = some (.slice l[k].2.1 l[k].1.variants.length l[k].2.2) := by
  obtain ⟨b, off, hA, hb, hc⟩ := h.at_ hk
  exact ⟨b, off, hA, hb, hc 0 _ rfl, hc 1 _ rfl, hc 2 _ rfl⟩
set_option maxRecDepth 100000 in
set_option maxHeartbeats 8000000 in
theorem editionZones_walk (haw : ∀ w, Calls Try.prog 12 #[] w fun e w' => e = .returned (.bool true) ∧ Below w.heap.size w w') (A0 : Option Addr) (c0 : Nat) (l0 : List Nat) (A1 : Option Addr) (c1 : Nat) (l1 : List Nat) (cp : Int) (W : World)
    (hl0 : l0.length ≤ 9223372036854775807) (hl1 : l1.length ≤ 9223372036854775807) (hb0 : ∀ x ∈ l0, x ≤ 255) (hb1 : ∀ x ∈ l1, x ≤ 255) (s0 : Sl encBn 1 W W.heap.size A0 l0) (s1 : Sl encBn 1 W W.heap.size A1 l1) (hc0 : 0 ≤ cp) (hc1 : cp ≤ 65535) :
    Calls Try.prog 5 #[.slice A0 l0.length c0, .slice A1 l1.length c1, .int .u16 cp] W fun e w' => e = .returned (.bool true) ∧ Below W.heap.size W w' := by
  obtain ⟨t, ht⟩ : ∃ t, t = madeT l0 := ⟨_, rfl⟩
  have hc : checkT t = 0 := by rw [ht]; exact madeT_ok l0
  have hs : Sizes t := by rw [ht]; exact made_sizes l0
  have hzo : ∀ z ∈ t.zones, 1 ≤ z.copies ∧ z.copies ≤ 200 := by rw [ht]; exact fun z hz => ⟨(made_zones l0 z hz).lo, (made_zones l0 z hz).hi⟩
  have hch := chk_ok hc
  obtain ⟨n, hn⟩ : ∃ n, n = (edsR t).length := ⟨_, rfl⟩
  have hn7 := eds_le hc
  rw [← hn] at hn7
  obtain ⟨hn1, hn2⟩ := hn7
  obtain ⟨o, ho⟩ : ∃ o, o = permM l1 n := ⟨_, rfl⟩
  have hpl : o.length = n := by rw [ho]; exact permM_len l1 n
  have hoe : ∀ e ∈ o, e < (edsR t).length := by rw [ho, ← hn]; exact permM_lt l1 n
  have hoo : ordersB (edsR t).length (o.map fun (e : Nat) => (e : Int)) = true := by rw [ho, ← hn]; exact permM_orders l1 n
  obtain ⟨zl, hzl⟩ : ∃ zl, zl = zoneL (edsR t) o := ⟨_, rfl⟩
  have hzp : zl.Perm ((List.range t.zones.length).map fun (i : Nat) => (i : Int)) := by rw [hzl]; exact zoneL_all t (by rw [ho, ← hn]; exact permM_perm l1 n) (fun z hz => (hzo z hz).1)
  have hzlen : zl.length = t.zones.length := by rw [hzp.length_eq]; simp
  have hcz : ∀ z ∈ zl, 1 ≤ copZ t z := fun z h => by
    obtain ⟨k, hk, rfl⟩ := List.mem_map.1 (hzp.mem_iff.1 h)
    have hk := List.mem_range.1 hk
    have := (hzo t.zones[k] (List.getElem_mem hk)).1
    simp [copZ, List.getD_eq_getElem?_getD, hk]
    exact this
  have hz12 := hch.z1
  have hz1 := hch.z0
  obtain ⟨pl, hpE⟩ : ∃ pl, pl = partsL t (edsR t) o := ⟨_, rfl⟩
  have hpE2 : pl = partsGo t 0 zl := by rw [hpE, hzl]; rfl
  have hplen : t.zones.length = pl.length := by rw [hpE2, partsGo_len, hzlen]
  obtain ⟨tot, htot⟩ : ∃ x, x = sumC t zl := ⟨_, rfl⟩
  have ht1 : 1 ≤ tot := by rw [htot]; exact sum_pos_copies t hcz (by intro e; rw [e] at hzlen; simp at hzlen; omega)
  have hpq := fun q (hq : q < t.zones.length) => part_q hzp hzo hq
  have ht2 : tot ≤ 2400 := by
    obtain ⟨zq, m, c, hP⟩ := hpq (t.zones.length - 1) (by omega)
    have e := hP.hm2
    rw [show t.zones.length - 1 + 1 = zl.length by omega, List.take_length, ← htot] at e
    have := hP.m1
    have := hP.c2
    omega
  obtain ⟨kk, hkk⟩ : ∃ x, x = cp % tot := ⟨_, rfl⟩
  have hk0 : 0 ≤ kk := by rw [hkk]; exact Int.emod_nonneg _ (by omega)
  have hk1 : kk < tot := by rw [hkk]; exact Int.emod_lt_of_pos _ (by omega)
  obtain ⟨zz, xx, lo, hi, hmem, hlo, hhi, hwh, hzz, hxx, hvar⟩ := which_hit hoe hk0 (by rw [← hzl, ← htot]; exact hk1)
  have hwn := which_none (t := t) (o := o) (by rw [← hzl]; exact fun z hz => by have := hcz z hz; omega)
  rw [← hzl, ← htot] at hwn
  rw [← hpE] at hmem
  have HKK := Lib.hid hkk
  have HWH := Lib.hid hwh
  have HWN := Lib.hid hwn
  have HVAR := Lib.hid hvar
  have HANY := Lib.hid (show pl.any (hitB (zz : Int) kk) = true from by rw [List.any_eq_true]; exact ⟨_, hmem, by simp [hitB, hlo, hhi]⟩)
  have HZP := Lib.hid hzp
  have HPQ := Lib.hid hpq
  have HPE2 := Lib.hid hpE2
  have HPL := Lib.hid hplen
  have HPE := Lib.hid hpE
  have HTOT := Lib.hid htot
  have HZL := Lib.hid hzlen
  have HT0 := Lib.hid ht
  have HN := Lib.hid hn
  have HO0 := Lib.hid ho
  have HOE := Lib.hid hoe
  have HOO := Lib.hid hoo
  have HCH := Lib.hid hch
  have HSZ := Lib.hid hs
  have HC := Lib.hid hc
  have HS0 := Lib.hid s0
  have HS1 := Lib.hid s1
  have HB1' := Lib.hid hb1
  have t6 : decide ((n : Int) < 1) = false := by simp; omega
  have t7 : decide ((7 : Int) < (n : Int)) = false := by simp; omega
  clear hkk hwh hwn hvar hmem hzp hpq hpE2 hplen hpE htot hzlen ht hn ho hoe hoo hch hs hc s0 s1 hb1 hzo hcz hlo hhi hzl
  go_enter Try.func5, Try.ntmps5
  go_upto_region 1 with fail
  go_upto_region 2 with (go_at_call 14; refine (made_w A0 c0 l0 _ t HT0.out hl0 hb0 HS0.out).mono ?_; rintro e w1 ⟨x, zs, rfl, HT, HB⟩)
  obtain ⟨gT, hgT⟩ : ∃ g, g = w1.heap.size := ⟨_, rfl⟩
  obtain ⟨w2, hw2⟩ : ∃ W, W = w1.alloc (.cells #[.slice x.a t.colours.length x.ca, .slice x.b t.pairs.length x.cb, .slice x.z t.zones.length x.cz, .slice x.r t.ready.length x.cr, .int .i64 t.start, .int .i64 t.rate, .int .i64 t.stop, .int .i64 t.hang] 26) := ⟨_, rfl⟩
  have KT := Lib.hid (show Blk w2 gT 26 (titV t x) by rw [hw2, hgT]; exact Blk.new w1 26 (titV t x))
  have hb12 : Below w1.heap.size w1 w2 := by rw [hw2]; exact (Below.refl _ _).alloc (Nat.le_refl _) _
  have H2 := Lib.hid (HB.out.trans (hb12.mono HB.out.size))
  have HT2 := Lib.hid (show ∀ W', Below w2.heap.size w2 W' → TitAt W' W'.heap.size t x zs from fun W' hb => ((HT.out.below (hb12.trans (hb.mono hb12.size))).mono ((hb12.trans (hb.mono hb12.size)).size)))
  have hgl : gT < w2.heap.size := KT.out.lt
  rw [← hw2, ← hgT]
  clear hw2 hgT hb12
  obtain ⟨a0, a1, a2, a3, a4, a5, a6, a7⟩ := tit_cells KT.out
  go_upto_region 3 with (go_at_call 15; refine (eds_w t x zs _ HSZ.out HC.out n HN.out (HT2.out _ (Below.refl _ _))).mono ?_; rintro e w3 ⟨k, rfl, HK, HB3⟩; obtain ⟨a0, a1, a2, a3, a4, a5, a6, a7⟩ := tit_cells (KT.out.below HB3.out KT.out.lt))
  go_upto_region 5 with fail
  go_upto_region 6 with (go_at_call 16; refine (perm_w A1 c1 n l1 _ (by omega) hl1 HB1'.out ((HS1.out.below (H2.out.trans (HB3.out.mono H2.out.size))).mono (H2.out.trans (HB3.out.mono H2.out.size)).size)).mono ?_; rintro e w4 ⟨Ao, co, rfl, HO, hb⟩; have G4 := Lib.hid hb.out; have H4 := Lib.hid (HB3.out.trans (hb.out.mono HB3.out.size)); clear hb; obtain ⟨a0, a1, a2, a3, a4, a5, a6, a7⟩ := tit_cells (KT.out.below H4.out KT.out.lt))
  rw [← HO0.out] at HO
  have HCP := Lib.hid (show Calls Try.prog 17 #[.agg #[.slice x.a t.colours.length x.ca, .slice x.b t.pairs.length x.cb, .slice x.z t.zones.length x.cz, .slice x.r t.ready.length x.cr, .int .i64 t.start, .int .i64 t.rate, .int .i64 t.stop, .int .i64 t.hang], .slice Ao n co] w4 fun e w' => ∃ A' c', e = .returned (.tuple #[.slice A' t.zones.length c', .int .i64 0]) ∧ Hid (Sl enc3 3 w' w'.heap.size A' pl) ∧ Hid (Below w4.heap.size w4 w') from by
    have := parts_w t x zs w4 HSZ.out HC.out Ao co o t.zones.length (by rw [← HPE.out]; exact HPL.out) (by omega) HO.out HOO.out (HT2.out _ H4.out)
    rw [hpl, ← HPE.out] at this; exact this)
  go_upto_region 7 with (go_at_call 17; refine HCP.out.mono ?_; rintro e w5 ⟨Ap, cq, rfl, HPA, hb⟩; have G5 := Lib.hid hb.out; have H5 := Lib.hid (H4.out.trans (hb.out.mono H4.out.size)); clear hb; obtain ⟨a0, a1, a2, a3, a4, a5, a6, a7⟩ := tit_cells (KT.out.below H5.out KT.out.lt))
  go_upto_region 10 with fail
  have hmk := run_make_row' (P := Try.prog) 22 3 (.int .i64 0) 8 Try.underlying22 infoInt rfl .i64 .i64 t.zones.length (by omega) (by omega) w5
  obtain ⟨w6, hw6⟩ : ∃ W, W = w5.alloc (.cells (madeCells #[.int .i64 0] t.zones.length) 3) := ⟨_, rfl⟩
  rw [← hw6] at hmk
  obtain ⟨gG, hgG⟩ : ∃ g, g = w5.heap.size := ⟨_, rfl⟩
  rw [← hgG] at hmk
  have HG6 := Lib.hid (show w6.rowIs gG 3 t.zones.length (fun _ => .int .i64 0) by rw [hw6, hgG]; exact World.rowIs_made w5 (.int .i64 0) t.zones.length 3)
  have hb56 : Below w5.heap.size w5 w6 := by rw [hw6]; exact (Below.refl _ _).alloc (Nat.le_refl _) _
  have H6 := Lib.hid (H5.out.trans (hb56.mono H5.out.size))
  have HP6 := Lib.hid ((HPA.out.below hb56).mono hb56.size)
  have hgG2 : w2.heap.size ≤ gG := by rw [hgG]; exact H5.out.size
  have HB56 := Lib.hid hb56
  have HGG := Lib.hid hgG
  clear hw6 hgG hb56
  go_upto_region 11 with fail
  clear hmk
  go_wp2_with fail
  clear a0 a1 a2 a3 a4 a5 a6 a7
  go_loopw [12, 66] (fun im iq wr => ∃ q : Nat, q ≤ t.zones.length ∧ iq = .int .i64 q ∧ im = .int .i64 (sumC t (zl.take q)) ∧ Hid (wr.rowIs gG 3 t.zones.length (fun j => .int .i64 ((gotL t (zl.take q) (List.replicate t.zones.length 0)).getD j 0))) ∧ Hid (Below w5.heap.size w5 wr)) (fun _ iq _ => t.zones.length - (intOf iq).toNat)
  case atStart => exact ⟨0, Nat.zero_le _, rfl, by simp [sumC], Lib.hid (HG6.out.congr fun j hj => by simp [gotL, List.getD_eq_getElem?_getD, hj]), HB56⟩
  case round =>
    obtain ⟨q, hq, rfl, rfl, HG, HBR⟩ := hrel
    by_cases hlt : q < t.zones.length
    ·
      obtain ⟨zq, m, c, hP⟩ := HPQ.out q hlt
      rw [← HPE2.out] at hP
      obtain ⟨hh, hhE⟩ : ∃ h, h = m + c - 1 := ⟨_, rfl⟩
      have hp3 := hP.hp
      rw [← hhE] at hp3
      obtain ⟨pb, po, rfl, hpb, e0, e1, e2⟩ := sl3_at (HPA.out.below HBR.out) hp3
      have hzq := hP.hz
      have hzqI : (zq : Int) < (t.zones.length : Int) := by omega
      have hzq0 : (0 : Int) ≤ (zq : Int) := by omega
      have m0 := hP.m0
      have m1 := hP.m1
      have c1 := hP.c1
      have c2 := hP.c2
      have hmh : m ≤ hh := by omega
      have hhb : hh ≤ 3000 := by omega
      have t1 : decide (t.zones.length ≤ zq) = false := by simp; omega
      have t2 : decide (hh < m) = false := by simp; omega
      have hnd : (zl.take q).Nodup := by
        have : zl.Nodup := HZP.out.nodup_iff.2 (List.Pairwise.map _ (fun a b hab => fun e => hab (Int.ofNat.inj e)) List.nodup_range)
        exact this.sublist (List.take_sublist _ _)
      have hgv := gotL_get t (zl.take q) (List.replicate t.zones.length 0) hnd (fun z hz => by
        obtain ⟨k', hk', rfl⟩ := List.mem_map.1 (HZP.out.mem_iff.1 (List.mem_of_mem_take hz))
        have := List.mem_range.1 hk'
        simp; omega) zq (by simpa using hzq)
      obtain ⟨gv, hgvE⟩ : ∃ g, g = (gotL t (zl.take q) (List.replicate t.zones.length 0)).getD zq 0 := ⟨_, rfl⟩
      have hrz : (List.replicate t.zones.length (0 : Int)).getD zq 0 = 0 := by simp [List.getD_eq_getElem?_getD, hzq]
      rw [← hgvE, hrz, ← hP.hc] at hgv
      have hgb : 0 ≤ gv ∧ gv ≤ 200 := by
        rw [hgv]; split <;> omega
      obtain ⟨hgb0, hgb1⟩ := hgb
      have HGV := Lib.hid hgvE
      have HHE := Lib.hid hhE
      have HPP := Lib.hid hP
      rw [← hP.hm]
      clear hgv hgvE hhE hP hp3 hrz hnd
      obtain ⟨gP, hgP⟩ : ∃ g, g = wr.heap.size := ⟨_, rfl⟩
      obtain ⟨wP, hwP⟩ : ∃ W, W = wr.alloc (.cells #[.int .i64 (zq : Int), .int .i64 m, .int .i64 hh] 45) := ⟨_, rfl⟩
      have KP := Lib.hid (show Blk wP gP 45 #[.int .i64 (zq : Int), .int .i64 m, .int .i64 hh] by rw [hwP, hgP]; exact Blk.new _ _ _)
      have hbP : Below wr.heap.size wr wP := by rw [hwP]; exact (Below.refl _ _).alloc (Nat.le_refl _) _
      have HBP := Lib.hid (HBR.out.trans (hbP.mono HBR.out.size))
      have HGP := Lib.hid (show wP.rowIs gG 3 t.zones.length (fun j => .int .i64 ((gotL t (zl.take q) (List.replicate t.zones.length 0)).getD j 0)) by rw [hwP]; exact HG.out.alloc _)
      have hGP : gG ≠ gP := by have := HG.out.lt; omega
      have HWP := Lib.hid hwP
      have HGPE := Lib.hid hgP
      clear hwP hgP hbP
      go_upto_region 14 with fail
      rw [← HWP.out, ← HGPE.out]
      clear e0 e1 e2
      obtain ⟨a0, a1, a2, a3, a4, a5, a6, a7⟩ := tit_cells (KT.out.below (H5.out.trans (HBP.out.mono H5.out.size)) KT.out.lt)
      have b0' := KP.out.cell 0
      have b1' := KP.out.cell 1
      have b2' := KP.out.cell 2
      simp at b0' b1' b2'
      go_upto_region 16 with fail
      clear a0 a1 a2 a3 a4 a5 a6 a7 b0' b1' b2'
      have k1 : IntKind.i64.wrap (hh - m) = hh - m := by rw [IntKind.wrap_i64]; omega
      have k2 : IntKind.i64.wrap (hh - m + 1) = hh - m + 1 := by rw [IntKind.wrap_i64]; omega
      have k3 : IntKind.i64.wrap (gv + (hh - m + 1)) = gv + (hh - m + 1) := by rw [IntKind.wrap_i64]; omega
      have g1 := HGP.out.cell hzq
      rw [← HGV.out] at g1
      have g2 := HGP.out.frozen zq
      have SB := Lib.hid (show ∀ W', wP.grownBy W' (some gG) → W'.cell? ⟨gP, 0, none⟩ = some (.int .i64 (zq : Int)) ∧ W'.cell? ⟨gP, 1, none⟩ = some (.int .i64 m) ∧ W'.cell? ⟨gP, 2, none⟩ = some (.int .i64 hh) from fun W' hb => by
        have := KP.out.grown hb (fun e => hGP (by injection e with e; exact e.symm))
        exact ⟨this.cell 0, this.cell 1, this.cell 2⟩)
      have b0'' := KP.out.cell 0
      have b1'' := KP.out.cell 1
      have b2'' := KP.out.cell 2
      simp at b0'' b1'' b2''
      go_region_law (fail)
      all_goals
        go_upto_region 17 with fail
        obtain ⟨wQ, hwQ⟩ : ∃ W, W = (wP.setCell ⟨gG, zq, none⟩ (.int .i64 (gv + (hh - m + 1)))).drew := ⟨_, rfl⟩
        rw [← hwQ]
        have hgQ : wP.grownBy wQ (some gG) := by rw [hwQ]; exact gr_drew (gr_set _ _ _ _)
        obtain ⟨b0', b1', b2'⟩ := SB.out wQ hgQ
        have HQG := Lib.hid (show wQ.rowIs gG 3 t.zones.length (fun j => if j = zq then .int .i64 (gv + (hh - m + 1)) else .int .i64 ((gotL t (zl.take q) (List.replicate t.zones.length 0)).getD j 0)) by rw [hwQ]; exact (HGP.out.set zq (.int .i64 (gv + (hh - m + 1)))).drew)
        have HBQ := Lib.hid (HBP.out.grown hgQ HBP.out.size (fun j e => by injection e with e; have := HGG.out; omega))
        clear hwQ hgQ g1 g2
        go_wp2_with fail
        go_roundw
        case rel =>
          have hP := HPP.out
          have hhE := HHE.out
          have hlq : q < zl.length := by rw [HZL.out]; exact hlt
          refine ⟨q + 1, by omega, by go_num, ?_, Lib.hid ?_, HBQ⟩
          · rw [hP.hm2]
            exact congrArg _ (by omega)
          · refine HQG.out.congr fun j hj => ?_
            have hzq2 : zl[q] = (zq : Int) := by have := hP.hzl; rw [List.getElem?_eq_getElem hlq] at this; exact Option.some.inj this
            rw [List.take_succ_eq_append_getElem hlq, gotL_snoc, hzq2, Int.toNat_natCast, ← hP.hc, ← HGV.out]
            by_cases hjz : j = zq
            · subst hjz
              rw [if_pos rfl]
              have hlen : j < (gotL t (zl.take q) (List.replicate t.zones.length 0)).length := by rw [gotL_len]; simpa using hj
              rw [getD_set_self hlen]
              exact congrArg _ (by omega)
            · rw [if_neg hjz, Go.Ed.getD_set_ne (fun e : zq = j => hjz e.symm)]
        case measure => simp [intOf]; omega
    · obtain rfl : t.zones.length = q := by omega
      obtain ⟨wg, rfl⟩ : ∃ W, W = wr := ⟨_, rfl⟩
      have hst : sumC t (zl.take t.zones.length) = tot := by rw [HTOT.out, List.take_of_length_le (by rw [HZL.out]; omega)]
      have HGF := Lib.hid (show wg.rowIs gG 3 t.zones.length (fun j => .int .i64 (t.zones.getD j zon0).copies) from HG.out.congr fun j hj => by
        rw [List.take_of_length_le (by rw [HZL.out]; omega), gotL_all t HZP.out hj])
      have hb2g : Below w2.heap.size w2 wg := H5.out.trans (HBR.out.mono H5.out.size)
      have H2G := Lib.hid hb2g
      rw [hst]
      clear hst HG
      obtain ⟨a0, a1, a2, a3, a4, a5, a6, a7⟩ := tit_cells (KT.out.below hb2g KT.out.lt)
      clear hb2g
      go_wp2_with fail
      clear a0 a1 a2 a3 a4 a5 a6 a7
      go_loopw [120] (fun iq wr => ∃ q : Nat, q ≤ t.zones.length ∧ iq = .int .i64 q ∧ Hid (Below wg.heap.size wg wr)) (fun iq _ => t.zones.length - (intOf iq).toNat)
      case atStart => exact ⟨0, Nat.zero_le _, rfl, Lib.hid (Below.refl _ _)⟩
      case round =>
        obtain ⟨q, hq, rfl, HBV⟩ := hrel
        have hT := HT2.out wr (H2G.out.trans (HBV.out.mono H2G.out.size))
        by_cases hlt : q < t.zones.length
        ·
          obtain ⟨zb, zo, hzA, hzb, e0, e1, e2⟩ := slZ_at hT.cZ (k := q) (by rw [hT.zlen]; exact hlt)
          have hzc := hT.zget (k := q) (by rw [hT.zlen]; exact hlt)
          obtain ⟨zm, hzm⟩ : ∃ z, z = zs[q]'(by rw [hT.zlen]; exact hlt) := ⟨_, rfl⟩
          rw [← hzm] at e0 e1 e2 hzc
          have hgc := (HGF.out.of_block (HBV.out.block gG HGF.out.lt)).cell hlt
          rw [show (t.zones.getD q zon0) = zm.1 from hzc] at hgc
          rw [hzA]
          have i0 : (0 : Int) ≤ (q : Int) := by omega
          have i1 : (q : Int) < (t.zones.length : Int) := by omega
          have HBV2 := Lib.hid HBV.out
          have hgl2 : gG < wr.heap.size := (HGF.out.of_block (HBV.out.block gG HGF.out.lt)).lt
          clear hT hzc hzm
          go_upto_region 22 with fail
          go_quiet (fail)
          go_wp2_with fail
          go_roundw
          case rel => exact ⟨q + 1, by omega, by go_num, Lib.hid (by repeat (first | exact HBV.out | refine below_drewN ?_ _ | refine Below.drew ?_ | refine Below.alloc ?_ (by first | exact HBV.out.size | (simp; exact HBV.out.size)) _))⟩
          case measure => simp [intOf]; omega
        · obtain rfl : t.zones.length = q := by omega
          clear hT
          obtain ⟨wv, rfl⟩ : ∃ W, W = wr := ⟨_, rfl⟩
          have g3v : Below w3.heap.size w3 wv := by
            have q1 := G4.out.trans (G5.out.mono G4.out.size)
            have q2 := q1.trans (HBR.out.mono q1.size)
            exact q2.trans (HBV.out.mono q2.size)
          have hb2v : Below w2.heap.size w2 wv := HB3.out.trans (g3v.mono HB3.out.size)
          have G3V := Lib.hid g3v
          have H2V := Lib.hid hb2v
          have hto : ¬ (tot = 0) := by omega
          have hto2 : (tot == 0) = false := by simp [hto]
          have hcpw : IntKind.i64.wrap cp = cp := by rw [IntKind.wrap_i64]; omega
          clear g3v hb2v
          go_upto_region 26 with fail
          rw [← HKK.out]
          obtain ⟨gK, hgK⟩ : ∃ g, g = wv.heap.size := ⟨_, rfl⟩
          obtain ⟨wK, hwK⟩ : ∃ W, W = wv.alloc (.cells #[.int .i64 kk] 3) := ⟨_, rfl⟩
          have hbK : Below wv.heap.size wv wK := by rw [hwK]; exact (Below.refl _ _).alloc (Nat.le_refl _) _
          have KK := Lib.hid (show Blk wK gK 3 #[.int .i64 kk] by rw [hwK, hgK]; exact Blk.new _ _ _)
          have H2K := Lib.hid (H2V.out.trans (hbK.mono H2V.out.size))
          have G3K := Lib.hid (G3V.out.trans (hbK.mono G3V.out.size))
          rw [← hwK, ← hgK]
          have HBK := Lib.hid hbK
          clear hwK hgK hbK hto hto2 hcpw
          obtain ⟨a0, a1, a2, a3, a4, a5, a6, a7⟩ := tit_cells (KT.out.below H2K.out KT.out.lt)
          have kc := KK.out.cell 0
          simp at kc
          have HOA := Lib.hid (show ∀ W', Below w4.heap.size w4 W' → Sl encInt 1 W' W'.heap.size Ao (o.map fun (e : Nat) => (e : Int)) from fun W' hb => (HO.out.below hb).mono hb.size)
          have G4K := Lib.hid (show Below w4.heap.size w4 wK from by
            have q1 := G5.out.trans (HBR.out.mono G5.out.size)
            have q2 := q1.trans (HBV.out.mono q1.size)
            exact q2.trans (HBK.out.mono q2.size))
          have HW := Lib.hid (fun W' (hb : Below wK.heap.size wK W') (cpy : Int) (r : Int × Int × Int) (hr : r = whichE t (edsR t) o cpy) => show Calls Try.prog 18 #[.agg #[.slice x.a t.colours.length x.ca, .slice x.b t.pairs.length x.cb, .slice x.z t.zones.length x.cz, .slice x.r t.ready.length x.cr, .int .i64 t.start, .int .i64 t.rate, .int .i64 t.stop, .int .i64 t.hang], .slice Ao n co, .int .i64 cpy] W' fun e w' => e = .returned (.tuple #[.int .i64 r.1, .int .i64 r.2.1, .int .i64 r.2.2]) ∧ Hid (Below W'.heap.size W' w') from by
            have := which_w t x zs W' HSZ.out HC.out Ao co o cpy r hr (by omega) (HOA.out W' (G4K.out.trans (hb.mono G4K.out.size))) HOO.out (HT2.out W' (H2K.out.trans (hb.mono H2K.out.size)))
            rw [hpl] at this; exact this)
          go_upto_region 27 with (go_at_call 18; refine (HW.out _ (Below.refl _ _) kk ((zz : Int), (xx : Int), 0) HWH.out.symm).mono ?_; rintro e wL ⟨rfl, hb⟩; have HBL := Lib.hid hb.out; clear hb)
          obtain ⟨gZ, hgZ⟩ : ∃ g, g = wL.heap.size := ⟨_, rfl⟩
          obtain ⟨wZ, hwZ⟩ : ∃ W, W = wL.alloc (.cells #[.int .i64 (zz : Int)] 3) := ⟨_, rfl⟩
          have hbZ : Below wL.heap.size wL wZ := by rw [hwZ]; exact (Below.refl _ _).alloc (Nat.le_refl _) _
          have KZ := Lib.hid (show Blk wZ gZ 3 #[.int .i64 (zz : Int)] by rw [hwZ, hgZ]; exact Blk.new _ _ _)
          have HKZ := Lib.hid (HBL.out.trans (hbZ.mono HBL.out.size))
          rw [← hwZ, ← hgZ]
          clear hwZ hgZ hbZ a0 a1 a2 a3 a4 a5 a6 a7 kc
          have H2Z := Lib.hid (H2K.out.trans (HKZ.out.mono H2K.out.size))
          have G3Z := Lib.hid (G3K.out.trans (HKZ.out.mono G3K.out.size))
          have hTZ := HT2.out wZ H2Z.out
          have hKw := HK.out.below G3Z.out
          have hkl : k.es.length = n := by rw [HN.out]; exact hKw.len
          obtain ⟨eb, eo, hkE, heb, -, -, -, -, f4⟩ := Sl.atEd hKw.hE (k := xx) (by rw [hkl, HN.out]; exact hxx)
          obtain ⟨zb, zo, hzA, hzb, -, -, f2⟩ := slZ_at hTZ.cZ (k := zz) (by rw [hTZ.zlen]; exact hzz)
          have hV1 := hKw.hV xx (by rw [hkl, HN.out]; exact hxx)
          have hV2 := hTZ.cV zz (by rw [hTZ.zlen]; exact hzz)
          have hz2 := hTZ.zget (k := zz) (by rw [hTZ.zlen]; exact hzz)
          obtain ⟨⟨ed, ea⟩, hed⟩ : ∃ e, e = k.es[xx]'(by rw [hkl, HN.out]; exact hxx) := ⟨_, rfl⟩
          obtain ⟨⟨zd, za⟩, hzd⟩ : ∃ z, z = zs[zz]'(by rw [hTZ.zlen]; exact hzz) := ⟨_, rfl⟩
          rw [← hed] at f4 hV1
          rw [← hzd] at f2 hV2 hz2
          dsimp only at f4 hV1 f2 hV2 hz2
          have hvv : ed.variants = zd.variants := by
            have e1 : (edsR t).getD xx ed0 = ed := by
              rw [← hKw.eds]
              simp only [List.getD_eq_getElem?_getD, List.getElem?_map]
              rw [List.getElem?_eq_getElem (by rw [hkl, HN.out]; exact hxx), ← hed]; rfl
            have e2 := HVAR.out
            rw [e1, show t.zones.getD zz zon0 = zd from hz2] at e2
            exact e2
          have hlen1 : ed.variants.length ≤ 1000000000 := by
            rw [hvv]
            exact HSZ.out.s5 zd (by rw [← hz2, List.getD_eq_getElem?_getD, List.getElem?_eq_getElem hzz]; exact List.getElem_mem hzz)
          have HEQ := Lib.hid (fun W' (hb : Below wZ.heap.size wZ W') => show Calls Try.prog 19 #[.slice ea.v ed.variants.length ea.cv, .slice za.1 zd.variants.length za.2] W' fun e w' => e = .returned (.bool true) ∧ Below W'.heap.size W' w' from
            (equalInts_any ea.v za.1 ea.cv za.2 ed.variants zd.variants W' (by omega) (by rw [← hvv]; omega) ((hV1.below hb).mono hb.size) ((hV2.below hb).mono hb.size)).mono (by rintro e w' ⟨rfl, hb'⟩; exact ⟨by simp [hvv], hb'⟩))
          have SB := Lib.hid (show ∀ W', Below wZ.heap.size wZ W' → W'.cell? ⟨gZ, 0, none⟩ = some (.int .i64 (zz : Int)) ∧ W'.cell? ⟨gT, 2, none⟩ = some (.slice (some ⟨zb, zo, none⟩) t.zones.length x.cz) ∧ W'.cell? ⟨eb, eo + xx * 5 + 4, none⟩ = some (.slice ea.v ed.variants.length ea.cv) ∧ W'.cell? ⟨zb, zo + zz * 3 + 2, none⟩ = some (.slice za.1 zd.variants.length za.2) from fun W' hb =>
            ⟨(KZ.out.below hb KZ.out.lt).cell 0, by rw [← hzA]; exact (tit_cells ((KT.out.below H2Z.out KT.out.lt).below hb (Nat.lt_of_lt_of_le KT.out.lt H2Z.out.size))).2.2.1, (hb.cell (p := ⟨eb, _, none⟩) heb).trans f4, (hb.cell (p := ⟨zb, _, none⟩) hzb).trans f2⟩)
          have u1 : decide (t.zones.length ≤ zz) = false := by simp; omega
          have hxn : xx < n := by rw [HN.out]; exact hxx
          have u2 : decide (n ≤ xx) = false := by simp; omega
          have i0 : (0 : Int) ≤ (zz : Int) := by omega
          have i1 : (zz : Int) < (t.zones.length : Int) := by omega
          have i2 : (0 : Int) ≤ (xx : Int) := by omega
          have i3 : (xx : Int) < (n : Int) := by omega
          rw [hkE]
          have HG4Z := Lib.hid (G4K.out.trans (HKZ.out.mono G4K.out.size))
          have HZA := Lib.hid hzA
          clear hTZ hKw hkl hV1 hV2 hz2 hed hzd hvv f4 f2 hkE hzA
          go_region_held3 (fun W' => W'.cell? ⟨gZ, 0, none⟩ = some (.int .i64 (zz : Int)) ∧ W'.cell? ⟨gT, 2, none⟩ = some (.slice (some ⟨zb, zo, none⟩) t.zones.length x.cz) ∧ W'.cell? ⟨eb, eo + xx * 5 + 4, none⟩ = some (.slice ea.v ed.variants.length ea.cv) ∧ W'.cell? ⟨zb, zo + zz * 3 + 2, none⟩ = some (.slice za.1 zd.variants.length za.2))
            ((refine SB.out _ ?_; (repeat (first | exact Below.refl _ _ | exact HBE.out | refine Below.drew ?_)); done))
            ((go_at_call 19; refine (HEQ.out _ (by repeat (first | exact Below.refl _ _ | refine Below.drew ?_))).mono ?_; rintro e wE ⟨rfl, hb⟩; have HBE := Lib.hid (((Below.refl wZ.heap.size wZ).drew).trans hb); clear hb))
          have HKE := Lib.hid (HKZ.out.trans (HBE.out.mono HKZ.out.size))
          have G5E := Lib.hid (show Below w5.heap.size w5 wE from by
            have q2 := HBR.out.trans (HBV.out.mono HBR.out.size)
            have q3 := q2.trans (HBK.out.mono q2.size)
            exact q3.trans (HKE.out.mono q3.size))
          all_goals
            obtain ⟨a0, a1, a2, a3, a4, a5, a6, a7⟩ := tit_cells ((KT.out.below H2Z.out KT.out.lt).below HBE.out (Nat.lt_of_lt_of_le KT.out.lt H2Z.out.size))
            have hcw := HW.out wE HKE.out tot ((0 : Int), (0 : Int), 6) HWN.out.symm
            rw [HZA.out] at hcw
            have HCW := Lib.hid hcw
            clear hcw
            go_upto_region 30 with (go_at_call 18; (with_reducible refine HCW.out.mono ?_); rintro e wF ⟨rfl, hb⟩; have HBF := Lib.hid hb.out; clear hb)
            clear a0 a1 a2 a3 a4 a5 a6 a7
            have HZF := Lib.hid (HBE.out.trans (HBF.out.mono HBE.out.size))
            have HKF := Lib.hid (HKE.out.trans (HBF.out.mono HKE.out.size))
            have HCF := Lib.hid (hasHit_any gZ gK Ap cq t.zones.length pl HPL.out (zz : Int) kk wF (by rw [← HPL.out]; omega) ((HPA.out.below (G5E.out.trans (HBF.out.mono G5E.out.size))).mono (G5E.out.trans (HBF.out.mono G5E.out.size)).size)
              (fun j hj W' hb => hit_any gZ gK (zz : Int) kk _ _ _ W' (((KZ.out.below HZF.out KZ.out.lt).below hb (Nat.lt_of_lt_of_le KZ.out.lt HZF.out.size)).cell 0) (((KK.out.below HKF.out KK.out.lt).below hb (Nat.lt_of_lt_of_le KK.out.lt HKF.out.size)).cell 0)) HANY.out)
            go_wp2_with first
              | (go_at_call 20; refine HCF.out.mono ?_; rintro e wG ⟨rfl, hb⟩; have HBG := Lib.hid hb; clear hb)
              | (go_at_call 12; refine (haw _).mono ?_; rintro e wH ⟨rfl, hb⟩; have HBH := Lib.hid hb; clear hb)
            go_ret
            refine ⟨rfl, ?_⟩
            have q1 := H2K.out.trans (HKF.out.mono H2K.out.size)
            have q2 := q1.trans (HBG.out.mono q1.size)
            have q3 := q2.trans (HBH.out.mono q2.size)
            exact H2.out.trans (q3.mono H2.out.size)
end Go.Proofs.Ytokdleanpkkdpaa
