/- The walk of ReelZones; conditions: bytes in memory. Printed by a program. -/
import Derived.Test.YtnbnfadmbggfnaaQH
import Derived.Test.YtnbnfadmbggfnaaZD
set_option linter.unusedSimpArgs false
set_option linter.unusedVariables false
namespace Go.Proofs.Ytnbnfadmbggfnaa
open Go.RowKit Go.Fh Go.Ed Go.Rl
theorem sl3_at {B : Nat} {w : World} {A : Option Addr} {l : List (Int × Int × Int)} (h : Sl enc3 3 w B A l) {k : Nat} {a b c : Int} (hk : l[k]? = some (a, b, c)) :
    ∃ g off, A = some ⟨g, off, none⟩ ∧ g < B ∧ w.cell? ⟨g, off + k * 3, none⟩ = some (.int .i64 a) ∧ w.cell? ⟨g, off + k * 3 + 1, none⟩ = some (.int .i64 b) ∧ w.cell? ⟨g, off + k * 3 + 2, none⟩ = some (.int .i64 c) := by
  obtain ⟨hlt, e⟩ := List.getElem?_eq_some_iff.1 hk
  obtain ⟨g, off, hA, hg, c0, c1, c2⟩ := h.at3 hlt
  rw [e] at c0 c1 c2
  exact ⟨g, off, hA, hg, c0, c1, c2⟩
theorem slZ_at {B : Nat} {w : World} {A : Option Addr} {l : List ZonM} (h : Sl encZon 3 w B A l) {k : Nat} (hk : k < l.length) :
    ∃ g off, A = some ⟨g, off, none⟩ ∧ g < B ∧ w.cell? ⟨g, off + k * 3, none⟩ = some (.int .i64 l[k].1.copies) ∧ w.cell? ⟨g, off + k * 3 + 1, none⟩ = some (.int .i64 l[k].1.due) ∧ w.cell? ⟨g, off + k * 3 + 2, none⟩ = some (.slice l[k].2.1 l[k].1.variants.length l[k].2.2) := by
  obtain ⟨b, off, hA, hb, hc⟩ := h.at_ hk
  exact ⟨b, off, hA, hb, hc 0 _ rfl, hc 1 _ rfl, hc 2 _ rfl⟩
theorem zons_copies {t : TitD} {x : TA} {zs : List ZonM} {W : World} (h : TitAt W W.heap.size t x zs) {z : Nat} (hz : z < t.zones.length) : ∃ g off, x.z = some ⟨g, off, none⟩ ∧ W.cell? ⟨g, off + z * 3, none⟩ = some (.int .i64 (copZ t (z : Int))) := by
  have e := h.zeq
  have hl : z < zs.length := by have : (zs.map (·.1)).length = t.zones.length := by rw [e]
                                rw [List.length_map] at this; omega
  obtain ⟨g, off, hA, _, c0, _⟩ := slZ_at h.cZ hl
  refine ⟨g, off, hA, ?_⟩
  rw [c0]
  have : zs[z].1 = t.zones[z] := by
    have h2 : (zs.map (·.1))[z]'(by rw [List.length_map]; exact hl) = t.zones[z] := by congr 1
    simpa using h2
  rw [this]
  unfold copZ
  simp [List.getD_eq_getElem?_getD, hz]
theorem ints_cast (l : List Nat) : (l.map fun (e : Nat) => (e : Int)).map (Value.int .i64) = intsV l := by unfold intsV; rw [List.map_map]
set_option maxRecDepth 100000 in
set_option maxHeartbeats 16000000 in
theorem reelZones_walk (haw : ∀ w, Calls Try.prog 17 #[] w fun e w' => e = .returned (.bool true) ∧ Below w.heap.size w w') (A0 : Option Addr) (c0 : Nat) (l0 : List Nat) (A1 : Option Addr) (c1 : Nat) (l1 : List Nat) (A2 : Option Addr) (c2 : Nat) (l2 : List Nat) (w : World)
    (hl0 : l0.length ≤ 9223372036854775807) (hl1 : l1.length ≤ 9223372036854775807) (hl2 : l2.length ≤ 9223372036854775807) (hb0 : ∀ x ∈ l0, x ≤ 255) (hb1 : ∀ x ∈ l1, x ≤ 255) (hb2 : ∀ x ∈ l2, x ≤ 255) (s0 : Sl encBn 1 w w.heap.size A0 l0) (s1 : Sl encBn 1 w w.heap.size A1 l1) (s2 : Sl encBn 1 w w.heap.size A2 l2) :
    Calls Try.prog 11 #[.slice A0 l0.length c0, .slice A1 l1.length c1, .slice A2 l2.length c2] w fun e w' => e = .returned (.bool true) ∧ Below w.heap.size w w' := by
  obtain ⟨t, ht⟩ : ∃ t, t = madeT l0 := ⟨_, rfl⟩
  have hc : checkT t = 0 := by rw [ht]; exact madeT_ok l0
  have hs : Sizes t := by rw [ht]; exact made_sizes l0
  have hzo : ∀ z ∈ t.zones, 1 ≤ z.copies ∧ z.copies ≤ 200 := by rw [ht]; exact fun z hz => ⟨(made_zones l0 z hz).lo, (made_zones l0 z hz).hi⟩
  have hch := chk_ok hc
  obtain ⟨n, hn⟩ : ∃ n, n = (edsR t).length := ⟨_, rfl⟩
  have hn7 := eds_le hc
  rw [← hn] at hn7
  obtain ⟨hn1, hn2⟩ := hn7
  obtain ⟨o, ho⟩ : ∃ o, o = permM l2 n := ⟨_, rfl⟩
  have hpl : o.length = n := by rw [ho]; exact permM_len l2 n
  have hoo : ordersB (edsR t).length (o.map fun (e : Nat) => (e : Int)) = true := by rw [ho, ← hn]; exact permM_orders l2 n
  obtain ⟨zl, hzl⟩ : ∃ zl, zl = zoneL (edsR t) o := ⟨_, rfl⟩
  have hzp : zl.Perm ((List.range t.zones.length).map fun (i : Nat) => (i : Int)) := by rw [hzl]; exact zoneL_all t (by rw [ho, ← hn]; exact permM_perm l2 n) (fun z hz => (hzo z hz).1)
  have hzlen : zl.length = t.zones.length := by rw [hzp.length_eq]; simp
  have hz12 := hch.z1
  obtain ⟨pl, hpE⟩ : ∃ pl, pl = partsL t (edsR t) o := ⟨_, rfl⟩
  have hpE2 : pl = partsGo t 0 zl := by rw [hpE, hzl]; rfl
  have hplen : t.zones.length = pl.length := by rw [hpE2, partsGo_len, hzlen]
  have hpq := fun q (hq : q < t.zones.length) => part_q hzp hzo hq
  rw [← hpE2] at hpq
  have HPQ := Lib.hid hpq
  have HPL := Lib.hid hplen
  have HPE := Lib.hid hpE
  have HT0 := Lib.hid ht
  have HN := Lib.hid hn
  have HO0 := Lib.hid ho
  have HOO := Lib.hid hoo
  have HSZ := Lib.hid hs
  have HC := Lib.hid hc
  have HPO := Lib.hid hpl
  have HS0 := Lib.hid s0
  have HS1 := Lib.hid s1
  have HS2 := Lib.hid s2
  have HB2' := Lib.hid hb2
  have HAW := Lib.hid haw
  have he := made_err l1
  have HMD := Lib.hid (show ∀ W, Below w.heap.size w W → Calls Try.prog 12 #[.slice A1 l1.length c1] W fun e w' => ∃ (AW : Option Addr) (c0 : Nat) (ms : List WebM), e = .returned (.agg #[.int .i64 (madeP l1).cut, .int .i64 (madeP l1).margin, .slice AW ms.length c0]) ∧ MadeAt W w' (madeP l1) AW c0 ms from fun W hb => made_any A1 c1 l1 W hl1 hb1 ((s1.below hb).mono hb.size))
  obtain ⟨p, hp⟩ : ∃ p, p = madeP l1 := ⟨_, rfl⟩
  rw [← hp] at HMD he
  have HE := Lib.hid he
  clear hpq hpE2 hplen hpE hzlen ht hn ho hoo hch hs hc s0 s1 s2 hb1 hb2 hzo hzl hzp hpl haw hp he
  go_enter Try.func11, Try.ntmps11
  go_upto_region 1 with fail
  go_upto_region 2 with (go_at_call 35; refine (made_wZ A0 c0 l0 _ t HT0.out hl0 hb0 HS0.out).mono ?_; rintro e w1 ⟨x, zs, rfl, HT, HB⟩)
  obtain ⟨g7, hg7⟩ : ∃ g, g = w1.heap.size := ⟨_, rfl⟩
  obtain ⟨w2, hw2⟩ : ∃ W, W = w1.alloc (.cells #[.slice x.a t.colours.length x.ca, .slice x.b t.pairs.length x.cb, .slice x.z t.zones.length x.cz, .slice x.r t.ready.length x.cr, .int .i64 t.start, .int .i64 t.rate, .int .i64 t.stop, .int .i64 t.hang] 86) := ⟨_, rfl⟩
  have KT := Lib.hid (show Blk w2 g7 86 (titV t x) by rw [hw2, hg7]; exact Blk.new w1 86 (titV t x))
  have hb12 : Below w1.heap.size w1 w2 := by rw [hw2]; exact balR (Below.refl _ _) _
  have H2 := Lib.hid (HB.out.trans (hb12.mono HB.out.size))
  have HT2 := Lib.hid (show ∀ W', Below w2.heap.size w2 W' → TitAt W' W'.heap.size t x zs from fun W' hb => ((HT.out.below (hb12.trans (hb.mono hb12.size))).mono ((hb12.trans (hb.mono hb12.size)).size)))
  rw [← hw2, ← hg7]
  clear hw2 hg7 hb12 HT HB
  go_upto_region 3 with (go_at_call 12; refine (HMD.out _ H2.out).mono ?_; rintro e w3 ⟨AW, c3, ms, rfl, hM⟩; have HM := Lib.hid hM; clear hM)
  obtain ⟨M, hM⟩ : ∃ M, M = ms.length := ⟨_, rfl⟩
  rw [← hM]
  obtain ⟨w4, g8, HW4, HG8, HB4, HPA, HR8⟩ := mp_box 26 p w3 AW c3 ms w3 HM.out.at_ M hM
  rw [← HW4.out, ← HG8.out]
  have H24 := Lib.hid (bstep HM.out.low HB4.out)
  have HMM := Lib.hid hM
  clear HMD hM
  obtain ⟨e0, e1, e2, e3, e4, e5, e6, e7⟩ := tit_cells (KT.out.below H24.out KT.out.lt)
  go_upto_region 4 with (go_at_call 36; refine (eds_w t x zs _ HSZ.out HC.out n HN.out (HT2.out _ H24.out)).mono ?_; rintro e w5 ⟨k, rfl, HK, HB5⟩)
  clear e0 e1 e2 e3 e4 e5 e6 e7
  have H25 := Lib.hid (bstep H24.out HB5.out)
  have H5 := Lib.hid (bstep H2.out H25.out)
  have HTT := Lib.hid (fun W (hb : Below w5.heap.size w5 W) => HT2.out W (bstep H25.out hb))
  have HR7 := Lib.hid (fun W (hb : Below w5.heap.size w5 W) => tit_cells (KT.out.below (bstep H25.out hb) KT.out.lt))
  have HR8 := Lib.hid (fun W (hb : Below w5.heap.size w5 W) => HR8.out W (bstep HB5.out hb))
  have HPA := Lib.hid (fun W (hb : Below w5.heap.size w5 W) => HPA.out W (bstep HB5.out hb))
  have HD0 := Lib.hid (show ∀ g12, g12 = w5.heap.size → DigAt (w5.alloc (.cells #[.slice A2 l2.length c2, .int .i64 0] 74)) w5.heap.size A2 c2 l2 g12 0 from fun g12 hg => ⟨by rw [hg]; exact Blk.new _ _ _, (HS2.out.below (bstep H5.out (balR (Below.refl _ _) _))).mono H5.out.size, by omega, hl2, HB2'.out⟩)
  clear HT2 KT HK HB5 HB4 HM H24 HW4 HG8 HB2' HS2 HS0 HS1
  go_upto_region 8 with fail
  obtain ⟨g12, hg12⟩ : ∃ g, g = w5.heap.size := ⟨_, rfl⟩
  have HD1 := Lib.hid (HD0.out g12 hg12)
  obtain ⟨w6, hw6⟩ : ∃ W, W = w5.alloc (.cells #[.slice A2 l2.length c2, .int .i64 0] 74) := ⟨_, rfl⟩
  rw [← hw6] at HD1 ⊢
  rw [← hg12]
  have HB6 := Lib.hid (show Below w5.heap.size w5 w6 by rw [hw6]; exact balR (Below.refl _ _) _)
  have HG12 := Lib.hid hg12
  clear HD0 hw6 hg12
  go_wp2_with fail
  go_loopw [11, 41] (fun v i wr => ∃ (k : Nat) (A' : Option Addr) (c' : Nat), k ≤ n ∧ i = .int .i64 k ∧ v = .slice A' k c' ∧ Hid (wr.ownsRow w5.heap.size 3 1 (.slice A' k c') k (intsV (permM l2 k))) ∧ Hid (DigAt wr w5.heap.size A2 c2 l2 g12 k) ∧ Hid (Below w5.heap.size w5 wr) ∧ Hid ((Value.slice A' k c').ownBlock ≠ some g12)) (fun _ i _ => n - (intOf i).toNat)
  case atStart => exact ⟨0, none, 0, Nat.zero_le _, rfl, rfl, Lib.hid (World.ownsRow_nil _ _ _ _), HD1, HB6, Lib.hid (by simp [Value.ownBlock])⟩
  case round =>
    clear HD1 HB6
    obtain ⟨k, A', c', hk, rfl, rfl, HO, HD, HB, HGN⟩ := hrel
    by_cases hlt : k < n
    · obtain ⟨dk, hdk⟩ : ∃ d, d = (Go.Rl.dig l2 k (k + 1)).toNat := ⟨_, rfl⟩
      have hdb := Go.Rl.dig_bd l2 k (n := k + 1) (by omega)
      have hdk2 : Go.Rl.dig l2 k (k + 1) = (dk : Int) := by omega
      have hcd : Calls Try.prog 31 #[.pointer (some ⟨g12, 0, none⟩), .int .i64 ((k : Int) + 1)] wr fun e w' => e = .returned (.int .i64 (dk : Int)) ∧ DigAt w' w5.heap.size A2 c2 l2 g12 (k + 1) ∧ wr.grownBy w' (some g12) := by
        have := digit_gm wr _ A2 c2 l2 g12 k (k + 1) ((k : Int) + 1) (by omega) HD.out (by omega) (by omega) (by omega)
        rw [hdk2] at this
        exact this
      have hyl : (intsV (permM l2 k)).length = k := by simp [intsV, permM_len]
      have hin : ∀ W : World, W.ownsRow w5.heap.size 3 1 (.slice A' k c') k (intsV (permM l2 k)) → w5.heap.size ≤ W.heap.size → Calls Try.prog 37 #[.slice A' k c', .int .i64 dk, .slice (some ⟨W.heap.size, 0, none⟩) 1 1] (W.alloc (.cells #[.int .i64 k] 3)) (InsPost (W.alloc (.cells #[.int .i64 k] 3)) w5.heap.size A' k c' ((intsV (permM l2 k)).insertIdx dk (.int .i64 k))) := by
        intro W hW hs
        have h0 := insert_own (W.alloc (.cells #[.int .i64 k] 3)) w5.heap.size c' W.heap.size dk A' (intsV (permM l2 k)) (.int .i64 k) (by rw [hyl]; exact hW.alloc _) (by simp; omega) (Blk.new W 3 _) (by rw [hyl]; intro e; have := (hW.lt _ e).2; omega) (by omega) (by omega) rfl (by simp [intsV]; intro a _; rfl)
        rw [hyl] at h0
        exact h0
      have hnx : (intsV (permM l2 k)).insertIdx dk (.int .i64 k) = intsV (permM l2 (k + 1)) := by
        rw [← intsV_ins]
        have hd3 : digZ l2 k (k + 1) = (dk : Int) := hdk2
        unfold permM
        rw [hd3, Int.toNat_natCast]
        cases k <;> rfl
      have HNX := Lib.hid hnx
      have HCD := Lib.hid hcd
      have HIN := Lib.hid hin
      have HBS := Lib.hid HB.out.size
      have hr1 : IntKind.i64.wrap ((k : Int) + 1) = (k : Int) + 1 := by rw [IntKind.wrap_i64]; omega
      have hr2 : wrap64 ((k : Int) + 1) = (k : Int) + 1 := by unfold wrap64; omega
      clear hcd hin hdk hdk2 hdb hyl hnx
      go_wp2_with (first
        | (go_at_call 31; refine HCD.out.mono ?_; rintro e w7 ⟨rfl, hD2, hS2⟩; have HD2 := Lib.hid hD2; have HS7 := Lib.hid hS2; have HO2 := Lib.hid (own_kept2 HO.out hS2 (.inr HGN.out)); clear hD2 hS2)
        | (go_at_call 37; refine (HIN.out _ HO2.out (Nat.le_trans HBS.out HS7.out.size)).mono ?_; rintro e w8 ⟨A3, c4, rfl, hO3, hG3, hA3⟩; have HO3 := Lib.hid hO3; have HG3 := Lib.hid hG3; have HA3 := Lib.hid hA3; clear hO3 hG3 hA3))
      go_roundw
      case rel =>
        have hs2 := HS7.out.size
        have hbs := HBS.out
        have hd3 := ((HD2.out.gr (World.grownBy_alloc w7 (.cells #[.int .i64 k] 3) none) (by simp) (by simp)).gr HG3.out HGN.out (fun j e => (HO2.out.lt j e).1))
        refine ⟨k + 1, A3, c4, by omega, by go_num, rfl, Lib.hid ?_, Lib.hid hd3, Lib.hid ?_, Lib.hid ?_⟩
        · rw [← HNX.out]; exact HO3.out
        · have hb7 : Below w5.heap.size w5 w7 := HB.out.grown HS7.out HB.out.size (fun j e => by injection e with e; have := HG12.out; omega)
          have hb8 := balR hb7 (.cells #[.int .i64 k] 3)
          exact hb8.grown HG3.out hb8.size (fun j e => (HO2.out.lt j e).1)
        · rcases HA3.out with h | ⟨g, h, hg⟩
          · intro e
            apply HGN.out
            rw [h] at e
            rcases A' with _ | a
            · simp [Value.ownBlock] at e
            · simpa [Value.ownBlock] using e
          · rw [h]
            intro e
            have hlt2 := HD2.out.k.lt
            unfold Value.ownBlock at e
            simp at e
            simp at hg
            omega
      case measure => simp [intOf]; omega
    · obtain rfl : n = k := by omega
      clear hk hlt HD HGN HG12
      obtain ⟨w7, hw7⟩ : ∃ W, W = wr := ⟨_, rfl⟩
      rw [← hw7] at HO HB ⊢
      clear hw7
      have HBN := Lib.hid HB.out
      have HOL := Lib.hid (show Sl encInt 1 w7 w7.heap.size A' (o.map fun (e : Nat) => (e : Int)) from by
        have h := HO.out
        rw [← HO0.out, ← ints_cast] at h
        have hl : (o.map fun (e : Nat) => (e : Int)).length = n := by rw [List.length_map]; exact HPO.out
        exact Go.Fh.own_sl (c := c') (by rw [hl]; exact h))
      have HPT := Lib.hid (show Calls Try.prog 38 #[.agg #[.slice x.a t.colours.length x.ca, .slice x.b t.pairs.length x.cb, .slice x.z t.zones.length x.cz, .slice x.r t.ready.length x.cr, .int .i64 t.start, .int .i64 t.rate, .int .i64 t.stop, .int .i64 t.hang], .slice A' n c'] w7 fun e w' => ∃ A9 c9, e = .returned (.tuple #[.slice A9 t.zones.length c9, .int .i64 0]) ∧ Hid (Sl enc3 3 w' w'.heap.size A9 pl) ∧ Hid (Below w7.heap.size w7 w') from by
        have := parts_w t x zs w7 HSZ.out HC.out A' c' o t.zones.length (by rw [← HPE.out]; exact HPL.out) (by have := HPO.out; omega) HOL.out HOO.out (HTT.out _ HB.out)
        rw [HPO.out, ← HPE.out] at this; exact this)
      clear HO
      obtain ⟨e0, e1, e2, e3, e4, e5, e6, e7⟩ := HR7.out _ HBN.out
      obtain ⟨p0, p1, p2⟩ := HR8.out _ HBN.out
      go_upto_region 16 with (go_at_call 38; with_reducible refine (HPT.out).mono ?_; rintro e wk ⟨Ap, cq, rfl, HPP, hbk⟩; have HBN := Lib.hid (bstep HBN.out hbk.out); clear hbk; clear e0 e1 e2 e3 e4 e5 e6 e7; obtain ⟨e0, e1, e2, e3, e4, e5, e6, e7⟩ := HR7.out _ HBN.out; clear p0 p1 p2; obtain ⟨p0, p1, p2⟩ := HR8.out _ HBN.out)
      obtain ⟨w8, hw8⟩ : ∃ W, W = wk := ⟨_, rfl⟩
      rw [← hw8] at HBN HPP ⊢
      clear hw8 HPT HOL e0 e1 e2 e3 e4 e5 e6 e7 p0 p1 p2 HB
      go_wp2_with fail
      go_loopw [63] (fun u wr => ∃ q : Nat, q ≤ t.zones.length ∧ u = .int .i64 q ∧ Hid (Below w8.heap.size w8 wr)) (fun u _ => t.zones.length - (intOf u).toNat)
      case atStart => exact ⟨0, Nat.zero_le _, rfl, Lib.hid (Below.refl _ _)⟩
      case round =>
        obtain ⟨q, hq, rfl, HBR⟩ := hrel
        have HBW := Lib.hid (bstep HBN.out HBR.out)
        clear HBN
        by_cases hlt : q < t.zones.length
        · obtain ⟨zq, m, c, hP⟩ := HPQ.out q hlt
          obtain ⟨hh, hhE⟩ : ∃ h, h = m + c - 1 := ⟨_, rfl⟩
          have hp3 := hP.hp
          rw [← hhE] at hp3
          obtain ⟨pb, po, rfl, hpb, d0, d1, d2⟩ := sl3_at (HPP.out.below HBR.out) hp3
          have hzq := hP.hz
          have hzqI : (zq : Int) < (t.zones.length : Int) := by omega
          have hzq0 : (0 : Int) ≤ (zq : Int) := by omega
          have m0 := hP.m0
          have m1 := hP.m1
          have hc1 := hP.c1
          have hc2 := hP.c2
          have HCZ := Lib.hid hP.hc
          have hq12 : q < 12 := by omega
          have hm9 : m ≤ 2400 := by omega
          have tz : decide (t.zones.length ≤ zq) = false := by simp; omega
          have hrun := run_two HE.out (lo := m) (hi := m + c) m0 (by omega) (by omega)
          have hh1 : wrap64 (hh + 1) = m + c := by unfold wrap64; omega
          have i0 : (0 : Int) ≤ (q : Int) := by omega
          have i1 : (q : Int) < (t.zones.length : Int) := by omega
          have HRUN := Lib.hid hrun
          clear hP hp3 hhE hrun
          obtain ⟨a1, a2, ha⟩ : ∃ a1 a2, (a1, a2) = runP p m := ⟨_, _, rfl⟩
          obtain ⟨b1, b2, hb⟩ : ∃ b1 b2, (b1, b2) = runP p (m + c) := ⟨_, _, rfl⟩
          have H15a := Lib.hid (fun W (hw : Below w5.heap.size w5 W) => run_c p AW c3 M ms W (HPA.out W hw) HMM.out HE.out m a1 a2 ha)
          have H15b := Lib.hid (fun W (hw : Below w5.heap.size w5 W) => run_c p AW c3 M ms W (HPA.out W hw) HMM.out HE.out (m + c) b1 b2 hb)
          have HTS := Lib.hid (show b2 = 70 ∨ (a2 = 0 ∧ b2 = 0 ∧ 0 ≤ a1 ∧ a1 ≤ b1 ∧ b1 ≤ rchP p ∧ goodN p a1 = m ∧ goodN p b1 = m + c) from by
            rcases HRUN.out with h | ⟨a, b, h1, h2, h3⟩
            · exact .inl (by rw [← hb] at h; exact h)
            · rw [← ha] at h1
              rw [← hb] at h2
              injection h1 with h1 h4
              injection h2 with h2 h5
              subst h1 h2 h4 h5
              exact .inr ⟨rfl, rfl, h3⟩)
          clear HRUN ha hb
          have HBN := HBW
          obtain ⟨e0, e1, e2, e3, e4, e5, e6, e7⟩ := HR7.out _ HBN.out
          obtain ⟨p0, p1, p2⟩ := HR8.out _ HBN.out
          go_upto_region 19 with fail
          obtain ⟨g16, hg16⟩ : ∃ g, g = wr.heap.size := ⟨_, rfl⟩
          obtain ⟨w9, hw9⟩ : ∃ W, W = wr.alloc (.cells #[.int .i64 zq, .int .i64 m, .int .i64 hh] 96) := ⟨_, rfl⟩
          rw [← hw9, ← hg16]
          have hk9 : Blk w9 g16 96 #[.int .i64 zq, .int .i64 m, .int .i64 hh] := by rw [hw9, hg16]; exact Blk.new _ _ _
          have HRQ := Lib.hid (show ∀ W, Below w9.heap.size w9 W → W.cell? ⟨g16, 0, none⟩ = some (.int .i64 zq) ∧ W.cell? ⟨g16, 1, none⟩ = some (.int .i64 m) ∧ W.cell? ⟨g16, 2, none⟩ = some (.int .i64 hh) from fun W hb => ⟨(hk9.below hb hk9.lt).cell 0, (hk9.below hb hk9.lt).cell 1, (hk9.below hb hk9.lt).cell 2⟩)
          have HB89 := Lib.hid (show Below w8.heap.size w8 w9 from by rw [hw9]; exact balR HBR.out _)
          have HBN := Lib.hid (show Below w5.heap.size w5 w9 from by rw [hw9]; exact balR HBW.out _)
          have HBQ := Lib.hid (Below.refl w9.heap.size w9)
          clear hw9 hg16 hk9 d0 d1 d2
          clear e0 e1 e2 e3 e4 e5 e6 e7 p0 p1 p2
          obtain ⟨e0, e1, e2, e3, e4, e5, e6, e7⟩ := HR7.out _ HBN.out
          obtain ⟨p0, p1, p2⟩ := HR8.out _ HBN.out
          obtain ⟨q0, q1, q2⟩ := HRQ.out _ HBQ.out
          rcases HTS.out with h70 | ⟨h1, h2, h3, h4, h5, h6, h7⟩
          · subst h70
            clear HTS
            go_wp2_with first
              | (go_at_call 15; with_reducible refine (H15a.out _ HBN.out).mono ?_; rintro e wk ⟨rfl, hbk⟩; have HBN := Lib.hid (bstep HBN.out hbk.out); have HBQ := Lib.hid (bstep HBQ.out hbk.out); clear hbk; clear e0 e1 e2 e3 e4 e5 e6 e7; obtain ⟨e0, e1, e2, e3, e4, e5, e6, e7⟩ := HR7.out _ HBN.out; clear p0 p1 p2; obtain ⟨p0, p1, p2⟩ := HR8.out _ HBN.out; clear q0 q1 q2; obtain ⟨q0, q1, q2⟩ := HRQ.out _ HBQ.out)
              | (go_at_call 15; with_reducible refine (H15b.out _ HBN.out).mono ?_; rintro e wk ⟨rfl, hbk⟩; have HBN := Lib.hid (bstep HBN.out hbk.out); have HBQ := Lib.hid (bstep HBQ.out hbk.out); clear hbk; clear e0 e1 e2 e3 e4 e5 e6 e7; obtain ⟨e0, e1, e2, e3, e4, e5, e6, e7⟩ := HR7.out _ HBN.out; clear p0 p1 p2; obtain ⟨p0, p1, p2⟩ := HR8.out _ HBN.out; clear q0 q1 q2; obtain ⟨q0, q1, q2⟩ := HRQ.out _ HBQ.out)
              | (go_at_call 17; refine (HAW.out _).mono ?_; rintro e wz ⟨rfl, hbz⟩; have HBZ := Lib.hid (bstep HBN.out hbz); clear hbz)
            go_ret
            exact ⟨rfl, bstep H5.out HBZ.out⟩
          · subst h1 h2
            clear HTS
            obtain ⟨S, hS⟩ : ∃ S, S = thrP p b1 := ⟨_, rfl⟩
            have H14 := Lib.hid (fun W (hw : Below w5.heap.size w5 W) => thr14_c p AW c3 M ms W (HPA.out W hw) HMM.out HE.out b1 (by omega) h5 S hS)
            have hSl : S.length ≤ 1000000 := by
              have h1 := thr_len (fun v hv => ((prs_ok HE.out).w v hv).n) b1
              have h2 := (prs_ok HE.out).n1
              rw [hS]; omega
            have HOS := Lib.hid (show ∀ k, k < b1 → outS S k = outS (thrP p (rchP p)) k from fun k hk => by rw [hS]; exact out_part h5 hk)
            have hb9 := (rch_bd HE.out).2
            have HGA := Lib.hid h6
            have HGB := Lib.hid h7
            have h59 : b1 ≤ 1000000 := by omega
            clear hS h6 h7 h5 hb9
            go_upto_region 29 with first
              | (go_at_call 15; with_reducible refine (H15a.out _ HBN.out).mono ?_; rintro e wk ⟨rfl, hbk⟩; have HBN := Lib.hid (bstep HBN.out hbk.out); have HBQ := Lib.hid (bstep HBQ.out hbk.out); clear hbk; clear e0 e1 e2 e3 e4 e5 e6 e7; obtain ⟨e0, e1, e2, e3, e4, e5, e6, e7⟩ := HR7.out _ HBN.out; clear p0 p1 p2; obtain ⟨p0, p1, p2⟩ := HR8.out _ HBN.out; clear q0 q1 q2; obtain ⟨q0, q1, q2⟩ := HRQ.out _ HBQ.out)
              | (go_at_call 15; with_reducible refine (H15b.out _ HBN.out).mono ?_; rintro e wk ⟨rfl, hbk⟩; have HBN := Lib.hid (bstep HBN.out hbk.out); have HBQ := Lib.hid (bstep HBQ.out hbk.out); clear hbk; clear e0 e1 e2 e3 e4 e5 e6 e7; obtain ⟨e0, e1, e2, e3, e4, e5, e6, e7⟩ := HR7.out _ HBN.out; clear p0 p1 p2; obtain ⟨p0, p1, p2⟩ := HR8.out _ HBN.out; clear q0 q1 q2; obtain ⟨q0, q1, q2⟩ := HRQ.out _ HBQ.out)
              | (go_at_call 14; with_reducible refine (H14.out _ HBN.out).mono ?_; rintro e wk ⟨As, S9, rfl, HSS, hbk⟩; have HBN := Lib.hid (bstep HBN.out hbk.out); have HBQ := Lib.hid (bstep HBQ.out hbk.out); clear hbk; clear e0 e1 e2 e3 e4 e5 e6 e7; obtain ⟨e0, e1, e2, e3, e4, e5, e6, e7⟩ := HR7.out _ HBN.out; clear p0 p1 p2; obtain ⟨p0, p1, p2⟩ := HR8.out _ HBN.out; clear q0 q1 q2; obtain ⟨q0, q1, q2⟩ := HRQ.out _ HBQ.out)
            obtain ⟨wA, hwA⟩ : ∃ W, W = wk := ⟨_, rfl⟩
            rw [← hwA] at HBN HBQ HSS e0 e1 e2 e3 e4 e5 e6 e7 p0 p1 p2 q0 q1 q2 ⊢
            clear hwA H14 H15a H15b e0 e1 e2 e3 e4 e5 e6 e7 p0 p1 p2 q0 q1 q2
            go_wp2_with fail
            go_loopw [23, 24] (fun u v wr => ∃ i : Nat, a1 + i ≤ b1 ∧ v = .int .i64 (a1 + i) ∧ u = .int .i64 (goodN p (a1 + i) - m) ∧ Hid (Below wA.heap.size wA wr)) (fun _ v _ => (b1 - intOf v).toNat)
            case atStart => exact ⟨0, by simpa using h4, by simp, by simp [HGA.out], Lib.hid (Below.refl _ _)⟩
            case round =>
              obtain ⟨i, hi, rfl, rfl, HBA⟩ := hrel
              obtain ⟨kk, hkk⟩ : ∃ k, k = a1 + (i : Int) := ⟨_, rfl⟩
              rw [← hkk] at hi ⊢
              have HKK := Lib.hid hkk
              have hk0 : 0 ≤ kk := by omega
              have hg1 := good_mono p (show a1 ≤ kk by omega)
              have hg2 := good_mono p hi
              have hga := HGA.out
              have hgb := HGB.out
              obtain ⟨G, hG⟩ : ∃ G, G = goodN p kk - m := ⟨_, rfl⟩
              rw [← hG]
              have hG0 : 0 ≤ G ∧ G ≤ 200 := by omega
              have HG := Lib.hid hG
              clear hkk hg1 hg2 hga hgb hG
              by_cases hlt2 : kk < b1
              · have hgs := good_s p kk
                have hos := HOS.out kk hlt2
                rw [← hos] at hgs
                obtain ⟨ob, hob⟩ : ∃ b, b = outS S kk := ⟨_, rfl⟩
                have H18 := Lib.hid (out18_any As S9 S kk wr (by omega) ((HSS.out.below HBA.out).mono HBA.out.size))
                rw [← hob] at hgs H18
                have HGS := Lib.hid hgs
                have w1' : wrap64 (G + 1) = G + 1 := by unfold wrap64; omega
                have w2' : wrap64 (kk + 1) = kk + 1 := by unfold wrap64; omega
                clear hgs hos hob
                cases ob
                · go_wp2_with (go_at_call 18; refine H18.out.mono ?_; rintro e wk ⟨rfl, hbk⟩; have HBA := Lib.hid (bstep HBA.out hbk.out); clear hbk)
                  go_roundw
                  case rel => exact ⟨i + 1, by have := HKK.out; omega, by have := HKK.out; simp; omega, by have := HKK.out; have h := HGS.out; have h2 := HG.out; simp only [if_neg Bool.false_ne_true] at h; rw [show a1 + ((i + 1 : Nat) : Int) = kk + 1 by omega, h]; simp; omega, HBA⟩
                  case measure => simp [intOf]; omega
                · go_wp2_with (go_at_call 18; refine H18.out.mono ?_; rintro e wk ⟨rfl, hbk⟩; have HBA := Lib.hid (bstep HBA.out hbk.out); clear hbk)
                  go_roundw
                  case rel => exact ⟨i + 1, by have := HKK.out; omega, by have := HKK.out; simp; omega, by have := HKK.out; have h := HGS.out; have h2 := HG.out; simp only [if_true] at h; rw [show a1 + ((i + 1 : Nat) : Int) = kk + 1 by omega, h]; simp; omega, HBA⟩
                  case measure => simp [intOf]; omega
              · have hkb : kk = b1 := by omega
                have hGc : G = c := by have := HG.out; have := HGB.out; rw [hkb] at *; omega
                have HBN := Lib.hid (bstep HBN.out HBA.out)
                have HBQ := Lib.hid (bstep HBQ.out HBA.out)
                obtain ⟨e0, e1, e2, e3, e4, e5, e6, e7⟩ := HR7.out _ HBN.out
                obtain ⟨q0, q1, q2⟩ := HRQ.out _ HBQ.out
                obtain ⟨gz, oz, hxz, dz⟩ := zons_copies (HTT.out _ HBN.out) hzq
                rw [← HCZ.out] at dz
                rw [hxz] at e2
                have HB8W := Lib.hid (bstep HB89.out HBQ.out)
                clear HG hkb hxz
                subst hGc
                go_wp2_with fail
                go_roundw
                case rel => exact ⟨q + 1, by omega, by go_num, HB8W⟩
                case measure => simp [intOf]; omega
        · obtain rfl : q = t.zones.length := by omega
          go_wp2_with (go_at_call 17; refine (HAW.out _).mono ?_; rintro e wz ⟨rfl, hbz⟩; have HBZ := Lib.hid (bstep HBW.out hbz); clear hbz)
          go_ret
          exact ⟨rfl, bstep H5.out HBZ.out⟩
end Go.Proofs.Ytnbnfadmbggfnaa
