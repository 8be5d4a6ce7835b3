/- Contract of Carrier; conditions: none. -/
import Derived.Test.YtgopdfbmddkpfaaV2
import Derived.Test.YtgopdfbmddkpfaaA5
set_option linter.unusedSimpArgs false
set_option linter.unusedVariables false
namespace Go.Fh
open Go.Ag Go.Proofs.Ytgopdfbmddkpfaa
theorem comOk_none {l : List SubM} {a b : Int} {x : Int × Int} (h : mget (subMap l) x.1 = none) : comOk (l.map Prod.fst) a b x = false := by
  unfold comOk
  rw [List.any_eq_false]
  intro s hs
  obtain ⟨y, hy, rfl⟩ := List.mem_map.1 hs
  by_cases e : y.1.id = x.1
  · obtain ⟨v, hv, _⟩ := mget_some (m := subMap l) (x := x.1) ⟨(y.1.id, y), List.mem_map.2 ⟨y, hy, rfl⟩, e⟩
    rw [h] at hv; cases hv
  · simp [e]
theorem comOk_some {l : List SubM} {a b : Int} {x : Int × Int} {y : SubM} (hE : listE (l.map Prod.fst) = 0) (h : mget (subMap l) x.1 = some y) : y ∈ l ∧ comOk (l.map Prod.fst) a b x = (inB x.2 a b && getsB y.1 x.2) := by
  have hex : ∃ p ∈ subMap l, p.1 = x.1 := by
    by_cases e : ∃ p ∈ subMap l, p.1 = x.1
    · exact e
    · have := mget_none (m := subMap l) (x := x.1) (fun p hp he => e ⟨p, hp, he⟩)
      rw [this] at h; cases h
  obtain ⟨v, hv, hm⟩ := mget_some hex
  rw [h] at hv
  obtain rfl := Option.some.inj hv
  obtain ⟨z, hz, hze⟩ := List.mem_map.1 hm
  have e1 : z.1.id = x.1 := congrArg Prod.fst hze
  obtain rfl : z = y := congrArg Prod.snd hze
  refine ⟨hz, ?_⟩
  obtain ⟨_, _, hap⟩ := listE_zero hE
  obtain ⟨i, hi, rfl⟩ := List.mem_iff_getElem.1 hz
  have hi2 : i < (l.map Prod.fst).length := by simpa using hi
  have eg : (l.map Prod.fst)[i] = l[i].1 := by simp
  unfold comOk
  cases hg : (inB x.2 a b && getsB l[i].1 x.2)
  · rw [List.any_eq_false]
    intro s hs
    obtain ⟨j, hj, rfl⟩ := List.mem_iff_getElem.1 hs
    by_cases e : (l.map Prod.fst)[j].id = x.1
    · obtain rfl := ids_apart hap hj hi2 (by rw [e, eg, e1])
      rw [eg, hg]; simp
    · intro hh; simp only [Bool.and_eq_true, beq_iff_eq] at hh; exact e hh.1
  · rw [List.any_eq_true]
    refine ⟨(l.map Prod.fst)[i], List.getElem_mem hi2, ?_⟩
    rw [eg, hg, e1]; simp
end Go.Fh
namespace Go.Proofs.Ytgopdfbmddkpfaa
open Go.RowKit Go.Fh Go.Ag

theorem getD_boolC (o : Option Bool) : (o.map Value.bool).getD (.bool false) = .bool (o.getD false) := by cases o <;> rfl
theorem zero4C : ∀ w, (zeroValue 4).run Try.prog w = .ok (.bool false) w := fun w => by kernel_rfl

set_option maxRecDepth 20000 in
set_option maxHeartbeats 4000000 in
theorem carrier_any (t : TariffD) (L : Option Addr) (cl : Nat) (l : List SubM) (C : Option Addr) (cc : Nat) (cm : List (Int × Int)) (a b : Int) (w : World) (hl : l.length ≤ 9223372036854775807) (hcl : cm.length ≤ 9223372036854775807)
    (hh : ∀ x ∈ l, x.1.hol.length ≤ 1000) (hL : Sl encSub 5 w w.heap.size L l) (hI : ∀ x ∈ l, Sl enc2 2 w w.heap.size x.2.1 x.1.hol) (hC : Sl enc2 2 w w.heap.size C cm) :
    Calls Try.prog 27 #[.agg (tarV t), .slice L l.length cl, .slice C cm.length cc, .int .i64 a, .int .i64 b] w (AccPost (carrierD t (l.map Prod.fst) cm a b) w) := by
  have HL := Lib.hid hL
  have HIN := Lib.hid hI
  have HCM := Lib.hid hC
  have HH := Lib.hid hh
  obtain ⟨ls, hls⟩ : ∃ ls, ls = l.map Prod.fst := ⟨_, rfl⟩
  have hsm := fun W (h1 : Sl encSub 5 W W.heap.size L l) h2 => subsMap_any L cl l W hl hh h1 h2
  rw [← hls] at hsm ⊢
  have HLS := Lib.hid hls
  have HSM := Lib.hid hsm
  clear hL hI hC hh hls hsm
  unfold tarV
  go_enter Try.func27, Try.ntmps27
  go_wp2_with fail
  refine (wrongT_any t _).mono ?_
  rintro e w1 ⟨rfl, hb1⟩
  obtain ⟨q1, q2⟩ := bcell hb1
  have hz : w.heap.size + 1 < w1.heap.size := by have := hb1.size; simp at this; omega
  have hz0 : w.heap.size < w1.heap.size := by omega
  have hbw : Below w.heap.size w w1 := (((Below.refl w.heap.size w).alloc (Nat.le_refl _) _).alloc (by simp) _).trans (hb1.mono (by simp; omega))
  have k1 : Blk w1 w.heap.size 36 #[.int .i64 t.price, .int .i64 t.back, .int .i64 t.late, .int .i64 t.carry, .int .i64 t.credit] :=
    ((Blk.new w 36 _).alloc _).below hb1 (by simp; omega)
  have k2 : Blk w1 (w.heap.size + 1) 53 #[.slice none 0 0, .int .i64 0] := by
    have := Blk.new (w.alloc (.cells #[.int .i64 t.price, .int .i64 t.back, .int .i64 t.late, .int .i64 t.carry, .int .i64 t.credit] 36)) 53 #[.slice none 0 0, .int .i64 0]
    rw [World.size_alloc] at this
    exact this.below hb1 (by simp)
  have K1 := Lib.hid k1
  have K2 := Lib.hid k2
  have HBW := Lib.hid hbw
  clear q1 q2 k1 k2 hb1
  -- every early way out
  have herr : ∀ (W : World) (n : Int), Below w1.heap.size w1 W → carrierE t ls cm a b = n → n ≠ 0 → ∀ v, v = Value.int .i64 n → ∀ W', W' = (W.setCell ⟨w.heap.size + 1, 0, none⟩ (.slice none 0 0)).setCell ⟨w.heap.size + 1, 1, none⟩ (.int .i64 0) →
      (W'.cell? ⟨w.heap.size + 1, 0, none⟩ = some (Value.slice none 0 0) ∧ W'.cell? ⟨w.heap.size + 1, 1, none⟩ = some (Value.int .i64 0)) ∧ AccPost (carrierD t ls cm a b) w (.returned (.tuple #[.agg #[.slice none 0 0, .int .i64 0], v])) W' := by
    intro W n hW he hn v hv W' hW'
    subst hv; subst hW'
    have kf := ((K2.out.below hW hz).set_ 0 (.slice none 0 0)).set_ 1 (.int .i64 0)
    refine ⟨⟨by simpa using kf.cell 0, by simpa using kf.cell 1⟩, AccPost.err ?_ ?_⟩
    · simp [carrierD, he, hn]
    · exact ((HBW.out.trans (hW.mono HBW.out.size)).setCell (by simp) _).setCell (by simp) _
  have HERR := Lib.hid herr
  clear herr
  have k2a := K2.out.cell 0
  have k2b := K2.out.cell 1
  have k2c := K2.out.frozen 0
  have k2d := K2.out.frozen 1
  simp at k2a k2b
  cases h1 : wrongT t
  case true =>
    have hce : carrierE t ls cm a b = 1 := by simp [carrierE, h1]
    have HE := Lib.hid (HERR.out w1 1 (Below.refl _ _) hce (by decide) _ rfl _ rfl)
    clear hce
    go_wp2_with fail
    refine bodyPost_ret (v := .tuple #[.agg #[.slice none 0 0, .int .i64 0], .int .i64 1]) ?_ rfl HE.out.2
    have z1 := HE.out.1.1
    have z2 := HE.out.1.2
    generalize World.setCell _ _ _ = W at z1 z2 ⊢
    simp [results, Try.results27, go_sem, z1, z2]
  case false =>
    have hT := (OkT_iff t).1 h1
    obtain ⟨⟨t1, t2⟩, ⟨t3, t4⟩, ⟨t5, t6⟩, ⟨t7, t8⟩, ⟨t9, t10⟩⟩ := hT
    have H1 := Lib.hid h1
    go_wp2_with fail
    refine (HSM.out _ ((HL.out.below HBW.out).mono HBW.out.size) (fun x hx => ((HIN.out x hx).below HBW.out).mono HBW.out.size)).mono ?_
    rintro e w2 ⟨v, rfl, hmap, hb2⟩
    have HMAP := Lib.hid hmap
    have hB12 := hb2
    have HB12 := Lib.hid hB12
    have k22 := K2.out.below hb2 hz
    have K22 := Lib.hid k22
    have K12 := Lib.hid (K1.out.below hb2 hz0)
    have y0 := k22.cell 0
    have y1 := k22.cell 1
    have y2 := k22.frozen 0
    have y3 := k22.frozen 1
    simp at y0 y1
    have hz2 : w.heap.size + 1 < w2.heap.size := by have := hb2.size; omega
    clear hmap hb2 hB12 k22 k2a k2b k2c k2d
    by_cases hE : listE ls = 0
    case neg =>
      have hce : carrierE t ls cm a b = listE ls := by simp [carrierE, H1.out, hE]
      have HE := Lib.hid (HERR.out w2 _ HB12.out hce hE _ rfl _ rfl)
      have t0 : (listE ls != 0) = true := by simp [hE]
      generalize listE ls = el at *
      clear hce hE
      go_wp2_with fail
      refine bodyPost_ret (v := .tuple #[.agg #[.slice none 0 0, .int .i64 0], .int .i64 el]) ?_ rfl HE.out.2
      have z1 := HE.out.1.1
      have z2 := HE.out.1.2
      generalize World.setCell _ _ _ = W at z1 z2 ⊢
      simp [results, Try.results27, go_sem, z1, z2]
    case pos =>
      obtain ⟨g, rfl, hg, hmi⟩ := HMAP.out hE
      have HMI := Lib.hid hmi
      have HE0 := Lib.hid hE
      have hglt := hmi.lt
      rw [hE]
      clear hmi hE HMAP
      cases hp : periodB a b
      · have hce : carrierE t ls cm a b = 6 := by simp [carrierE, H1.out, HE0.out, hp]
        have HE := Lib.hid (HERR.out w2 6 HB12.out hce (by decide) _ rfl _ rfl)
        clear hce
        go_wp2_with (go_at_call 70; refine (period_any a b _).mono ?_; rintro e w' ⟨rfl, rfl⟩)
        refine bodyPost_ret (v := .tuple #[.agg #[.slice none 0 0, .int .i64 0], .int .i64 6]) ?_ rfl HE.out.2
        have z1 := HE.out.1.1
        have z2 := HE.out.1.2
        generalize World.setCell _ _ _ = W at z1 z2 ⊢
        simp [results, Try.results27, go_sem, z1, z2]
      · by_cases h5 : 500 < cm.length
        · have hce : carrierE t ls cm a b = 2 := by simp [carrierE, H1.out, HE0.out, hp, h5]
          have HE := Lib.hid (HERR.out w2 2 HB12.out hce (by decide) _ rfl _ rfl)
          have t0 : decide ((500 : Int) < (cm.length : Int)) = true := by simp; omega
          clear hce
          go_wp2_with (go_at_call 70; refine (period_any a b _).mono ?_; rintro e w' ⟨rfl, rfl⟩)
          refine bodyPost_ret (v := .tuple #[.agg #[.slice none 0 0, .int .i64 0], .int .i64 2]) ?_ rfl HE.out.2
          have z1 := HE.out.1.1
          have z2 := HE.out.1.2
          generalize World.setCell _ _ _ = W at z1 z2 ⊢
          simp [results, Try.results27, go_sem, z1, z2]
        · have hce : carrierE t ls cm a b = firstErr (errC ls cm a b) cm.length := by simp [carrierE, H1.out, HE0.out, hp, h5]
          have HCE := Lib.hid hce
          have t0 : decide ((500 : Int) < (cm.length : Int)) = false := by simp; omega
          have hpp : (0 ≤ a ∧ a ≤ 20000) ∧ (a ≤ b ∧ b ≤ 20000) := by simpa [periodB, inB] using hp
          obtain ⟨⟨p1, p2⟩, p3, p4⟩ := hpp
          have hmm := @run_makeMap Try.prog
          have hm0 : MapIs ekCom Value.bool (w2.alloc (.map #[] 0)) w2.heap.size [] := MapIs.new w2 ekCom Value.bool
          have HM0 := Lib.hid hm0
          have hb3 : Below w2.heap.size w2 (w2.alloc (.map #[] 0)) := (Below.refl _ _).alloc (Nat.le_refl _) _
          clear hce hm0
          go_wp2_with (go_at_call 70; refine (period_any a b _).mono ?_; rintro e w' ⟨rfl, rfl⟩)
          clear hmm y0 y1 y2 y3
          go_loopw [51] (fun i wr => ∃ k : Nat, k ≤ cm.length ∧ i = .int .i64 k ∧ Hid (firstErr (errC ls cm a b) k = 0) ∧ Hid (∃ m : List ((Int × Int) × Bool), MapIs ekCom Value.bool wr w2.heap.size m ∧ ∀ x, (mget m x).getD false = metC cm k x) ∧ Below w2.heap.size w2 wr) (fun i _ => cm.length - (intOf i).toNat)
          case atStart => exact ⟨0, Nat.zero_le _, rfl, rfl, ⟨[], HM0.out, fun x => by simp [mget, metC]⟩, hb3⟩
          case round =>
            clear hb3
            obtain ⟨k, hk, rfl, HFE, HM, hB⟩ := hrel
            have hB1 := HB12.out.trans (hB.mono HB12.out.size)
            have hBw := HBW.out.trans (hB1.mono HBW.out.size)
            have hmi := MapIs.below HMI.out hB hglt
            have hsz := hB.size
            by_cases hlt : k < cm.length
            · obtain ⟨cb, off, rfl, hcb, c0, c1⟩ := (HCM.out.below hBw).at2 hlt
              obtain ⟨m, hmc, hmq⟩ := HM.out
              have hget := errC_get (l := ls) (a := a) (b := b) hlt
              have hstop : errC ls cm a b k ≠ 0 → carrierE t ls cm a b = errC ls cm a b k := fun h => by rw [HCE.out, firstErr_stop HFE.out h hlt]
              have hms := metC_succ hlt
              obtain ⟨x, hx⟩ : ∃ x, x = cm[k] := ⟨_, rfl⟩
              rw [← hx] at c0 c1 hget
              have hcbw : cb < wr.heap.size := by have := hBw.size; omega
              have kk := K22.out.below hB hz2
              have hBx := hB.alloc hB.size (.cells #[.int .i64 x.1, .int .i64 x.2] 66)
              have hkx := Blk.new wr 66 #[.int .i64 x.1, .int .i64 x.2]
              have hmx := hmi.alloc (.cells #[.int .i64 x.1, .int .i64 x.2] 66)
              have hmcx := hmc.alloc (.cells #[.int .i64 x.1, .int .i64 x.2] 66)
              have hg2 := hmc.lt
              have HG := Lib.hid hget
              have HS := Lib.hid hstop
              have HX := Lib.hid hx
              have HMS := Lib.hid hms
              have HMQ := Lib.hid hmq
              have HBX := Lib.hid hBx
              have HKX := Lib.hid hkx
              have HMX := Lib.hid hmx
              have HMCX := Lib.hid hmcx
              have HKK := Lib.hid kk
              clear hget hstop hx hms hmq hBx hkx hmx hmcx kk hmi hmc HM hBw hB1 hz hz0
              cases hmg : mget (subMap l) x.1 with
              | none =>
                have hco : comOk ls a b x = false := by rw [HLS.out]; exact comOk_none hmg
                have hec : errC ls cm a b k = 4 := by rw [HG.out, hco]; simp
                have hce : carrierE t ls cm a b = 4 := by rw [HS.out (by rw [hec]; decide), hec]
                have hBy := HBX.out.alloc HBX.out.size (.cells #[.int .i64 0, .int .i64 0, .int .i64 0, .int .i64 0, .slice none 0 0] 63)
                have hky := (HKK.out.alloc (.cells #[.int .i64 x.1, .int .i64 x.2] 66)).alloc (.cells #[.int .i64 0, .int .i64 0, .int .i64 0, .int .i64 0, .slice none 0 0] 63)
                have n0 := hky.cell 0
                have n1 := hky.cell 1
                have n2 := hky.frozen 0
                have n3 := hky.frozen 1
                simp at n0 n1
                have HE := Lib.hid (HERR.out _ 4 (HB12.out.trans (hBy.mono HB12.out.size)) hce (by decide) _ rfl _ rfl)
                have HMG := Lib.hid hmg
                clear hco hec hce hBy hky hmg
                go_wp2_with (at_lookup; refine wpList_lookup rfl (.tmp 56) (.tmp 58) 135 true rfl Try.underlying135 (keyLaw_int Try.underlying3) zero63 HMX.out x.1 rfl rfl ?_; simp only [if_true, HMG.out, Option.map_none, Option.getD_none, Option.isSome_none])
                refine bodyPost_ret (v := .tuple #[.agg #[.slice none 0 0, .int .i64 0], .int .i64 4]) ?_ rfl HE.out.2
                have z1 := HE.out.1.1
                have z2 := HE.out.1.2
                generalize World.setCell _ _ _ = W at z1 z2 ⊢
                simp [results, Try.results27, go_sem, z1, z2]
              | some y =>
                obtain ⟨hyl, hco⟩ := comOk_some (a := a) (b := b) (by rw [← HLS.out]; exact HE0.out) hmg
                rw [← HLS.out] at hco
                have hyo : OkS y.1 := (listE_zero HE0.out).2.1 _ (by rw [HLS.out]; exact List.mem_map.2 ⟨y, hyl, rfl⟩)
                have hBy := HBX.out.alloc HBX.out.size (.cells #[.int .i64 y.1.id, .int .i64 y.1.lo, .int .i64 y.1.hi, .int .i64 y.1.days, .slice y.2.1 y.1.hol.length y.2.2] 63)
                have hky := (HKK.out.alloc (.cells #[.int .i64 x.1, .int .i64 x.2] 66)).alloc (.cells #[.int .i64 y.1.id, .int .i64 y.1.lo, .int .i64 y.1.hi, .int .i64 y.1.days, .slice y.2.1 y.1.hol.length y.2.2] 63)
                have hkx2 := HKX.out.alloc (.cells #[.int .i64 y.1.id, .int .i64 y.1.lo, .int .i64 y.1.hi, .int .i64 y.1.days, .slice y.2.1 y.1.hol.length y.2.2] 63)
                have n0 := hky.cell 0
                have n1 := hky.cell 1
                have n2 := hky.frozen 0
                have n3 := hky.frozen 1
                simp at n0 n1
                have HBY := Lib.hid hBy
                have HKY := Lib.hid hky
                have HKX2 := Lib.hid hkx2
                have HMG := Lib.hid hmg
                have HCO := Lib.hid hco
                have HYO := Lib.hid hyo
                have hyI := HIN.out y hyl
                have hyh := HH.out y hyl
                have HYI := Lib.hid hyI
                clear hyl hco hyo hBy hky hkx2 hmg hyI
                cases hin : inB x.2 a b
                · have hco2 : comOk ls a b x = false := by rw [HCO.out, hin]; rfl
                  have hec : errC ls cm a b k = 4 := by rw [HG.out, hco2]; simp
                  have hce : carrierE t ls cm a b = 4 := by rw [HS.out (by rw [hec]; decide), hec]
                  have HE := Lib.hid (HERR.out _ 4 (HB12.out.trans (HBY.out.mono HB12.out.size)) hce (by decide) _ rfl _ rfl)
                  clear hco2 hec hce
                  go_wp2_with (first
                    | (at_lookup; refine wpList_lookup rfl (.tmp 56) (.tmp 58) 135 true rfl Try.underlying135 (keyLaw_int Try.underlying3) zero63 HMX.out x.1 rfl rfl ?_; simp only [if_true, HMG.out, Option.map_some, Option.getD_some, Option.isSome_some, evSub])
                    | (go_at_call 48; refine (within_any _ _ _ _).mono ?_; rintro e w' ⟨rfl, rfl⟩))
                  refine bodyPost_ret (v := .tuple #[.agg #[.slice none 0 0, .int .i64 0], .int .i64 4]) ?_ rfl HE.out.2
                  have z1 := HE.out.1.1
                  have z2 := HE.out.1.2
                  generalize World.setCell _ _ _ = W at z1 z2 ⊢
                  simp [results, Try.results27, go_sem, z1, z2]
                · have hg := fun W hW => gets_any y.1 y.2.1 y.2.2 x.2 W HYO.out.2.1.1 HYO.out.2.2.1.2 HYO.out.2.2.2.1.1 HYO.out.2.2.2.1.2 (by omega) hW
                  unfold subV at hg
                  have HGT := Lib.hid hg
                  have hBYw := HBW.out.trans ((HB12.out.trans (HBY.out.mono HB12.out.size)).mono HBW.out.size)
                  have HYIW := Lib.hid ((HYI.out.below hBYw).mono hBYw.size)
                  clear hg hBYw
                  go_wp2_with (first
                    | (at_lookup; refine wpList_lookup rfl (.tmp 56) (.tmp 58) 135 true rfl Try.underlying135 (keyLaw_int Try.underlying3) zero63 HMX.out x.1 rfl rfl ?_; simp only [if_true, HMG.out, Option.map_some, Option.getD_some, Option.isSome_some, evSub])
                    | (go_at_call 48; refine (within_any _ _ _ _).mono ?_; rintro e w' ⟨rfl, rfl⟩))
                  refine (HGT.out _ HYIW.out).mono ?_
                  rintro e w5 ⟨rfl, hb5⟩
                  have hB5 := HBY.out.trans (hb5.mono HBY.out.size)
                  have hk5 := Blk.below HKY.out hb5 HKY.out.lt
                  have hx5 := Blk.below HKX2.out hb5 HKX2.out.lt
                  have hm5 := MapIs.below (HMCX.out.alloc (.cells #[.int .i64 y.1.id, .int .i64 y.1.lo, .int .i64 y.1.hi, .int .i64 y.1.days, .slice y.2.1 y.1.hol.length y.2.2] 63)) hb5 (by simp; omega)
                  have r0 := hk5.cell 0
                  have r1 := hk5.cell 1
                  have r2 := hk5.frozen 0
                  have r3 := hk5.frozen 1
                  have s0 := hx5.cell 0
                  have s1 := hx5.cell 1
                  simp at r0 r1 s0 s1
                  have HB5 := Lib.hid hB5
                  have HM5 := Lib.hid hm5
                  have HX5 := Lib.hid hx5
                  clear hB5 hk5 hx5 hm5 hb5 n0 n1 n2 n3 HYIW HGT
                  cases hgt : getsB y.1 x.2
                  · have hco2 : comOk ls a b x = false := by rw [HCO.out, hin, hgt]; rfl
                    have hec : errC ls cm a b k = 4 := by rw [HG.out, hco2]; simp
                    have hce : carrierE t ls cm a b = 4 := by rw [HS.out (by rw [hec]; decide), hec]
                    have HE := Lib.hid (HERR.out _ 4 (HB12.out.trans (HB5.out.mono HB12.out.size)) hce (by decide) _ rfl _ rfl)
                    clear hco2 hec hce
                    go_wp2_with fail
                    refine bodyPost_ret (v := .tuple #[.agg #[.slice none 0 0, .int .i64 0], .int .i64 4]) ?_ rfl HE.out.2
                    have z1 := HE.out.1.1
                    have z2 := HE.out.1.2
                    generalize World.setCell _ _ _ = W at z1 z2 ⊢
                    simp [results, Try.results27, go_sem, z1, z2]
                  · have hco2 : comOk ls a b x = true := by rw [HCO.out, hin, hgt]; rfl
                    cases hmet : metC cm k x
                    · have hgo := firstErr_go HFE.out (by rw [HG.out, hco2, hmet]; simp)
                      have HGO := Lib.hid hgo
                      clear hgo hco2
                      go_wp2_with (first
                        | (at_lookup; refine wpList_lookup rfl (.tmp 80) (.tmp 81) 138 false rfl Try.underlying138 keyLaw_com zero4C HM5.out x rfl rfl ?_; simp only [Bool.false_eq_true, if_false, getD_boolC, HMQ.out, hmet])
                        | (at_mapUpdate; refine wpList_update rfl (.tmp 84) (.tmp 85) (.const (.bool true)) 138 rfl Try.underlying138 keyLaw_com HM5.out x true rfl rfl rfl ?_; intro w6 hm6 hg6 hs6; clear hs6))
                      have HM6 := Lib.hid hm6
                      have HB6 := Lib.hid (HB5.out.grown hg6 HB5.out.size (fun j hj => by injection hj with hj; omega))
                      clear hm6 hg6
                      go_wp2_with fail
                      go_roundw
                      case rel =>
                        refine ⟨k + 1, by omega, by go_num, HGO, ⟨_, HM6.out, fun z => ?_⟩, HB6.out⟩
                        rw [mget_mset, HMS.out, ← HX.out]
                        by_cases hxz : z = x
                        · subst hxz; simp
                        · rw [if_neg hxz, HMQ.out]
                          have : (x == z) = false := by simpa using (fun e => hxz e.symm)
                          rw [this]; simp
                      case measure => simp [intOf]; omega
                    · have hec : errC ls cm a b k = 10 := by rw [HG.out, hco2, hmet]; simp
                      have hce : carrierE t ls cm a b = 10 := by rw [HS.out (by rw [hec]; decide), hec]
                      have HE := Lib.hid (HERR.out _ 10 (HB12.out.trans (HB5.out.mono HB12.out.size)) hce (by decide) _ rfl _ rfl)
                      clear hco2 hec hce
                      go_wp2_with (at_lookup; refine wpList_lookup rfl (.tmp 80) (.tmp 81) 138 false rfl Try.underlying138 keyLaw_com zero4C HM5.out x rfl rfl ?_; simp only [Bool.false_eq_true, if_false, getD_boolC, HMQ.out, hmet])
                      refine bodyPost_ret (v := .tuple #[.agg #[.slice none 0 0, .int .i64 0], .int .i64 10]) ?_ rfl HE.out.2
                      have z1 := HE.out.1.1
                      have z2 := HE.out.1.2
                      generalize World.setCell _ _ _ = W at z1 z2 ⊢
                      simp [results, Try.results27, go_sem, z1, z2]
            · obtain rfl : k = cm.length := by omega
              have hce : carrierE t ls cm a b = 0 := by rw [HCE.out, HFE.out]
              have hres : carrierD t ls cm a b = (0, carrierL t ls cm a b, sumLines (carrierL t ls cm a b)) := by simp [carrierD, hce]
              have HRES := Lib.hid hres
              have hl500 : l.length ≤ 500 := by have := (listE_zero HE0.out).1; rw [HLS.out] at this; simpa using this
              have hoks := (listE_zero HE0.out).2.1
              have HOKS := Lib.hid hoks
              obtain ⟨w4, hw4⟩ : ∃ w4, w4 = wr := ⟨_, rfl⟩
              rw [← hw4] at hB hB1 hBw ⊢
              have HBW4 := Lib.hid hBw
              have HB24 := Lib.hid hB
              have hz4 : w.heap.size + 1 < w4.heap.size := by have := hB.size; omega
              clear hce hres hoks HM hmi hsz hB hB1 hBw hw4
              go_wp2_with fail
              go_loopw [19, 89] (fun n i wr => ∃ k : Nat, k ≤ l.length ∧ i = .int .i64 k ∧ n = .int .i64 (allC ls a b k) ∧ Below w4.heap.size w4 wr) (fun _ i _ => l.length - (intOf i).toNat)
              case atStart => exact ⟨0, Nat.zero_le _, rfl, rfl, Below.refl _ _⟩
              case round =>
                obtain ⟨k, hk, rfl, rfl, hB⟩ := hrel
                have hBw := HBW4.out.trans (hB.mono HBW4.out.size)
                have hsz := hB.size
                have hcb : ∀ i, 0 ≤ copiesB (ls.getD i sub0) a b ∧ copiesB (ls.getD i sub0) a b ≤ 20001 := by
                  intro i
                  rw [copiesB_count]
                  have := copiesN_bd (ls.getD i sub0) a (b + 1 - a).toNat
                  omega
                have hbd : 0 ≤ allC ls a b k ∧ allC ls a b k ≤ 20001 * k := sumN_bd fun i _ => hcb i
                by_cases hlt : k < l.length
                · obtain ⟨lb, off, rfl, hlb, c0, c1, c2, c3, c4⟩ := (HL.out.below hBw).at5 hlt
                  have hxI := HIN.out _ (List.getElem_mem hlt)
                  have hgd : ls.getD k sub0 = l[k].1 := by rw [HLS.out]; simp [hlt]
                  have hxo : OkS l[k].1 := HOKS.out _ (by rw [HLS.out]; exact List.mem_map.2 ⟨l[k], List.getElem_mem hlt, rfl⟩)
                  have hcbk := hcb k
                  have hal : allC ls a b (k + 1) = allC ls a b k + copiesB (ls.getD k sub0) a b := rfl
                  rw [hgd] at hal hcbk
                  obtain ⟨x, hx⟩ : ∃ x, x = l[k] := ⟨_, rfl⟩
                  rw [← hx] at c0 c1 c2 c3 c4 hxI hxo hal hcbk
                  have hlbw : lb < wr.heap.size := by have := hBw.size; omega
                  have hBx := hB.alloc hB.size (.cells #[.int .i64 x.1.id, .int .i64 x.1.lo, .int .i64 x.1.hi, .int .i64 x.1.days, .slice x.2.1 x.1.hol.length x.2.2] 63)
                  have hBxw := HBW4.out.trans (hBx.mono HBW4.out.size)
                  have hcp := copies_any x.1 x.2.1 x.2.2 a b _ hxo p1 p2 p4 (by omega) ((hxI.below hBxw).mono hBxw.size)
                  unfold subV at hcp
                  have HCP := Lib.hid hcp
                  have HBX := Lib.hid hBx
                  have HAL := Lib.hid hal
                  have gw := IntWalk.i64_in (allC ls a b k + copiesB x.1 a b) (by omega)
                  clear hxI hgd hxo hx hBx hBxw hcp hcb hal
                  generalize allC ls a b k = ak at *
                  generalize copiesB x.1 a b = cx at *
                  go_wp2_with fail
                  refine HCP.out.mono ?_
                  rintro e w5 ⟨rfl, hb5⟩
                  have HB5 := Lib.hid (HBX.out.trans (hb5.mono HBX.out.size))
                  clear hb5
                  go_wp2_with fail
                  go_roundw
                  case rel => exact ⟨k + 1, by omega, by go_num, int_eq (by rw [HAL.out]), HB5.out⟩
                  case measure => simp [intOf]; omega
                · obtain rfl : k = l.length := by omega
                  have hlsl : ls.length = l.length := by rw [HLS.out]; simp
                  have hcl2 : carrierL t ls cm a b = [(4, allC ls a b l.length, allC ls a b l.length * t.carry), (5, cm.length, cm.length * -t.credit)] := by unfold carrierL; rw [hlsl]
                  have HCL := Lib.hid hcl2
                  have hk1 := (K12.out.below (HB24.out.trans (hB.mono HB24.out.size)) (by omega))
                  have hk2 := (K22.out.below (HB24.out.trans (hB.mono HB24.out.size)) hz2)
                  have K1' := Lib.hid hk1
                  have K2' := Lib.hid hk2
                  have hsz4 : w.heap.size + 1 < wr.heap.size := by omega
                  have HBr := Lib.hid hBw
                  clear hlsl hcl2 hk1 hk2 hcb hB hBw
                  generalize allC ls a b l.length = n at *
                  go_wp2_with fail
                  refine (account_any _).mono ?_
                  rintro e w5 ⟨rfl, he⟩
                  have hacc : AccAt w5 (wr.heap.size + 1) wr.heap.size wr.heap.size none 0 [] 0 := by
                    subst he
                    refine ⟨?_, (Blk.new wr 53 _).alloc _, World.ownsRow_nil _ _ _ _⟩
                    have := Blk.new (wr.alloc (.cells #[.slice none 0 0, .int .i64 0] 53)) 130 #[.pointer (some ⟨wr.heap.size, 0, none⟩)]
                    rwa [World.size_alloc] at this
                  have hB5 : Below wr.heap.size wr w5 := by subst he; exact ((Below.refl _ _).alloc (Nat.le_refl _) _).alloc (by simp) _
                  have HACC := Lib.hid hacc
                  have K15 := Lib.hid (K1'.out.below hB5 (by omega))
                  have a0 := K15.out.cell 3
                  simp at a0
                  clear he hacc
                  have b1 := Int.mul_le_mul (show n ≤ 10000500 by omega) t8 (by omega) (by omega)
                  have b2 := Int.mul_nonneg hbd.1 t7
                  have b3 := Int.mul_le_mul (show (cm.length : Int) ≤ 500 by omega) t10 (by omega) (by omega)
                  have b4 := Int.mul_nonneg (show (0 : Int) ≤ cm.length by omega) t9
                  have n1' : (cm.length : Int) * -t.credit = -((cm.length : Int) * t.credit) := by rw [Int.mul_neg]
                  have N1 := Lib.hid n1'
                  have gneg := IntWalk.i64_in (-t.credit) (by omega)
                  clear n1'
                  go_wp2_with fail
                  refine (addLine_any 4 n t.carry (wr.heap.size + 1) wr.heap.size wr.heap.size none 0 [] 0 w5 HACC.out (Nat.le_refl _) (by simp) (by omega) (by omega) (by omega) (by omega)).mono ?_
                  rintro e w6 ⟨rfl, ⟨A1, c1, hacc1⟩, hB6⟩
                  have HACC1 := Lib.hid hacc1
                  have K16 := Lib.hid (K15.out.below hB6 (by omega))
                  have a1 := K16.out.cell 4
                  simp at a1
                  clear hacc1 a0
                  go_wp2_with fail
                  refine (addLine_any 5 cm.length (-t.credit) (wr.heap.size + 1) wr.heap.size wr.heap.size A1 c1 _ _ w6 HACC1.out (Nat.le_refl _) (by simp) (by rw [N1.out]; omega) (by rw [N1.out]; omega) (by omega) (by omega)).mono ?_
                  rintro e w7 ⟨rfl, ⟨A2, c2, hacc2⟩, hB7⟩
                  have HACC2 := Lib.hid hacc2
                  have k2 := ((K2'.out.below hB5 (by omega)).below hB6 (by omega)).below hB7 (by omega)
                  have K27 := Lib.hid k2
                  have d0 := hacc2.2.1.cell 0
                  have d1 := hacc2.2.1.cell 1
                  have m1 := k2.cell 0
                  have m2 := k2.cell 1
                  have m3 := k2.frozen 0
                  have m4 := k2.frozen 1
                  simp at d0 d1 m1 m2
                  clear hacc2 a1 k2
                  go_wp2_with fail
                  have hBF : Below w.heap.size w w7 := (((HBr.out.trans (hB5.mono (by omega))).trans (hB6.mono (by omega))).trans (hB7.mono (by omega)))
                  have kf := (K27.out.set_ 0 (.slice A2 2 c2)).set_ 1 (.int .i64 (0 + n * t.carry + cm.length * -t.credit))
                  refine bodyPost_ret (v := .tuple #[.agg #[.slice A2 2 c2, .int .i64 (0 + n * t.carry + cm.length * -t.credit)], .int .i64 0]) ?_ rfl ?_
                  · have z1 : World.cell? _ ⟨w.heap.size + 1, 0, none⟩ = some (Value.slice A2 2 c2) := kf.cell 0
                    have z2 : World.cell? _ ⟨w.heap.size + 1, 1, none⟩ = some (Value.int .i64 (0 + n * t.carry + cm.length * -t.credit)) := kf.cell 1
                    simp only [Int.zero_add] at z1 z2 ⊢
                    generalize World.setCell _ _ _ = W at z1 z2 ⊢
                    simp [results, Try.results27, go_sem, z1, z2]
                  · rw [HRES.out, HCL.out]
                    refine ⟨A2, c2, by simp [sumLines], ?_, Fr.own (HACC2.out.2.2) (by omega), (hBF.setCell (by simp) _).setCell (by simp) _⟩
                    have hne := own_blk_ne HACC2.out.2.2 K27.out (by decide)
                    exact Sl.of_own (enc := enc3) (l := [(4, n, n * t.carry), (5, (cm.length : Int), cm.length * -t.credit)]) (fun _ => rfl) (own_far (own_far HACC2.out.2.2 hne _) hne _)
end Go.Proofs.Ytgopdfbmddkpfaa
