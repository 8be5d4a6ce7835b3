/- Contract of open's first loop: editions of zones; conditions: a title that is right. -/
import Derived.Test.YtokdleanpkkdpaaD5b
import Derived.Deep.RegionHeld3
import Derived.Deep.DeepCutAuto
import Derived.Deep.CutRange
set_option linter.unusedSimpArgs false
set_option linter.unusedVariables false
namespace Go.Proofs.Ytokdleanpkkdpaa
open Go.RowKit Go.Fh Go.Ed
theorem _root_.Go.Ed.EdsAt.drew {w : World} {B : Nat} {v : Value} {es : List EdM} (h : EdsAt w B v es) : EdsAt w.drew B v es := ⟨h.row, h.zon, h.var, h.sep⟩
theorem _root_.Go.Ed.EdsAt.old {w : World} {B : Nat} {v : Value} {es : List EdM} (h : EdsAt w B v es) : ∀ i (hi : i < es.length) b g, eb es[i] b = some g → g < w.heap.size := by
  intro i hi b g q
  cases b
  · exact ((h.zon i hi).lt g (by rw [zV_own]; exact q)).2
  · exact ((h.var i hi).lt g (by rw [vV_own]; exact q)).2
theorem infoRow : (Try.prog.info? 22).map (fun i => (i.zero, i.size, i.bytes)) = some (some (.slice none 0 0), 1, 24) := by kernel_rfl
set_option maxRecDepth 20000 in
set_option maxHeartbeats 8000000 in
theorem open_any (t : TitD) (x : TA) (zs : List ZonM) (w : World) (hs : Sizes t) (hT : TitAt w w.heap.size t x zs) (hc : checkT t = 0) :
    Calls Try.prog 61 #[.agg (titV t x)] w fun e w' => ∃ k : Wk, e = .returned (.tuple #[.pointer (some ⟨k.g, 0, none⟩), .int .i64 0]) ∧ WorkAt w' w.heap.size t x k ∧ Below w.heap.size w w' := by
  obtain ⟨w1, hw1⟩ : ∃ W, W = w.alloc (.cells (titV t x) 26) := ⟨_, rfl⟩
  have hb1 : Below w.heap.size w w1 := by rw [hw1]; exact (Below.refl _ _).alloc (Nat.le_refl _) _
  obtain ⟨gT, hgT⟩ : ∃ g, g = w.heap.size := ⟨_, rfl⟩
  have kT : Blk w1 gT 26 (titV t x) := by rw [hw1, hgT]; exact Blk.new _ _ _
  have hT1 := (hT.below hb1).mono hb1.size
  have hgl : gT < w1.heap.size := kT.lt
  have s3 := hs.s3
  have r0 := kT.cell 0
  have r1 := kT.cell 1
  have r2 := kT.cell 2
  have r3 := kT.cell 3
  have r4 := kT.cell 4
  have r5 := kT.cell 5
  have r6 := kT.cell 6
  have r7 := kT.cell 7
  simp [titV] at r0 r1 r2 r3 r4 r5 r6 r7
  have HCK := Lib.hid ((check_any t x zs w1 hs hT1))
  have HT1 := Lib.hid hT1
  have HB1 := Lib.hid hb1
  have HW1 := Lib.hid hw1
  have HGT := Lib.hid hgT
  have KT := Lib.hid kT
  have HS := Lib.hid hs
  have HC := Lib.hid hc
  clear hb1 hw1 hgT kT hT1 hs hT hc
  have hmm := @run_makeMap Try.prog
  unfold titV at *
  go_enter Try.func61, Try.ntmps61
  go_upto_region 1 with fail
  rw [← HW1.out, ← HGT.out]
  go_upto_region 4 with (go_at_call 41; refine HCK.out.mono ?_; rintro e w2 ⟨rfl, hb2⟩; rw [HC.out]; have k2 := KT.out.below hb2 hgl; clear r0 r1 r2 r3 r4 r5 r6 r7; have r0 := k2.cell 0; have r1 := k2.cell 1; have r2 := k2.cell 2; have r3 := k2.cell 3; have r4 := k2.cell 4; have r5 := k2.cell 5; have r6 := k2.cell 6; have r7 := k2.cell 7; simp at r0 r1 r2 r3 r4 r5 r6 r7; have HB2 := Lib.hid hb2; have hg2 := k2.lt; clear hb2 k2)
  go_wp2_with fail
  generalize hW3 : World.alloc (World.alloc w2 _) _ = w3
  obtain ⟨gW, hgW⟩ : ∃ g, g = w2.heap.size := ⟨_, rfl⟩
  obtain ⟨gM, hgM⟩ : ∃ g, g = w2.heap.size + 1 := ⟨_, rfl⟩
  rw [← hgM, ← hgW]
  have kW : Blk w3 gW 129 (workC t x (.slice none 0 0) (.slice none 0 0) 0) := by
    rw [← hW3, hgW]; exact (Blk.new w2 129 _).alloc _
  have mM : MapIs (fun x : ArrK 64 => arrV .i8 x.1) (Value.int .i64) w3 gM [] := by
    have h0 := MapIs.new (w2.alloc (.cells (workC t x (.slice none 0 0) (.slice none 0 0) 0) 129)) (fun x : ArrK 64 => arrV .i8 x.1) (Value.int .i64)
    rw [World.size_alloc] at h0
    rw [← hW3, hgM]; exact h0
  have hb3 : Below w1.heap.size w1 w3 := by rw [← hW3]; exact (HB2.out.alloc HB2.out.size _).alloc (by have := HB2.out.size; simp; omega) _
  have HK0 := Lib.hid (chk_ok HC.out)
  have KW := Lib.hid kW
  have MM := Lib.hid mM
  have HB3 := Lib.hid hb3
  have HW3 := Lib.hid hW3
  have HGW := Lib.hid (show w1.heap.size ≤ gW by rw [hgW]; exact HB2.out.size)
  have HGM := Lib.hid (show w1.heap.size ≤ gM by rw [hgM]; have := HB2.out.size; omega)
  have hwm : gW ≠ gM := by omega
  have HWM := Lib.hid hwm
  clear kW mM hb3 hW3 hgW hgM hwm hmm r0 r1 r2 r3 r4 r5 r6 r7
  go_loopw [31] (fun i wr => ∃ (k : Nat) (es : List EdM) (v : Value) (m : List (ArrK 64 × Int)), k ≤ t.zones.length ∧ i = .int .i64 k ∧ Hid (es.map (·.1) = edsN t k) ∧ Hid (EdsAt wr w1.heap.size v es) ∧ Hid (Blk wr gW 129 (workC t x v (.slice none 0 0) 0)) ∧ Hid (MapIs (fun x : ArrK 64 => arrV .i8 x.1) (Value.int .i64) wr gM m ∧ Idx m (keysN t k)) ∧ Below w1.heap.size w1 wr) (fun i _ => t.zones.length - (intOf i).toNat)
  case atStart => exact ⟨0, [], _, [], Nat.zero_le _, rfl, rfl, EdsAt.nil _ _, KW, ⟨MM.out, rfl, fun j h => absurd h (by simp)⟩, HB3.out⟩
  case round =>
    obtain ⟨k, es, v, m, hk, rfl, HE, HEA, HKW, HM, hW⟩ := hrel
    have HW := Lib.hid hW
    have hgr : gT < wr.heap.size := Nat.lt_of_lt_of_le hgl hW.size
    clear hW
    by_cases hlt : k < t.zones.length
    · have hz : k < zs.length := by rw [HT1.out.zlen]; exact hlt
      obtain ⟨zb, zo, hxz, hzb, c0, c1, c2⟩ := Sl.atZon ((HT1.out.below HW.out).cZ) hz
      have hva := HT1.out.cV k hz
      have hzg := HT1.out.zget hz
      have hok := errZ_ok (HK0.out.ez k hlt)
      have hks := keysN_succ hlt (fun i hi => (errZ_ok (HK0.out.ez i (by omega))).2.2.1)
      rw [hzg] at hok hks
      have heds : edsN t (k + 1) = addZ (edsN t k) k (t.zones.getD k ⟨0, 0, []⟩) := rfl
      rw [hzg] at heds
      obtain ⟨⟨⟨cp, du, va⟩, vA, vc⟩, hzk⟩ : ∃ z, z = zs[k] := ⟨_, rfl⟩
      rw [← hzk] at c0 c1 c2 hva hzg hok hks heds
      dsimp only at c0 c1 c2 hva hzg hok hks heds
      have HVA := Lib.hid (fun W (hb : Below w1.heap.size w1 W) => (hva.below hb).mono hb.size)
      have HKS := Lib.hid hks
      have HEDS := Lib.hid heds
      have HOK := Lib.hid hok
      obtain ⟨wz, hwz⟩ : ∃ W, W = wr.alloc (.cells #[.int .i64 cp, .int .i64 du, .slice vA va.length vc] 47) := ⟨_, rfl⟩
      obtain ⟨gZ, hgZ⟩ : ∃ g, g = wr.heap.size := ⟨_, rfl⟩
      have kz : Blk wz gZ 47 #[.int .i64 cp, .int .i64 du, .slice vA va.length vc] := by rw [hwz, hgZ]; exact Blk.new _ _ _
      have HWZ1 := Lib.hid (show Below w1.heap.size w1 wz by rw [hwz]; exact HW.out.alloc HW.out.size _)
      have HMZ := Lib.hid (show MapIs (fun x : ArrK 64 => arrV .i8 x.1) (Value.int .i64) wz gM m by rw [hwz]; exact HM.out.1.alloc _)
      have HEZ := Lib.hid (show EdsAt wz w1.heap.size v es by rw [hwz]; exact HEA.out.alloc _)
      have HKZ := Lib.hid (show Blk wz gW 129 (workC t x v (.slice none 0 0) 0) by rw [hwz]; exact HKW.out.alloc _)
      have q0 := kz.cell 0
      have q2 := kz.cell 2
      simp at q0 q2
      have hgz : gZ < wz.heap.size := kz.lt
      have HWZ := Lib.hid hwz
      have HGZ := Lib.hid hgZ
      have KZ := Lib.hid kz
      have HZK := Lib.hid hzk
      rw [hxz]
      clear hwz hgZ kz hzg hzk hva hxz hks heds hok
      by_cases hcp : cp = 0
      · subst hcp
        go_upto_region 9 with fail
        rw [← HWZ.out, ← HGZ.out]
        go_wp2_with fail
        go_roundw
        case rel =>
          refine ⟨k + 1, es, v, m, by omega, by go_num, ?_, HEZ.out, HKZ.out, ⟨HMZ.out, ?_⟩, HWZ1.out⟩
          · exact (show es.map (·.1) = edsN t (k + 1) by rw [HEDS.out, HE.out]; simp [addZ])
          · rw [HKS.out]; simp only [if_true]; exact HM.out.2
        case measure => simp [intOf]; omega
      · have hv64 : va.length ≤ 64 := by rw [HOK.out.2.2.1]; exact HK0.out.ok.c1
        have HPL := Lib.hid (padK_len hv64)
        have ht1 : (cp == 0) = false := by simpa using hcp
        obtain ⟨kc, hkc⟩ : ∃ kc, kc = ((padK va).map (Value.int .i8)).toArray := ⟨_, rfl⟩
        have hsz : kc.size = 64 := by rw [hkc]; simp [HPL.out]
        have hone : kc.all (·.oneCell') = true := by rw [hkc]; exact all_oneCell_toArray (by intro v hv; simp at hv; obtain ⟨a, _, rfl⟩ := hv; rfl)
        have HKO := Lib.hid (show Calls Try.prog 93 #[.slice vA va.length vc] wz fun e w' => e = .returned (.agg kc) ∧ Below wz.heap.size wz w' by rw [hkc]; exact keyOf_any vA vc va wz hv64 HOK.out.2.2.2 (HVA.out wz HWZ1.out))
        have HKC := Lib.hid hkc
        have HSZ := Lib.hid hsz
        have HONE := Lib.hid hone
        have HCP := Lib.hid hcp
        clear hkc hsz hone hcp
        go_upto_region 9 with fail
        rw [← HWZ.out, ← HGZ.out]
        go_upto_region 11 with first
          | (go_at_call 93; refine HKO.out.mono ?_; rintro e w6 ⟨rfl, hb6⟩; have HB6 := Lib.hid hb6; clear hb6)
          | (refine wpList_store_mid rfl 164 _ _ rfl w6.heap.size 0 kc rfl rfl ((Blk.new w6 164 _).there (by rw [HSZ.out]; exact Nat.le_refl _)) (by rw [HSZ.out]; exact info164) HONE.out ?_)
        generalize hwk : World.setCells _ _ 0 _ = wk
        obtain ⟨gK, hgK⟩ : ∃ g, g = w6.heap.size := ⟨_, rfl⟩
        rw [← hgK] at hwk ⊢
        have kK : Blk wk gK 164 kc := by
          rw [← hwk, hgK]
          exact (Blk.new w6 164 _).setAll (by rw [HSZ.out]; rfl)
        have hb6k : Below wz.heap.size wz wk := by
          rw [← hwk]
          exact setCells_below (by rw [hgK]; exact HB6.out.size) _ _ _ (HB6.out.alloc HB6.out.size _)
        have HMK := Lib.hid (HMZ.out.below hb6k HMZ.out.lt)
        have HEK := Lib.hid (HEZ.out.below hb6k)
        have hWK := HKZ.out.below hb6k HKZ.out.lt
        have hZK := KZ.out.below hb6k hgz
        have HWK1 := Lib.hid (HWZ1.out.trans (hb6k.mono HWZ1.out.size))
        have HKW2 := Lib.hid hWK
        have HZ2 := Lib.hid hZK
        have KK := Lib.hid kK
        have HIX := HM.out.2
        have HEL := Lib.hid (show es.length = (edsN t k).length by rw [← HE.out]; simp)
        have heln : es.length ≤ k := by rw [HEL.out]; exact edsN_len t k
        obtain ⟨A0, c0', hv0⟩ := own_shape HEK.out.row
        subst hv0
        clear hwk hgK kK hb6k hWK hZK HB6 q0 q2 c0 c1 c2
        have hlen := keysN_len t k
        obtain ⟨KX, hKX⟩ : ∃ x : ArrK 64, x = ⟨padK va, HPL.out⟩ := ⟨_, rfl⟩
        have hkcv : Value.agg kc = arrV .i8 KX.1 := by rw [HKC.out, hKX]; rfl
        have HKCV := Lib.hid hkcv
        have HKX := Lib.hid (show KX.1 = padK va by rw [hKX])
        have hks2 := HKS.out
        rw [if_neg HCP.out] at hks2
        obtain ⟨nv, hnv⟩ : ∃ nv : Int, ((mget m KX).map (Value.int .i64)).getD (.int .i64 0) = .int .i64 nv := by cases mget m KX <;> exact ⟨_, rfl⟩
        obtain ⟨ob, hob⟩ : ∃ ob, ob = (mget m KX).isSome := ⟨_, rfl⟩
        have HNV := Lib.hid hnv
        have HOB := Lib.hid hob
        have HKS2 := Lib.hid hks2
        clear hkcv hKX hnv hob hks2 hlen HKS
        go_upto_if 49 with first
          | (refine wpList_load_row rfl 164 _ rfl gK rfl 164 kc (0, 0) _ KK.out Try.underlying164 rfl (by rw [HSZ.out]; exact info164) ?_)
          | (at_lookup; refine wpList_lookup rfl (.tmp 43) (.tmp 44) 178 true rfl Try.underlying178 keyLaw162 zero3 HMK.out KX rfl HKCV.out ?_; simp only [if_true, HNV.out, ← HOB.out])
        go_cut [10] (fun p wx => ∃ (n : Nat) (es1 : List EdM) (g1 c1 : Nat) (m1 : List (ArrK 64 × Int)), p = .int .i64 n ∧ Hid (∃ h : n < es1.length, es1[n].1.variants = va ∧ es1.map (·.1) = preZ (edsN t k) ⟨cp, du, va⟩) ∧ Hid (EdsAt wx w1.heap.size (.slice (some ⟨g1, 0, none⟩) es1.length c1) es1) ∧ Hid (Blk wx gW 129 (workC t x (.slice (some ⟨g1, 0, none⟩) es1.length c1) (.slice none 0 0) 0)) ∧ Hid (MapIs (fun x : ArrK 64 => arrV .i8 x.1) (Value.int .i64) wx gM m1 ∧ Idx m1 (keysN t (k + 1))) ∧ Hid (Blk wx gZ 47 #[.int .i64 cp, .int .i64 du, .slice vA va.length vc]) ∧ Below w1.heap.size w1 wx)
        case first =>
          cases hmg : mget m KX with
          | some n' =>
            obtain ⟨n, hn, rfl, hnk⟩ := HIX.found hmg
            have hobt : ob = true := by rw [HOB.out, hmg]; rfl
            have hnvn : nv = n := by have := HNV.out; rw [hmg] at this; simpa using this.symm
            have hne : n < es.length := by rw [HEL.out, ← keysN_len]; exact hn
            obtain ⟨gE, cE, hve, _, _⟩ := HEK.out.row.form (by omega)
            have hvar : es[n].1.variants = va := by
              have h1 : (keysN t k)[n] = padK es[n].1.variants := by
                have : keysN t k = es.map fun e => padK e.1.variants := by unfold keysN; rw [← HE.out]; simp
                simp [this]
              rw [hnk, HKX.out] at h1
              refine (padK_inj ?_ h1).symm
              have := (edsN_bd HK0.out k (by omega) es[n].1 (by rw [← HE.out]; exact List.mem_map.2 ⟨_, List.getElem_mem hne, rfl⟩)).vn
              rw [this]; exact HOK.out.2.2.1
            have hpz : es.map (·.1) = preZ (edsN t k) ⟨cp, du, va⟩ := by
              rw [preZ_any]
              · exact HE.out
              · rw [← HE.out]; exact List.mem_map.2 ⟨es[n].1, List.mem_map.2 ⟨_, List.getElem_mem hne, rfl⟩, hvar⟩
            have hkk : keysN t (k + 1) = keysN t k := by
              rw [HKS2.out, if_pos]
              rw [← HKX.out, ← hnk]; exact List.getElem_mem hn
            rw [hve] at HEK HKW2
            subst hnvn
            subst hobt
            have HKK := Lib.hid hkk
            have HVAR := Lib.hid hvar
            have HPZ := Lib.hid hpz
            clear hve hvar hpz hkk hmg hnk
            go_wp2_with fail
            go_meet
            case rel => exact ⟨n, es, gE, cE, m, rfl, ⟨hne, HVAR.out, HPZ.out⟩, HEK.out, HKW2.out, ⟨HMK.out, by rw [HKK.out]; exact HIX⟩, HZ2.out, HWK1.out⟩
          | none =>
            obtain rfl : ob = false := by rw [HOB.out, hmg]; rfl
            have hnk : padK va ∉ keysN t k := by
              have h1 := (mget_none_iff m KX).1 hmg
              intro h2
              rw [← HKX.out, ← HIX.1] at h2
              obtain ⟨y, hy, hq⟩ := List.mem_map.1 h2
              exact h1 (List.mem_map.2 ⟨y, hy, Subtype.ext hq⟩)
            have hkk : keysN t (k + 1) = keysN t k ++ [KX.1] := by rw [HKS2.out, if_neg hnk, HKX.out]
            have hpz : preZ (edsN t k) ⟨cp, du, va⟩ = edsN t k ++ [⟨[], 0, 0, 86400, va⟩] := by
              rw [preZ_none]
              intro h
              obtain ⟨e, he, hq⟩ := List.mem_map.1 h
              exact hnk (List.mem_map.2 ⟨e, he, by rw [show e.variants = va from hq]⟩)
            have hidx := HIX.more hmg
            have HIDX := Lib.hid hidx
            have HKK := Lib.hid hkk
            have HPZ := Lib.hid hpz
            have k8 := HKW2.out.cell 8
            simp [workC] at k8
            have hkl : (keysN t k).length = es.length := by rw [keysN_len, ← HEL.out]
            have HKL := Lib.hid hkl
            clear hidx hkk hpz hnk hmg hkl
            go_upto_region 15 with first
              | (refine wpList_load_row rfl 164 _ rfl gK rfl 164 kc (0, 0) _ KK.out Try.underlying164 rfl (by rw [HSZ.out]; exact info164) ?_)
              | (at_mapUpdate; refine wpList_update rfl (.tmp 55) (.tmp 56) (.tmp 57) 178 rfl Try.underlying178 keyLaw162 HMK.out KX (es.length : Int) rfl HKCV.out rfl ?_; intro w7 hm7 hg7 hs7; have HM7 := Lib.hid hm7; have HG7 := Lib.hid hg7; have HS7 := Lib.hid hs7; clear hm7 hg7 hs7)
            have k7 := HKW2.out.grown HG7.out (fun e => HWM.out (by injection e))
            have z7 := HZ2.out.grown HG7.out (fun e => by injection e with e; subst e; obtain ⟨_, _, h1, _⟩ := HMK.out; have h2 : _ = some _ := HZ2.out; rw [h1] at h2; cases h2)
            have e7 := HEK.out.grown HG7.out (map_kind HMK.out)
            have hb7 := HWK1.out.grown HG7.out HWK1.out.size (fun j hj => by injection hj with hj; rw [← hj]; exact HGM.out)
            have hk7 := k7.lt
            have hz7 := z7.lt
            have SB := Lib.hid (show ∀ W, Below w7.heap.size w7 W → W.cell? ⟨gZ, 2, none⟩ = some (.slice vA va.length vc) from fun W hb => by rw [(z7.below hb hz7).cell]; simp)
            have SW := Lib.hid (show ∀ W, Below w7.heap.size w7 W → W.cell? ⟨gW, 8, none⟩ = some (.slice A0 es.length c0') from fun W hb => by rw [(k7.below hb hk7).cell]; simp [workC])
            have y7 := SW.out w7 (Below.refl _ _)
            have HE7 := Lib.hid e7
            have HB7 := Lib.hid hb7
            have K7 := Lib.hid k7
            have Z7 := Lib.hid z7
            obtain ⟨i0, hi, hz0, hz1, hz2⟩ := info_parts infoEd
            have HI := Lib.hid hi
            have hh7 := hb7.size
            have HAP := Lib.hid (show ∀ (W w9 : World), Below w7.heap.size w7 W → W.grownBy w9 (Value.slice A0 es.length c0').ownBlock → Blk w9 gW 129 (workC t x (.slice A0 es.length c0') (.slice none 0 0) 0) ∧ Blk w9 gZ 47 #[.int .i64 cp, .int .i64 du, .slice vA va.length vc] ∧ MapIs (fun x : ArrK 64 => arrV .i8 x.1) (Value.int .i64) w9 gM (mset m KX (es.length : Int)) ∧ Below w1.heap.size w1 w9 from fun W w9 hb hg => by
              have er := (e7.below hb).row
              have kk := k7.below hb hk7
              have zz := z7.below hb hz7
              have mm := HM7.out.below hb HM7.out.lt
              refine ⟨kk.grown hg (own_blk_ne er kk (by decide)), zz.grown hg (own_blk_ne er zz (by decide)), mm.same (hg.block gM mm.lt (fun e => ?_)), (hb7.trans (hb.mono hb7.size)).grown hg (Nat.le_trans hb7.size hb.size) (fun j hj => (er.lt j hj).1)⟩
              rcases er.2 with ⟨h0, _⟩ | ⟨g2, cap, cur, hv, _, hc, _⟩
              · rw [h0] at e; cases e
              · rw [hv] at e
                have e : gM = g2 := by simpa [Value.ownBlock] using e
                subst e
                exact map_kind mm cur 52 (.inr rfl) hc)
            have hva64 : va.length * 8 ≤ 140737488355328 := by omega
            have hm1 : es.length + 1 ≤ maxLen := by simp only [maxLen]; omega
            have hm2 : (es.length + 1) * 72 ≤ 140737488355328 := by omega
            clear k7 z7 e7 hb7 k8 hi
            have q7 := SB.out w7 (Below.refl _ _)
            go_region_law (first
                | (go_simp; go_at_call 40; refine (cloneOwn_any vA vc va _ hva64 (HVA.out _ (by repeat (first | exact HB7.out | refine Below.drew ?_)))).mono ?_; rintro e w8 ⟨A', c', rfl, hown8, hb8⟩; have HB8 := Lib.hid (((Below.refl w7.heap.size w7).drew).trans hb8); have HO8 := Lib.hid (show w8.ownsRow w7.heap.size 3 1 (.slice A' va.length c') va.length (va.map (Value.int .i64)) from hown8); have hz78 := HB8.out.size; have y8 := SW.out w8 HB8.out; have q8 := SB.out w8 HB8.out; have hk8 := Nat.lt_of_lt_of_le hk7 hz78; clear hb8 hown8; go_wp2_with fail)
                | (refine step_append_lies _ rfl (.tmp 62) (.tmp 67) 34 rfl w1.heap.size 52 i0 _ 5 72 Try.underlying34 HI.out hz0 hz1 hz2 rfl (by decide) (.slice A0 es.length c0') es.length (es.flatMap encEd) (by rfl) ((HE7.out.below (by repeat (first | exact HB8.out | refine Below.drew ?_ | refine Below.alloc ?_ (by first | exact HB8.out.size | simp) _))).row) _ 1 1 [.slice none 0 0, .int .i64 0, .int .i64 0, .int .i64 86400, .slice A' va.length c'] (by rfl) rfl (World.news_of_block (cs := #[.slice none 0 0, .int .i64 0, .int .i64 0, .int .i64 86400, .slice A' va.length c']) (t := 52) (fr := (0, 0)) (by show Blk _ _ 52 #[.slice none 0 0, .int .i64 0, .int .i64 0, .int .i64 86400, .slice A' va.length c']; repeat (first | exact Blk.new _ _ _ | refine Blk.drew ?_))) (by intro u hu; simp at hu; rcases hu with rfl | rfl | rfl | rfl <;> rfl) (by decide) hm1 hm2 (by simp; omega) _ rfl ?_
                   intro g9 cap9 w9 hown9 hgrow9 hat9 hlt9
                   have h9 := HAP.out _ w9 (by repeat (first | exact HB8.out | refine Below.drew ?_ | refine Below.alloc ?_ (by first | exact HB8.out.size | simp) _))  hgrow9
                   have H9 := Lib.hid h9
                   have hS9 : w9.cell? ⟨gZ, 2, none⟩ = some (.slice vA va.length vc) := by rw [h9.2.1.cell]; simp
                   have hy9 : w9.cell? ⟨gW, 8, none⟩ = some (.slice A0 es.length c0') := by rw [h9.1.cell]; simp [workC]
                   have hT9 : ∀ u, (w9.setCell ⟨gW, 8, none⟩ u).cell? ⟨gZ, 2, none⟩ = some (.slice vA va.length vc) := fun u => by rw [(h9.2.1.far (p := ⟨gW, 8, none⟩) (fun e => by exact Blk.ne_ h9.1 h9.2.1 (by decide) e.symm) u).cell]; simp
                   have hf9 := h9.1.frozen 8
                   have HG9 := Lib.hid hgrow9
                   have HO9 := Lib.hid hown9
                   clear h9 hgrow9 hown9 hat9))
            all_goals
              have hpush := EdsAt.push (HE7.out.below (by repeat (first | exact HB8.out | refine Below.drew ?_ | refine Below.alloc ?_ (by first | exact HB8.out.size | simp) _))) (⟨[], 0, 0, 86400, va⟩, ⟨none, 0, A', c'⟩) ⟨rfl, rfl, rfl⟩ (own_belowV HO8.out (by repeat (first | exact Below.refl _ _ | refine Below.drew ?_ | refine Below.alloc ?_ (by simp) _))) hh7 HE7.out.old (by simpa [encEd] using HO9.out) HG9.out
              have hfin := hpush.set_ H9.out.1 (by decide) (by decide) 8 (.slice (some ⟨g9, 0, none⟩) (es.length + 1) cap9)
              have HFIN := Lib.hid hfin
              clear hpush hfin
              go_wp2_with fail
              go_meet
              refine ⟨es.length, es ++ [(⟨[], 0, 0, 86400, va⟩, ⟨none, 0, A', c'⟩)], g9, cap9, _, rfl, ⟨by simp, by simp, by rw [HPZ.out, ← HE.out]; simp⟩, ?_, ?_, ⟨H9.out.2.2.1.same (Below.heap_setCell _ _ _ _ (by exact fun e => HWM.out e.symm)), ?_⟩, H9.out.2.1.far (by exact fun e => Blk.ne_ H9.out.1 H9.out.2.1 (by decide) e.symm) _, H9.out.2.2.2.setCell (by exact HGW.out) _⟩
              · exact Lib.hid (by simpa using HFIN.out)
              · have := H9.out.1.set_ 8 (.slice (some ⟨g9, 0, none⟩) (es.length + 1) cap9)
                exact Lib.hid (by simpa [workC] using this)
              · rw [HKK.out]
                have := HIDX.out
                rw [HKL.out] at this
                exact this
        case rest =>
          obtain ⟨n, es1, g1, c1, m1, rfl, HN, HE1, HK1, HM1, HZ1, hW1⟩ := hcut
          obtain ⟨hn, hvn, hmn⟩ := HN.out
          have HMN := Lib.hid hmn
          have HVN := Lib.hid hvn
          have HW1c := Lib.hid hW1
          obtain ⟨⟨ed, ad⟩, hen⟩ : ∃ e, e = es1[n] := ⟨_, rfl⟩
          have hmem : ed ∈ preZ (edsN t k) ⟨cp, du, va⟩ := by rw [← hmn]; exact List.mem_map.2 ⟨(ed, ad), by rw [hen]; exact List.getElem_mem hn, rfl⟩
          have hbe : 0 ≤ ed.copies ∧ ed.copies ≤ 1000000 * (k : Int) ∧ ed.zones.length ≤ k := by
            unfold preZ at hmem
            split at hmem
            · have := edsN_bd HK0.out k (by omega) ed hmem; exact ⟨by have := this.c0; omega, this.c1, this.zn⟩
            · rcases List.mem_append.1 hmem with h | h
              · have := edsN_bd HK0.out k (by omega) ed h; exact ⟨by have := this.c0; omega, this.c1, this.zn⟩
              · simp at h; subst h; simp; omega
          have hl1 : es1.length ≤ 13 := by
            have h1 : es1.length = (preZ (edsN t k) ⟨cp, du, va⟩).length := by rw [← hmn]; simp
            have h2 : (preZ (edsN t k) ⟨cp, du, va⟩).length ≤ (edsN t k).length + 1 := by unfold preZ; split <;> simp
            have := edsN_len t k
            have := HK0.out.z1
            omega
          have hz12 := HK0.out.z1
          have y8 := HK1.out.cell 8
          simp [workC] at y8
          have a0 := (HE1.out.at_ hn 0 (by omega))
          have a1 := (HE1.out.at_ hn 1 (by omega))
          have a3 := (HE1.out.at_ hn 3 (by omega))
          rw [← hen] at a0 a1 a3
          simp [encEd] at a0 a1 a3
          obtain ⟨p0, f0⟩ := a0
          have hgz1 := HZ1.out.lt
          have hrow0 := HE1.out.zon n hn
          rw [← hen] at hrow0
          have HROW0 := Lib.hid (show wc.ownsRow w1.heap.size 3 1 (.slice ad.z ed.zones.length ad.cz) ed.zones.length (ed.zones.map (Value.int .i64)) from hrow0)
          obtain ⟨i0, hi, hz0, hz1, hz2⟩ := info_parts infoInt
          have HI := Lib.hid hi
          have HEN := Lib.hid hen
          have hwc := hW1.size
          have hmz : ed.zones.length + 1 ≤ maxLen := by simp only [maxLen]; omega
          have hmy : (ed.zones.length + 1) * 8 ≤ 140737488355328 := by omega
          have HR8 := Lib.hid (show ∀ w8, (wc.alloc (.cells #[.int .i64 (k : Int)] 3)).grownBy w8 (Value.slice ad.z ed.zones.length ad.cz).ownBlock → w8.ownsRow w1.heap.size 52 5 (.slice (some ⟨g1, 0, none⟩) es1.length c1) es1.length (es1.flatMap encEd) ∧ Blk w8 gZ 47 #[.int .i64 cp, .int .i64 du, .slice vA va.length vc] ∧ Blk w8 gW 129 (workC t x (.slice (some ⟨g1, 0, none⟩) es1.length c1) (.slice none 0 0) 0) ∧ MapIs (fun x : ArrK 64 => arrV .i8 x.1) (Value.int .i64) w8 gM m1 ∧ Below w1.heap.size w1 w8 from fun w8 hg => by
            have hr := HE1.out.row.alloc (.cells #[.int .i64 (k : Int)] 3)
            have hz := HROW0.out.alloc (.cells #[.int .i64 (k : Int)] 3)
            refine ⟨hr.kept hg (own_own_ne hr hz (by decide)), (HZ1.out.alloc _).grown hg (own_blk_ne hz (HZ1.out.alloc _) (by decide)), (HK1.out.alloc _).grown hg (own_blk_ne hz (HK1.out.alloc _) (by decide)), (HM1.out.1.alloc _).same (hg.block gM (HM1.out.1.alloc _).lt (fun e => ?_)), (HW1c.out.alloc HW1c.out.size _).grown hg (by have := HW1c.out.size; simp; omega) (fun j hj => (hz.lt j hj).1)⟩
            rcases hz.2 with ⟨h0, _⟩ | ⟨g2, cap, cur, hv, _, hc, _⟩
            · rw [h0] at e; cases e
            · rw [hv] at e
              have e : gM = g2 := by simpa [Value.ownBlock] using e
              subst e
              exact map_kind (HM1.out.1.alloc _) cur 3 (.inl rfl) hc)
          clear hvn hmn hW1 hen hmem hrow0 hi a1 a3
          go_wp2_with (at_builtin; refine wpList_append_lies _ rfl (.tmp 81) (.tmp 83) 22 rfl w1.heap.size 3 i0 _ 1 8 Try.underlying22 HI.out hz0 hz1 hz2 rfl (by decide) (.slice ad.z ed.zones.length ad.cz) ed.zones.length (ed.zones.map (Value.int .i64)) rfl (HROW0.out.alloc _) ⟨wc.heap.size, 0, none⟩ 1 1 [.int .i64 (k : Int)] rfl rfl (news_of1 wc 3 #[.int .i64 (k : Int)]) (by intro u hu; simp at hu; subst hu; rfl) (by decide) hmz hmy (by simp; omega) (wc.heap.size + 1) (by simp) ?_; intro g2 cap2 w8 hown8 hgrow8 hat8 hlt8; have HO8 := Lib.hid hown8; have HG8 := Lib.hid hgrow8; have HAT8 := Lib.hid hat8; have h8 := HR8.out w8 hgrow8; have p8 := h8.1.cellAt (n * 5) (by omega); rw [show n * 5 = n * 5 + 0 from rfl, flat_get es1 n 0 hn (by omega), ← HEN.out] at p8; simp [encEd] at p8; have f8 := h8.1.frozenAt (n * 5); have H8 := Lib.hid h8; clear hown8 hgrow8 hat8 h8)
          have hg1z : g1 ≠ gZ := fun e => own_blk_ne H8.out.1 H8.out.2.1 (by decide) (by rw [e]; rfl)
          have hg1w : g1 ≠ gW := fun e => own_blk_ne H8.out.1 H8.out.2.2.1 (by decide) (by rw [e]; rfl)
          have hg1m : g1 ≠ gM := by
            intro e
            rcases H8.out.1.2 with ⟨h0, _⟩ | ⟨g2, cap, cur, hv, _, hc, _⟩
            · cases h0
            · cases hv
              rw [e] at hc
              exact map_kind H8.out.2.2.2.1 cur 52 (.inr rfl) hc
          have hBg1 : w1.heap.size ≤ g1 := (H8.out.1.lt g1 rfl).1
          have ea := EdsAt.addz (HE1.out.alloc (.cells #[.int .i64 (k : Int)] 3)) hn k g2 cap2 (by rw [← HEN.out]; exact HO8.out) (by rw [← HEN.out]; exact HG8.out) (by rw [← HEN.out]; rcases HAT8.out with h | h; (exact .inl h); (exact .inr (by rw [h]; simp)))
          rw [← HEN.out] at ea
          dsimp only at ea
          obtain ⟨e2, he2⟩ : ∃ e2 : EdM, e2 = (⟨ed.zones ++ [(k : Int)], ed.copies, ed.ready, ed.due, ed.variants⟩, ⟨some ⟨g2, 0, none⟩, cap2, ad.v, ad.cv⟩) := ⟨_, rfl⟩
          rw [← he2] at ea
          generalize hwA : World.setCell w8 _ _ = wA at ea ⊢
          have zA : Blk wA gZ 47 #[.int .i64 cp, .int .i64 du, .slice vA va.length vc] := by rw [← hwA]; exact H8.out.2.1.far (by exact hg1z.symm) _
          have kA : Blk wA gW 129 (workC t x (.slice (some ⟨g1, 0, none⟩) es1.length c1) (.slice none 0 0) 0) := by rw [← hwA]; exact H8.out.2.2.1.far (by exact hg1w.symm) _
          have mA : MapIs (fun x : ArrK 64 => arrV .i8 x.1) (Value.int .i64) wA gM m1 := by rw [← hwA]; exact H8.out.2.2.2.1.same (Below.heap_setCell _ _ _ _ (by exact hg1m.symm))
          have bA : Below w1.heap.size w1 wA := by rw [← hwA]; exact H8.out.2.2.2.2.setCell (by exact hBg1) _
          have hn2 : n < (es1.set n e2).length := by simpa using hn
          have hg2 : (es1.set n e2)[n] = e2 := by simp
          have y1 := ea.atm (by simp) hn2 1 (by omega)
          rw [hg2, he2] at y1
          simp [encEd] at y1
          obtain ⟨p1, f1⟩ := y1
          have q0 := zA.cell 0
          simp at q0
          have hcpb := HOK.out.1
          have hw1 := IntWalk.i64_in (ed.copies + cp) (by omega)
          have EA := Lib.hid ea
          have ZA := Lib.hid zA
          have KA := Lib.hid kA
          have MA := Lib.hid mA
          have BA := Lib.hid bA
          have HG2 := Lib.hid hg2
          have HE2 := Lib.hid he2
          clear ea zA kA mA bA hwA hg2 he2 p8 f8 y8 p0 f0
          go_region
          all_goals
            obtain ⟨e3, he3⟩ : ∃ e3 : EdM, e3 = (⟨ed.zones ++ [(k : Int)], ed.copies + cp, ed.ready, ed.due, ed.variants⟩, ⟨some ⟨g2, 0, none⟩, cap2, ad.v, ad.cv⟩) := ⟨_, rfl⟩
            have eb := (EA.out.putm (by simp) hn2 e3 1 (.int .i64 (ed.copies + cp)) (by omega) (by rw [HG2.out, HE2.out, he3]; simp [encEd]) (by rw [HG2.out, HE2.out, he3]; simp)).drew
            rw [List.set_set] at eb
            have zB := (ZA.out.far (p := ⟨g1, n * 5 + 1, none⟩) (by exact hg1z.symm) (.int .i64 (ed.copies + cp))).drew
            have kB := (KA.out.far (p := ⟨g1, n * 5 + 1, none⟩) (by exact hg1w.symm) (.int .i64 (ed.copies + cp))).drew
            have mB := (MA.out.same (Below.heap_setCell wA ⟨g1, n * 5 + 1, none⟩ (.int .i64 (ed.copies + cp)) gM (by exact hg1m.symm))).drew
            have bB := (BA.out.setCell (p := ⟨g1, n * 5 + 1, none⟩) (by exact hBg1) (.int .i64 (ed.copies + cp))).drew
            generalize hwB : World.drew _ = wB at eb zB kB mB bB ⊢
            have hn3 : n < (es1.set n e3).length := by simpa using hn
            have hg3 : (es1.set n e3)[n] = e3 := by simp
            have y3 := eb.atm (by simp) hn3 3 (by omega)
            rw [hg3, he3] at y3
            simp [encEd] at y3
            obtain ⟨p3, f3⟩ := y3
            have q1 := zB.cell 1
            simp at q1
            have EB := Lib.hid eb
            have ZB := Lib.hid zB
            have KB := Lib.hid kB
            have MB := Lib.hid mB
            have BB := Lib.hid bB
            have HG3 := Lib.hid hg3
            have HE3 := Lib.hid he3
            clear eb zB kB mB bB hwB hg3 he3 p1 f1 q0 hw1
            go_wp2_with fail
            go_region
            all_goals
              obtain ⟨e4, he4⟩ : ∃ e4 : EdM, e4 = (⟨ed.zones ++ [(k : Int)], ed.copies + cp, ed.ready, min ed.due du, ed.variants⟩, ⟨some ⟨g2, 0, none⟩, cap2, ad.v, ad.cv⟩) := ⟨_, rfl⟩
              have ec := (EB.out.putm (by simp) hn3 e4 3 (.int .i64 (min ed.due du)) (by omega) (by rw [HG3.out, HE3.out, he4]; simp [encEd]) (by rw [HG3.out, HE3.out, he4]; simp)).drew
              rw [List.set_set] at ec
              have kC := (KB.out.far (p := ⟨g1, n * 5 + 3, none⟩) (by exact hg1w.symm) (.int .i64 (min ed.due du))).drew
              have mC := (MB.out.same (Below.heap_setCell wB ⟨g1, n * 5 + 3, none⟩ (.int .i64 (min ed.due du)) gM (by exact hg1m.symm))).drew
              have bC := (BB.out.setCell (p := ⟨g1, n * 5 + 3, none⟩) (by exact hBg1) (.int .i64 (min ed.due du))).drew
              have hfin : (es1.set n e4).map (·.1) = edsN t (k + 1) := by
                have hnp : n < (preZ (edsN t k) ⟨cp, du, va⟩).length := by rw [← HMN.out]; simpa using hn
                have hgp : (preZ (edsN t k) ⟨cp, du, va⟩)[n] = ed := by
                  have : (es1.map (·.1))[n]'(by simpa using hn) = ed := by rw [List.getElem_map, ← HEN.out]
                  simpa only [HMN.out] using this
                have hvd : ed.variants = va := by have := HVN.out; rw [← HEN.out] at this; exact this
                rw [HEDS.out, addZ_at (edsN_nodup t k) (show (⟨cp, du, va⟩ : ZonD).copies ≠ 0 from HCP.out) hnp (by rw [hgp]; exact hvd), hgp, ← HMN.out, List.map_set, he4]
                rfl
              have EC := Lib.hid ec
              have KC := Lib.hid kC
              have MC := Lib.hid mC
              have BC := Lib.hid bC
              have HFIN := Lib.hid hfin
              clear ec kC mC bC hfin he4 p3 f3 q1
              go_wp2_with fail
              go_roundw
              case rel =>
                exact ⟨k + 1, es1.set n e4, _, m1, by omega, by go_num, HFIN.out, EC.out, KC.out, ⟨MC.out, HM1.out.2⟩, BC.out⟩
              case measure => simp [intOf]; omega
    · obtain rfl : k = t.zones.length := by omega
      have hel : es.length = (edsN t t.zones.length).length := by rw [← HE.out]; simp
      have hpos : 1 ≤ es.length := by rw [hel]; exact HK0.out.n0
      have hes7 : es.length ≤ 7 := by rw [hel]; exact HK0.out.n1
      obtain ⟨g1, c1, rfl, hBg, _⟩ := HEA.out.row.form (by omega)
      have hw8 := HKW.out.cell 8
      simp [workC] at hw8
      have HBD := Lib.hid (fun i (h : i < es.length) => edsN_bd HK0.out t.zones.length (Nat.le_refl _) es[i].1 (by rw [← HE.out]; exact List.mem_map.2 ⟨_, List.getElem_mem h, rfl⟩))
      have hgw1 := HKW.out.lt
      have hg1w : g1 ≠ gW := fun e => own_blk_ne HEA.out.row HKW.out (by decide) (by rw [e]; rfl)
      clear hel
      go_wp2_with fail
      clear hw8 hgr
      go_loopw [112] (fun i wr2 => ∃ j : Nat, j ≤ es.length ∧ i = .int .i64 j ∧ Hid (EdsAt wr2 w1.heap.size (.slice (some ⟨g1, 0, none⟩) es.length c1) (rdyL t es j)) ∧ Hid (Blk wr2 gW 129 (workC t x (.slice (some ⟨g1, 0, none⟩) es.length c1) (.slice none 0 0) 0)) ∧ Below w1.heap.size w1 wr2) (fun i _ => es.length - (intOf i).toNat)
      case atStart => exact ⟨0, Nat.zero_le _, rfl, by simpa [rdyL] using HEA, HKW, HW.out⟩
      case round =>
        obtain ⟨j, hj, rfl, HER, HKR, hX⟩ := hrel
        have HX := Lib.hid hX
        clear hX
        have y8 := HKR.out.cell 8
        simp [workC] at y8
        have hgw2 := HKR.out.lt
        by_cases hlj : j < es.length
        · have hjl : j < (rdyL t es j).length := by rw [rdyL_len]; exact hlj
          have hgj := rdyL_get (t := t) hlj
          obtain ⟨⟨ed, ad⟩, hed⟩ : ∃ e, e = es[j] := ⟨_, rfl⟩
          have a0 := HER.out.atm (rdyL_len _ _ _).symm hjl 0 (by omega)
          have a1 := HER.out.atm (rdyL_len _ _ _).symm hjl 1 (by omega)
          have a2 := HER.out.atm (rdyL_len _ _ _).symm hjl 2 (by omega)
          have a3 := HER.out.atm (rdyL_len _ _ _).symm hjl 3 (by omega)
          have a4 := HER.out.atm (rdyL_len _ _ _).symm hjl 4 (by omega)
          rw [hgj, ← hed] at a0 a1 a2 a3 a4
          simp [encEd] at a0 a1 a2 a3 a4
          have hva := HER.out.var j hjl
          rw [hgj, ← hed] at hva
          have hbd := HBD.out j hlj
          rw [← hed] at hbd
          dsimp only at hbd
          have hg12 := (HER.out.row.lt g1 rfl).2
          have hrd := fun W (hb : Below wr.heap.size wr W) => ready_any t x (.slice (some ⟨g1, 0, none⟩) es.length c1) (.slice none 0 0) gW 0 ed ⟨ad.z, ad.cz, ad.v, ad.cv⟩ W (by have := HK0.out.r1; omega) (HKR.out.below hb hgw2) (((HT1.out.cR.below HX.out).below (hb.mono HX.out.size)).mono (Nat.le_trans HX.out.size hb.size)) (((own_sl hva).below hb).mono hb.size) (fun r hr => by
            obtain ⟨i, hi, rfl⟩ := List.getElem_of_mem hr
            have h0 := HK0.out.er i hi
            unfold errR at h0
            rw [show t.ready.getD i (0, 0, 0) = t.ready[i] by simp [hi]] at h0
            dsimp only at h0
            split at h0
            · cases h0
            · rename_i h1
              simp only [Bool.or_eq_true, not_or, Bool.not_eq_true, Bool.not_eq_false'] at h1
              have h2 := inB_iff.1 h1.1
              have h3 := hbd.vn
              omega)
          have HRD := Lib.hid hrd
          obtain ⟨rn, hrn⟩ : ∃ r, r = readyN t.ready ed.variants t.ready.length := ⟨_, rfl⟩
          have HRN := Lib.hid hrn
          have HED := Lib.hid hed
          have HGJ := Lib.hid hgj
          have HWX := Lib.hid (show ∀ W, Below wr.heap.size wr W → W.cell? ⟨gW, 8, none⟩ = some (.slice (some ⟨g1, 0, none⟩) es.length c1) from fun W hb => by rw [(HKR.out.below hb hgw2).cell]; simp [workC])
          obtain ⟨p0, _⟩ := a0
          obtain ⟨p1, _⟩ := a1
          obtain ⟨p2, f2⟩ := a2
          obtain ⟨p3, _⟩ := a3
          obtain ⟨p4, _⟩ := a4
          clear hgj hed hva hbd hrd hrn
          go_upto_region 24 with fail
          have q7 := HWX.out wr (Below.refl _ _)
          go_region_law
            ((go_simp; go_at_call 79; refine (HRD.out _ (by repeat (first | exact Below.refl _ _ | refine Below.drew ?_))).mono ?_; rintro e w6 ⟨rfl, hb6⟩; have HB6 := Lib.hid (((Below.refl wr.heap.size wr).drew).trans hb6); have q6 := HWX.out w6 HB6.out; have p6 := (HB6.out.cell (p := ⟨g1, j * 5 + 2, none⟩) hg12).trans p2; have f6 := (HB6.out.frozen (p := ⟨g1, j * 5 + 2, none⟩) hg12).trans f2; have HWS : ∀ u, (w6.setCell ⟨g1, j * 5 + 2, none⟩ u).cell? ⟨gW, 8, none⟩ = some (.slice (some ⟨g1, 0, none⟩) es.length c1) := (fun u => by rw [((HKR.out.below HB6.out hgw2).far (p := ⟨g1, j * 5 + 2, none⟩) (by exact hg1w.symm) u).cell]; simp [workC]); clear hb6; go_wp2_with fail))
          all_goals
            have hee := (HER.out.below HB6.out).putm (rdyL_len _ _ _).symm hjl (withR t es[j]) 2 (.int .i64 rn) (by omega) (by rw [HGJ.out, ← HED.out, HRN.out]; simp [encEd, withR]) (by rw [HGJ.out]; simp [withR])
            rw [← rdyL_succ hlj] at hee
            have hkk := (HKR.out.below HB6.out hgw2).far (p := ⟨g1, j * 5 + 2, none⟩) (by exact hg1w.symm) (.int .i64 rn)
            have hbb := (HX.out.trans (HB6.out.mono HX.out.size)).setCell (p := ⟨g1, j * 5 + 2, none⟩) (by exact hBg) (.int .i64 rn)
            have HEE := Lib.hid hee
            have HKK := Lib.hid hkk
            have HBB := Lib.hid hbb
            rw [← HRN.out]
            clear hee hkk hbb HWS p0 p1 p2 p3 p4 f2 p6 f6
            go_wp2_with fail
            go_roundw
            case rel => exact ⟨j + 1, by omega, by go_num, HEE.out, HKK.out, HBB.out⟩
            case measure => simp [intOf]; omega
        · obtain rfl : j = es.length := by omega
          obtain ⟨es2, hes2⟩ : ∃ es2, es2 = es.map (withR t) := ⟨_, rfl⟩
          have hl2 : es2.length = es.length := by rw [hes2]; simp
          have he2 := HER.out
          rw [rdyL_all, ← hes2] at he2
          have hm2 : es2.map (·.1) = edsR t := by rw [hes2]; exact withR_eds HE.out
          have hev : ∀ i (h : i < es2.length), es2[i].1.variants.length = t.colours.length := by
            intro i h
            have h' : i < es.length := by rw [← hl2]; exact h
            have : es2[i].1.variants = es[i].1.variants := by simp [hes2, withR]
            rw [this]; exact (HBD.out i h').vn
          obtain ⟨wb, hwb⟩ : ∃ W, W = wr := ⟨_, rfl⟩
          rw [← hwb] at he2 HKR HX y8 ⊢
          have HE2 := Lib.hid he2
          have HM2 := Lib.hid hm2
          have HEV := Lib.hid hev
          have HL2 := Lib.hid hl2
          clear hwb hes2 he2 hm2 hev hl2 HER HBD
          go_wp2_with fail
          clear y8
          go_loopw [137] (fun c wr => ∃ (i : Nat) (rows : List (Option Addr × Nat)) (vC : Value), i ≤ es.length ∧ c = .int .i64 i ∧ Hid (rows.length = i) ∧ Hid (EdsAt wr w1.heap.size (.slice (some ⟨g1, 0, none⟩) es.length c1) es2) ∧ Hid (Blk wr gW 129 (workC t x (.slice (some ⟨g1, 0, none⟩) es.length c1) vC 0)) ∧ Hid (wr.ownsRow wb.heap.size 22 1 vC i (rows.flatMap (encRow es.length))) ∧ Hid (∀ j (h : j < rows.length), wr.ownsRow wb.heap.size 3 1 (.slice rows[j].1 es.length rows[j].2) es.length ((chgL t (es2.map (·.1)) j).map (Value.int .i64))) ∧ Hid (Below w1.heap.size w1 wr) ∧ wb.heap.size ≤ wr.heap.size) (fun c _ => es.length - (intOf c).toNat)
          case atStart => exact ⟨0, [], _, Nat.zero_le _, rfl, rfl, HE2, HKR, World.ownsRow_nil _ _ _ _, fun j h => absurd h (by simp), HX.out, Nat.le_refl _⟩
          case round =>
            obtain ⟨i, rows, vC, hi, rfl, HRL, HEi, HKi, HVC, HRW, HXi, hsz⟩ := hrel
            have y8 := HKi.out.cell 8
            simp [workC] at y8
            have hgwi := HKi.out.lt
            have hg12 := (HEi.out.row.lt g1 rfl).2
            by_cases hli : i < es.length
            · have hi2 : i < es2.length := by rw [HL2.out]; exact hli
              obtain ⟨⟨ea, aa⟩, hea⟩ : ∃ e, e = es2[i] := ⟨_, rfl⟩
              have a0 := HEi.out.atm HL2.out.symm hi2 0 (by omega)
              have a1 := HEi.out.atm HL2.out.symm hi2 1 (by omega)
              have a2 := HEi.out.atm HL2.out.symm hi2 2 (by omega)
              have a3 := HEi.out.atm HL2.out.symm hi2 3 (by omega)
              have a4 := HEi.out.atm HL2.out.symm hi2 4 (by omega)
              have hva := HEi.out.var i hi2
              have hla := HEV.out i hi2
              rw [← hea] at a0 a1 a2 a3 a4 hva hla
              simp [encEd] at a0 a1 a2 a3 a4
              obtain ⟨p0, _⟩ := a0
              obtain ⟨p1, _⟩ := a1
              obtain ⟨p2, _⟩ := a2
              obtain ⟨p3, _⟩ := a3
              obtain ⟨p4, _⟩ := a4
              obtain ⟨wA, hwA⟩ : ∃ W, W = wr.alloc (.cells #[.slice aa.z ea.zones.length aa.cz, .int .i64 ea.copies, .int .i64 ea.ready, .int .i64 ea.due, .slice aa.v ea.variants.length aa.cv] 52) := ⟨_, rfl⟩
              obtain ⟨gA, hgA⟩ : ∃ g, g = wr.heap.size := ⟨_, rfl⟩
              have kA : Blk wA gA 52 #[.slice aa.z ea.zones.length aa.cz, .int .i64 ea.copies, .int .i64 ea.ready, .int .i64 ea.due, .slice aa.v ea.variants.length aa.cv] := by rw [hwA, hgA]; exact Blk.new _ _ _
              have hbA : Below wr.heap.size wr wA := by rw [hwA]; exact (Below.refl _ _).alloc (Nat.le_refl _) _
              have hsA : wr.heap.size < wA.heap.size := by rw [hwA]; simp
              have HEA2 := Lib.hid (HEi.out.below hbA)
              have HKA := Lib.hid (HKi.out.below hbA hgwi)
              have HXA := Lib.hid (HXi.out.trans (hbA.mono HXi.out.size))
              have KA := Lib.hid kA
              have HVA := Lib.hid (((own_sl hva).below hbA).mono hbA.size)
              have HBA := Lib.hid hbA
              have hgAl := kA.lt
              have hgWA := HKA.out.lt
              have hg1A := (HEA2.out.row.lt g1 rfl).2
              have yA := HKA.out.cell 8
              simp [workC] at yA
              have HWA := Lib.hid hwA
              have HGA := Lib.hid hgA
              have HEA1 := Lib.hid hea
              have HLA := Lib.hid hla
              obtain ⟨cl, hcl⟩ : ∃ l, l = chgL t (es2.map (·.1)) i := ⟨_, rfl⟩
              have hcll : cl.length = es.length := by rw [hcl]; simp [chgL, HL2.out]
              have HCL := Lib.hid hcl
              have HCLL := Lib.hid hcll
              obtain ⟨i0, hin, hz0, hz1, hz2⟩ := info_parts infoInt
              have HI := Lib.hid hin
              have hmle : es.length + 1 ≤ maxLen := by simp only [maxLen]; omega
              clear hwA hgA kA hbA hva hea hla hcl hcll hin
              go_upto_region 29 with fail
              rw [← HWA.out, ← HGA.out]
              clear p0 p1 p2 p3 p4 y8
              go_wp2_with fail
              go_loopw [16, 146] (fun v c wr => ∃ (j : Nat), j ≤ es.length ∧ c = .int .i64 j ∧ Hid (wr.ownsRow wA.heap.size 3 1 v j ((cl.take j).map (Value.int .i64))) ∧ Below wA.heap.size wA wr) (fun _ c _ => es.length - (intOf c).toNat)
              case atStart => exact ⟨0, Nat.zero_le _, rfl, World.ownsRow_nil _ _ _ _, Below.refl _ _⟩
              case round =>
                obtain ⟨j, hj, rfl, HVR, hY⟩ := hrel
                have HY := Lib.hid hY
                clear hY
                have hsY := HY.out.size
                obtain ⟨AR, cR, hvr⟩ := own_shape HVR.out
                subst hvr
                by_cases hlj : j < es.length
                · have hj2 : j < es2.length := by rw [HL2.out]; exact hlj
                  obtain ⟨⟨eb, ab⟩, heb⟩ : ∃ e, e = es2[j] := ⟨_, rfl⟩
                  have HEY := Lib.hid (HEA2.out.below HY.out)
                  have a0 := HEY.out.atm HL2.out.symm hj2 0 (by omega)
                  have a1 := HEY.out.atm HL2.out.symm hj2 1 (by omega)
                  have a2 := HEY.out.atm HL2.out.symm hj2 2 (by omega)
                  have a3 := HEY.out.atm HL2.out.symm hj2 3 (by omega)
                  have a4 := HEY.out.atm HL2.out.symm hj2 4 (by omega)
                  have hvb := HEY.out.var j hj2
                  have hlb := HEV.out j hj2
                  rw [← heb] at a0 a1 a2 a3 a4 hvb hlb
                  simp [encEd] at a0 a1 a2 a3 a4
                  obtain ⟨p0, _⟩ := a0
                  obtain ⟨p1, _⟩ := a1
                  obtain ⟨p2, _⟩ := a2
                  obtain ⟨p3, _⟩ := a3
                  obtain ⟨p4, _⟩ := a4
                  obtain ⟨wB, hwB⟩ : ∃ W, W = wr.alloc (.cells #[.slice ab.z eb.zones.length ab.cz, .int .i64 eb.copies, .int .i64 eb.ready, .int .i64 eb.due, .slice ab.v eb.variants.length ab.cv] 52) := ⟨_, rfl⟩
                  obtain ⟨gB, hgB⟩ : ∃ g, g = wr.heap.size := ⟨_, rfl⟩
                  have kB : Blk wB gB 52 #[.slice ab.z eb.zones.length ab.cz, .int .i64 eb.copies, .int .i64 eb.ready, .int .i64 eb.due, .slice ab.v eb.variants.length ab.cv] := by rw [hwB, hgB]; exact Blk.new _ _ _
                  have hbB : Below wr.heap.size wr wB := by rw [hwB]; exact (Below.refl _ _).alloc (Nat.le_refl _) _
                  have hbAB := HY.out.trans (hbB.mono hsY)
                  have kAB := KA.out.below hbAB hgAl
                  have kWB := HKA.out.below hbAB hgWA
                  have hvB := ((own_sl hvb).below hbB).mono hbB.size
                  have hvAB := (HVA.out.below hbAB).mono hbAB.size
                  have hxB := HXA.out.trans (hbAB.mono HXA.out.size)
                  have hrB := HVR.out.kept (w' := wB) (row := none) ⟨hbB.os, hbB.tape, hbB.output, hbB.size, fun q hq _ => hbB.block q hq⟩ (by by_cases h : (Value.slice AR j cR).ownBlock = none; (exact .inl h); (exact .inr h))
                  have hpl := plates108_any t HK0.out.ok x (.slice (some ⟨g1, 0, none⟩) es.length c1) vC gW 0 gA gB (fun p => decide (ea.variants.getD p (-1) ≠ eb.variants.getD p (-1))) wB (HS.out.s2) kWB ((HT1.out.cA.below hxB).mono hxB.size) ((HT1.out.cB.below hxB).mono hxB.size) (fun p W hp hb => differs_any p gA gB ea.variants eb.variants aa.v ab.v aa.cv ab.cv W (by rw [HLA.out]; exact hp) (by rw [hlb]; exact hp) ((kAB.below hb kAB.lt).cell 4) ((kB.below hb kB.lt).cell 4) ((hvAB.below hb).mono hb.size) ((hvB.below hb).mono hb.size))
                  obtain ⟨ch, hch⟩ : ∃ c, c = changeB t ea eb := ⟨_, rfl⟩
                  have hpl2 : Calls Try.prog 107 #[.pointer (some ⟨gW, 0, none⟩), .func (.func 108) #[] #[.pointer (some ⟨gA, 0, none⟩), .pointer (some ⟨gB, 0, none⟩)]] wB fun e w' => e = .returned (.int .i64 ch) ∧ Below wB.heap.size wB w' := by rw [hch]; exact hpl
                  have hclj : ∃ h : j < cl.length, cl[j] = ch := by
                    refine ⟨by rw [HCLL.out]; exact hlj, ?_⟩
                    simp only [HCL.out, chgL, List.getElem_map, hch, ← heb]
                    have hi3 : i < es2.length := by rw [HL2.out]; exact hli
                    congr 1
                    simp [hi3, ← HEA1.out]
                  have HPL := Lib.hid hpl2
                  have HCLJ := Lib.hid hclj
                  have HRB := Lib.hid hrB
                  have HAB := Lib.hid hbAB
                  have HWB := Lib.hid hwB
                  have HGB := Lib.hid hgB
                  have hsB : wA.heap.size ≤ wB.heap.size := hbAB.size
                  have hy8 := (HY.out.cell (p := ⟨gW, 8, none⟩) hgWA).trans yA
                  clear heb hvb hlb hwB hgB kB hbB hbAB kAB kWB hvB hvAB hxB hrB hpl hpl2 hclj hch
                  go_upto_region 33 with fail
                  rw [← HWB.out, ← HGB.out]
                  clear p0 p1 p2 p3 p4 hy8
                  go_wp2_with first
                    | (go_at_call 107; refine HPL.out.mono ?_; rintro e w6 ⟨rfl, hb6⟩; have hr6 := own_belowV HRB.out hb6; have HR6 := Lib.hid hr6; have HB6 := Lib.hid (HAB.out.trans (hb6.mono hsB)); have hs6 := HB6.out.size; clear hb6 hr6)
                    | (at_builtin; refine wpList_append_lies _ rfl (.tmp 150) (.tmp 154) 22 rfl wA.heap.size 3 i0 _ 1 8 Try.underlying22 HI.out hz0 hz1 hz2 rfl (by decide) (.slice AR j cR) j ((cl.take j).map (Value.int .i64)) rfl (HR6.out.alloc _) ⟨w6.heap.size, 0, none⟩ 1 1 [.int .i64 ch] rfl rfl (news_of1 w6 3 #[.int .i64 ch]) (by intro u hu; simp at hu; subst hu; rfl) (by decide) (by omega) (by omega) (by simp; omega) (w6.heap.size + 1) (by simp) ?_; intro g7 cap7 w7 hown7 hgrow7 hat7 hlt7; have HO7 := Lib.hid hown7; have HX7 := Lib.hid ((HB6.out.alloc hs6 (.cells #[.int .i64 ch] 3)).grown hgrow7 (by simp; omega) (fun q hq => (HR6.out.lt q hq).1)); clear hown7 hgrow7 hat7)
                  go_roundw
                  case rel =>
                    refine ⟨j + 1, by omega, by go_num, ?_, HX7.out⟩
                    obtain ⟨h1, h2⟩ := HCLJ.out
                    have := HO7.out
                    rw [List.take_succ_eq_append_getElem h1, List.map_append, h2]
                    exact this
                  case measure => simp [intOf]; omega
                · obtain rfl : j = es.length := by omega
                  obtain ⟨gr, cr, hvr, hgr1, hgr2⟩ := HVR.out.form (by omega)
                  injection hvr with hAR _ hcR
                  subst hAR hcR
                  have hct : cl.take es.length = cl := List.take_of_length_le (by rw [HCLL.out]; exact Nat.le_refl _)
                  have HVR2 := HVR.out
                  rw [hct] at HVR2
                  have HVF := Lib.hid HVR2
                  have hkY := HKA.out.below HY.out hgWA
                  have hbY : Below wr.heap.size wr wr := Below.refl _ _
                  have HKY := Lib.hid hkY
                  have HEY := Lib.hid (HEA2.out.below HY.out)
                  have hbri : Below wA.heap.size wA wr := HY.out
                  have hvcA := own_belowV HVC.out (HBA.out)
                  have hvcY := own_belowV hvcA HY.out
                  have hrwY := Lib.hid (fun q (h : q < rows.length) => own_belowV (own_belowV (HRW.out q h) HBA.out) HY.out)
                  obtain ⟨AC, cC, hvc⟩ := own_shape hvcY
                  subst hvc
                  have HVY := Lib.hid hvcY
                  have y9 := HKY.out.cell 9
                  simp [workC] at y9
                  have HXY := Lib.hid (HXA.out.trans (HY.out.mono HXA.out.size))
                  obtain ⟨r0, hr, hq0, hq1, hq2⟩ := info_parts infoRow
                  have HR0 := Lib.hid hr
                  have hwbY : wb.heap.size ≤ wr.heap.size := by omega
                  have hml2 : i + 1 ≤ maxLen := by simp only [maxLen]; omega
                  have HAL := Lib.hid (show ∀ w8, (wr.alloc (.cells #[.slice (some ⟨gr, 0, none⟩) es.length cR] 22)).grownBy w8 (Value.slice AC i cC).ownBlock → Blk w8 gW 129 (workC t x (.slice (some ⟨g1, 0, none⟩) es.length c1) (.slice AC i cC) 0) ∧ EdsAt w8 w1.heap.size (.slice (some ⟨g1, 0, none⟩) es.length c1) es2 ∧ (∀ q (h : q < rows.length), w8.ownsRow wb.heap.size 3 1 (.slice rows[q].1 es.length rows[q].2) es.length ((chgL t (es2.map (·.1)) q).map (Value.int .i64))) ∧ w8.ownsRow wb.heap.size 3 1 (.slice (some ⟨gr, 0, none⟩) es.length cR) es.length (cl.map (Value.int .i64)) ∧ Below w1.heap.size w1 w8 from fun w8 hg => by
                    have hr := HVY.out.alloc (.cells #[.slice (some ⟨gr, 0, none⟩) es.length cR] 22)
                    have hk := HKY.out.alloc (.cells #[.slice (some ⟨gr, 0, none⟩) es.length cR] 22)
                    have hv2 := HVF.out.alloc (.cells #[.slice (some ⟨gr, 0, none⟩) es.length cR] 22)
                    refine ⟨hk.grown hg (own_blk_ne hr hk (by decide)), ?_, fun q h => (hrwY.out q h).alloc _ |>.kept hg (own_own_ne ((hrwY.out q h).alloc _) hr (by decide)), World.ownsRow.mono (hv2.kept hg (own_own_ne hv2 hr (by decide))) (by omega), (HXY.out.alloc HXY.out.size _).grown hg (by have := HXY.out.size; simp; omega) (fun j hj => Nat.le_trans HX.out.size (hr.lt j hj).1)⟩
                    cases hob : (Value.slice AC i cC).ownBlock with
                    | none => rw [hob] at hg; exact (HEY.out.alloc _).frame fun g cs e _ hh => hg.block g (lt_of_heap hh) (by simp)
                    | some ob =>
                      rw [hob] at hg
                      refine (HEY.out.alloc _).grown hg fun cs e he hh => ?_
                      rcases hr.2 with ⟨h0, _⟩ | ⟨g2, cap, cur, hv, _, hc, _⟩
                      · rw [h0] at hob; cases hob
                      · rw [hv] at hob
                        have e1 : g2 = ob := by simpa [Value.ownBlock] using hob
                        subst e1
                        rw [hc] at hh
                        injection hh with hh
                        injection hh with _ ht
                        rcases he with rfl | rfl <;> cases ht)
                  clear hct HVR2 hkY hbY hbri hvcA hvcY hr yA
                  go_wp2_with (at_builtin; refine wpList_append_lies _ rfl (.tmp 161) (.tmp 163) 127 rfl wb.heap.size 22 r0 _ 1 24 Try.underlying127 HR0.out hq0 hq1 hq2 rfl (by decide) (.slice AC i cC) i (rows.flatMap (encRow es.length)) rfl (HVY.out.alloc _) ⟨wr.heap.size, 0, none⟩ 1 1 [.slice (some ⟨gr, 0, none⟩) es.length cR] rfl rfl (news_of1 wr 22 #[.slice (some ⟨gr, 0, none⟩) es.length cR]) (by intro u hu; simp at hu; subst hu; rfl) (by decide) hml2 (by omega) (by simp; omega) (wr.heap.size + 1) (by simp) ?_; intro g7 cap7 w7 hown7 hgrow7 hat7 hlt7; have HO7 := Lib.hid hown7; have h7 := HAL.out w7 hgrow7; have y7 := h7.1.cell 9; simp [workC] at y7; have f7 := h7.1.frozen 9; have hs7 : wb.heap.size ≤ w7.heap.size := (by have := hgrow7.size; simp at this; omega); have H7 := Lib.hid h7; clear hown7 hgrow7 hat7 h7)
                  have hnb : ∀ (g : Nat) e', w7.heap[g]? = some e' → (∀ cs, e' ≠ .cells cs 129 (0, 0)) → g ≠ gW := fun g e' h h2 q => by
                    subst q
                    have h3 : w7.heap[g]? = some _ := H7.out.1
                    rw [h] at h3; injection h3 with h3; exact h2 _ h3
                  go_roundw
                  case rel =>
                    refine ⟨i + 1, rows ++ [(some ⟨gr, 0, none⟩, cR)], .slice (some ⟨g7, 0, none⟩) (i + 1) cap7, by omega, by go_num, ?_, H7.out.2.1.set_ H7.out.1 (by decide) (by decide) 9 _, ?_, ?_, ?_, H7.out.2.2.2.2.setCell (by exact HGW.out) _, by simpa using hs7⟩
                    · exact Lib.hid (by simp [HRL.out])
                    · have := H7.out.1.set_ 9 (.slice (some ⟨g7, 0, none⟩) (i + 1) cap7)
                      exact Lib.hid (by simpa [workC] using this)
                    · have := own_far HO7.out (p := ⟨gW, 9, none⟩) (by intro e; exact own_blk_ne HO7.out H7.out.1 (by decide) e) (.slice (some ⟨g7, 0, none⟩) (i + 1) cap7)
                      exact Lib.hid (by simpa [encRow] using this)
                    · refine Lib.hid fun q hq => ?_
                      have key : ∀ {v : Value} {n : Nat} {xs : List Value}, w7.ownsRow wb.heap.size 3 1 v n xs → (w7.setCell ⟨gW, 9, none⟩ (.slice (some ⟨g7, 0, none⟩) (i + 1) cap7)).ownsRow wb.heap.size 3 1 v n xs := fun h => own_far h (by exact own_blk_ne h H7.out.1 (by decide)) _
                      by_cases hq2 : q < rows.length
                      · rw [List.getElem_append_left hq2]
                        exact key (H7.out.2.2.1 q hq2)
                      · have : q = rows.length := by simp at hq; omega
                        subst this
                        have hcl2 : chgL t (es2.map (·.1)) rows.length = cl := by rw [HRL.out, HCL.out]
                        rw [hcl2]
                        simpa using key H7.out.2.2.2.1
                  case measure => simp [intOf]; omega
            · obtain rfl : i = es.length := by omega
              obtain ⟨gc, cc, hvc, hgc1, hgc2⟩ := HVC.out.form (by omega)
              subst hvc
              have hpl := plates109_any t HK0.out.ok x (.slice (some ⟨g1, 0, none⟩) es.length c1) (.slice (some ⟨gc, 0, none⟩) es.length cc) gW 0 (fun _ => true) wr HS.out.s2 HKi.out ((HT1.out.cA.below HXi.out).mono HXi.out.size) ((HT1.out.cB.below HXi.out).mono HXi.out.size) (fun p W _ _ => (always_any p W).mono (by rintro e w' ⟨rfl, rfl⟩; exact ⟨rfl, Below.refl _ _⟩))
              have HPL := Lib.hid (show Calls Try.prog 107 #[.pointer (some ⟨gW, 0, none⟩), .func (.func 109) #[] #[]] wr fun e w' => e = .returned (.int .i64 (allB t)) ∧ Below wr.heap.size wr w' from hpl)
              obtain ⟨al, hal⟩ : ∃ a, a = allB t := ⟨_, rfl⟩
              rw [← hal] at HPL
              have HAL := Lib.hid hal
              clear hpl y8 hal
              go_wp2_with (go_at_call 107; refine HPL.out.mono ?_; rintro e w6 ⟨rfl, hb6⟩; have k6 := HKi.out.below hb6 hgwi; have y6 := k6.cell 10; have f6 := k6.frozen 10; simp [workC] at y6; have HB6 := Lib.hid hb6; have K6 := Lib.hid k6; clear hb6 k6)
              go_ret2
              have hwf : ∀ {b e s n : Nat} {v : Value} {xs : List Value}, e ≠ 129 → wr.ownsRow b e s v n xs → (w6.setCell ⟨gW, 10, none⟩ (.int .i64 al)).ownsRow b e s v n xs := fun hne h => own_far (own_belowV h HB6.out) (by exact own_blk_ne (own_belowV h HB6.out) K6.out hne) _
              refine ⟨⟨es2, rows, some ⟨g1, 0, none⟩, c1, some ⟨gc, 0, none⟩, cc, gW⟩, rfl, ⟨HM2.out, ?_, ?_, Nat.le_trans HB1.out.size HGW.out, by rw [HRL.out, HL2.out], ?_, fun q hq => ?_⟩, ?_⟩
              · have := ((HEi.out.below HB6.out).set_ K6.out (by decide) (by decide) 10 (.int .i64 al)).base HB1.out.size
                simpa only [HL2.out] using this
              · have := K6.out.set_ 10 (.int .i64 al)
                rw [workV_eq]
                dsimp only
                rw [← HAL.out, HL2.out]
                simpa [workC] using this
              · have h1 := hwf (by decide) HVC.out
                have h2 : (w6.setCell ⟨gW, 10, none⟩ (.int .i64 al)).ownsRow wb.heap.size 22 1 (.slice (some ⟨gc, 0, none⟩) rows.length cc) rows.length (rows.flatMap (encRow es2.length)) := by rw [HRL.out, HL2.out]; exact h1
                exact World.ownsRow.mono h2 (Nat.le_trans HB1.out.size HX.out.size)
              · have h1 := hwf (by decide) (HRW.out q hq)
                have hlen : (chgL t (es2.map (·.1)) q).length = es.length := by simp [chgL, HL2.out]
                rw [hlen]
                exact World.ownsRow.mono h1 (Nat.le_trans HB1.out.size HX.out.size)
              · exact HB1.out.trans (((HXi.out.trans (HB6.out.mono HXi.out.size)).setCell (by exact HGW.out) _).mono HB1.out.size)
end Go.Proofs.Ytokdleanpkkdpaa
