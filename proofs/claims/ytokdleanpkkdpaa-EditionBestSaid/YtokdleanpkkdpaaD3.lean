/- Contract of Check: the first error of a title; conditions: lengths that a title has. -/
import Derived.Test.YtokdleanpkkdpaaD2
set_option linter.unusedSimpArgs false
set_option linter.unusedVariables false
namespace Go.Ed
/-- whether so many of the ready have the page and the variant -/
def hasR (l : List (Int × Int × Int)) (k : Nat) (x : List Int) : Bool := (l.take k).any fun q => decide ([q.1, q.2.1] = x)
theorem hasR_metR (l : List (Int × Int × Int)) (k : Nat) (a b c : Int) : hasR l k [a, b] = metR l k (a, b, c) := by
  unfold hasR metR
  congr 1; funext q
  rw [Bool.eq_iff_iff]; simp
theorem hasR_succ {l : List (Int × Int × Int)} {k : Nat} (hk : k < l.length) (x : List Int) : hasR l (k + 1) x = (hasR l k x || decide ([l[k].1, l[k].2.1] = x)) := by
  unfold hasR
  rw [List.take_succ_eq_append_getElem hk, List.any_append]; simp
theorem or4 (a b c d : Bool) : (a = false ∨ (a = true ∧ b = false) ∨ (a = true ∧ b = true ∧ c = false) ∨ (a = true ∧ b = true ∧ c = true ∧ d = false)) ∨ (a = true ∧ b = true ∧ c = true ∧ d = true) := by
  cases a <;> cases b <;> cases c <;> cases d <;> simp
end Go.Ed
namespace Go.Proofs.Ytokdleanpkkdpaa
open Go.RowKit Go.Fh Go.Ed
theorem zero4 : ∀ w, (zeroValue 4).run Try.prog w = .ok (.bool false) w := fun w => by kernel_rfl
theorem Sl.atZon {B : Nat} {w : World} {A : Option Addr} {l : List ZonM} (h : Sl encZon 3 w B A l) {k : Nat} (hk : k < l.length) :
    ∃ b off, A = some ⟨b, off, none⟩ ∧ b < B ∧ w.cell? ⟨b, off + k * 3, none⟩ = some (.int .i64 l[k].1.copies) ∧ w.cell? ⟨b, off + k * 3 + 1, none⟩ = some (.int .i64 l[k].1.due) ∧ w.cell? ⟨b, off + k * 3 + 2, none⟩ = some (.slice l[k].2.1 l[k].1.variants.length l[k].2.2) := by
  obtain ⟨b, off, hA, hb, hc⟩ := h.at_ hk
  exact ⟨b, off, hA, hb, hc 0 _ rfl, hc 1 _ rfl, hc 2 _ rfl⟩
theorem keyLaw162 : KeyLaw Try.prog 164 (fun x : ArrK 64 => arrV .i8 x.1) := by
  obtain ⟨i, hi⟩ : ∃ i, Try.prog.info? 74 = some i := by
    have h0 : (Try.prog.info? 74).map (fun i => i.size) = some 1 := by kernel_rfl
    cases h : Try.prog.info? 74 with
    | some i => exact ⟨i, rfl⟩
    | none => rw [h] at h0; cases h0
  exact keyLaw_arr Try.underlying164 hi (by kernel_rfl) Try.underlying74
theorem keyLaw166 : KeyLaw Try.prog 167 (fun x : ArrK 2 => arrV .i64 x.1) := by
  obtain ⟨i, hi⟩ : ∃ i, Try.prog.info? 3 = some i := by
    have h0 : (Try.prog.info? 3).map (fun i => i.size) = some 1 := by kernel_rfl
    cases h : Try.prog.info? 3 with
    | some i => exact ⟨i, rfl⟩
    | none => rw [h] at h0; cases h0
  exact keyLaw_arr Try.underlying167 hi (by kernel_rfl) Try.underlying3
set_option maxRecDepth 20000 in
set_option maxHeartbeats 8000000 in
theorem check_any (t : TitD) (x : TA) (zs : List ZonM) (w : World) (hs : Sizes t) (hT : TitAt w w.heap.size t x zs) :
    Calls Try.prog 41 #[.agg (titV t x)] w fun e w' => e = .returned (.int .i64 (checkT t)) ∧ Below w.heap.size w w' := by
  obtain ⟨w1, hw1⟩ : ∃ W, W = w.alloc (.cells (titV t x) 26) := ⟨_, rfl⟩
  have hb1 : Below w.heap.size w w1 := by rw [hw1]; exact (Below.refl _ _).alloc (Nat.le_refl _) _
  obtain ⟨gT, hgT⟩ : ∃ g, g = w.heap.size := ⟨_, rfl⟩
  have kT : Blk w1 gT 26 (titV t x) := by rw [hw1, hgT]; exact Blk.new _ _ _
  have hT1 := (hT.below hb1).mono hb1.size
  have s1 := hs.s1
  have s2 := hs.s2
  have s3 := hs.s3
  have s4 := hs.s4
  have hgl : gT < w1.heap.size := kT.lt
  have r0 := kT.cell 0
  have r1 := kT.cell 1
  have r2 := kT.cell 2
  have r3 := kT.cell 3
  have r4 := kT.cell 4
  have r5 := kT.cell 5
  have r6 := kT.cell 6
  have r7 := kT.cell 7
  simp [titV] at r0 r1 r2 r3 r4 r5 r6 r7
  have HA1 := Lib.hid hT1.cA
  have HBB1 := Lib.hid hT1.cB
  have HT1 := Lib.hid hT1
  have HB1 := Lib.hid hb1
  have HW1 := Lib.hid hw1
  have HGT := Lib.hid hgT
  have KT := Lib.hid kT
  have HS := Lib.hid hs
  clear hb1 hw1 hgT kT hT hT1 hs
  rcases or4 (inB t.colours.length 1 64) (inB t.zones.length 1 12) (!decide (200 < t.ready.length)) true with (h1 | ⟨h1, h2⟩ | ⟨h1, h2, h3⟩ | ⟨_, _, _, h4⟩) | ⟨h1, h2, h3, _⟩
  case inl.inl | inl.inr.inl | inl.inr.inr.inl =>
    all_goals
      have hc : checkT t = 2 := by unfold checkT; rw [if_pos (by simp_all)]
      have HC := Lib.hid hc
      try have h3' : 200 < t.ready.length := by simpa using h3
      clear hc
      unfold titV at *
      go_enter Try.func41, Try.ntmps41
      go_upto_region 1 with fail
      rw [← HW1.out, ← HGT.out]
      go_wp2_with (go_at_call 65; refine (within_any _ _ _ _).mono ?_; rintro e w' ⟨rfl, rfl⟩)
      go_ret
      exact ⟨ret_int HC.out.symm, HB1.out⟩
  · cases h4
  have h3' : t.ready.length ≤ 200 := by simpa using h3
  have hq1 := inB_iff.1 h1
  have hq2 := inB_iff.1 h2
  have hc0 : checkT t = (if !inB t.start 0 86400 || (!inB t.rate 1 3000 || (!inB t.stop 0 3600 || !inB t.hang 0 3600)) then 6
      else if t.colours.any (fun c => !inB c 1 4) || !pairedB t then 21
      else if firstErr (fun k => errZ t (t.zones.getD k ⟨0, 0, []⟩)) t.zones.length ≠ 0 then firstErr (fun k => errZ t (t.zones.getD k ⟨0, 0, []⟩)) t.zones.length
      else if firstErr (errR t) t.ready.length ≠ 0 then firstErr (errR t) t.ready.length
      else if (edsN t t.zones.length).length = 0 then 4
      else if 7 < (edsN t t.zones.length).length then 8
      else 0) := by unfold checkT; rw [if_neg (by simp [h1, h2, h3'])]
  have HC0 := Lib.hid hc0
  clear hc0 h3
  rcases or4 (inB t.start 0 86400) (inB t.rate 1 3000) (inB t.stop 0 3600) (inB t.hang 0 3600) with (q1 | ⟨q1, q2⟩ | ⟨q1, q2, q3⟩ | ⟨q1, q2, q3, q4⟩) | ⟨q1, q2, q3, q4⟩
  case inl.inl | inl.inr.inl | inl.inr.inr.inl | inl.inr.inr.inr =>
    all_goals
      have hc : checkT t = 6 := by rw [HC0.out, if_pos (by simp_all)]
      have HC := Lib.hid hc
      clear hc
      unfold titV at *
      go_enter Try.func41, Try.ntmps41
      go_upto_region 1 with fail
      rw [← HW1.out, ← HGT.out]
      go_wp2_with (go_at_call 65; refine (within_any _ _ _ _).mono ?_; rintro e w' ⟨rfl, rfl⟩)
      go_ret
      exact ⟨ret_int HC.out.symm, HB1.out⟩
  have hc0 := HC0.out
  rw [if_neg (by simp [q1, q2, q3, q4])] at hc0
  clear HC0
  have HC0 := Lib.hid hc0
  clear hc0
  cases p1 : t.colours.any (fun c => !inB c 1 4)
  rotate_left
  · have hc : checkT t = 21 := by rw [HC0.out, if_pos (by simp [p1])]
    have HC := Lib.hid hc
    have HP1 := Lib.hid p1
    clear hc p1
    unfold titV at *
    go_enter Try.func41, Try.ntmps41
    go_upto_region 1 with fail
    rw [← HW1.out, ← HGT.out]
    go_wp2_with first
      | (go_at_call 65; refine (within_any _ _ _ _).mono ?_; rintro e w' ⟨rfl, rfl⟩)
      | (go_at_call 84; refine (badColour_any _ _ _ _ (by omega) HA1.out).mono ?_; rintro e w2 ⟨rfl, hb2⟩; have k2 := KT.out.below hb2 hgl; clear r0 r1 r2 r3 r4 r5 r6 r7; have r0 := k2.cell 0; have r1 := k2.cell 1; have r2 := k2.cell 2; have r3 := k2.cell 3; have r4 := k2.cell 4; have r5 := k2.cell 5; have r6 := k2.cell 6; have r7 := k2.cell 7; simp at r0 r1 r2 r3 r4 r5 r6 r7; have HB2 := Lib.hid hb2; clear hb2 k2; rw [HP1.out])
    go_ret
    exact ⟨ret_int HC.out.symm, HB1.out.trans (HB2.out.mono HB1.out.size)⟩
  have HP1 := Lib.hid p1
  clear p1
  cases p2 : pairedB t
  · have hc : checkT t = 21 := by rw [HC0.out, if_pos (by simp [p2])]
    have HC := Lib.hid hc
    have HP2 := Lib.hid p2
    clear hc p2
    unfold titV at *
    go_enter Try.func41, Try.ntmps41
    go_upto_region 1 with fail
    rw [← HW1.out, ← HGT.out]
    go_wp2_with first
      | (go_at_call 65; refine (within_any _ _ _ _).mono ?_; rintro e w' ⟨rfl, rfl⟩)
      | (go_at_call 84; refine (badColour_any _ _ _ _ (by omega) HA1.out).mono ?_; rintro e w2 ⟨rfl, hb2⟩; have k2 := KT.out.below hb2 hgl; clear r0 r1 r2 r3 r4 r5 r6 r7; have r0 := k2.cell 0; have r1 := k2.cell 1; have r2 := k2.cell 2; have r3 := k2.cell 3; have r4 := k2.cell 4; have r5 := k2.cell 5; have r6 := k2.cell 6; have r7 := k2.cell 7; simp at r0 r1 r2 r3 r4 r5 r6 r7; have HB2 := Lib.hid hb2; clear hb2 k2; rw [HP1.out])
      | (go_at_call 91; refine (paired_any t x _ (by omega) (by omega) ((HA1.out.below HB2.out).mono HB2.out.size) ((HBB1.out.below HB2.out).mono HB2.out.size)).mono ?_; rintro e w3 ⟨rfl, hb3⟩; have k3 := KT.out.below (HB2.out.trans (hb3.mono HB2.out.size)) hgl; clear r0 r1 r2 r3 r4 r5 r6 r7; have r0 := k3.cell 0; have r2 := k3.cell 2; have r3 := k3.cell 3; simp at r0 r2 r3; have HB3 := Lib.hid (HB2.out.trans (hb3.mono HB2.out.size)); have hgl3 := k3.lt; clear hb3 k3; rw [HP2.out])
    go_ret
    exact ⟨ret_int HC.out.symm, HB1.out.trans (HB3.out.mono HB1.out.size)⟩
  have hc0 := HC0.out
  rw [if_neg (by simp [HP1.out, p2])] at hc0
  clear HC0
  have HC0 := Lib.hid hc0
  have HP2 := Lib.hid p2
  clear hc0 p2
  have hmm := @run_makeMap Try.prog
  unfold titV at *
  go_enter Try.func41, Try.ntmps41
  go_upto_region 1 with fail
  rw [← HW1.out, ← HGT.out]
  go_wp2_with first
    | (go_at_call 65; refine (within_any _ _ _ _).mono ?_; rintro e w' ⟨rfl, rfl⟩)
    | (go_at_call 84; refine (badColour_any _ _ _ _ (by omega) HA1.out).mono ?_; rintro e w2 ⟨rfl, hb2⟩; have k2 := KT.out.below hb2 hgl; clear r0 r1 r2 r3 r4 r5 r6 r7; have r0 := k2.cell 0; have r1 := k2.cell 1; have r2 := k2.cell 2; have r3 := k2.cell 3; have r4 := k2.cell 4; have r5 := k2.cell 5; have r6 := k2.cell 6; have r7 := k2.cell 7; simp at r0 r1 r2 r3 r4 r5 r6 r7; have HB2 := Lib.hid hb2; clear hb2 k2; rw [HP1.out])
    | (go_at_call 91; refine (paired_any t x _ (by omega) (by omega) ((HA1.out.below HB2.out).mono HB2.out.size) ((HBB1.out.below HB2.out).mono HB2.out.size)).mono ?_; rintro e w3 ⟨rfl, hb3⟩; have k3 := KT.out.below (HB2.out.trans (hb3.mono HB2.out.size)) hgl; clear r0 r1 r2 r3 r4 r5 r6 r7; have r0 := k3.cell 0; have r2 := k3.cell 2; have r3 := k3.cell 3; simp at r0 r2 r3; have HB3 := Lib.hid (HB2.out.trans (hb3.mono HB2.out.size)); have hgl3 := k3.lt; clear hb3 k3; rw [HP2.out])
  have HM0 := Lib.hid (MapIs.new w3 (fun x : ArrK 64 => arrV .i8 x.1) Value.bool)
  have HB4 := Lib.hid (HB3.out.alloc HB3.out.size (.map #[] 0))
  obtain ⟨gM, hgM⟩ : ∃ g, g = w3.heap.size := ⟨_, rfl⟩
  have HGM := Lib.hid hgM
  rw [← hgM] at HM0 ⊢
  clear hgM hmm r0 r2 r3
  go_loopw [65] (fun i wr => ∃ (k : Nat) (m : List (ArrK 64 × Bool)), k ≤ t.zones.length ∧ i = .int .i64 k ∧ Hid (firstErr (fun k => errZ t (t.zones.getD k ⟨0, 0, []⟩)) k = 0) ∧ Hid (MapIs (fun x : ArrK 64 => arrV .i8 x.1) Value.bool wr gM m ∧ m.map (·.1.1) = keysN t k) ∧ Below w1.heap.size w1 wr) (fun i _ => t.zones.length - (intOf i).toNat)
  case atStart => exact ⟨0, [], Nat.zero_le _, rfl, rfl, ⟨HM0.out, rfl⟩, HB4.out⟩
  case round =>
    obtain ⟨k, m, hk, rfl, HE, HM, hW⟩ := hrel
    have HW := Lib.hid hW
    have hgr : gT < wr.heap.size := Nat.lt_of_lt_of_le hgl hW.size
    have kr := KT.out.below hW hgl
    have r0 := kr.cell 0
    have r3 := kr.cell 3
    simp at r0 r3
    clear kr hW
    by_cases hlt : k < t.zones.length
    · have hz : k < zs.length := by rw [HT1.out.zlen]; exact hlt
      obtain ⟨zb, zo, hxz, hzb, c0, c1, c2⟩ := Sl.atZon ((HT1.out.below HW.out).cZ) hz
      have hva := HT1.out.cV k hz
      have hzg := HT1.out.zget hz
      have hzl := HS.out.s5 zs[k].1 (by rw [← HT1.out.zeq]; exact List.mem_map.2 ⟨_, List.getElem_mem hz, rfl⟩)
      obtain ⟨⟨⟨cp, du, va⟩, vA, vc⟩, hzk⟩ : ∃ z, z = zs[k] := ⟨_, rfl⟩
      rw [← hzk] at c0 c1 c2 hva hzg hzl
      dsimp only at c0 c1 c2 hva hzg hzl
      have HVA := Lib.hid (fun W (hb : Below w1.heap.size w1 W) => (hva.below hb).mono hb.size)
      rw [hxz]
      obtain ⟨wz, hwz⟩ : ∃ W, W = wr.alloc (.cells #[.int .i64 cp, .int .i64 du, .slice vA va.length vc] 47) := ⟨_, rfl⟩
      obtain ⟨gZ, hgZ⟩ : ∃ g, g = wr.heap.size := ⟨_, rfl⟩
      have kz : Blk wz gZ 47 #[.int .i64 cp, .int .i64 du, .slice vA va.length vc] := by rw [hwz, hgZ]; exact Blk.new _ _ _
      have HWZ1 := Lib.hid (show Below w1.heap.size w1 wz by rw [hwz]; exact HW.out.alloc HW.out.size _)
      have HMZ := Lib.hid (show MapIs (fun x : ArrK 64 => arrV .i8 x.1) Value.bool wz gM m by rw [hwz]; exact HM.out.1.alloc _)
      have hgmz : gM < wz.heap.size := HMZ.out.lt
      have q0 := kz.cell 0
      have q1 := kz.cell 1
      have q2 := kz.cell 2
      simp at q0 q1 q2
      have hgz : gZ < wz.heap.size := kz.lt
      have z0 := (KT.out.below HWZ1.out hgl).cell 0
      simp at z0
      have HWZ := Lib.hid hwz
      have HGZ := Lib.hid hgZ
      have KZ := Lib.hid kz
      have HZG := Lib.hid hzg
      have HZK := Lib.hid hzk
      have HXZ := Lib.hid hxz
      clear hwz hgZ kz hzg hzk hva hxz
      have hstop : errZ t ⟨cp, du, va⟩ ≠ 0 → checkT t = errZ t ⟨cp, du, va⟩ := fun h => by
        have h1 := firstErr_stop HE.out (show (fun k => errZ t (t.zones.getD k ⟨0, 0, []⟩)) k ≠ 0 by show errZ t (t.zones.getD k ⟨0, 0, []⟩) ≠ 0; rw [HZG.out]; exact h) hlt
        have h2 : errZ t (t.zones.getD k ⟨0, 0, []⟩) = errZ t ⟨cp, du, va⟩ := by rw [HZG.out]
        rw [HC0.out, h1, h2, if_pos h]
      have HST := Lib.hid hstop
      clear hstop
      rcases or4 (inB cp 0 1000000) (inB du 0 86400) true true with (i1 | ⟨i1, i2⟩ | ⟨_, _, i3⟩ | ⟨_, _, _, i3⟩) | ⟨i1, i2, _, _⟩
      case inl.inr.inr.inl | inl.inr.inr.inr => all_goals cases i3
      case inl.inl | inl.inr.inl =>
        all_goals
          have he : errZ t ⟨cp, du, va⟩ = 6 := by unfold errZ; rw [if_pos (by simp_all)]
          have HC := Lib.hid ((HST.out (by rw [he]; decide)).trans he)
          clear he
          go_upto_region 12 with fail
          rw [← HWZ.out, ← HGZ.out]
          go_wp2_with (go_at_call 65; refine (within_any _ _ _ _).mono ?_; rintro e w' ⟨rfl, rfl⟩)
          go_ret
          exact ⟨ret_int HC.out.symm, HB1.out.trans (HWZ1.out.mono HB1.out.size)⟩
      have hez : errZ t ⟨cp, du, va⟩ = if va.length ≠ t.colours.length || va.any (fun v => !inB v 0 9) then 40 else 0 := by unfold errZ; rw [if_neg (by simp [i1, i2])]
      have HEZ := Lib.hid hez
      clear hez
      by_cases hl : va.length = t.colours.length
      · have hl0 : ((va.length : Int) != (t.colours.length : Int)) = false := by simp [hl]
        have HL := Lib.hid hl
        clear hl
        cases hb : va.any (fun v => !inB v 0 9)
        · have he : errZ t ⟨cp, du, va⟩ = 0 := by rw [HEZ.out, if_neg (by simp [hb, HL.out])]
          have hgo := firstErr_go HE.out (show (fun k => errZ t (t.zones.getD k ⟨0, 0, []⟩)) k = 0 by show errZ t (t.zones.getD k ⟨0, 0, []⟩) = 0; rw [HZG.out]; exact he)
          have HGO := Lib.hid hgo
          have HBV := Lib.hid hb
          have hok := errZ_ok he
          have HV9 := Lib.hid hok.2.2.2
          have hcp := hok.1
          dsimp only at hcp
          have hv64 : va.length ≤ 64 := by rw [HL.out]; omega
          have HPL := Lib.hid (padK_len hv64)
          have hks := keysN_succ hlt (fun i hi => (errZ_ok (firstErr_zero HGO.out i (by omega))).2.2.1)
          rw [HZG.out] at hks
          dsimp only at hks
          have HKS := Lib.hid hks
          clear he hgo hb hok hks
          by_cases hcp0 : cp = 0
          · subst hcp0
            go_upto_region 12 with fail
            rw [← HWZ.out, ← HGZ.out]
            go_wp2_with first
              | (go_at_call 65; refine (within_any _ _ _ _).mono ?_; rintro e w' ⟨rfl, rfl⟩)
              | (go_at_call 84; refine (badVariant_any _ _ _ _ (by omega) (HVA.out _ HWZ1.out)).mono ?_; rintro e w5 ⟨rfl, hb5⟩; rw [HBV.out]; have kz5 := KZ.out.below hb5 hgz; clear q0 q1 q2; have q0 := kz5.cell 0; have q2 := kz5.cell 2; simp at q0 q2; have HB5 := Lib.hid hb5; clear hb5 kz5)
            go_roundw
            case rel =>
              refine ⟨k + 1, m, by omega, by go_num, HGO.out, ⟨(HMZ.out).below HB5.out hgmz, ?_⟩, HWZ1.out.trans (HB5.out.mono HWZ1.out.size)⟩
              rw [HKS.out]; simp only [if_true]; exact HM.out.2
            case measure => simp [intOf]; omega
          · have hcp1 : 0 < cp := by omega
            have HCP := Lib.hid hcp0
            clear hcp0
            go_upto_region 12 with fail
            rw [← HWZ.out, ← HGZ.out]
            go_wp2_with first
              | (go_at_call 65; refine (within_any _ _ _ _).mono ?_; rintro e w' ⟨rfl, rfl⟩)
              | (go_at_call 84; refine (badVariant_any _ _ _ _ (by omega) (HVA.out _ HWZ1.out)).mono ?_; rintro e w5 ⟨rfl, hb5⟩; rw [HBV.out]; have kz5 := KZ.out.below hb5 hgz; clear q0 q1 q2; have q0 := kz5.cell 0; have q2 := kz5.cell 2; simp at q0 q2; have HB5 := Lib.hid hb5; clear hb5 kz5)
              | (go_at_call 93; refine (keyOf_any _ _ _ _ (by omega) HV9.out (HVA.out _ (HWZ1.out.trans (HB5.out.mono HWZ1.out.size)))).mono ?_; rintro e w6 ⟨rfl, hb6⟩; have HB6 := Lib.hid (HB5.out.trans (hb6.mono HB5.out.size)); clear hb6)
              | (at_mapUpdate; refine wpList_update rfl (.tmp 95) (.tmp 98) (.const (.bool true)) 162 rfl Try.underlying162 keyLaw162 ((HMZ.out).below HB6.out hgmz) ⟨padK va, HPL.out⟩ true rfl rfl rfl ?_; intro w7 hm7 hg7 hs7; have HM7 := Lib.hid hm7; have HG7 := Lib.hid hg7; clear hm7 hg7 hs7)
            go_roundw
            case rel =>
              have hb6 := HWZ1.out.trans (HB6.out.mono HWZ1.out.size)
              refine ⟨k + 1, _, by omega, by go_num, HGO.out, ⟨HM7.out, ?_⟩, hb6.grown HG7.out hb6.size (fun j hj => by injection hj with hj; rw [← hj, HGM.out]; exact HB3.out.size)⟩
              rw [mset_vals, HKS.out, if_neg HCP.out, HM.out.2]
            case measure => simp [intOf]; omega
        · have he : errZ t ⟨cp, du, va⟩ = 40 := by rw [HEZ.out, if_pos (by simp [hb])]
          have HC := Lib.hid ((HST.out (by rw [he]; decide)).trans he)
          have HBV := Lib.hid hb
          clear he hb
          go_upto_region 12 with fail
          rw [← HWZ.out, ← HGZ.out]
          go_wp2_with first
            | (go_at_call 65; refine (within_any _ _ _ _).mono ?_; rintro e w' ⟨rfl, rfl⟩)
            | (go_at_call 84; refine (badVariant_any _ _ _ _ (by omega) (HVA.out _ HWZ1.out)).mono ?_; rintro e w5 ⟨rfl, hb5⟩; rw [HBV.out]; have kz5 := KZ.out.below hb5 hgz; clear q0 q1 q2; have q0 := kz5.cell 0; have q2 := kz5.cell 2; simp at q0 q2; have HB5 := Lib.hid hb5; clear hb5 kz5)
          go_ret
          exact ⟨ret_int HC.out.symm, HB1.out.trans ((HWZ1.out.trans (HB5.out.mono HWZ1.out.size)).mono HB1.out.size)⟩
      · have hl0 : ((va.length : Int) != (t.colours.length : Int)) = true := by simp; omega
        have he : errZ t ⟨cp, du, va⟩ = 40 := by rw [HEZ.out, if_pos (by simp [hl])]
        have HC := Lib.hid ((HST.out (by rw [he]; decide)).trans he)
        clear he hl
        go_upto_region 12 with fail
        rw [← HWZ.out, ← HGZ.out]
        go_wp2_with (go_at_call 65; refine (within_any _ _ _ _).mono ?_; rintro e w' ⟨rfl, rfl⟩)
        go_ret
        exact ⟨ret_int HC.out.symm, HB1.out.trans (HWZ1.out.mono HB1.out.size)⟩
    · obtain rfl : k = t.zones.length := by omega
      have hml : m.length = (edsN t t.zones.length).length := by
        have := congrArg List.length HM.out.2
        simpa [keysN_len] using this
      have hc0 := HC0.out
      rw [if_neg (show ¬ firstErr (fun k => errZ t (t.zones.getD k ⟨0, 0, []⟩)) t.zones.length ≠ 0 from fun h => h HE.out), ← hml] at hc0
      have HC1 := Lib.hid hc0
      have HMW := Lib.hid HM.out.1
      have hgm : gM < wr.heap.size := HMW.out.lt
      have hmm := @run_makeMap Try.prog
      have HN0 := Lib.hid (MapIs.new wr (fun x : ArrK 2 => arrV .i64 x.1) Value.bool)
      have HMW0 := Lib.hid (HMW.out.alloc (.map #[] 0))
      have HBN := Lib.hid (HW.out.alloc HW.out.size (.map #[] 0))
      clear hc0 hml HM HE HC0 hk hlt
      go_wp2_with fail
      obtain ⟨gN, hgN⟩ : ∃ g, g = wr.heap.size := ⟨_, rfl⟩
      have HGN := Lib.hid hgN
      have hmn : gM ≠ gN := by omega
      have HMN := Lib.hid hmn
      have hgn : w1.heap.size ≤ gN := by rw [hgN]; exact HW.out.size
      have HGN1 := Lib.hid hgn
      rw [← hgN] at HN0 ⊢
      clear hgN hmm hmn hgn r0 r3
      go_loopw [104] (fun i wr => ∃ (k : Nat) (m2 : List (ArrK 2 × Bool)), k ≤ t.ready.length ∧ i = .int .i64 k ∧ Hid (firstErr (errR t) k = 0) ∧ Hid (MapIs (fun x : ArrK 2 => arrV .i64 x.1) Value.bool wr gN m2 ∧ ∀ x : ArrK 2, (mget m2 x).getD false = hasR t.ready k x.1) ∧ Hid (MapIs (fun x : ArrK 64 => arrV .i8 x.1) Value.bool wr gM m) ∧ Below w1.heap.size w1 wr) (fun i _ => t.ready.length - (intOf i).toNat)
      case atStart => exact ⟨0, [], Nat.zero_le _, rfl, rfl, ⟨HN0.out, fun x => by simp [mget, hasR]⟩, HMW0, HBN.out⟩
      case round =>
        obtain ⟨k, m2, hk, rfl, HE, HM2, HMM, hX⟩ := hrel
        have HX := Lib.hid hX
        have hgr : gT < wr.heap.size := Nat.lt_of_lt_of_le hgl hX.size
        have kr := KT.out.below hX hgl
        have r0 := kr.cell 0
        simp at r0
        clear kr hX
        by_cases hlt : k < t.ready.length
        · obtain ⟨rb, ro, hxr, hrb, c0, c1, c2⟩ := ((HT1.out.below HX.out).cR).at3 hlt
          obtain ⟨⟨pg, vr, at_⟩, hrk⟩ : ∃ z, z = t.ready[k] := ⟨_, rfl⟩
          rw [← hrk] at c0 c1 c2
          dsimp only at c0 c1 c2
          rw [hxr]
          obtain ⟨wz, hwz⟩ : ∃ W, W = wr.alloc (.cells #[.int .i64 pg, .int .i64 vr, .int .i64 at_] 69) := ⟨_, rfl⟩
          obtain ⟨gZ, hgZ⟩ : ∃ g, g = wr.heap.size := ⟨_, rfl⟩
          have kz : Blk wz gZ 69 #[.int .i64 pg, .int .i64 vr, .int .i64 at_] := by rw [hwz, hgZ]; exact Blk.new _ _ _
          have HWZ1 := Lib.hid (show Below w1.heap.size w1 wz by rw [hwz]; exact HX.out.alloc HX.out.size _)
          have HMZ := Lib.hid (show MapIs (fun x : ArrK 2 => arrV .i64 x.1) Value.bool wz gN m2 by rw [hwz]; exact HM2.out.1.alloc _)
          have HMMZ := Lib.hid (show MapIs (fun x : ArrK 64 => arrV .i8 x.1) Value.bool wz gM m by rw [hwz]; exact HMM.out.alloc _)
          have q0 := kz.cell 0
          have q1 := kz.cell 1
          have q2 := kz.cell 2
          simp at q0 q1 q2
          have hgz : gZ < wz.heap.size := kz.lt
          have z0 := (KT.out.below HWZ1.out hgl).cell 0
          simp at z0
          have f1 := IntWalk.i64_in ((t.colours.length : Int) - 1) (by omega)
          have HWZ := Lib.hid hwz
          have HGZ := Lib.hid hgZ
          have hgd : t.ready.getD k (0, 0, 0) = (pg, vr, at_) := by rw [hrk]; simp [hlt]
          have her : errR t k = if !inB pg 0 ((t.colours.length : Int) - 1) || (!inB vr 0 9 || !inB at_ 0 86400) then 6 else if hasR t.ready k [pg, vr] then 10 else 0 := by
            unfold errR; rw [hgd]; dsimp only; rw [hasR_metR]
          have HER := Lib.hid her
          have hsu := fun x => hasR_succ hlt x
          rw [← hrk] at hsu
          have HSU := Lib.hid hsu
          have HHQ0 := Lib.hid (HM2.out.2 ⟨[pg, vr], rfl⟩)
          have hstop : errR t k ≠ 0 → checkT t = errR t k := fun h => by
            have h1 := firstErr_stop HE.out h hlt
            rw [HC1.out, h1, if_pos h]
          have HST := Lib.hid hstop
          clear hwz hgZ kz hxr hgd her hstop hsu hrk
          rcases or4 (inB pg 0 ((t.colours.length : Int) - 1)) (inB vr 0 9) (inB at_ 0 86400) true with (i1 | ⟨i1, i2⟩ | ⟨i1, i2, i3⟩ | ⟨_, _, _, i3⟩) | ⟨i1, i2, i3, _⟩
          case inl.inr.inr.inr => cases i3
          case inl.inl | inl.inr.inl | inl.inr.inr.inl =>
            all_goals
              have he : errR t k = 6 := by rw [HER.out, if_pos (by simp_all)]
              have HC := Lib.hid ((HST.out (by rw [he]; decide)).trans he)
              clear he
              go_upto_region 23 with fail
              rw [← HWZ.out, ← HGZ.out]
              go_wp2_with first
                | (go_at_call 65; refine (within_any _ _ _ _).mono ?_; rintro e w' ⟨rfl, rfl⟩)
                | (go_at_call 92; refine (badVariantC_any _ _).mono ?_; rintro e w' ⟨rfl, rfl⟩)
              go_ret
              exact ⟨ret_int HC.out.symm, HB1.out.trans (HWZ1.out.mono HB1.out.size)⟩
          cases hh : hasR t.ready k [pg, vr]
          · have he : errR t k = 0 := by rw [HER.out, if_neg (by simp [i1, i2, i3]), hh]; rfl
            have HGO := Lib.hid (firstErr_go HE.out he)
            have HHQ := Lib.hid (HHQ0.out.trans hh)
            clear he hh
            go_upto_region 23 with fail
            rw [← HWZ.out, ← HGZ.out]
            go_wp2_with first
              | (go_at_call 65; refine (within_any _ _ _ _).mono ?_; rintro e w' ⟨rfl, rfl⟩)
              | (go_at_call 92; refine (badVariantC_any _ _).mono ?_; rintro e w' ⟨rfl, rfl⟩)
              | (at_lookup; refine wpList_lookup rfl (.tmp 128) (.tmp 133) 166 false rfl Try.underlying166 keyLaw166 zero4 HMZ.out ⟨[pg, vr], rfl⟩ rfl rfl ?_; simp only [Bool.false_eq_true, if_false, getD_bool, HHQ.out])
              | (at_mapUpdate; refine wpList_update rfl (.tmp 135) (.tmp 140) (.const (.bool true)) 166 rfl Try.underlying166 keyLaw166 HMZ.out ⟨[pg, vr], rfl⟩ true rfl rfl rfl ?_; intro w7 hm7 hg7 hs7; have HM7 := Lib.hid hm7; have HG7 := Lib.hid hg7; have HS7 := Lib.hid hs7; clear hm7 hg7 hs7)
            go_roundw
            case rel =>
              refine ⟨k + 1, _, by omega, by go_num, HGO.out, ⟨HM7.out, fun x => ?_⟩, HMMZ.out.same (HG7.out.block gM HMMZ.out.lt (fun e => HMN.out (by injection e))), HWZ1.out.grown HG7.out HWZ1.out.size (fun j hj => by injection hj with hj; rw [← hj]; exact HGN1.out)⟩
              rw [mget_mset, HSU.out]
              by_cases hx : x = ⟨[pg, vr], rfl⟩
              · subst hx; simp
              · rw [if_neg hx, HM2.out.2]
                have : decide ([pg, vr] = x.1) = false := decide_eq_false (fun e => hx (Subtype.ext e.symm))
                rw [this]; simp
            case measure => simp [intOf]; omega
          · have he : errR t k = 10 := by rw [HER.out, if_neg (by simp [i1, i2, i3]), hh]; rfl
            have HC := Lib.hid ((HST.out (by rw [he]; decide)).trans he)
            have HHQ := Lib.hid (HHQ0.out.trans hh)
            clear he hh
            go_upto_region 23 with fail
            rw [← HWZ.out, ← HGZ.out]
            go_wp2_with first
              | (go_at_call 65; refine (within_any _ _ _ _).mono ?_; rintro e w' ⟨rfl, rfl⟩)
              | (go_at_call 92; refine (badVariantC_any _ _).mono ?_; rintro e w' ⟨rfl, rfl⟩)
              | (at_lookup; refine wpList_lookup rfl (.tmp 128) (.tmp 133) 166 false rfl Try.underlying166 keyLaw166 zero4 HMZ.out ⟨[pg, vr], rfl⟩ rfl rfl ?_; simp only [Bool.false_eq_true, if_false, getD_bool, HHQ.out])
            go_ret
            exact ⟨ret_int HC.out.symm, HB1.out.trans (HWZ1.out.mono HB1.out.size)⟩
        · obtain rfl : k = t.ready.length := by omega
          have hc1 := HC1.out
          rw [if_neg (show ¬ firstErr (errR t) t.ready.length ≠ 0 from fun h => h HE.out)] at hc1
          have HC2 := Lib.hid hc1
          have HBX := Lib.hid (HB1.out.trans (HX.out.mono HB1.out.size))
          clear hc1 HC1
          by_cases e0 : m.length = 0
          · have t0 : ((m.length : Int) == 0) = true := by simp [e0]
            have HC := Lib.hid (HC2.out.trans (if_pos e0))
            clear e0
            go_wp2_with (at_len; refine wpList_msize rfl (.tmp 143) 162 rfl Try.underlying162 HMM.out rfl ?_)
            go_ret
            exact ⟨ret_int HC.out.symm, HBX.out⟩
          · have t0 : ((m.length : Int) == 0) = false := by simp; exact fun h => e0 (by simp [h])
            have HC3 := Lib.hid (HC2.out.trans (if_neg e0))
            clear e0
            by_cases e1 : 7 < m.length
            · have HC := Lib.hid (HC3.out.trans (if_pos e1))
              go_wp2_with (at_len; first | (refine wpList_msize rfl (.tmp 143) 162 rfl Try.underlying162 HMM.out rfl ?_) | (refine wpList_msize rfl (.tmp 147) 162 rfl Try.underlying162 HMM.out rfl ?_))
              go_ret
              exact ⟨ret_int HC.out.symm, HBX.out⟩
            · have HC := Lib.hid (HC3.out.trans (if_neg e1))
              have e2 : m.length ≤ 7 := by omega
              clear e1
              go_wp2_with (at_len; first | (refine wpList_msize rfl (.tmp 143) 162 rfl Try.underlying162 HMM.out rfl ?_) | (refine wpList_msize rfl (.tmp 147) 162 rfl Try.underlying162 HMM.out rfl ?_))
              go_ret
              exact ⟨ret_int HC.out.symm, HBX.out⟩
end Go.Proofs.Ytokdleanpkkdpaa
