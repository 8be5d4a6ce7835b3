/- Contract of late: whether a slot ends too late; conditions: a title at work. -/
import Derived.Test.YtokdleanpkkdpaaChecked
import Derived.Test.YtokdleanpkkdpaaBase
import Derived.Test.YtokdleanpkkdpaaSpec6
import Derived.BigQuiet
import Derived.Deep.QuietTactic
import Derived.Lib.Hide
import Derived.Shelf.Slices.Clone
import Derived.Deep.OwnRows
import Derived.Deep.RegionHeld3
import Derived.Deep.DeepCutAuto
import Derived.Deep.DeepMust
set_option linter.unusedSimpArgs false
set_option linter.unusedVariables false
namespace Go.Proofs.Ytokdleanpkkdpaa
open Go.RowKit Go.Fh Go.Ed


theorem within_any (n a b : Int) (w : World) :
    Calls Try.prog 65 #[.int .i64 n, .int .i64 a, .int .i64 b] w fun e w' => e = .returned (.bool (inB n a b)) ∧ w = w' := by
  by_cases h1 : a ≤ n
  · by_cases h2 : n ≤ b
    all_goals
      go_enter Try.func65, Try.ntmps65
      go_wp2
      go_ret
      exact ⟨by simp [inB]; try omega, rfl⟩
  · go_enter Try.func65, Try.ntmps65
    go_wp2
    go_ret
    exact ⟨by simp [inB]; omega, rfl⟩



theorem rin_any (n a b : Int) (w : World) :
    Calls Try.prog 94 #[.int .i64 n, .int .i64 a, .int .i64 b] w fun e w' => e = .returned (.bool (inB n a b)) ∧ w = w' := by
  by_cases h1 : a ≤ n
  · by_cases h2 : n ≤ b
    all_goals
      go_enter Try.func94, Try.ntmps94
      go_wp2
      go_ret
      exact ⟨by simp [inB]; try omega, rfl⟩
  · go_enter Try.func94, Try.ntmps94
    go_wp2
    go_ret
    exact ⟨by simp [inB]; omega, rfl⟩


set_option maxHeartbeats 1000000 in
theorem equalInts_any (A B : Option Addr) (c d : Nat) (l m : List Int) (w : World) (hl : l.length ≤ 9223372036854775807) (hm : m.length ≤ 9223372036854775807) (hA : Sl encInt 1 w w.heap.size A l) (hB : Sl encInt 1 w w.heap.size B m) :
    Calls Try.prog 19 #[.slice A l.length c, .slice B m.length d] w fun e w' => e = .returned (.bool (decide (l = m))) ∧ Below w.heap.size w w' := by
  by_cases hlen : l.length = m.length
  · have hb0 : ((l.length : Int) != (m.length : Int)) = false := by simp [hlen]
    have HL := Lib.hid hlen
    clear hlen
    go_enter Try.func19, Try.ntmps19
    go_wp2
    go_loopw [13] (fun i wr => ∃ k : Nat, k ≤ l.length ∧ i = .int .i64 k ∧ Hid (l.take k = m.take k) ∧ Below w.heap.size w wr) (fun i _ => l.length - (intOf i).toNat)
    case atStart => exact ⟨0, Nat.zero_le _, rfl, by simp [Hid], Below.refl _ _⟩
    case round =>
      obtain ⟨k, hk, rfl, HK, hW⟩ := hrel
      by_cases hlt : k < l.length
      · have hlt2 : k < m.length := by have := HL.out; omega
        obtain ⟨b, off, rfl, hb, c0⟩ := (hA.below hW).at1 hlt
        obtain ⟨b2, off2, rfl, hb2, c2⟩ := (hB.below hW).at1 hlt2
        by_cases he : l[k] = m[k]
        · have hne : (l[k] != m[k]) = false := by simp [he]
          have HE := Lib.hid he
          clear he
          go_wp2
          go_quiet (fail)
          go_wp2
          go_roundw
          case rel => exact ⟨k + 1, by omega, by go_num, by unfold Hid; rw [List.take_succ_eq_append_getElem hlt, List.take_succ_eq_append_getElem hlt2, HK.out, HE.out], below_drewN hW _⟩
          case measure => simp [intOf]; omega
        · have hne : (l[k] != m[k]) = true := by simp [he]
          have hlm : l ≠ m := by intro e; subst e; exact he rfl
          have HE := Lib.hid hlm
          clear he hlm
          go_wp2
          go_quiet (fail)
          go_wp2
          go_ret
          exact ⟨ret_bool (by simp [HE.out]), below_drewN hW _⟩
      · go_wp2
        go_ret
        have e1 : l.take k = l := List.take_of_length_le (by omega)
        have e2 : m.take k = m := List.take_of_length_le (by have := HL.out; omega)
        exact ⟨ret_bool (by have := HK.out; rw [e1, e2] at this; simp [this]), hW⟩
  · have hb0 : ((l.length : Int) != (m.length : Int)) = true := by simp; omega
    have hlm : l ≠ m := by intro e; subst e; exact hlen rfl
    have HE := Lib.hid hlm
    clear hlen hlm
    go_enter Try.func19, Try.ntmps19
    go_wp2
    go_ret
    exact ⟨ret_bool (by simp [HE.out]), Below.refl _ _⟩

theorem infoInt : (Try.prog.info? 3).map (fun i => (i.zero, i.size, i.bytes)) = some (some (.int .i64 0), 1, 8) := by kernel_rfl

set_option maxHeartbeats 1000000 in
theorem cloneInt_any (A : Option Addr) (c : Nat) (l : List (Int)) (w : World) (hl : l.length * 8 ≤ 140737488355328) (hA : Sl encInt 1 w w.heap.size A l) :
    Calls Try.prog 40 #[.slice A l.length c] w fun e w' => ∃ A' c', e = .returned (.slice A' l.length c') ∧ Sl encInt 1 w' w'.heap.size A' l ∧ Below w.heap.size w w' := by
  have hnil := fun w n c n' c' a => Lib.run_eql_slice_nil (P := Try.prog) w 22 3 a n c n' c' Try.underlying22
  obtain ⟨i0, hi0, hz0, hz1, hz2⟩ := info_parts infoInt
  rcases A with _ | ad
  · have h0 := hA.none_nil
    subst h0
    go_enter Try.func40, Try.ntmps40
    go_wp2
    go_ret
    exact ⟨none, 0, rfl, Sl.nil, Below.refl _ _⟩
  · have hs2 : ∀ x : Int, (encInt x).length = 1 := fun _ => rfl
    have hfl := length_flat (enc := encInt) (size := 1) hs2 l
    have hne : ∀ u ∈ l.flatMap encInt, u.oneCell' = true := by
      intro u hu; obtain ⟨x, _, hx⟩ := List.mem_flatMap.1 hu; simp [encInt] at hx; subst hx; rfl
    have hcells : ∀ (W : World), Below w.heap.size w W → ∀ j u, (l.flatMap encInt)[j]? = some u → W.cell? (ad.add j) = some u := fun W hb => (hA.below hb).flat hs2
    obtain ⟨fl, hflat⟩ : ∃ fl, fl = l.flatMap encInt := ⟨_, rfl⟩
    rw [← hflat] at hfl hne hcells
    have HF := Lib.hid hfl
    have HFL := Lib.hid hflat
    clear hfl hflat
    have hb0 := (Below.refl w.heap.size w).alloc (Nat.le_refl _) (.cells #[] 3)
    have hown := World.ownsRow_made (base := w.heap.size) (e := 3) (size := 1) w #[] 0 (Nat.le_refl _) (by decide) rfl
    go_enter Try.func40, Try.ntmps40
    go_wp2_with (at_builtin; refine wpList_append_own _ rfl (.tmp 5) (.tmp 6) 22 rfl w.heap.size 3 i0 _ 1 8 Try.underlying22 hi0 hz0 hz1 hz2 rfl (by decide) _ _ _ rfl hown ad l.length c fl rfl HF.out (hcells _ hb0) hne (by simp only [maxLen]; omega) (by omega) (by simp) ?_; intro v' w1 hown1 hg1 _)
    go_ret
    obtain ⟨A', c', rfl⟩ := own_shape hown1
    simp only [Nat.zero_add, List.nil_append] at hown1 ⊢
    refine ⟨A', c', rfl, Sl.of_own hs2 (by rw [← HFL.out]; exact hown1), hb0.grown hg1 (by simp) (fun k hk => ?_)⟩
    cases hk; exact Nat.le_refl _


end Go.Proofs.Ytokdleanpkkdpaa
namespace Go.Ed
/-- where a title's lists lie -/
structure TA where
  a : Option Go.Addr
  ca : Nat
  b : Option Go.Addr
  cb : Nat
  z : Option Go.Addr
  cz : Nat
  r : Option Go.Addr
  cr : Nat
def titV (t : TitD) (x : TA) : Array Go.Value := #[.slice x.a t.colours.length x.ca, .slice x.b t.pairs.length x.cb, .slice x.z t.zones.length x.cz, .slice x.r t.ready.length x.cr, .int .i64 t.start, .int .i64 t.rate, .int .i64 t.stop, .int .i64 t.hang]
/-- the pages that the first k pairs take -/
def takenN (l : List Int) (k : Nat) (i : Nat) : Bool := (l.take k).any fun q => q == (i : Int) || q + 1 == (i : Int)
theorem takenN_succ {l : List Int} {k : Nat} (hk : k < l.length) (i : Nat) : takenN l (k + 1) i = (takenN l k i || (l[k] == (i : Int) || l[k] + 1 == (i : Int))) := by
  unfold takenN
  rw [List.take_succ_eq_append_getElem hk, List.any_append]
  simp
theorem pairAt_taken {c l : List Int} {k : Nat} (hk : k < l.length) : pairAt c l k = (inB l[k] 0 ((c.length : Int) - 2) && (!(takenN l k l[k].toNat) && (!(takenN l k (l[k].toNat + 1)) && (c.getD l[k].toNat 0 == c.getD (l[k].toNat + 1) 0)))) := by
  unfold pairAt
  have e : l.getD k 0 = l[k] := by simp [hk]
  rw [e]
  cases h : inB l[k] 0 ((c.length : Int) - 2)
  · simp
  · have h0 := (inB_iff.1 h).1
    have : ((l.take k).any fun q => q == l[k] || q + 1 == l[k] || q == l[k] + 1) = (takenN l k l[k].toNat || takenN l k (l[k].toNat + 1)) := by
      unfold takenN
      rw [Bool.eq_iff_iff]
      simp only [Bool.or_eq_true, List.any_eq_true, beq_iff_eq]
      constructor
      · rintro ⟨q, hq, (h1 | h1) | h1⟩
        · left; exact ⟨q, hq, .inl (by omega)⟩
        · left; exact ⟨q, hq, .inr (by omega)⟩
        · right; exact ⟨q, hq, .inl (by omega)⟩
      · rintro (⟨q, hq, h1 | h1⟩ | ⟨q, hq, h1 | h1⟩)
        · exact ⟨q, hq, .inl (.inl (by omega))⟩
        · exact ⟨q, hq, .inl (.inr (by omega))⟩
        · exact ⟨q, hq, .inr (by omega)⟩
        · exact ⟨q, hq, .inl (.inl (by omega))⟩
    rw [this]
    cases takenN l k l[k].toNat <;> cases takenN l k (l[k].toNat + 1) <;> simp
theorem pairedB_stop {t : TitD} {k : Nat} (hk : k < t.pairs.length) (h : pairAt t.colours t.pairs k = false) : pairedB t = false := by
  unfold pairedB
  rw [List.all_eq_false]
  exact ⟨k, List.mem_range.2 hk, by simp [h]⟩
theorem pairedB_all {t : TitD} (h : ∀ k, k < t.pairs.length → pairAt t.colours t.pairs k = true) : pairedB t = true := by
  unfold pairedB
  rw [List.all_eq_true]
  exact fun k hk => h k (List.mem_range.1 hk)
end Go.Ed
namespace Go.Proofs.Ytokdleanpkkdpaa
open Go.RowKit Go.Fh Go.Ed
theorem infoBool : (Try.prog.info? 4).map (fun i => (i.zero, i.size, i.bytes)) = some (some (.bool false), 1, 1) := by kernel_rfl

set_option maxRecDepth 20000 in
set_option maxHeartbeats 4000000 in
theorem paired_any (t : TitD) (x : TA) (w : World) (hc : t.colours.length ≤ 1000) (hp : t.pairs.length ≤ 9223372036854775807) (hA : Sl encInt 1 w w.heap.size x.a t.colours) (hB : Sl encInt 1 w w.heap.size x.b t.pairs) :
    Calls Try.prog 91 #[.agg (titV t x)] w fun e w' => e = .returned (.bool (pairedB t)) ∧ Below w.heap.size w w' := by
  obtain ⟨w1, hw1⟩ : ∃ W, W = w.alloc (.cells (titV t x) 26) := ⟨_, rfl⟩
  have hb1 : Below w.heap.size w w1 := by rw [hw1]; exact (Below.refl _ _).alloc (Nat.le_refl _) _
  have kT : Blk w1 w.heap.size 26 (titV t x) := by rw [hw1]; exact Blk.new _ _ _
  obtain ⟨gT, hgT⟩ : ∃ g, g = w.heap.size := ⟨_, rfl⟩
  rw [← hgT] at kT
  have hmk := run_make_row' (P := Try.prog) 193 4 (.bool false) 1 Try.underlying193 infoBool rfl .i64 .i64 t.colours.length (by omega) (by omega) w1
  obtain ⟨w2, hw2⟩ : ∃ W, W = w1.alloc (.cells (madeCells #[.bool false] t.colours.length) 4) := ⟨_, rfl⟩
  rw [← hw2] at hmk
  have hr0 : w2.rowIs w1.heap.size 4 t.colours.length (fun _ => .bool false) := by rw [hw2]; exact World.rowIs_made w1 (.bool false) t.colours.length 4
  have hb12 : Below w1.heap.size w1 w2 := by rw [hw2]; exact (Below.refl _ _).alloc (Nat.le_refl _) _
  obtain ⟨gK, hgK⟩ : ∃ g, g = w1.heap.size := ⟨_, rfl⟩
  rw [← hgK] at hmk hr0
  have HA := Lib.hid hA
  have HB := Lib.hid hB
  have HB1 := Lib.hid hb1
  have HW1 := Lib.hid hw1
  have HGT := Lib.hid hgT
  have HGK := Lib.hid hgK
  have KT := Lib.hid kT
  have HR0 := Lib.hid hr0
  have HB12 := Lib.hid hb12
  have hgl : gT < w1.heap.size := kT.lt
  have r0 := kT.cell 0
  have r1 := kT.cell 1
  simp [titV] at r0 r1
  have k2 := kT.below hb12 hgl
  have s1 := k2.cell 1
  simp [titV] at s1
  clear hA hB hb1 hw1 hw2 hgT hgK kT hr0 hb12 k2
  unfold titV at *
  go_enter Try.func91, Try.ntmps91
  go_upto_region 1 with fail
  rw [← HW1.out, ← HGT.out]
  go_upto_region 2 with fail
  clear hmk r0 r1
  go_wp2_with fail
  have HBW := Lib.hid (HB1.out.trans (HB12.out.mono HB1.out.size))
  go_loopw [13] (fun i wr => ∃ k : Nat, k ≤ t.pairs.length ∧ i = .int .i64 k ∧ Hid (∀ j, j < k → pairAt t.colours t.pairs j = true) ∧ Hid (wr.rowIs gK 4 t.colours.length (fun j => .bool (takenN t.pairs k j))) ∧ Below w1.heap.size w1 wr) (fun i _ => t.pairs.length - (intOf i).toNat)
  case atStart => exact ⟨0, Nat.zero_le _, rfl, fun j hj => absurd hj (by omega), HR0, HB12.out⟩
  case round =>
    obtain ⟨k, hk, rfl, HP, HR, hB⟩ := hrel
    have hBw := HB1.out.trans (hB.mono HB1.out.size)
    have HBR := Lib.hid hBw
    have kr := KT.out.below hB hgl
    have r0 := kr.cell 0
    have r1 := kr.cell 1
    simp at r0 r1
    by_cases hlt : k < t.pairs.length
    · obtain ⟨pb, po, hpa, hpb, c0⟩ := (HB.out.below hBw).at1 hlt
      have hpt := pairAt_taken (c := t.colours) hlt
      have hstop := fun (h : pairAt t.colours t.pairs k = false) => pairedB_stop hlt h
      have f1 := IntWalk.i64_in ((t.colours.length : Int) - 2) (by omega)
      rw [hpa]
      rw [hpa] at r1
      obtain ⟨p, hp'⟩ : ∃ p, p = t.pairs[k] := ⟨_, rfl⟩
      rw [← hp'] at c0 hpt
      have HPT := Lib.hid hpt
      have HST := Lib.hid hstop
      have HPV := Lib.hid hp'
      clear hpt hstop hp' kr hBw
      cases hin : inB p 0 ((t.colours.length : Int) - 2)
      · have HF := Lib.hid (HST.out (by rw [HPT.out, hin]; rfl))
        go_wp2_with fail
        go_quiet ((go_at_call 65; exact Calls.quiet_of_same ((within_any _ _ _ _).mono (fun e w' he => ⟨he.1, he.2.symm⟩))))
        go_wp2_with fail
        go_ret
        exact ⟨ret_bool HF.out.symm, below_drewN HBR.out _⟩
      · have hpr := inB_iff.1 hin
        obtain ⟨pn, rfl⟩ : ∃ pn : Nat, p = (pn : Int) := ⟨p.toNat, by omega⟩
        have hp1 : pn < t.colours.length := by omega
        have hp2 : pn + 1 < t.colours.length := by omega
        have f2 := IntWalk.i64_in ((pn : Int) + 1) (by omega)
        have e1 : ((pn : Int) + 1).toNat = pn + 1 := by omega
        have d1 := HR.out.cell hp1
        have d2 := HR.out.cell hp2
        have q1 := HPT.out
        rw [hin] at q1
        simp only [Int.toNat_natCast, Bool.true_and] at q1
        have HQ := Lib.hid q1
        clear q1
        cases ht1 : takenN t.pairs k pn
        · cases ht2 : takenN t.pairs k (pn + 1)
          · rw [ht1] at d1
            rw [ht2] at d2
            obtain ⟨ab, ao, hxa, hab, g1⟩ := (HA.out.below HBR.out).at1 hp1
            obtain ⟨ab', ao', hxa', hab', g2⟩ := (HA.out.below HBR.out).at1 hp2
            obtain ⟨rfl, rfl⟩ : ab = ab' ∧ ao = ao' := by rw [hxa] at hxa'; simpa using hxa'
            rw [hxa] at r0 ⊢
            have hgd1 : t.colours.getD pn 0 = t.colours[pn] := by simp [hp1]
            have hgd2 : t.colours.getD (pn + 1) 0 = t.colours[pn + 1] := by simp [hp2]
            have q1 := HQ.out
            rw [ht1, ht2, hgd1, hgd2] at q1
            obtain ⟨cA, hcA⟩ : ∃ c, c = t.colours[pn] := ⟨_, rfl⟩
            obtain ⟨cB, hcB⟩ : ∃ c, c = t.colours[pn + 1] := ⟨_, rfl⟩
            rw [← hcA] at g1 q1
            rw [← hcB] at g2 q1
            have Q1 := Lib.hid q1
            have HXA := Lib.hid hxa
            clear hcA hcB hxa hxa' hgd1 hgd2 q1
            by_cases he : cA = cB
            · have hne : (cA != cB) = false := by simp [he]
              have hpk : pairAt t.colours t.pairs k = true := by rw [Q1.out, he]; simp
              have HPK := Lib.hid hpk
              have z1 := HR.out.frozen pn
              have z2 := HR.out.frozen (pn + 1)
              have hsu := fun i => takenN_succ hlt i
              have HSU := Lib.hid hsu
              clear he hpk hsu
              go_wp2_with fail
              go_quiet ((go_at_call 65; exact Calls.quiet_of_same ((within_any _ _ _ _).mono (fun e w' he => ⟨he.1, he.2.symm⟩))))
              go_wp2_with fail
              go_roundw
              case rel =>
                have hr0 : (wr.drewN nq).rowIs gK 4 t.colours.length (fun j => .bool (takenN t.pairs k j)) := World.rowIs.of_block HR.out rfl
                refine ⟨k + 1, by omega, by go_num, ?_, ?_, ?_⟩
                · intro j hj
                  by_cases e : j = k
                  · subst e; exact HPK.out
                  · exact HP.out j (by omega)
                · refine World.rowIs.congr ((hr0.set pn (.bool true)).set (pn + 1) (.bool true)) fun j hj => ?_
                  rw [HSU.out, ← HPV.out]
                  by_cases e1 : j = pn
                  · subst e1; simp
                  · by_cases e2 : j = pn + 1
                    · subst e2; simp
                    · have a1 : ((pn : Int) == (j : Int)) = false := by simp; omega
                      have a2 : ((pn : Int) + 1 == (j : Int)) = false := by rw [beq_eq_false_iff_ne]; omega
                      rw [a1, a2]
                      simp [e1, e2]
                · have hgk : w1.heap.size ≤ gK := by rw [HGK.out]; exact Nat.le_refl _
                  exact ((below_drewN hB _).setCell (by exact hgk) _).setCell (by exact hgk) _
              case measure => simp [intOf]; omega
            · have hne : (cA != cB) = true := by simp [he]
              have HF := Lib.hid (HST.out (by rw [Q1.out]; simpa using he))
              clear he
              go_wp2_with fail
              go_quiet ((go_at_call 65; exact Calls.quiet_of_same ((within_any _ _ _ _).mono (fun e w' he => ⟨he.1, he.2.symm⟩))))
              go_wp2_with fail
              go_ret
              exact ⟨ret_bool HF.out.symm, below_drewN HBR.out _⟩
          · rw [ht1] at d1
            rw [ht2] at d2
            have HF := Lib.hid (HST.out (by rw [HQ.out, ht1, ht2]; rfl))
            go_wp2_with fail
            go_quiet ((go_at_call 65; exact Calls.quiet_of_same ((within_any _ _ _ _).mono (fun e w' he => ⟨he.1, he.2.symm⟩))))
            go_wp2_with fail
            go_ret
            exact ⟨ret_bool HF.out.symm, below_drewN HBR.out _⟩
        · rw [ht1] at d1
          have HF := Lib.hid (HST.out (by rw [HQ.out, ht1]; rfl))
          go_wp2_with fail
          go_quiet ((go_at_call 65; exact Calls.quiet_of_same ((within_any _ _ _ _).mono (fun e w' he => ⟨he.1, he.2.symm⟩))))
          go_wp2_with fail
          go_ret
          exact ⟨ret_bool HF.out.symm, below_drewN HBR.out _⟩
    · obtain rfl : k = t.pairs.length := by omega
      have HF := Lib.hid (pairedB_all HP.out)
      go_wp2_with fail
      go_ret
      exact ⟨ret_bool HF.out.symm, HBR.out⟩
end Go.Proofs.Ytokdleanpkkdpaa
namespace Go.Ed
def tkL (l : List Int) (k : Nat) : List Int := (l.take k).flatMap fun p => [p, p + 1]
theorem tkL_succ {l : List Int} {k : Nat} (hk : k < l.length) : tkL l (k + 1) = tkL l k ++ [l[k], l[k] + 1] := by
  unfold tkL
  rw [List.take_succ_eq_append_getElem hk, List.flatMap_append]
  simp
theorem tkL_len {l : List Int} {k : Nat} (hk : k ≤ l.length) : (tkL l k).length = 2 * k := by
  induction k with
  | zero => simp [tkL]
  | succ k ih => rw [tkL_succ (by omega), List.length_append, ih (by omega)]; simp; omega
theorem tkL_hit {l : List Int} {k : Nat} {pn : Nat} {q : Int} (hq : q ∈ tkL l k) (h : q = (pn : Int) ∨ q = (pn : Int) + 1) : takenN l k pn = true ∨ takenN l k (pn + 1) = true := by
  unfold tkL at hq
  obtain ⟨a, ha, hq⟩ := List.mem_flatMap.1 hq
  unfold takenN
  simp only [List.any_eq_true, Bool.or_eq_true, beq_iff_eq]
  simp at hq
  rcases hq with rfl | rfl
  · rcases h with h | h
    · left; exact ⟨_, ha, .inl h⟩
    · right; exact ⟨_, ha, .inl (by omega)⟩
  · rcases h with h | h
    · left; exact ⟨_, ha, .inr h⟩
    · right; exact ⟨_, ha, .inr (by omega)⟩
theorem tkL_miss {l : List Int} {k pn : Nat} (h : ∀ q ∈ tkL l k, q ≠ (pn : Int) ∧ q ≠ (pn : Int) + 1) : takenN l k pn = false ∧ takenN l k (pn + 1) = false := by
  unfold takenN
  simp only [List.any_eq_false, Bool.or_eq_true, beq_iff_eq]
  have key : ∀ a ∈ l.take k, (a ≠ (pn : Int) ∧ a ≠ (pn : Int) + 1) ∧ (a + 1 ≠ (pn : Int) ∧ a + 1 ≠ (pn : Int) + 1) := fun a ha =>
    ⟨h a (List.mem_flatMap.2 ⟨a, ha, by simp⟩), h (a + 1) (List.mem_flatMap.2 ⟨a, ha, by simp⟩)⟩
  constructor
  · intro a ha hh
    have := key a ha
    omega
  · intro a ha hh
    have := key a ha
    omega
end Go.Ed
namespace Go.Proofs.Ytokdleanpkkdpaa
open Go.RowKit Go.Fh Go.Ed

theorem flatMap_encIntE (l : List Int) : l.flatMap encInt = l.map (Value.int .i64) := by
  induction l with
  | nil => rfl
  | cons x l ih => rw [List.flatMap_cons, ih]; rfl
theorem sl_ownIntE {w : World} {base c : Nat} {A : Option Addr} {l : List Int} (h : w.ownsRow base 3 1 (.slice A l.length c) l.length (l.map (Value.int .i64))) : Sl encInt 1 w w.heap.size A l :=
  Sl.of_own (fun _ => rfl) (by rw [flatMap_encIntE]; exact h)

set_option maxRecDepth 20000 in
set_option maxHeartbeats 4000000 in
theorem rpairs_any (t : TitD) (x : TA) (w : World) (hc : t.colours.length ≤ 1000) (hp : t.pairs.length ≤ 1000000000) (hA : Sl encInt 1 w w.heap.size x.a t.colours) (hB : Sl encInt 1 w w.heap.size x.b t.pairs) :
    Calls Try.prog 95 #[.agg (titV t x)] w fun e w' => e = .returned (.bool (pairedB t)) ∧ Below w.heap.size w w' := by
  obtain ⟨i0, hi0, hz0, hz1, hz2⟩ := info_parts infoInt
  obtain ⟨w1, hw1⟩ : ∃ W, W = w.alloc (.cells (titV t x) 88) := ⟨_, rfl⟩
  have hb1 : Below w.heap.size w w1 := by rw [hw1]; exact (Below.refl _ _).alloc (Nat.le_refl _) _
  have kT : Blk w1 w.heap.size 88 (titV t x) := by rw [hw1]; exact Blk.new _ _ _
  obtain ⟨gT, hgT⟩ : ∃ g, g = w.heap.size := ⟨_, rfl⟩
  rw [← hgT] at kT
  have HI0 := Lib.hid hi0
  have HA := Lib.hid hA
  have HB := Lib.hid hB
  have HB1 := Lib.hid hb1
  have HW1 := Lib.hid hw1
  have HGT := Lib.hid hgT
  have KT := Lib.hid kT
  have hgl : gT < w1.heap.size := kT.lt
  clear hi0 hA hB hb1 hw1 hgT kT
  unfold titV at *
  go_enter Try.func95, Try.ntmps95
  go_upto_region 1 with fail
  rw [← HW1.out, ← HGT.out]
  go_wp2_with fail
  go_loopw [3, 4] (fun v i wr => ∃ k : Nat, k ≤ t.pairs.length ∧ i = .int .i64 k ∧ (∃ A' c', v = .slice A' (2 * k) c') ∧ Hid (∀ j, j < k → pairAt t.colours t.pairs j = true) ∧ Hid (wr.ownsRow w1.heap.size 3 1 v (2 * k) ((tkL t.pairs k).map (Value.int .i64))) ∧ Below w1.heap.size w1 wr) (fun _ i _ => t.pairs.length - (intOf i).toNat)
  case atStart => exact ⟨0, Nat.zero_le _, rfl, ⟨none, 0, rfl⟩, fun j hj => absurd hj (by omega), World.ownsRow_nil _ _ _ _, Below.refl _ _⟩
  case round =>
    obtain ⟨k, hk, rfl, ⟨A', c', rfl⟩, HP, HO, hB⟩ := hrel
    have hBw := HB1.out.trans (hB.mono HB1.out.size)
    have HBR := Lib.hid hBw
    have kr := KT.out.below hB hgl
    have r0 := kr.cell 0
    have r1 := kr.cell 1
    simp at r0 r1
    by_cases hlt : k < t.pairs.length
    · obtain ⟨pb, po, hpa, hpb, c0⟩ := (HB.out.below hBw).at1 hlt
      have hpt := pairAt_taken (c := t.colours) hlt
      have hstop := fun (h : pairAt t.colours t.pairs k = false) => pairedB_stop hlt h
      have f1 := IntWalk.i64_in ((t.colours.length : Int) - 2) (by omega)
      rw [hpa]
      rw [hpa] at r1
      obtain ⟨p, hp'⟩ : ∃ p, p = t.pairs[k] := ⟨_, rfl⟩
      rw [← hp'] at c0 hpt
      have HPT := Lib.hid hpt
      have HST := Lib.hid hstop
      have HPV := Lib.hid hp'
      clear hpt hstop hp' kr hBw
      by_cases hp0 : p < 0
      · have t1 : decide (p < 0) = true := by simpa using hp0
        have HF := Lib.hid (HST.out (by rw [HPT.out, show inB p 0 ((t.colours.length : Int) - 2) = false by simp [inB]; omega]; rfl))
        clear hp0
        go_wp2_with fail
        go_quiet (fail)
        go_wp2_with fail
        go_ret
        exact ⟨ret_bool HF.out.symm, below_drewN HBR.out _⟩
      · by_cases hp1 : (t.colours.length : Int) - 2 < p
        · have t1 : decide (p < 0) = false := by simpa using hp0
          have t2 : decide ((t.colours.length : Int) - 2 < p) = true := by simpa using hp1
          have HF := Lib.hid (HST.out (by rw [HPT.out, show inB p 0 ((t.colours.length : Int) - 2) = false by simp [inB]; omega]; rfl))
          clear hp0 hp1
          go_wp2_with fail
          go_quiet (fail)
          go_wp2_with fail
          go_ret
          exact ⟨ret_bool HF.out.symm, below_drewN HBR.out _⟩
        · have t1 : decide (p < 0) = false := by simpa using hp0
          have t2 : decide ((t.colours.length : Int) - 2 < p) = false := by simpa using hp1
          have hin : inB p 0 ((t.colours.length : Int) - 2) = true := inB_iff.2 ⟨by omega, by omega⟩
          obtain ⟨pn, rfl⟩ : ∃ pn : Nat, p = (pn : Int) := ⟨p.toNat, by omega⟩
          have hq1 : pn < t.colours.length := by omega
          have hq2 : pn + 1 < t.colours.length := by omega
          have f2 := IntWalk.i64_in ((pn : Int) + 1) (by omega)
          have e1 : ((pn : Int) + 1).toNat = pn + 1 := by omega
          obtain ⟨ab, ao, hxa, hab, g1⟩ := (HA.out.below HBR.out).at1 hq1
          obtain ⟨ab', ao', hxa', hab', g2⟩ := (HA.out.below HBR.out).at1 hq2
          obtain ⟨rfl, rfl⟩ : ab = ab' ∧ ao = ao' := by rw [hxa] at hxa'; simpa using hxa'
          rw [hxa] at r0 ⊢
          have hgd1 : t.colours.getD pn 0 = t.colours[pn] := by simp [hq1]
          have hgd2 : t.colours.getD (pn + 1) 0 = t.colours[pn + 1] := by simp [hq2]
          have q1 := HPT.out
          rw [hin] at q1
          simp only [Int.toNat_natCast, Bool.true_and] at q1
          rw [hgd1, hgd2] at q1
          obtain ⟨cA, hcA⟩ : ∃ c, c = t.colours[pn] := ⟨_, rfl⟩
          obtain ⟨cB, hcB⟩ : ∃ c, c = t.colours[pn + 1] := ⟨_, rfl⟩
          rw [← hcA] at g1 q1
          rw [← hcB] at g2 q1
          have Q1 := Lib.hid q1
          have HXA := Lib.hid hxa
          clear hcA hcB hxa hxa' hgd1 hgd2 q1 hin hp0 hp1
          by_cases he : cA = cB
          · have hne : (cA != cB) = false := by simp [he]
            have hpk : takenN t.pairs k pn = false ∧ takenN t.pairs k (pn + 1) = false → pairAt t.colours t.pairs k = true := fun h => by rw [Q1.out, he, h.1, h.2]; simp
            have hpf : takenN t.pairs k pn = true ∨ takenN t.pairs k (pn + 1) = true → pairAt t.colours t.pairs k = false := fun h => by
              rw [Q1.out]
              rcases h with h | h <;> rw [h] <;> simp
            have HPK := Lib.hid hpk
            have HPF := Lib.hid hpf
            clear he hpk hpf
            go_wp2_with fail
            go_quiet (fail)
            go_wp2_with fail
            have hS : Sl encInt 1 wr wr.heap.size A' (tkL t.pairs k) := sl_ownIntE (base := w1.heap.size) (c := c') (by rw [tkL_len hk]; exact HO.out)
            obtain ⟨wq, hwq⟩ : ∃ W, W = wr.drewN nq := ⟨_, rfl⟩
            have hrq : Below wr.heap.size wr wq := by rw [hwq]; exact below_drewN (Below.refl _ _) _
            have HSQ := Lib.hid ((hS.below hrq).mono hrq.size)
            have HRQ := Lib.hid hrq
            have HBQ := Lib.hid (hB.trans (hrq.mono hB.size))
            have hoq : wq.ownsRow w1.heap.size 3 1 (.slice A' (2 * k) c') (2 * k) ((tkL t.pairs k).map (Value.int .i64)) := by rw [hwq]; exact HO.out
            have HOQ := Lib.hid hoq
            rw [← hwq]
            have hkl := tkL_len hk
            clear hS hwq hrq hoq g1 g2 c0 r0 r1 hne t1 t2 f1
            go_loopw [6] (fun i wr => ∃ m : Nat, m ≤ 2 * k ∧ i = .int .i64 m ∧ Hid (∀ j (hj : j < (tkL t.pairs k).length), j < m → (tkL t.pairs k)[j] ≠ (pn : Int) ∧ (tkL t.pairs k)[j] ≠ (pn : Int) + 1) ∧ Hid (wr.ownsRow w1.heap.size 3 1 (.slice A' (2 * k) c') (2 * k) ((tkL t.pairs k).map (Value.int .i64))) ∧ Hid (Sl encInt 1 wr wr.heap.size A' (tkL t.pairs k)) ∧ Below w1.heap.size w1 wr) (fun i _ => 2 * k - (intOf i).toNat)
            case atStart => exact ⟨0, Nat.zero_le _, rfl, fun j _ hj => absurd hj (by omega), HOQ.out, HSQ.out, HBQ.out⟩
            case round =>
              clear hB
              obtain ⟨m, hm, rfl, HM, HO2, HS2, hB⟩ := hrel
              by_cases hmt : m < 2 * k
              · have hml : m < (tkL t.pairs k).length := by rw [hkl]; exact hmt
                obtain ⟨qb, qo, rfl, hqb, d0⟩ := HS2.out.at1 hml
                have hmem : (tkL t.pairs k)[m] ∈ tkL t.pairs k := List.getElem_mem hml
                obtain ⟨z, hz⟩ : ∃ z, z = (tkL t.pairs k)[m] := ⟨_, rfl⟩
                rw [← hz] at d0 hmem
                have hhit := fun h => HPF.out (tkL_hit (pn := pn) hmem h)
                have HH := Lib.hid hhit
                have HZ := Lib.hid hz
                clear hmem hz hhit
                by_cases h1 : z = (pn : Int)
                · have t3 : (z == (pn : Int)) = true := by simpa using h1
                  have HF := Lib.hid (HST.out (HH.out (.inl h1)))
                  clear h1
                  go_wp2_with fail
                  go_ret
                  exact ⟨ret_bool HF.out.symm, HB1.out.trans (hB.mono HB1.out.size)⟩
                · by_cases h2 : z = (pn : Int) + 1
                  · have t3 : (z == (pn : Int)) = false := by simpa using h1
                    have t4 : (z == (pn : Int) + 1) = true := by simpa using h2
                    have HF := Lib.hid (HST.out (HH.out (.inr h2)))
                    clear h1 h2
                    go_wp2_with fail
                    go_ret
                    exact ⟨ret_bool HF.out.symm, HB1.out.trans (hB.mono HB1.out.size)⟩
                  · have t3 : (z == (pn : Int)) = false := by simpa using h1
                    have t4 : (z == (pn : Int) + 1) = false := by simpa using h2
                    have HNE := Lib.hid (And.intro h1 h2)
                    clear h1 h2
                    go_wp2_with fail
                    go_roundw
                    case rel =>
                      refine ⟨m + 1, by omega, by go_num, ?_, HO2.out, HS2.out, hB⟩
                      intro j hj hjm
                      by_cases e : j = m
                      · subst e; rw [← HZ.out]; exact HNE.out
                      · exact HM.out j hj (by omega)
                    case measure => simp [intOf]; omega
              · obtain rfl : m = 2 * k := by omega
                have hmiss : ∀ q ∈ tkL t.pairs k, q ≠ (pn : Int) ∧ q ≠ (pn : Int) + 1 := by
                  intro q hq
                  obtain ⟨j, hj, rfl⟩ := List.mem_iff_getElem.1 hq
                  exact HM.out j hj (by omega)
                have hpk := HPK.out (tkL_miss hmiss)
                have HPK2 := Lib.hid hpk
                have hown4 := HO2.out.alloc (.cells #[.int .i64 (pn : Int), .int .i64 ((pn : Int) + 1)] 3)
                have HOWN4 := Lib.hid hown4
                have HNEWS := Lib.hid (news_of1 wr 3 #[.int .i64 (pn : Int), .int .i64 ((pn : Int) + 1)])
                have hone : ∀ u ∈ [Value.int .i64 (pn : Int), Value.int .i64 ((pn : Int) + 1)], u.oneCell' = true := by intro u hu; simp at hu; rcases hu with rfl | rfl <;> rfl
                have hm1 : 2 * k + 2 ≤ maxLen := by simp only [maxLen]; omega
                have hm2 : (2 * k + 2) * 8 ≤ 140737488355328 := by omega
                have hm3 : w1.heap.size ≤ (wr.alloc (.cells #[.int .i64 (pn : Int), .int .i64 ((pn : Int) + 1)] 3)).heap.size := by have := hB.size; simp; omega
                have HM3 := Lib.hid hm3
                have HONE := Lib.hid hone
                have hBa := hB.alloc hB.size (.cells #[.int .i64 (pn : Int), .int .i64 ((pn : Int) + 1)] 3)
                have HBA := Lib.hid hBa
                clear hown4 hm3 hone hpk hmiss hBa
                go_wp2_with (at_builtin; refine wpList_append_own _ rfl (.tmp 64) (.tmp 68) 22 rfl w1.heap.size 3 i0 (.int .i64 0) 1 8 Try.underlying22 HI0.out hz0 hz1 hz2 rfl (by decide) (.slice A' (2 * k) c') (2 * k) ((tkL t.pairs k).map (Value.int .i64)) rfl HOWN4.out ⟨wr.heap.size, 0, none⟩ 2 2 [Value.int .i64 (pn : Int), Value.int .i64 ((pn : Int) + 1)] rfl rfl HNEWS.out HONE.out hm1 hm2 HM3.out ?_; intro v' w3 hown5 hg5 _)
                have HG5 := Lib.hid hg5
                have HO5 := Lib.hid hown5
                obtain ⟨A'', c'', rfl⟩ := own_shape hown5
                clear hg5 hown5
                go_wp2
                go_roundw
                case rel =>
                  refine ⟨k + 1, by omega, by go_num, ⟨A'', c'', rfl⟩, ?_, ?_, ?_⟩
                  · intro j hj
                    by_cases e : j = k
                    · subst e; exact HPK2.out
                    · exact HP.out j (by omega)
                  · unfold Hid
                    rw [tkL_succ hlt, List.map_append, ← HPV.out]
                    exact HO5.out
                  · exact HBA.out.grown HG5.out HM3.out (fun j hj => (HOWN4.out.lt j hj).1)
                case measure => simp [intOf]; omega
          · have hne : (cA != cB) = true := by simp [he]
            have HF := Lib.hid (HST.out (by rw [Q1.out]; cases takenN t.pairs k pn <;> cases takenN t.pairs k (pn + 1) <;> simp [he]))
            clear he
            go_wp2_with fail
            go_quiet (fail)
            go_wp2_with fail
            go_ret
            exact ⟨ret_bool HF.out.symm, below_drewN HBR.out _⟩
    · obtain rfl : k = t.pairs.length := by omega
      have HF := Lib.hid (pairedB_all HP.out)
      go_wp2_with fail
      go_ret
      exact ⟨ret_bool HF.out.symm, HBR.out⟩
end Go.Proofs.Ytokdleanpkkdpaa
namespace Go.Ed
def findI {α : Type} (p : α → Bool) : List α → Int
  | [] => -1
  | x :: l => if p x then 0 else if findI p l < 0 then -1 else findI p l + 1

theorem findI_hit {α : Type} {p : α → Bool} {l : List α} {k : Nat} (hk : k < l.length) (h0 : ∀ x ∈ l.take k, p x = false) (h1 : p l[k] = true) : findI p l = k := by
  induction l generalizing k with
  | nil => simp at hk
  | cons x l ih =>
    cases k with
    | zero => simp at h1; simp [findI, h1]
    | succ k =>
      have hx : p x = false := h0 x (by simp)
      have := ih (k := k) (by simpa using hk) (fun y hy => h0 y (by simp [hy])) (by simpa using h1)
      simp only [findI, hx, this]
      split
      · contradiction
      · split
        · omega
        · omega
theorem findI_miss {α : Type} {p : α → Bool} {l : List α} (h0 : ∀ x ∈ l, p x = false) : findI p l = -1 := by
  induction l with
  | nil => rfl
  | cons x l ih =>
    have hx : p x = false := h0 x (by simp)
    simp [findI, hx, ih (fun y hy => h0 y (by simp [hy]))]
theorem findI_any {α : Type} (p : α → Bool) (l : List α) : decide (0 ≤ findI p l) = l.any p := by
  induction l with
  | nil => simp [findI]
  | cons x l ih =>
    simp only [findI, List.any_cons]
    by_cases hx : p x = true
    · simp [hx]
    · have hx' : p x = false := by simpa using hx
      simp only [hx', Bool.false_eq_true, if_false, Bool.false_or, ← ih]
      by_cases h : findI p l < 0
      · simp only [if_pos h]; rw [decide_eq_false (by omega), decide_eq_false (by omega)]
      · simp only [if_neg h]; rw [decide_eq_true (by omega), decide_eq_true (by omega)]
theorem findI_bd {α : Type} (p : α → Bool) (l : List α) : -1 ≤ findI p l ∧ findI p l < l.length := by
  induction l with
  | nil => simp [findI]
  | cons x l ih =>
    simp only [findI, List.length_cons]
    split
    · omega
    · split <;> omega

end Go.Ed
namespace Go.Proofs.Ytokdleanpkkdpaa
open Go.RowKit Go.Fh Go.Ed

set_option maxHeartbeats 1000000 in
theorem index_any (A : Option Addr) (c : Nat) (l : List Int) (v : Int) (w : World) (hl : l.length ≤ 9223372036854775807) (hA : Sl encInt 1 w w.heap.size A l) :
    Calls Try.prog 113 #[.slice A l.length c, .int .i64 v] w fun e w' => e = .returned (.int .i64 (findI (fun x => v == x) l)) ∧ Below w.heap.size w w' := by
  have HA := Lib.hid hA
  clear hA
  go_enter Try.func113, Try.ntmps113
  go_wp2
  go_loopw [8] (fun i wr => ∃ k : Nat, k ≤ l.length ∧ i = .int .i64 k ∧ Hid (∀ x ∈ l.take k, (v == x) = false) ∧ Below w.heap.size w wr) (fun i _ => l.length - (intOf i).toNat)
  case atStart => exact ⟨0, Nat.zero_le _, rfl, by simp [Hid], Below.refl _ _⟩
  case round =>
    obtain ⟨k, hk, rfl, HN, hB⟩ := hrel
    by_cases hlt : k < l.length
    · obtain ⟨b, off, rfl, hb, c0⟩ := (HA.out.below hB).at1 hlt
      cases hw : (v == l[k])
      · have HW := Lib.hid hw
        go_wp2_with fail
        go_roundw
        case rel =>
          refine ⟨k + 1, by omega, by go_num, ?_, hB⟩
          intro x hx
          rw [List.take_succ_eq_append_getElem hlt, List.mem_append] at hx
          rcases hx with hx | hx
          · exact HN.out x hx
          · simp at hx; subst hx; exact HW.out
        case measure => simp [intOf]; omega
      · have HF := Lib.hid (findI_hit (p := fun x => v == x) hlt HN.out hw)
        go_wp2_with fail
        go_ret
        exact ⟨ret_int HF.out.symm, hB⟩
    · go_wp2
      go_ret
      exact ⟨ret_int (findI_miss (fun x hx => HN.out x (by rw [List.take_of_length_le (by omega)]; exact hx))).symm, hB⟩

theorem contains_any (A : Option Addr) (c : Nat) (l : List Int) (v : Int) (w : World) (hl : l.length ≤ 9223372036854775807) (hA : Sl encInt 1 w w.heap.size A l) :
    Calls Try.prog 68 #[.slice A l.length c, .int .i64 v] w fun e w' => e = .returned (.bool (l.any fun x => v == x)) ∧ Below w.heap.size w w' := by
  have hf := findI_any (fun x => v == x) l
  have HF := Lib.hid hf
  clear hf
  go_enter Try.func68, Try.ntmps68
  go_wp2_with (go_at_call 113; refine (index_any _ _ _ _ _ hl hA).mono ?_; rintro e w' ⟨rfl, hb⟩)
  go_ret
  exact ⟨ret_bool HF.out, hb⟩
end Go.Proofs.Ytokdleanpkkdpaa
namespace Go.Ed
theorem ownerN_hit {l : List Int} {p k : Nat} (hk : k < l.length) (hn : ∀ q ∈ l, 0 ≤ q) (h : l[k] = (p : Int) - 1) : ((ownerN l p : Nat) : Int) = (p : Int) - 1 := by
  have h0 := hn _ (List.getElem_mem hk)
  have hp : 0 < p := by omega
  have : inP l (p - 1) = true := inP_iff.2 ⟨k, hk, by omega⟩
  unfold ownerN
  rw [this]
  simp [hp]
  omega
theorem ownerN_miss {l : List Int} {p : Nat} (h : ∀ k (hk : k < l.length), l[k] ≠ (p : Int) - 1) : ownerN l p = p := by
  unfold ownerN
  by_cases hp : 0 < p
  · have : inP l (p - 1) = false := by
      cases hq : inP l (p - 1)
      · rfl
      · obtain ⟨k, hk, e⟩ := inP_iff.1 hq
        exact absurd (by omega) (h k hk)
    rw [this]; simp
  · simp [hp]
end Go.Ed
namespace Go.Proofs.Ytokdleanpkkdpaa
open Go.RowKit Go.Fh Go.Ed

set_option maxRecDepth 20000 in
set_option maxHeartbeats 2000000 in
theorem owner_any (t : TitD) (x : TA) (p : Nat) (w : World) (hp : p ≤ 1000) (hpl : t.pairs.length ≤ 1000000000) (hn : ∀ q ∈ t.pairs, 0 ≤ q) (hB : Sl encInt 1 w w.heap.size x.b t.pairs) :
    Calls Try.prog 125 #[.agg (titV t x), .int .i64 (p : Int)] w fun e w' => e = .returned (.int .i64 (ownerN t.pairs p : Nat)) ∧ Below w.heap.size w w' := by
  obtain ⟨w1, hw1⟩ : ∃ W, W = w.alloc (.cells (titV t x) 88) := ⟨_, rfl⟩
  have hb1 : Below w.heap.size w w1 := by rw [hw1]; exact (Below.refl _ _).alloc (Nat.le_refl _) _
  have kT : Blk w1 w.heap.size 88 (titV t x) := by rw [hw1]; exact Blk.new _ _ _
  obtain ⟨gT, hgT⟩ : ∃ g, g = w.heap.size := ⟨_, rfl⟩
  rw [← hgT] at kT
  have HB := Lib.hid hB
  have HB1 := Lib.hid hb1
  have HW1 := Lib.hid hw1
  have HGT := Lib.hid hgT
  have KT := Lib.hid kT
  have HN := Lib.hid hn
  have hgl : gT < w1.heap.size := kT.lt
  have f1 := IntWalk.i64_in ((p : Int) - 1) (by omega)
  have r1 := kT.cell 1
  simp [titV] at r1
  have S := Lib.hid ((HB.out.below hb1).mono hb1.size)
  clear hB hb1 hw1 hgT kT hn
  unfold titV at *
  go_enter Try.func125, Try.ntmps125
  go_upto_region 1 with fail
  rw [← HW1.out, ← HGT.out]
  go_wp2_with fail
  go_loopw [5] (fun i wr => ∃ k : Nat, k ≤ t.pairs.length ∧ i = .int .i64 k ∧ Hid (∀ j (hj : j < t.pairs.length), j < k → t.pairs[j] ≠ (p : Int) - 1) ∧ wr = w1) (fun i _ => t.pairs.length - (intOf i).toNat)
  case atStart => exact ⟨0, Nat.zero_le _, rfl, fun j _ hj => absurd hj (by omega), rfl⟩
  case round =>
    obtain ⟨k, hk, rfl, HM, rfl⟩ := hrel
    by_cases hlt : k < t.pairs.length
    · obtain ⟨pb, po, hpa, hpb, c0⟩ := S.out.at1 hlt
      rw [hpa]
      rw [hpa] at r1
      by_cases he : t.pairs[k] = (p : Int) - 1
      · have t1 : (t.pairs[k] == (p : Int) - 1) = true := by simpa using he
        have HF := Lib.hid (ownerN_hit hlt HN.out he)
        clear he
        go_wp2_with fail
        go_ret
        exact ⟨ret_int (by rw [HF.out]), HB1.out⟩
      · have t1 : (t.pairs[k] == (p : Int) - 1) = false := by simpa using he
        have HE := Lib.hid he
        clear he
        go_wp2_with fail
        go_roundw
        case rel =>
          refine ⟨k + 1, by omega, by go_num, ?_, trivial⟩
          intro j hj hjk
          by_cases e : j = k
          · subst e; exact HE.out
          · exact HM.out j hj (by omega)
        case measure => simp [intOf]; omega
    · have HF := Lib.hid (ownerN_miss (p := p) (l := t.pairs) fun j hj => HM.out j hj (by omega))
      go_wp2_with fail
      go_ret
      exact ⟨ret_int (by rw [HF.out]), HB1.out⟩

set_option maxHeartbeats 2000000 in
theorem sameInts_any (A B : Option Addr) (c d : Nat) (l m : List Int) (w : World) (hl : l.length ≤ 1000000000) (hm : m.length ≤ 1000000000) (hA : Sl encInt 1 w w.heap.size A l) (hB : Sl encInt 1 w w.heap.size B m) :
    Calls Try.prog 106 #[.slice A l.length c, .slice B m.length d] w fun e w' => e = .returned (.bool (decide (l = m))) ∧ Below w.heap.size w w' := by
  by_cases hlen : l.length = m.length
  · have hb0 : ((l.length : Int) != (m.length : Int)) = false := by simp [hlen]
    have HL := Lib.hid hlen
    clear hlen
    go_enter Try.func106, Try.ntmps106
    go_wp2
    go_loopw [5] (fun i wr => ∃ k : Nat, k ≤ l.length ∧ i = .int .i64 k ∧ Hid (l.take k = m.take k) ∧ Below w.heap.size w wr) (fun i _ => l.length - (intOf i).toNat)
    case atStart => exact ⟨0, Nat.zero_le _, rfl, by simp [Hid], Below.refl _ _⟩
    case round =>
      obtain ⟨k, hk, rfl, HK, hW⟩ := hrel
      by_cases hlt : k < l.length
      · have hlt2 : k < m.length := by have := HL.out; omega
        obtain ⟨b, off, rfl, hb, c0⟩ := (hA.below hW).at1 hlt
        obtain ⟨b2, off2, rfl, hb2, c2⟩ := (hB.below hW).at1 hlt2
        by_cases he : l[k] = m[k]
        · have hne : (l[k] != m[k]) = false := by simp [he]
          have HE := Lib.hid he
          clear he
          go_wp2
          go_quiet (fail)
          go_wp2
          go_roundw
          case rel => exact ⟨k + 1, by omega, by go_num, by unfold Hid; rw [List.take_succ_eq_append_getElem hlt, List.take_succ_eq_append_getElem hlt2, HK.out, HE.out], below_drewN hW _⟩
          case measure => simp [intOf]; omega
        · have hne : (l[k] != m[k]) = true := by simp [he]
          have hlm : l ≠ m := by intro e; subst e; exact he rfl
          have HE := Lib.hid hlm
          clear he hlm
          go_wp2
          go_quiet (fail)
          go_wp2
          go_ret
          exact ⟨ret_bool (by simp [HE.out]), below_drewN hW _⟩
      · go_wp2
        go_ret
        have e1 : l.take k = l := List.take_of_length_le (by omega)
        have e2 : m.take k = m := List.take_of_length_le (by have := HL.out; omega)
        exact ⟨ret_bool (by have := HK.out; rw [e1, e2] at this; simp [this]), hW⟩
  · have hb0 : ((l.length : Int) != (m.length : Int)) = true := by simp; omega
    have hlm : l ≠ m := by intro e; subst e; exact hlen rfl
    have HE := Lib.hid hlm
    clear hlen hlm
    go_enter Try.func106, Try.ntmps106
    go_wp2
    go_ret
    exact ⟨ret_bool (by simp [HE.out]), Below.refl _ _⟩
end Go.Proofs.Ytokdleanpkkdpaa
namespace Go.Proofs.Ytokdleanpkkdpaa
open Go.RowKit Go.Fh Go.Ed

set_option maxRecDepth 20000 in
set_option maxHeartbeats 2000000 in
theorem rplates_any (t : TitD) (x : TA) (w : World) (hc : t.colours.length ≤ 1000) (hcc : ∀ c ∈ t.colours, 1 ≤ c ∧ c ≤ 4) (hpl : t.pairs.length ≤ 1000000000) (hg : GoodP t.colours.length t.pairs) (hn : ∀ q ∈ t.pairs, 0 ≤ q) (hA : Sl encInt 1 w w.heap.size x.a t.colours) (hB : Sl encInt 1 w w.heap.size x.b t.pairs) :
    Calls Try.prog 98 #[.agg (titV t x)] w fun e w' => e = .returned (.int .i64 (allB t)) ∧ Below w.heap.size w w' := by
  obtain ⟨w1, hw1⟩ : ∃ W, W = w.alloc (.cells (titV t x) 88) := ⟨_, rfl⟩
  have hb1 : Below w.heap.size w w1 := by rw [hw1]; exact (Below.refl _ _).alloc (Nat.le_refl _) _
  have kT : Blk w1 w.heap.size 88 (titV t x) := by rw [hw1]; exact Blk.new _ _ _
  obtain ⟨gT, hgT⟩ : ∃ g, g = w.heap.size := ⟨_, rfl⟩
  rw [← hgT] at kT
  have HA := Lib.hid hA
  have HB1 := Lib.hid hb1
  have HW1 := Lib.hid hw1
  have HGT := Lib.hid hgT
  have KT := Lib.hid kT
  have HN := Lib.hid hn
  have HAL := Lib.hid (allB_owners hg)
  have hgl : gT < w1.heap.size := kT.lt
  have HO := Lib.hid (fun p W (hp : p ≤ 1000) (h : Below w.heap.size w W) => owner_any t x p W hp hpl hn ((hB.below h).mono h.size))
  have HCC := Lib.hid hcc
  obtain ⟨f, hf⟩ : ∃ f : Nat → Int, f = fun i => if ownerN t.pairs i = i then t.colours.getD i 0 else 0 := ⟨_, rfl⟩
  rw [← hf] at HAL
  have HF := Lib.hid hf
  have hbd : ∀ k, k ≤ t.colours.length → 0 ≤ sumN f k ∧ sumN f k ≤ 4 * k := by
    intro k hk
    refine sumN_bd fun i hi => ?_
    rw [hf]
    have e : t.colours.getD i 0 = t.colours[i]'(by omega) := by simp [show i < t.colours.length by omega]
    have := hcc _ (List.getElem_mem (show i < t.colours.length by omega))
    dsimp only
    rw [e]
    split <;> omega
  have HBD := Lib.hid hbd
  clear hA hB hb1 hw1 hgT kT hn hcc hf hbd hg
  unfold titV at *
  go_enter Try.func98, Try.ntmps98
  go_upto_region 1 with fail
  rw [← HW1.out, ← HGT.out]
  go_wp2_with fail
  go_loopw [3, 4] (fun n i wr => ∃ k : Nat, k ≤ t.colours.length ∧ i = .int .i64 k ∧ n = .int .i64 (sumN f k) ∧ Below w1.heap.size w1 wr) (fun _ i _ => t.colours.length - (intOf i).toNat)
  case atStart => exact ⟨0, Nat.zero_le _, rfl, rfl, Below.refl _ _⟩
  case round =>
    obtain ⟨k, hk, rfl, rfl, hB⟩ := hrel
    have hBw := HB1.out.trans (hB.mono HB1.out.size)
    have HBW := Lib.hid hBw
    have HBR := Lib.hid hB
    have kr := KT.out.below hB hgl
    have r0 := kr.cell 0
    have r1 := kr.cell 1
    have r2 := kr.cell 2
    have r3 := kr.cell 3
    have r4 := kr.cell 4
    have r5 := kr.cell 5
    have r6 := kr.cell 6
    have r7 := kr.cell 7
    simp at r0 r1 r2 r3 r4 r5 r6 r7
    clear kr hBw hB
    by_cases hlt : k < t.colours.length
    · have hown := HO.out k wr (by omega) HBW.out
      have HOW := Lib.hid hown
      have hs : sumN f (k + 1) = sumN f k + f k := rfl
      have hb0 := HBD.out k hk
      have hb9 := HBD.out (k + 1) hlt
      have e : t.colours.getD k 0 = t.colours[k] := by simp [hlt]
      have hck := HCC.out _ (List.getElem_mem hlt)
      by_cases ho : ownerN t.pairs k = k
      · have hfk : f k = t.colours[k] := by rw [HF.out]; dsimp only; rw [if_pos ho, e]
        have HS := Lib.hid (hs.trans (by rw [hfk]))
        have f1 := IntWalk.i64_in (sumN f k + t.colours[k]) (by omega)
        have t1 : (((ownerN t.pairs k : Nat) : Int) == (k : Int)) = true := by simp [ho]
        clear hown hs hb9 e ho hfk
        go_wp2_with fail
        refine HOW.out.mono ?_
        rintro e' w2 ⟨rfl, hb2⟩
        have H2 := Lib.hid (HBR.out.trans (hb2.mono HBR.out.size))
        have hz : w1.heap.size ≤ wr.heap.size := HBR.out.size
        have s0 := (hb2.cell (p := ⟨gT, 0, none⟩) (by show gT < _; omega)).trans r0
        obtain ⟨ab, ao, hxa, hab, g1⟩ := (HA.out.below (HB1.out.trans (H2.out.mono HB1.out.size))).at1 hlt
        rw [hxa] at s0
        clear hb2 r0 r1 r2 r3 r4 r5 r6 r7 hxa
        go_wp2_with fail
        go_roundw
        case rel => exact ⟨k + 1, by omega, by go_num, int_eq (by rw [HS.out]), H2.out⟩
        case measure => simp [intOf]; omega
      · have hfk : f k = 0 := by rw [HF.out]; dsimp only; rw [if_neg ho]
        have HS := Lib.hid (hs.trans (by rw [hfk]))
        have t1 : (((ownerN t.pairs k : Nat) : Int) == (k : Int)) = false := by rw [beq_eq_false_iff_ne]; omega
        clear hown hs hb9 e ho hfk
        go_wp2_with fail
        refine HOW.out.mono ?_
        rintro e' w2 ⟨rfl, hb2⟩
        have H2 := Lib.hid (HBR.out.trans (hb2.mono HBR.out.size))
        clear hb2 r0 r1 r2 r3 r4 r5 r6 r7
        go_wp2_with fail
        go_roundw
        case rel => exact ⟨k + 1, by omega, by go_num, int_eq (by rw [HS.out]; omega), H2.out⟩
        case measure => simp [intOf]; omega
    · obtain rfl : k = t.colours.length := by omega
      go_wp2_with fail
      go_ret
      exact ⟨ret_int (by rw [HAL.out]), HBW.out⟩
end Go.Proofs.Ytokdleanpkkdpaa
namespace Go.Ed
/-- where an edition's lists lie -/
structure EA where
  z : Option Go.Addr
  cz : Nat
  v : Option Go.Addr
  cv : Nat
def edV (e : EdD) (y : EA) : Array Go.Value := #[.slice y.z e.zones.length y.cz, .int .i64 e.copies, .int .i64 e.ready, .int .i64 e.due, .slice y.v e.variants.length y.cv]
end Go.Ed
namespace Go.Proofs.Ytokdleanpkkdpaa
open Go.RowKit Go.Fh Go.Ed

set_option maxRecDepth 20000 in
set_option maxHeartbeats 4000000 in
theorem rchange_any (t : TitD) (x : TA) (e1 e2 : EdD) (y1 y2 : EA) (w : World) (hc : t.colours.length ≤ 1000) (hcc : ∀ c ∈ t.colours, 1 ≤ c ∧ c ≤ 4) (hpl : t.pairs.length ≤ 1000000000) (hg : GoodP t.colours.length t.pairs) (hn : ∀ q ∈ t.pairs, 0 ≤ q)
    (hv1 : e1.variants.length = t.colours.length) (hv2 : e2.variants.length = t.colours.length) (hA : Sl encInt 1 w w.heap.size x.a t.colours) (hB : Sl encInt 1 w w.heap.size x.b t.pairs) (hV1 : Sl encInt 1 w w.heap.size y1.v e1.variants) (hV2 : Sl encInt 1 w w.heap.size y2.v e2.variants) :
    Calls Try.prog 97 #[.agg (titV t x), .agg (edV e1 y1), .agg (edV e2 y2)] w fun e w' => e = .returned (.int .i64 (changeB t e1 e2)) ∧ Below w.heap.size w w' := by
  obtain ⟨w1, hw1⟩ : ∃ W, W = ((w.alloc (.cells (titV t x) 88)).alloc (.cells (edV e1 y1) 98)).alloc (.cells (edV e2 y2) 98) := ⟨_, rfl⟩
  have hb1 : Below w.heap.size w w1 := by rw [hw1]; exact (((Below.refl _ _).alloc (Nat.le_refl _) _).alloc (by simp) _).alloc (by simp; omega) _
  obtain ⟨gT, hgT⟩ : ∃ g, g = w.heap.size := ⟨_, rfl⟩
  obtain ⟨gA, hgA⟩ : ∃ g, g = w.heap.size + 1 := ⟨_, rfl⟩
  obtain ⟨gB, hgB⟩ : ∃ g, g = w.heap.size + 1 + 1 := ⟨_, rfl⟩
  have kT : Blk w1 gT 88 (titV t x) := by rw [hw1, hgT]; exact ((Blk.new _ _ _).alloc _).alloc _
  have kA : Blk w1 gA 98 (edV e1 y1) := by
    rw [hw1, hgA]
    have h0 := Blk.new (w.alloc (.cells (titV t x) 88)) 98 (edV e1 y1)
    rw [World.size_alloc] at h0
    exact h0.alloc _
  have kB : Blk w1 gB 98 (edV e2 y2) := by
    rw [hw1, hgB]
    have h0 := Blk.new ((w.alloc (.cells (titV t x) 88)).alloc (.cells (edV e1 y1) 98)) 98 (edV e2 y2)
    rw [World.size_alloc, World.size_alloc] at h0
    exact h0
  have hmk := run_make_row' (P := Try.prog) 193 4 (.bool false) 1 Try.underlying193 infoBool rfl .i64 .i64 t.colours.length (by omega) (by omega) w1
  obtain ⟨w2, hw2⟩ : ∃ W, W = w1.alloc (.cells (madeCells #[.bool false] t.colours.length) 4) := ⟨_, rfl⟩
  rw [← hw2] at hmk
  have hr0 : w2.rowIs w1.heap.size 4 t.colours.length (fun _ => .bool false) := by rw [hw2]; exact World.rowIs_made w1 (.bool false) t.colours.length 4
  have hb12 : Below w1.heap.size w1 w2 := by rw [hw2]; exact (Below.refl _ _).alloc (Nat.le_refl _) _
  obtain ⟨gK, hgK⟩ : ∃ g, g = w1.heap.size := ⟨_, rfl⟩
  rw [← hgK] at hmk hr0
  obtain ⟨h, hh⟩ : ∃ h : Nat → Bool, h = fun p => decide (e1.variants.getD p (-1) ≠ e2.variants.getD p (-1)) := ⟨_, rfl⟩
  have hres : changeB t e1 e2 = sumN (fun i => if marksN t.pairs h t.colours.length i then t.colours.getD i 0 else 0) t.colours.length := by rw [hh]; exact platesB_marks hg _
  have HA := Lib.hid hA
  have HV1 := Lib.hid hV1
  have HV2 := Lib.hid hV2
  have HB1 := Lib.hid hb1
  have HW1 := Lib.hid hw1
  have HGT := Lib.hid hgT
  have HGA := Lib.hid hgA
  have HGB := Lib.hid hgB
  have HGK := Lib.hid hgK
  have KT := Lib.hid kT
  have KA := Lib.hid kA
  have KB := Lib.hid kB
  have HR0 := Lib.hid hr0
  have HB12 := Lib.hid hb12
  have HRES := Lib.hid hres
  have HH := Lib.hid hh
  have HCC := Lib.hid hcc
  have HL := Lib.hid (And.intro hv1 hv2)
  have hlT : gT < w1.heap.size := kT.lt
  have hlA : gA < w1.heap.size := kA.lt
  have hlB : gB < w1.heap.size := kB.lt
  have HO := Lib.hid (fun p W (hp : p ≤ 1000) (h : Below w.heap.size w W) => owner_any t x p W hp hpl hn ((hB.below h).mono h.size))
  have r0 := kT.cell 0
  simp [titV] at r0
  clear hA hB hV1 hV2 hb1 hw1 hw2 hgT hgA hgB hgK kT kA kB hr0 hb12 hres hh hcc hn hg hv1 hv2
  unfold titV edV at *
  go_enter Try.func97, Try.ntmps97
  go_upto_region 1 with fail
  rw [← HW1.out, ← HGB.out, ← HGA.out, ← HGT.out]
  go_upto_region 2 with fail
  go_wp2_with fail
  clear hmk r0
  go_loopw [8] (fun i wr => ∃ k : Nat, k ≤ t.colours.length ∧ i = .int .i64 k ∧ Hid (wr.rowIs gK 4 t.colours.length (fun j => .bool (marksN t.pairs h k j))) ∧ Below w1.heap.size w1 wr) (fun i _ => t.colours.length - (intOf i).toNat)
  case atStart => exact ⟨0, Nat.zero_le _, rfl, by simpa [Hid, marksN] using HR0.out, HB12.out⟩
  case round =>
    obtain ⟨k, hk, rfl, HR, hB⟩ := hrel
    have HBW := Lib.hid (HB1.out.trans (hB.mono HB1.out.size))
    have HBR := Lib.hid hB
    have kr := KT.out.below hB hlT
    have ka := KA.out.below hB hlA
    have kb := KB.out.below hB hlB
    have r0 := kr.cell 0
    have r1 := kr.cell 1
    have r2 := kr.cell 2
    have r3 := kr.cell 3
    have r4 := kr.cell 4
    have r5 := kr.cell 5
    have r6 := kr.cell 6
    have r7 := kr.cell 7
    have a4 := ka.cell 4
    have b4 := kb.cell 4
    simp at r0 r1 r2 r3 r4 r5 r6 r7 a4 b4
    clear kr ka kb hB
    by_cases hlt : k < t.colours.length
    · have hv1 : k < e1.variants.length := by have := HL.out.1; omega
      have hv2 : k < e2.variants.length := by have := HL.out.2; omega
      obtain ⟨vb1, vo1, hq1, hz1, g1⟩ := (HV1.out.below HBW.out).at1 hv1
      obtain ⟨vb2, vo2, hq2, hz2, g2⟩ := (HV2.out.below HBW.out).at1 hv2
      have hhk : h k = decide (e1.variants[k] ≠ e2.variants[k]) := by rw [HH.out]; simp [hv1, hv2]
      rw [hq1] at a4 ⊢
      rw [hq2] at b4 ⊢
      obtain ⟨u, hu⟩ : ∃ u, u = e1.variants[k] := ⟨_, rfl⟩
      obtain ⟨v, hv⟩ : ∃ v, v = e2.variants[k] := ⟨_, rfl⟩
      rw [← hu] at g1 hhk
      rw [← hv] at g2 hhk
      have hms := fun i => marksN_succ t.pairs h k i
      have HMS := Lib.hid hms
      have HHK := Lib.hid hhk
      have HQ1 := Lib.hid hq1
      have HQ2 := Lib.hid hq2
      clear hu hv hq1 hq2 hhk hms
      by_cases he : u = v
      · have t1 : (u != v) = false := by simp [he]
        have hk0 : h k = false := by rw [HHK.out]; simp [he]
        have HK0 := Lib.hid hk0
        clear he hk0
        go_wp2_with fail
        go_quiet (fail)
        go_wp2_with fail
        go_roundw
        case rel =>
          refine ⟨k + 1, by omega, by go_num, ?_, below_drewN HBR.out _⟩
          refine World.rowIs.congr (World.rowIs.of_block HR.out rfl) fun j hj => ?_
          rw [HMS.out, HK0.out]; simp
        case measure => simp [intOf]; omega
      · have t1 : (u != v) = true := by simp [he]
        have hk1 : h k = true := by rw [HHK.out]; simp [he]
        have HK1 := Lib.hid hk1
        have hol : ownerN t.pairs k < t.colours.length := owner_lt hlt
        clear he hk1
        go_wp2_with fail
        go_quiet (fail)
        have HOW := Lib.hid (HO.out k (wr.drewN nq) (by omega) (below_drewN HBW.out _))
        go_wp2_with fail
        refine HOW.out.mono ?_
        rintro e' w5 ⟨rfl, hb5⟩
        have hr5 : w5.rowIs gK 4 t.colours.length (fun j => .bool (marksN t.pairs h k j)) := World.rowIs.of_block HR.out (hb5.block gK HR.out.lt)
        have z1 := hr5.frozen (ownerN t.pairs k)
        have z2 := hr5.cell hol
        have HR5 := Lib.hid hr5
        have H5 := Lib.hid ((below_drewN HBR.out nq).trans (hb5.mono (by exact HBR.out.size)))
        clear hb5 hr5
        go_wp2_with fail
        go_roundw
        case rel =>
          refine ⟨k + 1, by omega, by go_num, ?_, H5.out.setCell (by rw [HGK.out]; exact Nat.le_refl _) _⟩
          refine World.rowIs.congr (HR5.out.set (ownerN t.pairs k) (.bool true)) fun j hj => ?_
          rw [HMS.out, HK1.out]
          by_cases e : j = ownerN t.pairs k
          · subst e; simp
          · simp [e, Ne.symm e]
        case measure => simp [intOf]; omega
    · obtain rfl : k = t.colours.length := by omega
      obtain ⟨f, hf⟩ : ∃ f : Nat → Int, f = fun i => if marksN t.pairs h t.colours.length i then t.colours.getD i 0 else 0 := ⟨_, rfl⟩
      have hres := HRES.out
      rw [← hf] at hres
      have hbd : ∀ k, k ≤ t.colours.length → 0 ≤ sumN f k ∧ sumN f k ≤ 4 * k := by
        intro k hk
        refine sumN_bd fun i hi => ?_
        rw [hf]
        have e : t.colours.getD i 0 = t.colours[i]'(by omega) := by simp [show i < t.colours.length by omega]
        have := HCC.out _ (List.getElem_mem (show i < t.colours.length by omega))
        dsimp only
        rw [e]
        split <;> omega
      have HF := Lib.hid hf
      have HRS := Lib.hid hres
      have HBD := Lib.hid hbd
      obtain ⟨wq, hwq⟩ : ∃ W, W = wr := ⟨_, rfl⟩
      rw [← hwq] at HR HBW HBR r0 ⊢
      clear hf hres hbd hwq r1 r2 r3 r4 r5 r6 r7 a4 b4
      go_wp2_with fail
      go_loopw [9, 10] (fun n i wr => ∃ k : Nat, k ≤ t.colours.length ∧ i = .int .i64 k ∧ n = .int .i64 (sumN f k) ∧ Below wq.heap.size wq wr) (fun _ i _ => t.colours.length - (intOf i).toNat)
      case atStart => exact ⟨0, Nat.zero_le _, rfl, rfl, Below.refl _ _⟩
      case round =>
        obtain ⟨k, hk, rfl, rfl, hB⟩ := hrel
        have hlq : gT < wq.heap.size := by have := HBR.out.size; omega
        have s0 := (hB.cell (p := ⟨gT, 0, none⟩) hlq).trans r0
        by_cases hlt : k < t.colours.length
        · have hrow : wr.rowIs gK 4 t.colours.length (fun j => .bool (marksN t.pairs h t.colours.length j)) := World.rowIs.of_block HR.out (hB.block gK HR.out.lt)
          have d0 := hrow.cell hlt
          have hs : sumN f (k + 1) = sumN f k + f k := rfl
          have hb0 := HBD.out k hk
          have hck := HCC.out _ (List.getElem_mem hlt)
          have e : t.colours.getD k 0 = t.colours[k] := by simp [hlt]
          obtain ⟨ab, ao, hxa, hab, g1⟩ := (HA.out.below (HBW.out.trans (hB.mono HBW.out.size))).at1 hlt
          rw [hxa] at s0
          clear hxa
          cases hm : marksN t.pairs h t.colours.length k
          · rw [hm] at d0
            have hfk : f k = 0 := by rw [HF.out]; dsimp only; rw [hm]; simp
            have HS := Lib.hid (hs.trans (by rw [hfk]))
            clear hs e hfk hrow
            go_wp2_with fail
            go_roundw
            case rel => exact ⟨k + 1, by omega, by go_num, int_eq (by rw [HS.out]; omega), hB⟩
            case measure => simp [intOf]; omega
          · rw [hm] at d0
            have hfk : f k = t.colours[k] := by rw [HF.out]; dsimp only; rw [hm, e]; simp
            have HS := Lib.hid (hs.trans (by rw [hfk]))
            have f1 := IntWalk.i64_in (sumN f k + t.colours[k]) (by omega)
            clear hs e hfk hrow
            go_wp2_with fail
            go_roundw
            case rel => exact ⟨k + 1, by omega, by go_num, int_eq (by rw [HS.out]), hB⟩
            case measure => simp [intOf]; omega
        · obtain rfl : k = t.colours.length := by omega
          have hbb := HBW.out.trans (hB.mono HBW.out.size)
          go_wp2_with fail
          go_ret
          exact ⟨ret_int (by rw [HRS.out]), hbb⟩
end Go.Proofs.Ytokdleanpkkdpaa
namespace Go.Proofs.Ytokdleanpkkdpaa
open Go.RowKit Go.Fh Go.Ed

theorem badColourC_any (v : Int) (w : World) :
    Calls Try.prog 90 #[.int .i64 v] w fun e w' => e = .returned (.bool (!inB v 1 4)) ∧ w = w' := by
  cases h : inB v 1 4
  all_goals
    go_enter Try.func90, Try.ntmps90
    go_wp2_with (go_at_call 65; refine (within_any _ _ _ _).mono ?_; rintro e w' ⟨rfl, rfl⟩)
    go_ret
    exact ⟨ret_bool (by simp [h]), rfl⟩

set_option maxHeartbeats 1000000 in
theorem badColourI_any (A : Option Addr) (c : Nat) (l : List Int) (w : World) (hl : l.length ≤ 9223372036854775807) (hA : Sl encInt 1 w w.heap.size A l) :
    Calls Try.prog 122 #[.slice A l.length c, .func (.func 90) #[] #[]] w fun e w' => e = .returned (.int .i64 (findI (fun v => !inB v 1 4) l)) ∧ Below w.heap.size w w' := by
  have HA := Lib.hid hA
  clear hA
  go_enter Try.func122, Try.ntmps122
  go_wp2
  go_loopw [8] (fun i wr => ∃ k : Nat, k ≤ l.length ∧ i = .int .i64 k ∧ Hid (∀ x ∈ l.take k, (!inB x 1 4) = false) ∧ Below w.heap.size w wr) (fun i _ => l.length - (intOf i).toNat)
  case atStart => exact ⟨0, Nat.zero_le _, rfl, by simp [Hid], Below.refl _ _⟩
  case round =>
    obtain ⟨k, hk, rfl, HN, hB⟩ := hrel
    by_cases hlt : k < l.length
    · obtain ⟨b, off, rfl, hb, c0⟩ := (HA.out.below hB).at1 hlt
      cases hw : (!inB l[k] 1 4)
      · have HW := Lib.hid hw
        go_wp2_with (go_at_call 90; refine (badColourC_any _ _).mono ?_; rintro e w' ⟨rfl, rfl⟩)
        go_roundw
        case rel =>
          refine ⟨k + 1, by omega, by go_num, ?_, hB⟩
          intro x hx
          rw [List.take_succ_eq_append_getElem hlt, List.mem_append] at hx
          rcases hx with hx | hx
          · exact HN.out x hx
          · simp at hx; subst hx; exact HW.out
        case measure => simp [intOf]; omega
      · have HF := Lib.hid (findI_hit (p := fun v => !inB v 1 4) hlt HN.out hw)
        go_wp2_with (go_at_call 90; refine (badColourC_any _ _).mono ?_; rintro e w' ⟨rfl, rfl⟩)
        go_ret
        exact ⟨ret_int HF.out.symm, hB⟩
    · go_wp2
      go_ret
      exact ⟨ret_int (findI_miss (fun x hx => HN.out x (by rw [List.take_of_length_le (by omega)]; exact hx))).symm, hB⟩

theorem badColour_any (A : Option Addr) (c : Nat) (l : List Int) (w : World) (hl : l.length ≤ 9223372036854775807) (hA : Sl encInt 1 w w.heap.size A l) :
    Calls Try.prog 84 #[.slice A l.length c, .func (.func 90) #[] #[]] w fun e w' => e = .returned (.bool (l.any fun v => !inB v 1 4)) ∧ Below w.heap.size w w' := by
  have hf := findI_any (fun v => !inB v 1 4) l
  have HF := Lib.hid hf
  clear hf
  go_enter Try.func84, Try.ntmps84
  go_wp2_with (go_at_call 122; refine (badColourI_any _ _ _ _ hl hA).mono ?_; rintro e w' ⟨rfl, hb⟩)
  go_ret
  exact ⟨ret_bool HF.out, hb⟩

theorem badVariantC_any (v : Int) (w : World) :
    Calls Try.prog 92 #[.int .i64 v] w fun e w' => e = .returned (.bool (!inB v 0 9)) ∧ w = w' := by
  cases h : inB v 0 9
  all_goals
    go_enter Try.func92, Try.ntmps92
    go_wp2_with (go_at_call 65; refine (within_any _ _ _ _).mono ?_; rintro e w' ⟨rfl, rfl⟩)
    go_ret
    exact ⟨ret_bool (by simp [h]), rfl⟩

set_option maxHeartbeats 1000000 in
theorem badVariantI_any (A : Option Addr) (c : Nat) (l : List Int) (w : World) (hl : l.length ≤ 9223372036854775807) (hA : Sl encInt 1 w w.heap.size A l) :
    Calls Try.prog 122 #[.slice A l.length c, .func (.func 92) #[] #[]] w fun e w' => e = .returned (.int .i64 (findI (fun v => !inB v 0 9) l)) ∧ Below w.heap.size w w' := by
  have HA := Lib.hid hA
  clear hA
  go_enter Try.func122, Try.ntmps122
  go_wp2
  go_loopw [8] (fun i wr => ∃ k : Nat, k ≤ l.length ∧ i = .int .i64 k ∧ Hid (∀ x ∈ l.take k, (!inB x 0 9) = false) ∧ Below w.heap.size w wr) (fun i _ => l.length - (intOf i).toNat)
  case atStart => exact ⟨0, Nat.zero_le _, rfl, by simp [Hid], Below.refl _ _⟩
  case round =>
    obtain ⟨k, hk, rfl, HN, hB⟩ := hrel
    by_cases hlt : k < l.length
    · obtain ⟨b, off, rfl, hb, c0⟩ := (HA.out.below hB).at1 hlt
      cases hw : (!inB l[k] 0 9)
      · have HW := Lib.hid hw
        go_wp2_with (go_at_call 92; refine (badVariantC_any _ _).mono ?_; rintro e w' ⟨rfl, rfl⟩)
        go_roundw
        case rel =>
          refine ⟨k + 1, by omega, by go_num, ?_, hB⟩
          intro x hx
          rw [List.take_succ_eq_append_getElem hlt, List.mem_append] at hx
          rcases hx with hx | hx
          · exact HN.out x hx
          · simp at hx; subst hx; exact HW.out
        case measure => simp [intOf]; omega
      · have HF := Lib.hid (findI_hit (p := fun v => !inB v 0 9) hlt HN.out hw)
        go_wp2_with (go_at_call 92; refine (badVariantC_any _ _).mono ?_; rintro e w' ⟨rfl, rfl⟩)
        go_ret
        exact ⟨ret_int HF.out.symm, hB⟩
    · go_wp2
      go_ret
      exact ⟨ret_int (findI_miss (fun x hx => HN.out x (by rw [List.take_of_length_le (by omega)]; exact hx))).symm, hB⟩

theorem badVariant_any (A : Option Addr) (c : Nat) (l : List Int) (w : World) (hl : l.length ≤ 9223372036854775807) (hA : Sl encInt 1 w w.heap.size A l) :
    Calls Try.prog 84 #[.slice A l.length c, .func (.func 92) #[] #[]] w fun e w' => e = .returned (.bool (l.any fun v => !inB v 0 9)) ∧ Below w.heap.size w w' := by
  have hf := findI_any (fun v => !inB v 0 9) l
  have HF := Lib.hid hf
  clear hf
  go_enter Try.func84, Try.ntmps84
  go_wp2_with (go_at_call 122; refine (badVariantI_any _ _ _ _ hl hA).mono ?_; rintro e w' ⟨rfl, hb⟩)
  go_ret
  exact ⟨ret_bool HF.out, hb⟩
end Go.Proofs.Ytokdleanpkkdpaa
namespace Go.Proofs.Ytokdleanpkkdpaa
open Go.RowKit Go.Fh Go.Ed
abbrev EdM := EdD × EA
def encEd (e : EdM) : List Value := [.slice e.2.z e.1.zones.length e.2.cz, .int .i64 e.1.copies, .int .i64 e.1.ready, .int .i64 e.1.due, .slice e.2.v e.1.variants.length e.2.cv]
/-- the cells of a title at work -/
def workC (t : TitD) (x : TA) (v c : Value) (all : Int) : Array Value := #[.slice x.a t.colours.length x.ca, .slice x.b t.pairs.length x.cb, .slice x.z t.zones.length x.cz, .slice x.r t.ready.length x.cr, .int .i64 t.start, .int .i64 t.rate, .int .i64 t.stop, .int .i64 t.hang, v, c, .int .i64 all]
/-- a title at work lies in a block -/
def workV (t : TitD) (x : TA) (E : Option Addr) (n cE : Nat) (C : Option Addr) (cC : Nat) (all : Int) : Array Value := #[.slice x.a t.colours.length x.ca, .slice x.b t.pairs.length x.cb, .slice x.z t.zones.length x.cz, .slice x.r t.ready.length x.cr, .int .i64 t.start, .int .i64 t.rate, .int .i64 t.stop, .int .i64 t.hang, .slice E n cE, .slice C n cC, .int .i64 all]
theorem workV_eq (t : TitD) (x : TA) (E : Option Addr) (n cE : Nat) (C : Option Addr) (cC : Nat) (all : Int) : workV t x E n cE C cC all = workC t x (.slice E n cE) (.slice C n cC) all := rfl
theorem Sl.atEd {B : Nat} {w : World} {A : Option Addr} {l : List EdM} (h : Sl encEd 5 w B A l) {k : Nat} (hk : k < l.length) :
    ∃ b off, A = some ⟨b, off, none⟩ ∧ b < B ∧ w.cell? ⟨b, off + k * 5, none⟩ = some (.slice l[k].2.z l[k].1.zones.length l[k].2.cz) ∧ w.cell? ⟨b, off + k * 5 + 1, none⟩ = some (.int .i64 l[k].1.copies) ∧ w.cell? ⟨b, off + k * 5 + 2, none⟩ = some (.int .i64 l[k].1.ready) ∧ w.cell? ⟨b, off + k * 5 + 3, none⟩ = some (.int .i64 l[k].1.due) ∧ w.cell? ⟨b, off + k * 5 + 4, none⟩ = some (.slice l[k].2.v l[k].1.variants.length l[k].2.cv) := by
  obtain ⟨b, off, hA, hb, hc⟩ := h.at_ hk
  exact ⟨b, off, hA, hb, hc 0 _ rfl, hc 1 _ rfl, hc 2 _ rfl, hc 3 _ rfl, hc 4 _ rfl⟩

set_option maxRecDepth 20000 in
set_option maxHeartbeats 2000000 in
theorem late_any (t : TitD) (x : TA) (es : List EdM) (E C : Option Addr) (cE cC g : Nat) (all : Int) (e : Nat) (p bg fn : Int) (w : World) (hn : es.length ≤ 1000) (he : e < es.length)
    (hk : Blk w g 129 (workV t x E es.length cE C cC all)) (hE : Sl encEd 5 w w.heap.size E es) :
    Calls Try.prog 80 #[.pointer (some ⟨g, 0, none⟩), .agg #[.int .i64 (e : Int), .int .i64 p, .int .i64 bg, .int .i64 fn]] w fun r w' => r = .returned (.bool (decide (es[e].1.due < fn))) ∧ Below w.heap.size w w' := by
  have hb0 : Below w.heap.size w (w.alloc (.cells #[.int .i64 (e : Int), .int .i64 p, .int .i64 bg, .int .i64 fn] 63)) := (Below.refl _ _).alloc (Nat.le_refl _) _
  have hg : g < w.heap.size := hk.lt
  have k8 := hk.cell 8
  simp [workV] at k8
  obtain ⟨b, off, rfl, hbl, d0, d1, d2, d3, d4⟩ := Sl.atEd hE he
  have HB0 := Lib.hid hb0
  clear hb0 hk hE d0 d1 d2 d4
  generalize es[e].1.due = due at *
  go_enter Try.func80, Try.ntmps80
  go_wp2_with fail
  go_quiet (fail)
  go_wp2_with fail
  go_ret
  exact ⟨rfl, below_drewN HB0.out _⟩
end Go.Proofs.Ytokdleanpkkdpaa
