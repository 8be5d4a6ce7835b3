/- Contract of paired; conditions: lengths that a title has. -/
import Derived.Test.YtokdleanpkkdpaaA1
import Derived.Deep.OwnRows
import Derived.Deep.RegionHeld3
import Derived.Deep.DeepCutAuto
import Derived.Deep.DeepMust
set_option linter.unusedSimpArgs false
set_option linter.unusedVariables false
namespace Go.Ed
/-- where a title's lists lie -/
structure TA where
  a : Option Go.Addr
  ca : Nat
  b : Option Go.Addr
  cb : Nat
  z : Option Go.Addr
  cz : Nat
  r : Option Go.Addr
  cr : Nat
def titV (t : TitD) (x : TA) : Array Go.Value := #[.slice x.a t.colours.length x.ca, .slice x.b t.pairs.length x.cb, .slice x.z t.zones.length x.cz, .slice x.r t.ready.length x.cr, .int .i64 t.start, .int .i64 t.rate, .int .i64 t.stop, .int .i64 t.hang]
/-- the pages that the first k pairs take -/
def takenN (l : List Int) (k : Nat) (i : Nat) : Bool := (l.take k).any fun q => q == (i : Int) || q + 1 == (i : Int)
theorem takenN_succ {l : List Int} {k : Nat} (hk : k < l.length) (i : Nat) : takenN l (k + 1) i = (takenN l k i || (l[k] == (i : Int) || l[k] + 1 == (i : Int))) := by
  unfold takenN
  rw [List.take_succ_eq_append_getElem hk, List.any_append]
  simp
theorem pairAt_taken {c l : List Int} {k : Nat} (hk : k < l.length) : pairAt c l k = (inB l[k] 0 ((c.length : Int) - 2) && (!(takenN l k l[k].toNat) && (!(takenN l k (l[k].toNat + 1)) && (c.getD l[k].toNat 0 == c.getD (l[k].toNat + 1) 0)))) := by
  unfold pairAt
  have e : l.getD k 0 = l[k] := by simp [hk]
  rw [e]
  cases h : inB l[k] 0 ((c.length : Int) - 2)
  · simp
  · have h0 := (inB_iff.1 h).1
    have : ((l.take k).any fun q => q == l[k] || q + 1 == l[k] || q == l[k] + 1) = (takenN l k l[k].toNat || takenN l k (l[k].toNat + 1)) := by
      unfold takenN
      rw [Bool.eq_iff_iff]
      simp only [Bool.or_eq_true, List.any_eq_true, beq_iff_eq]
      constructor
      · rintro ⟨q, hq, (h1 | h1) | h1⟩
        · left; exact ⟨q, hq, .inl (by omega)⟩
        · left; exact ⟨q, hq, .inr (by omega)⟩
        · right; exact ⟨q, hq, .inl (by omega)⟩
      · rintro (⟨q, hq, h1 | h1⟩ | ⟨q, hq, h1 | h1⟩)
        · exact ⟨q, hq, .inl (.inl (by omega))⟩
        · exact ⟨q, hq, .inl (.inr (by omega))⟩
        · exact ⟨q, hq, .inr (by omega)⟩
        · exact ⟨q, hq, .inl (.inl (by omega))⟩
    rw [this]
    cases takenN l k l[k].toNat <;> cases takenN l k (l[k].toNat + 1) <;> simp
theorem pairedB_stop {t : TitD} {k : Nat} (hk : k < t.pairs.length) (h : pairAt t.colours t.pairs k = false) : pairedB t = false := by
  unfold pairedB
  rw [List.all_eq_false]
  exact ⟨k, List.mem_range.2 hk, by simp [h]⟩
theorem pairedB_all {t : TitD} (h : ∀ k, k < t.pairs.length → pairAt t.colours t.pairs k = true) : pairedB t = true := by
  unfold pairedB
  rw [List.all_eq_true]
  exact fun k hk => h k (List.mem_range.1 hk)
end Go.Ed
namespace Go.Proofs.Ytokdleanpkkdpaa
open Go.RowKit Go.Fh Go.Ed
theorem infoBool : (Try.prog.info? 4).map (fun i => (i.zero, i.size, i.bytes)) = some (some (.bool false), 1, 1) := by kernel_rfl

set_option maxRecDepth 20000 in
set_option maxHeartbeats 4000000 in
theorem paired_any (t : TitD) (x : TA) (w : World) (hc : t.colours.length ≤ 1000) (hp : t.pairs.length ≤ 9223372036854775807) (hA : Sl encInt 1 w w.heap.size x.a t.colours) (hB : Sl encInt 1 w w.heap.size x.b t.pairs) :
    Calls Try.prog 91 #[.agg (titV t x)] w fun e w' => e = .returned (.bool (pairedB t)) ∧ Below w.heap.size w w' := by
  obtain ⟨w1, hw1⟩ : ∃ W, W = w.alloc (.cells (titV t x) 26) := ⟨_, rfl⟩
  have hb1 : Below w.heap.size w w1 := by rw [hw1]; exact (Below.refl _ _).alloc (Nat.le_refl _) _
  have kT : Blk w1 w.heap.size 26 (titV t x) := by rw [hw1]; exact Blk.new _ _ _
  obtain ⟨gT, hgT⟩ : ∃ g, g = w.heap.size := ⟨_, rfl⟩
  rw [← hgT] at kT
  have hmk := run_make_row' (P := Try.prog) 193 4 (.bool false) 1 Try.underlying193 infoBool rfl .i64 .i64 t.colours.length (by omega) (by omega) w1
  obtain ⟨w2, hw2⟩ : ∃ W, W = w1.alloc (.cells (madeCells #[.bool false] t.colours.length) 4) := ⟨_, rfl⟩
  rw [← hw2] at hmk
  have hr0 : w2.rowIs w1.heap.size 4 t.colours.length (fun _ => .bool false) := by rw [hw2]; exact World.rowIs_made w1 (.bool false) t.colours.length 4
  have hb12 : Below w1.heap.size w1 w2 := by rw [hw2]; exact (Below.refl _ _).alloc (Nat.le_refl _) _
  obtain ⟨gK, hgK⟩ : ∃ g, g = w1.heap.size := ⟨_, rfl⟩
  rw [← hgK] at hmk hr0
  have HA := Lib.hid hA
  have HB := Lib.hid hB
  have HB1 := Lib.hid hb1
  have HW1 := Lib.hid hw1
  have HGT := Lib.hid hgT
  have HGK := Lib.hid hgK
  have KT := Lib.hid kT
  have HR0 := Lib.hid hr0
  have HB12 := Lib.hid hb12
  have hgl : gT < w1.heap.size := kT.lt
  have r0 := kT.cell 0
  have r1 := kT.cell 1
  simp [titV] at r0 r1
  have k2 := kT.below hb12 hgl
  have s1 := k2.cell 1
  simp [titV] at s1
  clear hA hB hb1 hw1 hw2 hgT hgK kT hr0 hb12 k2
  unfold titV at *
  go_enter Try.func91, Try.ntmps91
  go_upto_region 1 with fail
  rw [← HW1.out, ← HGT.out]
  go_upto_region 2 with fail
  clear hmk r0 r1
  go_wp2_with fail
  have HBW := Lib.hid (HB1.out.trans (HB12.out.mono HB1.out.size))
  go_loopw [13] (fun i wr => ∃ k : Nat, k ≤ t.pairs.length ∧ i = .int .i64 k ∧ Hid (∀ j, j < k → pairAt t.colours t.pairs j = true) ∧ Hid (wr.rowIs gK 4 t.colours.length (fun j => .bool (takenN t.pairs k j))) ∧ Below w1.heap.size w1 wr) (fun i _ => t.pairs.length - (intOf i).toNat)
  case atStart => exact ⟨0, Nat.zero_le _, rfl, fun j hj => absurd hj (by omega), HR0, HB12.out⟩
  case round =>
    obtain ⟨k, hk, rfl, HP, HR, hB⟩ := hrel
    have hBw := HB1.out.trans (hB.mono HB1.out.size)
    have HBR := Lib.hid hBw
    have kr := KT.out.below hB hgl
    have r0 := kr.cell 0
    have r1 := kr.cell 1
    simp at r0 r1
    by_cases hlt : k < t.pairs.length
    · obtain ⟨pb, po, hpa, hpb, c0⟩ := (HB.out.below hBw).at1 hlt
      have hpt := pairAt_taken (c := t.colours) hlt
      have hstop := fun (h : pairAt t.colours t.pairs k = false) => pairedB_stop hlt h
      have f1 := IntWalk.i64_in ((t.colours.length : Int) - 2) (by omega)
      rw [hpa]
      rw [hpa] at r1
      obtain ⟨p, hp'⟩ : ∃ p, p = t.pairs[k] := ⟨_, rfl⟩
      rw [← hp'] at c0 hpt
      have HPT := Lib.hid hpt
      have HST := Lib.hid hstop
      have HPV := Lib.hid hp'
      clear hpt hstop hp' kr hBw
      cases hin : inB p 0 ((t.colours.length : Int) - 2)
      · have HF := Lib.hid (HST.out (by rw [HPT.out, hin]; rfl))
        go_wp2_with fail
        go_quiet ((go_at_call 65; exact Calls.quiet_of_same ((within_any _ _ _ _).mono (fun e w' he => ⟨he.1, he.2.symm⟩))))
        go_wp2_with fail
        go_ret
        exact ⟨ret_bool HF.out.symm, below_drewN HBR.out _⟩
      · have hpr := inB_iff.1 hin
        obtain ⟨pn, rfl⟩ : ∃ pn : Nat, p = (pn : Int) := ⟨p.toNat, by omega⟩
        have hp1 : pn < t.colours.length := by omega
        have hp2 : pn + 1 < t.colours.length := by omega
        have f2 := IntWalk.i64_in ((pn : Int) + 1) (by omega)
        have e1 : ((pn : Int) + 1).toNat = pn + 1 := by omega
        have d1 := HR.out.cell hp1
        have d2 := HR.out.cell hp2
        have q1 := HPT.out
        rw [hin] at q1
        simp only [Int.toNat_natCast, Bool.true_and] at q1
        have HQ := Lib.hid q1
        clear q1
        cases ht1 : takenN t.pairs k pn
        · cases ht2 : takenN t.pairs k (pn + 1)
          · rw [ht1] at d1
            rw [ht2] at d2
            obtain ⟨ab, ao, hxa, hab, g1⟩ := (HA.out.below HBR.out).at1 hp1
            obtain ⟨ab', ao', hxa', hab', g2⟩ := (HA.out.below HBR.out).at1 hp2
            obtain ⟨rfl, rfl⟩ : ab = ab' ∧ ao = ao' := by rw [hxa] at hxa'; simpa using hxa'
            rw [hxa] at r0 ⊢
            have hgd1 : t.colours.getD pn 0 = t.colours[pn] := by simp [hp1]
            have hgd2 : t.colours.getD (pn + 1) 0 = t.colours[pn + 1] := by simp [hp2]
            have q1 := HQ.out
            rw [ht1, ht2, hgd1, hgd2] at q1
            obtain ⟨cA, hcA⟩ : ∃ c, c = t.colours[pn] := ⟨_, rfl⟩
            obtain ⟨cB, hcB⟩ : ∃ c, c = t.colours[pn + 1] := ⟨_, rfl⟩
            rw [← hcA] at g1 q1
            rw [← hcB] at g2 q1
            have Q1 := Lib.hid q1
            have HXA := Lib.hid hxa
            clear hcA hcB hxa hxa' hgd1 hgd2 q1
            by_cases he : cA = cB
            · have hne : (cA != cB) = false := by simp [he]
              have hpk : pairAt t.colours t.pairs k = true := by rw [Q1.out, he]; simp
              have HPK := Lib.hid hpk
              have z1 := HR.out.frozen pn
              have z2 := HR.out.frozen (pn + 1)
              have hsu := fun i => takenN_succ hlt i
              have HSU := Lib.hid hsu
              clear he hpk hsu
              go_wp2_with fail
              go_quiet ((go_at_call 65; exact Calls.quiet_of_same ((within_any _ _ _ _).mono (fun e w' he => ⟨he.1, he.2.symm⟩))))
              go_wp2_with fail
              go_roundw
              case rel =>
                have hr0 : (wr.drewN nq).rowIs gK 4 t.colours.length (fun j => .bool (takenN t.pairs k j)) := World.rowIs.of_block HR.out rfl
                refine ⟨k + 1, by omega, by go_num, ?_, ?_, ?_⟩
                · intro j hj
                  by_cases e : j = k
                  · subst e; exact HPK.out
                  · exact HP.out j (by omega)
                · refine World.rowIs.congr ((hr0.set pn (.bool true)).set (pn + 1) (.bool true)) fun j hj => ?_
                  rw [HSU.out, ← HPV.out]
                  by_cases e1 : j = pn
                  · subst e1; simp
                  · by_cases e2 : j = pn + 1
                    · subst e2; simp
                    · have a1 : ((pn : Int) == (j : Int)) = false := by simp; omega
                      have a2 : ((pn : Int) + 1 == (j : Int)) = false := by rw [beq_eq_false_iff_ne]; omega
                      rw [a1, a2]
                      simp [e1, e2]
                · have hgk : w1.heap.size ≤ gK := by rw [HGK.out]; exact Nat.le_refl _
                  exact ((below_drewN hB _).setCell (by exact hgk) _).setCell (by exact hgk) _
              case measure => simp [intOf]; omega
            · have hne : (cA != cB) = true := by simp [he]
              have HF := Lib.hid (HST.out (by rw [Q1.out]; simpa using he))
              clear he
              go_wp2_with fail
              go_quiet ((go_at_call 65; exact Calls.quiet_of_same ((within_any _ _ _ _).mono (fun e w' he => ⟨he.1, he.2.symm⟩))))
              go_wp2_with fail
              go_ret
              exact ⟨ret_bool HF.out.symm, below_drewN HBR.out _⟩
          · rw [ht1] at d1
            rw [ht2] at d2
            have HF := Lib.hid (HST.out (by rw [HQ.out, ht1, ht2]; rfl))
            go_wp2_with fail
            go_quiet ((go_at_call 65; exact Calls.quiet_of_same ((within_any _ _ _ _).mono (fun e w' he => ⟨he.1, he.2.symm⟩))))
            go_wp2_with fail
            go_ret
            exact ⟨ret_bool HF.out.symm, below_drewN HBR.out _⟩
        · rw [ht1] at d1
          have HF := Lib.hid (HST.out (by rw [HQ.out, ht1]; rfl))
          go_wp2_with fail
          go_quiet ((go_at_call 65; exact Calls.quiet_of_same ((within_any _ _ _ _).mono (fun e w' he => ⟨he.1, he.2.symm⟩))))
          go_wp2_with fail
          go_ret
          exact ⟨ret_bool HF.out.symm, below_drewN HBR.out _⟩
    · obtain rfl : k = t.pairs.length := by omega
      have HF := Lib.hid (pairedB_all HP.out)
      go_wp2_with fail
      go_ret
      exact ⟨ret_bool HF.out.symm, HBR.out⟩
end Go.Proofs.Ytokdleanpkkdpaa
