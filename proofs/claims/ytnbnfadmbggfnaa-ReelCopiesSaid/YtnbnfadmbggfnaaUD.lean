/- Contracts of the reference's Spoiled and Out; conditions: a right press in memory. -/
import Derived.Test.YtnbnfadmbggfnaaUC
set_option linter.unusedSimpArgs false
set_option linter.unusedVariables false
namespace Go.Rl
open Go.Fh
theorem plcs_get {l : List ReelD} {j : Nat} (h : j < (plcs l).length) : (plcs l)[j] = plcF l j := upF_get (plcF l) (l.length - 1) j h
theorem any_upto {α : Type} {f : α → Bool} {l : List α} {n : Nat} (hn : l.length = n) (h : ∀ j (hj : j < l.length), f l[j] = false) : l.any f = false := by
  rw [List.any_eq_false]
  intro x hx
  obtain ⟨j, hj, rfl⟩ := List.getElem_of_mem hx
  simp [h j hj]
theorem any_at {α : Type} {f : α → Bool} {l : List α} {j : Nat} (hj : j < l.length) (h : f l[j] = true) : l.any f = true := List.any_eq_true.2 ⟨_, List.getElem_mem hj, h⟩
end Go.Rl
namespace Go.Proofs.Ytnbnfadmbggfnaa
open Go.RowKit Go.Fh Go.Rl
set_option maxRecDepth 20000 in
set_option maxHeartbeats 8000000 in
theorem rspoil_any (p : PrsD) (A : Option Addr) (c m : Nat) (ms : List WebM) (w : World) (hp : PrsOk p) (hT : PrsAt w w.heap.size p A ms) (hm : m = ms.length) (k : Int) (hk0 : -100 ≤ k) (hk1 : k ≤ 1000100) (z : Bool) (hz : z = spB p k) :
    Calls Try.prog 130 #[.agg #[.int .i64 p.cut, .int .i64 p.margin, .slice A m c], .int .i64 k] w fun e w' => e = .returned (.bool z) ∧ Hid (Below w.heap.size w w') := by
  obtain ⟨w1, gT, HW1, HGT, HB1, HTP, HTC⟩ := mp_box 131 p w A c ms w hT m hm
  obtain ⟨r0, r1, r2⟩ := HTC.out w1 (Below.refl _ _)
  have hml : m = p.webs.length := by rw [hm, hT.len]
  have hm6 := hp.n1
  rw [← hml] at hm6
  have HP := Lib.hid hp
  have HM := Lib.hid hm
  have HML := Lib.hid hml
  have hc0 := hp.c0
  have hc1 := hp.c1
  have HZ := Lib.hid hz
  obtain ⟨kc, hkc⟩ : ∃ x, x = k * p.cut := ⟨_, rfl⟩
  have hkb : -150000 ≤ kc ∧ kc ≤ 1500300000 := by
    rw [hkc]
    have h1 : (k + 100) * p.cut ≤ (k + 100) * 1500 := Int.mul_le_mul_of_nonneg_left hc1 (by omega)
    have h2 : 0 ≤ (k + 100) * p.cut := Int.mul_nonneg (by omega) (by omega)
    have h3 : (k + 100) * p.cut = k * p.cut + 100 * p.cut := by rw [Int.add_mul]
    omega
  have s1 : IntKind.i64.wrap (k * p.cut) = kc := by rw [← hkc, IntKind.wrap_i64]; omega
  have HKC := Lib.hid hkc
  clear hT hp hm hml hz hkc
  go_enter Try.func130, Try.ntmps130
  go_upto_region 1 with fail
  rw [← HW1.out, ← HGT.out]
  go_wp2_with fail
  clear r0 r1 r2
  go_loopw [5] (fun i wr => ∃ q : Nat, q ≤ m ∧ i = .int .i64 (q : Int) ∧ Hid (∀ j (h : j < p.webs.length), j < q → spW p k p.webs[j] = false) ∧ Hid (Below w1.heap.size w1 wr)) (fun i _ => m - (intOf i).toNat)
  case atStart => exact ⟨0, Nat.zero_le _, rfl, Lib.hid (fun j _ h => by omega), Below.refl _ _⟩
  case round =>
    obtain ⟨q, hq, rfl, HF, HB⟩ := hrel
    obtain ⟨r0, r1, r2⟩ := HTC.out wr HB.out
    by_cases hlt : q < m
    · have hkm : q < ms.length := by have := HM.out; omega
      have hkp : q < p.webs.length := by have := HML.out; omega
      obtain ⟨v, vA, vc, b, off, HV, HR, hba, HC⟩ := web_box HTP.out hkm hkp
      obtain ⟨c0, c1, c2, c3⟩ := HC.out _ HB.out
      subst hba
      have hwo := HP.out.w p.webs[q] (List.getElem_mem hkp)
      rw [← HV.out] at hwo
      have ho0 := hwo.o0
      have ho1 := hwo.o1
      have hb0 := hwo.b0
      have hb1 := hwo.b1
      have ha0 := hwo.a0
      have ha1 := hwo.a1
      have hv20 := hwo.n
      obtain ⟨nv, hnv⟩ : ∃ n, n = v.reels.length := ⟨_, rfl⟩
      rw [← hnv] at c0 hv20
      have HN := Lib.hid hnv
      have HRO := Lib.hid hwo.r
      obtain ⟨w5, g5, HW5, HG5, hb5, HK5⟩ := wv_box 181 v vA nv vc wr
      have HB5 := Lib.hid (HB.out.trans (hb5.out.mono HB.out.size))
      have H108 := Lib.hid (fun W (hb : Below w5.heap.size w5 W) => ends_any v vA nv vc W hnv hv20 hwo.r (HR.out W (HB5.out.trans (hb.mono HB5.out.size))))
      obtain ⟨y0, y1, y2, y3⟩ := wv_cells HK5.out
      have i0 : (0 : Int) ≤ (q : Int) := by omega
      have i1 : (q : Int) < (m : Int) := by omega
      obtain ⟨fi, hfi⟩ : ∃ x, x = v.off + kc := ⟨_, rfl⟩
      have s2 : IntKind.i64.wrap (v.off + kc) = fi := by rw [hfi, IntKind.wrap_i64]; omega
      have hfb : -150000 ≤ fi ∧ fi ≤ 1500500000 := by omega
      have s3 : IntKind.i64.wrap (fi + p.cut) = fi + p.cut := by rw [IntKind.wrap_i64]; omega
      obtain ⟨la, hla⟩ : ∃ y, y = fi + p.cut - 1 := ⟨_, rfl⟩
      have s4 : IntKind.i64.wrap (fi + p.cut - 1) = la := by rw [hla, IntKind.wrap_i64]; omega
      have HFI := Lib.hid (show v.off + k * p.cut = fi by rw [← HKC.out, hfi])
      have HLA := Lib.hid hla
      clear hwo hnv hb5 hfi hla
      go_upto_region 5 with fail
      rw [← HW5.out, ← HG5.out]
      clear c0 c1 c2 c3 r0 r1 r2
      obtain ⟨r0, r1, r2⟩ := HTC.out w5 HB5.out
      go_upto_region 8 with (go_at_call 108; with_reducible refine (H108.out _ (Below.refl _ _)).mono ?_; rintro e w6 ⟨A', c', rfl, HS6, -, -, HB6⟩)
      clear y0 y1 y2 y3 r0 r1 r2
      have HB16 := Lib.hid (HB5.out.trans (HB6.out.mono HB5.out.size))
      have HK6 := Lib.hid (HK5.out.below HB6.out HK5.out.lt)
      go_wp2_with fail
      go_loopw [10] (fun i wq => ∃ j : Nat, j ≤ nv - 1 ∧ i = .int .i64 (j : Int) ∧ Hid (∀ x (h : x < (plcs v.reels).length), x < j → spX p v k (plcs v.reels)[x] = false) ∧ Hid (Below w6.heap.size w6 wq)) (fun i _ => nv - (intOf i).toNat)
      case atStart => exact ⟨0, Nat.zero_le _, rfl, Lib.hid (fun j _ h => by omega), Below.refl _ _⟩
      case round =>
        obtain ⟨j, hj, rfl, HF6, HBQ⟩ := hrel
        obtain ⟨y0, y1, y2, y3⟩ := wv_cells (HK6.out.below HBQ.out HK6.out.lt)
        have s5 : IntKind.i64.wrap ((j : Int) + 1) = (j : Int) + 1 := by rw [IntKind.wrap_i64]; omega
        by_cases hltj : j + 1 < nv
        · have hjl : j < (plcs v.reels).length := by have := HN.out; unfold plcs; rw [upF_len]; omega
          obtain ⟨b', off', hA', d0⟩ := int_at (HS6.out.below HBQ.out) (k := j) (by rw [upF_len]; omega) (x := (plcs v.reels)[j]) (by rw [upF_get, plcs_get])
          subst hA'
          have hxb : 0 ≤ (plcs v.reels)[j] ∧ (plcs v.reels)[j] ≤ 400000000 := by
            rw [plcs_get]
            exact plcF_bd HRO.out (by have := HN.out; omega) (by have := HN.out; omega)
          obtain ⟨x, hx⟩ : ∃ x, x = (plcs v.reels)[j] := ⟨_, rfl⟩
          rw [← hx] at d0 hxb
          have HX := Lib.hid hx
          have k0 : (0 : Int) ≤ (j : Int) := by omega
          have k1 : (j : Int) < (nv : Int) := by omega
          have k2 : (j : Int) + 1 < (nv : Int) := by omega
          have s6 : IntKind.i64.wrap (x - v.bef) = x - v.bef := by rw [IntKind.wrap_i64]; omega
          have s7 : IntKind.i64.wrap (x + v.aft) = x + v.aft := by rw [IntKind.wrap_i64]; omega
          have s8 : IntKind.i64.wrap (x + v.aft - 1) = x + v.aft - 1 := by rw [IntKind.wrap_i64]; omega
          obtain ⟨aa, haa⟩ : ∃ y, y = x - v.bef := ⟨_, rfl⟩
          obtain ⟨bb, hbb⟩ : ∃ y, y = x + v.aft - 1 := ⟨_, rfl⟩
          have HSP := Lib.hid (show spX p v k x = (decide (aa ≤ bb) && (decide (aa ≤ la) && decide (fi ≤ bb))) by unfold spX; rw [HFI.out, ← haa, ← hbb, ← HLA.out])
          clear hx
          go_upto_region 11 with fail
          go_quiet (fail)
          rw [← haa, ← hbb]
          clear haa hbb s6 s7 s8
          obtain ⟨u1, hu1⟩ : ∃ b, b = decide (aa ≤ bb) := ⟨_, rfl⟩
          obtain ⟨u2, hu2⟩ : ∃ b, b = decide (aa ≤ la) := ⟨_, rfl⟩
          obtain ⟨u3, hu3⟩ : ∃ b, b = decide (fi ≤ bb) := ⟨_, rfl⟩
          have t1 : decide (aa ≤ bb) = u1 := hu1.symm
          have t2 : decide (aa ≤ la) = u2 := hu2.symm
          have t3 : decide (bb ≥ fi) = u3 := hu3.symm
          have t3' : decide (fi ≤ bb) = u3 := hu3.symm
          have HSQ := Lib.hid (show spX p v k x = (u1 && (u2 && u3)) by rw [HSP.out, hu1, hu2, hu3])
          clear hu1 hu2 hu3
          by_cases hu : u1 = true ∧ u2 = true ∧ u3 = true
          · obtain ⟨rfl, rfl, rfl⟩ := hu
            go_wp2_with fail
            go_ret
            refine ⟨ret_bool ?_, Lib.hid (HB1.out.trans ((below_drewN (HB16.out.trans (HBQ.out.mono HB16.out.size)) _).mono HB1.out.size))⟩
            rw [HZ.out]
            exact (any_at hkp (by rw [← HV.out]; exact any_at hjl (by rw [← HX.out, HSQ.out]; rfl))).symm
          · have hor : (u1 && (u2 && u3)) = false := by cases u1 <;> cases u2 <;> cases u3 <;> simp_all
            have HOR := Lib.hid hor
            have HFN := Lib.hid (show ∀ x (h : x < (plcs v.reels).length), x < j + 1 → spX p v k (plcs v.reels)[x] = false from fun y h h0 => by
              by_cases e : y = j
              · subst e; rw [← HX.out, HSQ.out]; exact HOR.out
              · exact HF6.out y h (by omega))
            clear hu
            cases u1 <;> cases u2 <;> cases u3
            all_goals
              first
              | (exfalso; revert hor; decide)
              | (clear hor
                 go_wp2_with fail
                 go_roundw
                 case rel => exact ⟨j + 1, by omega, by go_num, HFN, below_drewN HBQ.out _⟩
                 case measure => simp [intOf]; omega)
        · have k2 : ¬ (j : Int) + 1 < (nv : Int) := by omega
          have HFN := Lib.hid (show ∀ j (h : j < p.webs.length), j < q + 1 → spW p k p.webs[j] = false from fun y h h0 => by
            by_cases e : y = q
            · subst e
              rw [← HV.out]
              refine any_upto rfl fun x hx => HF6.out x hx ?_
              have := HN.out
              unfold plcs at hx
              rw [upF_len] at hx
              omega
            · exact HF.out y h (by omega))
          go_wp2_with fail
          go_roundw
          case rel => exact ⟨q + 1, by omega, by go_num, HFN, Lib.hid (HB16.out.trans (HBQ.out.mono HB16.out.size))⟩
          case measure => simp [intOf]; omega
    · obtain rfl : q = m := by omega
      have HZ2 := Lib.hid (show z = false by
        rw [HZ.out]
        exact any_upto rfl fun j hj => HF.out j hj (by have := HML.out; omega))
      go_wp2_with fail
      go_ret
      exact ⟨ret_bool HZ2.out.symm, Lib.hid (HB1.out.trans (HB.out.mono HB1.out.size))⟩
set_option maxRecDepth 20000 in
set_option maxHeartbeats 4000000 in
theorem rout_any (p : PrsD) (A : Option Addr) (c m : Nat) (ms : List WebM) (w : World) (hp : PrsOk p) (hT : PrsAt w w.heap.size p A ms) (hm : m = ms.length) (k : Int) (hk0 : 0 ≤ k) (hk1 : k ≤ 1000000) (z : Bool) (hz : z = ouB p k) :
    Calls Try.prog 110 #[.agg #[.int .i64 p.cut, .int .i64 p.margin, .slice A m c], .int .i64 k] w fun e w' => e = .returned (.bool z) ∧ Hid (Below w.heap.size w w') := by
  obtain ⟨w1, gT, HW1, HGT, HB1, HTP, HTC⟩ := mp_box 131 p w A c ms w hT m hm
  obtain ⟨r0, r1, r2⟩ := HTC.out w1 (Below.refl _ _)
  have hm0 := hp.m0
  have hm1 := hp.m1
  obtain ⟨mg, hmg⟩ : ∃ x, x = p.margin := ⟨_, rfl⟩
  have H130 := Lib.hid (fun W (hb : Below w1.heap.size w1 W) (k : Int) (h0 : -100 ≤ k) (h1 : k ≤ 1000100) (z : Bool) hz => rspoil_any p A c m ms W hp (HTP.out W hb) hm k h0 h1 z hz)
  have HZ := Lib.hid hz
  have HMG := Lib.hid hmg
  rw [← hmg] at hm0 hm1 HW1 HTC H130 r1 ⊢
  have s1 : IntKind.i64.wrap (k - mg) = k - mg := by rw [IntKind.wrap_i64]; omega
  have s2 : IntKind.i64.wrap (k + mg) = k + mg := by rw [IntKind.wrap_i64]; omega
  clear hT hp hm hz hmg
  go_enter Try.func110, Try.ntmps110
  go_upto_region 1 with fail
  rw [← HW1.out, ← HGT.out]
  go_wp2_with fail
  clear r0 r1 r2
  go_loopw [5] (fun i wr => ∃ q : Nat, (q : Int) ≤ 2 * mg + 1 ∧ i = .int .i64 (k - mg + (q : Int)) ∧ Hid (∀ j : Nat, j < q → spB p (k - mg + j) = false) ∧ Hid (Below w1.heap.size w1 wr)) (fun i _ => (k + mg + 1 - intOf i).toNat)
  case atStart => exact ⟨0, by omega, by simp, Lib.hid (fun j h => by omega), Below.refl _ _⟩
  case round =>
    obtain ⟨q, hq, rfl, HF, HB⟩ := hrel
    obtain ⟨r0, r1, r2⟩ := HTC.out wr HB.out
    obtain ⟨x, hx⟩ : ∃ x, x = k - mg + (q : Int) := ⟨_, rfl⟩
    have HX := Lib.hid hx
    have hxb : k - mg ≤ x ∧ x ≤ k + mg + 1 := by omega
    rw [← hx]
    by_cases hlt : x ≤ k + mg
    · obtain ⟨u, hu⟩ : ∃ u, u = spB p x := ⟨_, rfl⟩
      have HC := Lib.hid (H130.out wr HB.out x (by omega) (by omega) u hu)
      have HU := Lib.hid hu
      have s3 : IntKind.i64.wrap (x + 1) = x + 1 := by rw [IntKind.wrap_i64]; omega
      have HQ2 := Lib.hid (show ((q + 1 : Nat) : Int) ≤ 2 * mg + 1 ∧ (q : Int) < 2 * mg + 1 by omega)
      clear hx hu
      cases u
      · go_wp2_with (go_at_call 130; with_reducible refine HC.out.mono ?_; rintro e w5 ⟨rfl, HB5⟩)
        go_roundw
        case rel => exact ⟨q + 1, HQ2.out.1, int_eq (by rw [HX.out]; omega), Lib.hid (fun j h => by
          by_cases e : j = q
          · subst e; rw [← HX.out]; exact HU.out.symm
          · exact HF.out j (by omega)), Lib.hid (bstep HB.out HB5.out)⟩
        case measure => simp [intOf]; omega
      · go_wp2_with (go_at_call 130; with_reducible refine HC.out.mono ?_; rintro e w5 ⟨rfl, HB5⟩)
        go_ret
        refine ⟨ret_bool ?_, Lib.hid (HB1.out.trans ((bstep HB.out HB5.out).mono HB1.out.size))⟩
        rw [HZ.out]
        symm
        unfold ouB
        rw [← HMG.out]
        refine List.any_eq_true.2 ⟨q, List.mem_range.2 (by have := HQ2.out; omega), ?_⟩
        rw [← HX.out]; exact HU.out.symm
    · have HZ2 := Lib.hid (show z = false by
        rw [HZ.out]
        unfold ouB
        rw [← HMG.out, List.any_eq_false]
        intro d hd
        have := List.mem_range.1 hd
        have := HF.out d (by omega)
        simp [this])
      clear hx
      go_wp2_with fail
      go_ret
      exact ⟨ret_bool HZ2.out.symm, Lib.hid (HB1.out.trans (HB.out.mono HB1.out.size))⟩
end Go.Proofs.Ytnbnfadmbggfnaa
