/- Contract of the reference's Cost; conditions: a supply and weeks in memory. -/
import Derived.Test.YtnbnfadmbggfnaaCN
set_option linter.unusedSimpArgs false
set_option linter.unusedVariables false
namespace Go.Proofs.Ytnbnfadmbggfnaa
open Go.RowKit Go.Fh Go.Rl
set_option maxRecDepth 20000 in
set_option maxHeartbeats 4000000 in
theorem rcost_c (s : SupD) (x : SA) (w : World) (hl : s.need.length ≤ 1000000000 ∧ s.order.length ≤ 1000000000) (hT : SupAt w w.heap.size s x) (A : Option Addr) (c m : Nat) (ws : List Int) (hm : ws.length = m) (hm9 : m ≤ 1000000000) (hA : Sl encInt 1 w w.heap.size A ws) (r : Int × Int) (hr : r = cstP s ws) :
    Calls Try.prog 61 #[.agg #[.slice x.a s.need.length x.ca, .slice x.b s.order.length x.cb, .int .i64 s.keep, .int .i64 s.room], .slice A m c] w fun e w' => e = .returned (.tuple #[.int .i64 r.1, .int .i64 r.2]) ∧ Hid (Below w.heap.size w w') := by
  obtain ⟨w1, gT, HW1, HGT, HB1, HTB⟩ := sup_box 121 s x w hT
  obtain ⟨hT1, r0, r1, r2, r3⟩ := HTB.out w1 (Below.refl _ _)
  have HCK := Lib.hid (rchkS_any s x w1 hl hT1)
  by_cases he : errS s = 0
  · have hs := sup_ok he
    have hn1 := hs.n0
    have hn20 := hs.n1
    have hr2 : r = cstQ s s.need.length ws := by rw [hr]; unfold cstP; rw [if_neg (by simpa using he)]; rfl
    clear hr
    rw [he] at HCK
    have HCV := Lib.hid (fun W (hb : Below w1.heap.size w1 W) (fr tp : Nat) (h1 : fr < tp) (h2 : tp ≤ s.need.length) => rcover_any s x W hs (HTB.out W hb).1 fr tp h1 h2)
    have HAW := Lib.hid (fun W (hb : Below w1.heap.size w1 W) => (hA.below (HB1.out.trans (hb.mono HB1.out.size))).mono ((HB1.out.trans (hb.mono HB1.out.size)).size))
    have HS := Lib.hid hs
    have HM := Lib.hid hm
    obtain ⟨n, hn⟩ : ∃ n, n = s.need.length := ⟨_, rfl⟩
    unfold supV at *
    rw [← hn] at r0 HTB HW1 HCK HCV hr2 hn1 hn20 ⊢
    have HR2 := Lib.hid hr2
    clear hT hT1 hs hA he hl hm hn hr2
    have nw : IntKind.i64.wrap ((n : Int) - 1) = (n : Int) - 1 := by rw [IntKind.wrap_i64]; omega
    have HBAD := Lib.hid (show badW n ws = true → r = (0, 1) from fun h => by rw [HR2.out, cstQ_bad h])
    have HR9 := Lib.hid (show badW n ws = false → ∀ j, j ≤ m → costK s n (natW ws) j = none → r = (0, 9) from fun hb j hj h => by
      rw [HR2.out, cstQ_none hb (by rw [HM.out]; exact costK_stop h hj)])
    have HR0 := Lib.hid (show badW n ws = false → ∀ c, costK s n (natW ws) m = some c → r = (c, 0) from fun hb c h => by
      rw [HR2.out, cstQ_some hb (by rw [HM.out]; exact h)])
    by_cases hm0 : m = 0
    · skip
      have hr3 := HBAD.out (by unfold badW; rw [HM.out, hm0]; simp)
      subst hr3
      have hd : ((m : Int) == 0) = true := by simp [hm0]
      clear hm0
      go_enter Try.func61, Try.ntmps61
      go_upto_region 1 with fail
      rw [← HW1.out, ← HGT.out]
      go_wp2_with (go_at_call 59; with_reducible refine HCK.out.mono ?_; rintro e w2 ⟨rfl, HB2⟩; clear r0 r1 r2 r3; obtain ⟨-, r0, r1, r2, r3⟩ := HTB.out w2 HB2.out)
      go_ret2
      exact ⟨rfl, Lib.hid (HB1.out.trans (HB2.out.mono HB1.out.size))⟩
    · skip
      have hd : ((m : Int) == 0) = false := by simp; omega
      have hm1 : 0 < m := by omega
      obtain ⟨pb, po, hpa, hpb, d0⟩ := (HAW.out w1 (Below.refl _ _)).at1 (k := 0) (by rw [HM.out]; omega)
      subst hpa
      have HCE := Lib.hid (show ∀ W, Below w1.heap.size w1 W → ∀ j, j < m → W.cell? ⟨pb, po + j, none⟩ = some (.int .i64 (nd ws j)) from fun W hb j hj => by
        have hjl : j < ws.length := by rw [HM.out]; exact hj
        rw [nd_get hjl]; exact Sl.at1' (HAW.out W hb) hjl)
      clear d0 hm0
      obtain ⟨p0, hp0⟩ : ∃ v, v = nd ws 0 := ⟨_, rfl⟩
      have HP0 := Lib.hid hp0
      obtain ⟨z0, hz0⟩ : ∃ b, b = (p0 != 0) := ⟨_, rfl⟩
      have hz0' := hz0.symm
      have HZ0 := Lib.hid hz0
      have m8 : (0 : Int) < (m : Int) := by omega
      clear hp0 hz0
      cases z0
      · skip
        go_enter Try.func61, Try.ntmps61
        go_upto_region 1 with fail
        rw [← HW1.out, ← HGT.out]
        go_wp2_with (go_at_call 59; with_reducible refine HCK.out.mono ?_; rintro e w2 ⟨rfl, HB2⟩; clear r0 r1 r2 r3; obtain ⟨-, r0, r1, r2, r3⟩ := HTB.out w2 HB2.out; have d0 := HCE.out w2 HB2.out 0 (by omega); rw [← HP0.out] at d0; simp at d0)
        have HW0 := Lib.hid (show wkJ n ws 0 = true from by
          unfold wkJ
          have h : nd ws 0 = 0 := by have := HZ0.out; rw [← HP0.out]; simpa using this.symm
          rw [h, inB_iff.2 (show (0 : Int) ≤ 0 ∧ (0 : Int) ≤ (n : Int) - 1 by omega)]; simp)
        clear r0 r1 r2 r3 d0
        go_loopw [8] (fun u wr => ∃ j : Nat, 1 ≤ j ∧ j ≤ m ∧ u = .int .i64 (j : Int) ∧ Hid (∀ j', j' < j → wkJ n ws j' = true) ∧ Hid (Below w1.heap.size w1 wr)) (fun u _ => m - (intOf u).toNat)
        case atStart => exact ⟨1, Nat.le_refl _, by omega, rfl, Lib.hid (fun j' h => by
          have e : j' = 0 := by omega
          subst e; exact HW0.out), HB2⟩
        case round =>
          obtain ⟨j, hj1, hj, rfl, HJ, HB⟩ := hrel
          by_cases hlt : j < m
          · skip
            have d1 := HCE.out wr HB.out j hlt
            have d2 := HCE.out wr HB.out (j - 1) (by omega)
            obtain ⟨v, hv⟩ : ∃ v, v = nd ws j := ⟨_, rfl⟩
            obtain ⟨u, hu⟩ : ∃ u, u = nd ws (j - 1) := ⟨_, rfl⟩
            have hu0 : 0 ≤ u := by
              have h := HJ.out (j - 1) (by omega)
              unfold wkJ at h
              simp only [Bool.and_eq_true] at h
              rw [hu]; exact (inB_iff.1 h.1).1
            rw [← hv] at d1
            rw [← hu] at d2
            have HWK := Lib.hid (show wkJ n ws j = (inB v 0 ((n : Int) - 1) && (decide (j = 0) || decide (u < v))) from by unfold wkJ; rw [hv, hu])
            have i0 : (0 : Int) ≤ (j : Int) := by omega
            have i1 : (j : Int) < (m : Int) := by omega
            have HJ1 := Lib.hid hj1
            have HLT := Lib.hid hlt
            clear hv hu
            go_upto_region 10 with fail
            have j1 : (1 : Int) ≤ (j : Int) := by have := HJ1.out; omega
            have j2 : ((j : Int) - 1).toNat = j - 1 := by have := HJ1.out; omega
            have j3 : (0 : Int) ≤ (j : Int) - 1 := by have := HJ1.out; omega
            have j4 : (j : Int) - 1 < (m : Int) := by have := HLT.out; omega
            have j5 : IntKind.i64.wrap ((j : Int) - 1) = (j : Int) - 1 := by have := HLT.out; rw [IntKind.wrap_i64]; omega
            have j6 : (1 : Nat) ≤ j := HJ1.out
            by_cases hvu : v ≤ u
            · have t1 : decide (v ≤ u) = true := by simpa using hvu
              have HR3 := Lib.hid (HBAD.out (badW_of (j := j) (by rw [HM.out]; exact HLT.out) (by rw [HWK.out]; have := HJ1.out; simp; omega)))
              clear hvu hu0
              go_quiet (fail)
              go_wp2_with fail
              go_ret2
              exact ⟨by rw [HR3.out]; rfl, Lib.hid (below_drewN (HB1.out.trans (HB.out.mono HB1.out.size)) _)⟩
            · have t1 : decide (v ≤ u) = false := by simpa using hvu
              by_cases hvn : (n : Int) ≤ v
              · have t2 : decide (v ≥ (n : Int)) = true := by simpa using hvn
                have t3 : decide ((n : Int) ≤ v) = true := by simpa using hvn
                have HR3 := Lib.hid (HBAD.out (badW_of (j := j) (by rw [HM.out]; exact HLT.out) (by
                  have e : inB v 0 ((n : Int) - 1) = false := by
                    cases h : inB v 0 ((n : Int) - 1) with
                    | false => rfl
                    | true => have := inB_iff.1 h; omega
                  rw [HWK.out, e]; rfl)))
                clear hvu hu0 hvn
                go_quiet (fail)
                go_wp2_with fail
                go_ret2
                exact ⟨by rw [HR3.out]; rfl, Lib.hid (below_drewN (HB1.out.trans (HB.out.mono HB1.out.size)) _)⟩
              · have t2 : decide (v ≥ (n : Int)) = false := by simpa using hvn
                have t3 : decide ((n : Int) ≤ v) = false := by simpa using hvn
                have HWT := Lib.hid (show wkJ n ws j = true from by
                  rw [HWK.out, inB_iff.2 (show 0 ≤ v ∧ v ≤ (n : Int) - 1 by omega)]
                  simp; right; omega)
                clear hvu hu0 hvn
                go_quiet (fail)
                go_wp2_with fail
                go_roundw
                case rel => exact ⟨j + 1, by omega, by have := HLT.out; omega, by go_num, Lib.hid (fun j' h => by
                  by_cases e : j' = j
                  · subst e; exact HWT.out
                  · exact HJ.out j' (by omega)), Lib.hid (below_drewN HB.out _)⟩
                case measure => simp [intOf]; omega
          · skip
            obtain rfl : j = m := by omega
            have hbw : badW n ws = false := badW_no (by rw [HM.out]; omega) (by have := HZ0.out; rw [← HP0.out]; simpa using this.symm) (fun j' hj' => HJ.out j' (by rw [HM.out] at hj'; exact hj'))
            have hwo := wks_ok hbw
            have HWO := Lib.hid hwo.1
            have HEQ := Lib.hid (show ∀ j', j' < j → ((natW ws).getD j' 0 : Int) = nd ws j' from fun j' h => hwo.2 j' (by rw [HM.out]; exact h))
            have HR9 := Lib.hid (HR9.out hbw)
            have HR0 := Lib.hid (HR0.out hbw)
            have HLN := Lib.hid (show (natW ws).length = j by simp [natW, HM.out])
            obtain ⟨m, hmj⟩ : ∃ m, m = j := ⟨_, rfl⟩
            subst hmj
            clear hwo hbw hlt hj
            go_wp2_with fail
            go_loopw [9, 10] (fun c u wr => ∃ (j : Nat) (cv : Int), j ≤ m ∧ u = .int .i64 (j : Int) ∧ c = .int .i64 cv ∧ Hid (costK s n (natW ws) j = some cv) ∧ Hid (Below w1.heap.size w1 wr)) (fun _ u _ => m - (intOf u).toNat)
            case atStart => exact ⟨0, 0, Nat.zero_le _, rfl, rfl, Lib.hid rfl, HB⟩
            case round =>
              obtain ⟨j, cv, hj, rfl, rfl, HC, HB⟩ := hrel
              by_cases hlt : j < m
              · have hcvb := costK_bd HS.out hn20 HWO.out j cv (by rw [HLN.out]; omega) HC.out
                have hm20 : m ≤ 20 := by
                  have h := HWO.out
                  have key : ∀ q, q < (natW ws).length → q ≤ (natW ws).getD q 0 := by
                    intro q
                    induction q with
                    | zero => intro _; omega
                    | succ q ih => intro hq; have := ih (by omega); have := h.up q hq; omega
                  have h1 := key (m - 1) (by rw [HLN.out]; omega)
                  have h2 := h.lt (m - 1) (by rw [HLN.out]; omega)
                  omega
                have e0 := HCE.out wr HB.out j hlt
                have hjj := HEQ.out j hlt
                rw [← hjj] at e0
                have HTW := Lib.hid (toW_lt HWO.out (j := j) (by rw [HLN.out]; exact hlt))
                obtain ⟨a, ha⟩ : ∃ a, a = (natW ws).getD j 0 := ⟨_, rfl⟩
                rw [← ha] at e0 HTW
                have HA0 := Lib.hid ha
                have i0 : (0 : Int) ≤ (j : Int) := by omega
                have i1 : (j : Int) < (m : Int) := by omega
                have jw : IntKind.i64.wrap ((j : Int) + 1) = (j : Int) + 1 := by rw [IntKind.wrap_i64]; omega
                obtain ⟨-, r0, r1, r2, r3⟩ := HTB.out wr HB.out
                have HJJ := Lib.hid (show ((a : Nat) : Int) = nd ws j from by rw [ha]; exact hjj)
                clear hjj ha r0 r1 r2 r3 e0
                by_cases hl2 : j + 1 < m
                · skip
                  have HS19 := Lib.hid (show ∀ W, Below w1.heap.size w1 W → (fun W => (W.cell? ⟨gT, 0, none⟩ = some (.slice x.a n x.ca) ∧ W.cell? ⟨gT, 1, none⟩ = some (.slice x.b s.order.length x.cb) ∧ W.cell? ⟨gT, 2, none⟩ = some (.int .i64 s.keep) ∧ W.cell? ⟨gT, 3, none⟩ = some (.int .i64 s.room)) ∧ W.cell? ⟨pb, po + j, none⟩ = some (.int .i64 (a : Int))) W from fun W hb => by
                    obtain ⟨-, q0, q1, q2, q3⟩ := HTB.out W hb
                    refine ⟨⟨q0, q1, q2, q3⟩, ?_⟩
                    have h := HCE.out W hb j hlt
                    rw [h, ← HJJ.out])
                  have e1 := HCE.out wr HB.out (j + 1) (by omega)
                  have hnx := HEQ.out (j + 1) (by omega)
                  rw [← hnx] at e1
                  have hto : toW n (natW ws) j = (natW ws).getD (j + 1) 0 := by unfold toW; rw [if_pos (by rw [HLN.out]; exact hl2)]
                  obtain ⟨b, hb⟩ : ∃ b, b = (natW ws).getD (j + 1) 0 := ⟨_, rfl⟩
                  rw [← hb] at e1 hto
                  have hl3 : decide ((j : Int) + 1 < (m : Int)) = true := by simp; omega
                  have j4 : ((j : Int) + 1).toNat = j + 1 := by omega
                  have j5 : (0 : Int) ≤ (j : Int) + 1 := by omega
                  have j6 : (j : Int) + 1 < (m : Int) := by omega
                  clear hb hnx
                  have htl := HTW.out
                  rw [hto] at htl
                  have H55 := Lib.hid (HCV.out wr.drew HB.out.drew a b htl.1 htl.2)
                  have hcb := covC_bd HS.out (fr := a) (tp := b) (by omega)
                  have HKY := Lib.hid (show covB s a b = true → costK s n (natW ws) (j + 1) = some (cv + covC s a b) from fun h => costK_s HC.out (by rw [← HA0.out, hto]; exact cov_some h))
                  have HKN := Lib.hid (show covB s a b = false → costK s n (natW ws) (j + 1) = none from fun h => costK_no (by rw [← HA0.out, hto]; exact cov_none h))
                  obtain ⟨ok, hok⟩ : ∃ q, q = covB s a b := ⟨_, rfl⟩
                  obtain ⟨cc, hcc⟩ : ∃ q, q = covC s a b := ⟨_, rfl⟩
                  rw [← hok] at H55 HKY HKN
                  rw [← hcc] at H55 hcb HKY
                  have sw : IntKind.i64.wrap (cv + cc) = cv + cc := by rw [IntKind.wrap_i64]; omega
                  clear hok hcc htl hto hl2
                  cases ok
                  · go_upto_region 19 with fail
                    go_region_held3 (fun W => (W.cell? ⟨gT, 0, none⟩ = some (.slice x.a n x.ca) ∧ W.cell? ⟨gT, 1, none⟩ = some (.slice x.b s.order.length x.cb) ∧ W.cell? ⟨gT, 2, none⟩ = some (.int .i64 s.keep) ∧ W.cell? ⟨gT, 3, none⟩ = some (.int .i64 s.room)) ∧ W.cell? ⟨pb, po + j, none⟩ = some (.int .i64 (a : Int)))
                      ((refine HS19.out _ ?_; (repeat (with_reducible first | exact HB.out | exact HB5.out | refine Below.drew ?_)); done))
                      ((go_at_call 102; with_reducible refine H55.out.mono ?_; rintro e w5 ⟨rfl, hb5⟩; have HB5 := Lib.hid (HB.out.drew.trans (hb5.out.mono HB.out.drew.size)); clear hb5))
                    go_wp2_with fail
                    go_ret2
                    exact ⟨by rw [HR9.out _ (by omega) (HKN.out (by trivial))]; rfl, Lib.hid (HB1.out.trans (HB5.out.mono HB1.out.size))⟩
                  · go_upto_region 19 with fail
                    go_region_held3 (fun W => (W.cell? ⟨gT, 0, none⟩ = some (.slice x.a n x.ca) ∧ W.cell? ⟨gT, 1, none⟩ = some (.slice x.b s.order.length x.cb) ∧ W.cell? ⟨gT, 2, none⟩ = some (.int .i64 s.keep) ∧ W.cell? ⟨gT, 3, none⟩ = some (.int .i64 s.room)) ∧ W.cell? ⟨pb, po + j, none⟩ = some (.int .i64 (a : Int)))
                      ((refine HS19.out _ ?_; (repeat (with_reducible first | exact HB.out | exact HB5.out | refine Below.drew ?_)); done))
                      ((go_at_call 102; with_reducible refine H55.out.mono ?_; rintro e w5 ⟨rfl, hb5⟩; have HB5 := Lib.hid (HB.out.drew.trans (hb5.out.mono HB.out.drew.size)); clear hb5))
                    go_wp2_with fail
                    go_roundw
                    case rel => exact ⟨j + 1, _, by omega, by go_num, rfl, Lib.hid (HKY.out (by trivial)), HB5⟩
                    case measure => simp [intOf]; omega
                · skip
                  have hto : toW n (natW ws) j = n := by unfold toW; rw [if_neg (by rw [HLN.out]; exact hl2)]
                  obtain ⟨b, hb⟩ : ∃ b, b = n := ⟨_, rfl⟩
                  rw [← hb] at hto
                  have hl3 : decide ((j : Int) + 1 < (m : Int)) = false := by simp; omega
                  subst hb
                  have HS19 := Lib.hid (show ∀ W, Below w1.heap.size w1 W → (fun W => (W.cell? ⟨gT, 0, none⟩ = some (.slice x.a b x.ca) ∧ W.cell? ⟨gT, 1, none⟩ = some (.slice x.b s.order.length x.cb) ∧ W.cell? ⟨gT, 2, none⟩ = some (.int .i64 s.keep) ∧ W.cell? ⟨gT, 3, none⟩ = some (.int .i64 s.room)) ∧ W.cell? ⟨pb, po + j, none⟩ = some (.int .i64 (a : Int))) W from fun W hb => by
                    obtain ⟨-, q0, q1, q2, q3⟩ := HTB.out W hb
                    refine ⟨⟨q0, q1, q2, q3⟩, ?_⟩
                    have h := HCE.out W hb j hlt
                    rw [h, ← HJJ.out])
                  have htl := HTW.out
                  rw [hto] at htl
                  have H55 := Lib.hid (HCV.out wr.drew HB.out.drew a b htl.1 htl.2)
                  have hcb := covC_bd HS.out (fr := a) (tp := b) (by omega)
                  have HKY := Lib.hid (show covB s a b = true → costK s b (natW ws) (j + 1) = some (cv + covC s a b) from fun h => costK_s HC.out (by rw [← HA0.out, hto]; exact cov_some h))
                  have HKN := Lib.hid (show covB s a b = false → costK s b (natW ws) (j + 1) = none from fun h => costK_no (by rw [← HA0.out, hto]; exact cov_none h))
                  obtain ⟨ok, hok⟩ : ∃ q, q = covB s a b := ⟨_, rfl⟩
                  obtain ⟨cc, hcc⟩ : ∃ q, q = covC s a b := ⟨_, rfl⟩
                  rw [← hok] at H55 HKY HKN
                  rw [← hcc] at H55 hcb HKY
                  have sw : IntKind.i64.wrap (cv + cc) = cv + cc := by rw [IntKind.wrap_i64]; omega
                  clear hok hcc htl hto hl2
                  cases ok
                  · go_upto_region 19 with fail
                    go_region_held3 (fun W => (W.cell? ⟨gT, 0, none⟩ = some (.slice x.a b x.ca) ∧ W.cell? ⟨gT, 1, none⟩ = some (.slice x.b s.order.length x.cb) ∧ W.cell? ⟨gT, 2, none⟩ = some (.int .i64 s.keep) ∧ W.cell? ⟨gT, 3, none⟩ = some (.int .i64 s.room)) ∧ W.cell? ⟨pb, po + j, none⟩ = some (.int .i64 (a : Int)))
                      ((refine HS19.out _ ?_; (repeat (with_reducible first | exact HB.out | exact HB5.out | refine Below.drew ?_)); done))
                      ((go_at_call 102; with_reducible refine H55.out.mono ?_; rintro e w5 ⟨rfl, hb5⟩; have HB5 := Lib.hid (HB.out.drew.trans (hb5.out.mono HB.out.drew.size)); clear hb5))
                    go_wp2_with fail
                    go_ret2
                    exact ⟨by rw [HR9.out _ (by omega) (HKN.out (by trivial))]; rfl, Lib.hid (HB1.out.trans (HB5.out.mono HB1.out.size))⟩
                  · go_upto_region 19 with fail
                    go_region_held3 (fun W => (W.cell? ⟨gT, 0, none⟩ = some (.slice x.a b x.ca) ∧ W.cell? ⟨gT, 1, none⟩ = some (.slice x.b s.order.length x.cb) ∧ W.cell? ⟨gT, 2, none⟩ = some (.int .i64 s.keep) ∧ W.cell? ⟨gT, 3, none⟩ = some (.int .i64 s.room)) ∧ W.cell? ⟨pb, po + j, none⟩ = some (.int .i64 (a : Int)))
                      ((refine HS19.out _ ?_; (repeat (with_reducible first | exact HB.out | exact HB5.out | refine Below.drew ?_)); done))
                      ((go_at_call 102; with_reducible refine H55.out.mono ?_; rintro e w5 ⟨rfl, hb5⟩; have HB5 := Lib.hid (HB.out.drew.trans (hb5.out.mono HB.out.drew.size)); clear hb5))
                    go_wp2_with fail
                    go_roundw
                    case rel => exact ⟨j + 1, _, by omega, by go_num, rfl, Lib.hid (HKY.out (by trivial)), HB5⟩
                    case measure => simp [intOf]; omega
              · skip
                obtain rfl : j = m := by omega
                have HR3 := Lib.hid (HR0.out cv HC.out)
                go_wp2_with fail
                go_ret2
                exact ⟨by rw [HR3.out]; rfl, Lib.hid (HB1.out.trans (HB.out.mono HB1.out.size))⟩
      · skip
        have HR3 := Lib.hid (HBAD.out (by unfold badW; have h := HZ0.out; rw [HP0.out] at h; simp at h; simp [h]))
        go_enter Try.func61, Try.ntmps61
        go_upto_region 1 with fail
        rw [← HW1.out, ← HGT.out]
        go_wp2_with (go_at_call 59; with_reducible refine HCK.out.mono ?_; rintro e w2 ⟨rfl, HB2⟩; clear r0 r1 r2 r3; obtain ⟨-, r0, r1, r2, r3⟩ := HTB.out w2 HB2.out; have d0 := HCE.out w2 HB2.out 0 (by omega); rw [← HP0.out] at d0; simp at d0)
        go_ret2
        exact ⟨by rw [HR3.out]; rfl, Lib.hid (HB1.out.trans (HB2.out.mono HB1.out.size))⟩
  · skip
    have hr2 : r = (0, errS s) := by rw [hr]; unfold cstP; rw [if_pos he]
    subst hr2
    obtain ⟨ck, hck⟩ : ∃ c, c = errS s := ⟨_, rfl⟩
    rw [← hck] at HCK he ⊢
    have ht : (ck != 0) = true := by simpa using he
    unfold supV at *
    clear hT hT1 he hck hA hr
    go_enter Try.func61, Try.ntmps61
    go_upto_region 1 with fail
    rw [← HW1.out, ← HGT.out]
    go_wp2_with (go_at_call 59; with_reducible refine HCK.out.mono ?_; rintro e w2 ⟨rfl, HB2⟩)
    go_ret2
    exact ⟨rfl, Lib.hid (HB1.out.trans (HB2.out.mono HB1.out.size))⟩
end Go.Proofs.Ytnbnfadmbggfnaa
