/- Contract of Cost; conditions: a supply and weeks in memory. Printed by a program. -/
import Derived.Test.YtnbnfadmbggfnaaA6
set_option linter.unusedSimpArgs false
set_option linter.unusedVariables false
namespace Go.Rl
open Go.Fh Go.RowKit
def cstQ (s : SupD) (n : Nat) (ws : List Int) : Int × Int := if badW n ws = true then (0, 1) else
  match costK s n (natW ws) ws.length with
  | none => (0, 9)
  | some c => (c, 0)
theorem cstQ_bad {s : SupD} {n : Nat} {ws : List Int} (h : badW n ws = true) : cstQ s n ws = (0, 1) := by unfold cstQ; rw [if_pos h]
theorem cstQ_none {s : SupD} {n : Nat} {ws : List Int} (h : badW n ws = false) (hc : costK s n (natW ws) ws.length = none) : cstQ s n ws = (0, 9) := by unfold cstQ; rw [if_neg (by rw [h]; simp), hc]
theorem cstQ_some {s : SupD} {n : Nat} {ws : List Int} {c : Int} (h : badW n ws = false) (hc : costK s n (natW ws) ws.length = some c) : cstQ s n ws = (c, 0) := by unfold cstQ; rw [if_neg (by rw [h]; simp), hc]
theorem costK_bd {s : SupD} (h : SupOk s) {n : Nat} (hn : n ≤ 20) {ws : List Nat} (hw : WksOk n ws) : ∀ j c, j ≤ ws.length → costK s n ws j = some c → 0 ≤ c ∧ c ≤ 401000000 * j := by
  intro j
  induction j with
  | zero => intro c _ e; injection e with e; omega
  | succ j ih =>
    intro c hj e
    simp only [costK] at e
    split at e
    · cases e
    · rename_i b hb
      split at e
      · cases e
      · rename_i d hd
        injection e with e
        have := ih b (by omega) hb
        have := cov_bd h (by have := (toW_lt hw (j := j) (by omega)).2; omega) hd
        omega
end Go.Rl
namespace Go.Proofs.Ytnbnfadmbggfnaa
open Go.RowKit Go.Fh Go.Rl
set_option maxRecDepth 20000 in
set_option maxHeartbeats 4000000 in
theorem cost_c (s : SupD) (x : SA) (w : World) (hl : s.need.length ≤ 1000000000 ∧ s.order.length ≤ 1000000000) (hT : SupAt w w.heap.size s x) (A : Option Addr) (c m : Nat) (ws : List Int) (hm : ws.length = m) (hm9 : m ≤ 1000000000) (hA : Sl encInt 1 w w.heap.size A ws) (r : Int × Int) (hr : r = cstP s ws) :
    Calls Try.prog 26 #[.agg #[.slice x.a s.need.length x.ca, .slice x.b s.order.length x.cb, .int .i64 s.keep, .int .i64 s.room], .slice A m c] w fun e w' => e = .returned (.tuple #[.int .i64 r.1, .int .i64 r.2]) ∧ Hid (Below w.heap.size w w') := by
  obtain ⟨w1, gT, HW1, HGT, HB1, HTB⟩ := sup_box 60 s x w hT
  obtain ⟨hT1, r0, r1, r2, r3⟩ := HTB.out w1 (Below.refl _ _)
  have HCK := Lib.hid (chkS_any s x w1 hl hT1)
  by_cases he : errS s = 0
  · have hs := sup_ok he
    have hn1 := hs.n0
    have hn20 := hs.n1
    have hr2 : r = cstQ s s.need.length ws := by rw [hr]; unfold cstP; rw [if_neg (by simpa using he)]; rfl
    clear hr
    rw [he] at HCK
    have HCV := Lib.hid (fun W (hb : Below w1.heap.size w1 W) (fr tp : Nat) (h1 : fr < tp) (h2 : tp ≤ s.need.length) => covers_any s x W hs (HTB.out W hb).1 fr tp h1 h2)
    have HAW := Lib.hid (fun W (hb : Below w1.heap.size w1 W) => (hA.below (HB1.out.trans (hb.mono HB1.out.size))).mono ((HB1.out.trans (hb.mono HB1.out.size)).size))
    have HS := Lib.hid hs
    have HM := Lib.hid hm
    obtain ⟨n, hn⟩ : ∃ n, n = s.need.length := ⟨_, rfl⟩
    unfold supV at *
    rw [← hn] at r0 HTB HW1 HCK HCV hr2 hn1 hn20 ⊢
    have HR2 := Lib.hid hr2
    clear hT hT1 hs hA he hl hm hn hr2
    have nw : IntKind.i64.wrap ((n : Int) - 1) = (n : Int) - 1 := by rw [IntKind.wrap_i64]; omega
    have HBAD := Lib.hid (show badW n ws = true → r = (0, 1) from fun h => by rw [HR2.out, cstQ_bad h])
    have HR9 := Lib.hid (show badW n ws = false → ∀ j, j ≤ m → costK s n (natW ws) j = none → r = (0, 9) from fun hb j hj h => by
      rw [HR2.out, cstQ_none hb (by rw [HM.out]; exact costK_stop h hj)])
    have HR0 := Lib.hid (show badW n ws = false → ∀ c, costK s n (natW ws) m = some c → r = (c, 0) from fun hb c h => by
      rw [HR2.out, cstQ_some hb (by rw [HM.out]; exact h)])
    by_cases hm0 : m = 0
    · skip
      have hr3 := HBAD.out (by unfold badW; rw [HM.out, hm0]; simp)
      subst hr3
      have hd : ((m : Int) == 0) = true := by simp [hm0]
      clear hm0
      go_enter Try.func26, Try.ntmps26
      go_upto_region 1 with fail
      rw [← HW1.out, ← HGT.out]
      go_wp2_with (go_at_call 52; with_reducible refine HCK.out.mono ?_; rintro e w2 ⟨rfl, HB2⟩; clear r0 r1 r2 r3; obtain ⟨-, r0, r1, r2, r3⟩ := HTB.out w2 HB2.out)
      go_ret2
      exact ⟨rfl, Lib.hid (HB1.out.trans (HB2.out.mono HB1.out.size))⟩
    · skip
      have hd : ((m : Int) == 0) = false := by simp; omega
      have hm1 : 0 < m := by omega
      obtain ⟨pb, po, hpa, hpb, d0⟩ := (HAW.out w1 (Below.refl _ _)).at1 (k := 0) (by rw [HM.out]; omega)
      subst hpa
      have HCE := Lib.hid (show ∀ W, Below w1.heap.size w1 W → ∀ j, j < m → W.cell? ⟨pb, po + j, none⟩ = some (.int .i64 (nd ws j)) from fun W hb j hj => by
        have hjl : j < ws.length := by rw [HM.out]; exact hj
        rw [nd_get hjl]; exact Sl.at1' (HAW.out W hb) hjl)
      clear d0 hm0
      obtain ⟨p0, hp0⟩ : ∃ v, v = nd ws 0 := ⟨_, rfl⟩
      have HP0 := Lib.hid hp0
      obtain ⟨z0, hz0⟩ : ∃ b, b = (p0 != 0) := ⟨_, rfl⟩
      have hz0' := hz0.symm
      have HZ0 := Lib.hid hz0
      have m8 : (0 : Int) < (m : Int) := by omega
      clear hp0 hz0
      cases z0
      · skip
        go_enter Try.func26, Try.ntmps26
        go_upto_region 1 with fail
        rw [← HW1.out, ← HGT.out]
        go_wp2_with (go_at_call 52; with_reducible refine HCK.out.mono ?_; rintro e w2 ⟨rfl, HB2⟩; clear r0 r1 r2 r3; obtain ⟨-, r0, r1, r2, r3⟩ := HTB.out w2 HB2.out; have d0 := HCE.out w2 HB2.out 0 (by omega); rw [← HP0.out] at d0; simp at d0)
        go_loopw [31] (fun u wr => ∃ j : Nat, j ≤ m ∧ u = .int .i64 (j : Int) ∧ Hid (∀ j', j' < j → wkJ n ws j' = true) ∧ w2 = wr) (fun u _ => m - (intOf u).toNat)
        case atStart => exact ⟨0, Nat.zero_le _, rfl, Lib.hid (fun j' h => by omega), rfl⟩
        case round =>
          obtain ⟨j, hj, rfl, HJ, rfl⟩ := hrel
          by_cases hlt : j < m
          · skip
            have d1 := HCE.out w2 HB2.out j hlt
            obtain ⟨v, hv⟩ : ∃ v, v = nd ws j := ⟨_, rfl⟩
            rw [← hv] at d1
            obtain ⟨b1, hb1⟩ : ∃ b, b = inB v 0 ((n : Int) - 1) := ⟨_, rfl⟩
            obtain ⟨b2, hb2⟩ : ∃ b, b = decide (nd ws (j - 1) < v) := ⟨_, rfl⟩
            have HWK := Lib.hid (wkJ_b (n := n) (ws := ws) (j := j) hv hb1 hb2)
            have HB2V := Lib.hid hb2
            have H48 := Lib.hid (show ∀ W, Calls Try.prog 48 #[.int .i64 v, .int .i64 0, .int .i64 ((n : Int) - 1)] W fun e w' => e = .returned (.bool b1) ∧ W = w' from fun W => by rw [hb1]; exact within_any _ _ _ _)
            have i0 : (0 : Int) ≤ (j : Int) := by omega
            have i1 : (j : Int) < (m : Int) := by omega
            clear hv hb1 hb2
            cases b1
            · have hr3 := HBAD.out (badW_of (j := j) (by rw [HM.out]; exact hlt) (by rw [HWK.out]; rfl))
              have HR3 := Lib.hid hr3
              clear hr3
              go_wp2_with (go_at_call 48; with_reducible refine (H48.out _).mono ?_; rintro e w3 ⟨rfl, rfl⟩)
              go_ret2
              exact ⟨by rw [HR3.out]; rfl, Lib.hid (HB1.out.trans (HB2.out.mono HB1.out.size))⟩
            · by_cases hj0 : j = 0
              · have hd0 : decide ((0 : Int) < (j : Int)) = false := by simp; omega
                have HWT := Lib.hid (show wkJ n ws j = true by rw [HWK.out, hj0]; simp)
                have hd1 : decide (0 < j) = false := by simp; omega
                have hd2 : ¬ 0 < j := by omega
                clear hj0
                go_wp2_with (go_at_call 48; with_reducible refine (H48.out _).mono ?_; rintro e w3 ⟨rfl, rfl⟩)
                go_roundw
                case rel => exact ⟨j + 1, by omega, by go_num, Lib.hid (fun j' h => by
                  by_cases e : j' = j
                  · subst e; exact HWT.out
                  · exact HJ.out j' (by omega)), trivial⟩
                case measure => simp [intOf]; omega
              · have hd0 : decide ((0 : Int) < (j : Int)) = true := by simp; omega
                have d2 := HCE.out w2 HB2.out (j - 1) (by omega)
                obtain ⟨u, hu⟩ : ∃ u, u = nd ws (j - 1) := ⟨_, rfl⟩
                rw [← hu] at d2 HB2V
                have hle : decide (v ≤ u) = !b2 := by rw [HB2V.out]; by_cases h : u < v <;> simp [h] <;> omega
                have HWT := Lib.hid (show wkJ n ws j = b2 by rw [HWK.out]; simp [hj0])
                have j1 : (1 : Int) ≤ (j : Int) := by omega
                have j2 : ((j : Int) - 1).toNat = j - 1 := by omega
                have j3 : (0 : Int) ≤ (j : Int) - 1 := by omega
                have j4 : (j : Int) - 1 < (m : Int) := by omega
                clear hu hj0
                cases b2
                · have HR3 := Lib.hid (HBAD.out (badW_of (j := j) (by rw [HM.out]; exact hlt) HWT.out))
                  have hle2 : decide (v ≤ u) = true := hle
                  clear hle
                  go_wp2_with (go_at_call 48; with_reducible refine (H48.out _).mono ?_; rintro e w3 ⟨rfl, rfl⟩)
                  go_ret2
                  exact ⟨by rw [HR3.out]; rfl, Lib.hid (HB1.out.trans (HB2.out.mono HB1.out.size))⟩
                · have hle2 : decide (v ≤ u) = false := hle
                  clear hle
                  go_wp2_with (go_at_call 48; with_reducible refine (H48.out _).mono ?_; rintro e w3 ⟨rfl, rfl⟩)
                  go_roundw
                  case rel => exact ⟨j + 1, by omega, by go_num, Lib.hid (fun j' h => by
                    by_cases e : j' = j
                    · subst e; exact HWT.out
                    · exact HJ.out j' (by omega)), trivial⟩
                  case measure => simp [intOf]; omega
          · skip
            obtain rfl : j = m := by omega
            have hbw : badW n ws = false := badW_no (by rw [HM.out]; omega) (by have := HZ0.out; rw [← HP0.out]; simpa using this.symm) (fun j' hj' => HJ.out j' (by rw [HM.out] at hj'; exact hj'))
            have hwo := wks_ok hbw
            have HWO := Lib.hid hwo.1
            have HEQ := Lib.hid (show ∀ j', j' < j → ((natW ws).getD j' 0 : Int) = nd ws j' from fun j' h => hwo.2 j' (by rw [HM.out]; exact h))
            have HR9 := Lib.hid (HR9.out hbw)
            have HR0 := Lib.hid (HR0.out hbw)
            have HLN := Lib.hid (show (natW ws).length = j by simp [natW, HM.out])
            obtain ⟨m, hmj⟩ : ∃ m, m = j := ⟨_, rfl⟩
            subst hmj
            clear hwo hbw hlt hj
            go_wp2_with fail
            go_loopw [9, 59] (fun c u wr => ∃ (j : Nat) (cv : Int), j ≤ m ∧ u = .int .i64 (j : Int) ∧ c = .int .i64 cv ∧ Hid (costK s n (natW ws) j = some cv) ∧ Hid (Below w1.heap.size w1 wr)) (fun _ u _ => m - (intOf u).toNat)
            case atStart => exact ⟨0, 0, Nat.zero_le _, rfl, rfl, Lib.hid rfl, HB2⟩
            case round =>
              obtain ⟨j, cv, hj, rfl, rfl, HC, HB⟩ := hrel
              by_cases hlt : j < m
              · have hcvb := costK_bd HS.out hn20 HWO.out j cv (by rw [HLN.out]; omega) HC.out
                have hm20 : m ≤ 20 := by
                  have h := HWO.out
                  have key : ∀ q, q < (natW ws).length → q ≤ (natW ws).getD q 0 := by
                    intro q
                    induction q with
                    | zero => intro _; omega
                    | succ q ih => intro hq; have := ih (by omega); have := h.up q hq; omega
                  have h1 := key (m - 1) (by rw [HLN.out]; omega)
                  have h2 := h.lt (m - 1) (by rw [HLN.out]; omega)
                  omega
                have e0 := HCE.out wr HB.out j hlt
                have hjj := HEQ.out j hlt
                rw [← hjj] at e0
                have HTW := Lib.hid (toW_lt HWO.out (j := j) (by rw [HLN.out]; exact hlt))
                obtain ⟨a, ha⟩ : ∃ a, a = (natW ws).getD j 0 := ⟨_, rfl⟩
                rw [← ha] at e0 HTW
                have HA0 := Lib.hid ha
                have i0 : (0 : Int) ≤ (j : Int) := by omega
                have i1 : (j : Int) < (m : Int) := by omega
                have jw : IntKind.i64.wrap ((j : Int) + 1) = (j : Int) + 1 := by rw [IntKind.wrap_i64]; omega
                obtain ⟨-, r0, r1, r2, r3⟩ := HTB.out wr HB.out
                clear hjj ha
                by_cases hl2 : j + 1 < m
                · skip
                  have e1 := HCE.out wr HB.out (j + 1) (by omega)
                  have hnx := HEQ.out (j + 1) (by omega)
                  rw [← hnx] at e1
                  have hto : toW n (natW ws) j = (natW ws).getD (j + 1) 0 := by unfold toW; rw [if_pos (by rw [HLN.out]; exact hl2)]
                  obtain ⟨b, hb⟩ : ∃ b, b = (natW ws).getD (j + 1) 0 := ⟨_, rfl⟩
                  rw [← hb] at e1 hto
                  have hl3 : decide ((j : Int) + 1 < (m : Int)) = true := by simp; omega
                  have j4 : ((j : Int) + 1).toNat = j + 1 := by omega
                  have j5 : (0 : Int) ≤ (j : Int) + 1 := by omega
                  have j6 : (j : Int) + 1 < (m : Int) := by omega
                  clear hb hnx
                  have htl := HTW.out
                  rw [hto] at htl
                  have H55 := Lib.hid (HCV.out wr HB.out a b htl.1 htl.2)
                  have hcb := covC_bd HS.out (fr := a) (tp := b) (by omega)
                  have HKY := Lib.hid (show covB s a b = true → costK s n (natW ws) (j + 1) = some (cv + covC s a b) from fun h => costK_s HC.out (by rw [← HA0.out, hto]; exact cov_some h))
                  have HKN := Lib.hid (show covB s a b = false → costK s n (natW ws) (j + 1) = none from fun h => costK_no (by rw [← HA0.out, hto]; exact cov_none h))
                  obtain ⟨ok, hok⟩ : ∃ q, q = covB s a b := ⟨_, rfl⟩
                  obtain ⟨cc, hcc⟩ : ∃ q, q = covC s a b := ⟨_, rfl⟩
                  rw [← hok] at H55 HKY HKN
                  rw [← hcc] at H55 hcb HKY
                  have sw : IntKind.i64.wrap (cv + cc) = cv + cc := by rw [IntKind.wrap_i64]; omega
                  clear hok hcc htl hto hl2
                  cases ok
                  · go_wp2_with (go_at_call 55; with_reducible refine H55.out.mono ?_; rintro e w5 ⟨rfl, hb5⟩; have HB5 := Lib.hid (HB.out.trans (hb5.out.mono HB.out.size)); clear hb5)
                    go_ret2
                    exact ⟨by rw [HR9.out _ (by omega) (HKN.out (by trivial))]; rfl, Lib.hid (HB1.out.trans (HB5.out.mono HB1.out.size))⟩
                  · go_wp2_with (go_at_call 55; with_reducible refine H55.out.mono ?_; rintro e w5 ⟨rfl, hb5⟩; have HB5 := Lib.hid (HB.out.trans (hb5.out.mono HB.out.size)); clear hb5)
                    go_roundw
                    case rel => exact ⟨j + 1, _, by omega, by go_num, rfl, Lib.hid (HKY.out (by trivial)), HB5⟩
                    case measure => simp [intOf]; omega
                · skip
                  have hto : toW n (natW ws) j = n := by unfold toW; rw [if_neg (by rw [HLN.out]; exact hl2)]
                  obtain ⟨b, hb⟩ : ∃ b, b = n := ⟨_, rfl⟩
                  rw [← hb] at hto
                  have hl3 : decide ((j : Int) + 1 < (m : Int)) = false := by simp; omega
                  subst hb
                  have htl := HTW.out
                  rw [hto] at htl
                  have H55 := Lib.hid (HCV.out wr HB.out a b htl.1 htl.2)
                  have hcb := covC_bd HS.out (fr := a) (tp := b) (by omega)
                  have HKY := Lib.hid (show covB s a b = true → costK s b (natW ws) (j + 1) = some (cv + covC s a b) from fun h => costK_s HC.out (by rw [← HA0.out, hto]; exact cov_some h))
                  have HKN := Lib.hid (show covB s a b = false → costK s b (natW ws) (j + 1) = none from fun h => costK_no (by rw [← HA0.out, hto]; exact cov_none h))
                  obtain ⟨ok, hok⟩ : ∃ q, q = covB s a b := ⟨_, rfl⟩
                  obtain ⟨cc, hcc⟩ : ∃ q, q = covC s a b := ⟨_, rfl⟩
                  rw [← hok] at H55 HKY HKN
                  rw [← hcc] at H55 hcb HKY
                  have sw : IntKind.i64.wrap (cv + cc) = cv + cc := by rw [IntKind.wrap_i64]; omega
                  clear hok hcc htl hto hl2
                  cases ok
                  · go_wp2_with (go_at_call 55; with_reducible refine H55.out.mono ?_; rintro e w5 ⟨rfl, hb5⟩; have HB5 := Lib.hid (HB.out.trans (hb5.out.mono HB.out.size)); clear hb5)
                    go_ret2
                    exact ⟨by rw [HR9.out _ (by omega) (HKN.out (by trivial))]; rfl, Lib.hid (HB1.out.trans (HB5.out.mono HB1.out.size))⟩
                  · go_wp2_with (go_at_call 55; with_reducible refine H55.out.mono ?_; rintro e w5 ⟨rfl, hb5⟩; have HB5 := Lib.hid (HB.out.trans (hb5.out.mono HB.out.size)); clear hb5)
                    go_roundw
                    case rel => exact ⟨j + 1, _, by omega, by go_num, rfl, Lib.hid (HKY.out (by trivial)), HB5⟩
                    case measure => simp [intOf]; omega
              · skip
                obtain rfl : j = m := by omega
                have HR3 := Lib.hid (HR0.out cv HC.out)
                go_wp2_with fail
                go_ret2
                exact ⟨by rw [HR3.out]; rfl, Lib.hid (HB1.out.trans (HB.out.mono HB1.out.size))⟩
      · skip
        have HR3 := Lib.hid (HBAD.out (by unfold badW; have h := HZ0.out; rw [HP0.out] at h; simp at h; simp [h]))
        go_enter Try.func26, Try.ntmps26
        go_upto_region 1 with fail
        rw [← HW1.out, ← HGT.out]
        go_wp2_with (go_at_call 52; with_reducible refine HCK.out.mono ?_; rintro e w2 ⟨rfl, HB2⟩; clear r0 r1 r2 r3; obtain ⟨-, r0, r1, r2, r3⟩ := HTB.out w2 HB2.out; have d0 := HCE.out w2 HB2.out 0 (by omega); rw [← HP0.out] at d0; simp at d0)
        go_ret2
        exact ⟨by rw [HR3.out]; rfl, Lib.hid (HB1.out.trans (HB2.out.mono HB1.out.size))⟩
  · skip
    have hr2 : r = (0, errS s) := by rw [hr]; unfold cstP; rw [if_pos he]
    subst hr2
    obtain ⟨ck, hck⟩ : ∃ c, c = errS s := ⟨_, rfl⟩
    rw [← hck] at HCK he ⊢
    have ht : (ck != 0) = true := by simpa using he
    unfold supV at *
    clear hT hT1 he hck hA hr
    go_enter Try.func26, Try.ntmps26
    go_upto_region 1 with fail
    rw [← HW1.out, ← HGT.out]
    go_wp2_with (go_at_call 52; with_reducible refine HCK.out.mono ?_; rintro e w2 ⟨rfl, HB2⟩)
    go_ret2
    exact ⟨rfl, Lib.hid (HB1.out.trans (HB2.out.mono HB1.out.size))⟩
end Go.Proofs.Ytnbnfadmbggfnaa
