/- The walk of ReelRun; conditions: bytes and small numbers. -/
import Derived.Test.YtnbnfadmbggfnaaQR
set_option linter.unusedSimpArgs false
set_option linter.unusedVariables false
namespace Go.Proofs.Ytnbnfadmbggfnaa
open Go.RowKit Go.Fh Go.Rl
theorem out_c (A : Option Addr) (c : Nat) (S : List (Int × Int)) (k : Int) (w : World) (hl : S.length ≤ 1000000) (hA : Sl enc2 2 w w.heap.size A S) (o : Bool) (ho : o = outS S k) :
    Calls Try.prog 18 #[.slice A S.length c, .int .i64 k] w fun e w' => e = .returned (.bool o) ∧ Hid (Below w.heap.size w w') := by
  subst ho; exact out18_any A c S k w (by omega) hA
set_option maxRecDepth 20000 in
set_option maxHeartbeats 4000000 in
theorem reelRun_walk (haw : ∀ w, Calls Try.prog 17 #[] w fun e w' => e = .returned (.bool true) ∧ Below w.heap.size w w') (A : Option Addr) (c : Nat) (l : List Nat) (good fewer : Int) (w : World) (hl : l.length ≤ 9223372036854775807) (hbd : ∀ x ∈ l, x ≤ 255) (hA : Sl encBn 1 w w.heap.size A l)
    (hg0 : 0 ≤ good) (hg1 : good ≤ 65535) (hf0 : 0 ≤ fewer) (hf1 : fewer ≤ 65535) :
    Calls Try.prog 3 #[.slice A l.length c, .int .u16 good, .int .u16 fewer] w fun e w' => e = .returned (.bool true) ∧ Below w.heap.size w w' := by
  have HMD := Lib.hid (made_any A c l w hl hbd hA)
  have he := made_err l
  obtain ⟨p, hp⟩ : ∃ p, p = madeP l := ⟨_, rfl⟩
  rw [← hp] at HMD he
  clear hp hA hl hbd
  have hb := rch_bd he
  obtain ⟨R, hR⟩ : ∃ R, R = rchP p := ⟨_, rfl⟩
  obtain ⟨S0, hS0⟩ : ∃ S, S = thrP p R := ⟨_, rfl⟩
  obtain ⟨g, hg⟩ : ∃ g, g = good.tmod (R + 3) := ⟨_, rfl⟩
  rw [← hR] at hb
  have hgb : 0 ≤ g ∧ g ≤ 65535 := by
    rw [hg, Int.tmod_eq_emod_of_nonneg hg0]
    have h1 := Int.emod_nonneg good (b := R + 3) (by omega)
    have h2 := Int.mul_ediv_add_emod good (R + 3)
    have h3 : 0 ≤ (R + 3) * (good / (R + 3)) := Int.mul_nonneg (by omega) (Int.ediv_nonneg hg0 (by omega))
    omega
  have HE := Lib.hid he
  have HR := Lib.hid hR
  have HS0 := Lib.hid hS0
  have hl0 := thr_len (fun v hv => ((prs_ok he).w v hv).n) R
  have hm6 := (prs_ok he).n1
  rw [← hS0] at hl0
  have hrc := run_cases he hgb.1 (by omega)
  rw [← hR, ← hS0] at hrc
  have hkp := run_keeps (p := p) (g := g)
  rw [← hR, ← hS0] at hkp
  obtain ⟨C0, hC0⟩ : ∃ x, x = cntS S0 := ⟨_, rfl⟩
  rw [← hC0] at hrc
  have HC0 := Lib.hid hC0
  have hRle : R ≤ rchP p := by omega
  have HRL := Lib.hid hRle
  have w1 : IntKind.i64.wrap good = good := by rw [IntKind.wrap_i64]; omega
  have w2 : IntKind.i64.wrap (R + 3) = R + 3 := by rw [IntKind.wrap_i64]; omega
  have w3 : good.tmod (R + 3) = g := hg.symm
  have w4 : (R + 3 == 0) = false := by simp; omega
  have w5 : ¬ (R + 3 = 0) := by omega
  have hc0 : 0 ≤ C0 ∧ C0 ≤ 200000000 := by
    rw [hC0, hS0]
    have h1 := thr_join p R
    refine ⟨cntS_nonneg h1.le, ?_⟩
    have : ∀ (l : List (Int × Int)), (∀ s ∈ l, 0 ≤ s.1 ∧ s.1 ≤ s.2 ∧ s.2 ≤ R - 1) → cntS l ≤ 1000000 * l.length := by
      intro l
      induction l with
      | nil => intro _; simp [cntS]
      | cons x l ih =>
        intro h
        have h2 := h x (by simp)
        have h3 := ih fun s hs => h s (by simp [hs])
        rw [cntS, List.length_cons]; omega
    have h4 := this (thrP p R) (fun s hs => thr_bd hs)
    rw [← hS0] at h4 ⊢
    omega
  clear hg hR hS0 hC0
  rcases hrc with ⟨hrp, hlt⟩ | ⟨hrp, hn0, hn1, hn2⟩
  · -- the paper does not suffice
    have HQ := Lib.hid hrp
    have t1 : decide (R - C0 < g) = true := by simpa using hlt
    have w6 : IntKind.i64.wrap (R - C0) = R - C0 := by rw [IntKind.wrap_i64]; omega
    clear hrp hkp he hm6
    go_enter Try.func3, Try.ntmps3
    go_upto_region 2 with (go_at_call 12; with_reducible refine HMD.out.mono ?_; rintro e w1' ⟨AW, c0, ms, rfl, hM⟩; have HMM := Lib.hid hM; clear hM)
    obtain ⟨M, hM⟩ : ∃ M, M = ms.length := ⟨_, rfl⟩
    rw [← hM]
    have HM := Lib.hid hM
    obtain ⟨w2', g7, HW2, HG7, HBW, HAT, HC⟩ := mp_box 26 p w AW c0 ms w1' HMM.out.at_ M hM
    have HB1' := Lib.hid HMM.out.low
    obtain ⟨x0, x1, x2⟩ := HC.out _ (Below.refl _ _)
    have HBN := Lib.hid (Below.refl w2'.heap.size w2')
    rw [← HW2.out, ← HG7.out]
    clear hM
    go_wp2_with first
      | (go_at_call 13; with_reducible refine (reach_c p AW c0 M ms _ (HAT.out _ HBN.out) HM.out HE.out R HR.out).mono ?_; rintro e wn ⟨rfl, HB⟩; have HBN := Lib.hid (bstep HBN.out HB.out); clear x0 x1 x2; obtain ⟨x0, x1, x2⟩ := HC.out _ HBN.out; clear HB)
      | (go_at_call 14; with_reducible refine (thr14_c p AW c0 M ms _ (HAT.out _ HBN.out) HM.out HE.out R hb.1 HRL.out S0 HS0.out).mono ?_; rintro e wn ⟨A1, cA1, rfl, HSW, HB⟩; have HBN := Lib.hid (bstep HBN.out HB.out); clear x0 x1 x2; obtain ⟨x0, x1, x2⟩ := HC.out _ HBN.out; clear HB)
      | (go_at_call 15; with_reducible refine (run_c p AW c0 M ms _ (HAT.out _ HBN.out) HM.out HE.out g 0 70 HQ.out.symm).mono ?_; rintro e wn ⟨rfl, HB⟩; have HBN := Lib.hid (bstep HBN.out HB.out); clear x0 x1 x2; obtain ⟨x0, x1, x2⟩ := HC.out _ HBN.out; (try have HSW := Lib.hid ((HSW.out.below HB.out).mono HB.out.size)); clear HB)
      | (go_at_call 16; with_reducible refine (count_c A1 cA1 p HE.out R HRL.out S0 HS0.out _ HSW.out C0 HC0.out).mono ?_; rintro e wn ⟨rfl, HB⟩; have HBN := Lib.hid (bstep HBN.out HB.out); clear x0 x1 x2; obtain ⟨x0, x1, x2⟩ := HC.out _ HBN.out; (try have HSW := Lib.hid ((HSW.out.below HB.out).mono HB.out.size)); clear HB)
      | (go_at_call 17; with_reducible refine (haw _).mono ?_; rintro e wn ⟨rfl, hb⟩; have HBN := Lib.hid (bstep HBN.out hb); clear hb)
    go_ret
    exact ⟨rfl, HB1'.out.trans ((bstep HBW.out HBN.out).mono HB1'.out.size)⟩
  · obtain ⟨N, hN⟩ : ∃ N, N = Go.Rl.runN S0 g := ⟨_, rfl⟩
    rw [← hN] at hrp hn0 hn1 hkp
    obtain ⟨hk1, hk2, hk3⟩ := hkp hn1
    obtain ⟨S1, hS1⟩ : ∃ S, S = thrP p N := ⟨_, rfl⟩
    obtain ⟨C1, hC1⟩ : ∃ x, x = cntS S1 := ⟨_, rfl⟩
    rw [← hS1] at hk1 hk2
    rw [← hC1] at hk1
    obtain ⟨m, hm⟩ : ∃ m, m = fewer.tmod (N + 1) := ⟨_, rfl⟩
    have hmb : 0 ≤ m ∧ m ≤ N := by
      rw [hm, Int.tmod_eq_emod_of_nonneg hf0]
      have h1 := Int.emod_nonneg fewer (b := N + 1) (by omega)
      have h2 := Int.emod_lt_of_pos fewer (b := N + 1) (by omega)
      omega
    obtain ⟨S2, hS2⟩ : ∃ S, S = thrP p m := ⟨_, rfl⟩
    obtain ⟨C2, hC2⟩ : ∃ x, x = cntS S2 := ⟨_, rfl⟩
    have hk4 : m < N → m - C2 < g := fun h => by rw [hC2, hS2]; exact hk3 m h
    have hc1 : 0 ≤ C1 := by rw [hC1, hS1]; exact cntS_nonneg (thr_join p N).le
    have hcg : N = 0 → C1 = 0 ∧ g = 0 := fun h => by omega
    have hc2 : 0 ≤ C2 := by rw [hC2, hS2]; exact cntS_nonneg (thr_join p m).le
    have hl1 := thr_len (fun v hv => ((prs_ok he).w v hv).n) N
    have hl2 := thr_len (fun v hv => ((prs_ok he).w v hv).n) m
    rw [← hS1] at hl1
    rw [← hS2] at hl2
    have HOP := Lib.hid (show ∀ k, k < m → outS S2 k = outS S0 k from fun k hk => by rw [hS2, HS0.out]; exact out_part (by omega) hk)
    have HQ := Lib.hid hrp
    have HS1E := Lib.hid hS1
    have HS2E := Lib.hid hS2
    have HC1 := Lib.hid hC1
    have HC2 := Lib.hid hC2
    have HN1 := Lib.hid (show N ≤ rchP p from by omega)
    have HM1 := Lib.hid (show m ≤ rchP p from by omega)
    have HO1 := Lib.hid hk2
    have v1 : IntKind.i64.wrap fewer = fewer := by rw [IntKind.wrap_i64]; omega
    have v2 : IntKind.i64.wrap (N + 1) = N + 1 := by rw [IntKind.wrap_i64]; omega
    have v3 : fewer.tmod (N + 1) = m := hm.symm
    have v4 : (N + 1 == 0) = false := by simp; omega
    have v5 : ¬ (N + 1 = 0) := by omega
    have v6 : IntKind.i64.wrap (N - C1) = N - C1 := by rw [IntKind.wrap_i64]; omega
    have t1 : decide (N > R) = false := by simp; omega
    have t2 : decide (R < N) = false := by simp; omega
    have t3 : (N - C1 != g) = false := by simp; omega
    have t4 : IntKind.i64.wrap (m - 40) = m - 40 := by rw [IntKind.wrap_i64]; omega
    have v7 : IntKind.i64.wrap (m - C2) = m - C2 := by
      have : C2 ≤ 200000000 := by
        have h4 : ∀ (l : List (Int × Int)), (∀ s ∈ l, 0 ≤ s.1 ∧ s.1 ≤ s.2 ∧ s.2 ≤ m - 1) → cntS l ≤ 1000000 * l.length := by
          intro l
          induction l with
          | nil => intro _; simp [cntS]
          | cons x l ih =>
            intro h
            have h2 := h x (by simp)
            have h3 := ih fun s hs => h s (by simp [hs])
            rw [cntS, List.length_cons]; omega
        have h5 := h4 (thrP p m) (fun s hs => thr_bd hs)
        rw [← hS2, ← hC2] at h5
        omega
      rw [IntKind.wrap_i64]; omega
    clear hrp hkp hk1 hk2 hk3 hS1 hC1 hm hS2 hC2 he hN
    by_cases hN0 : N = 0
    · have hm0 : m = 0 := by omega
      obtain ⟨hc10, hg00⟩ := hcg hN0
      subst hN0
      subst hm0
      subst hc10
      subst hg00
      clear hk4 v4 v5 t3 v7 hcg
      go_enter Try.func3, Try.ntmps3
      go_upto_region 2 with (go_at_call 12; with_reducible refine HMD.out.mono ?_; rintro e w1' ⟨AW, c0, ms, rfl, hM⟩; have H0 := Lib.hid hM; clear hM)
      obtain ⟨M, hM⟩ : ∃ M, M = ms.length := ⟨_, rfl⟩
      rw [← hM]
      have HM := Lib.hid hM
      obtain ⟨w2', g7, HW2, HG7, HBW, HAT, HC⟩ := mp_box 26 p w AW c0 ms w1' H0.out.at_ M hM
      have HB1' := Lib.hid H0.out.low
      obtain ⟨x0, x1, x2⟩ := HC.out _ (Below.refl _ _)
      have HBN := Lib.hid (Below.refl w2'.heap.size w2')
      rw [← HW2.out, ← HG7.out]
      clear hM
      go_upto_region 10 with first
        | (go_at_call 13; with_reducible refine (reach_c p AW c0 M ms _ (HAT.out _ HBN.out) HM.out HE.out R HR.out).mono ?_; rintro e wn ⟨rfl, HB⟩; have HBN := Lib.hid (bstep HBN.out HB.out); clear x0 x1 x2; obtain ⟨x0, x1, x2⟩ := HC.out _ HBN.out; clear HB)
        | (go_at_call 14; with_reducible refine (thr14_c p AW c0 M ms _ (HAT.out _ HBN.out) HM.out HE.out R hb.1 HRL.out S0 HS0.out).mono ?_; rintro e wn ⟨A1, cA1, rfl, HSW, HB⟩; have HBN := Lib.hid (bstep HBN.out HB.out); clear x0 x1 x2; obtain ⟨x0, x1, x2⟩ := HC.out _ HBN.out; clear HB)
        | (go_at_call 15; with_reducible refine (run_c p AW c0 M ms _ (HAT.out _ HBN.out) HM.out HE.out 0 0 0 HQ.out.symm).mono ?_; rintro e wn ⟨rfl, HB⟩; have HBN := Lib.hid (bstep HBN.out HB.out); clear x0 x1 x2; obtain ⟨x0, x1, x2⟩ := HC.out _ HBN.out; (try have HSW := Lib.hid ((HSW.out.below HB.out).mono HB.out.size)); clear HB)
      go_upto_region 13 with first
        | (go_at_call 14; with_reducible refine (thr14_c p AW c0 M ms _ (HAT.out _ HBN.out) HM.out HE.out 0 (by omega) HN1.out S1 HS1E.out).mono ?_; rintro e wn ⟨A2, cA2, rfl, HSN, HB⟩; have HBN := Lib.hid (bstep HBN.out HB.out); clear x0 x1 x2; obtain ⟨x0, x1, x2⟩ := HC.out _ HBN.out; (try have HSW := Lib.hid ((HSW.out.below HB.out).mono HB.out.size)); clear HB)
        | (go_at_call 16; with_reducible refine (count_c A2 cA2 p HE.out 0 HN1.out S1 HS1E.out _ HSN.out 0 HC1.out).mono ?_; rintro e wn ⟨rfl, HB⟩; have HBN := Lib.hid (bstep HBN.out HB.out); clear x0 x1 x2; obtain ⟨x0, x1, x2⟩ := HC.out _ HBN.out; (try have HSW := Lib.hid ((HSW.out.below HB.out).mono HB.out.size)); (try have HSN := Lib.hid ((HSN.out.below HB.out).mono HB.out.size)); clear HB)
        | (go_at_call 18; with_reducible refine (out_c A2 cA2 S1 (0 - 1) _ (by omega) HSN.out false HO1.out.symm).mono ?_; rintro e wn ⟨rfl, HB⟩; have HBN := Lib.hid (bstep HBN.out HB.out); clear x0 x1 x2; obtain ⟨x0, x1, x2⟩ := HC.out _ HBN.out; (try have HSW := Lib.hid ((HSW.out.below HB.out).mono HB.out.size)); clear HB)
      go_upto_region 19 with first
        | (go_at_call 14; with_reducible refine (thr14_c p AW c0 M ms _ (HAT.out _ HBN.out) HM.out HE.out 0 (by omega) HM1.out S2 HS2E.out).mono ?_; rintro e wn ⟨A3, cA3, rfl, HSM, HB⟩; have HBN := Lib.hid (bstep HBN.out HB.out); clear x0 x1 x2; obtain ⟨x0, x1, x2⟩ := HC.out _ HBN.out; (try have HSW := Lib.hid ((HSW.out.below HB.out).mono HB.out.size)); clear HB)
        | (go_at_call 16; with_reducible refine (count_c A3 cA3 p HE.out 0 HM1.out S2 HS2E.out _ HSM.out C2 HC2.out).mono ?_; rintro e wn ⟨rfl, HB⟩; have HBN := Lib.hid (bstep HBN.out HB.out); clear x0 x1 x2; obtain ⟨x0, x1, x2⟩ := HC.out _ HBN.out; (try have HSW := Lib.hid ((HSW.out.below HB.out).mono HB.out.size)); (try have HSM := Lib.hid ((HSM.out.below HB.out).mono HB.out.size)); clear HB)
      go_wp2_with fail
      go_loopw [17] (fun u wr => ∃ k : Int, 0 ≤ k ∧ k ≤ 0 ∧ u = .int .i64 k ∧ Hid (Below wn.heap.size wn wr)) (fun u _ => (0 - intOf u).toNat)
      case atStart => exact ⟨max (0 - 40) 0, by omega, by omega, by first | rfl | simp, Below.refl _ _⟩
      case round =>
        obtain ⟨k, hk0, hkm, rfl, HBL⟩ := hrel
        by_cases hlt : k < 0
        · obtain ⟨o, ho⟩ : ∃ o, o = outS S2 k := ⟨_, rfl⟩
          have HO2 := Lib.hid ho
          have HO3 := Lib.hid (ho.trans (HOP.out k hlt))
          have HWr := Lib.hid ((HSW.out.below HBL.out).mono HBL.out.size)
          have HTr := Lib.hid ((HSM.out.below HBL.out).mono HBL.out.size)
          have k1 : IntKind.i64.wrap (k + 1) = k + 1 := by rw [IntKind.wrap_i64]; omega
          clear ho
          cases o
          all_goals
            go_wp2_with first
              | (go_at_call 18; with_reducible refine (out_c A3 cA3 S2 k _ (by omega) HTr.out _ HO2.out).mono ?_; rintro e wm ⟨rfl, HB⟩; have HBL := Lib.hid (bstep HBL.out HB.out); have HWr := Lib.hid ((HWr.out.below HB.out).mono HB.out.size); clear HB)
              | (go_at_call 18; with_reducible refine (out_c A1 cA1 S0 k _ (by omega) HWr.out _ HO3.out).mono ?_; rintro e wm ⟨rfl, HB⟩; have HBL := Lib.hid (bstep HBL.out HB.out); clear HB)
            go_roundw
            case rel => exact ⟨k + 1, by omega, by omega, rfl, HBL⟩
            case measure => simp [intOf]; omega
        · go_wp2_with (go_at_call 17; with_reducible refine (haw _).mono ?_; rintro e wz ⟨rfl, hb⟩; have HBL := Lib.hid (bstep HBL.out hb); clear hb)
          go_ret
          exact ⟨rfl, HB1'.out.trans ((bstep (bstep HBW.out HBN.out) HBL.out).mono HB1'.out.size)⟩
    · have n1 : decide (N > 0) = true := by simp; omega
      have n2 : decide (0 < N) = true := by simp; omega
      have n3 : IntKind.i64.wrap (N - 1) = N - 1 := by rw [IntKind.wrap_i64]; omega
      by_cases hmN : m < N
      · have n4 : decide (m < N) = true := by simpa using hmN
        have n5 := hk4 hmN
        have n6 : decide (m - C2 > g) = false := by simp; omega
        have n7 : decide (g < m - C2) = false := by simp; omega
        have n8 : (m - C2 == g) = false := by simp; omega
        clear hk4 hN0 hcg
        go_enter Try.func3, Try.ntmps3
        go_upto_region 2 with (go_at_call 12; with_reducible refine HMD.out.mono ?_; rintro e w1' ⟨AW, c0, ms, rfl, hM⟩; have Hm := Lib.hid hM; clear hM)
        obtain ⟨M, hM⟩ : ∃ M, M = ms.length := ⟨_, rfl⟩
        rw [← hM]
        have HM := Lib.hid hM
        obtain ⟨w2', g7, HW2, HG7, HBW, HAT, HC⟩ := mp_box 26 p w AW c0 ms w1' Hm.out.at_ M hM
        have HB1' := Lib.hid Hm.out.low
        obtain ⟨x0, x1, x2⟩ := HC.out _ (Below.refl _ _)
        have HBN := Lib.hid (Below.refl w2'.heap.size w2')
        rw [← HW2.out, ← HG7.out]
        clear hM
        go_upto_region 10 with first
          | (go_at_call 13; with_reducible refine (reach_c p AW c0 M ms _ (HAT.out _ HBN.out) HM.out HE.out R HR.out).mono ?_; rintro e wn ⟨rfl, HB⟩; have HBN := Lib.hid (bstep HBN.out HB.out); clear x0 x1 x2; obtain ⟨x0, x1, x2⟩ := HC.out _ HBN.out; clear HB)
          | (go_at_call 14; with_reducible refine (thr14_c p AW c0 M ms _ (HAT.out _ HBN.out) HM.out HE.out R hb.1 HRL.out S0 HS0.out).mono ?_; rintro e wn ⟨A1, cA1, rfl, HSW, HB⟩; have HBN := Lib.hid (bstep HBN.out HB.out); clear x0 x1 x2; obtain ⟨x0, x1, x2⟩ := HC.out _ HBN.out; clear HB)
          | (go_at_call 15; with_reducible refine (run_c p AW c0 M ms _ (HAT.out _ HBN.out) HM.out HE.out g N 0 HQ.out.symm).mono ?_; rintro e wn ⟨rfl, HB⟩; have HBN := Lib.hid (bstep HBN.out HB.out); clear x0 x1 x2; obtain ⟨x0, x1, x2⟩ := HC.out _ HBN.out; (try have HSW := Lib.hid ((HSW.out.below HB.out).mono HB.out.size)); clear HB)
        go_upto_region 13 with first
          | (go_at_call 14; with_reducible refine (thr14_c p AW c0 M ms _ (HAT.out _ HBN.out) HM.out HE.out N (by omega) HN1.out S1 HS1E.out).mono ?_; rintro e wn ⟨A2, cA2, rfl, HSN, HB⟩; have HBN := Lib.hid (bstep HBN.out HB.out); clear x0 x1 x2; obtain ⟨x0, x1, x2⟩ := HC.out _ HBN.out; (try have HSW := Lib.hid ((HSW.out.below HB.out).mono HB.out.size)); clear HB)
          | (go_at_call 16; with_reducible refine (count_c A2 cA2 p HE.out N HN1.out S1 HS1E.out _ HSN.out C1 HC1.out).mono ?_; rintro e wn ⟨rfl, HB⟩; have HBN := Lib.hid (bstep HBN.out HB.out); clear x0 x1 x2; obtain ⟨x0, x1, x2⟩ := HC.out _ HBN.out; (try have HSW := Lib.hid ((HSW.out.below HB.out).mono HB.out.size)); (try have HSN := Lib.hid ((HSN.out.below HB.out).mono HB.out.size)); clear HB)
          | (go_at_call 18; with_reducible refine (out_c A2 cA2 S1 (N - 1) _ (by omega) HSN.out false HO1.out.symm).mono ?_; rintro e wn ⟨rfl, HB⟩; have HBN := Lib.hid (bstep HBN.out HB.out); clear x0 x1 x2; obtain ⟨x0, x1, x2⟩ := HC.out _ HBN.out; (try have HSW := Lib.hid ((HSW.out.below HB.out).mono HB.out.size)); clear HB)
        go_upto_region 19 with first
          | (go_at_call 14; with_reducible refine (thr14_c p AW c0 M ms _ (HAT.out _ HBN.out) HM.out HE.out m (by omega) HM1.out S2 HS2E.out).mono ?_; rintro e wn ⟨A3, cA3, rfl, HSM, HB⟩; have HBN := Lib.hid (bstep HBN.out HB.out); clear x0 x1 x2; obtain ⟨x0, x1, x2⟩ := HC.out _ HBN.out; (try have HSW := Lib.hid ((HSW.out.below HB.out).mono HB.out.size)); clear HB)
          | (go_at_call 16; with_reducible refine (count_c A3 cA3 p HE.out m HM1.out S2 HS2E.out _ HSM.out C2 HC2.out).mono ?_; rintro e wn ⟨rfl, HB⟩; have HBN := Lib.hid (bstep HBN.out HB.out); clear x0 x1 x2; obtain ⟨x0, x1, x2⟩ := HC.out _ HBN.out; (try have HSW := Lib.hid ((HSW.out.below HB.out).mono HB.out.size)); (try have HSM := Lib.hid ((HSM.out.below HB.out).mono HB.out.size)); clear HB)
        go_wp2_with fail
        go_loopw [17] (fun u wr => ∃ k : Int, 0 ≤ k ∧ k ≤ m ∧ u = .int .i64 k ∧ Hid (Below wn.heap.size wn wr)) (fun u _ => (m - intOf u).toNat)
        case atStart => exact ⟨max (m - 40) 0, by omega, by omega, by first | rfl | simp, Below.refl _ _⟩
        case round =>
          obtain ⟨k, hk0, hkm, rfl, HBL⟩ := hrel
          by_cases hlt : k < m
          · obtain ⟨o, ho⟩ : ∃ o, o = outS S2 k := ⟨_, rfl⟩
            have HO2 := Lib.hid ho
            have HO3 := Lib.hid (ho.trans (HOP.out k hlt))
            have HWr := Lib.hid ((HSW.out.below HBL.out).mono HBL.out.size)
            have HTr := Lib.hid ((HSM.out.below HBL.out).mono HBL.out.size)
            have k1 : IntKind.i64.wrap (k + 1) = k + 1 := by rw [IntKind.wrap_i64]; omega
            clear ho
            cases o
            all_goals
              go_wp2_with first
                | (go_at_call 18; with_reducible refine (out_c A3 cA3 S2 k _ (by omega) HTr.out _ HO2.out).mono ?_; rintro e wm ⟨rfl, HB⟩; have HBL := Lib.hid (bstep HBL.out HB.out); have HWr := Lib.hid ((HWr.out.below HB.out).mono HB.out.size); clear HB)
                | (go_at_call 18; with_reducible refine (out_c A1 cA1 S0 k _ (by omega) HWr.out _ HO3.out).mono ?_; rintro e wm ⟨rfl, HB⟩; have HBL := Lib.hid (bstep HBL.out HB.out); clear HB)
              go_roundw
              case rel => exact ⟨k + 1, by omega, by omega, rfl, HBL⟩
              case measure => simp [intOf]; omega
          · go_wp2_with (go_at_call 17; with_reducible refine (haw _).mono ?_; rintro e wz ⟨rfl, hb⟩; have HBL := Lib.hid (bstep HBL.out hb); clear hb)
            go_ret
            exact ⟨rfl, HB1'.out.trans ((bstep (bstep HBW.out HBN.out) HBL.out).mono HB1'.out.size)⟩
      · have n4 : decide (m < N) = false := by simpa using hmN
        clear hk4 hN0 hcg
        go_enter Try.func3, Try.ntmps3
        go_upto_region 2 with (go_at_call 12; with_reducible refine HMD.out.mono ?_; rintro e w1' ⟨AW, c0, ms, rfl, hM⟩; have Hm := Lib.hid hM; clear hM)
        obtain ⟨M, hM⟩ : ∃ M, M = ms.length := ⟨_, rfl⟩
        rw [← hM]
        have HM := Lib.hid hM
        obtain ⟨w2', g7, HW2, HG7, HBW, HAT, HC⟩ := mp_box 26 p w AW c0 ms w1' Hm.out.at_ M hM
        have HB1' := Lib.hid Hm.out.low
        obtain ⟨x0, x1, x2⟩ := HC.out _ (Below.refl _ _)
        have HBN := Lib.hid (Below.refl w2'.heap.size w2')
        rw [← HW2.out, ← HG7.out]
        clear hM
        go_upto_region 10 with first
          | (go_at_call 13; with_reducible refine (reach_c p AW c0 M ms _ (HAT.out _ HBN.out) HM.out HE.out R HR.out).mono ?_; rintro e wn ⟨rfl, HB⟩; have HBN := Lib.hid (bstep HBN.out HB.out); clear x0 x1 x2; obtain ⟨x0, x1, x2⟩ := HC.out _ HBN.out; clear HB)
          | (go_at_call 14; with_reducible refine (thr14_c p AW c0 M ms _ (HAT.out _ HBN.out) HM.out HE.out R hb.1 HRL.out S0 HS0.out).mono ?_; rintro e wn ⟨A1, cA1, rfl, HSW, HB⟩; have HBN := Lib.hid (bstep HBN.out HB.out); clear x0 x1 x2; obtain ⟨x0, x1, x2⟩ := HC.out _ HBN.out; clear HB)
          | (go_at_call 15; with_reducible refine (run_c p AW c0 M ms _ (HAT.out _ HBN.out) HM.out HE.out g N 0 HQ.out.symm).mono ?_; rintro e wn ⟨rfl, HB⟩; have HBN := Lib.hid (bstep HBN.out HB.out); clear x0 x1 x2; obtain ⟨x0, x1, x2⟩ := HC.out _ HBN.out; (try have HSW := Lib.hid ((HSW.out.below HB.out).mono HB.out.size)); clear HB)
        go_upto_region 13 with first
          | (go_at_call 14; with_reducible refine (thr14_c p AW c0 M ms _ (HAT.out _ HBN.out) HM.out HE.out N (by omega) HN1.out S1 HS1E.out).mono ?_; rintro e wn ⟨A2, cA2, rfl, HSN, HB⟩; have HBN := Lib.hid (bstep HBN.out HB.out); clear x0 x1 x2; obtain ⟨x0, x1, x2⟩ := HC.out _ HBN.out; (try have HSW := Lib.hid ((HSW.out.below HB.out).mono HB.out.size)); clear HB)
          | (go_at_call 16; with_reducible refine (count_c A2 cA2 p HE.out N HN1.out S1 HS1E.out _ HSN.out C1 HC1.out).mono ?_; rintro e wn ⟨rfl, HB⟩; have HBN := Lib.hid (bstep HBN.out HB.out); clear x0 x1 x2; obtain ⟨x0, x1, x2⟩ := HC.out _ HBN.out; (try have HSW := Lib.hid ((HSW.out.below HB.out).mono HB.out.size)); (try have HSN := Lib.hid ((HSN.out.below HB.out).mono HB.out.size)); clear HB)
          | (go_at_call 18; with_reducible refine (out_c A2 cA2 S1 (N - 1) _ (by omega) HSN.out false HO1.out.symm).mono ?_; rintro e wn ⟨rfl, HB⟩; have HBN := Lib.hid (bstep HBN.out HB.out); clear x0 x1 x2; obtain ⟨x0, x1, x2⟩ := HC.out _ HBN.out; (try have HSW := Lib.hid ((HSW.out.below HB.out).mono HB.out.size)); clear HB)
        go_upto_region 19 with first
          | (go_at_call 14; with_reducible refine (thr14_c p AW c0 M ms _ (HAT.out _ HBN.out) HM.out HE.out m (by omega) HM1.out S2 HS2E.out).mono ?_; rintro e wn ⟨A3, cA3, rfl, HSM, HB⟩; have HBN := Lib.hid (bstep HBN.out HB.out); clear x0 x1 x2; obtain ⟨x0, x1, x2⟩ := HC.out _ HBN.out; (try have HSW := Lib.hid ((HSW.out.below HB.out).mono HB.out.size)); clear HB)
          | (go_at_call 16; with_reducible refine (count_c A3 cA3 p HE.out m HM1.out S2 HS2E.out _ HSM.out C2 HC2.out).mono ?_; rintro e wn ⟨rfl, HB⟩; have HBN := Lib.hid (bstep HBN.out HB.out); clear x0 x1 x2; obtain ⟨x0, x1, x2⟩ := HC.out _ HBN.out; (try have HSW := Lib.hid ((HSW.out.below HB.out).mono HB.out.size)); (try have HSM := Lib.hid ((HSM.out.below HB.out).mono HB.out.size)); clear HB)
        go_wp2_with fail
        go_loopw [17] (fun u wr => ∃ k : Int, 0 ≤ k ∧ k ≤ m ∧ u = .int .i64 k ∧ Hid (Below wn.heap.size wn wr)) (fun u _ => (m - intOf u).toNat)
        case atStart => exact ⟨max (m - 40) 0, by omega, by omega, by first | rfl | simp, Below.refl _ _⟩
        case round =>
          obtain ⟨k, hk0, hkm, rfl, HBL⟩ := hrel
          by_cases hlt : k < m
          · obtain ⟨o, ho⟩ : ∃ o, o = outS S2 k := ⟨_, rfl⟩
            have HO2 := Lib.hid ho
            have HO3 := Lib.hid (ho.trans (HOP.out k hlt))
            have HWr := Lib.hid ((HSW.out.below HBL.out).mono HBL.out.size)
            have HTr := Lib.hid ((HSM.out.below HBL.out).mono HBL.out.size)
            have k1 : IntKind.i64.wrap (k + 1) = k + 1 := by rw [IntKind.wrap_i64]; omega
            clear ho
            cases o
            all_goals
              go_wp2_with first
                | (go_at_call 18; with_reducible refine (out_c A3 cA3 S2 k _ (by omega) HTr.out _ HO2.out).mono ?_; rintro e wm ⟨rfl, HB⟩; have HBL := Lib.hid (bstep HBL.out HB.out); have HWr := Lib.hid ((HWr.out.below HB.out).mono HB.out.size); clear HB)
                | (go_at_call 18; with_reducible refine (out_c A1 cA1 S0 k _ (by omega) HWr.out _ HO3.out).mono ?_; rintro e wm ⟨rfl, HB⟩; have HBL := Lib.hid (bstep HBL.out HB.out); clear HB)
              go_roundw
              case rel => exact ⟨k + 1, by omega, by omega, rfl, HBL⟩
              case measure => simp [intOf]; omega
          · go_wp2_with (go_at_call 17; with_reducible refine (haw _).mono ?_; rintro e wz ⟨rfl, hb⟩; have HBL := Lib.hid (bstep HBL.out hb); clear hb)
            go_ret
            exact ⟨rfl, HB1'.out.trans ((bstep (bstep HBW.out HBN.out) HBL.out).mono HB1'.out.size)⟩
end Go.Proofs.Ytnbnfadmbggfnaa
