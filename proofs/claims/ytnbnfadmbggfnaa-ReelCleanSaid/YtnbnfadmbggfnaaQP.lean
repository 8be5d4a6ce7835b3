/- The walk of ReelClean; conditions: bytes and small numbers. -/
import Derived.Test.YtnbnfadmbggfnaaQO
import Derived.Test.YtnbnfadmbggfnaaQS
set_option linter.unusedSimpArgs false
set_option linter.unusedVariables false
namespace Go.Proofs.Ytnbnfadmbggfnaa
open Go.RowKit Go.Fh Go.Rl
set_option maxRecDepth 20000 in
set_option maxHeartbeats 8000000 in
theorem reelClean_walk (haw : ∀ w, Calls Try.prog 17 #[] w fun e w' => e = .returned (.bool true) ∧ Below w.heap.size w w') (A : Option Addr) (c : Nat) (l : List Nat) (cop at_ : Int) (w : World) (hl : l.length ≤ 9223372036854775807) (hbd : ∀ x ∈ l, x ≤ 255) (hA : Sl encBn 1 w w.heap.size A l)
    (hc0 : 0 ≤ cop) (hc1 : cop ≤ 65535) (ht0 : 0 ≤ at_) (ht1 : at_ ≤ 65535) :
    Calls Try.prog 5 #[.slice A l.length c, .int .u16 cop, .int .u16 at_] w fun e w' => e = .returned (.bool true) ∧ Below w.heap.size w w' := by
  have HMD := Lib.hid (made_any A c l w hl hbd hA)
  have hfit := made_fit l
  obtain ⟨p, hp⟩ : ∃ p, p = madeP l := ⟨_, rfl⟩
  rw [← hp] at HMD hfit
  clear hp hA hl hbd
  have he := fit_err hfit
  have hb := rch_bd he
  obtain ⟨R, hR⟩ : ∃ R, R = rchP p := ⟨_, rfl⟩
  obtain ⟨n, hn⟩ : ∃ n, n = cop.tmod (R + 1) := ⟨_, rfl⟩
  rw [← hR] at hb
  have hnb : 0 ≤ n ∧ n ≤ R := by
    rw [hn, Int.tmod_eq_emod_of_nonneg hc0]
    have h1 := Int.emod_nonneg cop (b := R + 1) (by omega)
    have h2 := Int.emod_lt_of_pos cop (b := R + 1) (by omega)
    omega
  have hn0 := hnb.1
  obtain ⟨S, hS⟩ : ∃ S, S = thrP p n := ⟨_, rfl⟩
  have hl1 := thr_len (fun v hv => ((prs_ok he).w v hv).n) n
  have hw1 := (prs_ok he).n1
  rw [← hS] at hl1
  have hj := thr_join p n
  rw [← hS] at hj
  have HSB := Lib.hid (show ∀ s ∈ S, 0 ≤ s.1 ∧ s.1 ≤ s.2 ∧ s.2 ≤ n - 1 from fun s hs => by rw [hS] at hs; exact thr_bd hs)
  have HGAP := Lib.hid (show ∀ (i j : Nat) (hi : i < S.length) (hj : j < S.length), i < j → S[i].2 + 1 < S[j].1 from fun i j hi hj' h => List.pairwise_iff_getElem.1 hj.gap i j hi hj' h)
  have HE := Lib.hid he
  have HR := Lib.hid hR
  have HS := Lib.hid hS
  have HFIT := Lib.hid hfit
  have HNR := Lib.hid (show n ≤ rchP p by omega)
  have e6 : IntKind.i64.wrap cop = cop := by rw [IntKind.wrap_i64]; omega
  have e7 : IntKind.i64.wrap (R + 1) = R + 1 := by rw [IntKind.wrap_i64]; omega
  have e8 : cop.tmod (R + 1) = n := hn.symm
  have e9 : (R + 1 == 0) = false := by simp; omega
  have e10 : ¬ (R + 1 = 0) := by omega
  have e11 : IntKind.i64.wrap at_ = at_ := by rw [IntKind.wrap_i64]; omega
  have hpc := hfit.c
  have hpm := hfit.m
  clear hR hn hS he hj hfit
  go_enter Try.func5, Try.ntmps5
  go_upto_region 2 with (go_at_call 12; with_reducible refine HMD.out.mono ?_; rintro e w1' ⟨AW, c0, ms, rfl, hM⟩; have HMM := Lib.hid hM; clear hM)
  obtain ⟨M, hM⟩ : ∃ M, M = ms.length := ⟨_, rfl⟩
  rw [← hM]
  have HM := Lib.hid hM
  obtain ⟨w2', g7, HW2, HG7, HBW, HAT, HC⟩ := mp_box 26 p w AW c0 ms w1' HMM.out.at_ M hM
  have HB1' := Lib.hid HMM.out.low
  obtain ⟨x0, x1, x2⟩ := HC.out _ (Below.refl _ _)
  have HBN := Lib.hid (Below.refl w2'.heap.size w2')
  rw [← HW2.out, ← HG7.out]
  have hMp : M = p.webs.length := by rw [hM, ← HMM.out.eq]; simp
  have HMP := Lib.hid hMp
  rw [← hMp] at hw1 hl1
  clear hM hMp
  go_upto_region 9 with first
    | (go_at_call 13; with_reducible refine (reach_c p AW c0 M ms _ (HAT.out _ HBN.out) HM.out HE.out R HR.out).mono ?_; rintro e wn ⟨rfl, HB⟩; have HBN := Lib.hid (bstep HBN.out HB.out); clear x0 x1 x2; obtain ⟨x0, x1, x2⟩ := HC.out _ HBN.out; clear HB)
    | (go_at_call 14; with_reducible refine (thr14_c p AW c0 M ms _ (HAT.out _ HBN.out) HM.out HE.out n hn0 HNR.out S HS.out).mono ?_; rintro e wn ⟨A1, c1, rfl, HSA, HB⟩; have HBN := Lib.hid (bstep HBN.out HB.out); clear x0 x1 x2; obtain ⟨x0, x1, x2⟩ := HC.out _ HBN.out; clear HB)
  go_wp2_with fail
  obtain ⟨Q, hQ⟩ : ∃ Q, Q = S.length := ⟨_, rfl⟩
  have HQ := Lib.hid hQ
  rw [← hQ] at hl1 ⊢
  clear hQ x0 x1 x2
  go_loopw [48] (fun u wr => ∃ j : Nat, j ≤ Q ∧ u = .int .i64 (j : Int) ∧ Hid (Below wn.heap.size wn wr)) (fun u _ => Q - (intOf u).toNat)
  case atStart => exact ⟨0, Nat.zero_le _, rfl, Below.refl _ _⟩
  case round =>
    obtain ⟨j, hj, rfl, HBR⟩ := hrel
    by_cases hlt : j < Q
    · have hjl : j < S.length := by have := HQ.out; omega
      obtain ⟨b, off, hba, hbb, c0', c1'⟩ := Sl.at2 (HSA.out.below HBR.out) hjl
      have hxb := HSB.out _ (List.getElem_mem hjl)
      have hgap : ∀ (h : 0 < j), (S[j - 1]'(by omega)).2 + 1 < S[j].1 := fun h => HGAP.out (j - 1) j (by omega) hjl (by omega)
      obtain ⟨x, hxx⟩ : ∃ x, x = S[j] := ⟨_, rfl⟩
      rw [← hxx] at c0' c1' hxb hgap
      obtain ⟨x1, x2⟩ := x
      dsimp only at c0' c1' hxb hgap
      subst hba
      obtain ⟨g13, hg13⟩ : ∃ g, g = wr.heap.size := ⟨_, rfl⟩
      obtain ⟨w7, hw7⟩ : ∃ W, W = wr.alloc (.cells #[.int .i64 x1, .int .i64 x2] 43) := ⟨_, rfl⟩
      have k13 : Blk w7 g13 43 #[.int .i64 x1, .int .i64 x2] := by rw [hw7, hg13]; exact Blk.new _ _ _
      have hb7 : Below wn.heap.size wn w7 := by rw [hw7]; exact balR HBR.out _
      have y0 := k13.cell 0
      have y1 := k13.cell 1
      simp at y0 y1
      have HB7 := Lib.hid hb7
      have HW7 := Lib.hid hw7
      have HG13 := Lib.hid hg13
      have i0 : (0 : Int) ≤ (j : Int) := by omega
      have i1 : (j : Int) < (Q : Int) := by omega
      have t1 : decide (x1 < 0) = false := by simp; omega
      have t2 : decide (x2 ≥ n) = false := by simp; omega
      have t2' : decide (n ≤ x2) = false := by simp; omega
      have t3 : decide (x1 > x2) = false := by simp; omega
      have t3' : decide (x2 < x1) = false := by simp; omega
      by_cases hj0 : j = 0
      · have t4 : decide ((j : Int) > 0) = false := by simp; omega
        have t4' : decide ((0 : Int) < (j : Int)) = false := by simp; omega
        have t4'' : decide (0 < j) = false := by simp; omega
        have HJ0 := Lib.hid hj0
        have HLT := Lib.hid hlt
        clear hxx hg13 hw7 k13 hb7 hgap hj0
        go_upto_region 12 with fail
        rw [← HW7.out, ← HG13.out]
        clear c0' c1'
        go_quiet (fail)
        go_wp2_with fail
        go_roundw
        case rel => exact ⟨j + 1, by omega, by go_num, Lib.hid (below_drewN HB7.out _)⟩
        case measure => simp [intOf]; omega
      · have hjl2 : j - 1 < S.length := by omega
        obtain ⟨b2, off2, hba2, hbb2, d0, d1⟩ := Sl.at2 ((HSA.out.below hb7)) hjl2
        injection hba2 with hba2
        injection hba2 with q1 q2
        subst q1; subst q2
        have hg1 := hgap (by omega)
        obtain ⟨y, hyy⟩ : ∃ y, y = S[j - 1]'(by omega) := ⟨_, rfl⟩
        have hyb := HSB.out _ (List.getElem_mem hjl2)
        rw [← hyy] at d1 hg1 hyb
        obtain ⟨z1, z2⟩ := y
        dsimp only at d1 hg1 hyb
        have t4 : decide ((j : Int) > 0) = true := by simp; omega
        have t4' : decide ((0 : Int) < (j : Int)) = true := by simp; omega
        have t4'' : decide (0 < j) = true := by simp; omega
        have t5 : decide (x1 ≤ z2 + 1) = false := by simp; omega
        have s1 : IntKind.i64.wrap (z2 + 1) = z2 + 1 := by rw [IntKind.wrap_i64]; omega
        have s2 : IntKind.i64.wrap ((j : Int) - 1) = (j : Int) - 1 := by rw [IntKind.wrap_i64]; omega
        have HJ0 := Lib.hid hj0
        have HLT := Lib.hid hlt
        clear hxx hg13 hw7 k13 hb7 hgap hyy d0
        go_upto_region 12 with fail
        have s3 : (0 : Int) ≤ (j : Int) - 1 := by have := HJ0.out; omega
        have s4 : (1 : Int) ≤ (j : Int) := by have := HJ0.out; omega
        have s5 : (j : Int) - 1 < (Q : Int) := by have := HLT.out; omega
        have s6 : (1 : Nat) ≤ j := by have := HJ0.out; omega
        rw [← HW7.out, ← HG13.out]
        clear c0' c1'
        go_quiet (fail)
        go_wp2_with fail
        go_roundw
        case rel => exact ⟨j + 1, by omega, by go_num, Lib.hid (below_drewN HB7.out _)⟩
        case measure => simp [intOf]; omega
    · obtain rfl : j = Q := by omega
      have HBN := Lib.hid (bstep HBN.out HBR.out)
      obtain ⟨x0, x1, x2⟩ := HC.out _ HBN.out
      by_cases hnz : n = 0
      · have hj0 : j = 0 := by
          have h1 := HSB.out
          have h2 := HQ.out
          cases hSS : S with
          | nil => rw [hSS] at h2; simpa using h2
          | cons s S' => have := h1 s (by rw [hSS]; simp); omega
        subst hnz
        subst hj0
        go_wp2_with (go_at_call 17; with_reducible refine (haw _).mono ?_; rintro e wn ⟨rfl, hb⟩; have HBN := Lib.hid (bstep HBN.out hb); clear hb)
        go_ret
        exact ⟨rfl, HB1'.out.trans ((bstep HBW.out HBN.out).mono HB1'.out.size)⟩
      · have n1 : (n == 0) = false := by simpa using hnz
        obtain ⟨k, hk⟩ : ∃ k, k = at_.tmod n := ⟨_, rfl⟩
        have hkb : 0 ≤ k ∧ k < n := by
          rw [hk, Int.tmod_eq_emod_of_nonneg ht0]
          exact ⟨Int.emod_nonneg at_ (by omega), Int.emod_lt_of_pos at_ (by omega)⟩
        have n2 : at_.tmod n = k := hk.symm
        have HOUT := Lib.hid (show nearK p k p.webs.length = outS S k from by rw [HS.out]; exact near_out HFIT.out hkb.1 hkb.2)
        have HSA' := Lib.hid ((HSA.out.below HBR.out).mono HBR.out.size)
        have hwf := HFIT.out.w
        have HWF := Lib.hid hwf
        clear hk hwf
        go_wp2_with fail
        clear x0 x1 x2
        go_loopw [15, 101] (fun u15 u wq => ∃ i : Nat, i ≤ M ∧ u = .int .i64 (i : Int) ∧ u15 = .bool (nearK p k i) ∧ Hid (Below wr.heap.size wr wq)) (fun _ u _ => M - (intOf u).toNat)
        case atStart => exact ⟨0, Nat.zero_le _, rfl, by simp [nearK], Below.refl _ _⟩
        case round =>
          obtain ⟨i, hi, rfl, hnr, HBI⟩ := hrel
          obtain ⟨bk, hbk⟩ : ∃ b, b = nearK p k i := ⟨_, rfl⟩
          rw [← hbk] at hnr
          subst hnr
          have HBK := Lib.hid hbk
          clear hbk
          by_cases hlt : i < M
          · have him : i < ms.length := by have := HM.out; omega
            have hip : i < p.webs.length := by have := HMP.out; omega
            have hT := HAT.out _ (bstep HBN.out HBI.out)
            obtain ⟨b, off, hba, hbb, c0', c1', c2', c3'⟩ := web_at hT.cW him
            have hwe : ms[i].1 = p.webs[i] := by
              have h1 : (ms.map (·.1))[i]'(by simpa using him) = p.webs[i] := List.getElem_of_eq hT.eq _
              rw [List.getElem_map] at h1; exact h1
            have hwf := HWF.out p.webs[i] (List.getElem_mem hip)
            have hks := nearK_s (p := p) (k := k) hip
            obtain ⟨P, hP⟩ : ∃ P, P = plcs ms[i].1.reels := ⟨_, rfl⟩
            have HSP := Lib.hid (fun W (hb : Below w2'.heap.size w2' W) => spl21_ok p AW c0 M ms W (HAT.out W hb) HM.out HE.out i him P hP)
            rw [← hwe] at hwf hks
            obtain ⟨⟨v, vA, vc⟩, hv⟩ : ∃ v, v = ms[i] := ⟨_, rfl⟩
            rw [← hv] at c0' c1' c2' c3' hwf hks hP
            dsimp only at c0' c1' c2' c3' hwf hks hP
            obtain ⟨hw20, ⟨ho0, ho1⟩, ⟨hbf0, hbf1⟩, ⟨haf0, haf1⟩, hrr⟩ := hwf
            have hPl : P.length = v.reels.length - 1 := by rw [hP]; unfold plcs; exact upF_len _ _
            have HPB := Lib.hid (show ∀ x ∈ P, 0 ≤ x ∧ x ≤ 400000000 from fun x hx => by
              rw [hP] at hx
              obtain ⟨q, hq, rfl⟩ := List.getElem_of_mem hx
              have hq2 : q < v.reels.length - 1 := by rw [← hPl, hP]; exact hq
              have e : (plcs v.reels)[q] = plcF v.reels q := upF_get (plcF v.reels) (v.reels.length - 1) q hq
              rw [e]
              exact plcF_bd (fun r hr => right_ok (hrr r hr)) hw20 (by omega))
            have HKS := Lib.hid (show nearK p k (i + 1) = (bk || P.any (nearB v (firstM p v k) (lastM p v k))) from by rw [hks, ← HBK.out, hP]; rfl)
            have pb1 := prod_bd (a := k - p.margin) (c := p.cut) (by omega) (by omega) hpc.1 hpc.2
            have pb2 := prod_bd (a := k + p.margin + 1) (c := p.cut) (by omega) (by omega) hpc.1 hpc.2
            have s1 : IntKind.i64.wrap (k - p.margin) = k - p.margin := by rw [IntKind.wrap_i64]; omega
            have s2 : IntKind.i64.wrap ((k - p.margin) * p.cut) = (k - p.margin) * p.cut := by rw [IntKind.wrap_i64]; omega
            have s3 : IntKind.i64.wrap (v.off + (k - p.margin) * p.cut) = v.off + (k - p.margin) * p.cut := by rw [IntKind.wrap_i64]; omega
            have s4 : IntKind.i64.wrap (k + p.margin) = k + p.margin := by rw [IntKind.wrap_i64]; omega
            have s5 : IntKind.i64.wrap (k + p.margin + 1) = k + p.margin + 1 := by rw [IntKind.wrap_i64]; omega
            have s6 : IntKind.i64.wrap ((k + p.margin + 1) * p.cut) = (k + p.margin + 1) * p.cut := by rw [IntKind.wrap_i64]; omega
            have s7 : IntKind.i64.wrap (v.off + (k + p.margin + 1) * p.cut) = v.off + (k + p.margin + 1) * p.cut := by rw [IntKind.wrap_i64]; omega
            have s8 : IntKind.i64.wrap (v.off + (k + p.margin + 1) * p.cut - 1) = v.off + (k + p.margin + 1) * p.cut - 1 := by rw [IntKind.wrap_i64]; omega
            have s9 : IntKind.i64.wrap ((v.reels.length : Int) - 1) = (v.reels.length : Int) - 1 := by rw [IntKind.wrap_i64]; omega
            have s10 : (max ((v.reels.length : Int) - 1) 0) = (P.length : Int) := by omega
            have s11 : IntKind.i64.wrap (v.bef + v.aft) = v.bef + v.aft := by rw [IntKind.wrap_i64]; omega
            have i0 : (0 : Int) ≤ (i : Int) := by omega
            have i1 : (i : Int) < (M : Int) := by omega
            obtain ⟨g17, hg17⟩ : ∃ g, g = wr.heap.size := ⟨_, rfl⟩
            obtain ⟨w7, hw7⟩ : ∃ W, W = wr.alloc (.cells #[.slice vA v.reels.length vc, .int .i64 v.off, .int .i64 v.bef, .int .i64 v.aft] 41) := ⟨_, rfl⟩
            have k17 : Blk w7 g17 41 #[.slice vA v.reels.length vc, .int .i64 v.off, .int .i64 v.bef, .int .i64 v.aft] := by rw [hw7, hg17]; exact Blk.new _ _ _
            have hb7 : Below wr.heap.size wr w7 := by rw [hw7]; exact balR (Below.refl _ _) _
            have HY := Lib.hid (show ∀ W, Below w7.heap.size w7 W → W.cell? ⟨g17, 0, none⟩ = some (.slice vA v.reels.length vc) ∧ W.cell? ⟨g17, 1, none⟩ = some (.int .i64 v.off) ∧ W.cell? ⟨g17, 2, none⟩ = some (.int .i64 v.bef) ∧ W.cell? ⟨g17, 3, none⟩ = some (.int .i64 v.aft) from fun W hb => by
              have k := k17.below hb k17.lt
              have a0 := k.cell 0
              have a1 := k.cell 1
              have a2 := k.cell 2
              have a3 := k.cell 3
              simp at a0 a1 a2 a3
              exact ⟨a0, a1, a2, a3⟩)
            have HB7 := Lib.hid (bstep HBI.out hb7)
            have HB27 := Lib.hid (bstep HBN.out (bstep HBI.out hb7))
            have HW7 := Lib.hid hw7
            have HG17 := Lib.hid hg17
            obtain ⟨N, hN⟩ : ∃ N, N = P.length := ⟨_, rfl⟩
            rw [← hN] at HSP s10 hPl
            have HN := Lib.hid hN
            clear hT hwe hks hP hv hg17 hw7 k17 hb7 hN hrr
            subst hba
            go_upto_region 22 with fail
            rw [← HW7.out, ← HG17.out]
            clear c0' c1' c2' c3'
            obtain ⟨x0, x1, x2⟩ := HC.out _ HB27.out
            obtain ⟨y0, y1, y2, y3⟩ := HY.out _ (Below.refl _ _)
            go_upto_region 25 with (go_at_call 21; with_reducible refine (HSP.out _ HB27.out).mono ?_; rintro e w8 ⟨A3, c3, rfl, HSP3, HB8⟩; clear x0 x1 x2 y0 y1 y2 y3; obtain ⟨x0, x1, x2⟩ := HC.out _ (bstep HB27.out HB8.out); obtain ⟨y0, y1, y2, y3⟩ := HY.out _ HB8.out)
            go_quiet (fail)
            go_wp2_with fail
            clear x0 x1 x2 y0 y1 y2 y3 s1 s2 s3 s4 s5 s6 s7 s8
            go_loopw [15, 148] (fun u15 u wq => ∃ j : Nat, j ≤ N ∧ u = .int .i64 (j : Int) ∧ u15 = .bool (bk || (P.take j).any (nearB v (firstM p v k) (lastM p v k))) ∧ Hid (Below w8.heap.size w8 wq)) (fun _ u _ => N - (intOf u).toNat)
            case atStart => exact ⟨0, Nat.zero_le _, rfl, by simp, Lib.hid (below_drewN (Below.refl _ _) _)⟩
            case round =>
              obtain ⟨j, hj, rfl, hnr, HBJ⟩ := hrel
              obtain ⟨bj, hbj⟩ : ∃ b, b = (bk || (P.take j).any (nearB v (firstM p v k) (lastM p v k))) := ⟨_, rfl⟩
              rw [← hbj] at hnr
              subst hnr
              obtain ⟨y0, y1, y2, y3⟩ := HY.out _ (bstep HB8.out HBJ.out)
              by_cases hltj : j < N
              · have hjl : j < P.length := by have := HN.out; omega
                obtain ⟨b3, off3, hba3, hbb3, d0⟩ := Sl.at1 (HSP3.out.below HBJ.out) hjl
                have hxb := HPB.out _ (List.getElem_mem hjl)
                have hnx : (bk || (P.take (j + 1)).any (nearB v (firstM p v k) (lastM p v k))) = (bj || nearB v (firstM p v k) (lastM p v k) P[j]) := by
                  rw [List.take_succ_eq_append_getElem hjl, List.any_append, hbj]
                  simp [Bool.or_assoc]
                obtain ⟨x, hxx⟩ : ∃ x, x = P[j] := ⟨_, rfl⟩
                rw [← hxx] at d0 hxb hnx
                subst hba3
                have HNX := Lib.hid hnx
                have r1 : IntKind.i64.wrap (x - v.bef) = x - v.bef := by rw [IntKind.wrap_i64]; omega
                have r2 : IntKind.i64.wrap (x + v.aft) = x + v.aft := by rw [IntKind.wrap_i64]; omega
                have r3 : IntKind.i64.wrap (x + v.aft - 1) = x + v.aft - 1 := by rw [IntKind.wrap_i64]; omega
                have j0 : (0 : Int) ≤ (j : Int) := by omega
                have j1 : (j : Int) < (N : Int) := by omega
                clear hxx hnx hbj
                by_cases ha : 0 < v.bef + v.aft
                · have ta : decide (v.bef + v.aft > 0) = true := by simpa using ha
                  have ta' : decide (0 < v.bef + v.aft) = true := by simpa using ha
                  by_cases hbx : x - v.bef ≤ v.off + (k + p.margin + 1) * p.cut - 1
                  · have tb : decide (x - v.bef ≤ v.off + (k + p.margin + 1) * p.cut - 1) = true := by simpa using hbx
                    by_cases hcx : v.off + (k - p.margin) * p.cut ≤ x + v.aft - 1
                    · have tc : decide (x + v.aft - 1 ≥ v.off + (k - p.margin) * p.cut) = true := by simpa using hcx
                      have tc' : decide (v.off + (k - p.margin) * p.cut ≤ x + v.aft - 1) = true := by simpa using hcx
                      have HNB := Lib.hid (show (bk || (P.take (j + 1)).any (nearB v (firstM p v k) (lastM p v k))) = true from by rw [HNX.out]; unfold nearB firstM lastM; rw [ta, tb, tc']; simp)
                      clear ha hbx hcx
                      go_wp2_with fail
                      go_roundw
                      case rel => exact ⟨j + 1, by omega, by go_num, by rw [HNB.out], HBJ⟩
                      case measure => simp [intOf]; omega
                    · have tc : decide (x + v.aft - 1 ≥ v.off + (k - p.margin) * p.cut) = false := by simpa using hcx
                      have tc' : decide (v.off + (k - p.margin) * p.cut ≤ x + v.aft - 1) = false := by simpa using hcx
                      have HNB := Lib.hid (show (bk || (P.take (j + 1)).any (nearB v (firstM p v k) (lastM p v k))) = bj from by rw [HNX.out]; unfold nearB firstM lastM; rw [tc']; simp)
                      clear ha hbx hcx
                      go_wp2_with fail
                      go_roundw
                      case rel => exact ⟨j + 1, by omega, by go_num, by rw [HNB.out], HBJ⟩
                      case measure => simp [intOf]; omega
                  · have tb : decide (x - v.bef ≤ v.off + (k + p.margin + 1) * p.cut - 1) = false := by simpa using hbx
                    have HNB := Lib.hid (show (bk || (P.take (j + 1)).any (nearB v (firstM p v k) (lastM p v k))) = bj from by rw [HNX.out]; unfold nearB firstM lastM; rw [tb]; simp)
                    clear ha hbx
                    go_wp2_with fail
                    go_roundw
                    case rel => exact ⟨j + 1, by omega, by go_num, by rw [HNB.out], HBJ⟩
                    case measure => simp [intOf]; omega
                · have ta : decide (v.bef + v.aft > 0) = false := by simpa using ha
                  have ta' : decide (0 < v.bef + v.aft) = false := by simpa using ha
                  have HNB := Lib.hid (show (bk || (P.take (j + 1)).any (nearB v (firstM p v k) (lastM p v k))) = bj from by rw [HNX.out]; unfold nearB firstM lastM; rw [ta]; simp)
                  clear ha
                  go_wp2_with fail
                  go_roundw
                  case rel => exact ⟨j + 1, by omega, by go_num, by rw [HNB.out], HBJ⟩
                  case measure => simp [intOf]; omega
              · obtain rfl : j = N := by omega
                have HE1 := Lib.hid (show nearK p k (i + 1) = bj from by rw [HKS.out, hbj, List.take_of_length_le (by have := HN.out; omega)])
                clear hbj
                go_wp2_with fail
                go_roundw
                case rel => exact ⟨i + 1, by omega, by go_num, by rw [HE1.out], Lib.hid (bstep HB7.out (bstep HB8.out HBJ.out))⟩
                case measure => simp [intOf]; omega
          · obtain rfl : i = M := by omega
            have hfin : bk = outS S k := by rw [HBK.out, HMP.out]; exact HOUT.out
            have HFIN := Lib.hid hfin
            have HBN := Lib.hid (bstep HBN.out HBI.out)
            have hl9 := HQ.out
            have HL9 := Lib.hid (show S.length ≤ 1000000 from by omega)
            clear hfin hl9
            rw [HQ.out]
            cases bk
            all_goals
              go_wp2_with first
                | (go_at_call 18; with_reducible refine (out_c A1 c1 S k _ HL9.out ((HSA'.out.below HBI.out).mono HBI.out.size) _ HFIN.out).mono ?_; rintro e wn ⟨rfl, HB⟩; have HBN := Lib.hid (bstep HBN.out HB.out); clear HB)
                | (go_at_call 17; with_reducible refine (haw _).mono ?_; rintro e wn ⟨rfl, hb⟩; have HBN := Lib.hid (bstep HBN.out hb); clear hb)
              go_ret
              exact ⟨rfl, HB1'.out.trans ((bstep HBW.out HBN.out).mono HB1'.out.size)⟩
end Go.Proofs.Ytnbnfadmbggfnaa
