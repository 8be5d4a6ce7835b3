/- Contract of the reference's Check; conditions: a press in memory. -/
import Derived.Test.YtnbnfadmbggfnaaUA
set_option linter.unusedSimpArgs false
set_option linter.unusedVariables false
namespace Go.Proofs.Ytnbnfadmbggfnaa
open Go.RowKit Go.Fh Go.Rl
theorem infoReel182 : (Try.prog.info? 182).map (fun i => (i.zero, i.size, i.bytes)) = some (some (.agg #[.int .i64 0, .int .i64 0, .int .i64 0, .int .i64 0]), 4, 32) := by kernel_rfl
set_option maxRecDepth 20000 in
set_option maxHeartbeats 8000000 in
theorem rcheck_any (p : PrsD) (A : Option Addr) (c m : Nat) (ms : List WebM) (w : World) (hT : PrsAt w w.heap.size p A ms) (hm : m = ms.length) (hm9 : m ≤ 1000000) (er : Int) (her : er = errP p) :
    Calls Try.prog 67 #[.agg #[.int .i64 p.cut, .int .i64 p.margin, .slice A m c]] w fun e w' => e = .returned (.int .i64 er) ∧ Hid (Below w.heap.size w w') := by
  obtain ⟨w1, gT, HW1, HGT, HB1, HTP, HTC⟩ := mp_box 131 p w A c ms w hT m hm
  obtain ⟨r0, r1, r2⟩ := HTC.out w1 (Below.refl _ _)
  have hml : m = p.webs.length := by rw [hm, hT.len]
  obtain ⟨b1, hb1⟩ : ∃ b, b = inB m 1 6 := ⟨_, rfl⟩
  obtain ⟨b2, hb2⟩ : ∃ b, b = p.webs.any (fun v => decide (20 < v.reels.length)) := ⟨_, rfl⟩
  obtain ⟨b3, hb3⟩ : ∃ b, b = inB p.cut 300 1500 := ⟨_, rfl⟩
  obtain ⟨b4, hb4⟩ : ∃ b, b = inB p.margin 0 20 := ⟨_, rfl⟩
  have HE := Lib.hid (show er = if !b1 || b2 then 2 else if !b3 || !b4 then 6 else firstErr (errWb p) m by rw [her, hb1, hb2, hb3, hb4, hml]; rfl)
  have H1 := Lib.hid (fun W => rin_val _ _ _ b1 hb1 W)
  have H3 := Lib.hid (fun W => rin_val _ _ _ b3 hb3 W)
  have H4 := Lib.hid (fun W => rin_val _ _ _ b4 hb4 W)
  have HB2 := Lib.hid hb2
  have HM := Lib.hid hm
  have HML := Lib.hid hml
  have hm6 : b1 = true → m ≤ 6 := fun h => by rw [h] at hb1; have := inB_iff.1 hb1.symm; omega
  clear hT hm hml hb1 hb2 hb3 hb4 her
  cases b1
  · have HER := Lib.hid (show er = 2 by rw [HE.out]; rfl)
    go_enter Try.func67, Try.ntmps67
    go_upto_region 1 with fail
    rw [← HW1.out, ← HGT.out]
    go_wp2_with (go_at_call 100; with_reducible refine (H1.out _).mono ?_; rintro e w2 ⟨rfl, rfl⟩)
    go_ret
    exact ⟨by rw [HER.out]; rfl, HB1⟩
  have hm6 := hm6 rfl
  go_enter Try.func67, Try.ntmps67
  go_upto_region 1 with fail
  rw [← HW1.out, ← HGT.out]
  go_upto_region 3 with (go_at_call 100; with_reducible refine (H1.out _).mono ?_; rintro e w2 ⟨rfl, rfl⟩)
  go_wp2_with fail
  go_loopw [3] (fun u wr => ∃ k : Nat, k ≤ m ∧ u = .int .i64 (k : Int) ∧ Hid (∀ j (h : j < p.webs.length), j < k → ¬ 20 < p.webs[j].reels.length) ∧ Hid (Below w1.heap.size w1 wr)) (fun u _ => m - (intOf u).toNat)
  case atStart => exact ⟨0, Nat.zero_le _, rfl, Lib.hid (fun j _ h => by omega), Below.refl _ _⟩
  case round =>
    obtain ⟨k, hk, rfl, HF, HB⟩ := hrel
    obtain ⟨c0', c1', c2'⟩ := HTC.out _ HB.out
    by_cases hlt : k < m
    · have hkm : k < ms.length := by have := HM.out; omega
      have hkp : k < p.webs.length := by have := HML.out; omega
      obtain ⟨v, vA, vc, b, off, HV, HR, hba, HC⟩ := web_box HTP.out hkm hkp
      obtain ⟨c0, -, -, -⟩ := HC.out _ HB.out
      subst hba
      obtain ⟨nv, hnv⟩ : ∃ n, n = v.reels.length := ⟨_, rfl⟩
      rw [← hnv] at c0
      have HN := Lib.hid hnv
      have i0 : (0 : Int) ≤ (k : Int) := by omega
      have i1 : (k : Int) < (m : Int) := by omega
      clear hnv
      by_cases h20 : 20 < nv
      · have t1 : decide ((nv : Int) > 20) = true := by simp; omega
        have t2 : decide ((20 : Int) < (nv : Int)) = true := by simp; omega
        have HER := Lib.hid (show er = 2 by
          have : b2 = true := by
            rw [HB2.out]
            exact List.any_eq_true.2 ⟨v, by rw [HV.out]; exact List.getElem_mem hkp, by have := HN.out; simp; omega⟩
          rw [HE.out, this]; rfl)
        clear h20
        go_wp2_with fail
        go_ret
        exact ⟨by rw [HER.out]; rfl, Lib.hid (HB1.out.trans (HB.out.mono HB1.out.size))⟩
      · have t1 : decide ((nv : Int) > 20) = false := by simp; omega
        have t2 : decide ((20 : Int) < (nv : Int)) = false := by simp; omega
        have HH := Lib.hid h20
        clear h20
        go_wp2_with fail
        go_roundw
        case rel => exact ⟨k + 1, by omega, by go_num, Lib.hid (fun j h h0 => by
          by_cases e : j = k
          · subst e; rw [← HV.out, ← HN.out]; exact HH.out
          · exact HF.out j h (by omega)), HB⟩
        case measure => simp [intOf]; omega
    · obtain rfl : k = m := by omega
      have hb2 : b2 = false := by
        rw [HB2.out, List.any_eq_false]
        intro v hv
        obtain ⟨j, hj, rfl⟩ := List.getElem_of_mem hv
        have := HF.out j hj (by have := HML.out; omega)
        simpa using this
      subst hb2
      by_cases h34 : b3 = true ∧ b4 = true
      · obtain ⟨rfl, rfl⟩ := h34
        have HER := Lib.hid (show er = firstErr (errWb p) k by rw [HE.out]; rfl)
        clear HE
        obtain ⟨iT, hi, hz0, hz1, hz2⟩ := info_parts infoReel182
        have HI := Lib.hid hi
        clear hi
        go_upto_region 10 with first
          | (go_at_call 100; with_reducible refine (H3.out _).mono ?_; rintro e w2 ⟨rfl, rfl⟩)
          | (go_at_call 100; with_reducible refine (H4.out _).mono ?_; rintro e w2 ⟨rfl, rfl⟩)
        go_wp2_with fail
        clear r0 r1 r2 c0' c1' c2'
        go_loopw [4, 5] (fun u4 u wr => ∃ (q N : Nat) (A4 : Option Addr) (c4 : Nat), q ≤ k ∧ u = .int .i64 (q : Int) ∧ u4 = .slice A4 N c4 ∧ N ≤ 20 * q ∧ Hid (N = (rlsN p q).length ∧ wr.ownsRow w1.heap.size 182 4 (.slice A4 N c4) N ((rlsN p q).flatMap encReel)) ∧ Hid (firstErr (errWb p) q = 0) ∧ Hid (Below w1.heap.size w1 wr)) (fun _ u _ => k - (intOf u).toNat)
        case atStart => exact ⟨0, 0, none, 0, Nat.zero_le _, rfl, rfl, Nat.zero_le _, Lib.hid ⟨rfl, World.ownsRow_nil _ _ _ _⟩, Lib.hid rfl, HB⟩
        case round =>
          obtain ⟨q, N, A4, c4, hq, rfl, rfl, hN20, HO, HZ, HBL⟩ := hrel
          obtain ⟨c0', c1', c2'⟩ := HTC.out _ HBL.out
          by_cases hltq : q < k
          · have hkm : q < ms.length := by have := HM.out; omega
            have hkp : q < p.webs.length := by have := HML.out; omega
            obtain ⟨v, vA, vc, b, off, HV, HR, hba, HC⟩ := web_box HTP.out hkm hkp
            obtain ⟨c0, c1, c2, c3⟩ := HC.out _ HBL.out
            subst hba
            obtain ⟨nv, hnv⟩ : ∃ n, n = v.reels.length := ⟨_, rfl⟩
            rw [← hnv] at c0
            have hv20 : nv ≤ 20 := by
              have := HF.out q hkp (by omega)
              rw [← HV.out] at this
              omega
            have HN := Lib.hid hnv
            have i0 : (0 : Int) ≤ (q : Int) := by omega
            have i1 : (q : Int) < (k : Int) := by omega
            obtain ⟨q1, hq1⟩ : ∃ b, b = inB v.off 0 200000 := ⟨_, rfl⟩
            obtain ⟨q2, hq2⟩ : ∃ b, b = inB v.bef 0 5000 := ⟨_, rfl⟩
            obtain ⟨q3, hq3⟩ : ∃ b, b = inB v.aft 0 5000 := ⟨_, rfl⟩
            have HEV := Lib.hid (show errWb p q = if !q1 || (!q2 || !q3) then 6 else firstErr (errA v.reels (idsN p q)) nv by rw [errWb_at hkp, ← HV.out, hq1, hq2, hq3, hnv]; rfl)
            have HST := Lib.hid (fun hf => firstErr_stop (f := errWb p) (m := k) HZ.out hf hltq)
            have HGO := Lib.hid (fun hf => firstErr_go (f := errWb p) HZ.out hf)
            have Q1 := Lib.hid (fun W => rin_val _ _ _ q1 hq1 W)
            have Q2 := Lib.hid (fun W => rin_val _ _ _ q2 hq2 W)
            have Q3 := Lib.hid (fun W => rin_val _ _ _ q3 hq3 W)
            obtain ⟨w5, g6, HW5, HG6, hb5, HK5⟩ := wv_box 181 v vA nv vc wr
            have HB5 := Lib.hid (HBL.out.trans (hb5.out.mono HBL.out.size))
            have HO5 := Lib.hid (show w5.ownsRow w1.heap.size 182 4 (.slice A4 N c4) N ((rlsN p q).flatMap encReel) from own_belowV HO.out.2 hb5.out)
            have HNL := Lib.hid HO.out.1
            obtain ⟨y0, y1, y2, y3⟩ := wv_cells HK5.out
            clear hnv hq1 hq2 hq3 hb5
            go_upto_region 15 with fail
            rw [← HW5.out, ← HG6.out]
            clear c0 c1 c2 c3 c0' c1' c2'
            by_cases hqq : q1 = true ∧ q2 = true ∧ q3 = true
            · obtain ⟨rfl, rfl, rfl⟩ := hqq
              have HE2 := Lib.hid (show errWb p q = firstErr (errA v.reels (idsN p q)) nv by rw [HEV.out]; rfl)
              clear HEV
              go_wp2_with first
                | (go_at_call 100; with_reducible refine (Q1.out _).mono ?_; rintro e wz ⟨rfl, rfl⟩)
                | (go_at_call 100; with_reducible refine (Q2.out _).mono ?_; rintro e wz ⟨rfl, rfl⟩)
                | (go_at_call 100; with_reducible refine (Q3.out _).mono ?_; rintro e wz ⟨rfl, rfl⟩)
              clear y0 y1 y2 y3
              go_loopw [4, 7] (fun u4 u wq => ∃ (j N2 : Nat) (A4 : Option Addr) (c4 : Nat), j ≤ nv ∧ u = .int .i64 (j : Int) ∧ u4 = .slice A4 N2 c4 ∧ N2 ≤ 20 * q + j ∧ Hid (N2 = N + j) ∧ Hid (wq.ownsRow w1.heap.size 182 4 (.slice A4 N2 c4) N2 ((rlsN p q ++ v.reels.take j).flatMap encReel)) ∧ Hid (firstErr (errA v.reels (idsN p q)) j = 0) ∧ Hid (Blk wq g6 181 #[.slice vA nv vc, .int .i64 v.off, .int .i64 v.bef, .int .i64 v.aft]) ∧ Hid (Below w1.heap.size w1 wq)) (fun _ u _ => nv - (intOf u).toNat)
              case atStart => exact ⟨0, N, A4, c4, Nat.zero_le _, rfl, rfl, by omega, Lib.hid rfl, Lib.hid (by show w5.ownsRow _ _ _ _ _ ((rlsN p q ++ []).flatMap encReel); rw [List.append_nil]; exact HO5.out), Lib.hid rfl, HK5, HB5⟩
              case round =>
                obtain ⟨j, N2, A4, c4, hj, rfl, rfl, hN2b, HN2, HO6, HZ6, HK6, HBQ⟩ := hrel
                obtain ⟨y0, y1, y2, y3⟩ := wv_cells HK6.out
                by_cases hltj : j < nv
                · have hjl : j < v.reels.length := by have := HN.out; omega
                  obtain ⟨b, off, hba, hbb, c0, c1, c2, c3⟩ := reel_at (HR.out _ HBQ.out) hjl
                  obtain ⟨r, hr⟩ : ∃ r, r = v.reels[j] := ⟨_, rfl⟩
                  rw [← hr] at c0 c1 c2 c3
                  obtain ⟨e1, he1⟩ : ∃ b, b = rightB r := ⟨_, rfl⟩
                  obtain ⟨e2, he2⟩ : ∃ b, b = decide (r.id ∈ idsN p q ++ (v.reels.take j).map (·.id)) := ⟨_, rfl⟩
                  have HEA := Lib.hid (errA_at hjl hr he1 he2)
                  have H105 := Lib.hid (fun W => rright_any r e1 he1 W)
                  have HST2 := Lib.hid (fun hf => firstErr_stop (f := errA v.reels (idsN p q)) (m := nv) HZ6.out hf hltj)
                  have HGO2 := Lib.hid (fun hf => firstErr_go (f := errA v.reels (idsN p q)) HZ6.out hf)
                  have HRR := Lib.hid hr
                  have HE2D := Lib.hid he2
                  have j0 : (0 : Int) ≤ (j : Int) := by omega
                  have j1 : (j : Int) < (nv : Int) := by omega
                  subst hba
                  clear hr he1 he2 hbb
                  cases e1
                  · have HER2 := Lib.hid (show er = 70 by
                      have h1 : errA v.reels (idsN p q) j = 70 := by rw [HEA.out]; rfl
                      have h2 : errWb p q = 70 := by rw [HE2.out, HST2.out (by rw [h1]; decide), h1]
                      rw [HER.out, HST.out (by rw [h2]; decide), h2])
                    go_wp2_with (go_at_call 105; with_reducible refine (H105.out _).mono ?_; rintro e w7 ⟨rfl, HB7⟩)
                    go_ret
                    exact ⟨by rw [HER2.out]; rfl, Lib.hid (HB1.out.trans ((bstep HBQ.out HB7.out).mono HB1.out.size))⟩
                  · skip
                    go_upto_region 22 with (go_at_call 105; with_reducible refine (H105.out _).mono ?_; rintro e w7 ⟨rfl, HB7⟩; clear y0 y1 y2 y3 c0 c1 c2 c3; have HBQ7 := Lib.hid (bstep HBQ.out HB7.out); have HK7 := Lib.hid (HK6.out.below HB7.out HK6.out.lt); have HO7 := Lib.hid (own_belowV HO6.out HB7.out))
                    obtain ⟨y0, y1, y2, y3⟩ := wv_cells HK7.out
                    obtain ⟨b', off', hba', -, c0, c1, c2, c3⟩ := reel_at (HR.out _ HBQ7.out) hjl
                    rw [← HRR.out] at c0 c1 c2 c3
                    injection hba' with hba'
                    injection hba' with e1' e2'
                    subst e1' e2'
                    have hm1 : N2 + 1 ≤ maxLen := by simp only [maxLen]; omega
                    have hm2 : (N2 + 1) * 32 ≤ 140737488355328 := by omega
                    have HM3 := Lib.hid (show w1.heap.size ≤ (w7.alloc (.cells #[.int .i64 r.id, .int .i64 r.width, .int .i64 r.len, .int .i64 r.core] 182)).heap.size from by have := HBQ7.out.size; simp; omega)
                    have hsz7 := HBQ7.out.size
                    go_upto_region 23 with (at_builtin; refine wpList_append_lies _ rfl (.tmp 80) (.tmp 86) 179 rfl w1.heap.size 182 iT _ 4 32 Try.underlying179 HI.out hz0 hz1 hz2 rfl (by decide) (.slice A4 N2 c4) N2 ((rlsN p q ++ v.reels.take j).flatMap encReel) rfl (HO7.out.alloc _) ⟨w7.heap.size, 0, none⟩ 1 1 [.int .i64 r.id, .int .i64 r.width, .int .i64 r.len, .int .i64 r.core] rfl rfl (news_of1 w7 182 #[.int .i64 r.id, .int .i64 r.width, .int .i64 r.len, .int .i64 r.core]) (by intro u hu; simp at hu; rcases hu with rfl | rfl | rfl | rfl <;> rfl) (by decide) hm1 hm2 (by simp; omega) (w7.heap.size + 1) (by simp) ?_; intro g9' c9 w9 hown9 hg9 hat9 hlt9; have H9 := Lib.hid hown9; have HG9' := Lib.hid hg9; clear hown9 hg9 hat9 hlt9)
                    have hbq9 : Below w1.heap.size w1 w9 := (balR HBQ7.out _).grown HG9'.out (balR HBQ7.out _).size (fun j hj => (own_at HO7.out hj).2)
                    have HBQ9 := Lib.hid hbq9
                    have HK9 := Lib.hid (Blk.grown (HK7.out.alloc _) HG9'.out (own_blk_ne HO7.out HK7.out (by decide)))
                    have htk : rlsN p q ++ v.reels.take (j + 1) = (rlsN p q ++ v.reels.take j) ++ [r] := by rw [List.take_succ_eq_append_getElem hjl, ← HRR.out, List.append_assoc]
                    have HTK := Lib.hid htk
                    have HO9 := Lib.hid (show w9.ownsRow w1.heap.size 182 4 (.slice (some ⟨g9', 0, none⟩) (N2 + 1) c9) (N2 + 1) ((rlsN p q ++ v.reels.take (j + 1)).flatMap encReel) from by rw [htk, List.flatMap_append]; exact H9.out)
                    have hlen : (rlsN p q ++ v.reels.take (j + 1)).length = N2 + 1 := by
                      rw [List.length_append, List.length_take, ← HNL.out, HN2.out]
                      omega
                    have HSL := Lib.hid (show Sl encReel 4 w9 w9.heap.size (some ⟨g9', 0, none⟩) (rlsN p q ++ v.reels.take (j + 1)) from by
                      have h := HO9.out
                      rw [← hlen] at h
                      exact Sl.of_own (fun _ => rfl) h)
                    have hmet : e2 = metB (rlsN p q ++ v.reels.take (j + 1)) N2 := by
                      have hl2 : (rlsN p q ++ v.reels.take j).length = N2 := by
                        rw [List.length_append, List.length_take, ← HNL.out, HN2.out]
                        omega
                      unfold metB
                      rw [htk, HE2D.out]
                      have g1 : ((rlsN p q ++ v.reels.take j) ++ [r]).getD N2 reel0 = r := by rw [← hl2]; simp
                      have g2 : ((rlsN p q ++ v.reels.take j) ++ [r]).take N2 = rlsN p q ++ v.reels.take j := by rw [← hl2, List.take_left]
                      rw [g1, g2, List.map_append, rlsN_ids]
                    have H106 := Lib.hid (rmet_any (some ⟨g9', 0, none⟩) c9 (N2 + 1) (rlsN p q ++ v.reels.take (j + 1)) w9 hlen (by omega) HSL.out N2 (by omega) e2 hmet)
                    have s1 : IntKind.i64.wrap (((N2 + 1 : Nat) : Int) - 1) = (N2 : Int) := by rw [IntKind.wrap_i64]; omega
                    have s2 : IntKind.i64.wrap ((N2 : Int) + 1 - 1) = (N2 : Int) := by rw [IntKind.wrap_i64]; omega
                    clear y0 y1 y2 y3 c0 c1 c2 c3 hbq9 htk hlen hmet
                    cases e2
                    · skip
                      go_wp2_with (go_at_call 106; with_reducible refine H106.out.mono ?_; rintro e wx ⟨rfl, HBX⟩)
                      go_roundw
                      case rel => exact ⟨j + 1, N2 + 1, some ⟨g9', 0, none⟩, c9, by omega, by go_num, rfl, by omega, Lib.hid (by have := HN2.out; omega), Lib.hid (own_belowV HO9.out HBX.out), Lib.hid (HGO2.out (by rw [HEA.out]; rfl)), Lib.hid (HK9.out.below HBX.out HK9.out.lt), Lib.hid (bstep HBQ9.out HBX.out)⟩
                      case measure => simp [intOf]; omega
                    · have HER2 := Lib.hid (show er = 10 by
                        have h1 : errA v.reels (idsN p q) j = 10 := by rw [HEA.out]; rfl
                        have h2 : errWb p q = 10 := by rw [HE2.out, HST2.out (by rw [h1]; decide), h1]
                        rw [HER.out, HST.out (by rw [h2]; decide), h2])
                      go_wp2_with (go_at_call 106; with_reducible refine H106.out.mono ?_; rintro e wx ⟨rfl, HBX⟩)
                      go_ret
                      exact ⟨by rw [HER2.out]; rfl, Lib.hid (HB1.out.trans ((bstep HBQ9.out HBX.out).mono HB1.out.size))⟩
                · obtain rfl : j = nv := by omega
                  have HTA := Lib.hid (show rlsN p (q + 1) = rlsN p q ++ v.reels.take j from by
                    rw [rlsN_s hkp, ← HV.out, HN.out, List.take_length])
                  have HZ7 := Lib.hid (show firstErr (errWb p) (q + 1) = 0 from HGO.out (by rw [HE2.out]; exact HZ6.out))
                  have HNN := Lib.hid (show N2 = (rlsN p (q + 1)).length from by
                    rw [HTA.out, List.length_append, List.length_take, ← HNL.out, HN2.out, ← HN.out]
                    omega)
                  go_wp2_with fail
                  go_roundw
                  case rel => exact ⟨q + 1, N2, A4, c4, by omega, by go_num, rfl, by omega, Lib.hid ⟨HNN.out, by rw [HTA.out]; exact HO6.out⟩, HZ7, HBQ⟩
                  case measure => simp [intOf]; omega
            · have hor : (!q1 || (!q2 || !q3)) = true := by cases q1 <;> cases q2 <;> cases q3 <;> simp_all
              have HZ6 := Lib.hid (show er = 6 by
                have he6 : errWb p q = 6 := by rw [HEV.out, hor]; rfl
                rw [HER.out, HST.out (by rw [he6]; decide), he6])
              clear hqq
              cases q1 <;> cases q2 <;> cases q3
              all_goals
                first
                | (exfalso; revert hor; decide)
                | (go_wp2_with first
                     | (go_at_call 100; with_reducible refine (Q1.out _).mono ?_; rintro e wz ⟨rfl, rfl⟩)
                     | (go_at_call 100; with_reducible refine (Q2.out _).mono ?_; rintro e wz ⟨rfl, rfl⟩)
                     | (go_at_call 100; with_reducible refine (Q3.out _).mono ?_; rintro e wz ⟨rfl, rfl⟩)
                   go_ret
                   exact ⟨by rw [HZ6.out]; rfl, Lib.hid (HB1.out.trans (HB5.out.mono HB1.out.size))⟩)
          · obtain rfl : q = k := by omega
            have HZ2 := Lib.hid (show er = 0 by rw [HER.out, HZ.out])
            go_wp2_with fail
            go_ret
            exact ⟨by rw [HZ2.out]; rfl, Lib.hid (HB1.out.trans (HBL.out.mono HB1.out.size))⟩
      · have hor : (!b3 || !b4) = true := by cases b3 <;> cases b4 <;> simp_all
        have HER := Lib.hid (show er = 6 by rw [HE.out, hor]; rfl)
        clear h34 HE
        cases b3
        all_goals
          cases b4
          all_goals
            first
            | (exfalso; revert hor; decide)
            | (go_wp2_with first
                 | (go_at_call 100; with_reducible refine (H3.out _).mono ?_; rintro e w2 ⟨rfl, rfl⟩)
                 | (go_at_call 100; with_reducible refine (H4.out _).mono ?_; rintro e w2 ⟨rfl, rfl⟩)
               go_ret
               exact ⟨by rw [HER.out]; rfl, Lib.hid (HB1.out.trans (HB.out.mono HB1.out.size))⟩)
end Go.Proofs.Ytnbnfadmbggfnaa
