/- Contract of the reference's best; conditions: a valid supply in memory. Printed by a program. -/
import Derived.Test.YtnbnfadmbggfnaaCR
import Derived.Laws.AppendOwnNone
set_option linter.unusedSimpArgs false
set_option linter.unusedVariables false
namespace Go.Proofs.Ytnbnfadmbggfnaa
open Go.RowKit Go.Fh Go.Rl
set_option maxRecDepth 20000 in
set_option maxHeartbeats 4000000 in
theorem rbest_any (s : SupD) (x : SA) (w : World) (hs : SupOk s) (hT : SupAt w w.heap.size s x) (n : Nat) (hn : n = s.need.length) :
    Calls Try.prog 101 #[.agg #[.slice x.a s.need.length x.ca, .slice x.b s.order.length x.cb, .int .i64 s.keep, .int .i64 s.room]] w fun e w' => ∃ gL gC base : Nat, e = .returned (.tuple #[.slice (some ⟨gL, 0, none⟩) (n + 1) (n + 1), .slice (some ⟨gC, 0, none⟩) (n + 1) (n + 1)]) ∧ Hid (LstQ w' base gL gC (schV s n) (resV s n) n) ∧ Hid (Below w.heap.size w w') := by
  obtain ⟨w1, gT, HW1, HGT, HB1, HTB⟩ := sup_box 121 s x w hT
  obtain ⟨hT1, r0, r1, r2, r3⟩ := HTB.out w1 (Below.refl _ _)
  have hn20 := hs.n1
  have hn1 := hs.n0
  rw [← hn] at hn20 hn1
  have HCV := Lib.hid (fun W (hb : Below w1.heap.size w1 W) (fr tp : Nat) (h1 : fr < tp) (h2 : tp ≤ n) => rcover_any s x W hs (HTB.out W hb).1 fr tp h1 (by rw [← hn]; exact h2))
  have HS := Lib.hid hs
  unfold supV at *
  rw [← hn] at r0 HTB HW1 HCV ⊢
  have HN := Lib.hid hn
  clear hT hT1 hs hn
  have N1 : IntKind.i64.wrap ((n : Int) + 1) = (n : Int) + 1 := by rw [IntKind.wrap_i64]; omega
  have N2 : IntKind.i64.wrap ((n : Int) - 1) = (n : Int) - 1 := by rw [IntKind.wrap_i64]; omega
  have hmkL := fun W => run_make_row' (P := Try.prog) 124 47 (.slice none 0 0) 24 Try.underlying124 infoSl47T rfl .i64 .i64 (n + 1) (by omega) (by omega) W
  have hmkC := fun W => run_make_row' (P := Try.prog) 47 3 (.int .i64 0) 8 Try.underlying47 infoIntT rfl .i64 .i64 (n + 1) (by omega) (by omega) W
  simp only [show ((n + 1 : Nat) : Int) = (n : Int) + 1 from by omega] at hmkL hmkC
  go_enter Try.func101, Try.ntmps101
  go_upto_region 1 with fail
  rw [← HW1.out, ← HGT.out]
  go_upto_region 2 with fail
  go_cut [5, 6] (fun a b wx => ∃ gL gC base : Nat, a = .slice (some ⟨gL, 0, none⟩) (n + 1) (n + 1) ∧ b = .slice (some ⟨gC, 0, none⟩) (n + 1) (n + 1) ∧ Hid (LstQ wx base gL gC (fun _ => []) (fun _ => 0) n) ∧ Hid (base ≤ wx.heap.size ∧ w1.heap.size ≤ base) ∧ Hid (w1.heap.size ≤ gL ∧ w1.heap.size ≤ gC) ∧ Hid (Below w1.heap.size w1 wx))
  case first =>
    go_region
    all_goals
      go_wp2_with fail
      go_meet
      first
        | exact ⟨_, _, w1.heap.size + 2, rfl, rfl, Lib.hid (best_new1 w1 n), Lib.hid ⟨by simp, by omega⟩, Lib.hid ⟨Nat.le_refl _, Nat.le_succ _⟩, Lib.hid ((balR (balR (Below.refl _ _) _) _).drew)⟩
        | exact ⟨_, _, w1.heap.size + 2, rfl, rfl, Lib.hid (best_new2 w1 n), Lib.hid ⟨by simp, by omega⟩, Lib.hid ⟨Nat.le_succ _, Nat.le_refl _⟩, Lib.hid ((balR (balR (Below.refl _ _) _) _).drew)⟩
  case rest =>
    obtain ⟨gL, gC, base, rfl, rfl, HL0, HBX, HG, HBc⟩ := hcut
    have HBS0 := Lib.hid HBX.out.1
    have HGE := Lib.hid HBX.out.2
    have HBL := Lib.hid HL0.out.base_lt
    clear hmkL hmkC r0 r1 r2 r3
    go_wp2_with fail
    go_loopw [7] (fun u wr => ∃ p : Nat, p ≤ n ∧ u = .int .i64 (bI p) ∧ Hid (LstQ wr base gL gC (lsO s n p) (csO s n p) n) ∧ Hid (Below w1.heap.size w1 wr) ∧ Hid (base ≤ wr.heap.size)) (fun u _ => (intOf u + 1).toNat)
    case atStart => exact ⟨n, Nat.le_refl _, by obtain ⟨q, rfl⟩ : ∃ q, n = q + 1 := ⟨n - 1, by omega⟩; simp [bI], Lib.hid (HL0.out.congr (fun j hj => (lsO_n s n j hj).symm) (fun j hj => (csO_n s n j hj).symm)), HBc, HBS0⟩
    case round =>
      obtain ⟨p, hpn, rfl, HQ0, HB0, HS0⟩ := hrel
      cases p with
      | zero =>
        skip
        rw [show bI 0 = -1 from rfl]
        go_wp2_with fail
        go_ret2
        exact ⟨gL, gC, base, rfl, Lib.hid (HQ0.out.congr (fun j hj => by unfold lsO; rw [if_pos (Nat.zero_le _)]) (fun j hj => by unfold csO; rw [if_pos (Nat.zero_le _)])), Lib.hid (HB1.out.trans (HB0.out.mono HB1.out.size))⟩
      | succ i =>
        skip
        rw [show bI (i + 1) = (i : Int) from rfl]
        have i0 : (0 : Int) ≤ (i : Int) := by omega
        have i1 : (i : Int) < (n : Int) + 1 := by omega
        have i2 : IntKind.i64.wrap ((i : Int) + 1) = (i : Int) + 1 := by rw [IntKind.wrap_i64]; omega
        have i3 : IntKind.i64.wrap ((i : Int) - 1) = (i : Int) - 1 := by rw [IntKind.wrap_i64]; omega
        obtain ⟨wo, rfl⟩ : ∃ W, W = wr := ⟨_, rfl⟩
        go_wp2_with fail
        go_loopw [8, 9] (fun f u wr => ∃ (m k : Nat), k = i + 1 + m ∧ k ≤ n + 1 ∧ u = .int .i64 (k : Int) ∧ BstI s n i m base gL gC w1 f wr) (fun _ u _ => n + 1 - (intOf u).toNat)
        case atStart => exact ⟨0, i + 1, by omega, by omega, by go_num, ⟨none, rfl, Lib.hid rfl, Lib.hid (HQ0.out.congr (fun j _ => (lsG_0 s n i j).symm) (fun j _ => (csG_0 s n i j).symm)), HB0, HS0⟩⟩
        case round =>
          obtain ⟨m, k, hkm, hkn, rfl, ⟨⟨so, rfl, HSO, HQ, HB, HBS⟩⟩⟩ := hrel
          clear HQ0 HB0 HS0
          obtain ⟨bf, hbf⟩ : ∃ b, b = so.isSome := ⟨_, rfl⟩
          rw [← hbf]
          have HBF := Lib.hid hbf
          have HKM := Lib.hid hkm
          clear hbf
          by_cases hlt : k ≤ n
          · have k0 : (0 : Int) ≤ (k : Int) := by omega
            have k1 : (k : Int) < (n : Int) + 1 := by omega
            have k2 : (k : Int) ≤ (n : Int) := by omega
            have hik : i < k := by omega
            have H102 := Lib.hid (HCV.out wr HB.out i k hik hlt)
            have hcb := covC_bd HS.out (fr := i) (tp := k) (by omega)
            have HCN := Lib.hid (show covB s i k = false → cov s i k = none from fun h => cov_none h)
            have HCY := Lib.hid (show covB s i k = true → cov s i k = some (covC s i k) from fun h => cov_some h)
            obtain ⟨ok, hok⟩ : ∃ q, q = covB s i k := ⟨_, rfl⟩
            obtain ⟨cc, hcc⟩ : ∃ q, q = covC s i k := ⟨_, rfl⟩
            rw [← hok] at H102 HCN HCY
            rw [← hcc] at H102 hcb HCY
            obtain ⟨-, r0, r1, r2, r3⟩ := HTB.out wr HB.out
            clear hok hcc hkm
            cases ok
            · have HCN0 := Lib.hid (HCN.out rfl)
              clear HCN HCY
              go_wp2_with (go_at_call 102; with_reducible refine H102.out.mono ?_; rintro e w5 ⟨rfl, hb5⟩; have HB5 := Lib.hid (bstep HB.out hb5.out); have HQ5 := Lib.hid (HQ.out.below hb5.out); have HS5 := Lib.hid (Nat.le_trans HBS.out hb5.out.size); clear hb5 r0 r1 r2 r3)
              go_roundw
              case rel => exact ⟨m + 1, k + 1, by have := HKM.out; omega, by omega, by go_num, ⟨so, by rw [HBF.out], Lib.hid (by rw [selA (by rw [← HKM.out]; exact HCN0.out)]; exact HSO.out), HQ5, HB5, HS5⟩⟩
              case measure => simp [intOf]; omega
            · have HCY2 := Lib.hid (HCY.out rfl)
              obtain ⟨i3', hi3, z0, z1, z2⟩ := info_parts infoInt
              have HI3 := Lib.hid hi3
              clear hi3 HCN HCY
              go_upto_region 13 with (go_at_call 102; with_reducible refine H102.out.mono ?_; rintro e w5 ⟨rfl, hb5⟩; have HB5 := Lib.hid (bstep HB.out hb5.out); have HQ5 := Lib.hid (HQ.out.below hb5.out); have HS5 := Lib.hid (Nat.le_trans HBS.out hb5.out.size); clear hb5 r0 r1 r2 r3)
              have hm1 : 0 + 1 ≤ maxLen := by decide
              have hbs5 := HS5.out
              go_upto_region 14 with (at_builtin; refine wpList_append_lies _ rfl (.tmp 44) (.tmp 46) 47 rfl base 3 i3' _ 1 8 Try.underlying47 HI3.out z0 z1 z2 rfl (by decide) (.slice none 0 0) 0 [] rfl (World.ownsRow_nil _ _ _ _) ⟨w5.heap.size, 0, none⟩ 1 1 [.int .i64 (i : Int)] rfl rfl (news_of1 w5 3 #[.int .i64 (i : Int)]) (by intro u hu; simp at hu; subst hu; rfl) (by decide) hm1 (by decide) (by simp; omega) (w5.heap.size + 1) (by simp) ?_; intro g6 cap6 w6 hown6 hgrow6 hat6 hlt6; have hb56 : Below w5.heap.size w5 w6 := (balR (Below.refl _ _) (.cells #[.int .i64 (i : Int)] 3)).grown hgrow6 (by simp) (fun p hp => by simp [Value.ownBlock] at hp); have HB6 := Lib.hid (bstep HB5.out hb56); have HB56 := Lib.hid hb56; have HQ6 := Lib.hid (HQ5.out.below hb56); have HO6 := Lib.hid hown6; have HG6 := Lib.hid (show g6 = w5.heap.size + 1 from by rcases hat6 with h | h; (simp [Value.ownBlock] at h); exact h); have HS6 := Lib.hid (show base ≤ w6.heap.size from Nat.le_trans HS5.out hb56.size); clear hown6 hgrow6 hat6 hlt6 hb56)
              clear hbs5 hm1
              obtain ⟨vk, q1, q2, q3, q4, q5, q6⟩ := HQ6.out.at_ hlt
              have hlk : lsG s n i so k = schV s n k := by unfold lsG; rw [if_pos hik]
              have hck : csG s n i so k = resV s n k := by unfold csG; rw [if_pos hik]
              rw [hlk] at q3 q4
              have HO3 := Lib.hid q3
              have HNI := Lib.hid q4
              have hsl := schV_len HS.out hn20 (n - k) k (by omega)
              obtain ⟨L, hL⟩ : ∃ L, L = schV s n k := ⟨_, rfl⟩
              rw [← hL] at HO3 HNI hsl
              have HL := Lib.hid hL
              clear q2 q3 q4 q5 q6 hlk hck hL
              obtain ⟨N, hN⟩ : ∃ N, N = 1 + L.length := ⟨_, rfl⟩
              have hN20 : N ≤ 21 := by omega
              have HNN := Lib.hid hN
              have hsl2 : L.length ≤ 20 := by omega
              clear hN hsl
              go_cut [12] (fun v wx => ∃ (g9 c9 : Nat), v = .slice (some ⟨g9, 0, none⟩) N c9 ∧ Hid (wx.ownsRow base 3 1 (.slice (some ⟨g9, 0, none⟩) N c9) N (castV (i :: L))) ∧ Hid (LstQ wx base gL gC (lsG s n i so) (csG s n i so) n) ∧ Hid (Below w1.heap.size w1 wx) ∧ Hid (base ≤ wx.heap.size))
              case first =>
                by_cases hLn : L = []
                · have HV := Lib.hid (HNI.out hLn)
                  have hN1 : N = 1 := by rw [HNN.out, hLn]; rfl
                  have HLN := Lib.hid hLn
                  subst hN1
                  clear hLn
                  go_wp2_with (at_builtin; refine wpList_append_own_none rfl (.tmp 48) (.tmp 52) 47 rfl base 3 i3' 1 Try.underlying47 HI3.out (.slice (some ⟨g6, 0, none⟩) 1 cap6) 1 [.int .i64 (i : Int)] rfl HO6.out HV.out ?_)
                  go_meet
                  exact ⟨_, _, rfl, Lib.hid (by rw [HLN.out]; exact HO6.out), HQ6, HB6, HS6⟩
                · obtain ⟨gk, ck, rfl, hgk1, hgk2⟩ := own_blk HO3.out hLn
                  have HLN := Lib.hid hLn
                  have hlp : 0 < L.length := List.length_pos_iff.mpr hLn
                  have hm1 : 1 + L.length ≤ maxLen := by simp only [maxLen]; omega
                  have hgb := HS6.out
                  have HNE := Lib.hid hm1
                  have HLP := Lib.hid hlp
                  clear hLn hm1 hlp hgk1 hgk2 hgb
                  go_wp2_with (at_builtin; refine wpList_append_lies _ rfl (.tmp 48) (.tmp 52) 47 rfl base 3 i3' _ 1 8 Try.underlying47 HI3.out z0 z1 z2 rfl (by decide) (.slice (some ⟨g6, 0, none⟩) 1 cap6) 1 [.int .i64 (i : Int)] rfl HO6.out ⟨gk, 0, none⟩ L.length ck (castV L) rfl (by rw [castV_len, Nat.mul_one]) (HO3.out.cells rfl) (castV_one L) HLP.out HNE.out (by have := HNE.out; omega) HS6.out w6.heap.size rfl ?_; intro g9 cap9 w9 hown9 hgrow9 hat9 hlt9)
                  go_meet
                  have hb59 : Below w5.heap.size w5 w9 := HB56.out.grown hgrow9 HB56.out.size (fun p hp => by injection hp with hp; rw [← hp, HG6.out]; exact Nat.le_succ _)
                  exact ⟨g9, cap9, by rw [HNN.out], Lib.hid (by rw [HNN.out]; exact hown9), Lib.hid (HQ5.out.below hb59), Lib.hid (bstep HB5.out hb59), Lib.hid (Nat.le_trans HS5.out hb59.size)⟩
              case rest =>
                obtain ⟨g9, c9, rfl, HO9, HQ9, HB9, HS9⟩ := hcut
                clear q1 HO3 HNI HQ6 HB6 HB56 HO6 HG6 HS6 HQ5 HB5 HS5 HQ HB HBS
                obtain ⟨vk, -, -, -, -, q1, -⟩ := HQ9.out.at_ hlt
                have hck : csG s n i so k = resV s n k := by unfold csG; rw [if_pos hik]
                rw [hck] at q1
                have hcn := resV_nn HS.out hn20 k hlt
                have hcl := resV_le HS.out (n := n) (i := k) hn20 hlt
                have HSA := Lib.hid (fun h2 => selB (s := s) (n := n) (i := i) (m := m) (c := cc) (by rw [← HKM.out]; exact HCY2.out) h2)
                have HSC := Lib.hid (fun b h2 ht => selC (s := s) (n := n) (i := i) (m := m) (c := cc) (b := b) (by rw [← HKM.out]; exact HCY2.out) h2 ht)
                have HSD := Lib.hid (fun b h2 ht => selD (s := s) (n := n) (i := i) (m := m) (c := cc) (b := b) (by rw [← HKM.out]; exact HCY2.out) h2 ht)
                rw [← HKM.out, ← HL.out] at HSA HSC HSD
                obtain ⟨ck, hck2⟩ : ∃ c, c = resV s n k := ⟨_, rfl⟩
                rw [← hck2] at q1 hcn hcl HSA HSC HSD
                rw [← hck2] at hck
                have CKK := Lib.hid hck
                clear hck hck2
                have sw : IntKind.i64.wrap (cc + ck) = cc + ck := by rw [IntKind.wrap_i64]; omega
                obtain ⟨vi, q0, f1, o1, -, q2, f2⟩ := HQ9.out.at_ (j := i) (by omega)
                have hNL : N = (i :: L).length := by rw [HNN.out]; simp; omega
                have HPUT := Lib.hid (fun nq => (HQ9.out.below (below_drewN (Below.refl _ _) nq)).put (i := i) (v := .slice (some ⟨g9, 0, none⟩) N c9) (l := i :: L) (a := cc + ck) (by omega) (by rw [← hNL]; exact own_belowV HO9.out (below_drewN (Below.refl _ _) nq)) (by simp))
                have HBP := Lib.hid (show ∀ nq, Below w1.heap.size w1 (((wc.drewN nq).setCell ⟨gL, i, none⟩ (.slice (some ⟨g9, 0, none⟩) N c9)).setCell ⟨gC, i, none⟩ (.int .i64 (cc + ck))) from fun nq => (((below_drewN HB9.out nq).setCell (p := ⟨gL, i, none⟩) HG.out.1 _).setCell (p := ⟨gC, i, none⟩) HG.out.2 _))
                have hsi := csG_i s n i so
                have hli := lsG_i s n i so
                rw [hsi] at q2
                rw [hli] at o1
                have HNL := Lib.hid hNL
                have gne : gL ≠ gC := HBL.out.2.2
                clear hsi hli hNL
                cases so with
                | none =>
                  obtain rfl : bf = false := HBF.out
                  have HSX := Lib.hid (HSA.out HSO.out.symm)
                  have HO1 := Lib.hid o1
                  clear o1 q2
                  go_wp2_with fail
                  go_quiet (fail)
                  have hqd := HQ9.out.below (below_drewN (Below.refl _ _) nq)
                  obtain ⟨c5, -⟩ := hqd.mid i k hlt (.slice (some ⟨g9, 0, none⟩) N c9)
                  obtain ⟨c6, f6⟩ := hqd.mid i i (by omega) (.slice (some ⟨g9, 0, none⟩) N c9)
                  rw [CKK.out] at c5
                  clear hqd
                  go_wp2_with fail
                  go_roundw
                  case rel => exact ⟨m + 1, k + 1, by have := HKM.out; omega, by omega, by go_num, ⟨some (i :: L, cc + ck), rfl, Lib.hid HSX.out.symm, Lib.hid ((HPUT.out nq).congr (fun j _ => lsG_put s n i _ (i :: L, cc + ck) j) (fun j _ => csG_put s n i _ (i :: L, cc + ck) j)), Lib.hid (HBP.out nq), Lib.hid (by have := HS9.out; simpa using this)⟩⟩
                  case measure => simp [intOf]; omega
                | some b =>
                  obtain rfl : bf = true := HBF.out
                  obtain ⟨bl, bc⟩ := b
                  dsimp only [soL, soC] at q2 o1
                  have hbd := sel_bd HS.out (i := i) hn20 m (by have := HKM.out; omega) _ HSO.out.symm
                  dsimp only at hbd
                  obtain ⟨hb1, hb2, hb3, hb4⟩ := hbd
                  obtain ⟨gi, ci, rfl, -, -⟩ := own_blk o1 hb4
                  obtain ⟨lb, hlb⟩ : ∃ b, b = lessL (casts (i :: L)) (casts bl) := ⟨_, rfl⟩
                  have HLS := Lib.hid (show ∀ nq, Calls Try.prog 129 #[.slice (some ⟨g9, 0, none⟩) N c9, .slice (some ⟨gi, 0, none⟩) bl.length ci] (wc.drewN nq) fun e w' => e = .returned (.bool lb) ∧ ∃ q, w' = (wc.drewN nq).drewN q from fun nq => by
                    have h := rless_any (some ⟨g9, 0, none⟩) (some ⟨gi, 0, none⟩) c9 ci (casts (i :: L)) (casts bl) (wc.drewN nq) (by rw [casts_len, ← HNL.out]; omega) (by rw [casts_len]; omega) (own_slc (own_belowV (by rw [← HNL.out]; exact HO9.out) (below_drewN (Below.refl _ _) nq))) (own_slc (own_belowV o1 (below_drewN (Below.refl _ _) nq)))
                    rw [casts_len, casts_len, ← HNL.out, ← hlb] at h
                    exact h)
                  have HLB := Lib.hid hlb
                  clear o1 hlb hb4
                  by_cases h1 : cc + ck < bc
                  · have HSX := Lib.hid (HSC.out _ HSO.out.symm (.inl h1))
                    go_wp2_with fail
                    go_quiet (fail)
                    have hqd := HQ9.out.below (below_drewN (Below.refl _ _) nq)
                    obtain ⟨c5, -⟩ := hqd.mid i k hlt (.slice (some ⟨g9, 0, none⟩) N c9)
                    obtain ⟨c6, f6⟩ := hqd.mid i i (by omega) (.slice (some ⟨g9, 0, none⟩) N c9)
                    rw [CKK.out] at c5
                    clear hqd
                    go_wp2_with fail
                    go_roundw
                    case rel => exact ⟨m + 1, k + 1, by have := HKM.out; omega, by omega, by go_num, ⟨some (i :: L, cc + ck), rfl, Lib.hid HSX.out.symm, Lib.hid ((HPUT.out nq).congr (fun j _ => lsG_put s n i _ (i :: L, cc + ck) j) (fun j _ => csG_put s n i _ (i :: L, cc + ck) j)), Lib.hid (HBP.out nq), Lib.hid (by have := HS9.out; simpa using this)⟩⟩
                    case measure => simp [intOf]; omega
                  · by_cases h2 : cc + ck = bc
                    · have HSX1 := Lib.hid (fun h : lb = true => HSC.out _ HSO.out.symm (.inr ⟨h2, by rw [← HLB.out]; exact h⟩))
                      have HSX0 := Lib.hid (fun h : lb = false => HSD.out _ HSO.out.symm (by
                        rintro (q | ⟨_, q⟩)
                        · exact h1 q
                        · rw [← HLB.out, h] at q; cases q))
                      have h3 : ((cc + ck : Int) == bc) = true := by simpa using h2
                      clear h2 HLB
                      cases lb
                      · have HSX := Lib.hid (HSX0.out rfl)
                        clear HSX0 HSX1
                        go_wp2_with fail
                        go_quiet ((go_at_call 129; exact Calls.quiet_of (HLS.out _)))
                        go_wp2_with fail
                        go_roundw
                        case rel => exact ⟨m + 1, k + 1, by have := HKM.out; omega, by omega, by go_num, ⟨some (bl, bc), rfl, Lib.hid HSX.out.symm, Lib.hid (HQ9.out.below (below_drewN (Below.refl _ _) nq)), Lib.hid (below_drewN HB9.out nq), HS9⟩⟩
                        case measure => simp [intOf]; omega
                      · have HSX := Lib.hid (HSX1.out rfl)
                        clear HSX0 HSX1
                        go_wp2_with fail
                        go_quiet ((go_at_call 129; exact Calls.quiet_of (HLS.out _)))
                        have hqd := HQ9.out.below (below_drewN (Below.refl _ _) nq)
                        obtain ⟨c5, -⟩ := hqd.mid i k hlt (.slice (some ⟨g9, 0, none⟩) N c9)
                        obtain ⟨c6, f6⟩ := hqd.mid i i (by omega) (.slice (some ⟨g9, 0, none⟩) N c9)
                        rw [CKK.out] at c5
                        clear hqd
                        go_wp2_with fail
                        go_roundw
                        case rel => exact ⟨m + 1, k + 1, by have := HKM.out; omega, by omega, by go_num, ⟨some (i :: L, cc + ck), rfl, Lib.hid HSX.out.symm, Lib.hid ((HPUT.out nq).congr (fun j _ => lsG_put s n i _ (i :: L, cc + ck) j) (fun j _ => csG_put s n i _ (i :: L, cc + ck) j)), Lib.hid (HBP.out nq), Lib.hid (by have := HS9.out; simpa using this)⟩⟩
                        case measure => simp [intOf]; omega
                    · have HSX := Lib.hid (HSD.out _ HSO.out.symm (by
                        rintro (q | ⟨q, _⟩)
                        · exact h1 q
                        · exact h2 q))
                      have h3 : ((cc + ck : Int) == bc) = false := by simpa using h2
                      clear h2
                      go_wp2_with fail
                      go_quiet (fail)
                      go_wp2_with fail
                      go_roundw
                      case rel => exact ⟨m + 1, k + 1, by have := HKM.out; omega, by omega, by go_num, ⟨some (bl, bc), rfl, Lib.hid HSX.out.symm, Lib.hid (HQ9.out.below (below_drewN (Below.refl _ _) nq)), Lib.hid (below_drewN HB9.out nq), HS9⟩⟩
                      case measure => simp [intOf]; omega
          · have hkn2 : k = n + 1 := by omega
            subst hkn2
            have hin : i < n := by omega
            have HMN := Lib.hid (show m = n - i by omega)
            go_wp2_with fail
            go_roundw
            case rel =>
              refine ⟨i, by omega, ?_, Lib.hid (HQ.out.congr (fun j _ => by rw [HSO.out, HMN.out]; exact lsG_end HS.out hn20 hin j) (fun j _ => by rw [HSO.out, HMN.out]; exact csG_end HS.out hn20 hin j)), HB, HBS⟩
              cases i with
              | zero => simp [bI]
              | succ q => simp [bI]
            case measure => simp [intOf, bI] <;> (cases i <;> simp [bI] <;> omega)
end Go.Proofs.Ytnbnfadmbggfnaa
