/- Contract of the reference's Choose; conditions: none. -/
import Derived.Test.YtgopdfbmddkpfaaG4
import Derived.Test.YtgopdfbmddkpfaaG7
set_option linter.unusedSimpArgs false
set_option linter.unusedVariables false
namespace Go.Ag
theorem ratio_lt {n d : Nat} (hd : 0 < d) (a b : Int) : (ratioD n d).1 * a < b * (ratioD n d).2 ↔ (n : Int) * a < b * d := by
  have hg := Nat.gcd_pos_of_pos_right n hd
  have h1 : n = Nat.gcd n d * (n / Nat.gcd n d) := (Nat.mul_div_cancel' (Nat.gcd_dvd_left n d)).symm
  have h2 : d = Nat.gcd n d * (d / Nat.gcd n d) := (Nat.mul_div_cancel' (Nat.gcd_dvd_right n d)).symm
  unfold ratioD
  dsimp only
  generalize hx : n / Nat.gcd n d = x at *
  generalize hy : d / Nat.gcd n d = y at *
  have h1' : (n : Int) = (Nat.gcd n d : Int) * (x : Int) := by exact_mod_cast h1
  have h2' : (d : Int) = (Nat.gcd n d : Int) * (y : Int) := by exact_mod_cast h2
  have hgi : (0 : Int) < (Nat.gcd n d : Int) := by omega
  generalize (Nat.gcd n d : Int) = g at *
  rw [h1', h2', Int.mul_assoc, Int.mul_left_comm b]
  exact (Int.mul_lt_mul_left hgi).symm
end Go.Ag
namespace Go.Proofs.Ytgopdfbmddkpfaa
open Go.RowKit Go.Fh Go.Ag

set_option maxRecDepth 20000 in
set_option maxHeartbeats 8000000 in
theorem rchooseD_any (L : Option Addr) (cl : Nat) (l : List (Int × Int)) (A : Option Addr) (c : Nat) (h : List (Int × Int)) (over under : Int) (w : World) (hll : l.length ≤ 9223372036854775807) (hl : h.length ≤ 9223372036854775807) (hL : Sl enc2 2 w w.heap.size L l) (hA : Sl enc2 2 w w.heap.size A h) :
    Calls Try.prog 75 #[.slice L l.length cl, .slice A h.length c, .int .i64 over, .int .i64 under] w fun e w' => e = .returned (.tuple #[.int .i64 (chooseD l h over under).1, scoreV (chooseD l h over under).2.1, .int .i64 (chooseD l h over under).2.2]) ∧ Below w.heap.size w w' := by
  obtain ⟨w0, hw0⟩ : ∃ w0, w0 = w.alloc (.cells #[.int .i64 0, .int .i64 0, .int .i64 0] 145) := ⟨_, rfl⟩
  have hb0 : Below w.heap.size w w0 := by rw [hw0]; exact (Below.refl _ _).alloc (Nat.le_refl _) _
  have hks : Blk w0 w.heap.size 145 #[.int .i64 0, .int .i64 0, .int .i64 0] := by rw [hw0]; exact Blk.new _ _ _
  have HA := Lib.hid hA
  have HL := Lib.hid hL
  have HC := Lib.hid (rcheck_any A c h w0 hl ((hA.below hb0).mono hb0.size))
  have HB0 := Lib.hid hb0
  have HKS := Lib.hid hks
  have HW0 := Lib.hid hw0
  clear hA hL hb0 hks
  by_cases hc : checkH h = 0
  · rw [hc] at HC
    obtain ⟨h400, hd⟩ := checkH_zero.1 hc
    have HD := Lib.hid hd
    have HCZ := Lib.hid hc
    clear hc hd hw0
    by_cases h40 : 40 < l.length
    · have hs : chooseD l h over under = (0, (0, 0, 0), 2) := by simp [chooseD, HCZ.out, h40]
      have HS := Lib.hid hs
      have t40 : decide ((40 : Int) < (l.length : Int)) = true := by simp; omega
      clear hs
      go_enter Try.func75, Try.ntmps75
      go_wp2_with fail
      rw [← HW0.out]
      refine HC.out.mono ?_
      rintro e w1 ⟨rfl, hb1⟩
      have hbb1 := HB0.out.trans (hb1.mono HB0.out.size)
      have ks1 := Blk.below HKS.out hb1 HKS.out.lt
      have s0 := ks1.cell 0
      have s1 := ks1.cell 1
      have s2 := ks1.cell 2
      have sf0 := ks1.frozen 0
      have sf1 := ks1.frozen 1
      have sf2 := ks1.frozen 2
      simp at s0 s1 s2
      go_wp2_with fail
      have kf := (((ks1.set_ 0 (.int .i64 0)).set_ 1 (.int .i64 0)).set_ 2 (.int .i64 0))
      have z0 := kf.cell 0
      have z1 := kf.cell 1
      have z2 := kf.cell 2
      simp at z0 z1 z2
      have hbf := (((hbb1.setCell (p := ⟨w.heap.size, 0, none⟩) (Nat.le_refl _) (.int .i64 0)).setCell (p := ⟨w.heap.size, 1, none⟩) (Nat.le_refl _) (.int .i64 0)).setCell (p := ⟨w.heap.size, 2, none⟩) (Nat.le_refl _) (.int .i64 0))
      refine bodyPost_ret (v := .tuple #[.int .i64 0, .agg #[(.int .i64 0), (.int .i64 0), (.int .i64 0)], .int .i64 2]) ?_ rfl ⟨by rw [HS.out]; rfl, hbf⟩
      simp [results, Try.results75, Try.f75, go_sem, z0, z1, z2]
    · have t40 : decide ((40 : Int) < (l.length : Int)) = false := by simp; omega
      have H40 := Lib.hid h40
      go_enter Try.func75, Try.ntmps75
      go_wp2_with fail
      rw [← HW0.out]
      refine HC.out.mono ?_
      rintro e w1 ⟨rfl, hb1⟩
      have hbb1 := HB0.out.trans (hb1.mono HB0.out.size)
      have ks1 := Blk.below HKS.out hb1 HKS.out.lt
      have KS1 := Lib.hid ks1
      have HBB1 := Lib.hid hbb1
      clear ks1 hb1 hbb1
      go_wp2_with fail
      go_loopw [12] (fun i wr => ∃ k : Nat, k ≤ l.length ∧ i = .int .i64 k ∧ (∀ x ∈ l.take k, wrongM x = false) ∧ Blk wr w.heap.size 145 #[.int .i64 0, .int .i64 0, .int .i64 0] ∧ Below w.heap.size w wr) (fun i _ => l.length - (intOf i).toNat)
      case atStart => exact ⟨0, Nat.zero_le _, rfl, by simp, KS1.out, HBB1.out⟩
      case round =>
        obtain ⟨k, hk, rfl, hno, hKS, hB⟩ := hrel
        have HNO := Lib.hid hno
        clear hno
        by_cases hlt : k < l.length
        · obtain ⟨b, off, rfl, hb, c0, c1⟩ := (HL.out.below hB).at2 hlt
          have HWR := Lib.hid (rwrongM_any l[k] wr)
          have HKS1 := Lib.hid hKS
          clear hKS
          cases hw : wrongM l[k]
          · rw [hw] at HWR
            have HWF := Lib.hid hw
            go_wp2_with fail
            refine HWR.out.mono ?_
            rintro e w3 ⟨rfl, hb3⟩
            go_wp2_with fail
            go_roundw
            case rel =>
              refine ⟨k + 1, by omega, by go_num, ?_, Blk.below HKS1.out hb3 HKS1.out.lt, hB.trans (hb3.mono hB.size)⟩
              intro x hx
              rw [List.take_succ_eq_append_getElem hlt, List.mem_append] at hx
              rcases hx with hx | hx
              · exact HNO.out x hx
              · simp at hx; subst hx; exact HWF.out
            case measure => simp [intOf]; omega
          · rw [hw] at HWR
            have hany : l.any wrongM = true := List.any_eq_true.2 ⟨l[k], List.getElem_mem hlt, hw⟩
            have hs : chooseD l h over under = (0, (0, 0, 0), 1) := by simp [chooseD, HCZ.out, H40.out, hany]
            have HS := Lib.hid hs
            clear hs hany hw
            go_wp2_with fail
            refine HWR.out.mono ?_
            rintro e w3 ⟨rfl, hb3⟩
            have hks3 := Blk.below HKS1.out hb3 HKS1.out.lt
            have hbb3 := hB.trans (hb3.mono hB.size)
            have s0 := hks3.cell 0
            have s1 := hks3.cell 1
            have s2 := hks3.cell 2
            have sf0 := hks3.frozen 0
            have sf1 := hks3.frozen 1
            have sf2 := hks3.frozen 2
            simp at s0 s1 s2
            go_wp2_with fail
            have kf := (((hks3.set_ 0 (.int .i64 0)).set_ 1 (.int .i64 0)).set_ 2 (.int .i64 0))
            have z0 := kf.cell 0
            have z1 := kf.cell 1
            have z2 := kf.cell 2
            simp at z0 z1 z2
            have hbf := (((hbb3.setCell (p := ⟨w.heap.size, 0, none⟩) (Nat.le_refl _) (.int .i64 0)).setCell (p := ⟨w.heap.size, 1, none⟩) (Nat.le_refl _) (.int .i64 0)).setCell (p := ⟨w.heap.size, 2, none⟩) (Nat.le_refl _) (.int .i64 0))
            refine bodyPost_ret (v := .tuple #[.int .i64 0, .agg #[(.int .i64 0), (.int .i64 0), (.int .i64 0)], .int .i64 1]) ?_ rfl ⟨by rw [HS.out]; rfl, hbf⟩
            simp [results, Try.results75, Try.f75, go_sem, z0, z1, z2]
        · obtain rfl : k = l.length := by omega
          have hww := HNO.out
          rw [List.take_length] at hww
          have HWW := Lib.hid hww
          have hany : l.any wrongM = false := by
            cases e : l.any wrongM
            · rfl
            · obtain ⟨x, hx, hxw⟩ := List.any_eq_true.1 e
              rw [hww x hx] at hxw; cases hxw
          cases hco : costsB over under
          · have hs : chooseD l h over under = (0, (0, 0, 0), 1) := by simp [chooseD, HCZ.out, H40.out, hany, hco]
            have HS := Lib.hid hs
            clear hs hany hww
            have s0 := hKS.cell 0
            have s1 := hKS.cell 1
            have s2 := hKS.cell 2
            have sf0 := hKS.frozen 0
            have sf1 := hKS.frozen 1
            have sf2 := hKS.frozen 2
            simp at s0 s1 s2
            go_wp2_with (go_at_call 104; refine (rcosts_any _ _ _).mono ?_; rintro e w' ⟨rfl, rfl⟩)
            have kf := (((hKS.set_ 0 (.int .i64 0)).set_ 1 (.int .i64 0)).set_ 2 (.int .i64 0))
            have z0 := kf.cell 0
            have z1 := kf.cell 1
            have z2 := kf.cell 2
            simp at z0 z1 z2
            have hbf := (((hB.setCell (p := ⟨w.heap.size, 0, none⟩) (Nat.le_refl _) (.int .i64 0)).setCell (p := ⟨w.heap.size, 1, none⟩) (Nat.le_refl _) (.int .i64 0)).setCell (p := ⟨w.heap.size, 2, none⟩) (Nat.le_refl _) (.int .i64 0))
            refine bodyPost_ret (v := .tuple #[.int .i64 0, .agg #[(.int .i64 0), (.int .i64 0), (.int .i64 0)], .int .i64 1]) ?_ rfl ⟨by rw [HS.out]; rfl, hbf⟩
            simp [results, Try.results75, Try.f75, go_sem, z0, z1, z2]
          · obtain ⟨k1, k2, k3, k4⟩ := costsB_bd hco
            have HCO := Lib.hid hco
            have hs : chooseD l h over under = if (chooseN l h over under l.length).1 < 0 then (0, (0, 0, 0), 4) else ((chooseN l h over under l.length).1, (chooseN l h over under l.length).2, 0) := by simp [chooseD, HCZ.out, H40.out, hany, hco]
            have HS0 := Lib.hid hs
            obtain ⟨w2, hw2⟩ : ∃ w2, w2 = wr := ⟨_, rfl⟩
            rw [← hw2] at hKS hB ⊢
            have KS2 := Lib.hid hKS
            have HBB2 := Lib.hid hB
            have hz2 : w.heap.size < w2.heap.size := hKS.lt
            clear hs hany hww hKS hB hw2
            go_wp2_with (go_at_call 104; refine (rcosts_any _ _ _).mono ?_; rintro e w' ⟨rfl, rfl⟩)
            go_loopw [13, 15] (fun a i wr => ∃ k : Nat, k ≤ l.length ∧ i = .int .i64 k ∧ a = .int .i64 (chooseN l h over under k).1 ∧ Blk wr w.heap.size 145 #[.int .i64 0, .int .i64 0, .int .i64 0] ∧ Blk wr w2.heap.size 145 #[.int .i64 (chooseN l h over under k).2.1, .int .i64 (chooseN l h over under k).2.2.1, .int .i64 (chooseN l h over under k).2.2.2] ∧ Below w.heap.size w wr) (fun _ i _ => l.length - (intOf i).toNat)
            case atStart => exact ⟨0, Nat.zero_le _, rfl, rfl, KS2.out.alloc _, Blk.new _ _ _, HBB2.out.alloc HBB2.out.size _⟩
            case round =>
              obtain ⟨k, hk, rfl, rfl, hKa, hKb, hB⟩ := hrel
              have hok := chooseN_ok HWW.out h400 HD.out k1 k2 k3 k4 k hk
              by_cases hlt : k < l.length
              · obtain ⟨b, off, rfl, hb, c0, c1⟩ := (HL.out.below hB).at2 hlt
                have hx : l.getD k (0, 0) = l[k] := by simp [hlt]
                have hwm := HWW.out _ (List.getElem_mem hlt)
                have hm2 : 1 ≤ l[k].2 := by simp [wrongM, inB] at hwm; omega
                obtain ⟨r1, r2, r3⟩ := rateN_bd hm2 HD.out k1 k2 k3 k4 h.length (Nat.le_refl _)
                have hsz := hB.size
                have HR := rrateD_any l[k] A c h over under wr hl ((HA.out.below hB).mono hB.size)
                have hrt : rateD l[k] h over under = if (rateN l[k] h over under h.length).1 = 0 then ((0, 0, 0), 4) else ((((rateN l[k] h over under h.length).1 : Int), (ratioD (rateN l[k] h over under h.length).2.toNat (rateN l[k] h over under h.length).1).1, (ratioD (rateN l[k] h over under h.length).2.toNat (rateN l[k] h over under h.length).1).2), 0) := by simp [rateD, HCZ.out, hwm, HCO.out]
                rw [hrt] at HR
                have hst : chooseN l h over under (k + 1) = if 0 < (rateN l[k] h over under h.length).1 ∧ ((chooseN l h over under k).1 < 0 ∨ (rateN l[k] h over under h.length).2 * (chooseN l h over under k).2.2.2 < (chooseN l h over under k).2.2.1 * ((rateN l[k] h over under h.length).1 : Nat)) then ((k : Int), (((rateN l[k] h over under h.length).1 : Nat) : Int), (ratioD (rateN l[k] h over under h.length).2.toNat (rateN l[k] h over under h.length).1).1, (ratioD (rateN l[k] h over under h.length).2.toNat (rateN l[k] h over under h.length).1).2) else chooseN l h over under k := by rw [← hx]; rfl
                obtain ⟨xx, hxx⟩ : ∃ x, x = l[k] := ⟨_, rfl⟩
                rw [← hxx] at c0 c1 HR hst r1 r2 r3 hrt
                clear hrt
                generalize rateN xx h over under h.length = r at *
                generalize chooseN l h over under k = S at *
                obtain ⟨hS1, hS2, hS3, hS4, hS5, hS6, hS7⟩ := hok
                have HST := Lib.hid hst
                have HKA := Lib.hid hKa
                have HKB := Lib.hid hKb
                have hz2' : w2.heap.size < wr.heap.size := hKb.lt
                clear hst hKa hKb hx hxx hwm
                by_cases q1 : 0 < r.1
                · have hrb := ratioD_bd (n := r.2.toNat) (d := r.1) (a := 4000000000) (b := 400) (by omega) (by omega)
                  have hrl := ratio_lt (n := r.2.toNat) (d := r.1) q1 S.2.2.2 S.2.2.1
                  rw [Int.toNat_of_nonneg r2] at hrl
                  rw [if_neg (by omega)] at HR
                  obtain ⟨N, hN⟩ : ∃ N, N = (ratioD r.2.toNat r.1).1 := ⟨_, rfl⟩
                  obtain ⟨D, hD⟩ : ∃ D, D = (ratioD r.2.toNat r.1).2 := ⟨_, rfl⟩
                  rw [← hN, ← hD] at HST HR hrb hrl
                  obtain ⟨n1, n2, n3, n4⟩ := hrb
                  have p1 := Int.mul_nonneg n1 hS6
                  have p2 := Int.mul_le_mul (show N ≤ 4000000000 by omega) hS7 hS6 (by omega)
                  have p3 := Int.mul_nonneg hS4 n3
                  have p4 := Int.mul_le_mul hS5 (show D ≤ 400 by omega) n3 (by omega)
                  have f1 := IntWalk.i64_in (N * S.2.2.2) (by omega)
                  have f2 := IntWalk.i64_in (S.2.2.1 * D) (by omega)
                  have HR' := Lib.hid HR
                  clear p1 p2 p3 p4 HR hN hD
                  simp only [scoreV] at HR'
                  have hch : (S.1 < 0 ∨ r.2 * S.2.2.2 < S.2.2.1 * (r.1 : Int)) ∨ ¬ (S.1 < 0 ∨ r.2 * S.2.2.2 < S.2.2.1 * (r.1 : Int)) := Classical.em _
                  rcases hch with hch | hch
                  · have hstep : chooseN l h over under (k + 1) = ((k : Int), (r.1 : Int), N, D) := by rw [HST.out, if_pos ⟨q1, hch⟩]
                    have HSTEP := Lib.hid hstep
                    have htt : (decide (S.1 < 0) = true) ∨ (decide (S.1 < 0) = false ∧ decide (N * S.2.2.2 < S.2.2.1 * D) = true) := by
                      by_cases e : S.1 < 0
                      · exact .inl (by simpa using e)
                      · exact .inr ⟨by simpa using e, by rcases hch with h | h; exact absurd h e; simpa using hrl.2 h⟩
                    clear hstep hch HST hrl
                    rcases htt with t2 | ⟨t2, t3⟩
                    all_goals
                      go_wp2_with fail
                      refine HR'.out.mono ?_
                      rintro e w3 ⟨rfl, hb3⟩
                      have kb3 := (Blk.below HKB.out hb3 HKB.out.lt).alloc (.cells #[.int .i64 (r.1 : Int), .int .i64 N, .int .i64 D] 145)
                      have ka3 := (Blk.below HKA.out hb3 HKA.out.lt).alloc (.cells #[.int .i64 (r.1 : Int), .int .i64 N, .int .i64 D] 145)
                      have hbb3 := hB.trans (hb3.mono hB.size)
                      have hbb4 := hbb3.alloc hbb3.size (.cells #[.int .i64 (r.1 : Int), .int .i64 N, .int .i64 D] 145)
                      have hz3 : wr.heap.size ≤ w3.heap.size := hb3.size
                      have hne : w.heap.size ≠ w2.heap.size := by omega
                      have hne3 : w3.heap.size ≠ w2.heap.size := by omega
                      have kn3 := Blk.new w3 145 #[.int .i64 (r.1 : Int), .int .i64 N, .int .i64 D]
                      have x0 := kn3.cell 0
                      have x1 := kn3.cell 1
                      have x2 := kn3.cell 2
                      simp at x0 x1 x2
                      have kb3' := Blk.below HKB.out hb3 HKB.out.lt
                      have ka3' := Blk.below HKA.out hb3 HKA.out.lt
                      have hbx := (((hbb3.setCell (p := ⟨w2.heap.size, 0, none⟩) (by simp; omega) (.int .i64 (r.1 : Int))).setCell (p := ⟨w2.heap.size, 1, none⟩) (by simp; omega) (.int .i64 N)).setCell (p := ⟨w2.heap.size, 2, none⟩) (by simp; omega) (.int .i64 D))
                      have KBF := Lib.hid ((((kb3'.set_ 0 (.int .i64 (r.1 : Int))).set_ 1 (.int .i64 N)).set_ 2 (.int .i64 D)).alloc (.cells #[.int .i64 (r.1 : Int), .int .i64 N, .int .i64 D] 145))
                      have KAF := Lib.hid ((((ka3'.far (p := ⟨w2.heap.size, 0, none⟩) hne (.int .i64 (r.1 : Int))).far (p := ⟨w2.heap.size, 1, none⟩) hne (.int .i64 N)).far (p := ⟨w2.heap.size, 2, none⟩) hne (.int .i64 D)).alloc (.cells #[.int .i64 (r.1 : Int), .int .i64 N, .int .i64 D] 145))
                      have HBF := Lib.hid (hbx.alloc hbx.size (.cells #[.int .i64 (r.1 : Int), .int .i64 N, .int .i64 D] 145))
                      have y0 := kb3'.cell 0
                      have y1 := kb3'.cell 1
                      have y2 := kb3'.cell 2
                      have y3 := kb3'.frozen 0
                      have y4 := kb3'.frozen 1
                      have y5 := kb3'.frozen 2
                      have b0 := kb3.cell 0
                      have b1 := kb3.cell 1
                      have b2 := kb3.cell 2
                      have b3 := kb3.frozen 0
                      have b4 := kb3.frozen 1
                      have b5 := kb3.frozen 2
                      simp at b0 b1 b2 y0 y1 y2
                      have hlt23 : w2.heap.size < w3.heap.size := by omega
                      clear kb3 ka3 hb3 kn3 kb3' ka3' hbx
                      go_wp2_with fail
                      go_roundw
                      case rel =>
                        refine ⟨k + 1, by omega, by go_num, by rw [HSTEP.out], KAF.out, ?_, HBF.out⟩
                        rw [HSTEP.out]
                        exact KBF.out
                      case measure => simp [intOf]; omega
                  · have hstep : chooseN l h over under (k + 1) = S := by rw [HST.out, if_neg (fun h => hch h.2)]
                    have HSTEP := Lib.hid hstep
                    have t2 : decide (S.1 < 0) = false := by
                      have : ¬ S.1 < 0 := fun h => hch (.inl h)
                      simpa using this
                    have t3 : decide (N * S.2.2.2 < S.2.2.1 * D) = false := by
                      have : ¬ N * S.2.2.2 < S.2.2.1 * D := fun h => hch (.inr (hrl.1 h))
                      simpa using this
                    clear hstep hch HST hrl
                    go_wp2_with fail
                    refine HR'.out.mono ?_
                    rintro e w3 ⟨rfl, hb3⟩
                    have kb3 := (Blk.below HKB.out hb3 HKB.out.lt).alloc (.cells #[.int .i64 (r.1 : Int), .int .i64 N, .int .i64 D] 145)
                    have ka3 := (Blk.below HKA.out hb3 HKA.out.lt).alloc (.cells #[.int .i64 (r.1 : Int), .int .i64 N, .int .i64 D] 145)
                    have hbb3 := hB.trans (hb3.mono hB.size)
                    have hbb4 := hbb3.alloc hbb3.size (.cells #[.int .i64 (r.1 : Int), .int .i64 N, .int .i64 D] 145)
                    have kn3 := Blk.new w3 145 #[.int .i64 (r.1 : Int), .int .i64 N, .int .i64 D]
                    have kb3' := Blk.below HKB.out hb3 HKB.out.lt
                    have hlt23 : w2.heap.size < w3.heap.size := by have : wr.heap.size ≤ w3.heap.size := hb3.size; omega
                    have x0 := kn3.cell 0
                    have x1 := kn3.cell 1
                    have x2 := kn3.cell 2
                    have b0 := kb3.cell 0
                    have b1 := kb3.cell 1
                    have b2 := kb3.cell 2
                    have y0 := kb3'.cell 0
                    have y1 := kb3'.cell 1
                    have y2 := kb3'.cell 2
                    simp at b0 b1 b2 x0 x1 x2 y0 y1 y2
                    have KB3 := Lib.hid kb3
                    have KA3 := Lib.hid ka3
                    clear kb3 ka3 hb3 kn3 kb3'
                    go_wp2_with fail
                    go_roundw
                    case rel => exact ⟨k + 1, by omega, by go_num, by rw [HSTEP.out], KA3.out, by rw [HSTEP.out]; exact KB3.out, hbb4⟩
                    case measure => simp [intOf]; omega
                · have hr0 : r.1 = 0 := by omega
                  have hstep : chooseN l h over under (k + 1) = S := by rw [HST.out, if_neg (fun h => q1 h.1)]
                  have HSTEP := Lib.hid hstep
                  rw [if_pos hr0] at HR
                  have HR' := Lib.hid HR
                  simp only [scoreV] at HR'
                  clear hstep HST HR hr0
                  go_wp2_with fail
                  refine HR'.out.mono ?_
                  rintro e w3 ⟨rfl, hb3⟩
                  have KB3 := Lib.hid ((Blk.below HKB.out hb3 HKB.out.lt).alloc (.cells #[.int .i64 0, .int .i64 0, .int .i64 0] 145))
                  have KA3 := Lib.hid ((Blk.below HKA.out hb3 HKA.out.lt).alloc (.cells #[.int .i64 0, .int .i64 0, .int .i64 0] 145))
                  have hbb3 := hB.trans (hb3.mono hB.size)
                  have hbb4 := hbb3.alloc hbb3.size (.cells #[.int .i64 0, .int .i64 0, .int .i64 0] 145)
                  clear hb3
                  go_wp2_with fail
                  go_roundw
                  case rel => exact ⟨k + 1, by omega, by go_num, by rw [HSTEP.out], KA3.out, by rw [HSTEP.out]; exact KB3.out, hbb4⟩
                  case measure => simp [intOf]; omega
              · obtain rfl : k = l.length := by omega
                generalize chooseN l h over under l.length = S at *
                by_cases q1 : S.1 < 0
                · have t1 : decide (S.1 < 0) = true := by simpa using q1
                  have hs : chooseD l h over under = (0, (0, 0, 0), 4) := by rw [HS0.out, if_pos q1]
                  have HS := Lib.hid hs
                  clear hs
                  have s0 := hKa.cell 0
                  have s1 := hKa.cell 1
                  have s2 := hKa.cell 2
                  have sf0 := hKa.frozen 0
                  have sf1 := hKa.frozen 1
                  have sf2 := hKa.frozen 2
                  simp at s0 s1 s2
                  go_wp2_with fail
                  have kf := (((hKa.set_ 0 (.int .i64 0)).set_ 1 (.int .i64 0)).set_ 2 (.int .i64 0))
                  have z0 := kf.cell 0
                  have z1 := kf.cell 1
                  have z2 := kf.cell 2
                  simp at z0 z1 z2
                  have hbf := (((hB.setCell (p := ⟨w.heap.size, 0, none⟩) (Nat.le_refl _) (.int .i64 0)).setCell (p := ⟨w.heap.size, 1, none⟩) (Nat.le_refl _) (.int .i64 0)).setCell (p := ⟨w.heap.size, 2, none⟩) (Nat.le_refl _) (.int .i64 0))
                  refine bodyPost_ret (v := .tuple #[.int .i64 0, .agg #[(.int .i64 0), (.int .i64 0), (.int .i64 0)], .int .i64 4]) ?_ rfl ⟨by rw [HS.out]; rfl, hbf⟩
                  simp [results, Try.results75, Try.f75, go_sem, z0, z1, z2]
                · have t1 : decide (S.1 < 0) = false := by simpa using q1
                  have hs : chooseD l h over under = (S.1, S.2, 0) := by rw [HS0.out, if_neg q1]
                  have HS := Lib.hid hs
                  clear hs
                  have s0 := hKa.cell 0
                  have s1 := hKa.cell 1
                  have s2 := hKa.cell 2
                  have sf0 := hKa.frozen 0
                  have sf1 := hKa.frozen 1
                  have sf2 := hKa.frozen 2
                  simp at s0 s1 s2
                  have t0 := hKb.cell 0
                  have t1 := hKb.cell 1
                  have t2 := hKb.cell 2
                  simp at t0 t1 t2
                  go_wp2_with fail
                  go_region
                  all_goals go_wp2_with fail
                  all_goals
                    have kf := (((hKa.set_ 0 (.int .i64 S.2.1)).set_ 1 (.int .i64 S.2.2.1)).set_ 2 (.int .i64 S.2.2.2)).drew
                    have z0 := kf.cell 0
                    have z1 := kf.cell 1
                    have z2 := kf.cell 2
                    simp at z0 z1 z2
                    have hbf := (((hB.setCell (p := ⟨w.heap.size, 0, none⟩) (Nat.le_refl _) (.int .i64 S.2.1)).setCell (p := ⟨w.heap.size, 1, none⟩) (Nat.le_refl _) (.int .i64 S.2.2.1)).setCell (p := ⟨w.heap.size, 2, none⟩) (Nat.le_refl _) (.int .i64 S.2.2.2)).drew
                    refine bodyPost_ret (v := .tuple #[.int .i64 S.1, .agg #[(.int .i64 S.2.1), (.int .i64 S.2.2.1), (.int .i64 S.2.2.2)], .int .i64 0]) ?_ rfl ⟨by rw [HS.out]; rfl, hbf⟩
                    simp [results, Try.results75, Try.f75, go_sem, z0, z1, z2]
  · have ht : (checkH h == 0) = false := by simpa using hc
    have hs : chooseD l h over under = (0, (0, 0, 0), checkH h) := by simp [chooseD, hc]
    have HS := Lib.hid hs
    clear hs hc hw0
    go_enter Try.func75, Try.ntmps75
    go_wp2_with fail
    rw [← HW0.out]
    refine HC.out.mono ?_
    rintro e w1 ⟨rfl, hb1⟩
    have hbb1 := HB0.out.trans (hb1.mono HB0.out.size)
    have ks1 := Blk.below HKS.out hb1 HKS.out.lt
    have s0 := ks1.cell 0
    have s1 := ks1.cell 1
    have s2 := ks1.cell 2
    have sf0 := ks1.frozen 0
    have sf1 := ks1.frozen 1
    have sf2 := ks1.frozen 2
    simp at s0 s1 s2
    go_wp2_with fail
    have kf := (((ks1.set_ 0 (.int .i64 0)).set_ 1 (.int .i64 0)).set_ 2 (.int .i64 0))
    have z0 := kf.cell 0
    have z1 := kf.cell 1
    have z2 := kf.cell 2
    simp at z0 z1 z2
    have hbf := (((hbb1.setCell (p := ⟨w.heap.size, 0, none⟩) (Nat.le_refl _) (.int .i64 0)).setCell (p := ⟨w.heap.size, 1, none⟩) (Nat.le_refl _) (.int .i64 0)).setCell (p := ⟨w.heap.size, 2, none⟩) (Nat.le_refl _) (.int .i64 0))
    refine bodyPost_ret (v := .tuple #[.int .i64 0, .agg #[(.int .i64 0), (.int .i64 0), (.int .i64 0)], .int .i64 (checkH h)]) ?_ rfl ⟨by rw [HS.out]; rfl, hbf⟩
    simp [results, Try.results75, Try.f75, go_sem, z0, z1, z2]
end Go.Proofs.Ytgopdfbmddkpfaa
