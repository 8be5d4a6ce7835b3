/- Made of layer 3: a made title; conditions: bytes. Turned from another seat by a program. -/
import Derived.Test.YtnbnfadmbggfnaaZC
import Derived.BigQuiet
import Derived.Deep.DeepCutAuto
import Derived.Deep.QuietTactic
import Derived.Deep.RegionHeld3
set_option linter.unusedSimpArgs false
set_option linter.unusedVariables false
namespace Go.Proofs.Ytnbnfadmbggfnaa
open Go.RowKit Go.Fh Go.Ed
theorem infoZonY : (Try.prog.info? 98).map (fun i => (i.zero, i.size, i.bytes)) = some (some (.agg #[.int .i64 0, .int .i64 0, .slice none 0 0]), 3, 40) := by kernel_rfl
theorem infoRdyY : (Try.prog.info? 156).map (fun i => (i.zero, i.size, i.bytes)) = some (some (.agg #[.int .i64 0, .int .i64 0, .int .i64 0]), 3, 24) := by kernel_rfl
def ints (l : List Int) : List Value := l.map (Value.int .i64)
set_option maxRecDepth 100000 in
set_option maxHeartbeats 8000000 in
theorem made_anyZ (A : Option Addr) (c : Nat) (l : List Nat) (w : World) (hl : l.length ≤ 9223372036854775807) (hbd : ∀ x ∈ l, x ≤ 255) (hA : Sl encBn 1 w w.heap.size A l) :
    Calls Try.prog 35 #[.slice A l.length c] w fun e w' => ∃ x zs, e = .returned (.agg (titV (madeT l) x)) ∧ TitAt w' w'.heap.size (madeT l) x zs ∧ Below w.heap.size w w' := by
  obtain ⟨i0, hi0, hz0, hz1, hz2⟩ := info_parts infoInt
  have HI := Lib.hid hi0
  have hpg := pagesM_bd l
  have b0 := dig_bdZ l 0 (n := 200) (by decide)
  have b1 := dig_bdZ l 1 (n := 60) (by decide)
  have b2 := dig_bdZ l 2 (n := 20) (by decide)
  have b3 := dig_bdZ l 3 (n := 30) (by decide)
  have b4 := dig_bdZ l 4 (n := 5) (by decide)
  obtain ⟨st, hst⟩ : ∃ x, x = 10 * digZ l 3 30 := ⟨_, rfl⟩
  obtain ⟨ra, hra⟩ : ∃ x, x = 20 + digZ l 0 200 := ⟨_, rfl⟩
  obtain ⟨sp, hsp⟩ : ∃ x, x = digZ l 1 60 := ⟨_, rfl⟩
  obtain ⟨ha, hha⟩ : ∃ x, x = digZ l 2 20 := ⟨_, rfl⟩
  obtain ⟨pg, hpgE⟩ : ∃ x, x = pagesM l := ⟨_, rfl⟩
  have hp2 : (2 : Int) + digZ l 4 5 = (pg : Int) := by rw [hpgE]; unfold pagesM; omega
  rw [← hpgE] at hpg
  obtain ⟨w1, hw1⟩ : ∃ W, W = (w.alloc (.cells #[.slice none 0 0, .slice none 0 0, .slice none 0 0, .slice none 0 0, .int .i64 0, .int .i64 0, .int .i64 0, .int .i64 0] 86)).alloc (.cells #[.slice A l.length c, .int .i64 0] 154) := ⟨_, rfl⟩
  obtain ⟨g, hg⟩ : ∃ g, g = w.heap.size + 1 := ⟨_, rfl⟩
  have kg : Blk w1 g 154 #[.slice A l.length c, .int .i64 0] := by
    have := Blk.new (w.alloc (.cells #[.slice none 0 0, .slice none 0 0, .slice none 0 0, .slice none 0 0, .int .i64 0, .int .i64 0, .int .i64 0, .int .i64 0] 86)) 154 #[.slice A l.length c, .int .i64 0]
    rw [World.size_alloc] at this
    rw [hw1, hg]; exact this
  have kR : Blk w1 w.heap.size 86 #[.slice none 0 0, .slice none 0 0, .slice none 0 0, .slice none 0 0, .int .i64 0, .int .i64 0, .int .i64 0, .int .i64 0] := by rw [hw1]; exact (Blk.new _ _ _).alloc _
  have hb1 : Below w.heap.size w w1 := by rw [hw1]; exact ((Below.refl _ _).alloc (Nat.le_refl _) _).alloc (by simp) _
  have hd1 : DigAtZ w1 w.heap.size A c l g 0 := ⟨kg, hA.below hb1, by omega, hl, hbd⟩
  have HD1 := Lib.hid hd1
  have HB1 := Lib.hid hb1
  have HW1 := Lib.hid hw1
  have HR1 := Lib.hid kR
  have HG := Lib.hid hg
  have HST := Lib.hid hst
  have HRA := Lib.hid hra
  have HSP0 := Lib.hid hsp
  have HHA := Lib.hid hha
  have HPG := Lib.hid hpgE
  have HP2 := Lib.hid hp2
  clear hd1 hb1 hw1 kg kR hA hbd hg hst hra hsp hha hpgE hp2 hi0
  go_enter Try.func35, Try.ntmps35
  go_upto_region 2 with fail
  rw [← HW1.out, ← HG.out]
  go_upto_region 3 with first
    | (go_at_call 80; (with_reducible refine (digit_gmZ _ _ A c l g 0 200 200 (by omega) HD1.out (by omega) (by omega) (by omega)).mono ?_); rintro e w2 ⟨rfl, hd2, hg2⟩; have HD2 := Lib.hid hd2; have HG2 := Lib.hid hg2; clear hd2 hg2)
    | (go_at_call 80; (with_reducible refine (digit_gmZ _ _ A c l g 1 60 60 (by omega) HD2.out (by omega) (by omega) (by omega)).mono ?_); rintro e w3 ⟨rfl, hd3, hg3⟩; have HD3 := Lib.hid hd3; have HG3 := Lib.hid hg3; clear hd3 hg3)
    | (go_at_call 80; (with_reducible refine (digit_gmZ _ _ A c l g 2 20 20 (by omega) HD3.out (by omega) (by omega) (by omega)).mono ?_); rintro e w4 ⟨rfl, hd4, hg4⟩; have HD4 := Lib.hid hd4; have HG4 := Lib.hid hg4; clear hd4 hg4)
    | (go_at_call 80; (with_reducible refine (digit_gmZ _ _ A c l g 3 30 30 (by omega) HD4.out (by omega) (by omega) (by omega)).mono ?_); rintro e w5 ⟨rfl, hd5, hg5⟩; have HD5 := Lib.hid hd5; have HG5 := Lib.hid hg5; clear hd5 hg5)
  obtain ⟨w6, hw6⟩ : ∃ W, W = w5.alloc (.cells #[.slice none 0 0, .slice none 0 0, .slice none 0 0, .slice none 0 0, .int .i64 (10 * digZ l 3 30), .int .i64 (20 + digZ l 0 200), .int .i64 (digZ l 1 60), .int .i64 (digZ l 2 20)] 86) := ⟨_, rfl⟩
  obtain ⟨gT, hgT⟩ : ∃ x, x = w5.heap.size := ⟨_, rfl⟩
  have hM6 : Mk w w6 A c l g 4 gT #[.slice none 0 0, .slice none 0 0, .slice none 0 0, .slice none 0 0, .int .i64 st, .int .i64 ra, .int .i64 sp, .int .i64 ha] := by
    have hg15 := gr_trans (gr_trans (gr_trans HG2.out HG3.out) HG4.out) HG5.out
    have hgg := HG.out
    have h1 := HR1.out.lt
    have h2 := hg15.size
    have hlt := HD5.out.k.lt
    have hR5 := HR1.out.grown hg15 (fun e => by injection e with e; omega)
    have hlo := HB1.out.grown hg15 HB1.out.size (fun j e => by injection e with e; omega)
    rw [hw6, hgT]
    refine ⟨HD5.out.gr (World.grownBy_alloc w5 _ none) (by simp) (by simp), ?_, hR5.alloc _, hlo.alloc (by omega) _, by omega, by omega, by omega⟩
    have := Blk.new w5 86 #[.slice none 0 0, .slice none 0 0, .slice none 0 0, .slice none 0 0, .int .i64 (10 * digZ l 3 30), .int .i64 (20 + digZ l 0 200), .int .i64 (digZ l 1 60), .int .i64 (digZ l 2 20)]
    rw [HST.out, HRA.out, HSP0.out, HHA.out]; exact this
  rw [← hw6, ← hgT]
  have HM6 := Lib.hid hM6
  clear hw6 hgT hM6 HD1 HD2 HD3 HD4 HD5 HG2 HG3 HG4 HG5 HR1 HB1 HW1 HG b0 b1 b2 b3
  go_upto_region 4 with (go_at_call 80; (with_reducible refine (digit_gmZ _ _ A c l g 4 5 5 (by omega) HM6.out.hd (by omega) (by omega) (by omega)).mono ?_); rintro e w7 ⟨rfl, hd7, hg7⟩; have HM7 := Lib.hid (HM6.out.dig_ hd7 hg7); clear hd7 hg7)
  rw [HP2.out]
  clear b4
  go_wp2_with fail
  go_loopw [27] (fun ik wr => ∃ k : Nat, k ≤ pg ∧ ik = .int .i64 k ∧ ∃ A0 c0, Hid (Mk w wr A c l g (5 + k) gT #[.slice A0 k c0, .slice none 0 0, .slice none 0 0, .slice none 0 0, .int .i64 st, .int .i64 ra, .int .i64 sp, .int .i64 ha]) ∧ Hid (wr.ownsRow w.heap.size 3 1 (.slice A0 k c0) k (ints (colM l 5 k)))) (fun ik _ => pg - (intOf ik).toNat)
  case atStart => exact ⟨0, Nat.zero_le _, rfl, none, 0, HM7.out, World.ownsRow_nil _ _ _ _⟩
  case round =>
    obtain ⟨k, hk, rfl, A0, c0, HM, HO⟩ := hrel
    by_cases hlt : k < pg
    ·
      have bd := dig_bdZ l (5 + k) (n := 2) (by decide)
      have y0 := HM.out.kT.cell 0
      simp at y0
      have hTl := HM.out.kT.lt
      have SB := Lib.hid (show ∀ W, wr.grownBy W (some g) → W.cell? ⟨gT, 5, none⟩ = some (.int .i64 ra) from fun W hb => by rw [(HM.out.kT.grown hb (fun e => HM.out.n1 (by injection e))).cell]; simp)
      have HD := Lib.hid (show ∀ W, Below wr.heap.size wr W → DigAtZ W w.heap.size A c l g (5 + k) from fun W hb => HM.out.hd.gr (gr_below hb none) (by simp) (by simp))
      have hm1 : k + 1 ≤ maxLen := by simp only [maxLen]; omega
      have hm2 : (k + 1) * 8 ≤ 140737488355328 := by omega
      have hlow := HM.out.low.size
      have HAP := Lib.hid (show ∀ (W w9 : World) (i : Nat), DigAtZ W w.heap.size A c l g i → wr.grownBy W (some g) → W.grownBy w9 (Value.slice A0 k c0).ownBlock → Mk w w9 A c l g i gT #[.slice A0 k c0, .slice none 0 0, .slice none 0 0, .slice none 0 0, .int .i64 st, .int .i64 ra, .int .i64 sp, .int .i64 ha] from fun W w9 i hd hb hg =>
        (HM.out.dig_ hd hb).row (HO.out.kept hb (.inr (fun e => own_blk_ne HO.out HM.out.hd.k (by decide) e.symm))) (by decide) (by decide) (Nat.le_refl _) hg)
      have HOW := Lib.hid (show ∀ W, wr.grownBy W (some g) → W.ownsRow w.heap.size 3 1 (.slice A0 k c0) k (ints (colM l 5 k)) from fun W hb => HO.out.kept hb (.inr (fun e => own_blk_ne HO.out HM.out.hd.k (by decide) e.symm)))
      go_upto_region 6 with fail
      have q1 : IntKind.i64.wrap (3 * digZ l (5 + k) 2) = 3 * digZ l (5 + k) 2 := by rw [IntKind.wrap_i64]; omega
      have q2 : IntKind.i64.wrap (1 + 3 * digZ l (5 + k) 2) = 1 + 3 * digZ l (5 + k) 2 := by rw [IntKind.wrap_i64]; omega
      go_region_law (first
          | (go_simp; go_at_call 80; refine (digit_gmZ _ _ A c l g (5 + k) 2 2 (by omega) (HD.out _ (by repeat (first | exact Below.refl _ _ | refine Below.drew ?_))) (by omega) (by omega) (by omega)).mono ?_; rintro e w8 ⟨rfl, hd8, hg8⟩; have HG8 := Lib.hid (gr_trans (gr_drew (gr_refl wr (some g))) hg8); have HD8 := Lib.hid hd8; have y8 := (HM.out.kT.grown HG8.out (fun e => HM.out.n1 (by injection e))).cell 0; simp at y8; have hs8 := Nat.lt_of_lt_of_le hTl HG8.out.size; have hl8 := Nat.le_trans hlow HG8.out.size; clear hd8 hg8; go_wp2_with fail)
          | (refine step_append_lies _ rfl (.tmp 30) (.tmp 35) 47 rfl w.heap.size 3 i0 _ 1 8 Try.underlying47 HI.out hz0 hz1 hz2 rfl (by decide) (.slice A0 k c0) k (ints (colM l 5 k)) (by rfl) (HOW.out _ (by repeat (first | exact HG8.out | refine gr_drew ?_ | refine gr_alloc ?_ _))) _ 1 1 [.int .i64 (1 + 3 * digZ l (5 + k) 2)] (by rfl) rfl (World.news_of_block (cs := #[.int .i64 (1 + 3 * digZ l (5 + k) 2)]) (t := 3) (fr := (0, 0)) (by show Blk _ _ 3 #[.int .i64 (1 + 3 * digZ l (5 + k) 2)]; (try rw [q1, q2]); repeat (first | exact Blk.new _ _ _ | refine Blk.drew ?_))) (by intro u hu; simp at hu; subst hu; rfl) (by decide) hm1 hm2 (by simp; omega) _ rfl ?_
             intro g9 cap9 w9 hown9 hgrow9 hat9 hlt9
             have h9 := HAP.out _ w9 (5 + k + 1) (HD8.out.gr (r := none) (gr_below (by repeat (first | exact Below.refl _ _ | refine Below.drew ?_ | refine Below.alloc ?_ (by simp) _)) none) (by simp) (by simp)) (by repeat (first | exact HG8.out | refine gr_drew ?_ | refine gr_alloc ?_ _)) hgrow9
             have H9 := Lib.hid h9
             have hS9 : w9.cell? ⟨gT, 5, none⟩ = some (.int .i64 ra) := by rw [h9.kT.cell]; simp
             have hy9 : w9.cell? ⟨gT, 0, none⟩ = some (.slice A0 k c0) := by rw [h9.kT.cell]; simp
             have hT9 : ∀ u, (w9.setCell ⟨gT, 0, none⟩ u).cell? ⟨gT, 5, none⟩ = some (.int .i64 ra) := fun u => by rw [(h9.kT.set_ 0 u).cell]; simp
             have hf9 := h9.kT.frozen 0
             have HO9 := Lib.hid hown9
             clear h9 hgrow9 hown9 hat9))
      all_goals
        go_wp2_with fail
        go_roundw
        case rel =>
          refine ⟨k + 1, by omega, by go_num, some ⟨g9, 0, none⟩, cap9, Lib.hid ?_, Lib.hid ?_⟩
          · have := H9.out.set_ 0 (.slice (some ⟨g9, 0, none⟩) (k + 1) cap9)
            rw [show 5 + (k + 1) = 5 + k + 1 from rfl]
            simpa using this
          · have := own_far HO9.out (p := ⟨gT, 0, none⟩) (own_blk_ne HO9.out H9.out.kT (by decide)) (.slice (some ⟨g9, 0, none⟩) (k + 1) cap9)
            simpa [ints, colM] using this
        case measure => simp [intOf]; omega
    · obtain rfl : k = pg := by omega
      obtain ⟨g0, cap0, hA0, -⟩ := HO.out.form (by omega)
      injection hA0 with e1 e2 e3
      subst e1 e3
      clear e2
      have bd := dig_bdZ l (5 + k) (n := 3) (by decide)
      obtain ⟨p0, hp0⟩ : ∃ p, p = (digZ l (5 + k) 3).toNat := ⟨_, rfl⟩
      have hp0' : digZ l (5 + k) 3 = (p0 : Int) := by omega
      have HPR := Lib.hid (show pairM l k 7 p0 (6 + k) (colM l 5 k) [] = pairsM l by unfold pairsM; rw [← HPG.out, hp0])
      have HP0 := Lib.hid hp0'
      have hp02 : p0 ≤ 2 := by omega
      clear hp0 hp0' bd
      go_wp2_with (go_at_call 80; (with_reducible refine (digit_gmZ _ _ A c l g (5 + k) 3 3 (by omega) HM.out.hd (by omega) (by omega) (by omega)).mono ?_); rintro e w8 ⟨rfl, hd8, hg8⟩; have HM8 := Lib.hid (HM.out.dig_ hd8 hg8); have HO8 := Lib.hid (HO.out.kept hg8 (.inr (fun e => own_blk_ne HO.out HM.out.hd.k (by decide) e.symm))); clear hd8 hg8)
      rw [HP0.out]
      go_loopw [6] (fun ip wr => ∃ (f p i : Nat) (cc q : List Int) (B1 : Option Addr) (c1 : Nat), ip = .int .i64 p ∧ Hid (pairM l k f p i cc q = pairsM l) ∧ 14 ≤ p + 2 * f ∧ i + f = 13 + k ∧ p ≤ 20 ∧ cc.length = k ∧ 2 * q.length ≤ p ∧
        Hid (Mk w wr A c l g i gT #[.slice (some ⟨g0, 0, none⟩) k c0, .slice B1 q.length c1, .slice none 0 0, .slice none 0 0, .int .i64 st, .int .i64 ra, .int .i64 sp, .int .i64 ha]) ∧
        Hid (wr.ownsRow w.heap.size 3 1 (.slice (some ⟨g0, 0, none⟩) k c0) k (ints cc)) ∧ Hid (wr.ownsRow w.heap.size 3 1 (.slice B1 q.length c1) q.length (ints q)) ∧ Hid ((Value.slice B1 q.length c1).ownBlock ≠ some g0)) (fun ip _ => (30 - intOf ip).toNat)
      case atStart => exact ⟨7, p0, 6 + k, colM l 5 k, [], none, 0, rfl, HPR, by omega, by omega, by omega, colM_len _ _ _, by simp, Lib.hid (by rw [show 6 + k = 5 + k + 1 by omega]; exact HM8.out), HO8, Lib.hid (World.ownsRow_nil _ _ _ _), Lib.hid (by simp [Value.ownBlock])⟩
      case round =>
        clear HM HO HM8 HO8 HPR
        obtain ⟨f, p, i, cc, q, B1, c1, rfl, HPQ, hf, hif, hp20, hcl, hql, HM, HO, HQ, HNE⟩ := hrel
        by_cases hlt : p + 1 < k
        ·
          obtain ⟨f, rfl⟩ : ∃ n, f = n + 1 := ⟨f - 1, by omega⟩
          have hpc : p < cc.length := by omega
          have bd := dig_bdZ l i (n := 3) (by decide)
          obtain ⟨di, hdi⟩ : ∃ d, d = (digZ l i 3).toNat := ⟨_, rfl⟩
          have hdi' : digZ l i 3 = (di : Int) := by omega
          have hdi2 : di ≤ 2 := by omega
          have HDI := Lib.hid hdi'
          have HPN := Lib.hid (show pairM l k f (p + (2 + di)) (i + 1) (cc.set (p + 1) cc[p]) (q ++ [(p : Int)]) = pairsM l by
            rw [← HPQ.out]
            conv => rhs; unfold pairM
            rw [if_pos hlt, ← hdi, show p + 2 + di = p + (2 + di) by omega]
            simp [List.getD_eq_getElem?_getD, hpc])
          clear hdi hdi'
          have y0 := HM.out.kT.cell 0
          have hcp := HO.out.cells (g := g0) rfl p (.int .i64 cc[p]) (by simp [ints, hpc])
          have hadd : (⟨g0, 0, none⟩ : Addr).add p = ⟨g0, p, none⟩ := by unfold Addr.add; split <;> simp_all
          rw [hadd] at hcp
          simp at y0
          have hq0 : (0 : Int) ≤ (p : Int) := by omega
          have hq1 : (p : Int) < (k : Int) := by omega
          have hq2 : (p : Int) + 1 < (k : Int) := by omega
          have hlo0 := (HO.out.lt g0 rfl).1
          have hT0 : gT ≠ g0 := fun e => own_blk_ne HO.out HM.out.kT (by decide) (by rw [e]; rfl)
          have hfr := HO.out.frozenAt (p + 1)
          have hcp1 := HO.out.cells (g := g0) rfl (p + 1) (.int .i64 cc[p + 1]) (by simp [ints, show p + 1 < cc.length by omega])
          have hadd1 : (⟨g0, 0, none⟩ : Addr).add (p + 1) = ⟨g0, p + 1, none⟩ := by unfold Addr.add; split <;> simp_all
          rw [hadd1] at hcp1
          clear hadd hadd1
          have SB := Lib.hid (show ∀ W, wr.grownBy W none → W.cell? ⟨gT, 0, none⟩ = some (.slice (some ⟨g0, 0, none⟩) k c0) ∧ W.cell? ⟨g0, p, none⟩ = some (.int .i64 cc[p]) from fun W hb => ⟨by rw [(HM.out.kT.grown hb (by simp)).cell]; simp, by rw [hb.cell_far _ (HO.out.lt g0 rfl).2 (by simp)]; exact hcp⟩)
          go_upto_region 11 with fail
          have hr1 : IntKind.i64.wrap ((p : Int) + 1) = (p : Int) + 1 := by rw [IntKind.wrap_i64]; omega
          have hr2 : (0 : Int) ≤ (p : Int) + 1 := by omega
          have hr3 : (p : Int) + 1 < (k : Int) := by omega
          have hr4 : ((p : Int) + 1).toNat = p + 1 := by omega
          have HST0 := Lib.hid (show ∀ (W : World), (wr.setCell ⟨g0, p + 1, none⟩ (.int .i64 cc[p])).grownBy W none → W.cell? ⟨gT, 0, none⟩ = some (.slice (some ⟨g0, 0, none⟩) k c0) ∧ W.cell? ⟨g0, p, none⟩ = some (.int .i64 cc[p]) from fun W hb => by
            have m1 := (HM.out.row HO.out (by decide) (by decide) (Nat.le_refl _) (gr_set wr g0 (p + 1) (.int .i64 cc[p]))).gr hb (by simp) (by simp) (by simp) (by simp)
            have m2 := ((own_put HO.out (p + 1) (.int .i64 cc[p])).kept hb (.inr (by simp [Value.ownBlock]))).cells (g := g0) rfl p (.int .i64 cc[p]) (by simp [ints, hpc])
            rw [show (⟨g0, 0, none⟩ : Addr).add p = ⟨g0, p, none⟩ from by unfold Addr.add; split <;> simp_all] at m2
            exact ⟨by rw [m1.kT.cell]; simp, m2⟩)
          go_region_held3 (fun w' => w'.cell? ⟨gT, 0, none⟩ = some (.slice (some ⟨g0, 0, none⟩) k c0) ∧ w'.cell? ⟨g0, p, none⟩ = some (.int .i64 cc[p]))
            (first | (refine SB.out _ ?_; (repeat (first | exact gr_refl _ _ | refine gr_drew ?_ | refine gr_alloc ?_ _)); done) | (refine HST0.out _ ?_; (repeat (first | exact gr_refl _ _ | refine gr_drew ?_ | refine gr_alloc ?_ _)); done))
            (fail)
          all_goals
            go_upto_region 12 with fail
            obtain ⟨wa, hwa⟩ : ∃ W, W = (wr.setCell ⟨g0, p + 1, none⟩ (.int .i64 cc[p])).drew := ⟨_, rfl⟩
            rw [← hwa]
            have hgA : wr.grownBy wa (some g0) := by rw [hwa]; exact gr_drew (gr_set _ _ _ _)
            have MA := Lib.hid (HM.out.row HO.out (by decide) (by decide) (Nat.le_refl _) hgA)
            have OA := Lib.hid (show wa.ownsRow w.heap.size 3 1 (.slice (some ⟨g0, 0, none⟩) k c0) k (ints (cc.set (p + 1) cc[p])) from by
              rw [hwa]
              have := (own_put HO.out (p + 1) (.int .i64 cc[p])).kept (gr_drew (gr_refl _ none)) (.inr (by simp [Value.ownBlock]))
              unfold ints at this ⊢
              rw [List.map_set]; exact this)
            have QA := Lib.hid (HQ.out.kept hgA (.inr HNE.out))
            have hlA := MA.out.low.size
            have x1 := MA.out.kT.cell 1
            simp at x1
            have hm1 : q.length + 1 ≤ maxLen := by simp only [maxLen]; omega
            have hm2 : (q.length + 1) * 8 ≤ 140737488355328 := by omega
            have HAP := Lib.hid (show ∀ w9, (wa.alloc (.cells #[.int .i64 (p : Int)] 3)).grownBy w9 (Value.slice B1 q.length c1).ownBlock → Mk w w9 A c l g i gT #[.slice (some ⟨g0, 0, none⟩) k c0, .slice B1 q.length c1, .slice none 0 0, .slice none 0 0, .int .i64 st, .int .i64 ra, .int .i64 sp, .int .i64 ha] ∧ w9.ownsRow w.heap.size 3 1 (.slice (some ⟨g0, 0, none⟩) k c0) k (ints (cc.set (p + 1) cc[p])) from fun w9 hg =>
              ⟨(MA.out.fresh _).row (QA.out.alloc _) (by decide) (by decide) (Nat.le_refl _) hg, (OA.out.alloc _).kept hg (.inr (fun e => HNE.out e.symm))⟩)
            clear hwa hgA hcp hcp1 y0 hfr
            go_upto_region 10 with (at_builtin; refine wpList_append_lies _ rfl (.tmp 61) (.tmp 63) 47 rfl w.heap.size 3 i0 _ 1 8 Try.underlying47 HI.out hz0 hz1 hz2 rfl (by decide) (.slice B1 q.length c1) q.length (ints q) rfl (QA.out.alloc _) ⟨wa.heap.size, 0, none⟩ 1 1 [.int .i64 (p : Int)] rfl rfl (news_of1 wa 3 #[.int .i64 (p : Int)]) (by intro u hu; simp at hu; subst hu; rfl) (by decide) hm1 hm2 (by simp; omega) (wa.heap.size + 1) (by simp) ?_; intro g9 cap9 w9 hown9 hgrow9 hat9 hlt9; have h9 := HAP.out w9 hgrow9; have H9 := Lib.hid h9; have y9 := h9.1.kT.cell 1; have f9 := h9.1.kT.frozen 1; simp at y9; have HO9 := Lib.hid hown9; have HA9 := Lib.hid hat9; clear h9 hown9 hat9 hgrow9)
            have M10 := Lib.hid (H9.out.1.set_ 1 (.slice (some ⟨g9, 0, none⟩) (q.length + 1) cap9))
            have O10 := Lib.hid (own_far H9.out.2 (p := ⟨gT, 1, none⟩) (own_blk_ne H9.out.2 H9.out.1.kT (by decide)) (.slice (some ⟨g9, 0, none⟩) (q.length + 1) cap9))
            have Q10 := Lib.hid (own_far HO9.out (p := ⟨gT, 1, none⟩) (own_blk_ne HO9.out H9.out.1.kT (by decide)) (.slice (some ⟨g9, 0, none⟩) (q.length + 1) cap9))
            clear y9 f9
            go_wp2_with (go_at_call 80; (with_reducible refine (digit_gmZ _ _ A c l g i 3 3 (by omega) M10.out.hd (by omega) (by omega) (by omega)).mono ?_); rintro e w11 ⟨rfl, hd11, hg11⟩; have M11 := Lib.hid (M10.out.dig_ hd11 hg11); have O11 := Lib.hid (O10.out.kept hg11 (.inr (fun e => own_blk_ne O10.out M10.out.hd.k (by decide) e.symm))); have Q11 := Lib.hid (Q10.out.kept hg11 (.inr (fun e => own_blk_ne Q10.out M10.out.hd.k (by decide) e.symm))); clear hd11 hg11)
            rw [HDI.out]
            go_roundw
            case rel =>
              refine ⟨f, p + (2 + di), i + 1, cc.set (p + 1) cc[p], q ++ [(p : Int)], some ⟨g9, 0, none⟩, cap9, by go_num, HPN, by omega, by omega, by omega, by simp [hcl], by simp; omega, Lib.hid ?_, O11, Lib.hid ?_, Lib.hid ?_⟩
              · have := M11.out
                simpa using this
              · have := Q11.out
                simpa [ints] using this
              · intro e
                have e : g9 = g0 := by simpa [Value.ownBlock] using e
                rcases HA9.out with h | h
                · rw [e] at h; exact HNE.out h
                · have := (OA.out.lt g0 rfl).2; omega
            case measure => simp [intOf]; omega
        · have HPF := Lib.hid (show pairsM l = (cc, q, i) by
            rw [← HPQ.out]
            cases f with
            | zero => rfl
            | succ f => unfold pairM; rw [if_neg hlt])
          clear hf
          obtain ⟨wp, rfl⟩ : ∃ W, W = wr := ⟨_, rfl⟩
          have HWP := Lib.hid (show w.heap.size ≤ wp.heap.size from HM.out.low.size)
          have HOc := Lib.hid HO.out
          have HQc := Lib.hid HQ.out
          have HMc := Lib.hid HM.out
          have bz := dig_bdZ l i (n := 7) (by decide)
          obtain ⟨nz, hnz⟩ : ∃ n, n = 1 + (digZ l i 7).toNat := ⟨_, rfl⟩
          have hnz7 : nz ≤ 7 := by omega
          have HNZ := Lib.hid (show 1 + digZ l i 7 = (nz : Int) by omega)
          have HZM := Lib.hid (show zonesM l = zonsM l k (i + 1) nz by unfold zonesM; rw [HPF.out, ← HPG.out, hnz])
          clear hnz
          obtain ⟨i47, hi47, yz0, yz1, yz2⟩ := info_parts infoZonY
          have HI47 := Lib.hid hi47
          clear hi47
          go_wp2_with (go_at_call 80; (with_reducible refine (digit_gmZ _ _ A c l g i 7 7 (by omega) HM.out.hd (by omega) (by omega) (by omega)).mono ?_); rintro e w14 ⟨rfl, hd14, hg14⟩; have HM14 := Lib.hid (HM.out.dig_ hd14 hg14); have HS14 := Lib.hid (same_gr (Same.refl gT g none wp) hg14 (fun j e => .inr (.inr (by injection e with e; exact e.symm)))); clear hd14 hg14)
          rw [HNZ.out]
          clear bz
          go_loopw [69] (fun ij wr => ∃ (jn : Nat) (zs : List ZonM) (B2 : Option Addr) (c2 : Nat), ij = .int .i64 jn ∧ jn ≤ nz ∧ zs.length = jn ∧ Hid (zs.map (·.1) = (zonsM l k (i + 1) jn).1) ∧
            Hid (Mk w wr A c l g (zonsM l k (i + 1) jn).2 gT #[.slice (some ⟨g0, 0, none⟩) k c0, .slice B1 q.length c1, .slice B2 jn c2, .slice none 0 0, .int .i64 st, .int .i64 ra, .int .i64 sp, .int .i64 ha]) ∧ Hid (Same gT g none wp wr) ∧
            Hid (wr.ownsRow wp.heap.size 98 3 (.slice B2 jn c2) jn (zs.flatMap encZon)) ∧ Hid (∀ n (h : n < zs.length), wr.ownsRow wp.heap.size 3 1 (.slice zs[n].2.1 k zs[n].2.2) k (ints zs[n].1.variants))) (fun ij _ => nz - (intOf ij).toNat)
          case atStart => exact ⟨0, [], none, 0, rfl, Nat.zero_le _, rfl, Lib.hid rfl, HM14, HS14, Lib.hid (World.ownsRow_nil _ _ _ _), Lib.hid (fun n h => absurd h (by simp))⟩
          case round =>
            clear HM14 HS14
            obtain ⟨jn, zs, B2, c2, rfl, hj, hzl, HZS, HMz, HSz, HOz, HVz⟩ := hrel
            by_cases hlt2 : jn < nz
            ·
              obtain ⟨iz, hiz⟩ : ∃ x, x = (zonsM l k (i + 1) jn).2 := ⟨_, rfl⟩
              have hizb := zonsM_i l k (i + 1) jn
              have hmul : jn * (3 + k) ≤ 7 * 9 := Nat.mul_le_mul (by omega) (by omega)
              have HIZ := Lib.hid hiz
              rw [← hiz] at hizb HMz
              have hizs : iz ≤ 100 := by omega
              clear hiz hizb hmul
              obtain ⟨wz, rfl⟩ : ∃ W, W = wr := ⟨_, rfl⟩
              have bc := dig_bdZ l iz (n := 200) (by decide)
              obtain ⟨du, hdu⟩ : ∃ x, x = (dueM l (iz + 1)).1 := ⟨_, rfl⟩
              obtain ⟨i2, hi2⟩ : ∃ x, x = (dueM l (iz + 1)).2 := ⟨_, rfl⟩
              have hi2b := dueM_i l (iz + 1)
              rw [← hi2] at hi2b
              have HDU := Lib.hid hdu
              have HI2 := Lib.hid hi2
              clear hdu hi2
              obtain ⟨cp, hcp⟩ : ∃ x, x = 1 + digZ l iz 200 := ⟨_, rfl⟩
              have HCP := Lib.hid hcp
              clear hcp
              go_upto_region 15 with fail
              go_upto_region 16 with (go_at_call 80; (with_reducible refine (digit_gmZ _ _ A c l g iz 200 200 (by omega) HMz.out.hd (by omega) (by omega) (by omega)).mono ?_); rintro e w15 ⟨rfl, hd15, hg15⟩; have HM15 := Lib.hid (HMz.out.dig_ hd15 hg15); have HS15 := Lib.hid (same_gr (Same.refl gT g none wz) hg15 (fun j e => .inr (.inr (by injection e with e; exact e.symm)))); clear hd15 hg15)
              rw [← HCP.out]
              obtain ⟨gz, hgz⟩ : ∃ x, x = w15.heap.size := ⟨_, rfl⟩
              obtain ⟨w16, hw16⟩ : ∃ W, W = w15.alloc (.cells #[.int .i64 cp, .int .i64 86400, .slice none 0 0] 98) := ⟨_, rfl⟩
              have HK16 := Lib.hid (show Blk w16 gz 98 #[.int .i64 cp, .int .i64 86400, .slice none 0 0] by rw [hw16, hgz]; exact Blk.new _ _ _)
              have HM16 := Lib.hid (show Mk w w16 A c l g (iz + 1) gT _ from by rw [hw16]; exact HM15.out.fresh _)
              have HS16 := Lib.hid (show Same gT g none wz w16 from by rw [hw16]; exact same_gr HS15.out (World.grownBy_alloc _ _ none) (by simp))
              have hgz1 : wz.heap.size ≤ gz := by rw [hgz]; exact HS15.out.size
              have hgz2 : gz ≠ gT ∧ gz ≠ g := by have h1 := HM15.out.kT.lt; have h2 := HM15.out.hd.k.lt; omega
              rw [← hw16, ← hgz]
              clear hw16 hgz HM15 HS15 bc
              go_upto_if 77 with (go_at_call 80; (with_reducible refine (digit_gmZ _ _ A c l g (iz + 1) 3 3 (by omega) HM16.out.hd (by omega) (by omega) (by omega)).mono ?_); rintro e w17 ⟨rfl, hd17, hg17⟩; have HM17 := Lib.hid (HM16.out.dig_ hd17 hg17); have HS17 := Lib.hid (same_gr HS16.out hg17 (fun j e => .inr (.inr (by injection e with e; exact e.symm)))); have HK17 := Lib.hid (HK16.out.grown hg17 (fun e => hgz2.2 (by injection e))); clear hd17 hg17)
              go_cut [] (fun wx => Hid (Mk w wx A c l g i2 gT #[.slice (some ⟨g0, 0, none⟩) k c0, .slice B1 q.length c1, .slice B2 jn c2, .slice none 0 0, .int .i64 st, .int .i64 ra, .int .i64 sp, .int .i64 ha]) ∧ Hid (Same gT g none wz wx) ∧ Hid (Blk wx gz 98 #[.int .i64 cp, .int .i64 du, .slice none 0 0]))
              case first =>
                by_cases h0 : digZ l (iz + 1) 3 = 0
                · have ht : (digZ l (iz + 1) 3 == 0) = true := by simp [h0]
                  have hde : du = 60 + 8 * digZ l (iz + 1 + 1) 256 ∧ i2 = iz + 1 + 2 := by
                    have h1 := HDU.out
                    have h2 := HI2.out
                    unfold dueM at h1 h2
                    rw [if_pos h0] at h1 h2
                    exact ⟨h1, h2⟩
                  have HDE := Lib.hid hde
                  have bd := dig_bdZ l (iz + 1 + 1) (n := 256) (by decide)
                  clear h0 hde
                  go_wp2_with (go_at_call 80; (with_reducible refine (digit_gmZ _ _ A c l g (iz + 1 + 1) 256 256 (by omega) HM17.out.hd (by omega) (by omega) (by omega)).mono ?_); rintro e w18 ⟨rfl, hd18, hg18⟩; have HM18 := Lib.hid (HM17.out.dig_ hd18 hg18); have HS18 := Lib.hid (same_gr HS17.out hg18 (fun j e => .inr (.inr (by injection e with e; exact e.symm)))); have HK18 := Lib.hid (HK17.out.grown hg18 (fun e => hgz2.2 (by injection e))); have z1 := HK18.out.cell 1; have zf := HK18.out.frozen 1; simp at z1; clear hd18 hg18)
                  go_meet
                  have hgw := HMz.out.low.size
                  refine ⟨Lib.hid ?_, Lib.hid ?_, Lib.hid ?_⟩
                  · rw [HDE.out.2]
                    exact HM18.out.gr (gr_set _ gz 1 _) (fun e => hgz2.2 (by injection e)) (fun e => hgz2.1 (by injection e)) (fun e => by have := HMz.out.kR.lt; injection e with e; omega) (fun j e => by injection e with e; omega)
                  · exact same_gr HS18.out (gr_set _ gz 1 _) (fun j e => .inl (by injection e with e; omega))
                  · rw [HDE.out.1]
                    have := HK18.out.set_ 1 (.int .i64 (60 + 8 * digZ l (iz + 1 + 1) 256))
                    simpa using this
                · have ht : (digZ l (iz + 1) 3 == 0) = false := by simp [h0]
                  have hde : du = 86400 ∧ i2 = iz + 1 + 1 := by
                    have h1 := HDU.out
                    have h2 := HI2.out
                    unfold dueM at h1 h2
                    rw [if_neg h0] at h1 h2
                    exact ⟨h1, h2⟩
                  have HDE := Lib.hid hde
                  clear h0 hde
                  go_wp2_with fail
                  go_meet
                  refine ⟨Lib.hid ?_, HS17, Lib.hid ?_⟩
                  · rw [HDE.out.2]; exact HM17.out
                  · rw [HDE.out.1]; exact HK17.out
              case rest =>
                obtain ⟨HMr, HSr, HKr⟩ := hcut
                clear HM16 HS16 HK16 HM17 HS17 HK17
                have hgw := HMz.out.low.size
                have hRl := HMz.out.kR.lt
                have hgR : gz ≠ w.heap.size := by omega
                go_wp2_with fail
                go_loopw [84] (fun iv wr => ∃ (vn : Nat) (B3 : Option Addr) (c3 : Nat), iv = .int .i64 vn ∧ vn ≤ k ∧ Hid (Mk w wr A c l g (i2 + vn) gT #[.slice (some ⟨g0, 0, none⟩) k c0, .slice B1 q.length c1, .slice B2 jn c2, .slice none 0 0, .int .i64 st, .int .i64 ra, .int .i64 sp, .int .i64 ha]) ∧ Hid (Same gT g none wz wr) ∧ Hid (Blk wr gz 98 #[.int .i64 cp, .int .i64 du, .slice B3 vn c3]) ∧
                  Hid (wr.ownsRow wz.heap.size 3 1 (.slice B3 vn c3) vn (ints (varM l i2 vn)))) (fun iv _ => k - (intOf iv).toNat)
                case atStart => exact ⟨0, none, 0, rfl, Nat.zero_le _, HMr, HSr, HKr, Lib.hid (World.ownsRow_nil _ _ _ _)⟩
                case round =>
                  clear HMr HSr HKr
                  obtain ⟨vn, B3, c3, rfl, hvn, HM, HS, HK, HO⟩ := hrel
                  by_cases hlt3 : vn < k
                  ·
                    have bd := dig_bdZ l (i2 + vn) (n := 5) (by decide)
                    have y0 := HK.out.cell 2
                    simp at y0
                    have hTl := HK.out.lt
                    have hsw := HS.out.size
                    have SB := Lib.hid (show ∀ W, wr.grownBy W (some g) → W.cell? ⟨gz, 0, none⟩ = some (.int .i64 cp) from fun W hb => by rw [(HK.out.grown hb (fun e => hgz2.2 (by injection e))).cell]; simp)
                    have HD := Lib.hid (show ∀ W, Below wr.heap.size wr W → DigAtZ W w.heap.size A c l g (i2 + vn) from fun W hb => HM.out.hd.gr (gr_below hb none) (by simp) (by simp))
                    have hm1 : vn + 1 ≤ maxLen := by simp only [maxLen]; omega
                    have hm2 : (vn + 1) * 8 ≤ 140737488355328 := by omega
                    have HOW := Lib.hid (show ∀ W, wr.grownBy W (some g) → W.ownsRow wz.heap.size 3 1 (.slice B3 vn c3) vn (ints (varM l i2 vn)) from fun W hb => HO.out.kept hb (.inr (fun e => own_blk_ne HO.out HM.out.hd.k (by decide) e.symm)))
                    have HAP := Lib.hid (show ∀ (W w9 : World) (i' : Nat), DigAtZ W w.heap.size A c l g i' → wr.grownBy W (some g) → W.grownBy w9 (Value.slice B3 vn c3).ownBlock → Mk w w9 A c l g i' gT #[.slice (some ⟨g0, 0, none⟩) k c0, .slice B1 q.length c1, .slice B2 jn c2, .slice none 0 0, .int .i64 st, .int .i64 ra, .int .i64 sp, .int .i64 ha] ∧ Same gT g none wz w9 ∧ Blk w9 gz 98 #[.int .i64 cp, .int .i64 du, .slice B3 vn c3] from fun W w9 i' hd hb hg =>
                      ⟨(HM.out.dig_ hd hb).row (HOW.out W hb) (by decide) (by decide) (by omega) hg, same_gr (same_gr HS.out hb (fun j e => .inr (.inr (by injection e with e; exact e.symm)))) hg (fun j e => .inl (HO.out.lt j e).1), (HK.out.grown hb (fun e => hgz2.2 (by injection e))).grown hg (own_blk_ne (HOW.out W hb) (HK.out.grown hb (fun e => hgz2.2 (by injection e))) (by decide))⟩)
                    have hlow : wz.heap.size ≤ wr.heap.size := hsw
                    go_upto_region 20 with fail
                    have q1 : IntKind.i64.wrap ((digZ l (i2 + vn) 5).tdiv 3) = digZ l (i2 + vn) 5 / 3 := by rw [Int.tdiv_eq_ediv_of_nonneg bd.1, IntKind.wrap_i64]; omega
                    go_region_law (first
                        | (go_simp; go_at_call 80; refine (digit_gmZ _ _ A c l g (i2 + vn) 5 5 (by omega) (HD.out _ (by repeat (first | exact Below.refl _ _ | refine Below.drew ?_))) (by omega) (by omega) (by omega)).mono ?_; rintro e w8 ⟨rfl, hd8, hg8⟩; have HG8 := Lib.hid (gr_trans (gr_drew (gr_refl wr (some g))) hg8); have HD8 := Lib.hid hd8; have y8 := (HK.out.grown HG8.out (fun e => hgz2.2 (by injection e))).cell 2; simp at y8; have hs8 := Nat.lt_of_lt_of_le hTl HG8.out.size; have hl8 := Nat.le_trans hlow HG8.out.size; clear hd8 hg8; go_wp2_with fail)
                        | (refine step_append_lies _ rfl (.tmp 87) (.tmp 91) 47 rfl wz.heap.size 3 i0 _ 1 8 Try.underlying47 HI.out hz0 hz1 hz2 rfl (by decide) (.slice B3 vn c3) vn (ints (varM l i2 vn)) (by rfl) (HOW.out _ (by repeat (first | exact HG8.out | refine gr_drew ?_ | refine gr_alloc ?_ _))) _ 1 1 [.int .i64 (digZ l (i2 + vn) 5 / 3)] (by rfl) rfl (World.news_of_block (cs := #[.int .i64 (digZ l (i2 + vn) 5 / 3)]) (t := 3) (fr := (0, 0)) (by show Blk _ _ 3 #[.int .i64 (digZ l (i2 + vn) 5 / 3)]; (try rw [q1]); repeat (first | exact Blk.new _ _ _ | refine Blk.drew ?_))) (by intro u hu; simp at hu; subst hu; rfl) (by decide) hm1 hm2 (by simp; omega) _ rfl ?_
                           intro g9 cap9 w9 hown9 hgrow9 hat9 hlt9
                           have h9 := HAP.out _ w9 (i2 + vn + 1) (HD8.out.gr (r := none) (gr_below (by repeat (first | exact Below.refl _ _ | refine Below.drew ?_ | refine Below.alloc ?_ (by simp) _)) none) (by simp) (by simp)) (by repeat (first | exact HG8.out | refine gr_drew ?_ | refine gr_alloc ?_ _)) hgrow9
                           have H9 := Lib.hid h9
                           have hS9 : w9.cell? ⟨gz, 0, none⟩ = some (.int .i64 cp) := by rw [h9.2.2.cell]; simp
                           have hy9 : w9.cell? ⟨gz, 2, none⟩ = some (.slice B3 vn c3) := by rw [h9.2.2.cell]; simp
                           have hT9 : ∀ u, (w9.setCell ⟨gz, 2, none⟩ u).cell? ⟨gz, 0, none⟩ = some (.int .i64 cp) := fun u => by rw [(h9.2.2.set_ 2 u).cell]; simp
                           have hf9 := h9.2.2.frozen 2
                           have HO9 := Lib.hid hown9
                           clear h9 hgrow9 hown9 hat9))
                    all_goals
                      go_wp2_with fail
                      go_roundw
                      case rel =>
                        refine ⟨vn + 1, some ⟨g9, 0, none⟩, cap9, by go_num, by omega, Lib.hid ?_, Lib.hid ?_, Lib.hid ?_, Lib.hid ?_⟩
                        · rw [show i2 + (vn + 1) = i2 + vn + 1 from rfl]
                          exact H9.out.1.gr (gr_set _ gz 2 _) (fun e => hgz2.2 (by injection e)) (fun e => hgz2.1 (by injection e)) (fun e => hgR (by injection e)) (fun j e => by injection e with e; omega)
                        · exact same_gr H9.out.2.1 (gr_set _ gz 2 _) (fun j e => .inl (by injection e with e; omega))
                        · have := H9.out.2.2.set_ 2 (.slice (some ⟨g9, 0, none⟩) (vn + 1) cap9)
                          simpa using this
                        · have := own_far HO9.out (p := ⟨gz, 2, none⟩) (own_blk_ne HO9.out H9.out.2.2 (by decide)) (.slice (some ⟨g9, 0, none⟩) (vn + 1) cap9)
                          simpa [ints, varM] using this
                      case measure => simp [intOf]; omega
                  · obtain rfl : k = vn := by omega
                    have y0 := HK.out.cell 0
                    have y1 := HK.out.cell 1
                    have y2 := HK.out.cell 2
                    simp at y0 y1 y2
                    have x2 := HM.out.kT.cell 2
                    simp at x2
                    have HOZ := Lib.hid (same_own HS.out HOz.out (own_blk_ne HOz.out HMz.out.kT (by decide)) (own_blk_ne HOz.out HMz.out.hd.k (by decide)))
                    have HVZ := Lib.hid (show ∀ n (h : n < zs.length), wr.ownsRow wp.heap.size 3 1 (.slice zs[n].2.1 k zs[n].2.2) k (ints zs[n].1.variants) from fun n h => same_own HS.out (HVz.out n h) (own_blk_ne (HVz.out n h) HMz.out.kT (by decide)) (own_blk_ne (HVz.out n h) HMz.out.hd.k (by decide)))
                    have HSP := Lib.hid (show Same gT g none wp wr from HSz.out.trans HS.out (.inl rfl))
                    have HOB := Lib.hid (show wr.ownsRow wp.heap.size 3 1 (.slice B3 k c3) k (ints (varM l i2 k)) from World.ownsRow.mono HO.out HSz.out.size)
                    have hwp := HSP.out.size
                    have hwb := HMz.out.low.size
                    have hwpp : w.heap.size ≤ wp.heap.size := HWP.out
                    have hm1 : jn + 1 ≤ maxLen := by simp only [maxLen]; omega
                    have hm2 : (jn + 1) * 40 ≤ 140737488355328 := by omega
                    have HAP := Lib.hid (show ∀ w9, (wr.alloc (.cells #[.int .i64 cp, .int .i64 du, .slice B3 k c3] 98)).grownBy w9 (Value.slice B2 jn c2).ownBlock → Mk w w9 A c l g (i2 + k) gT #[.slice (some ⟨g0, 0, none⟩) k c0, .slice B1 q.length c1, .slice B2 jn c2, .slice none 0 0, .int .i64 st, .int .i64 ra, .int .i64 sp, .int .i64 ha] ∧ Same gT g none wp w9 ∧
                        (∀ n (h : n < zs.length), w9.ownsRow wp.heap.size 3 1 (.slice zs[n].2.1 k zs[n].2.2) k (ints zs[n].1.variants)) ∧ w9.ownsRow wp.heap.size 3 1 (.slice B3 k c3) k (ints (varM l i2 k)) from fun w9 hg =>
                      ⟨(HM.out.fresh _).row (HOZ.out.alloc _) (by decide) (by decide) hwpp hg, same_gr (same_gr HSP.out (World.grownBy_alloc _ _ none) (by simp)) hg (fun j e => .inl (HOZ.out.lt j e).1), fun n h => ((HVZ.out n h).alloc _).kept hg (own_own_ne (HVZ.out n h) HOZ.out (by decide)), (HOB.out.alloc _).kept hg (own_own_ne HOB.out HOZ.out (by decide))⟩)
                    go_upto_region 23 with (at_builtin; refine wpList_append_lies _ rfl (.tmp 96) (.tmp 98) 83 rfl wp.heap.size 98 i47 _ 3 40 Try.underlying83 HI47.out yz0 yz1 yz2 rfl (by decide) (.slice B2 jn c2) jn (zs.flatMap encZon) rfl (HOZ.out.alloc _) ⟨wr.heap.size, 0, none⟩ 1 1 [.int .i64 cp, .int .i64 du, .slice B3 k c3] rfl rfl (news_of1 wr 98 #[.int .i64 cp, .int .i64 du, .slice B3 k c3]) (by intro u hu; simp at hu; rcases hu with rfl | rfl | rfl <;> rfl) (by decide) hm1 hm2 (by simp; omega) (wr.heap.size + 1) (by simp) ?_; intro g9 cap9 w9 hown9 hgrow9 hat9 hlt9; have h9 := HAP.out w9 hgrow9; have H9 := Lib.hid h9; have z9 := h9.1.kT.cell 2; have f9 := h9.1.kT.frozen 2; simp at z9; have HO9 := Lib.hid hown9; clear h9 hown9 hat9 hgrow9)
                    go_wp2_with fail
                    go_roundw
                    case rel =>
                      have hvl : (varM l i2 k).length = k := varM_len _ _ _
                      refine ⟨jn + 1, zs ++ [(⟨cp, du, varM l i2 k⟩, (B3, c3))], some ⟨g9, 0, none⟩, cap9, by go_num, by omega, by simp [hzl], Lib.hid ?_, Lib.hid ?_, Lib.hid ?_, Lib.hid ?_, Lib.hid ?_⟩
                      · rw [List.map_append, HZS.out]
                        show _ = (zonsM l k (i + 1) jn).1 ++ [(zonM l k (zonsM l k (i + 1) jn).2).1]
                        rw [← HIZ.out]
                        show _ = _ ++ [(⟨1 + digZ l iz 200, (dueM l (iz + 1)).1, varM l (dueM l (iz + 1)).2 k⟩ : ZonD)]
                        rw [← HCP.out, ← HDU.out, ← HI2.out]; rfl
                      · have := H9.out.1.set_ 2 (.slice (some ⟨g9, 0, none⟩) (jn + 1) cap9)
                        have hidx : (zonsM l k (i + 1) (jn + 1)).2 = i2 + k := by
                          show (zonM l k (zonsM l k (i + 1) jn).2).2 = _
                          rw [← HIZ.out]
                          show (dueM l (iz + 1)).2 + k = _
                          rw [← HI2.out]
                        rw [hidx]
                        simpa using this
                      · exact same_gr H9.out.2.1 (gr_set _ gT 2 _) (fun j e => .inr (.inl (by injection e with e; exact e.symm)))
                      · have := own_far HO9.out (p := ⟨gT, 2, none⟩) (own_blk_ne HO9.out H9.out.1.kT (by decide)) (.slice (some ⟨g9, 0, none⟩) (jn + 1) cap9)
                        simpa [encZon, hvl] using this
                      · intro n h
                        rw [List.length_append, List.length_singleton] at h
                        by_cases hn : n < zs.length
                        · rw [List.getElem_append_left hn]
                          exact own_far (H9.out.2.2.1 n hn) (p := ⟨gT, 2, none⟩) (own_blk_ne (H9.out.2.2.1 n hn) H9.out.1.kT (by decide)) _
                        · obtain rfl : n = zs.length := by omega
                          rw [List.getElem_append_right (Nat.le_refl _)]
                          simp only [Nat.sub_self, List.getElem_cons_zero]
                          exact own_far H9.out.2.2.2 (p := ⟨gT, 2, none⟩) (own_blk_ne H9.out.2.2.2 H9.out.1.kT (by decide)) _
                    case measure => simp [intOf]; omega
            · obtain rfl : nz = jn := by omega
              obtain ⟨iz, hiz⟩ : ∃ x, x = (zonsM l k (i + 1) nz).2 := ⟨_, rfl⟩
              have hizb := zonsM_i l k (i + 1) nz
              have hmul : nz * (3 + k) ≤ 7 * 9 := Nat.mul_le_mul (by omega) (by omega)
              have HIZ := Lib.hid hiz
              rw [← hiz] at hizb HMz
              have hizs : iz ≤ 100 := by omega
              clear hiz hizb hmul
              obtain ⟨ws, rfl⟩ : ∃ W, W = wr := ⟨_, rfl⟩
              have HWS := Lib.hid (show w.heap.size ≤ ws.heap.size from HMz.out.low.size)
              obtain ⟨i69, hi69, xz0, xz1, xz2⟩ := info_parts infoRdyY
              have HI69 := Lib.hid hi69
              clear hi69
              go_wp2_with fail
              go_loopw [103] (fun ir wr => ∃ (rn : Nat) (rl : List (Int × Int × Int)) (B4 : Option Addr) (c4 : Nat), ir = .int .i64 rn ∧ rn ≤ k ∧ rl.length ≤ rn ∧ Hid (rl = (rdyM l iz rn).1) ∧
                Hid (Mk w wr A c l g (rdyM l iz rn).2 gT #[.slice (some ⟨g0, 0, none⟩) k c0, .slice B1 q.length c1, .slice B2 nz c2, .slice B4 rl.length c4, .int .i64 st, .int .i64 ra, .int .i64 sp, .int .i64 ha]) ∧ Hid (Same gT g none ws wr) ∧
                Hid (wr.ownsRow ws.heap.size 156 3 (.slice B4 rl.length c4) rl.length (rl.flatMap enc3))) (fun ir _ => k - (intOf ir).toNat)
              case atStart => exact ⟨0, [], none, 0, rfl, Nat.zero_le _, Nat.le_refl _, Lib.hid rfl, HMz, Lib.hid (Same.refl _ _ _ _), Lib.hid (World.ownsRow_nil _ _ _ _)⟩
              case round =>
                obtain ⟨rn, rl, B4, c4, rfl, hrn, hrl, HRL, HM, HS, HO⟩ := hrel
                by_cases hlt4 : rn < k
                ·
                  obtain ⟨ix, hix⟩ : ∃ x, x = (rdyM l iz rn).2 := ⟨_, rfl⟩
                  have hixb := rdyM_i l iz rn
                  rw [← hix] at hixb HM
                  have HIX := Lib.hid hix
                  have hixs : ix ≤ 200 := by omega
                  clear hix hixb
                  by_cases h0 : digZ l ix 3 = 0
                  · have ht : (digZ l ix 3 == 0) = true := by simp [h0]
                    have hrn1 : (rdyM l iz (rn + 1)) = (rl ++ [((rn : Int), digZ l (ix + 1) 2, 10 * digZ l (ix + 2) 60)], ix + 3) := by
                      show (if digZ l (rdyM l iz rn).2 3 = 0 then _ else _) = _
                      rw [← HIX.out, if_pos h0, ← HRL.out]
                    have HRN := Lib.hid hrn1
                    clear hrn1 h0
                    have bd := dig_bdZ l (ix + 1) (n := 2) (by decide)
                    have be := dig_bdZ l (ix + 1 + 1) (n := 60) (by decide)
                    have hTl0 := HM.out.kT.lt
                    go_upto_region 28 with (go_at_call 80; (with_reducible refine (digit_gmZ _ _ A c l g ix 3 3 (by omega) HM.out.hd (by omega) (by omega) (by omega)).mono ?_); rintro e wx ⟨rfl, hdx, hgx⟩; have HMX := Lib.hid (HM.out.dig_ hdx hgx); have HGX := Lib.hid hgx; clear hdx hgx)
                    have HOX := Lib.hid (HO.out.kept HGX.out (.inr (fun e => own_blk_ne HO.out HM.out.hd.k (by decide) e.symm)))
                    have HSX := Lib.hid (same_gr HS.out HGX.out (fun j e => .inr (.inr (by injection e with e; exact e.symm))))
                    have y0 := HMX.out.kT.cell 3
                    simp at y0
                    have hTl := HMX.out.kT.lt
                    have hlow := Nat.le_trans HS.out.size HGX.out.size
                    have hwws : w.heap.size ≤ ws.heap.size := HWS.out
                    have SB := Lib.hid (show ∀ W, wx.grownBy W (some g) → W.cell? ⟨gT, 5, none⟩ = some (.int .i64 ra) from fun W hb => by rw [(HMX.out.kT.grown hb (fun e => HM.out.n1 (by injection e))).cell]; simp)
                    have HD := Lib.hid (show ∀ W, Below wx.heap.size wx W → DigAtZ W w.heap.size A c l g (ix + 1) from fun W hb => HMX.out.hd.gr (gr_below hb none) (by simp) (by simp))
                    have hm1 : rl.length + 1 ≤ maxLen := by simp only [maxLen]; omega
                    have hm2 : (rl.length + 1) * 24 ≤ 140737488355328 := by omega
                    have HOW := Lib.hid (show ∀ W, wx.grownBy W (some g) → W.ownsRow ws.heap.size 156 3 (.slice B4 rl.length c4) rl.length (rl.flatMap enc3) from fun W hb => HOX.out.kept hb (.inr (fun e => own_blk_ne HO.out HM.out.hd.k (by decide) e.symm)))
                    have HAP := Lib.hid (show ∀ (W w9 : World) (i' : Nat), DigAtZ W w.heap.size A c l g i' → wx.grownBy W (some g) → W.grownBy w9 (Value.slice B4 rl.length c4).ownBlock → Mk w w9 A c l g i' gT #[.slice (some ⟨g0, 0, none⟩) k c0, .slice B1 q.length c1, .slice B2 nz c2, .slice B4 rl.length c4, .int .i64 st, .int .i64 ra, .int .i64 sp, .int .i64 ha] ∧ Same gT g none ws w9 from fun W w9 i' hd hb hg =>
                      ⟨(HMX.out.dig_ hd hb).row (HOW.out W hb) (by decide) (by decide) hwws hg, same_gr (same_gr HSX.out hb (fun j e => .inr (.inr (by injection e with e; exact e.symm)))) hg (fun j e => .inl (HOX.out.lt j e).1)⟩)
                    have q1 : IntKind.i64.wrap (10 * digZ l (ix + 1 + 1) 60) = 10 * digZ l (ix + 1 + 1) 60 := by rw [IntKind.wrap_i64]; omega
                    go_region_law (first
                        | (go_simp; go_at_call 80; (with_reducible refine (digit_gmZ _ _ A c l g (ix + 1) 2 2 (by omega) (HD.out _ (Below.drew (Below.refl _ _))) (by omega) (by omega) (by omega)).mono ?_); rintro e w8 ⟨rfl, hd8, hg8⟩; have HG8 := Lib.hid (show wx.grownBy w8 (some g) from gr_trans (gr_drew (gr_refl wx (some g))) hg8); have HD8 := Lib.hid (show ∀ W, Below w8.heap.size w8 W → DigAtZ W w.heap.size A c l g ((ix + 1) + 1) from fun W hb => hd8.gr (gr_below hb none) (by simp) (by simp)); have y8 := (HMX.out.kT.grown HG8.out (fun e => HM.out.n1 (by injection e))).cell 3; simp at y8; have hs8 := Nat.lt_of_lt_of_le hTl HG8.out.size; have hl8 := Nat.le_trans hlow HG8.out.size; clear hd8 hg8; go_wp2_with fail)
                        | (go_simp; go_at_call 80; (with_reducible refine (digit_gmZ _ _ A c l g (ix + 1 + 1) 60 60 (by omega) (HD8.out _ (Below.refl _ _)) (by omega) (by omega) (by omega)).mono ?_); rintro e w10 ⟨rfl, hd8, hg8⟩; have HG10 := Lib.hid (show wx.grownBy w10 (some g) from gr_trans HG8.out hg8); have HD10 := Lib.hid (show ∀ W, Below w10.heap.size w10 W → DigAtZ W w.heap.size A c l g ((ix + 1 + 1) + 1) from fun W hb => hd8.gr (gr_below hb none) (by simp) (by simp)); have y10 := (HMX.out.kT.grown HG10.out (fun e => HM.out.n1 (by injection e))).cell 3; simp at y10; have hs10 := Nat.lt_of_lt_of_le hTl HG10.out.size; have hl10 := Nat.le_trans hlow HG10.out.size; clear hd8 hg8; go_wp2_with fail)
                        | (go_simp; go_at_call 80; (with_reducible refine (digit_gmZ _ _ A c l g (ix + 1 + 1) 60 60 (by omega) (HD8.out _ (Below.drew (Below.refl _ _))) (by omega) (by omega) (by omega)).mono ?_); rintro e w10 ⟨rfl, hd8, hg8⟩; have HG10 := Lib.hid (show wx.grownBy w10 (some g) from gr_trans HG8.out (gr_trans (gr_drew (gr_refl w8 (some g))) hg8)); have HD10 := Lib.hid (show ∀ W, Below w10.heap.size w10 W → DigAtZ W w.heap.size A c l g ((ix + 1 + 1) + 1) from fun W hb => hd8.gr (gr_below hb none) (by simp) (by simp)); have y10 := (HMX.out.kT.grown HG10.out (fun e => HM.out.n1 (by injection e))).cell 3; simp at y10; have hs10 := Nat.lt_of_lt_of_le hTl HG10.out.size; have hl10 := Nat.le_trans hlow HG10.out.size; clear hd8 hg8; go_wp2_with fail)
                        | (refine step_append_lies _ rfl (.tmp 110) (.tmp 118) 84 rfl ws.heap.size 156 i69 _ 3 24 Try.underlying84 HI69.out xz0 xz1 xz2 rfl (by decide) (.slice B4 rl.length c4) rl.length (rl.flatMap enc3) (by rfl) (HOW.out _ (by repeat (first | exact HG10.out | refine gr_drew ?_ | refine gr_alloc ?_ _))) _ 1 1 [.int .i64 (rn : Int), .int .i64 (digZ l (ix + 1) 2), .int .i64 (10 * digZ l (ix + 1 + 1) 60)] (by rfl) rfl (World.news_of_block (cs := #[.int .i64 (rn : Int), .int .i64 (digZ l (ix + 1) 2), .int .i64 (10 * digZ l (ix + 1 + 1) 60)]) (t := 156) (fr := (0, 0)) (by show Blk _ _ 156 #[.int .i64 (rn : Int), .int .i64 (digZ l (ix + 1) 2), .int .i64 (10 * digZ l (ix + 1 + 1) 60)]; (try rw [q1]); repeat (first | exact Blk.new _ _ _ | refine Blk.drew ?_))) (by intro u hu; simp at hu; rcases hu with rfl | rfl | rfl <;> rfl) (by decide) hm1 hm2 (by simp; omega) _ rfl ?_
                           intro g9 cap9 w9 hown9 hgrow9 hat9 hlt9
                           have h9 := HAP.out _ w9 (ix + 1 + 1 + 1) (HD10.out _ (by repeat (first | exact Below.refl _ _ | refine Below.drew ?_ | refine Below.alloc ?_ (by simp) _))) (by repeat (first | exact HG10.out | refine gr_drew ?_ | refine gr_alloc ?_ _)) hgrow9
                           have H9 := Lib.hid h9
                           have hS9 : w9.cell? ⟨gT, 5, none⟩ = some (.int .i64 ra) := by rw [h9.1.kT.cell]; simp
                           have hy9 : w9.cell? ⟨gT, 3, none⟩ = some (.slice B4 rl.length c4) := by rw [h9.1.kT.cell]; simp
                           have hT9 : ∀ u, (w9.setCell ⟨gT, 3, none⟩ u).cell? ⟨gT, 5, none⟩ = some (.int .i64 ra) := fun u => by rw [(h9.1.kT.set_ 3 u).cell]; simp
                           have hf9 := h9.1.kT.frozen 3
                           have HO9 := Lib.hid hown9
                           clear h9 hgrow9 hown9 hat9))
                    all_goals
                      go_wp2_with fail
                      go_roundw
                      case rel =>
                        refine ⟨rn + 1, rl ++ [((rn : Int), digZ l (ix + 1) 2, 10 * digZ l (ix + 2) 60)], some ⟨g9, 0, none⟩, cap9, by go_num, by omega, by simp; omega, Lib.hid ?_, Lib.hid ?_, Lib.hid ?_, Lib.hid ?_⟩
                        · rw [HRN.out]
                        · rw [HRN.out]
                          have := H9.out.1.set_ 3 (.slice (some ⟨g9, 0, none⟩) (rl.length + 1) cap9)
                          simpa using this
                        · exact same_gr H9.out.2 (gr_set _ gT 3 _) (fun j e => .inr (.inl (by injection e with e; exact e.symm)))
                        · have := own_far HO9.out (p := ⟨gT, 3, none⟩) (own_blk_ne HO9.out H9.out.1.kT (by decide)) (.slice (some ⟨g9, 0, none⟩) (rl.length + 1) cap9)
                          simpa [enc3] using this
                      case measure => simp [intOf]; omega
                  · have ht : (digZ l ix 3 == 0) = false := by simp [h0]
                    have hrn1 : (rdyM l iz (rn + 1)) = (rl, ix + 1) := by
                      show (if digZ l (rdyM l iz rn).2 3 = 0 then _ else _) = _
                      rw [← HIX.out, if_neg h0, ← HRL.out]
                    have HRN := Lib.hid hrn1
                    clear hrn1 h0
                    go_wp2_with (go_at_call 80; (with_reducible refine (digit_gmZ _ _ A c l g ix 3 3 (by omega) HM.out.hd (by omega) (by omega) (by omega)).mono ?_); rintro e wx ⟨rfl, hdx, hgx⟩; have HMX := Lib.hid (HM.out.dig_ hdx hgx); have HGX := Lib.hid hgx; clear hdx hgx)
                    go_roundw
                    case rel =>
                      refine ⟨rn + 1, rl, B4, c4, by go_num, by omega, by omega, Lib.hid ?_, Lib.hid ?_, Lib.hid ?_, Lib.hid ?_⟩
                      · rw [HRN.out]
                      · rw [HRN.out]; exact HMX.out
                      · exact same_gr HS.out HGX.out (fun j e => .inr (.inr (by injection e with e; exact e.symm)))
                      · exact HO.out.kept HGX.out (.inr (fun e => own_blk_ne HO.out HM.out.hd.k (by decide) e.symm))
                    case measure => simp [intOf]; omega
                · obtain rfl : k = rn := by omega
                  have e0 := HM.out.kT.cell 0
                  have e1 := HM.out.kT.cell 1
                  have e2 := HM.out.kT.cell 2
                  have e3 := HM.out.kT.cell 3
                  have e4 := HM.out.kT.cell 4
                  have e5 := HM.out.kT.cell 5
                  have e6 := HM.out.kT.cell 6
                  have e7 := HM.out.kT.cell 7
                  simp at e0 e1 e2 e3 e4 e5 e6 e7
                  have r0 := HM.out.kR.cell 0
                  have r1 := HM.out.kR.cell 1
                  have r2 := HM.out.kR.cell 2
                  have r3 := HM.out.kR.cell 3
                  have r4 := HM.out.kR.cell 4
                  have r5 := HM.out.kR.cell 5
                  have r6 := HM.out.kR.cell 6
                  have r7 := HM.out.kR.cell 7
                  simp at r0 r1 r2 r3 r4 r5 r6 r7
                  have f0 := HM.out.kR.frozen 0
                  have f1 := HM.out.kR.frozen 1
                  have f2 := HM.out.kR.frozen 2
                  have f3 := HM.out.kR.frozen 3
                  have f4 := HM.out.kR.frozen 4
                  have f5 := HM.out.kR.frozen 5
                  have f6 := HM.out.kR.frozen 6
                  have f7 := HM.out.kR.frozen 7
                  go_wp2_with fail
                  have hK9 := (((((((HM.out.kR.set_ 0 (.slice (some ⟨g0, 0, none⟩) k c0)).set_ 1 (.slice B1 q.length c1)).set_ 2 (.slice B2 nz c2)).set_ 3 (.slice B4 rl.length c4)).set_ 4 (.int .i64 st)).set_ 5 (.int .i64 ra)).set_ 6 (.int .i64 sp)).set_ 7 (.int .i64 ha)
                  have hG9 : wr.grownBy ((((((((wr.setCell ⟨w.heap.size, 0, none⟩ (.slice (some ⟨g0, 0, none⟩) k c0)).setCell ⟨w.heap.size, 1, none⟩ (.slice B1 q.length c1)).setCell ⟨w.heap.size, 2, none⟩ (.slice B2 nz c2)).setCell ⟨w.heap.size, 3, none⟩ (.slice B4 rl.length c4)).setCell ⟨w.heap.size, 4, none⟩ (.int .i64 st)).setCell ⟨w.heap.size, 5, none⟩ (.int .i64 ra)).setCell ⟨w.heap.size, 6, none⟩ (.int .i64 sp)).setCell ⟨w.heap.size, 7, none⟩ (.int .i64 ha)) (some w.heap.size) :=
                    gr_trans (gr_trans (gr_trans (gr_trans (gr_trans (gr_trans (gr_trans (gr_set _ _ _ _) (gr_set _ _ _ _)) (gr_set _ _ _ _)) (gr_set _ _ _ _)) (gr_set _ _ _ _)) (gr_set _ _ _ _)) (gr_set _ _ _ _)) (gr_set _ _ _ _)
                  generalize World.setCell _ _ _ = W9 at hK9 hG9 ⊢
                  have hkr := HM.out.kR
                  have kp : ∀ {b : Nat} {e : TypeId} {s n : Nat} {v : Value} {xs : List Value}, wr.ownsRow b e s v n xs → e ≠ 86 → W9.ownsRow b e s v n xs := fun ho he => ho.kept hG9 (.inr (fun h => own_blk_ne ho hkr he h.symm))
                  have ks : ∀ {b : Nat} {e : TypeId} {s n : Nat} {v : Value} {xs : List Value}, ws.ownsRow b e s v n xs → e ≠ 86 → e ≠ 154 → wr.ownsRow b e s v n xs := fun ho he he2 => same_own HS.out ho (own_blk_ne ho HMz.out.kT he) (own_blk_ne ho HMz.out.hd.k he2)
                  have kc : ∀ {b : Nat} {e : TypeId} {s n : Nat} {v : Value} {xs : List Value}, wp.ownsRow b e s v n xs → e ≠ 86 → e ≠ 154 → ws.ownsRow b e s v n xs := fun ho he he2 => same_own HSz.out ho (own_blk_ne ho HMc.out.kT he) (own_blk_ne ho HMc.out.hd.k he2)
                  have hzm : (zonsM l k (i + 1) nz).1.length = nz := by rw [← HZS.out]; simpa using hzl
                  have hT : madeT l = ⟨cc, q, (zonsM l k (i + 1) nz).1, rl, st, ra, sp, ha⟩ := by
                    unfold madeT
                    rw [HPF.out, HZM.out, ← HPG.out, ← HST.out, ← HRA.out, ← HSP0.out, ← HHA.out, HRL.out, HIZ.out]
                  have hve : ∀ n (h : n < zs.length), zs[n].1.variants.length = k := fun n h => by
                    have hm : zs[n].1 ∈ (zonsM l k (i + 1) nz).1 := by rw [← HZS.out]; exact List.mem_map.2 ⟨_, List.getElem_mem h, rfl⟩
                    exact ((zonsM_ok l k (i + 1) nz).2 _ hm).len
                  have z0 := hK9.cell 0
                  have z1 := hK9.cell 1
                  have z2 := hK9.cell 2
                  have z3 := hK9.cell 3
                  have z4 := hK9.cell 4
                  have z5 := hK9.cell 5
                  have z6 := hK9.cell 6
                  have z7 := hK9.cell 7
                  simp at z0 z1 z2 z3 z4 z5 z6 z7
                  refine bodyPost_ret (v := .agg (titV (madeT l) { a := some ⟨g0, 0, none⟩, ca := c0, b := B1, cb := c1, z := B2, cz := c2, r := B4, cr := c4 })) ?_ rfl ⟨_, zs, rfl, ?_, HM.out.low.grown hG9 HM.out.low.size (fun j e => by injection e with e; omega)⟩
                  · rw [hT]
                    simp [results, Try.results35, go_sem, titV, hcl, hzm, z0, z1, z2, z3, z4, z5, z6, z7]
                  · rw [hT]
                    refine ⟨HZS.out, own_slZ (c := c0) (B := w.heap.size) ?_, own_slZ (c := c1) (B := w.heap.size) (kp (ks (kc HQc.out (by decide) (by decide)) (by decide) (by decide)) (by decide)), Sl.of_own (base := wp.heap.size) (e := 98) (c := c2) (fun _ => rfl) ?_, fun n h => own_slZ (c := zs[n].2.2) (B := wp.heap.size) ?_, Sl.of_own (base := ws.heap.size) (e := 156) (c := c4) (fun _ => rfl) (kp HO.out (by decide))⟩
                    · show W9.ownsRow _ 3 1 (.slice _ cc.length c0) cc.length _
                      rw [hcl]
                      exact kp (ks (kc HOc.out (by decide) (by decide)) (by decide) (by decide)) (by decide)
                    · rw [hzl]
                      exact kp (ks HOz.out (by decide) (by decide)) (by decide)
                    · rw [hve n h]
                      exact kp (ks (HVz.out n h) (by decide) (by decide)) (by decide)
end Go.Proofs.Ytnbnfadmbggfnaa
namespace Go.Ed
theorem made_zones (l : List Nat) : ∀ z ∈ (madeT l).zones, ZonOk (madeT l).colours.length z := by
  obtain ⟨p, hp⟩ := pairsM_ok l
  intro z hz
  have h := (zonsM_ok l (pagesM l) ((pairsM l).2.2 + 1) (1 + (digZ l (pairsM l).2.2 7).toNat)).2 z hz
  show ZonOk (pairsM l).1.length z
  rw [hp.len]; exact h
theorem made_sizes (l : List Nat) : Sizes (madeT l) := by
  have h := chk_ok (madeT_ok l)
  obtain ⟨p, hp⟩ := pairsM_ok l
  have hq := pairs_few hp
  have hg := pagesM_bd l
  refine ⟨by have := h.ok.c1; omega, by show (pairsM l).2.1.length ≤ _; omega, by have := h.z1; omega, by have := h.r1; omega, fun z hz => ?_⟩
  have := (made_zones l z hz).len
  have := h.ok.c1
  omega
theorem permM_lt (l : List Nat) (n : Nat) : ∀ e ∈ permM l n, e < n := fun e he => List.mem_range.1 ((permM_perm l n).mem_iff.1 he)
end Go.Ed
namespace Go.Proofs.Ytnbnfadmbggfnaa
open Go.RowKit Go.Fh Go.Ed
theorem tit_cells {W : World} {g : Nat} {t : TitD} {x : TA} (h : Blk W g 86 (titV t x)) : W.cell? ⟨g, 0, none⟩ = some (.slice x.a t.colours.length x.ca) ∧ W.cell? ⟨g, 1, none⟩ = some (.slice x.b t.pairs.length x.cb) ∧ W.cell? ⟨g, 2, none⟩ = some (.slice x.z t.zones.length x.cz) ∧ W.cell? ⟨g, 3, none⟩ = some (.slice x.r t.ready.length x.cr) ∧ W.cell? ⟨g, 4, none⟩ = some (.int .i64 t.start) ∧ W.cell? ⟨g, 5, none⟩ = some (.int .i64 t.rate) ∧ W.cell? ⟨g, 6, none⟩ = some (.int .i64 t.stop) ∧ W.cell? ⟨g, 7, none⟩ = some (.int .i64 t.hang) :=
  ⟨h.cell 0, h.cell 1, h.cell 2, h.cell 3, h.cell 4, h.cell 5, h.cell 6, h.cell 7⟩
section
/-- Editions, in the walk's spelling -/
theorem eds_w (t : TitD) (x : TA) (zs : List ZonM) (w : World) (hs : Sizes t) (hc : checkT t = 0) (n : Nat) (hn : n = (edsR t).length) (hT : TitAt w w.heap.size t x zs) :
    Calls Try.prog 36 #[.agg #[.slice x.a t.colours.length x.ca, .slice x.b t.pairs.length x.cb, .slice x.z t.zones.length x.cz, .slice x.r t.ready.length x.cr, .int .i64 t.start, .int .i64 t.rate, .int .i64 t.stop, .int .i64 t.hang]] w fun e w' => ∃ k : Wk, e = .returned (.tuple #[.slice k.E n k.cE, .int .i64 0]) ∧ Hid (WorkAt w' w.heap.size t x k) ∧ Hid (Below w.heap.size w w') := by
  subst hn
  exact (eds_ok t x zs w hs hT hc).mono (by rintro e w' ⟨k, rfl, hk, hb⟩; exact ⟨k, by rw [hk.len], hk, hb⟩)
theorem parts_w (t : TitD) (x : TA) (zs : List ZonM) (w : World) (hs : Sizes t) (hc : checkT t = 0) (A : Option Addr) (c : Nat) (o : List Nat) (m : Nat) (hm : m = (partsL t (edsR t) o).length) (hl : o.length ≤ 1000) (hA : Sl encInt 1 w w.heap.size A (o.map fun (e : Nat) => (e : Int))) (ho : ordersB (edsR t).length (o.map fun (e : Nat) => (e : Int)) = true) (hT : TitAt w w.heap.size t x zs) :
    Calls Try.prog 38 #[.agg #[.slice x.a t.colours.length x.ca, .slice x.b t.pairs.length x.cb, .slice x.z t.zones.length x.cz, .slice x.r t.ready.length x.cr, .int .i64 t.start, .int .i64 t.rate, .int .i64 t.stop, .int .i64 t.hang], .slice A o.length c] w fun e w' => ∃ A' c', e = .returned (.tuple #[.slice A' m c', .int .i64 0]) ∧ Hid (Sl enc3 3 w' w'.heap.size A' (partsL t (edsR t) o)) ∧ Hid (Below w.heap.size w w') := by
  subst hm
  exact (Parts_ok t x zs w hs hT A c o hl hA hc ho).mono (by
    rintro e w' ⟨A', c', rfl, hown, hb⟩
    exact ⟨A', c', rfl, Sl.of_own (fun _ => rfl) hown, hb⟩)
end
theorem made_wZ (A : Option Addr) (c : Nat) (l : List Nat) (w : World) (t : TitD) (ht : t = madeT l) (hl : l.length ≤ 9223372036854775807) (hbd : ∀ x ∈ l, x ≤ 255) (hA : Sl encBn 1 w w.heap.size A l) :
    Calls Try.prog 35 #[.slice A l.length c] w fun e w' => ∃ x zs, e = .returned (.agg #[.slice x.a t.colours.length x.ca, .slice x.b t.pairs.length x.cb, .slice x.z t.zones.length x.cz, .slice x.r t.ready.length x.cr, .int .i64 t.start, .int .i64 t.rate, .int .i64 t.stop, .int .i64 t.hang]) ∧ Hid (TitAt w' w'.heap.size t x zs) ∧ Hid (Below w.heap.size w w') := by
  subst ht
  exact (made_anyZ A c l w hl hbd hA).mono (by rintro e w' ⟨x, zs, h1, h2, h3⟩; exact ⟨x, zs, h1, h2, h3⟩)
end Go.Proofs.Ytnbnfadmbggfnaa
namespace Go.Ed
/-- what the parts of an order know -/
structure PartQ (t : TitD) (zl : List Int) (pl : List (Int × Int × Int)) (q : Nat) (zq : Nat) (m c : Int) : Prop where
  hz : zq < t.zones.length
  hzl : zl[q]? = some (zq : Int)
  hp : pl[q]? = some ((zq : Int), m, m + c - 1)
  hm : m = sumC t (zl.take q)
  hm2 : sumC t (zl.take (q + 1)) = m + c
  hc : c = copZ t (zq : Int)
  c1 : 1 ≤ c
  c2 : c ≤ 200
  m0 : 0 ≤ m
  m1 : m ≤ 200 * q
theorem part_q {t : TitD} {zl : List Int} (hp : zl.Perm ((List.range t.zones.length).map fun (i : Nat) => (i : Int))) (hz : ∀ z ∈ t.zones, 1 ≤ z.copies ∧ z.copies ≤ 200) {q : Nat} (hq : q < t.zones.length) : ∃ (zq : Nat) (m c : Int), PartQ t zl (partsGo t 0 zl) q zq m c := by
  have hl : zl.length = t.zones.length := by rw [hp.length_eq]; simp
  have hmem : ∀ z ∈ zl, ∃ k : Nat, k < t.zones.length ∧ (k : Int) = z := fun z h => by
    obtain ⟨k, hk, e⟩ := List.mem_map.1 (hp.mem_iff.1 h)
    exact ⟨k, List.mem_range.1 hk, e⟩
  have hcop : ∀ k : Nat, k < t.zones.length → 1 ≤ copZ t (k : Int) ∧ copZ t (k : Int) ≤ 200 := fun k hk => by
    have := hz t.zones[k] (List.getElem_mem hk)
    simp [copZ, List.getD_eq_getElem?_getD, hk]
    exact this
  have hb : ∀ j, j ≤ zl.length → 0 ≤ sumC t (zl.take j) ∧ sumC t (zl.take j) ≤ 200 * (j : Int) := by
    intro j
    induction j with
    | zero => intro _; simp [sumC]
    | succ j ih =>
      intro hj
      have h1 := ih (by omega)
      rw [List.take_succ_eq_append_getElem (by omega), sumC_snoc]
      obtain ⟨k, hk, e⟩ := hmem zl[j] (List.getElem_mem (by omega))
      rw [← e]
      have := hcop k hk
      omega
  obtain ⟨zq, hzq, e⟩ := hmem zl[q] (List.getElem_mem (by omega))
  have hg := partsGo_get t zl 0 q (by omega)
  have h2 : sumC t (zl.take (q + 1)) = sumC t (zl.take q) + copZ t (zq : Int) := by rw [List.take_succ_eq_append_getElem (by omega), sumC_snoc, e]
  have hc := hcop zq hzq
  have hbq := hb q (by omega)
  refine ⟨zq, sumC t (zl.take q), copZ t (zq : Int), hzq, ?_, ?_, rfl, h2, rfl, hc.1, hc.2, hbq.1, hbq.2⟩
  · rw [List.getElem?_eq_getElem (by omega), e]
  · rw [List.getElem?_eq_getElem (by rw [partsGo_len]; omega), hg, e, h2]
    simp [e]
end Go.Ed
