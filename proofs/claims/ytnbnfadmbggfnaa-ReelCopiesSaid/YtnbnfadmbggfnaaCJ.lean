/- Contract of Made: a press made of numbers; conditions: bytes. -/
import Derived.Test.YtnbnfadmbggfnaaCI
import Derived.Deep.RegionHeld3
import Derived.Deep.AppendLies
import Derived.RangeFuncBox
set_option linter.unusedSimpArgs false
set_option linter.unusedVariables false
namespace Go.Proofs.Ytnbnfadmbggfnaa
open Go.RowKit Go.Fh Go.Rl
set_option maxRecDepth 100000 in
set_option maxHeartbeats 8000000 in
theorem made_any (A : Option Addr) (c : Nat) (l : List Nat) (w : World) (hl : l.length ≤ 9223372036854775807) (hbd : ∀ x ∈ l, x ≤ 255) (hA : Sl encBn 1 w w.heap.size A l) :
    Calls Try.prog 12 #[.slice A l.length c] w fun e w' => ∃ (AW : Option Addr) (c0 : Nat) (ms : List WebM), e = .returned (.agg #[.int .i64 (madeP l).cut, .int .i64 (madeP l).margin, .slice AW ms.length c0]) ∧ MadeAt w w' (madeP l) AW c0 ms := by
  obtain ⟨i0, hi0, hz0, hz1, hz2⟩ := info_parts infoReel
  obtain ⟨i1, hi1, hy0, hy1, hy2⟩ := info_parts infoWeb
  have HI0 := Lib.hid hi0
  have HI1 := Lib.hid hi1
  have b0 := dig_bd l 0 (n := 240) (by decide)
  have b1 := dig_bd l 1 (n := 4) (by decide)
  have b2 := dig_bd l 2 (n := 3) (by decide)
  obtain ⟨d0, hd0⟩ : ∃ x, x = dig l 0 240 := ⟨_, rfl⟩
  obtain ⟨d1, hd1⟩ : ∃ x, x = dig l 1 4 := ⟨_, rfl⟩
  obtain ⟨d2, hd2⟩ : ∃ x, x = dig l 2 3 := ⟨_, rfl⟩
  obtain ⟨nw, hnw⟩ : ∃ x, x = nwM l := ⟨_, rfl⟩
  have hnw2 : 1 + d2 = (nw : Int) := by rw [hnw, hd2]; unfold nwM; omega
  have hnwb := nwM_bd l
  rw [← hnw] at hnwb
  rw [← hd0] at b0
  rw [← hd1] at b1
  rw [← hd2] at b2
  obtain ⟨cu, hcu⟩ : ∃ x, x = 300 + 5 * d0 := ⟨_, rfl⟩
  have HP := Lib.hid (show madeP l = ⟨cu, d1, wbsM l nw⟩ from by unfold madeP; rw [hcu, hd0, hd1, hnw])
  obtain ⟨w1, hw1⟩ : ∃ W, W = (w.alloc (.cells #[.int .i64 0, .int .i64 0, .slice none 0 0] 26)).alloc (.cells #[.slice A l.length c, .int .i64 0] 74) := ⟨_, rfl⟩
  obtain ⟨g, hg⟩ : ∃ g, g = w.heap.size + 1 := ⟨_, rfl⟩
  have kg : Blk w1 g 74 #[.slice A l.length c, .int .i64 0] := by rw [hw1]; exact blkAt (by simp [hg]) _ _
  have kR : Blk w1 w.heap.size 26 #[.int .i64 0, .int .i64 0, .slice none 0 0] := by rw [hw1]; exact (Blk.new _ _ _).alloc _
  have hb1 : Below w.heap.size w w1 := by rw [hw1]; exact balR (balR (Below.refl _ _) _) _
  have hdg : DigAt w1 w.heap.size A c l g 0 := ⟨kg, hA.below hb1, by omega, hl, hbd⟩
  have HD1 := Lib.hid hdg
  have HB1 := Lib.hid hb1
  have HW1 := Lib.hid hw1
  have HR1 := Lib.hid kR
  have HG := Lib.hid hg
  have HD0E := Lib.hid hd0
  have HD1E := Lib.hid hd1
  have HD2E := Lib.hid hd2
  have HCU := Lib.hid hcu
  have HNW := Lib.hid hnw
  have HNW2 := Lib.hid hnw2
  have q1 : IntKind.i64.wrap (5 * d0) = 5 * d0 := by rw [IntKind.wrap_i64]; omega
  have q2 : IntKind.i64.wrap (300 + 5 * d0) = 300 + 5 * d0 := by rw [IntKind.wrap_i64]; omega
  have q3 : IntKind.i64.wrap (1 + d2) = 1 + d2 := by rw [IntKind.wrap_i64]; omega
  clear hdg hb1 hw1 kg kR hA hbd hg hd0 hd1 hd2 hcu hnw hnw2 hi0 hi1
  go_enter Try.func12, Try.ntmps12
  go_upto_region 2 with fail
  rw [← HW1.out, ← HG.out]
  go_upto_region 3 with first
    | (go_at_call 31; (with_reducible refine (digit_v _ _ A c l g (0) 240 240 d0 (by omega) HD0E.out HD1.out (by omega) (by omega) (by omega)).mono ?_); rintro e w2 ⟨rfl, hd9, hg9⟩; have HD2 := Lib.hid hd9; have HG2 := Lib.hid hg9; clear hd9 hg9)
    | (go_at_call 31; (with_reducible refine (digit_v _ _ A c l g (1) 4 4 d1 (by omega) HD1E.out HD2.out (by omega) (by omega) (by omega)).mono ?_); rintro e w3 ⟨rfl, hd9, hg9⟩; have HD3 := Lib.hid hd9; have HG3 := Lib.hid hg9; clear hd9 hg9)
  obtain ⟨w4, hw4⟩ : ∃ W, W = w3.alloc (.cells #[.int .i64 (300 + 5 * d0), .int .i64 d1, .slice none 0 0] 26) := ⟨_, rfl⟩
  obtain ⟨gT, hgT⟩ : ∃ x, x = w3.heap.size := ⟨_, rfl⟩
  have hM4 : MkP w w4 A c l g 2 gT #[.int .i64 cu, .int .i64 d1, .slice none 0 0] := by
    have hg15 := gr_trans HG2.out HG3.out
    have hgg := HG.out
    have h1 := HR1.out.lt
    have h2 := hg15.size
    have hlt := HD3.out.k.lt
    have hR5 := HR1.out.grown hg15 (fun e => by injection e with e; omega)
    have hlo := HB1.out.grown hg15 HB1.out.size (fun j e => by injection e with e; omega)
    rw [hw4, hgT, HCU.out]
    exact ⟨HD3.out.gr (World.grownBy_alloc w3 _ none) (by simp) (by simp), Blk.new _ _ _, hR5.alloc _, hlo.alloc (by omega) _, by omega, by omega, by omega⟩
  rw [← hw4, ← hgT]
  have HM4 := Lib.hid hM4
  clear hw4 hgT hM4 HD1 HD3 HD2 HG2 HG3 HR1 HB1 HW1 HG b0 b1 q1 q2
  go_upto_region 4 with fail
  go_wp2_with (go_at_call 31; (with_reducible refine (digit_v _ _ A c l g (2) 3 3 d2 (by omega) HD2E.out HM4.out.hd (by omega) (by omega) (by omega)).mono ?_); rintro e w5 ⟨rfl, hd9, hg9⟩; have HM5 := Lib.hid (HM4.out.dig_ hd9 hg9); clear hd9 hg9)
  rw [HNW2.out]
  clear b2 q3
  go_loopw [5, 21] (fun u5 ik wr => ∃ (k : Nat) (AW : Option Addr) (c0 : Nat) (ms : List WebM), k ≤ nw ∧ ms.length = k ∧ ik = .int .i64 (k : Int) ∧ u5 = .int .i64 (webI l k).2 ∧ Hid (ms.map (·.1) = wbsM l k) ∧ Hid (MkP w wr A c l g (webI l k).1 gT #[.int .i64 cu, .int .i64 d1, .slice AW k c0]) ∧ Hid (wr.ownsRow w.heap.size 41 4 (.slice AW k c0) k (ms.flatMap encWeb)) ∧ Hid (∀ j (h : j < ms.length), wr.ownsRow w.heap.size 54 4 (.slice ms[j].2.1 ms[j].1.reels.length ms[j].2.2) ms[j].1.reels.length (ms[j].1.reels.flatMap encReel)) ∧ Hid (gT < wr.heap.size ∧ g < wr.heap.size)) (fun _ ik _ => nw - (intOf ik).toNat)
  case atStart => exact ⟨0, none, 0, [], Nat.zero_le _, rfl, rfl, rfl, Lib.hid rfl, HM5, Lib.hid (World.ownsRow_nil _ _ _ _), Lib.hid (fun j h => absurd h (by simp)), Lib.hid ⟨HM5.out.kT.lt, HM5.out.hd.k.lt⟩⟩
  case round =>
    obtain ⟨k, AW, c0, ms, hk, hms, rfl, rfl, HMS, HM, HO, HRS, HLT⟩ := hrel
    have hwi := webI_bd l k
    obtain ⟨iw, hiw⟩ : ∃ x, x = (webI l k).1 := ⟨_, rfl⟩
    obtain ⟨id, hid⟩ : ∃ x, x = (webI l k).2 := ⟨_, rfl⟩
    rw [← hiw] at HM hwi
    rw [← hid] at hwi
    rw [← hid]
    have HWI := Lib.hid (show webI l k = (iw, id) from by rw [hiw, hid])
    clear hiw hid
    by_cases hlt : k < nw
    · have e0b := dig_bd l iw (n := 200) (by decide)
      have e1b := dig_bd l (iw + 1) (n := 150) (by decide)
      have e2b := dig_bd l (iw + 2) (n := 150) (by decide)
      have e3b := dig_bd l (iw + 3) (n := 6) (by decide)
      obtain ⟨e0, he0⟩ : ∃ x, x = dig l iw 200 := ⟨_, rfl⟩
      obtain ⟨e1, he1⟩ : ∃ x, x = dig l (iw + 1) 150 := ⟨_, rfl⟩
      obtain ⟨e2, he2⟩ : ∃ x, x = dig l (iw + 2) 150 := ⟨_, rfl⟩
      obtain ⟨e3, he3⟩ : ∃ x, x = dig l (iw + 3) 6 := ⟨_, rfl⟩
      obtain ⟨nr, hnr⟩ : ∃ x, x = nrM l iw := ⟨_, rfl⟩
      have hnr2 : 1 + e3 = (nr : Int) := by rw [hnr, he3]; unfold nrM; omega
      have hnrb := nrM_bd l iw
      rw [← hnr] at hnrb
      rw [← he0] at e0b
      rw [← he1] at e1b
      rw [← he2] at e2b
      rw [← he3] at e3b
      have HE0 := Lib.hid he0
      have HE1 := Lib.hid he1
      have HE2 := Lib.hid he2
      have HE3 := Lib.hid he3
      have HNR := Lib.hid hnr
      have HNR2 := Lib.hid hnr2
      have q1 : IntKind.i64.wrap (13 * e0) = 13 * e0 := by rw [IntKind.wrap_i64]; omega
      have q2 : IntKind.i64.wrap (3 * e1) = 3 * e1 := by rw [IntKind.wrap_i64]; omega
      have q3 : IntKind.i64.wrap (4 * e2) = 4 * e2 := by rw [IntKind.wrap_i64]; omega
      have q4 : IntKind.i64.wrap (1 + e3) = 1 + e3 := by rw [IntKind.wrap_i64]; omega
      clear he0 he1 he2 he3 hnr hnr2
      go_upto_region 7 with first
        | (go_at_call 31; (with_reducible refine (digit_v _ _ A c l g (iw) 200 200 e0 (by omega) HE0.out HM.out.hd (by omega) (by omega) (by omega)).mono ?_); rintro e v1 ⟨rfl, hd9, hg9⟩; have HMA := Lib.hid (HM.out.dig_ hd9 hg9); have HGA := Lib.hid hg9; clear hd9 hg9)
        | (go_at_call 31; (with_reducible refine (digit_v _ _ A c l g (iw + 1) 150 150 e1 (by omega) HE1.out HMA.out.hd (by omega) (by omega) (by omega)).mono ?_); rintro e v2 ⟨rfl, hd9, hg9⟩; have HMB := Lib.hid (HMA.out.dig_ hd9 hg9); have HGB := Lib.hid hg9; clear hd9 hg9)
        | (go_at_call 31; (with_reducible refine (digit_v _ _ A c l g (iw + 2) 150 150 e2 (by omega) HE2.out HMB.out.hd (by omega) (by omega) (by omega)).mono ?_); rintro e v3 ⟨rfl, hd9, hg9⟩; have HMC := Lib.hid (HMB.out.dig_ hd9 hg9); have HGC := Lib.hid hg9; clear hd9 hg9)
      obtain ⟨wp, hwp⟩ : ∃ W, W = v3.alloc (.cells #[.slice none 0 0, .int .i64 (13 * e0), .int .i64 (3 * e1), .int .i64 (4 * e2)] 41) := ⟨_, rfl⟩
      obtain ⟨g6, hg6⟩ : ∃ x, x = v3.heap.size := ⟨_, rfl⟩
      have hgr3 := gr_trans (gr_trans HGA.out HGB.out) HGC.out
      have hO3 := HO.out.kept hgr3 (.inr (fun e => own_blk_ne HO.out HM.out.hd.k (by decide) e.symm))
      have HRP := Lib.hid (show ∀ j (h : j < ms.length), wp.ownsRow w.heap.size 54 4 (.slice ms[j].2.1 ms[j].1.reels.length ms[j].2.2) ms[j].1.reels.length (ms[j].1.reels.flatMap encReel) from fun j h => by
        have := (HRS.out j h).kept hgr3 (.inr (fun e => own_blk_ne (HRS.out j h) HM.out.hd.k (by decide) e.symm))
        rw [hwp]; exact this.alloc _)
      have HOP := Lib.hid (show wp.ownsRow w.heap.size 41 4 (.slice AW k c0) k (ms.flatMap encWeb) from by rw [hwp]; exact hO3.alloc _)
      have HNO := Lib.hid (show (Value.slice AW k c0).ownBlock ≠ some g6 from fun e => by have := (hO3.lt _ e).2; omega)
      have HR0 : Hid (MkR w wp wp A c l g (iw + 3) gT #[.int .i64 cu, .int .i64 d1, .slice AW k c0] g6 #[.slice none 0 0, .int .i64 (13 * e0), .int .i64 (3 * e1), .int .i64 (4 * e2)] (.slice none 0 0) 0 []) := by
        have h1 := HMC.out.hd.k.lt
        have h2 := HMC.out.kT.lt
        have h3 := HMC.out.low.size
        have h4 := HMC.out.n2
        have h5 : wp.heap.size = v3.heap.size + 1 := by rw [hwp]; simp
        refine Lib.hid ⟨by rw [hwp]; exact HMC.out.fresh _, by rw [hwp, hg6]; exact Blk.new _ _ _, World.ownsRow_nil _ _ _ _, Sm2.refl _ _ _, by omega, by omega, by omega, by omega⟩
      have HBB := Lib.hid (show w.heap.size ≤ wp.heap.size from HR0.out.pm.low.size)
      rw [← hwp, ← hg6]
      clear hwp hg6 hgr3 hO3 q1 q2 q3 HGA HGB HGC HMA HMB HMC
      go_wp2_with (go_at_call 31; (with_reducible refine (digit_v _ _ A c l g (iw + 3) 6 6 e3 (by omega) HE3.out HR0.out.pm.hd (by omega) (by omega) (by omega)).mono ?_); rintro e v4 ⟨rfl, hd9, hg9⟩; have HR1 := Lib.hid (HR0.out.dig_ hd9 hg9); clear hd9 hg9)
      rw [HNR2.out]
      clear q4
      go_loopw [5, 36] (fun u5 ij wq => ∃ (j : Nat) (AR : Option Addr) (cR : Nat), j ≤ nr ∧ ij = .int .i64 (j : Int) ∧ u5 = .int .i64 (idM l (iw + 4) id j) ∧ Hid (MkR w wp wq A c l g (iw + 4 + 5 * j) gT #[.int .i64 cu, .int .i64 d1, .slice AW k c0] g6 #[.slice AR j cR, .int .i64 (13 * e0), .int .i64 (3 * e1), .int .i64 (4 * e2)] (.slice AR j cR) j ((rlsM l (iw + 4) id j).flatMap encReel)) ∧ Hid (wp.heap.size ≤ wq.heap.size)) (fun _ ij _ => nr - (intOf ij).toNat)
      case atStart => exact ⟨0, none, 0, Nat.zero_le _, rfl, rfl, HR1, Lib.hid HR1.out.sm.size⟩
      case round =>
        obtain ⟨j, AR, cR, hj, rfl, rfl, HRJ, HSQ⟩ := hrel
        have hib := idM_bd l (iw + 4) id j
        have HIDS := Lib.hid (show idM l (iw + 4) id (j + 1) = idM l (iw + 4) id j + (1 + dig l (iw + 4 + 5 * j) 5) from rfl)
        have HRL := Lib.hid (show rlsM l (iw + 4) id (j + 1) = rlsM l (iw + 4) id j ++ [reelM l (iw + 4) id j] from rfl)
        by_cases hltj : j < nr
        · have f0b := dig_bd l (iw + 4 + 5 * j) (n := 5) (by decide)
          have f1b := dig_bd l (iw + 4 + 5 * j + 1) (n := 3) (by decide)
          have f2b := dig_bd l (iw + 4 + 5 * j + 2) (n := 256) (by decide)
          have f3b := dig_bd l (iw + 4 + 5 * j + 3) (n := 256) (by decide)
          have f4b := dig_bd l (iw + 4 + 5 * j + 4) (n := 100) (by decide)
          obtain ⟨f0, hf0⟩ : ∃ x, x = dig l (iw + 4 + 5 * j) 5 := ⟨_, rfl⟩
          obtain ⟨f1, hf1⟩ : ∃ x, x = dig l (iw + 4 + 5 * j + 1) 3 := ⟨_, rfl⟩
          obtain ⟨f2, hf2⟩ : ∃ x, x = dig l (iw + 4 + 5 * j + 2) 256 := ⟨_, rfl⟩
          obtain ⟨f3, hf3⟩ : ∃ x, x = dig l (iw + 4 + 5 * j + 3) 256 := ⟨_, rfl⟩
          obtain ⟨f4, hf4⟩ : ∃ x, x = dig l (iw + 4 + 5 * j + 4) 100 := ⟨_, rfl⟩
          obtain ⟨idj, hidj⟩ : ∃ x, x = idM l (iw + 4) id j := ⟨_, rfl⟩
          have HRE := Lib.hid (show reelM l (iw + 4) id j = ⟨idj + (1 + f0), 700 + f1, 800 * f2 + f3, min (800 * f2 + f3) (10 * f4)⟩ from by
            rw [hf0, hf1, hf2, hf3, hf4, hidj]; rfl)
          rw [← hidj] at hib HIDS ⊢
          rw [← hf0] at f0b HIDS
          rw [← hf1] at f1b
          rw [← hf2] at f2b
          rw [← hf3] at f3b
          rw [← hf4] at f4b
          have HF0 := Lib.hid hf0
          have HF1 := Lib.hid hf1
          have HF2 := Lib.hid hf2
          have HF3 := Lib.hid hf3
          have HF4 := Lib.hid hf4
          have p1 : IntKind.i64.wrap (1 + f0) = 1 + f0 := by rw [IntKind.wrap_i64]; omega
          have p2 : IntKind.i64.wrap (idj + (1 + f0)) = idj + (1 + f0) := by rw [IntKind.wrap_i64]; omega
          have p3 : IntKind.i64.wrap (700 + f1) = 700 + f1 := by rw [IntKind.wrap_i64]; omega
          have p4 : IntKind.i64.wrap (800 * f2) = 800 * f2 := by rw [IntKind.wrap_i64]; omega
          have p5 : IntKind.i64.wrap (800 * f2 + f3) = 800 * f2 + f3 := by rw [IntKind.wrap_i64]; omega
          have p6 : IntKind.i64.wrap (10 * f4) = 10 * f4 := by rw [IntKind.wrap_i64]; omega
          clear hf0 hf1 hf2 hf3 hf4 hidj
          go_upto_region 10 with (go_at_call 31; (with_reducible refine (digit_v _ _ A c l g (iw + 4 + 5 * j) 5 5 f0 (by omega) HF0.out HRJ.out.pm.hd (by omega) (by omega) (by omega)).mono ?_); rintro e u1 ⟨rfl, hd9, hg9⟩; have HS1 := Lib.hid (HRJ.out.dig_ hd9 hg9); clear hd9 hg9)
          go_upto_region 11 with first
            | (go_at_call 31; (with_reducible refine (digit_v _ _ A c l g (iw + 4 + 5 * j + 1) 3 3 f1 (by omega) HF1.out HS1.out.pm.hd (by omega) (by omega) (by omega)).mono ?_); rintro e u2 ⟨rfl, hd9, hg9⟩; have HS2 := Lib.hid (HS1.out.dig_ hd9 hg9); clear hd9 hg9)
            | (go_at_call 31; (with_reducible refine (digit_v _ _ A c l g (iw + 4 + 5 * j + 2) 256 256 f2 (by omega) HF2.out HS2.out.pm.hd (by omega) (by omega) (by omega)).mono ?_); rintro e u3 ⟨rfl, hd9, hg9⟩; have HS3 := Lib.hid (HS2.out.dig_ hd9 hg9); clear hd9 hg9)
            | (go_at_call 31; (with_reducible refine (digit_v _ _ A c l g (iw + 4 + 5 * j + 3) 256 256 f3 (by omega) HF3.out HS3.out.pm.hd (by omega) (by omega) (by omega)).mono ?_); rintro e u4 ⟨rfl, hd9, hg9⟩; have HS4 := Lib.hid (HS3.out.dig_ hd9 hg9); clear hd9 hg9)
          obtain ⟨w5', hw5⟩ : ∃ W, W = u4.alloc (.cells #[.int .i64 (idj + (1 + f0)), .int .i64 (700 + f1), .int .i64 (800 * f2 + f3), .int .i64 0] 54) := ⟨_, rfl⟩
          obtain ⟨g7, hg7⟩ : ∃ x, x = u4.heap.size := ⟨_, rfl⟩
          have k7 : Blk w5' g7 54 #[.int .i64 (idj + (1 + f0)), .int .i64 (700 + f1), .int .i64 (800 * f2 + f3), .int .i64 0] := by rw [hw5, hg7]; exact Blk.new _ _ _
          have HS5 := Lib.hid (show MkR w wp w5' A c l g (iw + 4 + 5 * j + 4) gT #[.int .i64 cu, .int .i64 d1, .slice AW k c0] g6 #[.slice AR j cR, .int .i64 (13 * e0), .int .i64 (3 * e1), .int .i64 (4 * e2)] (.slice AR j cR) j ((rlsM l (iw + 4) id j).flatMap encReel) from by rw [hw5]; exact HS4.out.fresh _)
          have HN7 := Lib.hid (show (Value.slice AR j cR).ownBlock ≠ some g7 ∧ wp.heap.size ≤ g7 from ⟨fun e => by have := (HS4.out.row.lt _ e).2; omega, by have := HS4.out.sm.size; omega⟩)
          have HK7 := Lib.hid (show ∀ W, w5'.grownBy W (some g) → Blk W g7 54 #[.int .i64 (idj + (1 + f0)), .int .i64 (700 + f1), .int .i64 (800 * f2 + f3), .int .i64 0] from fun W hg => k7.grown hg (fun e => Blk.ne_ k7 HS5.out.pm.hd.k (by decide) (by injection e)))
          have z2 := k7.cell 2
          have zf := k7.frozen 3
          have z3 := k7.cell 3
          simp at z2 z3
          have HZ2 := Lib.hid (show ∀ W, w5'.grownBy W (some g) → W.cell? ⟨g7, 2, none⟩ = some (.int .i64 (800 * f2 + f3)) from fun W hg => by have := (HK7.out W hg).cell 2; simpa using this)
          have HZ3 := Lib.hid (show ∀ W u, w5'.grownBy W (some g) → (W.setCell ⟨g7, 3, none⟩ u).cell? ⟨g7, 2, none⟩ = some (.int .i64 (800 * f2 + f3)) from fun W u hg => by have := ((HK7.out W hg).set_ 3 u).cell 2; simpa using this)
          rw [← hw5, ← hg7]
          clear hw5 hg7 k7 HS1 HS2 HS3 HS4
          go_region_held3 (fun W => W.cell? ⟨g7, 2, none⟩ = some (.int .i64 (800 * f2 + f3)))
            (first | (refine HZ2.out _ ?_; (repeat (with_reducible first | exact gr_refl _ _ | exact HG6.out | refine gr_drew ?_)); done) | (refine HZ3.out _ _ ?_; (repeat (with_reducible first | exact gr_refl _ _ | exact HG6.out | refine gr_drew ?_)); done))
            ((go_at_call 31; (with_reducible refine (digit_v _ _ A c l g (iw + 4 + 5 * j + 4) 100 100 f4 (by omega) HF4.out HS5.out.drew.pm.hd (by omega) (by omega) (by omega)).mono ?_); rintro e w6 ⟨rfl, hd9, hg9⟩; have HS6 := Lib.hid (HS5.out.drew.dig_ hd9 hg9); have HG6 := Lib.hid (gr_trans (gr_drew (gr_refl w5' (some g))) hg9); have z3 := (HK7.out _ HG6.out).cell 3; have zf := (HK7.out _ HG6.out).frozen 3; simp at z3; clear hd9 hg9))
          obtain ⟨w7, hw7⟩ : ∃ W, W = w6.setCell ⟨g7, 3, none⟩ (.int .i64 (min (800 * f2 + f3) (10 * f4))) := ⟨_, rfl⟩
          rw [← hw7]
          have k7 : Blk w7 g7 54 #[.int .i64 (idj + (1 + f0)), .int .i64 (700 + f1), .int .i64 (800 * f2 + f3), .int .i64 (min (800 * f2 + f3) (10 * f4))] := by
            have := (HK7.out _ HG6.out).set_ 3 (.int .i64 (min (800 * f2 + f3) (10 * f4)))
            rw [hw7]; simpa using this
          have HS7 := Lib.hid (show MkR w wp w7 A c l g (iw + 4 + 5 * j + 4 + 1) gT #[.int .i64 cu, .int .i64 d1, .slice AW k c0] g6 #[.slice AR j cR, .int .i64 (13 * e0), .int .i64 (3 * e1), .int .i64 (4 * e2)] (.slice AR j cR) j ((rlsM l (iw + 4) id j).flatMap encReel) from by
            rw [hw7]
            exact HS6.out.far (.inr ⟨_, HK7.out _ HG6.out, HN7.out.2, HN7.out.1⟩) 3 _ (HK7.out _ HG6.out).lt)
          have x0 := k7.cell 0
          have x1 := k7.cell 1
          have x2 := k7.cell 2
          have x3 := k7.cell 3
          have y0 := HS7.out.k6.cell 0
          simp at x0 x1 x2 x3 y0
          have hm1 : j + 1 ≤ maxLen := by simp only [maxLen]; omega
          have hm2 : (j + 1) * 32 ≤ 140737488355328 := by omega
          have HM3 := Lib.hid (show wp.heap.size ≤ (w7.alloc (.cells #[.int .i64 (idj + (1 + f0)), .int .i64 (700 + f1), .int .i64 (800 * f2 + f3), .int .i64 (min (800 * f2 + f3) (10 * f4))] 54)).heap.size from by have := HS7.out.sm.size; simp; omega)
          clear hw7 k7 z2 z3 zf HS5 HS6
          go_wp2_with (at_builtin; refine wpList_append_own _ rfl (.tmp 62) (.tmp 64) 39 rfl wp.heap.size 54 i0 (.agg #[.int .i64 0, .int .i64 0, .int .i64 0, .int .i64 0]) 4 32 Try.underlying39 HI0.out hz0 hz1 hz2 rfl (by decide) (.slice AR j cR) j ((rlsM l (iw + 4) id j).flatMap encReel) rfl (HS7.out.row.alloc _) ⟨w7.heap.size, 0, none⟩ 1 1 [.int .i64 (idj + (1 + f0)), .int .i64 (700 + f1), .int .i64 (800 * f2 + f3), .int .i64 (min (800 * f2 + f3) (10 * f4))] rfl rfl (news_of1 w7 54 #[.int .i64 (idj + (1 + f0)), .int .i64 (700 + f1), .int .i64 (800 * f2 + f3), .int .i64 (min (800 * f2 + f3) (10 * f4))]) (by intro u hu; simp at hu; rcases hu with rfl | rfl | rfl | rfl <;> rfl) hm1 hm2 HM3.out ?_; intro v9 w9 hown9 hg9 _; obtain ⟨g9, c9, hv9⟩ := ownsRow_succ hown9; subst hv9; have h9 := (HS7.out.fresh (.cells #[.int .i64 (idj + (1 + f0)), .int .i64 (700 + f1), .int .i64 (800 * f2 + f3), .int .i64 (min (800 * f2 + f3) (10 * f4))] 54)).k6.grown hg9 (own_blk_ne HS7.out.row HS7.out.k6 (by decide)); have y9 := h9.cell 0; have yf := h9.frozen 0; simp at y9; have HS9 := Lib.hid ((HS7.out.fresh (.cells #[.int .i64 (idj + (1 + f0)), .int .i64 (700 + f1), .int .i64 (800 * f2 + f3), .int .i64 (min (800 * f2 + f3) (10 * f4))] 54)).add hg9 hown9 (.slice (some ⟨g9, 0, none⟩) (j + 1) c9) 0); clear h9 hown9 hg9)
          go_roundw
          case rel =>
            refine ⟨j + 1, some ⟨g9, 0, none⟩, c9, by omega, by go_num, by rw [HIDS.out], Lib.hid ?_, Lib.hid HS9.out.sm.size⟩
            have := HS9.out
            rw [HRL.out, List.flatMap_append, HRE.out, show iw + 4 + 5 * (j + 1) = iw + 4 + 5 * j + 4 + 1 by omega]
            simpa [encReel] using this
          case measure => simp [intOf]; omega
        · obtain rfl : j = nr := by omega
          have HRQ := HRJ
          have x0 := HRQ.out.k6.cell 0
          have x1 := HRQ.out.k6.cell 1
          have x2 := HRQ.out.k6.cell 2
          have x3 := HRQ.out.k6.cell 3
          have y2 := HRQ.out.pm.kT.cell 2
          simp at x0 x1 x2 x3 y2
          have hOq : wr.ownsRow w.heap.size 41 4 (.slice AW k c0) k (ms.flatMap encWeb) := HRQ.out.sm.own HOP.out (fun e => own_blk_ne HOP.out HR0.out.pm.hd.k (by decide) e.symm) HNO.out
          have HOQ := Lib.hid hOq
          have HRW := Lib.hid (show ∀ q (h : q < ms.length), wr.ownsRow w.heap.size 54 4 (.slice ms[q].2.1 ms[q].1.reels.length ms[q].2.2) ms[q].1.reels.length (ms[q].1.reels.flatMap encReel) from fun q h => HRQ.out.sm.own (HRP.out q h) (fun e => own_blk_ne (HRP.out q h) HR0.out.pm.hd.k (by decide) e.symm) (fun e => own_blk_ne (HRP.out q h) HR0.out.k6 (by decide) e.symm))
          have hm1 : k + 1 ≤ maxLen := by simp only [maxLen]; omega
          have hm2 : (k + 1) * 48 ≤ 140737488355328 := by omega
          have HM3 := Lib.hid (show w.heap.size ≤ (wr.alloc (.cells #[.slice AR j cR, .int .i64 (13 * e0), .int .i64 (3 * e1), .int .i64 (4 * e2)] 41)).heap.size from by have := HRQ.out.pm.low.size; simp; omega)
          clear hOq
          go_wp2_with (at_builtin; refine wpList_append_own _ rfl (.tmp 69) (.tmp 71) 24 rfl w.heap.size 41 i1 (.agg #[.slice none 0 0, .int .i64 0, .int .i64 0, .int .i64 0]) 4 48 Try.underlying24 HI1.out hy0 hy1 hy2 rfl (by decide) (.slice AW k c0) k (ms.flatMap encWeb) rfl (HOQ.out.alloc _) ⟨wr.heap.size, 0, none⟩ 1 1 [.slice AR j cR, .int .i64 (13 * e0), .int .i64 (3 * e1), .int .i64 (4 * e2)] rfl rfl (news_of1 wr 41 #[.slice AR j cR, .int .i64 (13 * e0), .int .i64 (3 * e1), .int .i64 (4 * e2)]) (by intro u hu; simp at hu; rcases hu with rfl | rfl | rfl | rfl <;> rfl) hm1 hm2 HM3.out ?_; intro v9 w9 hown9 hg9 _; obtain ⟨g9, c9, hv9⟩ := ownsRow_succ hown9; subst hv9; have h9 := (HRQ.out.pm.fresh (.cells #[.slice AR j cR, .int .i64 (13 * e0), .int .i64 (3 * e1), .int .i64 (4 * e2)] 41)).row (HOQ.out.alloc _) (by decide) (by decide) (Nat.le_refl _) hg9; have y9 := h9.kT.cell 2; have yf := h9.kT.frozen 2; simp at y9; have H9 := Lib.hid h9; have HO9 := Lib.hid hown9; have HG9 := Lib.hid hg9; clear h9 hown9 hg9)
          go_roundw
          case rel =>
            have hwk : webI l (k + 1) = (iw + 4 + 5 * j, idM l (iw + 4) id j) := by
              show ((webI l k).1 + 4 + 5 * nrM l (webI l k).1, idM l ((webI l k).1 + 4) (webI l k).2 (nrM l (webI l k).1)) = _
              rw [HWI.out]
              dsimp only
              rw [← HNR.out]
            have hwm : webM l iw id = ⟨rlsM l (iw + 4) id j, 13 * e0, 3 * e1, 4 * e2⟩ := by
              unfold webM
              rw [← HNR.out, ← HE0.out, ← HE1.out, ← HE2.out]
            have hwb : wbsM l (k + 1) = wbsM l k ++ [webM l iw id] := by
              show wbsM l k ++ [webM l (webI l k).1 (webI l k).2] = _
              rw [HWI.out]
            have hset := H9.out.set_ 2 (.slice (some ⟨g9, 0, none⟩) (k + 1) c9)
            have hown2 := own_far HO9.out (p := ⟨gT, 2, none⟩) (own_blk_ne HO9.out H9.out.kT (by decide)) (.slice (some ⟨g9, 0, none⟩) (k + 1) c9)
            have hrow : ∀ {v : Value} {n : Nat} {xs : List Value}, wr.ownsRow w.heap.size 54 4 v n xs → (w9.setCell ⟨gT, 2, none⟩ (.slice (some ⟨g9, 0, none⟩) (k + 1) c9)).ownsRow w.heap.size 54 4 v n xs := fun {v n xs} h => by
              have h1 := (h.alloc (.cells #[.slice AR j cR, .int .i64 (13 * e0), .int .i64 (3 * e1), .int .i64 (4 * e2)] 41)).kept HG9.out (own_own_ne (h.alloc (.cells #[.slice AR j cR, .int .i64 (13 * e0), .int .i64 (3 * e1), .int .i64 (4 * e2)] 41)) (HOQ.out.alloc (.cells #[.slice AR j cR, .int .i64 (13 * e0), .int .i64 (3 * e1), .int .i64 (4 * e2)] 41)) (by decide))
              exact own_far h1 (p := ⟨gT, 2, none⟩) (own_blk_ne h1 H9.out.kT (by decide)) _
            refine ⟨k + 1, some ⟨g9, 0, none⟩, c9, ms ++ [(⟨rlsM l (iw + 4) id j, 13 * e0, 3 * e1, 4 * e2⟩, (AR, cR))], by omega, by simp [hms], by go_num, by rw [hwk], Lib.hid ?_, Lib.hid ?_, Lib.hid ?_, Lib.hid ?_, Lib.hid ?_⟩
            · rw [List.map_append, HMS.out, hwb, hwm]; rfl
            · rw [hwk]; simpa using hset
            · rw [List.flatMap_append]
              have e : List.flatMap encWeb [((⟨rlsM l (iw + 4) id j, 13 * e0, 3 * e1, 4 * e2⟩ : WebD), ((AR, cR) : Option Addr × Nat))] = [.slice AR j cR, .int .i64 (13 * e0), .int .i64 (3 * e1), .int .i64 (4 * e2)] := by
                simp [encWeb, rlsM_len]
              rw [e]; exact hown2
            · intro q hq
              by_cases hql : q < ms.length
              · rw [List.getElem_append_left hql]; exact hrow (HRW.out q hql)
              · have hqe : q = ms.length := by simp at hq; omega
                subst hqe
                rw [List.getElem_append_right (Nat.le_refl _)]
                have := World.ownsRow.mono HRQ.out.row HBB.out
                simp only [Nat.sub_self, List.getElem_cons_zero, rlsM_len]
                exact hrow this
            · exact ⟨hset.kT.lt, hset.hd.k.lt⟩
          case measure => simp [intOf]; omega
    · obtain rfl : k = nw := by omega
      have x0 := HM.out.kT.cell 0
      have x1 := HM.out.kT.cell 1
      have x2 := HM.out.kT.cell 2
      have y0 := HM.out.kR.cell 0
      have y1 := HM.out.kR.cell 1
      have y2 := HM.out.kR.cell 2
      have yf0 := HM.out.kR.frozen 0
      have yf1 := HM.out.kR.frozen 1
      have yf2 := HM.out.kR.frozen 2
      simp at x0 x1 x2 y0 y1 y2
      go_wp2_with fail
      obtain ⟨wz, hwz⟩ : ∃ W, W = ((wr.setCell ⟨w.heap.size, 0, none⟩ (.int .i64 cu)).setCell ⟨w.heap.size, 1, none⟩ (.int .i64 d1)).setCell ⟨w.heap.size, 2, none⟩ (.slice AW k c0) := ⟨_, rfl⟩
      rw [← hwz]
      have kz : Blk wz w.heap.size 26 #[.int .i64 cu, .int .i64 d1, .slice AW k c0] := by
        have := ((HM.out.kR.set_ 0 (.int .i64 cu)).set_ 1 (.int .i64 d1)).set_ 2 (.slice AW k c0)
        rw [hwz]; simpa using this
      have hgz : wr.grownBy wz (some w.heap.size) := by rw [hwz]; exact gr_trans (gr_trans (gr_set _ _ _ _) (gr_set _ _ _ _)) (gr_set _ _ _ _)
      have z0 := kz.cell 0
      have z1 := kz.cell 1
      have z2 := kz.cell 2
      simp at z0 z1 z2
      have HGZ := Lib.hid hgz
      clear hwz kz hgz x0 x1 x2 y0 y1 y2 yf0 yf1 yf2
      refine bodyPost_ret (v := .agg #[.int .i64 cu, .int .i64 d1, .slice AW k c0]) (by simp [results, Try.f12, go_sem, z0, z1, z2]) rfl ?_
      refine ⟨AW, c0, ms, by rw [HP.out, hms], HM.out.low.grown HGZ.out HM.out.low.size (fun j e => by injection e with e; omega), by rw [HP.out]; exact HMS.out, ?_, fun j h => ?_⟩
      · rw [hms]; exact HO.out.kept HGZ.out (.inr (fun e => own_blk_ne HO.out HM.out.kR (by decide) e.symm))
      · exact (HRS.out j h).kept HGZ.out (.inr (fun e => own_blk_ne (HRS.out j h) HM.out.kR (by decide) e.symm))
end Go.Proofs.Ytnbnfadmbggfnaa
