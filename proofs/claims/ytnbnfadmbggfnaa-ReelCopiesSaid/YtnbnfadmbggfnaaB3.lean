/- Contracts of right and reels; conditions: reels in memory, a map of Ids. Printed by a program. -/
import Derived.Test.YtnbnfadmbggfnaaB2
set_option linter.unusedSimpArgs false
set_option linter.unusedVariables false
namespace Go.Proofs.Ytnbnfadmbggfnaa
open Go.RowKit Go.Fh Go.Rl
set_option maxRecDepth 20000 in
set_option maxHeartbeats 4000000 in
theorem rules_any (w : World) : Calls Try.prog 139 #[] w fun e w' => ∃ g, e = .returned (.slice (some ⟨g, 0, none⟩) 3 3) ∧ Hid (Blk w' g 221 #[.func (.func 148) #[] #[], .func (.func 149) #[] #[], .func (.func 150) #[] #[]]) ∧ Hid (Below w.heap.size w w') := by
  go_enter Try.func139, Try.ntmps139
  go_wp2_with fail
  go_ret
  exact ⟨_, rfl, Lib.hid (Blk.new _ _ _), Lib.hid (balR (Below.refl _ _) _)⟩
set_option maxRecDepth 20000 in
set_option maxHeartbeats 4000000 in
theorem ruleI_any (r : ReelD) (gT g : Nat) (w : World) (kT : Blk w gT 54 #[.int .i64 r.id, .int .i64 r.width, .int .i64 r.len, .int .i64 r.core]) (kF : Blk w g 221 #[.func (.func 148) #[] #[], .func (.func 149) #[] #[], .func (.func 150) #[] #[]]) : Calls Try.prog 147 #[.slice (some ⟨g, 0, none⟩) 3 3, .func (.func 140) #[] #[.pointer (some ⟨gT, 0, none⟩)]] w fun e w' => ∃ i : Int, e = .returned (.int .i64 i) ∧ Hid (decide (0 ≤ i) = !rightB r) ∧ Hid (Below w.heap.size w w') := by
  have HK := Lib.hid (show ∀ W, Below w.heap.size w W → W.cell? ⟨g, 0, none⟩ = some (.func (.func 148) #[] #[]) ∧ W.cell? ⟨g, 1, none⟩ = some (.func (.func 149) #[] #[]) ∧ W.cell? ⟨g, 2, none⟩ = some (.func (.func 150) #[] #[]) from fun W hb => by
    have k := kF.below hb kF.lt
    exact ⟨k.cell 0, k.cell 1, k.cell 2⟩)
  have H1 := Lib.hid (fun W (hb : Below w.heap.size w W) => clrl1_any r gT W (kT.below hb kT.lt))
  have H2 := Lib.hid (fun W (hb : Below w.heap.size w W) => clrl2_any r gT W (kT.below hb kT.lt))
  have H3 := Lib.hid (fun W (hb : Below w.heap.size w W) => clrl3_any r gT W (kT.below hb kT.lt))
  obtain ⟨p1, hp1⟩ : ∃ b, b = rl1 r := ⟨_, rfl⟩
  obtain ⟨p2, hp2⟩ : ∃ b, b = rl2 r := ⟨_, rfl⟩
  obtain ⟨p3, hp3⟩ : ∃ b, b = rl3 r := ⟨_, rfl⟩
  rw [← hp1] at H1
  rw [← hp2] at H2
  rw [← hp3] at H3
  have HR := Lib.hid (show rightB r = (p1 && (p2 && p3)) by rw [hp1, hp2, hp3]; rfl)
  clear kT kF hp1 hp2 hp3
  go_enter Try.func147, Try.ntmps147
  go_wp2_with fail
  go_loopw [8] (fun u wr => ∃ k : Nat, k ≤ 3 ∧ u = .int .i64 (k : Int) ∧ Hid (∀ j, j < k → (j = 0 → p1 = true) ∧ (j = 1 → p2 = true) ∧ (j = 2 → p3 = true)) ∧ Hid (Below w.heap.size w wr)) (fun u _ => 3 - (intOf u).toNat)
  case atStart => exact ⟨0, by omega, rfl, Lib.hid (fun j h => by omega), Below.refl _ _⟩
  case round =>
    obtain ⟨k, hk, rfl, HJ, HB⟩ := hrel
    obtain ⟨f0, f1, f2⟩ := HK.out wr HB.out
    rcases (show k = 0 ∨ k = 1 ∨ k = 2 ∨ k = 3 by omega) with rfl | rfl | rfl | rfl
    · cases p1
      · go_wp2_with (go_at_call 140; with_reducible refine (H1.out _ HB.out).mono ?_; rintro e w5 ⟨rfl, hb5⟩; have HB5 := Lib.hid (HB.out.trans (hb5.out.mono HB.out.size)); clear hb5)
        go_ret
        exact ⟨0, rfl, Lib.hid (by rw [HR.out]; rfl), HB5⟩
      · go_wp2_with (go_at_call 140; with_reducible refine (H1.out _ HB.out).mono ?_; rintro e w5 ⟨rfl, hb5⟩; have HB5 := Lib.hid (HB.out.trans (hb5.out.mono HB.out.size)); clear hb5)
        go_roundw
        case rel => exact ⟨1, by omega, rfl, Lib.hid (fun j h => ⟨fun _ => by trivial, fun h => by omega, fun h => by omega⟩), HB5⟩
        case measure => simp [intOf]
    · have hp1 := (HJ.out 0 (by omega)).1 rfl
      cases p2
      · go_wp2_with (go_at_call 140; with_reducible refine (H2.out _ HB.out).mono ?_; rintro e w5 ⟨rfl, hb5⟩; have HB5 := Lib.hid (HB.out.trans (hb5.out.mono HB.out.size)); clear hb5)
        go_ret
        exact ⟨1, rfl, Lib.hid (by rw [HR.out]; simp), HB5⟩
      · go_wp2_with (go_at_call 140; with_reducible refine (H2.out _ HB.out).mono ?_; rintro e w5 ⟨rfl, hb5⟩; have HB5 := Lib.hid (HB.out.trans (hb5.out.mono HB.out.size)); clear hb5)
        go_roundw
        case rel => exact ⟨2, by omega, rfl, Lib.hid (fun j h => ⟨fun _ => hp1, fun _ => by trivial, fun h => by omega⟩), HB5⟩
        case measure => simp [intOf]
    · have hp1 := (HJ.out 0 (by omega)).1 rfl
      have hp2 := (HJ.out 1 (by omega)).2.1 rfl
      cases p3
      · go_wp2_with (go_at_call 140; with_reducible refine (H3.out _ HB.out).mono ?_; rintro e w5 ⟨rfl, hb5⟩; have HB5 := Lib.hid (HB.out.trans (hb5.out.mono HB.out.size)); clear hb5)
        go_ret
        exact ⟨2, rfl, Lib.hid (by rw [HR.out]; simp), HB5⟩
      · go_wp2_with (go_at_call 140; with_reducible refine (H3.out _ HB.out).mono ?_; rintro e w5 ⟨rfl, hb5⟩; have HB5 := Lib.hid (HB.out.trans (hb5.out.mono HB.out.size)); clear hb5)
        go_roundw
        case rel => exact ⟨3, by omega, rfl, Lib.hid (fun j h => ⟨fun _ => hp1, fun _ => hp2, fun _ => by trivial⟩), HB5⟩
        case measure => simp [intOf]
    · have hp1 := (HJ.out 0 (by omega)).1 rfl
      have hp2 := (HJ.out 1 (by omega)).2.1 rfl
      have hp3 := (HJ.out 2 (by omega)).2.2 rfl
      go_wp2_with fail
      go_ret
      exact ⟨-1, rfl, Lib.hid (by rw [HR.out, hp1, hp2, hp3]; rfl), HB⟩
set_option maxRecDepth 20000 in
set_option maxHeartbeats 4000000 in
theorem ruleC_any (r : ReelD) (gT g : Nat) (w : World) (kT : Blk w gT 54 #[.int .i64 r.id, .int .i64 r.width, .int .i64 r.len, .int .i64 r.core]) (kF : Blk w g 221 #[.func (.func 148) #[] #[], .func (.func 149) #[] #[], .func (.func 150) #[] #[]]) : Calls Try.prog 138 #[.slice (some ⟨g, 0, none⟩) 3 3, .func (.func 140) #[] #[.pointer (some ⟨gT, 0, none⟩)]] w fun e w' => e = .returned (.bool (!rightB r)) ∧ Hid (Below w.heap.size w w') := by
  have H := Lib.hid (ruleI_any r gT g w kT kF)
  obtain ⟨b, hb⟩ : ∃ b, b = rightB r := ⟨_, rfl⟩
  rw [← hb] at H ⊢
  clear kT kF hb
  go_enter Try.func138, Try.ntmps138
  go_wp2_with (go_at_call 147; with_reducible refine H.out.mono ?_; rintro e w' ⟨i, rfl, HI, HB⟩)
  go_ret
  exact ⟨ret_bool HI.out, HB⟩
set_option maxRecDepth 20000 in
set_option maxHeartbeats 4000000 in
theorem right_any (r : ReelD) (w : World) : Calls Try.prog 125 #[.agg #[.int .i64 r.id, .int .i64 r.width, .int .i64 r.len, .int .i64 r.core]] w fun e w' => e = .returned (.bool (rightB r)) ∧ Hid (Below w.heap.size w w') := by
  obtain ⟨w1, hw1⟩ : ∃ W, W = w.alloc (.cells #[.int .i64 r.id, .int .i64 r.width, .int .i64 r.len, .int .i64 r.core] 54) := ⟨_, rfl⟩
  obtain ⟨gT, hgT⟩ : ∃ g, g = w.heap.size := ⟨_, rfl⟩
  have hb1 : Below w.heap.size w w1 := by rw [hw1]; exact balR (Below.refl _ _) _
  have kT : Blk w1 gT 54 #[.int .i64 r.id, .int .i64 r.width, .int .i64 r.len, .int .i64 r.core] := by rw [hw1, hgT]; exact Blk.new _ _ _
  have HC := Lib.hid (fun W (hb : Below w1.heap.size w1 W) g (kF : Blk W g 221 #[.func (.func 148) #[] #[], .func (.func 149) #[] #[], .func (.func 150) #[] #[]]) => ruleC_any r gT g W (kT.below hb kT.lt) kF)
  obtain ⟨b, hb⟩ : ∃ b, b = rightB r := ⟨_, rfl⟩
  rw [← hb] at HC ⊢
  have HW1 := Lib.hid hw1
  have HGT := Lib.hid hgT
  have HB1 := Lib.hid hb1
  clear hw1 hgT hb1 kT hb
  go_enter Try.func125, Try.ntmps125
  go_upto_region 1 with fail
  rw [← HW1.out, ← HGT.out]
  go_wp2_with first
    | (go_at_call 139; with_reducible refine (rules_any _).mono ?_; rintro e w2 ⟨g, rfl, HK, HB2⟩)
    | (go_at_call 138; with_reducible refine (HC.out _ HB2.out g HK.out).mono ?_; rintro e w3 ⟨rfl, HB3⟩)
  go_ret
  exact ⟨by simp, Lib.hid (HB1.out.trans ((HB2.out.trans (HB3.out.mono HB2.out.size)).mono HB1.out.size))⟩
set_option maxRecDepth 20000 in
set_option maxHeartbeats 4000000 in
theorem reels_any (l : List ReelD) (A : Option Addr) (c B g : Nat) (m : List (Int × Bool)) (ids : List Int) (w : World) (hl : l.length ≤ 1000) (hA : Sl encReel 4 w B A l) (hBg : B ≤ g) (hBW : B ≤ w.heap.size) (hM : MapIs eI eB w g m) (hR : MetIs m ids) :
    Calls Try.prog 87 #[.slice A l.length c, .map (some g)] w fun e w' => e = .returned (.int .i64 (erW l ids)) ∧ Hid (erW l ids = 0 → ∃ m', MapIs eI eB w' g m' ∧ MetIs m' (ids ++ l.map (·.id))) ∧ Hid (w.grownBy w' (some g)) := by
  obtain ⟨n, hn⟩ : ∃ n, n = l.length := ⟨_, rfl⟩
  have HE := Lib.hid (show erW l ids = firstErr (errA l ids) n by rw [hn]; rfl)
  have HN := Lib.hid hn
  have HA := Lib.hid hA
  have HBG := Lib.hid hBg
  have HBW := Lib.hid hBW
  have hn9 : n ≤ 1000 := by omega
  have hgl := hM.lt
  have HM := Lib.hid hM
  have HR := Lib.hid hR
  obtain ⟨er, her⟩ : ∃ e, e = erW l ids := ⟨_, rfl⟩
  rw [← her]
  rw [← hn]
  have HER := Lib.hid her
  clear hn hA hBg hBW hM hR hl her
  go_enter Try.func87, Try.ntmps87
  go_wp2_with fail
  go_loopw [9] (fun u wr => ∃ (k : Nat) (mk : List (Int × Bool)), k ≤ n ∧ u = .int .i64 (k : Int) ∧ Hid (firstErr (errA l ids) k = 0) ∧ Hid (MapIs eI eB wr g mk) ∧ Hid (MetIs mk (ids ++ (l.take k).map (·.id))) ∧ Hid (w.grownBy wr (some g))) (fun u _ => n - (intOf u).toNat)
  case atStart => exact ⟨0, m, Nat.zero_le _, rfl, Lib.hid rfl, HM, by simpa using HR, Lib.hid (gr_refl _ _)⟩
  case round =>
    obtain ⟨k, mk, hk, rfl, HF, HMK, HRK, HG⟩ := hrel
    by_cases hlt : k < n
    · have hkl : k < l.length := by have := HN.out; omega
      have hbel : Below B w wr := (Below.refl B w).grown HG.out HBW.out (fun j e => by injection e with e; have := HBG.out; omega)
      obtain ⟨b, off, hba, hbb, c0, c1, c2, c3⟩ := reel_at (HA.out.below hbel) hkl
      subst hba
      have hea := fun r hr b1 b2 h1 h2 => errA_at (ids := ids) hkl (r := r) hr (b1 := b1) (b2 := b2) h1 h2
      have hstop := fun hf => firstErr_stop (f := errA l ids) (m := n) HF.out hf hlt
      have hgo := fun hf => firstErr_go (f := errA l ids) HF.out hf
      have hts : (l.take (k + 1)).map (·.id) = (l.take k).map (·.id) ++ [l[k].id] := by rw [List.take_succ_eq_append_getElem hkl, List.map_append]; rfl
      obtain ⟨r, hr⟩ : ∃ r, r = l[k] := ⟨_, rfl⟩
      rw [← hr] at c0 c1 c2 c3 hts
      obtain ⟨p1, hp1⟩ : ∃ b, b = rightB r := ⟨_, rfl⟩
      obtain ⟨p2, hp2⟩ : ∃ b, b = decide (r.id ∈ ids ++ (l.take k).map (·.id)) := ⟨_, rfl⟩
      have hev := hea r hr p1 p2 hp1 hp2
      have HHQ := Lib.hid (show (mget mk r.id).getD false = p2 by rw [HRK.out r.id, hp2])
      have H125 := Lib.hid (show ∀ W, Calls Try.prog 125 #[.agg #[.int .i64 r.id, .int .i64 r.width, .int .i64 r.len, .int .i64 r.core]] W fun e w' => e = .returned (.bool p1) ∧ Hid (Below W.heap.size W w') from fun W => by rw [hp1]; exact right_any r W)
      have HEV := Lib.hid hev
      have HST := Lib.hid hstop
      have HGO := Lib.hid hgo
      have HTS := Lib.hid hts
      obtain ⟨g5, hg5⟩ : ∃ g, g = wr.heap.size := ⟨_, rfl⟩
      obtain ⟨w5, hw5⟩ : ∃ W, W = wr.alloc (.cells #[.int .i64 r.id, .int .i64 r.width, .int .i64 r.len, .int .i64 r.core] 54) := ⟨_, rfl⟩
      have k5 : Blk w5 g5 54 #[.int .i64 r.id, .int .i64 r.width, .int .i64 r.len, .int .i64 r.core] := by rw [hw5, hg5]; exact Blk.new _ _ _
      have HG5 := Lib.hid (show w.grownBy w5 (some g) from by rw [hw5]; exact gr_alloc HG.out _)
      have HM5 := Lib.hid (show MapIs eI eB w5 g mk from by rw [hw5]; exact HMK.out.alloc _)
      have HKB := Lib.hid (show ∀ W, Below w5.heap.size w5 W → (W.cell? ⟨g5, 0, none⟩ = some (.int .i64 r.id) ∧ W.cell? ⟨g5, 1, none⟩ = some (.int .i64 r.width) ∧ W.cell? ⟨g5, 2, none⟩ = some (.int .i64 r.len) ∧ W.cell? ⟨g5, 3, none⟩ = some (.int .i64 r.core)) from fun W hb => by
        have k := k5.below hb k5.lt
        have a0 := k.cell 0
        have a1 := k.cell 1
        have a2 := k.cell 2
        have a3 := k.cell 3
        simp at a0 a1 a2 a3
        exact ⟨a0, a1, a2, a3⟩)
      have HW5 := Lib.hid hw5
      have HGS := Lib.hid hg5
      have i0 : (0 : Int) ≤ (k : Int) := by omega
      have i1 : (k : Int) < (n : Int) := by omega
      clear hbel hea hstop hgo hts hr hp1 hp2 hev hg5 hw5 k5
      go_upto_region 4 with fail
      rw [← HW5.out, ← HGS.out]
      clear c0 c1 c2 c3
      obtain ⟨d0, d1, d2, d3⟩ := HKB.out w5 (Below.refl _ _)
      cases p1
      · go_wp2_with (go_at_call 125; with_reducible refine (H125.out _).mono ?_; rintro e w6 ⟨rfl, hb6⟩; have HG6 := Lib.hid (gr_trans HG5.out (gr_below hb6.out _)); clear hb6)
        go_ret
        refine ⟨?_, Lib.hid (fun h => ?_), HG6⟩
        · rw [HER.out, HE.out, HST.out (by rw [HEV.out]; simp), HEV.out]; rfl
        · exfalso
          rw [HER.out, HE.out, HST.out (by rw [HEV.out]; simp), HEV.out] at h
          simp at h
      · cases p2
        · go_wp2_with first
            | (go_at_call 125; with_reducible refine (H125.out _).mono ?_; rintro e w6 ⟨rfl, hb6⟩; have HG6 := Lib.hid (gr_trans HG5.out (gr_below hb6.out _)); have HM6 := Lib.hid (HM5.out.below hb6.out HM5.out.lt); clear d0 d1 d2 d3; obtain ⟨d0, d1, d2, d3⟩ := HKB.out w6 hb6.out; clear hb6)
            | (at_lookup; refine wpList_lookup rfl (.tmp 16) (.tmp 18) 165 false rfl Try.underlying165 (keyLaw_int Try.underlying3) zero4 HM6.out r.id rfl rfl ?_; simp only [Bool.false_eq_true, if_false, getD_bool, HHQ.out])
            | (at_mapUpdate; refine wpList_update rfl (.tmp 20) (.tmp 22) (.const (.bool true)) 165 rfl Try.underlying165 (keyLaw_int Try.underlying3) HM6.out r.id true rfl rfl rfl ?_; intro w7 hm7 hg7 hs7; have HM7 := Lib.hid hm7; have HG7 := Lib.hid (gr_trans HG6.out hg7); clear hm7 hg7 hs7)
          go_roundw
          case rel => exact ⟨k + 1, mset mk r.id true, by omega, by go_num, Lib.hid (HGO.out (by rw [HEV.out]; rfl)), HM7, Lib.hid (by rw [HTS.out, ← List.append_assoc]; exact HRK.out.push r.id), HG7⟩
          case measure => simp [intOf]; omega
        · go_wp2_with first
            | (go_at_call 125; with_reducible refine (H125.out _).mono ?_; rintro e w6 ⟨rfl, hb6⟩; have HG6 := Lib.hid (gr_trans HG5.out (gr_below hb6.out _)); have HM6 := Lib.hid (HM5.out.below hb6.out HM5.out.lt); clear d0 d1 d2 d3; obtain ⟨d0, d1, d2, d3⟩ := HKB.out w6 hb6.out; clear hb6)
            | (at_lookup; refine wpList_lookup rfl (.tmp 16) (.tmp 18) 165 false rfl Try.underlying165 (keyLaw_int Try.underlying3) zero4 HM6.out r.id rfl rfl ?_; simp only [Bool.false_eq_true, if_false, getD_bool, HHQ.out])
          go_ret
          refine ⟨?_, Lib.hid (fun h => ?_), HG6⟩
          · rw [HER.out, HE.out, HST.out (by rw [HEV.out]; simp), HEV.out]; rfl
          · exfalso
            rw [HER.out, HE.out, HST.out (by rw [HEV.out]; simp), HEV.out] at h
            simp at h
    · obtain rfl : k = n := by omega
      go_wp2_with fail
      go_ret
      refine ⟨by rw [HER.out, HE.out, HF.out]; rfl, Lib.hid (fun _ => ⟨mk, HMK.out, ?_⟩), HG⟩
      have h := HRK.out
      rw [HN.out, List.take_length] at h
      exact h
end Go.Proofs.Ytnbnfadmbggfnaa
