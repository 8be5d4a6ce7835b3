/- Splices and Used of the layer at any press; small; equal presses; a copy of reels; conditions: as each says. -/
import Derived.Test.YtnbnfadmbggfnaaUF
set_option linter.unusedSimpArgs false
set_option linter.unusedVariables false
namespace Go.Proofs.Ytnbnfadmbggfnaa
open Go.RowKit Go.Fh Go.Rl
set_option maxRecDepth 20000 in
set_option maxHeartbeats 4000000 in
theorem spl21_any (p : PrsD) (A : Option Addr) (c m : Nat) (ms : List WebM) (w : World) (hT : PrsAt w w.heap.size p A ms) (hm : m = ms.length) (hm9 : m ≤ 1000000) (i : Int) (S : List Int) (er : Int) (hS : (S, er) = splO p i) :
    Calls Try.prog 21 #[.agg #[.int .i64 p.cut, .int .i64 p.margin, .slice A m c], .int .i64 i] w fun e w' => ∃ A' c', e = .returned (.tuple #[.slice A' S.length c', .int .i64 er]) ∧ Hid (Sl encInt 1 w' w'.heap.size A' S) ∧ Hid (Below w.heap.size w w') := by
  by_cases hz : errP p = 0
  · have hml : m = p.webs.length := by rw [hm, hT.len]
    have hm6 := (prs_ok hz).n1
    rw [← hml] at hm6
    by_cases hi : inB i 0 ((p.webs.length : Int) - 1) = true
    · have hin := inB_iff.1 hi
      obtain ⟨k, rfl⟩ : ∃ k : Nat, i = (k : Int) := ⟨i.toNat, by omega⟩
      have hk : k < ms.length := by omega
      have hkp : k < p.webs.length := by omega
      have hwe : ms[k].1 = p.webs[k] := by
        have h1 : (ms.map (·.1))[k]'(by simpa using hk) = p.webs[k] := List.getElem_of_eq hT.eq _
        rw [List.getElem_map] at h1; exact h1
      unfold splO at hS
      rw [if_neg (by simpa using hz), if_neg (by simp [hi])] at hS
      injection hS with h1 h2
      subst h2
      exact spl21_ok p A c m ms w hT hm hz k hk S (by rw [h1, hwe]; simp [hkp])
    · have hi0 : inB i 0 ((m : Int) - 1) = false := by rw [hml]; simpa using hi
      unfold splO at hS
      rw [if_neg (by simpa using hz), if_pos (by simpa using hi)] at hS
      injection hS with h1 h2
      subst h1 h2
      obtain ⟨w1, gT, HW1, HGT, HB1, HTB⟩ := prs_box p A c m ms w hT
      obtain ⟨hT1, r0, r1, r2⟩ := HTB.out w1 (Below.refl _ _)
      have hC := check_any p A c m ms w1 hT1 hm hm9
      rw [hz] at hC
      have HC := Lib.hid hC
      have H48 := Lib.hid (show ∀ W, Calls Try.prog 48 #[.int .i64 i, .int .i64 0, .int .i64 ((m : Int) - 1)] W fun e w' => e = .returned (.bool false) ∧ W = w' from fun W => by
        have := within_any i 0 ((m : Int) - 1) W
        rw [hi0] at this; exact this)
      have s1 : IntKind.i64.wrap ((m : Int) - 1) = (m : Int) - 1 := by rw [IntKind.wrap_i64]; omega
      have HNIL := Lib.hid (fun (W : World) => (Sl.nil : Sl encInt 1 W W.heap.size none []))
      clear hT hT1 hC hm hml hz hi hi0
      go_enter Try.func21, Try.ntmps21
      go_upto_region 1 with fail
      rw [← HW1.out, ← HGT.out]
      go_wp2_with first
        | (go_at_call 39; with_reducible refine HC.out.mono ?_; rintro e w2 ⟨rfl, HB2⟩; clear r0 r1 r2; obtain ⟨-, r0, r1, r2⟩ := HTB.out w2 HB2.out)
        | (go_at_call 48; with_reducible refine (H48.out _).mono ?_; rintro e wz ⟨rfl, rfl⟩)
      go_ret2
      exact ⟨none, 0, rfl, Lib.hid (HNIL.out _), Lib.hid (HB1.out.trans (HB2.out.mono HB1.out.size))⟩
  · unfold splO at hS
    rw [if_pos hz] at hS
    injection hS with h1 h2
    subst h1
    obtain ⟨w1, gT, HW1, HGT, HB1, HTB⟩ := prs_box p A c m ms w hT
    obtain ⟨hT1, r0, r1, r2⟩ := HTB.out w1 (Below.refl _ _)
    have hC := check_any p A c m ms w1 hT1 hm hm9
    rw [← h2] at hC hz
    have HC := Lib.hid hC
    have ht : (er != 0) = true := by simpa using hz
    have HNIL := Lib.hid (fun (W : World) => (Sl.nil : Sl encInt 1 W W.heap.size none []))
    clear hT hT1 hC hm hz h2
    go_enter Try.func21, Try.ntmps21
    go_upto_region 1 with fail
    rw [← HW1.out, ← HGT.out]
    go_wp2_with (go_at_call 39; with_reducible refine HC.out.mono ?_; rintro e w2 ⟨rfl, HB2⟩)
    go_ret2
    exact ⟨none, 0, rfl, Lib.hid (HNIL.out _), Lib.hid (HB1.out.trans (HB2.out.mono HB1.out.size))⟩
set_option maxRecDepth 20000 in
set_option maxHeartbeats 4000000 in
theorem used22_any (p : PrsD) (A : Option Addr) (c m : Nat) (ms : List WebM) (w : World) (hT : PrsAt w w.heap.size p A ms) (hm : m = ms.length) (hm9 : m ≤ 1000000) (n : Int) (er : Int) (her : er = askE p n 9223372036854775807) (U : List (Int × Int × Int)) (hU : U = usedO p n) :
    Calls Try.prog 22 #[.agg #[.int .i64 p.cut, .int .i64 p.margin, .slice A m c], .int .i64 n] w fun e w' => ∃ A' c', e = .returned (.tuple #[.slice A' U.length c', .int .i64 er]) ∧ Hid (Sl enc3 3 w' w'.heap.size A' U) ∧ Hid (Below w.heap.size w w') := by
  unfold usedO at hU
  rw [← her] at hU
  by_cases hz : er = 0
  · obtain ⟨q1, q2, -, q4⟩ := ask0 (her.symm.trans hz)
    rw [if_neg (by simpa using hz)] at hU
    subst hz
    exact used22_ok p A c m ms w hT hm q1 n q2 q4 U hU
  · obtain ⟨w1, gT, HW1, HGT, HB1, HTB⟩ := prs_box p A c m ms w hT
    obtain ⟨hT1, r0, r1, r2⟩ := HTB.out w1 (Below.refl _ _)
    have HA := Lib.hid (ask_any p A c m ms w1 hT1 hm hm9 n _ er her)
    have ht : (er != 0) = true := by simpa using hz
    rw [if_pos hz] at hU
    subst hU
    have HNIL := Lib.hid (fun (W : World) => (Sl.nil : Sl enc3 3 W W.heap.size none []))
    clear hT hT1 hm hm9 her hz
    go_enter Try.func22, Try.ntmps22
    go_upto_region 1 with fail
    rw [← HW1.out, ← HGT.out]
    go_wp2_with (go_at_call 41; with_reducible refine HA.out.mono ?_; rintro e w2 ⟨rfl, HB2⟩)
    go_ret2
    exact ⟨none, 0, rfl, Lib.hid (HNIL.out _), Lib.hid (HB1.out.trans (HB2.out.mono HB1.out.size))⟩
set_option maxRecDepth 20000 in
set_option maxHeartbeats 4000000 in
theorem cl65_any (v : WebD) (vA : Option Addr) (vc : Nat) (w : World) : Calls Try.prog 65 #[.agg #[.slice vA v.reels.length vc, .int .i64 v.off, .int .i64 v.bef, .int .i64 v.aft]] w fun e w' => e = .returned (.bool (decide (30 < v.reels.length))) ∧ Hid (Below w.heap.size w w') := by
  obtain ⟨b, hb⟩ : ∃ b, b = decide (30 < v.reels.length) := ⟨_, rfl⟩
  have hd : decide ((30 : Int) < (v.reels.length : Int)) = b := by rw [hb]; by_cases h : 30 < v.reels.length <;> simp [h] <;> omega
  have hd2 : decide (30 < v.reels.length) = b := hb.symm
  rw [← hb]
  clear hb
  cases b
  all_goals
    go_enter Try.func65, Try.ntmps65
    go_wp2_with fail
    go_ret
    exact ⟨by simp [hd2], Lib.hid (balR (Below.refl _ _) _)⟩
set_option maxRecDepth 20000 in
set_option maxHeartbeats 4000000 in
theorem many30_idx (A : Option Addr) (c m : Nat) (ms : List WebM) (p : PrsD) (w : World) (hT : PrsAt w w.heap.size p A ms) (hm : m = ms.length) (hm9 : m ≤ 1000000) :
    Calls Try.prog 103 #[.slice A m c, .func (.func 65) #[] #[]] w fun e w' => ∃ i : Int, e = .returned (.int .i64 i) ∧ Hid (decide (0 ≤ i) = p.webs.any (fun v => decide (30 < v.reels.length))) ∧ Hid (Below w.heap.size w w') := by
  have HT := Lib.hid (fun W (hb : Below w.heap.size w W) => hT.step hb)
  have HM := Lib.hid hm
  have HML := Lib.hid (show m = p.webs.length by rw [hm, hT.len])
  clear hT hm
  go_enter Try.func103, Try.ntmps103
  go_wp2_with fail
  go_loopw [8] (fun u wr => ∃ k : Nat, k ≤ m ∧ u = .int .i64 (k : Int) ∧ Hid (∀ j (h : j < p.webs.length), j < k → decide (30 < p.webs[j].reels.length) = false) ∧ Hid (Below w.heap.size w wr)) (fun u _ => m - (intOf u).toNat)
  case atStart => exact ⟨0, Nat.zero_le _, rfl, Lib.hid (fun j h h0 => by omega), Below.refl _ _⟩
  case round =>
    obtain ⟨k, hk, rfl, HJ, HB⟩ := hrel
    by_cases hlt : k < m
    · have hkm : k < ms.length := by have := HM.out; omega
      have hkp : k < p.webs.length := by have := HML.out; omega
      have hT2 := HT.out wr HB.out
      obtain ⟨b, off, hba, hbb, c0, c1, c2, c3⟩ := web_at hT2.cW hkm
      subst hba
      have hwe : ms[k].1 = p.webs[k] := by
        have h1 : (ms.map (·.1))[k]'(by simpa using hkm) = p.webs[k] := List.getElem_of_eq hT2.eq _
        rw [List.getElem_map] at h1; exact h1
      obtain ⟨⟨v, vA, vc⟩, hv⟩ : ∃ v, v = ms[k] := ⟨_, rfl⟩
      rw [← hv] at c0 c1 c2 c3 hwe
      dsimp only at c0 c1 c2 c3 hwe
      obtain ⟨q, hq⟩ : ∃ q, q = decide (30 < v.reels.length) := ⟨_, rfl⟩
      have H65 := Lib.hid (show ∀ W, Calls Try.prog 65 #[.agg #[.slice vA v.reels.length vc, .int .i64 v.off, .int .i64 v.bef, .int .i64 v.aft]] W fun e w' => e = .returned (.bool q) ∧ Hid (Below W.heap.size W w') from fun W => by rw [hq]; exact cl65_any v vA vc W)
      have HQ := Lib.hid (show q = decide (30 < p.webs[k].reels.length) by rw [hq, hwe])
      have i0 : (0 : Int) ≤ (k : Int) := by omega
      have i1 : (k : Int) < (m : Int) := by omega
      clear hv hwe hq hT2
      cases q
      · go_wp2_with (go_at_call 65; with_reducible refine (H65.out _).mono ?_; rintro e w5 ⟨rfl, hb5⟩; have HB5 := Lib.hid (HB.out.trans (hb5.out.mono HB.out.size)); clear hb5)
        go_roundw
        case rel => exact ⟨k + 1, by omega, by go_num, Lib.hid (fun j h h0 => by
          by_cases e : j = k
          · subst e; exact HQ.out.symm
          · exact HJ.out j h (by omega)), HB5⟩
        case measure => simp [intOf]; omega
      · go_wp2_with (go_at_call 65; with_reducible refine (H65.out _).mono ?_; rintro e w5 ⟨rfl, hb5⟩; have HB5 := Lib.hid (HB.out.trans (hb5.out.mono HB.out.size)); clear hb5)
        go_ret
        exact ⟨(k : Int), rfl, Lib.hid (by
          have : p.webs.any (fun v => decide (30 < v.reels.length)) = true := List.any_eq_true.2 ⟨p.webs[k], List.getElem_mem hkp, HQ.out.symm⟩
          rw [this]; simp), HB5⟩
    · obtain rfl : k = m := by omega
      go_wp2_with fail
      go_ret
      exact ⟨-1, rfl, Lib.hid (by
        have : p.webs.any (fun v => decide (30 < v.reels.length)) = false := by
          rw [List.any_eq_false]
          intro v hv
          obtain ⟨j, hj, rfl⟩ := List.getElem_of_mem hv
          have := HJ.out j hj (by have := HML.out; omega)
          simpa using this
        rw [this]; rfl), HB⟩
set_option maxRecDepth 20000 in
set_option maxHeartbeats 4000000 in
theorem many30_any (A : Option Addr) (c m : Nat) (ms : List WebM) (p : PrsD) (w : World) (hT : PrsAt w w.heap.size p A ms) (hm : m = ms.length) (hm9 : m ≤ 1000000) :
    Calls Try.prog 64 #[.slice A m c, .func (.func 65) #[] #[]] w fun e w' => e = .returned (.bool (p.webs.any (fun v => decide (30 < v.reels.length)))) ∧ Hid (Below w.heap.size w w') := by
  have H := Lib.hid (many30_idx A c m ms p w hT hm hm9)
  obtain ⟨b, hb⟩ : ∃ b, b = p.webs.any (fun v => decide (30 < v.reels.length)) := ⟨_, rfl⟩
  rw [← hb] at H ⊢
  clear hT hm hm9 hb
  go_enter Try.func64, Try.ntmps64
  go_wp2_with (go_at_call 103; with_reducible refine H.out.mono ?_; rintro e w' ⟨i, rfl, HI, HB⟩)
  go_ret
  exact ⟨ret_bool HI.out, HB⟩
set_option maxRecDepth 20000 in
set_option maxHeartbeats 4000000 in
theorem use74_any (a b c : Int) (w : World) : Calls Try.prog 74 #[.agg #[.int .i64 a, .int .i64 b, .int .i64 c], .agg #[.int .i64 a, .int .i64 b, .int .i64 c]] w fun e w' => e = .returned (.bool true) ∧ Hid (Below w.heap.size w w') := by
  go_enter Try.func74, Try.ntmps74
  go_wp2_with fail
  go_ret
  exact ⟨by simp, Lib.hid (balR (balR (Below.refl _ _) _) _)⟩
set_option maxRecDepth 20000 in
set_option maxHeartbeats 4000000 in
theorem eqUse_any (A B : Option Addr) (c d N : Nat) (l : List (Int × Int × Int)) (w : World) (hN : N = l.length) (hN9 : N ≤ 1000000) (hA : Sl enc3 3 w w.heap.size A l) (hB : Sl enc3 3 w w.heap.size B l) :
    Calls Try.prog 73 #[.slice A N c, .slice B N d, .func (.func 74) #[] #[]] w fun e w' => e = .returned (.bool true) ∧ Hid (Below w.heap.size w w') := by
  have HN := Lib.hid hN
  have HA := Lib.hid (fun W (hb : Below w.heap.size w W) => hA.below hb)
  have HB := Lib.hid (fun W (hb : Below w.heap.size w W) => hB.below hb)
  clear hN hA hB
  go_enter Try.func73, Try.ntmps73
  go_wp2_with fail
  go_loopw [17] (fun u wr => ∃ k : Nat, k ≤ N ∧ u = .int .i64 (k : Int) ∧ Hid (Below w.heap.size w wr)) (fun u _ => N - (intOf u).toNat)
  case atStart => exact ⟨0, Nat.zero_le _, rfl, Below.refl _ _⟩
  case round =>
    obtain ⟨k, hk, rfl, HBL⟩ := hrel
    by_cases hlt : k < N
    · have hkl : k < l.length := by have := HN.out; omega
      obtain ⟨b0, off0, hba, hbb, c0, c1, c2⟩ := (HA.out _ HBL.out).at3 hkl
      obtain ⟨b1, off1, hba1, hbb1, d0, d1, d2⟩ := (HB.out _ HBL.out).at3 hkl
      obtain ⟨⟨x, y, z⟩, hx⟩ : ∃ x, x = l[k] := ⟨_, rfl⟩
      rw [← hx] at c0 c1 c2 d0 d1 d2
      dsimp only at c0 c1 c2 d0 d1 d2
      subst hba hba1
      obtain ⟨g8, hg8⟩ : ∃ g, g = wr.heap.size := ⟨_, rfl⟩
      obtain ⟨w5, hw5⟩ : ∃ W, W = wr.alloc (.cells #[.int .i64 x, .int .i64 y, .int .i64 z] 56) := ⟨_, rfl⟩
      have k5 : Blk w5 g8 56 #[.int .i64 x, .int .i64 y, .int .i64 z] := by rw [hw5, hg8]; exact Blk.new _ _ _
      have hb5 : Below wr.heap.size wr w5 := by rw [hw5]; exact balR (Below.refl _ _) _
      have hb5w : Below w.heap.size w w5 := bstep HBL.out hb5
      obtain ⟨g9, hg9⟩ : ∃ g, g = w5.heap.size := ⟨_, rfl⟩
      obtain ⟨w6, hw6⟩ : ∃ W, W = w5.alloc (.cells #[.int .i64 x, .int .i64 y, .int .i64 z] 143) := ⟨_, rfl⟩
      have k6 : Blk w6 g9 143 #[.int .i64 x, .int .i64 y, .int .i64 z] := by rw [hw6, hg9]; exact Blk.new _ _ _
      have hb6 : Below w5.heap.size w5 w6 := by rw [hw6]; exact balR (Below.refl _ _) _
      have K8 := Lib.hid (k5.below hb6 k5.lt)
      have K9 := Lib.hid k6
      have HB6 := Lib.hid (bstep hb5w hb6)
      have HW5 := Lib.hid hw5
      have HG8 := Lib.hid hg8
      have HW6 := Lib.hid hw6
      have HG9 := Lib.hid hg9
      have q0 := (hb5.cell (p := ⟨b1, off1 + k * 3, none⟩) (Nat.lt_of_lt_of_le hbb1 HBL.out.size)).trans d0
      have q1 := (hb5.cell (p := ⟨b1, off1 + k * 3 + 1, none⟩) (Nat.lt_of_lt_of_le hbb1 HBL.out.size)).trans d1
      have q2 := (hb5.cell (p := ⟨b1, off1 + k * 3 + 2, none⟩) (Nat.lt_of_lt_of_le hbb1 HBL.out.size)).trans d2
      have i0 : (0 : Int) ≤ (k : Int) := by omega
      have i1 : (k : Int) < (N : Int) := by omega
      clear hx hg8 hw5 k5 hb5 hb5w hg9 hw6 k6 hb6 d0 d1 d2
      go_upto_region 6 with fail
      rw [← HW5.out, ← HG8.out]
      clear c0 c1 c2
      go_upto_region 7 with fail
      rw [← HW6.out, ← HG9.out]
      clear q0 q1 q2
      have e0 := K8.out.cell 0
      have e1 := K8.out.cell 1
      have e2 := K8.out.cell 2
      have f0 := K9.out.cell 0
      have f1 := K9.out.cell 1
      have f2 := K9.out.cell 2
      simp at e0 e1 e2 f0 f1 f2
      go_wp2_with (go_at_call 74; with_reducible refine (use74_any _ _ _ _).mono ?_; rintro e w7 ⟨rfl, HB7⟩)
      go_roundw
      case rel => exact ⟨k + 1, by omega, by go_num, Lib.hid (bstep HB6.out HB7.out)⟩
      case measure => simp [intOf]; omega
    · obtain rfl : k = N := by omega
      go_wp2_with fail
      go_ret
      exact ⟨rfl, HBL⟩
set_option maxRecDepth 20000 in
set_option maxHeartbeats 4000000 in
theorem eqReels_any (A B : Option Addr) (c d N : Nat) (l : List ReelD) (w : World) (hN : N = l.length) (hN9 : N ≤ 1000000) (hA : Sl encReel 4 w w.heap.size A l) (hB : Sl encReel 4 w w.heap.size B l) :
    Calls Try.prog 113 #[.slice A N c, .slice B N d] w fun e w' => e = .returned (.bool true) ∧ Hid (Below w.heap.size w w') := by
  have HN := Lib.hid hN
  have HA := Lib.hid (fun W (hb : Below w.heap.size w W) => hA.below hb)
  have HB := Lib.hid (fun W (hb : Below w.heap.size w W) => hB.below hb)
  clear hN hA hB
  go_enter Try.func113, Try.ntmps113
  go_wp2_with fail
  go_loopw [13] (fun u wr => ∃ k : Nat, k ≤ N ∧ u = .int .i64 (k : Int) ∧ Hid (Below w.heap.size w wr)) (fun u _ => N - (intOf u).toNat)
  case atStart => exact ⟨0, Nat.zero_le _, rfl, Below.refl _ _⟩
  case round =>
    obtain ⟨k, hk, rfl, HBL⟩ := hrel
    by_cases hlt : k < N
    · have hkl : k < l.length := by have := HN.out; omega
      obtain ⟨b0, off0, hba, hbb, c0, c1, c2, c3⟩ := reel_at (HA.out _ HBL.out) hkl
      obtain ⟨b1, off1, hba1, hbb1, d0, d1, d2, d3⟩ := reel_at (HB.out _ HBL.out) hkl
      obtain ⟨x, hx⟩ : ∃ x, x = l[k] := ⟨_, rfl⟩
      rw [← hx] at c0 c1 c2 c3 d0 d1 d2 d3
      subst hba hba1
      have i0 : (0 : Int) ≤ (k : Int) := by omega
      have i1 : (k : Int) < (N : Int) := by omega
      clear hx hbb hbb1
      go_wp2_with fail
      go_quiet (fail)
      go_wp2_with fail
      go_roundw
      case rel => exact ⟨k + 1, by omega, by go_num, below_drewN HBL.out _⟩
      case measure => simp [intOf]; omega
    · obtain rfl : k = N := by omega
      go_wp2_with fail
      go_ret
      exact ⟨rfl, HBL⟩
set_option maxRecDepth 20000 in
set_option maxHeartbeats 4000000 in
theorem web112_any (v : WebD) (vA vB : Option Addr) (c d N : Nat) (w : World) (hN : N = v.reels.length) (hN9 : N ≤ 1000000) (hA : Sl encReel 4 w w.heap.size vA v.reels) (hB : Sl encReel 4 w w.heap.size vB v.reels) :
    Calls Try.prog 112 #[.agg #[.slice vA N c, .int .i64 v.off, .int .i64 v.bef, .int .i64 v.aft], .agg #[.slice vB N d, .int .i64 v.off, .int .i64 v.bef, .int .i64 v.aft]] w fun e w' => e = .returned (.bool true) ∧ Hid (Below w.heap.size w w') := by
  obtain ⟨w1, g1, HW1, HG1, HB1, HK1⟩ := wv_box 41 v vA N c w
  obtain ⟨w2, g2, HW2, HG2, HB2, HK2⟩ := wv_box 41 v vB N d w1
  obtain ⟨x0, x1, x2, x3⟩ := wv_cells (HK1.out.below HB2.out HK1.out.lt)
  obtain ⟨y0, y1, y2, y3⟩ := wv_cells HK2.out
  have hb := bstep HB1.out HB2.out
  have HBB := Lib.hid hb
  have H113 := Lib.hid (eqReels_any vA vB c d N v.reels w2 hN hN9 (hA.below hb |>.mono hb.size) (hB.below hb |>.mono hb.size))
  clear hN hA hB hb
  go_enter Try.func112, Try.ntmps112
  go_upto_region 1 with fail
  rw [← HW1.out, ← HG1.out, ← HW2.out, show g1 + 1 = g2 from by rw [HG2.out, HW1.out, HG1.out]; simp]
  go_wp2_with (go_at_call 113; with_reducible refine H113.out.mono ?_; rintro e w7 ⟨rfl, HB7⟩)
  go_ret
  exact ⟨by simp, Lib.hid (bstep HBB.out HB7.out)⟩
set_option maxRecDepth 20000 in
set_option maxHeartbeats 4000000 in
theorem eqWebs_any (p : PrsD) (A B : Option Addr) (c d m : Nat) (ms ns : List WebM) (w : World) (hA : PrsAt w w.heap.size p A ms) (hB : PrsAt w w.heap.size p B ns) (hm : m = ms.length) (hm9 : m ≤ 1000000) (hr9 : ∀ v ∈ p.webs, v.reels.length ≤ 1000000) :
    Calls Try.prog 111 #[.slice A m c, .slice B m d, .func (.func 112) #[] #[]] w fun e w' => e = .returned (.bool true) ∧ Hid (Below w.heap.size w w') := by
  have HA := Lib.hid (fun W (hb : Below w.heap.size w W) => hA.step hb)
  have HB := Lib.hid (fun W (hb : Below w.heap.size w W) => hB.step hb)
  have HM := Lib.hid hm
  have HNM := Lib.hid (show m = ns.length by rw [hm, hA.len, hB.len])
  have HML := Lib.hid (show m = p.webs.length by rw [hm, hA.len])
  have HR9 := Lib.hid hr9
  clear hA hB hm hr9
  go_enter Try.func111, Try.ntmps111
  go_wp2_with fail
  go_loopw [17] (fun u wr => ∃ k : Nat, k ≤ m ∧ u = .int .i64 (k : Int) ∧ Hid (Below w.heap.size w wr)) (fun u _ => m - (intOf u).toNat)
  case atStart => exact ⟨0, Nat.zero_le _, rfl, Below.refl _ _⟩
  case round =>
    obtain ⟨k, hk, rfl, HBL⟩ := hrel
    by_cases hlt : k < m
    · have hkp : k < p.webs.length := by have := HML.out; omega
      obtain ⟨v, vA, vc, b0, off0, HV, HRA, hba, HCA⟩ := web_box HA.out (by have := HM.out; omega) hkp
      obtain ⟨v', vB, vd, b1, off1, HV', HRB, hbb, HCB⟩ := web_box HB.out (by have := HNM.out; omega) hkp
      obtain rfl : v' = v := by rw [HV'.out, HV.out]
      have hr9 := HR9.out v' (by rw [HV'.out]; exact List.getElem_mem hkp)
      obtain ⟨N, hN⟩ : ∃ n, n = v'.reels.length := ⟨_, rfl⟩
      rw [← hN] at hr9
      obtain ⟨w5, g8, HW5, HG8, HB5, HK8⟩ := wv_box 41 v' vA N vc wr
      obtain ⟨w6, g9, HW6, HG9, HB6, HK9⟩ := wv_box 41 v' vB N vd w5
      have HB15 := Lib.hid (bstep HBL.out HB5.out)
      have HB16 := Lib.hid (bstep HB15.out HB6.out)
      obtain ⟨c0, c1, c2, c3⟩ := HCA.out _ HBL.out
      obtain ⟨d0, d1, d2, d3⟩ := HCB.out _ HB15.out
      rw [← hN] at c0 d0
      have H112 := Lib.hid (web112_any v' vA vB vc vd N w6 hN hr9 (HRA.out _ HB16.out) (HRB.out _ HB16.out))
      subst hba hbb
      have i0 : (0 : Int) ≤ (k : Int) := by omega
      have i1 : (k : Int) < (m : Int) := by omega
      obtain ⟨x0, x1, x2, x3⟩ := wv_cells (HK8.out.below HB6.out HK8.out.lt)
      obtain ⟨y0, y1, y2, y3⟩ := wv_cells HK9.out
      clear hN hr9
      go_upto_region 6 with fail
      rw [← HW5.out, ← HG8.out]
      clear c0 c1 c2 c3
      go_upto_region 7 with fail
      rw [← HW6.out, ← HG9.out]
      clear d0 d1 d2 d3
      go_wp2_with (go_at_call 112; with_reducible refine H112.out.mono ?_; rintro e w7 ⟨rfl, HB7⟩)
      go_roundw
      case rel => exact ⟨k + 1, by omega, by go_num, Lib.hid (bstep HB16.out HB7.out)⟩
      case measure => simp [intOf]; omega
    · obtain rfl : k = m := by omega
      go_wp2_with fail
      go_ret
      exact ⟨rfl, HBL⟩
set_option maxRecDepth 20000 in
set_option maxHeartbeats 4000000 in
theorem kept75_any (p : PrsD) (A B : Option Addr) (c d m : Nat) (ms ns : List WebM) (w : World) (hA : PrsAt w w.heap.size p A ms) (hB : PrsAt w w.heap.size p B ns) (hm : m = ms.length) (hm9 : m ≤ 1000000) (hr9 : ∀ v ∈ p.webs, v.reels.length ≤ 1000000) :
    Calls Try.prog 75 #[.agg #[.int .i64 p.cut, .int .i64 p.margin, .slice A m c], .agg #[.int .i64 p.cut, .int .i64 p.margin, .slice B m d]] w fun e w' => e = .returned (.bool true) ∧ Hid (Below w.heap.size w w') := by
  have hmn : m = ns.length := by rw [hm, hA.len, hB.len]
  obtain ⟨w1, g1, HW1, HG1, HB1, HTP1, HTC1⟩ := mp_box 26 p w A c ms w hA m hm
  obtain ⟨w2, g2, HW2, HG2, HB2, HTP2, HTC2⟩ := mp_box 26 p w B d ns w1 (hB.step HB1.out) m hmn
  have HBB := Lib.hid (bstep HB1.out HB2.out)
  obtain ⟨x0, x1, x2⟩ := HTC1.out _ HB2.out
  obtain ⟨y0, y1, y2⟩ := HTC2.out _ (Below.refl _ _)
  have H111 := Lib.hid (eqWebs_any p A B c d m ms ns w2 (HTP1.out _ HB2.out) (HTP2.out _ (Below.refl _ _)) hm hm9 hr9)
  clear hA hB hm hmn hr9
  go_enter Try.func75, Try.ntmps75
  go_upto_region 1 with fail
  rw [← HW1.out, ← HG1.out, ← HW2.out, show g1 + 1 = g2 from by rw [HG2.out, HW1.out, HG1.out]; simp]
  go_wp2_with (go_at_call 111; with_reducible refine H111.out.mono ?_; rintro e w7 ⟨rfl, HB7⟩)
  go_ret
  exact ⟨by simp, Lib.hid (bstep HBB.out HB7.out)⟩
set_option maxHeartbeats 1000000 in
theorem infoReel54 : (Try.prog.info? 54).map (fun i => (i.zero, i.size, i.bytes)) = some (some (.agg #[.int .i64 0, .int .i64 0, .int .i64 0, .int .i64 0]), 4, 32) := by kernel_rfl
set_option maxHeartbeats 1000000 in
theorem cloneReels_any (A : Option Addr) (c : Nat) (l : List ReelD) (w : World) (hl : l.length ≤ 1000000) (hA : Sl encReel 4 w w.heap.size A l) :
    Calls Try.prog 104 #[.slice A l.length c] w fun e w' => ∃ A' c', e = .returned (.slice A' l.length c') ∧ w'.ownsRow w.heap.size 54 4 (.slice A' l.length c') l.length (l.flatMap encReel) ∧ Below w.heap.size w w' := by
  have hnil := fun w n c n' c' a => Lib.run_eql_slice_nil (P := Try.prog) w 39 54 a n c n' c' Try.underlying39
  obtain ⟨i0, hi0, hz0, hz1, hz2⟩ := info_parts infoReel54
  rcases A with _ | ad
  · have h0 := hA.none_nil
    subst h0
    go_enter Try.func104, Try.ntmps104
    go_wp2
    go_ret
    exact ⟨none, 0, rfl, World.ownsRow_nil _ _ _ _, Below.refl _ _⟩
  · have hs2 : ∀ x : ReelD, (encReel x).length = 4 := fun _ => rfl
    have hfl := length_flat (enc := encReel) (size := 4) hs2 l
    have hne : ∀ u ∈ l.flatMap encReel, u.oneCell' = true := by
      intro u hu; obtain ⟨x, _, hx⟩ := List.mem_flatMap.1 hu; simp [encReel] at hx; rcases hx with rfl | rfl | rfl | rfl <;> rfl
    have hcells : ∀ (W : World), Below w.heap.size w W → ∀ j u, (l.flatMap encReel)[j]? = some u → W.cell? (ad.add j) = some u := fun W hb => (hA.below hb).flat hs2
    obtain ⟨fl, hflat⟩ : ∃ fl, fl = l.flatMap encReel := ⟨_, rfl⟩
    rw [← hflat] at hfl hne hcells
    have HF := Lib.hid hfl
    have HFL := Lib.hid hflat
    clear hfl hflat
    have hb0 := (Below.refl w.heap.size w).alloc (Nat.le_refl _) (.cells #[] 54)
    have hown := World.ownsRow_made (base := w.heap.size) (e := 54) (size := 4) w #[] 0 (Nat.le_refl _) (by decide) rfl
    go_enter Try.func104, Try.ntmps104
    go_wp2_with (at_builtin; refine wpList_append_own _ rfl (.tmp 5) (.tmp 6) 39 rfl w.heap.size 54 i0 _ 4 32 Try.underlying39 hi0 hz0 hz1 hz2 rfl (by decide) _ _ _ rfl hown ad l.length c fl rfl HF.out (hcells _ hb0) hne (by simp only [maxLen]; omega) (by omega) (by simp) ?_; intro v' w1 hown1 hg1 _)
    go_ret
    obtain ⟨A', c', rfl⟩ := own_shape hown1
    simp only [Nat.zero_add, List.nil_append] at hown1 ⊢
    refine ⟨A', c', rfl, by rw [← HFL.out]; exact hown1, hb0.grown hg1 (by simp) (fun k hk => ?_)⟩
    cases hk; exact Nat.le_refl _
end Go.Proofs.Ytnbnfadmbggfnaa
