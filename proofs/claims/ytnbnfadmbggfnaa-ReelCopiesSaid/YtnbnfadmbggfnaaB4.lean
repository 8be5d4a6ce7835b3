/- Contracts of Check and Reach; conditions: a press in memory. Printed by a program. -/
import Derived.Test.YtnbnfadmbggfnaaB3
set_option linter.unusedSimpArgs false
set_option linter.unusedVariables false
namespace Go.Rl
open Go.Fh Go.RowKit
def web0 : WebD := ⟨[], 0, 0, 0⟩
def idsN (p : PrsD) (k : Nat) : List Int := ((p.webs.take k).flatMap (·.reels)).map (·.id)
def errV (v : WebD) (ids : List Int) : Int := if !inB v.off 0 200000 || (!inB v.bef 0 5000 || !inB v.aft 0 5000) then 6 else erW v.reels ids
def errWb (p : PrsD) (k : Nat) : Int := errV (p.webs.getD k web0) (idsN p k)
def errP (p : PrsD) : Int :=
  if !inB p.webs.length 1 6 || p.webs.any (fun v => decide (20 < v.reels.length)) then 2
  else if !inB p.cut 300 1500 || !inB p.margin 0 20 then 6 else firstErr (errWb p) p.webs.length
theorem idsN_s {p : PrsD} {k : Nat} (h : k < p.webs.length) : idsN p (k + 1) = idsN p k ++ p.webs[k].reels.map (·.id) := by
  unfold idsN
  rw [List.take_succ_eq_append_getElem h, List.flatMap_append, List.map_append]
  simp
theorem errWb_at {p : PrsD} {k : Nat} (h : k < p.webs.length) : errWb p k = errV p.webs[k] (idsN p k) := by
  unfold errWb
  have : p.webs.getD k web0 = p.webs[k] := by simp [h]
  rw [this]
theorem erW_right {l : List ReelD} {ids : List Int} (h : erW l ids = 0) : ∀ r ∈ l, ReelOk r := by
  intro r hr
  obtain ⟨k, hk, rfl⟩ := List.getElem_of_mem hr
  have he := firstErr_zero h k hk
  rw [errA_at hk rfl rfl rfl] at he
  by_cases hb : rightB l[k] = false
  · rw [if_pos hb] at he; cases he
  · exact right_ok (by simpa using hb)
theorem prs_ok {p : PrsD} (h : errP p = 0) : PrsOk p := by
  unfold errP at h
  split at h
  · cases h
  · rename_i h1
    split at h
    · cases h
    · rename_i h2
      simp only [Bool.or_eq_true, not_or, Bool.not_eq_true', Bool.not_eq_true, Bool.not_eq_false'] at h1 h2
      have a := inB_iff.1 (by simpa using h1.1)
      have b := inB_iff.1 (by simpa using h2.1)
      have c := inB_iff.1 (by simpa using h2.2)
      refine ⟨b.1, b.2, c.1, c.2, by omega, by omega, fun v hv => ?_⟩
      obtain ⟨k, hk, rfl⟩ := List.getElem_of_mem hv
      have he := firstErr_zero h k hk
      rw [errWb_at hk] at he
      have hn := List.any_eq_false.1 h1.2 p.webs[k] (List.getElem_mem hk)
      unfold errV at he
      split at he
      · cases he
      · rename_i h3
        simp only [Bool.or_eq_true, not_or, Bool.not_eq_true', Bool.not_eq_true, Bool.not_eq_false'] at h3
        have d := inB_iff.1 (by simpa using h3.1)
        have e := inB_iff.1 (by simpa using h3.2.1)
        have f := inB_iff.1 (by simpa using h3.2.2)
        exact ⟨by simpa using hn, d.1, d.2, e.1, e.2, f.1, f.2, erW_right he⟩
end Go.Rl
namespace Go.Proofs.Ytnbnfadmbggfnaa
open Go.RowKit Go.Fh Go.Rl
set_option maxRecDepth 20000 in
set_option maxHeartbeats 4000000 in
theorem cl86_any (v : WebD) (vA : Option Addr) (vc : Nat) (w : World) : Calls Try.prog 86 #[.agg #[.slice vA v.reels.length vc, .int .i64 v.off, .int .i64 v.bef, .int .i64 v.aft]] w fun e w' => e = .returned (.bool (decide (20 < v.reels.length))) ∧ Hid (Below w.heap.size w w') := by
  obtain ⟨b, hb⟩ : ∃ b, b = decide (20 < v.reels.length) := ⟨_, rfl⟩
  have hd : decide ((20 : Int) < (v.reels.length : Int)) = b := by rw [hb]; by_cases h : 20 < v.reels.length <;> simp [h] <;> omega
  have hd2 : decide (20 < v.reels.length) = b := hb.symm
  rw [← hb]
  clear hb
  cases b
  all_goals
    go_enter Try.func86, Try.ntmps86
    go_wp2_with fail
    go_ret
    exact ⟨by simp [hd2], Lib.hid (balR (Below.refl _ _) _)⟩
set_option maxRecDepth 20000 in
set_option maxHeartbeats 4000000 in
theorem many_idx (A : Option Addr) (c m : Nat) (ms : List WebM) (p : PrsD) (w : World) (hT : PrsAt w w.heap.size p A ms) (hm : m = ms.length) (hm9 : m ≤ 1000000) :
    Calls Try.prog 103 #[.slice A m c, .func (.func 86) #[] #[]] w fun e w' => ∃ i : Int, e = .returned (.int .i64 i) ∧ Hid (decide (0 ≤ i) = p.webs.any (fun v => decide (20 < v.reels.length))) ∧ Hid (Below w.heap.size w w') := by
  have HT := Lib.hid (fun W (hb : Below w.heap.size w W) => hT.step hb)
  have HM := Lib.hid hm
  have HML := Lib.hid (show m = p.webs.length by rw [hm, hT.len])
  clear hT hm
  go_enter Try.func103, Try.ntmps103
  go_wp2_with fail
  go_loopw [8] (fun u wr => ∃ k : Nat, k ≤ m ∧ u = .int .i64 (k : Int) ∧ Hid (∀ j (h : j < p.webs.length), j < k → decide (20 < p.webs[j].reels.length) = false) ∧ Hid (Below w.heap.size w wr)) (fun u _ => m - (intOf u).toNat)
  case atStart => exact ⟨0, Nat.zero_le _, rfl, Lib.hid (fun j h h0 => by omega), Below.refl _ _⟩
  case round =>
    obtain ⟨k, hk, rfl, HJ, HB⟩ := hrel
    by_cases hlt : k < m
    · have hkm : k < ms.length := by have := HM.out; omega
      have hkp : k < p.webs.length := by have := HML.out; omega
      have hT2 := HT.out wr HB.out
      obtain ⟨b, off, hba, hbb, c0, c1, c2, c3⟩ := web_at hT2.cW hkm
      subst hba
      have hwe : ms[k].1 = p.webs[k] := by
        have h1 : (ms.map (·.1))[k]'(by simpa using hkm) = p.webs[k] := List.getElem_of_eq hT2.eq _
        rw [List.getElem_map] at h1; exact h1
      obtain ⟨⟨v, vA, vc⟩, hv⟩ : ∃ v, v = ms[k] := ⟨_, rfl⟩
      rw [← hv] at c0 c1 c2 c3 hwe
      dsimp only at c0 c1 c2 c3 hwe
      obtain ⟨q, hq⟩ : ∃ q, q = decide (20 < v.reels.length) := ⟨_, rfl⟩
      have H86 := Lib.hid (show ∀ W, Calls Try.prog 86 #[.agg #[.slice vA v.reels.length vc, .int .i64 v.off, .int .i64 v.bef, .int .i64 v.aft]] W fun e w' => e = .returned (.bool q) ∧ Hid (Below W.heap.size W w') from fun W => by rw [hq]; exact cl86_any v vA vc W)
      have HQ := Lib.hid (show q = decide (20 < p.webs[k].reels.length) by rw [hq, hwe])
      have i0 : (0 : Int) ≤ (k : Int) := by omega
      have i1 : (k : Int) < (m : Int) := by omega
      clear hv hwe hq hT2
      cases q
      · go_wp2_with (go_at_call 86; with_reducible refine (H86.out _).mono ?_; rintro e w5 ⟨rfl, hb5⟩; have HB5 := Lib.hid (HB.out.trans (hb5.out.mono HB.out.size)); clear hb5)
        go_roundw
        case rel => exact ⟨k + 1, by omega, by go_num, Lib.hid (fun j h h0 => by
          by_cases e : j = k
          · subst e; exact HQ.out.symm
          · exact HJ.out j h (by omega)), HB5⟩
        case measure => simp [intOf]; omega
      · go_wp2_with (go_at_call 86; with_reducible refine (H86.out _).mono ?_; rintro e w5 ⟨rfl, hb5⟩; have HB5 := Lib.hid (HB.out.trans (hb5.out.mono HB.out.size)); clear hb5)
        go_ret
        exact ⟨(k : Int), rfl, Lib.hid (by
          have : p.webs.any (fun v => decide (20 < v.reels.length)) = true := List.any_eq_true.2 ⟨p.webs[k], List.getElem_mem hkp, HQ.out.symm⟩
          rw [this]; simp), HB5⟩
    · obtain rfl : k = m := by omega
      go_wp2_with fail
      go_ret
      exact ⟨-1, rfl, Lib.hid (by
        have : p.webs.any (fun v => decide (20 < v.reels.length)) = false := by
          rw [List.any_eq_false]
          intro v hv
          obtain ⟨j, hj, rfl⟩ := List.getElem_of_mem hv
          have := HJ.out j hj (by have := HML.out; omega)
          simpa using this
        rw [this]; rfl), HB⟩
set_option maxRecDepth 20000 in
set_option maxHeartbeats 4000000 in
theorem many_any (A : Option Addr) (c m : Nat) (ms : List WebM) (p : PrsD) (w : World) (hT : PrsAt w w.heap.size p A ms) (hm : m = ms.length) (hm9 : m ≤ 1000000) :
    Calls Try.prog 64 #[.slice A m c, .func (.func 86) #[] #[]] w fun e w' => e = .returned (.bool (p.webs.any (fun v => decide (20 < v.reels.length)))) ∧ Hid (Below w.heap.size w w') := by
  have H := Lib.hid (many_idx A c m ms p w hT hm hm9)
  obtain ⟨b, hb⟩ : ∃ b, b = p.webs.any (fun v => decide (20 < v.reels.length)) := ⟨_, rfl⟩
  rw [← hb] at H ⊢
  clear hT hm hm9 hb
  go_enter Try.func64, Try.ntmps64
  go_wp2_with (go_at_call 103; with_reducible refine H.out.mono ?_; rintro e w' ⟨i, rfl, HI, HB⟩)
  go_ret
  exact ⟨ret_bool HI.out, HB⟩
set_option maxRecDepth 20000 in
set_option maxHeartbeats 4000000 in
theorem check_any (p : PrsD) (A : Option Addr) (c m : Nat) (ms : List WebM) (w : World) (hT : PrsAt w w.heap.size p A ms) (hm : m = ms.length) (hm9 : m ≤ 1000000) :
    Calls Try.prog 39 #[.agg #[.int .i64 p.cut, .int .i64 p.margin, .slice A m c]] w fun e w' => e = .returned (.int .i64 (errP p)) ∧ Hid (Below w.heap.size w w') := by
  obtain ⟨w1, gT, HW1, HGT, HB1, HTB⟩ := prs_box p A c m ms w hT
  obtain ⟨hT1, r0, r1, r2⟩ := HTB.out w1 (Below.refl _ _)
  have hml : m = p.webs.length := by rw [hm, hT.len]
  obtain ⟨b1, hb1⟩ : ∃ b, b = inB p.webs.length 1 6 := ⟨_, rfl⟩
  obtain ⟨b2, hb2⟩ : ∃ b, b = p.webs.any (fun v => decide (20 < v.reels.length)) := ⟨_, rfl⟩
  obtain ⟨b3, hb3⟩ : ∃ b, b = inB p.cut 300 1500 := ⟨_, rfl⟩
  obtain ⟨b4, hb4⟩ : ∃ b, b = inB p.margin 0 20 := ⟨_, rfl⟩
  have HE := Lib.hid (show errP p = if !b1 || b2 then 2 else if !b3 || !b4 then 6 else firstErr (errWb p) m by rw [hb1, hb2, hb3, hb4, hml]; rfl)
  have H1 := Lib.hid (show ∀ W, Calls Try.prog 48 #[.int .i64 (m : Int), .int .i64 1, .int .i64 6] W fun e w' => e = .returned (.bool b1) ∧ W = w' from fun W => by rw [hb1, hml]; exact within_any _ _ _ _)
  have H2 := Lib.hid (show ∀ W, Below w1.heap.size w1 W → Calls Try.prog 64 #[.slice A m c, .func (.func 86) #[] #[]] W fun e w' => e = .returned (.bool b2) ∧ Hid (Below W.heap.size W w') from fun W hb => by rw [hb2]; exact many_any A c m ms p W (HTB.out W hb).1 hm hm9)
  have H3 := Lib.hid (show ∀ W, Calls Try.prog 48 #[.int .i64 p.cut, .int .i64 300, .int .i64 1500] W fun e w' => e = .returned (.bool b3) ∧ W = w' from fun W => by rw [hb3]; exact within_any _ _ _ _)
  have H4 := Lib.hid (show ∀ W, Calls Try.prog 48 #[.int .i64 p.margin, .int .i64 0, .int .i64 20] W fun e w' => e = .returned (.bool b4) ∧ W = w' from fun W => by rw [hb4]; exact within_any _ _ _ _)
  have HL20 := Lib.hid (show b2 = false → ∀ j (h : j < p.webs.length), p.webs[j].reels.length ≤ 1000 from fun h j hj => by
    rw [h] at hb2
    have := List.any_eq_false.1 hb2.symm p.webs[j] (List.getElem_mem hj)
    simp at this
    omega)
  obtain ⟨er, her⟩ : ∃ e, e = errP p := ⟨_, rfl⟩
  rw [← her] at HE ⊢
  have HT1 := Lib.hid hT1
  have HM := Lib.hid hm
  have HML := Lib.hid hml
  clear hT hT1 hm hml hb1 hb2 hb3 hb4 her
  cases b1
  · skip
    have HER := Lib.hid (show er = 2 by rw [HE.out]; rfl)
    go_enter Try.func39, Try.ntmps39
    go_upto_region 1 with fail
    rw [← HW1.out, ← HGT.out]
    go_wp2_with (go_at_call 48; with_reducible refine (H1.out _).mono ?_; rintro e w2 ⟨rfl, rfl⟩)
    go_ret
    exact ⟨by rw [HER.out]; rfl, HB1⟩
  · cases b2
    · have HLX := Lib.hid (HL20.out (by trivial))
      clear HL20
      by_cases h34 : b3 = true ∧ b4 = true
      · skip
        obtain ⟨rfl, rfl⟩ := h34
        have HER := Lib.hid (show er = firstErr (errWb p) m by rw [HE.out]; rfl)
        clear HE
        go_enter Try.func39, Try.ntmps39
        go_upto_region 1 with fail
        rw [← HW1.out, ← HGT.out]
        go_upto_region 5 with first
          | (go_at_call 48; with_reducible refine (H1.out _).mono ?_; rintro e w2 ⟨rfl, rfl⟩)
          | (go_at_call 48; with_reducible refine (H3.out _).mono ?_; rintro e w2 ⟨rfl, rfl⟩)
          | (go_at_call 48; with_reducible refine (H4.out _).mono ?_; rintro e w2 ⟨rfl, rfl⟩)
          | (go_at_call 64; with_reducible refine (H2.out _ (Below.refl _ _)).mono ?_; rintro e w2 ⟨rfl, HB2⟩; clear r0 r1 r2; obtain ⟨-, r0, r1, r2⟩ := HTB.out w2 HB2.out)
        obtain ⟨w3, hw3⟩ : ∃ W, W = w2.alloc (.map #[] 0) := ⟨_, rfl⟩
        obtain ⟨gM, hgM⟩ : ∃ g, g = w2.heap.size := ⟨_, rfl⟩
        have HM3 := Lib.hid (show MapIs eI eB w3 gM [] from by rw [hw3, hgM]; exact MapIs.new _ _ _)
        have hgM1 : w1.heap.size ≤ gM := by rw [hgM]; exact HB2.out.size
        have HB3 := Lib.hid (show Below w1.heap.size w1 w3 from by rw [hw3]; exact HB2.out.alloc HB2.out.size _)
        have HW3 := Lib.hid hw3
        have HGM := Lib.hid hgM
        have hmm := @run_makeMap Try.prog
        clear hw3 hgM
        go_upto_region 6 with fail
        rw [← HW3.out, ← HGM.out]
        clear hmm
        clear r0 r1 r2
        obtain ⟨-, r0, r1, r2⟩ := HTB.out w3 HB3.out
        go_wp2_with fail
        go_loopw [31] (fun u wr => ∃ (k : Nat) (mk : List (Int × Bool)), k ≤ m ∧ u = .int .i64 (k : Int) ∧ Hid (firstErr (errWb p) k = 0) ∧ Hid (MapIs eI eB wr gM mk) ∧ Hid (MetIs mk (idsN p k)) ∧ Hid (Below w1.heap.size w1 wr)) (fun u _ => m - (intOf u).toNat)
        case atStart => exact ⟨0, [], Nat.zero_le _, rfl, Lib.hid rfl, HM3, Lib.hid MetIs.nil, HB3⟩
        case round =>
          obtain ⟨k, mk, hk, rfl, HF, HMK, HRK, HB⟩ := hrel
          by_cases hlt : k < m
          · have hkm : k < ms.length := by have := HM.out; omega
            have hkp : k < p.webs.length := by have := HML.out; omega
            have hT2 := (HTB.out wr HB.out).1
            obtain ⟨b, off, hba, hbb, c0, c1, c2, c3⟩ := web_at hT2.cW hkm
            subst hba
            have hwe : ms[k].1 = p.webs[k] := by
              have h1 : (ms.map (·.1))[k]'(by simpa using hkm) = p.webs[k] := List.getElem_of_eq hT2.eq _
              rw [List.getElem_map] at h1; exact h1
            have hcr := HT1.out.cR k hkm
            have hln := HLX.out k hkp
            have hea := errWb_at hkp
            have hids := idsN_s hkp
            have hstop := fun hf => firstErr_stop (f := errWb p) (m := m) HF.out hf hlt
            have hgo := fun hf => firstErr_go (f := errWb p) HF.out hf
            rw [← hwe] at hln hea hids
            obtain ⟨⟨v, vA, vc⟩, hv⟩ : ∃ v, v = ms[k] := ⟨_, rfl⟩
            rw [← hv] at c0 c1 c2 c3 hcr hln hea hids
            dsimp only at c0 c1 c2 c3 hcr hln hea hids
            obtain ⟨q1, hq1⟩ : ∃ b, b = inB v.off 0 200000 := ⟨_, rfl⟩
            obtain ⟨q2, hq2⟩ : ∃ b, b = inB v.bef 0 5000 := ⟨_, rfl⟩
            obtain ⟨q3, hq3⟩ : ∃ b, b = inB v.aft 0 5000 := ⟨_, rfl⟩
            have hev : errWb p k = if !q1 || (!q2 || !q3) then 6 else erW v.reels (idsN p k) := by rw [hea, hq1, hq2, hq3]; rfl
            have Q1 := Lib.hid (show ∀ W, Calls Try.prog 48 #[.int .i64 v.off, .int .i64 0, .int .i64 200000] W fun e w' => e = .returned (.bool q1) ∧ W = w' from fun W => by rw [hq1]; exact within_any _ _ _ _)
            have Q2 := Lib.hid (show ∀ W, Calls Try.prog 48 #[.int .i64 v.bef, .int .i64 0, .int .i64 5000] W fun e w' => e = .returned (.bool q2) ∧ W = w' from fun W => by rw [hq2]; exact within_any _ _ _ _)
            have Q3 := Lib.hid (show ∀ W, Calls Try.prog 48 #[.int .i64 v.aft, .int .i64 0, .int .i64 5000] W fun e w' => e = .returned (.bool q3) ∧ W = w' from fun W => by rw [hq3]; exact within_any _ _ _ _)
            obtain ⟨g5, hg5⟩ : ∃ g, g = wr.heap.size := ⟨_, rfl⟩
            obtain ⟨w5, hw5⟩ : ∃ W, W = wr.alloc (.cells #[.slice vA v.reels.length vc, .int .i64 v.off, .int .i64 v.bef, .int .i64 v.aft] 41) := ⟨_, rfl⟩
            have k5 : Blk w5 g5 41 #[.slice vA v.reels.length vc, .int .i64 v.off, .int .i64 v.bef, .int .i64 v.aft] := by rw [hw5, hg5]; exact Blk.new _ _ _
            have hb15 : Below w1.heap.size w1 w5 := by rw [hw5]; exact HB.out.alloc HB.out.size _
            have hm5 : MapIs eI eB w5 gM mk := by rw [hw5]; exact HMK.out.alloc _
            have H87 := Lib.hid (reels_any v.reels vA vc w1.heap.size gM mk (idsN p k) w5 hln (hcr.below hb15) hgM1 hb15.size hm5 HRK.out)
            have a0 := k5.cell 0
            have a1 := k5.cell 1
            have a2 := k5.cell 2
            have a3 := k5.cell 3
            simp at a0 a1 a2 a3
            have HB5 := Lib.hid hb15
            obtain ⟨e2, he2⟩ : ∃ e, e = erW v.reels (idsN p k) := ⟨_, rfl⟩
            rw [← he2] at hev H87
            have HEV := Lib.hid hev
            have HST := Lib.hid hstop
            have HGO := Lib.hid hgo
            have HIDS := Lib.hid hids
            have HW5 := Lib.hid hw5
            have HG5 := Lib.hid hg5
            have i0 : (0 : Int) ≤ (k : Int) := by omega
            have i1 : (k : Int) < (m : Int) := by omega
            clear hT2 hwe hcr hln hea hids hstop hgo hv hq1 hq2 hq3 hev hg5 hw5 k5 hb15 hm5 he2
            go_upto_region 9 with fail
            rw [← HW5.out, ← HG5.out]
            clear c0 c1 c2 c3
            by_cases hq : q1 = true ∧ q2 = true ∧ q3 = true
            · obtain ⟨rfl, rfl, rfl⟩ := hq
              have HE2 := Lib.hid (show errWb p k = e2 by rw [HEV.out]; rfl)
              by_cases hz : e2 = 0
              · have hz0 : (e2 != 0) = false := by simp [hz]
                have HZ := Lib.hid hz
                clear hz
                go_wp2_with first
                  | (go_at_call 48; with_reducible refine (Q1.out _).mono ?_; rintro e wz ⟨rfl, rfl⟩)
                  | (go_at_call 48; with_reducible refine (Q2.out _).mono ?_; rintro e wz ⟨rfl, rfl⟩)
                  | (go_at_call 48; with_reducible refine (Q3.out _).mono ?_; rintro e wz ⟨rfl, rfl⟩)
                  | (go_at_call 87; with_reducible refine H87.out.mono ?_; rintro e w6 ⟨rfl, HM6, HG6⟩)
                go_roundw
                case rel =>
                  obtain ⟨m', hm', hr'⟩ := HM6.out HZ.out
                  exact ⟨k + 1, m', by omega, by go_num, Lib.hid (HGO.out (by rw [HE2.out]; exact HZ.out)), Lib.hid hm', Lib.hid (by rw [HIDS.out]; exact hr'), Lib.hid (HB5.out.grown HG6.out HB5.out.size (fun j e => by injection e with e; omega))⟩
                case measure => simp [intOf]; omega
              · have hz0 : (e2 != 0) = true := by simpa using hz
                have HZ := Lib.hid (show er = e2 by rw [HER.out, HST.out (by rw [HE2.out]; exact hz), HE2.out])
                clear hz
                go_wp2_with first
                  | (go_at_call 48; with_reducible refine (Q1.out _).mono ?_; rintro e wz ⟨rfl, rfl⟩)
                  | (go_at_call 48; with_reducible refine (Q2.out _).mono ?_; rintro e wz ⟨rfl, rfl⟩)
                  | (go_at_call 48; with_reducible refine (Q3.out _).mono ?_; rintro e wz ⟨rfl, rfl⟩)
                  | (go_at_call 87; with_reducible refine H87.out.mono ?_; rintro e w6 ⟨rfl, HM6, HG6⟩)
                go_ret
                exact ⟨by rw [HZ.out]; rfl, Lib.hid (HB1.out.trans ((HB5.out.grown HG6.out HB5.out.size (fun j e => by injection e with e; omega)).mono HB1.out.size))⟩
            · have hor : (!q1 || (!q2 || !q3)) = true := by cases q1 <;> cases q2 <;> cases q3 <;> simp_all
              have he6 : errWb p k = 6 := by rw [HEV.out, hor]; rfl
              have HZ := Lib.hid (show er = 6 by rw [HER.out, HST.out (by rw [he6]; decide), he6])
              clear hq he6
              cases q1 <;> cases q2 <;> cases q3
              all_goals
                first
                | (exfalso; revert hor; decide)
                | (go_wp2_with first
                     | (go_at_call 48; with_reducible refine (Q1.out _).mono ?_; rintro e wz ⟨rfl, rfl⟩)
                     | (go_at_call 48; with_reducible refine (Q2.out _).mono ?_; rintro e wz ⟨rfl, rfl⟩)
                     | (go_at_call 48; with_reducible refine (Q3.out _).mono ?_; rintro e wz ⟨rfl, rfl⟩)
                   go_ret
                   exact ⟨by rw [HZ.out]; rfl, Lib.hid (HB1.out.trans (HB5.out.mono HB1.out.size))⟩)
          · obtain rfl : k = m := by omega
            have HZ := Lib.hid (show er = 0 by rw [HER.out, HF.out])
            go_wp2_with fail
            go_ret
            exact ⟨by rw [HZ.out]; rfl, Lib.hid (HB1.out.trans (HB.out.mono HB1.out.size))⟩
      · skip
        have hor : (!b3 || !b4) = true := by cases b3 <;> cases b4 <;> simp_all
        have HER := Lib.hid (show er = 6 by rw [HE.out, hor]; rfl)
        clear h34 HE
        cases b3
        all_goals
          cases b4
          all_goals
            first
            | (exfalso; revert hor; decide)
            | (go_enter Try.func39, Try.ntmps39
               go_upto_region 1 with fail
               rw [← HW1.out, ← HGT.out]
               go_wp2_with first
                 | (go_at_call 48; with_reducible refine (H1.out _).mono ?_; rintro e w2 ⟨rfl, rfl⟩)
                 | (go_at_call 48; with_reducible refine (H3.out _).mono ?_; rintro e w2 ⟨rfl, rfl⟩)
                 | (go_at_call 48; with_reducible refine (H4.out _).mono ?_; rintro e w2 ⟨rfl, rfl⟩)
                 | (go_at_call 64; with_reducible refine (H2.out _ (Below.refl _ _)).mono ?_; rintro e w2 ⟨rfl, HB2⟩; clear r0 r1 r2; obtain ⟨-, r0, r1, r2⟩ := HTB.out w2 HB2.out)
               go_ret
               exact ⟨by rw [HER.out]; rfl, Lib.hid (HB1.out.trans (HB2.out.mono HB1.out.size))⟩)
    · skip
      have HER := Lib.hid (show er = 2 by rw [HE.out]; rfl)
      go_enter Try.func39, Try.ntmps39
      go_upto_region 1 with fail
      rw [← HW1.out, ← HGT.out]
      go_wp2_with first
        | (go_at_call 48; with_reducible refine (H1.out _).mono ?_; rintro e w2 ⟨rfl, rfl⟩)
        | (go_at_call 64; with_reducible refine (H2.out _ (Below.refl _ _)).mono ?_; rintro e w2 ⟨rfl, HB2⟩)
      go_ret
      exact ⟨by rw [HER.out]; rfl, Lib.hid (HB1.out.trans (HB2.out.mono HB1.out.size))⟩
end Go.Proofs.Ytnbnfadmbggfnaa
