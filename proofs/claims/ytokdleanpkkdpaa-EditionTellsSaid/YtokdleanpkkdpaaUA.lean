/- Contracts of the reference's inTime and Latest; conditions: a title in memory. Printed by a program. -/
import Derived.Test.YtokdleanpkkdpaaU9
set_option linter.unusedSimpArgs false
set_option linter.unusedVariables false
namespace Go.Proofs.Ytokdleanpkkdpaa
open Go.RowKit Go.Fh Go.Ed
set_option maxRecDepth 20000 in
set_option maxHeartbeats 4000000 in
theorem rIn104_any (t : TitD) (x : TA) (zs : List ZonM) (w : World) (hs : Sizes t) (hT : TitAt w w.heap.size t x zs) (A : Option Addr) (c : Nat) (o : List Nat) (hch : ChkOk t) (hol : o.length ≤ 100) (hlt : ∀ e ∈ o, e < (edsR t).length) (hA : Sl encInt 1 w w.heap.size A (o.map fun (e : Nat) => (e : Int))) :
    Calls Try.prog 104 #[.agg (titV t x), .slice A o.length c] w fun e w' => e = .returned (.bool (!(runE t (edsR t) o).2.2)) ∧ Below w.heap.size w w' := by
  obtain ⟨w1, gT, HW1, HGT, HB1, HTB⟩ := tit_box t x zs w hT
  obtain ⟨hT1, r0, r1, r2, r3, r4, r5, r6, r7⟩ := HTB.out w1 (Below.refl _ _)
  have HLT := Lib.hid hlt
  obtain ⟨N, hN⟩ : ∃ n, n = (edsR t).length := ⟨_, rfl⟩
  have HNN := Lib.hid hN
  have HRE := Lib.hid (show ∀ W, Below w1.heap.size w1 W → Calls Try.prog 96 #[.agg (titV t x)] W fun e w' => ∃ (A : Option Addr) (c : Nat) (es : List EdM), e = .returned (.slice A N c) ∧ N = es.length ∧ RefAt w' W.heap.size t A c es ∧ Below W.heap.size W w' from fun W hb => (reds_any t x zs W hs (HTB.out W hb).1 hch.rgt).mono (by
    rintro e w' ⟨A, c, es, rfl, hr, hb⟩
    exact ⟨A, c, es, by rw [hr.len, hN], by rw [hr.len, hN], hr, hb⟩))
  have HSL := Lib.hid (show ∀ W (B : Nat) (A2 : Option Addr) (c2 : Nat) (es : List EdM), Below w1.heap.size w1 W → N = es.length → RefAt W B t A2 c2 es → Calls Try.prog 100 #[.agg (titV t x), .slice A2 N c2, .slice A o.length c] W fun e w' => ∃ A' c', e = .returned (.slice A' o.length c') ∧ w'.ownsRow W.heap.size 106 4 (.slice A' o.length c') o.length ((slotsD t (edsR t) o).flatMap encSlo) ∧ Below W.heap.size W w' from fun W B A2 c2 es hb hn hr => by
    have hb2 := HB1.out.trans (hb.mono HB1.out.size)
    rw [hn]
    exact rslots_any t hch x zs B A2 c2 es A c o W hs (HTB.out W hb).1 hr (by omega) hlt ((hA.below hb2).mono hb2.size))
  have HLL := Lib.hid (show (slotsD t (edsR t) o).length = o.length from by unfold slotsD; rw [upF_len])
  clear hT hT1 hs hch hA hlt hN
  unfold titV at *
  go_enter Try.func104, Try.ntmps104
  go_upto_region 1 with fail
  rw [← HW1.out, ← HGT.out]
  go_wp2_with first
    | (go_at_call 96; refine (HRE.out _ (Below.refl _ _)).mono ?_; rintro e w2 ⟨A3, c3, es, rfl, hn, hr3, hb2⟩; have HB2 := Lib.hid hb2; have HR2 := Lib.hid hr3; have HNE := Lib.hid hn; clear hb2 hr3 hn; clear r0 r1 r2 r3 r4 r5 r6 r7; obtain ⟨-, r0, r1, r2, r3, r4, r5, r6, r7⟩ := HTB.out _ HB2.out)
    | (go_at_call 100; refine (HSL.out _ _ _ _ _ HB2.out HNE.out HR2.out).mono ?_; rintro e w3 ⟨A2, c2, rfl, ho2, hb3⟩; have HB3 := Lib.hid hb3; have HO2 := Lib.hid ho2; have HR3 := Lib.hid (HR2.out.below hb3); clear hb3 ho2)
  have HS3 := Lib.hid (show Sl encSlo 4 w3 w3.heap.size A2 (slotsD t (edsR t) o) from by
    have h1 := HO2.out
    rw [← HLL.out] at h1
    exact Sl.of_own (enc := encSlo) (fun _ => rfl) h1)
  have HB13 := Lib.hid (HB1.out.trans ((HB2.out.trans (HB3.out.mono HB2.out.size)).mono HB1.out.size))
  clear r0 r1 r2 r3 r4 r5 r6 r7
  go_loopw [7] (fun i wr => ∃ q : Nat, q ≤ o.length ∧ i = .int .i64 q ∧ Hid (∀ j, j < q → lateAt t (edsR t) o j = false) ∧ Hid (Below w3.heap.size w3 wr)) (fun i _ => o.length - (intOf i).toNat)
  case atStart => exact ⟨0, Nat.zero_le _, rfl, Lib.hid fun j hj => absurd hj (by omega), Below.refl _ _⟩
  case round =>
    obtain ⟨q, hq, rfl, HQ, HB⟩ := hrel
    by_cases hlt : q < o.length
    · have hql : q < (slotsD t (edsR t) o).length := by rw [HLL.out]; exact hlt
      obtain ⟨sb, so, hsa, hsb, c0, c1, c2, c3⟩ := slo_at (HS3.out.below HB.out) hql
      subst hsa
      have hsq : (slotsD t (edsR t) o)[q] = slotAt t (edsR t) o q := by simp [slotsD, upF]
      rw [hsq] at c0 c1 c2 c3
      rw [slotAt_ed t (edsR t) o hlt] at c0
      have hoq := HLT.out o[q] (List.getElem_mem hlt)
      obtain ⟨en, hen⟩ : ∃ e, e = o[q] := ⟨_, rfl⟩
      rw [← hen] at c0 hoq
      have hek : en < es.length := by rw [← HNE.out, HNN.out]; exact hoq
      obtain ⟨eb', eo, hka, heb, d0, d1, d2, d3, d4⟩ := Sl.atEd (HR3.out.below HB.out).hE hek
      subst hka
      have hdu : es[en].1.due = ((edsR t).getD en ed0).due := by
        have h1 : (es.map (·.1))[en]'(by simpa using hek) = es[en].1 := by simp
        rw [← h1]
        simp only [HR3.out.eds]
        simp [hoq]
      have hlb : lateAt t (edsR t) o q = decide (((edsR t).getD en ed0).due < (slotAt t (edsR t) o q).fin) := by
        unfold lateAt lateB
        rw [slotAt_ed t (edsR t) o hlt, ← hen]
        rfl
      rw [hdu] at d3
      obtain ⟨du, hdue⟩ : ∃ d, d = ((edsR t).getD en ed0).due := ⟨_, rfl⟩
      obtain ⟨fi, hfi⟩ : ∃ d, d = (slotAt t (edsR t) o q).fin := ⟨_, rfl⟩
      rw [← hdue] at d3 hlb
      rw [← hfi] at c3 hlb
      have i0 : (0 : Int) ≤ (q : Int) := by omega
      have i1 : (q : Int) < (o.length : Int) := by omega
      have i2 : (0 : Int) ≤ (en : Int) := by omega
      have i3 : (en : Int) < (N : Int) := by have := HNN.out; omega
      clear hql hsq hen hoq hek hdu hdue hfi c1 c2 d0 d1 d2 d4
      cases hlate : lateAt t (edsR t) o q
      · rw [hlate] at hlb
        have hd : decide (du < fi) = false := hlb.symm
        have HLA := Lib.hid hlate
        clear hlb hlate
        go_upto_region 6 with fail
        go_quiet (fail)
        go_wp2_with fail
        go_roundw
        case rel =>
          refine ⟨q + 1, by omega, by go_num, Lib.hid fun j hj => ?_, Lib.hid (below_drewN HB.out _)⟩
          by_cases e : j = q
          · rw [e]; exact HLA.out
          · exact HQ.out j (by omega)
        case measure => simp [intOf]; omega
      · rw [hlate] at hlb
        have hd : decide (du < fi) = true := hlb.symm
        have hrn : (runE t (edsR t) o).2.2 = true := by
          cases hr : (runE t (edsR t) o).2.2
          · have := (late_run t (edsR t) o).1 hr q hlt
            rw [hlate] at this; cases this
          · rfl
        have HRN := Lib.hid hrn
        clear hlb hlate hrn
        go_upto_region 6 with fail
        go_quiet (fail)
        go_wp2_with fail
        go_ret
        exact ⟨by rw [HRN.out]; rfl, HB13.out.trans ((below_drewN HB.out _).mono HB13.out.size)⟩
    · obtain rfl : q = o.length := by omega
      go_wp2_with fail
      go_ret
      exact ⟨by rw [(late_run t (edsR t) o).2 fun i hi => HQ.out i hi]; rfl, HB13.out.trans (HB.out.mono HB13.out.size)⟩
set_option maxRecDepth 20000 in
set_option maxHeartbeats 4000000 in
theorem rLatest_bad (t : TitD) (x : TA) (zs : List ZonM) (w : World) (hs : Sizes t) (hT : TitAt w w.heap.size t x zs) (A : Option Addr) (c : Nat) (l : List Int) (p v : Int) (hc : checkT t ≠ 0) :
    Calls Try.prog 55 #[.agg (titV t x), .slice A l.length c, .int .i64 p, .int .i64 v] w fun e w' => e = .returned (.tuple #[.int .i64 0, .int .i64 (checkT t)]) ∧ Below w.heap.size w w' := by
  obtain ⟨w1, gT, HW1, HGT, HB1, HTB⟩ := tit_box t x zs w hT
  obtain ⟨hT1, r0, r1, r2, r3, r4, r5, r6, r7⟩ := HTB.out w1 (Below.refl _ _)
  have HCK := Lib.hid (rSlots_bad t x zs w1 hs hT1 A c l hc)
  obtain ⟨ck, hck⟩ : ∃ c, c = checkT t := ⟨_, rfl⟩
  rw [← hck] at HCK hc ⊢
  have ht : (ck == 0) = false := by simpa using hc
  clear hT hT1 hs hc hck
  unfold titV at *
  go_enter Try.func55, Try.ntmps55
  go_upto_region 1 with fail
  rw [← HW1.out, ← HGT.out]
  go_wp2_with (go_at_call 48; refine HCK.out.mono ?_; rintro e w2 ⟨rfl, hb2⟩; have HB2 := Lib.hid hb2; clear hb2)
  go_ret2
  exact ⟨rfl, HB1.out.trans (HB2.out.mono HB1.out.size)⟩
set_option maxRecDepth 20000 in
set_option maxHeartbeats 4000000 in
theorem rLatest_arg (t : TitD) (x : TA) (zs : List ZonM) (w : World) (hs : Sizes t) (hT : TitAt w w.heap.size t x zs) (A : Option Addr) (c : Nat) (l : List Int) (p v : Int) (hl : l.length ≤ 1000000000) (hA : Sl encInt 1 w w.heap.size A l) (hc : checkT t = 0) (ho : ordersB (edsR t).length l = false) :
    Calls Try.prog 55 #[.agg (titV t x), .slice A l.length c, .int .i64 p, .int .i64 v] w fun e w' => e = .returned (.tuple #[.int .i64 0, .int .i64 1]) ∧ Below w.heap.size w w' := by
  obtain ⟨w1, gT, HW1, HGT, HB1, HTB⟩ := tit_box t x zs w hT
  obtain ⟨hT1, r0, r1, r2, r3, r4, r5, r6, r7⟩ := HTB.out w1 (Below.refl _ _)
  have HCK := Lib.hid (rSlots_arg t x zs w1 hs hT1 A c l hl ((hA.below HB1.out).mono HB1.out.size) hc ho)
  clear hT hT1 hs hc hA ho
  unfold titV at *
  go_enter Try.func55, Try.ntmps55
  go_upto_region 1 with fail
  rw [← HW1.out, ← HGT.out]
  go_wp2_with (go_at_call 48; refine HCK.out.mono ?_; rintro e w2 ⟨rfl, hb2⟩; have HB2 := Lib.hid hb2; clear hb2)
  go_ret2
  exact ⟨rfl, HB1.out.trans (HB2.out.mono HB1.out.size)⟩
set_option maxRecDepth 20000 in
set_option maxHeartbeats 4000000 in
theorem rLatest_out (t : TitD) (x : TA) (zs : List ZonM) (w : World) (hs : Sizes t) (hT : TitAt w w.heap.size t x zs) (A : Option Addr) (c : Nat) (o : List Nat) (p v : Int) (hA : Sl encInt 1 w w.heap.size A (o.map fun (e : Nat) => (e : Int))) (hc : checkT t = 0) (ho : ordersB (edsR t).length (o.map fun (e : Nat) => (e : Int)) = true) (hpv : inB p 0 ((t.colours.length : Int) - 1) = false ∨ inB v 0 9 = false) :
    Calls Try.prog 55 #[.agg (titV t x), .slice A o.length c, .int .i64 p, .int .i64 v] w fun e w' => e = .returned (.tuple #[.int .i64 0, .int .i64 1]) ∧ Below w.heap.size w w' := by
  obtain ⟨w1, gT, HW1, HGT, HB1, HTB⟩ := tit_box t x zs w hT
  obtain ⟨hT1, r0, r1, r2, r3, r4, r5, r6, r7⟩ := HTB.out w1 (Below.refl _ _)
  have HCK := Lib.hid (show Calls Try.prog 48 #[.agg (titV t x), .slice A o.length c] w1 fun e w' => ∃ A' c', e = .returned (.tuple #[.slice A' o.length c', .int .i64 0]) ∧ Below w1.heap.size w1 w' from (rSlots_ok t x zs w1 hs hT1 A c o ((hA.below HB1.out).mono HB1.out.size) hc ho).mono (by
    rintro e w' ⟨A', c', rfl, -, hb⟩
    exact ⟨A', c', rfl, hb⟩))
  have hcl := (chk_ok hc).c0
  have s1 := hs.s1
  have f1 := IntWalk.i64_in ((t.colours.length : Int) - 1) (by omega)
  clear hT hT1 hs hc hA ho
  skip
  cases h1 : inB p 0 ((t.colours.length : Int) - 1)
  · have HP := Lib.hid (show ∀ W, Calls Try.prog 94 #[.int .i64 p, .int .i64 0, .int .i64 ((t.colours.length : Int) - 1)] W fun e w' => e = .returned (.bool false) ∧ W = w' from fun W => by have := rin_any p 0 ((t.colours.length : Int) - 1) W; rw [h1] at this; exact this)
    clear h1 hpv
    unfold titV at *
    go_enter Try.func55, Try.ntmps55
    go_upto_region 1 with fail
    rw [← HW1.out, ← HGT.out]
    go_wp2_with first
      | (go_at_call 48; refine HCK.out.mono ?_; rintro e w2 ⟨A2, c2, rfl, hb2⟩; have HB2 := Lib.hid hb2; clear hb2; clear r0 r1 r2 r3 r4 r5 r6 r7; obtain ⟨-, r0, r1, r2, r3, r4, r5, r6, r7⟩ := HTB.out _ HB2.out)
      | (go_at_call 94; with_reducible refine (HP.out _).mono ?_; rintro e w3 ⟨rfl, rfl⟩)
    go_ret2
    exact ⟨rfl, HB1.out.trans (HB2.out.mono HB1.out.size)⟩
  · have h2 : inB v 0 9 = false := by
      rcases hpv with h | h
      · rw [h1] at h; cases h
      · exact h
    have HP := Lib.hid (show ∀ W, Calls Try.prog 94 #[.int .i64 p, .int .i64 0, .int .i64 ((t.colours.length : Int) - 1)] W fun e w' => e = .returned (.bool true) ∧ W = w' from fun W => by have := rin_any p 0 ((t.colours.length : Int) - 1) W; rw [h1] at this; exact this)
    have HQ := Lib.hid (show ∀ W, Calls Try.prog 94 #[.int .i64 v, .int .i64 0, .int .i64 9] W fun e w' => e = .returned (.bool false) ∧ W = w' from fun W => by have := rin_any v 0 9 W; rw [h2] at this; exact this)
    clear h1 h2 hpv
    unfold titV at *
    go_enter Try.func55, Try.ntmps55
    go_upto_region 1 with fail
    rw [← HW1.out, ← HGT.out]
    go_wp2_with first
      | (go_at_call 48; refine HCK.out.mono ?_; rintro e w2 ⟨A2, c2, rfl, hb2⟩; have HB2 := Lib.hid hb2; clear hb2; clear r0 r1 r2 r3 r4 r5 r6 r7; obtain ⟨-, r0, r1, r2, r3, r4, r5, r6, r7⟩ := HTB.out _ HB2.out)
      | (go_at_call 94; with_reducible refine (HP.out _).mono ?_; rintro e w3 ⟨rfl, rfl⟩)
      | (go_at_call 94; with_reducible refine (HQ.out _).mono ?_; rintro e w3 ⟨rfl, rfl⟩)
    go_ret2
    exact ⟨rfl, HB1.out.trans (HB2.out.mono HB1.out.size)⟩
set_option maxRecDepth 20000 in
set_option maxHeartbeats 4000000 in
theorem rLatest_ok (t : TitD) (x : TA) (zs : List ZonM) (w : World) (hs : Sizes t) (hT : TitAt w w.heap.size t x zs) (A : Option Addr) (c : Nat) (o : List Nat) (p v : Int) (hA : Sl encInt 1 w w.heap.size A (o.map fun (e : Nat) => (e : Int))) (hc : checkT t = 0) (ho : ordersB (edsR t).length (o.map fun (e : Nat) => (e : Int)) = true) (hp : 0 ≤ p ∧ p ≤ (t.colours.length : Int) - 1) (hv : 0 ≤ v ∧ v ≤ 9) :
    Calls Try.prog 55 #[.agg (titV t x), .slice A o.length c, .int .i64 p, .int .i64 v] w fun e w' => LatRes t o p v e ∧ Below w.heap.size w w' := by
  obtain ⟨w1, gT, HW1, HGT, HB1, HTB⟩ := tit_box t x zs w hT
  obtain ⟨hT1, r0, r1, r2, r3, r4, r5, r6, r7⟩ := HTB.out w1 (Below.refl _ _)
  have HCK := Lib.hid (show Calls Try.prog 48 #[.agg (titV t x), .slice A o.length c] w1 fun e w' => ∃ A' c', e = .returned (.tuple #[.slice A' o.length c', .int .i64 0]) ∧ Below w1.heap.size w1 w' from (rSlots_ok t x zs w1 hs hT1 A c o ((hA.below HB1.out).mono HB1.out.size) hc ho).mono (by
    rintro e w' ⟨A', c', rfl, -, hb⟩
    exact ⟨A', c', rfl, hb⟩))
  have hcl := (chk_ok hc).c0
  have s1 := hs.s1
  have h7 := eds_le hc
  have hol := ord_len ho
  have f1 := IntWalk.i64_in ((t.colours.length : Int) - 1) (by omega)
  have HP := Lib.hid (show ∀ W, Calls Try.prog 94 #[.int .i64 p, .int .i64 0, .int .i64 ((t.colours.length : Int) - 1)] W fun e w' => e = .returned (.bool true) ∧ W = w' from fun W => by have := rin_any p 0 ((t.colours.length : Int) - 1) W; rw [inB_iff.2 hp] at this; exact this)
  have HQ := Lib.hid (show ∀ W, Calls Try.prog 94 #[.int .i64 v, .int .i64 0, .int .i64 9] W fun e w' => e = .returned (.bool true) ∧ W = w' from fun W => by have := rin_any v 0 9 W; rw [inB_iff.2 hv] at this; exact this)
  have HWI := Lib.hid (show ∀ (W : World) (a : Int), Below w1.heap.size w1 W → 0 ≤ a → a ≤ 86400 → Calls Try.prog 105 #[.agg (titV t x), .int .i64 p, .int .i64 v, .int .i64 a] W fun e W' => ∃ V, e = .returned V ∧ Hid (∀ (V' : Value) W'', V' = V → Below W'.heap.size W' W'' → Calls Try.prog 104 #[V', .slice A o.length c] W'' fun e w' => e = .returned (.bool (inTW t o p v a)) ∧ Below W''.heap.size W'' w') ∧ Hid (Below W.heap.size W W') from fun W a hb ha0 ha1 => (rwith_any t x zs W hs (HTB.out W hb).1 p v a).mono (by
    rintro e W' ⟨r, cr, rfl, hTW, hbW⟩
    refine ⟨_, rfl, Lib.hid fun V' W'' hV hb3 => ?_, Lib.hid hbW⟩
    subst hV
    have hb2 := HB1.out.trans ((hb.trans ((hbW.trans (hb3.mono hbW.size)).mono hb.size)).mono HB1.out.size)
    have hch2 := with_ok hc hp hv ⟨ha0, ha1⟩
    have hln : (edsR (withT t p v a)).length = (edsR t).length := by rw [edsR_len, edsR_len, edsN_zones_only (t := withT t p v a) (t' := t) rfl]; rfl
    have hs2 : Sizes (withT t p v a) := ⟨hs.s1, hs.s2, hs.s3, by have := hch2.r1; omega, hs.s5⟩
    have := rIn104_any (withT t p v a) (setX x r cr) zs W'' hs2 ((hTW.below hb3).mono hb3.size) A c o hch2 (by omega) (fun e he => by rw [hln]; exact ord_lt ho e he) ((hA.below hb2).mono hb2.size)
    rw [runE_with] at this
    exact this))
  clear hT hT1 hs hc hA ho hp hv h7 hol
  unfold titV at *
  go_enter Try.func55, Try.ntmps55
  go_upto_region 1 with fail
  rw [← HW1.out, ← HGT.out]
  cases h0 : inTW t o p v 0
  · skip
    go_wp2_with first
      | (go_at_call 48; refine HCK.out.mono ?_; rintro e w2 ⟨A2, c2, rfl, hb2⟩; have HB2 := Lib.hid hb2; clear hb2; clear r0 r1 r2 r3 r4 r5 r6 r7; obtain ⟨-, r0, r1, r2, r3, r4, r5, r6, r7⟩ := HTB.out _ HB2.out)
      | (go_at_call 94; with_reducible refine (HP.out _).mono ?_; rintro e w3 ⟨rfl, rfl⟩)
      | (go_at_call 94; with_reducible refine (HQ.out _).mono ?_; rintro e w3 ⟨rfl, rfl⟩)
      | (go_at_call 105; refine (HWI.out _ 0 HB2.out (by omega) (by omega)).mono ?_; rintro e w3 ⟨V, rfl, HIN, HB3⟩)
      | (go_at_call 104; refine (HIN.out _ _ rfl (Below.refl _ _)).mono ?_; rintro e w4 ⟨rfl, hb4⟩; rw [h0]; have HB4 := Lib.hid hb4; clear hb4)
    go_ret2
    exact ⟨.inl ⟨h0, rfl⟩, HB1.out.trans ((HB2.out.trans ((HB3.out.trans (HB4.out.mono HB3.out.size)).mono HB2.out.size)).mono HB1.out.size)⟩
  · skip
    go_wp2_with first
      | (go_at_call 48; refine HCK.out.mono ?_; rintro e w2 ⟨A2, c2, rfl, hb2⟩; have HB2 := Lib.hid hb2; clear hb2; clear r0 r1 r2 r3 r4 r5 r6 r7; obtain ⟨-, r0, r1, r2, r3, r4, r5, r6, r7⟩ := HTB.out _ HB2.out)
      | (go_at_call 94; with_reducible refine (HP.out _).mono ?_; rintro e w3 ⟨rfl, rfl⟩)
      | (go_at_call 94; with_reducible refine (HQ.out _).mono ?_; rintro e w3 ⟨rfl, rfl⟩)
      | (go_at_call 105; refine (HWI.out _ 0 HB2.out (by omega) (by omega)).mono ?_; rintro e w3 ⟨V, rfl, HIN, HB3⟩)
      | (go_at_call 104; refine (HIN.out _ _ rfl (Below.refl _ _)).mono ?_; rintro e w4 ⟨rfl, hb4⟩; rw [h0]; have HB4 := Lib.hid hb4; clear hb4; clear r0 r1 r2 r3 r4 r5 r6 r7)
    have HB14 := Lib.hid (HB2.out.trans ((HB3.out.trans (HB4.out.mono HB3.out.size)).mono HB2.out.size))
    have HS0 := Lib.hid (SeaI.start h0)
    skip
    clear h0
    go_loopw [12, 13] (fun a s wr => ∃ (n : Int) (k : Nat), a = .int .i64 n ∧ s = .int .i64 k ∧ Hid (SeaI t o p v k n) ∧ Hid (Below w1.heap.size w1 wr) ∧ k ≤ 65536) (fun _ s _ => (intOf s).toNat)
    case atStart => exact ⟨0, 65536, rfl, rfl, HS0, HB14, by omega⟩
    case round =>
      obtain ⟨n, k, rfl, rfl, HS, HB, hk⟩ := hrel
      have hn0 := HS.out.a0
      have hn1 := HS.out.a1
      obtain ⟨-, r0, r1, r2, r3, r4, r5, r6, r7⟩ := HTB.out _ HB.out
      by_cases hk0 : 0 < k
      · have j0 : decide ((0 : Int) < (k : Int)) = true := by simp; omega
        have f2 := IntWalk.i64_in (n + (k : Int)) (by omega)
        have f3 : IntKind.i64.wrap ((k : Int).tdiv 2) = ((k / 2 : Nat) : Int) := by rw [Int.tdiv_eq_ediv_of_nonneg (by omega), IntKind.wrap_i64]; omega
        by_cases hin : n + (k : Int) ≤ 86400
        · have j1 : decide (n + (k : Int) ≤ 86400) = true := by simp; omega
          cases h2 : inTW t o p v (n + (k : Int))
          · have HS2 := Lib.hid (HS.out.stay hk0 (.inr h2))
            go_wp2_with first
              | (go_at_call 105; refine (HWI.out _ (n + (k : Int)) HB.out (by omega) (by omega)).mono ?_; rintro e w5 ⟨V5, rfl, HIN5, HB5⟩)
              | (go_at_call 104; refine (HIN5.out _ _ rfl (Below.refl _ _)).mono ?_; rintro e w6 ⟨rfl, hb6⟩; rw [h2]; have HB6 := Lib.hid hb6; clear hb6)
            go_roundw
            case rel => exact ⟨n, k / 2, rfl, by first | go_num | (simp [f3]), HS2, Lib.hid (HB.out.trans ((HB5.out.trans (HB6.out.mono HB5.out.size)).mono HB.out.size)), by omega⟩
            case measure => simp [intOf, f3]; omega
          · have HS2 := Lib.hid (HS.out.go hk0 hin h2)
            go_wp2_with first
              | (go_at_call 105; refine (HWI.out _ (n + (k : Int)) HB.out (by omega) (by omega)).mono ?_; rintro e w5 ⟨V5, rfl, HIN5, HB5⟩)
              | (go_at_call 104; refine (HIN5.out _ _ rfl (Below.refl _ _)).mono ?_; rintro e w6 ⟨rfl, hb6⟩; rw [h2]; have HB6 := Lib.hid hb6; clear hb6)
            go_roundw
            case rel => exact ⟨n + (k : Int), k / 2, rfl, by first | go_num | (simp [f3]), HS2, Lib.hid (HB.out.trans ((HB5.out.trans (HB6.out.mono HB5.out.size)).mono HB.out.size)), by omega⟩
            case measure => simp [intOf, f3]; omega
        · have j1 : decide (n + (k : Int) ≤ 86400) = false := by simp; omega
          have HS2 := Lib.hid (HS.out.stay hk0 (.inl (by omega)))
          go_wp2_with fail
          go_roundw
          case rel => exact ⟨n, k / 2, rfl, by first | go_num | (simp [f3]), HS2, HB, by omega⟩
          case measure => simp [intOf, f3]; omega
      · obtain rfl : k = 0 := by omega
        go_wp2_with fail
        go_ret2
        exact ⟨.inr ⟨n, HS.out.fin, rfl⟩, HB1.out.trans (HB.out.mono HB1.out.size)⟩
end Go.Proofs.Ytokdleanpkkdpaa
