/- Contracts of the reference's Slots and InTime; conditions: a title in memory. Printed by a program. -/
import Derived.Test.YtokdleanpkkdpaaU7
set_option linter.unusedSimpArgs false
set_option linter.unusedVariables false
namespace Go.Proofs.Ytokdleanpkkdpaa
open Go.RowKit Go.Fh Go.Ed
theorem tit_box (t : TitD) (x : TA) (zs : List ZonM) (w : World) (hT : TitAt w w.heap.size t x zs) : ∃ w1 gT, Hid (w1 = w.alloc (.cells (titV t x) 88)) ∧ Hid (gT = w.heap.size) ∧ Hid (Below w.heap.size w w1) ∧ Hid (∀ W, Below w1.heap.size w1 W → TitAt W W.heap.size t x zs ∧ W.cell? ⟨gT, 0, none⟩ = some (.slice x.a t.colours.length x.ca) ∧ W.cell? ⟨gT, 1, none⟩ = some (.slice x.b t.pairs.length x.cb) ∧ W.cell? ⟨gT, 2, none⟩ = some (.slice x.z t.zones.length x.cz) ∧ W.cell? ⟨gT, 3, none⟩ = some (.slice x.r t.ready.length x.cr) ∧ W.cell? ⟨gT, 4, none⟩ = some (.int .i64 t.start) ∧ W.cell? ⟨gT, 5, none⟩ = some (.int .i64 t.rate) ∧ W.cell? ⟨gT, 6, none⟩ = some (.int .i64 t.stop) ∧ W.cell? ⟨gT, 7, none⟩ = some (.int .i64 t.hang)) := by
  refine ⟨w.alloc (.cells (titV t x) 88), w.heap.size, rfl, rfl, (Below.refl _ _).alloc (Nat.le_refl _) _, Lib.hid fun W hb => ?_⟩
  have hb1 : Below w.heap.size w (w.alloc (.cells (titV t x) 88)) := (Below.refl _ _).alloc (Nat.le_refl _) _
  have kT : Blk (w.alloc (.cells (titV t x) 88)) w.heap.size 88 (titV t x) := Blk.new _ _ _
  have hgl := kT.lt
  have r0 := (kT.below hb hgl).cell 0
  have r1 := (kT.below hb hgl).cell 1
  have r2 := (kT.below hb hgl).cell 2
  have r3 := (kT.below hb hgl).cell 3
  have r4 := (kT.below hb hgl).cell 4
  have r5 := (kT.below hb hgl).cell 5
  have r6 := (kT.below hb hgl).cell 6
  have r7 := (kT.below hb hgl).cell 7
  simp [titV] at r0 r1 r2 r3 r4 r5 r6 r7
  have hb2 := hb1.trans (hb.mono hb1.size)
  exact ⟨(hT.below hb2).mono hb2.size, r0, r1, r2, r3, r4, r5, r6, r7⟩
theorem ord_lt {n : Nat} {o : List Nat} (ho : ordersB n (o.map fun (e : Nat) => (e : Int)) = true) : ∀ e ∈ o, e < n := by
  intro e he
  unfold ordersB at ho
  simp only [Bool.and_eq_true] at ho
  have := inB_iff.1 (List.all_eq_true.1 ho.1.2 (e : Int) (List.mem_map.2 ⟨e, he, rfl⟩))
  omega
theorem ord_len {n : Nat} {o : List Nat} (ho : ordersB n (o.map fun (e : Nat) => (e : Int)) = true) : o.length = n := by
  unfold ordersB at ho
  simp only [Bool.and_eq_true, decide_eq_true_eq, List.length_map] at ho
  exact ho.1.1
set_option maxRecDepth 20000 in
set_option maxHeartbeats 4000000 in
theorem rSlots_bad (t : TitD) (x : TA) (zs : List ZonM) (w : World) (hs : Sizes t) (hT : TitAt w w.heap.size t x zs) (A : Option Addr) (c : Nat) (l : List Int) (hc : checkT t ≠ 0) :
    Calls Try.prog 48 #[.agg (titV t x), .slice A l.length c] w fun e w' => e = .returned (.tuple #[.slice none 0 0, .int .i64 (checkT t)]) ∧ Below w.heap.size w w' := by
  obtain ⟨w1, gT, HW1, HGT, HB1, HTB⟩ := tit_box t x zs w hT
  obtain ⟨hT1, r0, r1, r2, r3, r4, r5, r6, r7⟩ := HTB.out w1 (Below.refl _ _)
  have HCK := Lib.hid (rEds_bad t x zs w1 hs hT1 hc)
  obtain ⟨ck, hck⟩ : ∃ c, c = checkT t := ⟨_, rfl⟩
  rw [← hck] at HCK hc ⊢
  have ht : (ck == 0) = false := by simpa using hc
  clear hT hT1 hs hc hck
  unfold titV at *
  go_enter Try.func48, Try.ntmps48
  go_upto_region 1 with fail
  rw [← HW1.out, ← HGT.out]
  go_wp2_with (go_at_call 43; refine HCK.out.mono ?_; rintro e w2 ⟨rfl, hb2⟩; have HB2 := Lib.hid hb2; clear hb2)
  go_ret2
  exact ⟨rfl, HB1.out.trans (HB2.out.mono HB1.out.size)⟩
set_option maxRecDepth 20000 in
set_option maxHeartbeats 4000000 in
theorem rSlots_arg (t : TitD) (x : TA) (zs : List ZonM) (w : World) (hs : Sizes t) (hT : TitAt w w.heap.size t x zs) (A : Option Addr) (c : Nat) (l : List Int) (hl : l.length ≤ 1000000000) (hA : Sl encInt 1 w w.heap.size A l) (hc : checkT t = 0) (ho : ordersB (edsR t).length l = false) :
    Calls Try.prog 48 #[.agg (titV t x), .slice A l.length c] w fun e w' => e = .returned (.tuple #[.slice none 0 0, .int .i64 1]) ∧ Below w.heap.size w w' := by
  obtain ⟨w1, gT, HW1, HGT, HB1, HTB⟩ := tit_box t x zs w hT
  obtain ⟨hT1, r0, r1, r2, r3, r4, r5, r6, r7⟩ := HTB.out w1 (Below.refl _ _)
  have h7 := eds_le hc
  obtain ⟨N, hN⟩ : ∃ n, n = (edsR t).length := ⟨_, rfl⟩
  have HCK := Lib.hid (show Calls Try.prog 43 #[.agg (titV t x)] w1 fun e w' => ∃ (A : Option Addr) (c : Nat), e = .returned (.tuple #[.slice A N c, .int .i64 0]) ∧ Below w1.heap.size w1 w' from (rEds_ok t x zs w1 hs hT1 hc).mono (by
    rintro e w' ⟨A, c, es, rfl, hr, hb⟩
    exact ⟨A, c, by rw [hr.len, hN], hb⟩))
  have HRI := Lib.hid (show ∀ W, Below w1.heap.size w1 W → Calls Try.prog 99 #[.slice A l.length c, .int .i64 (N : Int)] W fun e w' => e = .returned (.bool false) ∧ W = w' from fun W hb => by
    have hb2 := HB1.out.trans (hb.mono HB1.out.size)
    have := right_any A c l N W (by omega) hl ((hA.below hb2).mono hb2.size)
    rw [rightB_eq, hN, ho] at this
    rw [hN]
    exact this)
  clear hT hT1 hs hc hA ho hN h7
  unfold titV at *
  go_enter Try.func48, Try.ntmps48
  go_upto_region 1 with fail
  rw [← HW1.out, ← HGT.out]
  go_wp2_with first
    | (go_at_call 43; refine HCK.out.mono ?_; rintro e w2 ⟨A2, c2, rfl, hb2⟩; have HB2 := Lib.hid hb2; clear hb2)
    | (go_at_call 99; refine (HRI.out _ HB2.out).mono ?_; rintro e w3 ⟨rfl, rfl⟩)
  go_ret2
  exact ⟨rfl, HB1.out.trans (HB2.out.mono HB1.out.size)⟩
set_option maxRecDepth 20000 in
set_option maxHeartbeats 4000000 in
theorem rSlots_ok (t : TitD) (x : TA) (zs : List ZonM) (w : World) (hs : Sizes t) (hT : TitAt w w.heap.size t x zs) (A : Option Addr) (c : Nat) (o : List Nat) (hA : Sl encInt 1 w w.heap.size A (o.map fun (e : Nat) => (e : Int))) (hc : checkT t = 0) (ho : ordersB (edsR t).length (o.map fun (e : Nat) => (e : Int)) = true) :
    Calls Try.prog 48 #[.agg (titV t x), .slice A o.length c] w fun e w' => ∃ A' c', e = .returned (.tuple #[.slice A' o.length c', .int .i64 0]) ∧ w'.ownsRow w.heap.size 106 4 (.slice A' o.length c') o.length ((slotsD t (edsR t) o).flatMap encSlo) ∧ Below w.heap.size w w' := by
  obtain ⟨w1, gT, HW1, HGT, HB1, HTB⟩ := tit_box t x zs w hT
  obtain ⟨hT1, r0, r1, r2, r3, r4, r5, r6, r7⟩ := HTB.out w1 (Below.refl _ _)
  have h7 := eds_le hc
  have hol := ord_len ho
  have hlt := ord_lt ho
  obtain ⟨N, hN⟩ : ∃ n, n = (edsR t).length := ⟨_, rfl⟩
  have HCK := Lib.hid (show Calls Try.prog 43 #[.agg (titV t x)] w1 fun e w' => ∃ (A : Option Addr) (c : Nat) (es : List EdM), e = .returned (.tuple #[.slice A N c, .int .i64 0]) ∧ N = es.length ∧ RefAt w' w1.heap.size t A c es ∧ Below w1.heap.size w1 w' from (rEds_ok t x zs w1 hs hT1 hc).mono (by
    rintro e w' ⟨A, c, es, rfl, hr, hb⟩
    exact ⟨A, c, es, by rw [hr.len, hN], by rw [hr.len, hN], hr, hb⟩))
  have HRI := Lib.hid (show ∀ W, Below w1.heap.size w1 W → Calls Try.prog 99 #[.slice A o.length c, .int .i64 (N : Int)] W fun e w' => e = .returned (.bool true) ∧ W = w' from fun W hb => by
    have hb2 := HB1.out.trans (hb.mono HB1.out.size)
    have := right_any A c (o.map fun (e : Nat) => (e : Int)) N W (by omega) (by simp; omega) ((hA.below hb2).mono hb2.size)
    rw [rightB_eq, hN, ho, List.length_map] at this
    rw [hN]
    exact this)
  have HSL := Lib.hid (show ∀ W (B : Nat) (A2 : Option Addr) (c2 : Nat) (es : List EdM), Below w1.heap.size w1 W → N = es.length → RefAt W B t A2 c2 es → Calls Try.prog 100 #[.agg (titV t x), .slice A2 N c2, .slice A o.length c] W fun e w' => ∃ A' c', e = .returned (.slice A' o.length c') ∧ w'.ownsRow W.heap.size 106 4 (.slice A' o.length c') o.length ((slotsD t (edsR t) o).flatMap encSlo) ∧ Below W.heap.size W w' from fun W B A2 c2 es hb hn hr => by
    have hb2 := HB1.out.trans (hb.mono HB1.out.size)
    rw [hn]
    exact rslots_any t (chk_ok hc) x zs B A2 c2 es A c o W hs (HTB.out W hb).1 hr (by omega) hlt ((hA.below hb2).mono hb2.size))
  clear hT hT1 hs hc hA ho hN h7 hlt hol
  unfold titV at *
  go_enter Try.func48, Try.ntmps48
  go_upto_region 1 with fail
  rw [← HW1.out, ← HGT.out]
  go_wp2_with first
    | (go_at_call 43; refine HCK.out.mono ?_; rintro e w2 ⟨A2, c2, es, rfl, hn, hr2, hb2⟩; have HB2 := Lib.hid hb2; have HR2 := Lib.hid hr2; have HNE := Lib.hid hn; clear hb2 hr2 hn; clear r0 r1 r2 r3 r4 r5 r6 r7; obtain ⟨-, r0, r1, r2, r3, r4, r5, r6, r7⟩ := HTB.out _ HB2.out)
    | (go_at_call 99; refine (HRI.out _ HB2.out).mono ?_; rintro e w3 ⟨rfl, rfl⟩)
    | (go_at_call 100; refine (HSL.out _ _ _ _ _ HB2.out HNE.out HR2.out).mono ?_; rintro e w4 ⟨A', c', rfl, ho4, hb4⟩; have HO4 := Lib.hid ho4; have HB4 := Lib.hid hb4; clear ho4 hb4)
  go_ret2
  exact ⟨A', c', rfl, World.ownsRow.mono HO4.out (Nat.le_trans HB1.out.size HB2.out.size), HB1.out.trans ((HB2.out.trans (HB4.out.mono HB2.out.size)).mono HB1.out.size)⟩
set_option maxRecDepth 20000 in
set_option maxHeartbeats 4000000 in
theorem rInTime_bad (t : TitD) (x : TA) (zs : List ZonM) (w : World) (hs : Sizes t) (hT : TitAt w w.heap.size t x zs) (A : Option Addr) (c : Nat) (l : List Int) (hc : checkT t ≠ 0) :
    Calls Try.prog 51 #[.agg (titV t x), .slice A l.length c] w fun e w' => e = .returned (.tuple #[.int .i64 0, .int .i64 (checkT t)]) ∧ Below w.heap.size w w' := by
  obtain ⟨w1, gT, HW1, HGT, HB1, HTB⟩ := tit_box t x zs w hT
  obtain ⟨hT1, r0, r1, r2, r3, r4, r5, r6, r7⟩ := HTB.out w1 (Below.refl _ _)
  have HCK := Lib.hid (rSlots_bad t x zs w1 hs hT1 A c l hc)
  obtain ⟨ck, hck⟩ : ∃ c, c = checkT t := ⟨_, rfl⟩
  rw [← hck] at HCK hc ⊢
  have ht : (ck == 0) = false := by simpa using hc
  clear hT hT1 hs hc hck
  unfold titV at *
  go_enter Try.func51, Try.ntmps51
  go_upto_region 1 with fail
  rw [← HW1.out, ← HGT.out]
  go_wp2_with (go_at_call 48; refine HCK.out.mono ?_; rintro e w2 ⟨rfl, hb2⟩; have HB2 := Lib.hid hb2; clear hb2)
  go_ret2
  exact ⟨rfl, HB1.out.trans (HB2.out.mono HB1.out.size)⟩
set_option maxRecDepth 20000 in
set_option maxHeartbeats 4000000 in
theorem rInTime_arg (t : TitD) (x : TA) (zs : List ZonM) (w : World) (hs : Sizes t) (hT : TitAt w w.heap.size t x zs) (A : Option Addr) (c : Nat) (l : List Int) (hl : l.length ≤ 1000000000) (hA : Sl encInt 1 w w.heap.size A l) (hc : checkT t = 0) (ho : ordersB (edsR t).length l = false) :
    Calls Try.prog 51 #[.agg (titV t x), .slice A l.length c] w fun e w' => e = .returned (.tuple #[.int .i64 0, .int .i64 1]) ∧ Below w.heap.size w w' := by
  obtain ⟨w1, gT, HW1, HGT, HB1, HTB⟩ := tit_box t x zs w hT
  obtain ⟨hT1, r0, r1, r2, r3, r4, r5, r6, r7⟩ := HTB.out w1 (Below.refl _ _)
  have HCK := Lib.hid (rSlots_arg t x zs w1 hs hT1 A c l hl ((hA.below HB1.out).mono HB1.out.size) hc ho)
  clear hT hT1 hs hc hA ho
  unfold titV at *
  go_enter Try.func51, Try.ntmps51
  go_upto_region 1 with fail
  rw [← HW1.out, ← HGT.out]
  go_wp2_with (go_at_call 48; refine HCK.out.mono ?_; rintro e w2 ⟨rfl, hb2⟩; have HB2 := Lib.hid hb2; clear hb2)
  go_ret2
  exact ⟨rfl, HB1.out.trans (HB2.out.mono HB1.out.size)⟩
set_option maxRecDepth 20000 in
set_option maxHeartbeats 4000000 in
theorem rInTime_ok (t : TitD) (x : TA) (zs : List ZonM) (w : World) (hs : Sizes t) (hT : TitAt w w.heap.size t x zs) (A : Option Addr) (c : Nat) (o : List Nat) (hA : Sl encInt 1 w w.heap.size A (o.map fun (e : Nat) => (e : Int))) (hc : checkT t = 0) (ho : ordersB (edsR t).length (o.map fun (e : Nat) => (e : Int)) = true) :
    Calls Try.prog 51 #[.agg (titV t x), .slice A o.length c] w fun e w' => ((noLate t (edsR t) o ∧ e = .returned (.tuple #[.int .i64 (finAt t (edsR t) o o.length), .int .i64 0])) ∨ (∃ i : Nat, firstLate t (edsR t) o i ∧ e = .returned (.tuple #[.int .i64 (i : Int), .int .i64 12]))) ∧ Below w.heap.size w w' := by
  obtain ⟨w1, gT, HW1, HGT, HB1, HTB⟩ := tit_box t x zs w hT
  obtain ⟨hT1, r0, r1, r2, r3, r4, r5, r6, r7⟩ := HTB.out w1 (Below.refl _ _)
  have h7 := eds_le hc
  have hol := ord_len ho
  have HLT := Lib.hid (ord_lt ho)
  obtain ⟨N, hN⟩ : ∃ n, n = (edsR t).length := ⟨_, rfl⟩
  have HNN := Lib.hid hN
  have HCK := Lib.hid (rSlots_ok t x zs w1 hs hT1 A c o ((hA.below HB1.out).mono HB1.out.size) hc ho)
  have HRE := Lib.hid (show ∀ W, Below w1.heap.size w1 W → Calls Try.prog 96 #[.agg (titV t x)] W fun e w' => ∃ (A : Option Addr) (c : Nat) (es : List EdM), e = .returned (.slice A N c) ∧ N = es.length ∧ RefAt w' W.heap.size t A c es ∧ Below W.heap.size W w' from fun W hb => (reds_any t x zs W hs (HTB.out W hb).1 (chk_ok hc).rgt).mono (by
    rintro e w' ⟨A, c, es, rfl, hr, hb⟩
    exact ⟨A, c, es, by rw [hr.len, hN], by rw [hr.len, hN], hr, hb⟩))
  have HLL := Lib.hid (show (slotsD t (edsR t) o).length = o.length from by unfold slotsD; rw [upF_len])
  have HON := Lib.hid (show 1 ≤ o.length ∧ o.length ≤ 7 from by omega)
  have on1 : 1 ≤ o.length := by omega
  have on7 : o.length ≤ 7 := by omega
  have f1 := IntWalk.i64_in ((o.length : Int) - 1) (by omega)
  clear hT hT1 hs hc hA ho hN h7 hol
  unfold titV at *
  go_enter Try.func51, Try.ntmps51
  go_upto_region 1 with fail
  rw [← HW1.out, ← HGT.out]
  go_wp2_with first
    | (go_at_call 48; refine HCK.out.mono ?_; rintro e w2 ⟨A2, c2, rfl, ho2, hb2⟩; have HB2 := Lib.hid hb2; have HO2 := Lib.hid ho2; clear hb2 ho2; clear r0 r1 r2 r3 r4 r5 r6 r7; obtain ⟨-, r0, r1, r2, r3, r4, r5, r6, r7⟩ := HTB.out _ HB2.out)
    | (go_at_call 96; refine (HRE.out _ HB2.out).mono ?_; rintro e w3 ⟨A3, c3, es, rfl, hn, hr3, hb3⟩; have HB3 := Lib.hid hb3; have HR3 := Lib.hid hr3; have HNE := Lib.hid hn; clear hb3 hr3 hn)
  have HS3 := Lib.hid (show Sl encSlo 4 w3 w3.heap.size A2 (slotsD t (edsR t) o) from by
    have h1 := HO2.out
    rw [← HLL.out] at h1
    exact ((Sl.of_own (enc := encSlo) (fun _ => rfl) h1).below HB3.out).mono HB3.out.size)
  have HB13 := Lib.hid (HB1.out.trans ((HB2.out.trans (HB3.out.mono HB2.out.size)).mono HB1.out.size))
  clear r0 r1 r2 r3 r4 r5 r6 r7
  go_loopw [9] (fun i wr => ∃ q : Nat, q ≤ o.length ∧ i = .int .i64 q ∧ Hid (∀ j, j < q → lateAt t (edsR t) o j = false) ∧ Hid (Below w3.heap.size w3 wr)) (fun i _ => o.length - (intOf i).toNat)
  case atStart => exact ⟨0, Nat.zero_le _, rfl, Lib.hid fun j hj => absurd hj (by omega), Below.refl _ _⟩
  case round =>
    obtain ⟨q, hq, rfl, HQ, HB⟩ := hrel
    by_cases hlt : q < o.length
    · have hql : q < (slotsD t (edsR t) o).length := by rw [HLL.out]; exact hlt
      obtain ⟨sb, so, hsa, hsb, c0, c1, c2, c3⟩ := slo_at (HS3.out.below HB.out) hql
      subst hsa
      have hsq : (slotsD t (edsR t) o)[q] = slotAt t (edsR t) o q := by simp [slotsD, upF]
      rw [hsq] at c0 c1 c2 c3
      rw [slotAt_ed t (edsR t) o hlt] at c0
      have hoq := HLT.out o[q] (List.getElem_mem hlt)
      obtain ⟨en, hen⟩ : ∃ e, e = o[q] := ⟨_, rfl⟩
      rw [← hen] at c0 hoq
      have hek : en < es.length := by rw [← HNE.out, HNN.out]; exact hoq
      obtain ⟨eb', eo, hka, heb, d0, d1, d2, d3, d4⟩ := Sl.atEd (HR3.out.below HB.out).hE hek
      subst hka
      have hdu : es[en].1.due = ((edsR t).getD en ed0).due := by
        have h1 : (es.map (·.1))[en]'(by simpa using hek) = es[en].1 := by simp
        rw [← h1]
        simp only [HR3.out.eds]
        simp [hoq]
      have hlb : lateAt t (edsR t) o q = decide (((edsR t).getD en ed0).due < (slotAt t (edsR t) o q).fin) := by
        unfold lateAt lateB
        rw [slotAt_ed t (edsR t) o hlt, ← hen]
        rfl
      rw [hdu] at d3
      obtain ⟨du, hdue⟩ : ∃ d, d = ((edsR t).getD en ed0).due := ⟨_, rfl⟩
      obtain ⟨fi, hfi⟩ : ∃ d, d = (slotAt t (edsR t) o q).fin := ⟨_, rfl⟩
      rw [← hdue] at d3 hlb
      rw [← hfi] at c3 hlb
      have i0 : (0 : Int) ≤ (q : Int) := by omega
      have i1 : (q : Int) < (o.length : Int) := by omega
      have i2 : (0 : Int) ≤ (en : Int) := by omega
      have i3 : (en : Int) < (N : Int) := by have := HNN.out; omega
      clear hql hsq hen hoq hek hdu hdue hfi c1 c2 d0 d1 d2 d4
      cases hlate : lateAt t (edsR t) o q
      · rw [hlate] at hlb
        have hd : decide (du < fi) = false := hlb.symm
        have HLA := Lib.hid hlate
        clear hlb hlate
        go_upto_region 8 with fail
        go_quiet (fail)
        go_wp2_with fail
        go_roundw
        case rel =>
          refine ⟨q + 1, by omega, by go_num, Lib.hid fun j hj => ?_, Lib.hid (below_drewN HB.out _)⟩
          by_cases e : j = q
          · rw [e]; exact HLA.out
          · exact HQ.out j (by omega)
        case measure => simp [intOf]; omega
      · rw [hlate] at hlb
        have hd : decide (du < fi) = true := hlb.symm
        have HLA := Lib.hid hlate
        clear hlb hlate
        go_upto_region 8 with fail
        go_quiet (fail)
        go_wp2_with fail
        go_ret2
        exact ⟨.inr ⟨q, ⟨hlt, HLA.out, HQ.out⟩, rfl⟩, HB13.out.trans ((below_drewN HB.out _).mono HB13.out.size)⟩
    · obtain rfl : q = o.length := by omega
      have hql : o.length - 1 < (slotsD t (edsR t) o).length := by rw [HLL.out]; omega
      obtain ⟨sb, so, hsa, hsb, c0, c1, c2, c3⟩ := slo_at (HS3.out.below HB.out) hql
      subst hsa
      have hsq : (slotsD t (edsR t) o)[o.length - 1] = slotAt t (edsR t) o (o.length - 1) := by simp [slotsD, upF]
      rw [hsq] at c3
      have hfa : finAt t (edsR t) o o.length = (slotAt t (edsR t) o (o.length - 1)).fin := by unfold finAt; rw [if_neg (by omega)]
      rw [← hfa] at c3
      obtain ⟨m, hm⟩ : ∃ m, m = o.length - 1 := ⟨_, rfl⟩
      have hmi : (o.length : Int) - 1 = (m : Int) := by omega
      rw [← hm] at c3
      have i0 : (0 : Int) ≤ (m : Int) := by omega
      have i1 : (m : Int) < (o.length : Int) := by omega
      rw [hmi] at f1
      have HMI := Lib.hid hmi
      clear hql hsq hfa hm c0 c1 c2
      go_wp2_with fail
      go_ret2
      exact ⟨.inl ⟨HQ.out, rfl⟩, HB13.out.trans (HB.out.mono HB13.out.size)⟩
end Go.Proofs.Ytokdleanpkkdpaa
