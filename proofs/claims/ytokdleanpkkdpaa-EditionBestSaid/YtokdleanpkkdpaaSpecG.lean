/- Plain laws of the best order and of tables, joined; conditions: as they say. -/
import Derived.Test.YtokdleanpkkdpaaQC
import Derived.Test.YtokdleanpkkdpaaR4
import Derived.Test.YtokdleanpkkdpaaT3
import Derived.Test.YtokdleanpkkdpaaS5
set_option linter.unusedSimpArgs false
set_option linter.unusedVariables false
namespace Go.Ed
open Go.RowKit
theorem runE_sum (t : TitD) (es : List EdD) (o : List Nat) : ∀ k, k ≤ o.length → (runE t es (o.take k)).1 = sumN (fun i => (slotAt t es o i).plates) k := by
  intro k
  induction k with
  | zero => intro _; rfl
  | succ k ih =>
    intro hk
    have h1 := runE_last t es o (show k < o.length by omega)
    have h2 : slotAt t es o k = slotE t es (runE t es (o.take k)).2.1 o[k] := by unfold slotAt; rw [h1]; rfl
    rw [List.take_succ_eq_append_getElem (by omega), runE_snoc]
    show (runE t es (o.take k)).1 + (slotE t es (runE t es (o.take k)).2.1 o[k]).plates = _
    rw [← h2, ih (by omega)]; rfl
theorem runE_plates (t : TitD) (es : List EdD) (o : List Nat) : (runE t es o).1 = sumN (fun i => (slotAt t es o i).plates) o.length := by
  have := runE_sum t es o o.length (Nat.le_refl _)
  rw [List.take_length] at this; exact this
theorem fin_end (t : TitD) (es : List EdD) (o : List Nat) : finAt t es o o.length = endE (runE t es o) := by
  unfold finAt
  by_cases h : o.length = 0
  · rw [if_pos h]
    have : o = [] := List.eq_nil_of_length_eq_zero h
    subst this; rfl
  · rw [if_neg h]
    have h1 := runE_last t es o (show o.length - 1 < o.length by omega)
    unfold slotAt endE
    rw [show o.length - 1 + 1 = o.length by omega, List.take_length] at h1 ⊢
    rw [h1]; rfl
end Go.Ed
namespace Go.Proofs.Ytokdleanpkkdpaa
open Go.RowKit Go.Fh Go.Ed
set_option maxRecDepth 20000 in
set_option maxHeartbeats 2000000 in
theorem plates34_any (A : Option Addr) (c n : Nat) (l : List SloD) (w : World) (hn : l.length = n) (hl : n ≤ 1000) (hb : ∀ k (h : k < l.length), 0 ≤ l[k].plates ∧ l[k].plates ≤ 100000) (hA : Sl encSlo 4 w w.heap.size A l) :
    Calls Try.prog 34 #[.slice A n c] w fun e w' => e = .returned (.int .i64 (sumN (fun i => (l.getD i slo0).plates) n)) ∧ Below w.heap.size w w' := by
  have HA := Lib.hid hA
  have HB := Lib.hid hb
  have HN := Lib.hid hn
  clear hA hb hn
  go_enter Try.func34, Try.ntmps34
  go_wp2_with fail
  go_loopw [3, 8] (fun v i wr => ∃ k : Nat, k ≤ n ∧ i = .int .i64 k ∧ v = .int .i64 (sumN (fun i => (l.getD i slo0).plates) k) ∧ Hid (Below w.heap.size w wr)) (fun _ i _ => n - (intOf i).toNat)
  case atStart => exact ⟨0, Nat.zero_le _, rfl, rfl, Lib.hid (Below.refl _ _)⟩
  case round =>
    obtain ⟨k, hk, rfl, rfl, HW⟩ := hrel
    by_cases hlt : k < n
    · have hkl : k < l.length := by rw [HN.out]; exact hlt
      obtain ⟨sb, so, rfl, hsb, e0, e1, e2, e3⟩ := Sl.atSlo (HA.out.below HW.out) hkl
      obtain ⟨sl, hsl⟩ : ∃ s, s = l[k] := ⟨_, rfl⟩
      have hbk := HB.out k hkl
      rw [← hsl] at e0 e1 e2 e3 hbk
      have hsum := sumN_bd (f := fun i => (l.getD i slo0).plates) (n := k) (B := 100000) (fun i hi => by
        have := HB.out i (by omega)
        rw [show l.getD i slo0 = l[i]'(by omega) by simp [show i < l.length by omega]]
        exact this)
      obtain ⟨sm, hsm⟩ : ∃ s, s = sumN (fun i => (l.getD i slo0).plates) k := ⟨_, rfl⟩
      rw [← hsm] at hsum ⊢
      have hnext : sumN (fun i => (l.getD i slo0).plates) (k + 1) = sm + sl.plates := by
        show sumN _ k + (l.getD k slo0).plates = _
        rw [← hsm, hsl]; simp [hkl]
      have HNX := Lib.hid hnext
      obtain ⟨hs0, hs1⟩ := hsum
      have hs2 : sm ≤ 100000000 := by omega
      obtain ⟨hb0, hb1⟩ := hbk
      clear hsl hsm hnext hs1
      go_wp2_with fail
      go_roundw
      case rel => exact ⟨k + 1, by omega, by go_num, by rw [HNX.out], Lib.hid (by
        have := HW.out.size
        repeat (first | exact HW.out | refine Below.setCell ?_ (by exact HW.out.size) _ | refine Below.alloc ?_ (by exact HW.out.size) _ | refine Below.drew ?_))⟩
      case measure => simp [intOf]; omega
    · obtain rfl : k = n := by omega
      go_wp2_with fail
      go_ret
      exact ⟨rfl, HW.out⟩
end Go.Proofs.Ytokdleanpkkdpaa
namespace Go.Proofs.Ytokdleanpkkdpaa
open Go.RowKit Go.Fh Go.Ed
set_option maxRecDepth 20000 in
set_option maxHeartbeats 2000000 in
theorem why_some (t : TitD) (x : TA) (zs : List ZonM) (w : World) (hs : Sizes t) (hT : TitAt w w.heap.size t x zs) (hc : checkT t = 0) (hb : (bestR t true).isSome = true) :
    Calls Try.prog 35 #[.agg (titV t x)] w fun e w' => e = .returned (.tuple #[.slice none 0 0, .int .i64 9]) ∧ Below w.heap.size w w' := by
  have HBR := Lib.hid hb
  clear hb
  have HCH := Lib.hid (chk_ok hc)
  obtain ⟨w1, hw1⟩ : ∃ W, W = w.alloc (.cells (titV t x) 26) := ⟨_, rfl⟩
  have hb1 : Below w.heap.size w w1 := by rw [hw1]; exact (Below.refl _ _).alloc (Nat.le_refl _) _
  obtain ⟨gT, hgT⟩ : ∃ g, g = w.heap.size := ⟨_, rfl⟩
  have kT : Blk w1 gT 26 (titV t x) := by rw [hw1, hgT]; exact Blk.new _ _ _
  have HCK := Lib.hid (open_any t x zs w1 hs ((hT.below hb1).mono hb1.size) hc)
  have r0 := kT.cell 0
  have r1 := kT.cell 1
  have r2 := kT.cell 2
  have r3 := kT.cell 3
  have r4 := kT.cell 4
  have r5 := kT.cell 5
  have r6 := kT.cell 6
  have r7 := kT.cell 7
  simp [titV] at r0 r1 r2 r3 r4 r5 r6 r7
  have HB1 := Lib.hid hb1
  have HW1 := Lib.hid hw1
  have HGT := Lib.hid hgT
  clear hb1 hw1 hgT kT hT hs hc
  unfold titV at *
  go_enter Try.func35, Try.ntmps35
  go_upto_region 1 with fail
  rw [← HW1.out, ← HGT.out]
  go_upto_region 5 with first
    | (go_at_call 61; refine HCK.out.mono ?_; rintro e w2 ⟨k, rfl, hk, hb2⟩; have HK := Lib.hid hk; have HB2 := Lib.hid (HB1.out.trans (hb2.mono HB1.out.size)); clear hb2 hk)
    | (go_at_call 82; refine (search_any t x k w1.heap.size w2 HCH.out HK.out true).mono ?_; rintro e w3 ⟨⟨ba, bn, bc, bp, bf, rfl, hbs, hbn⟩, hb3⟩; rw [HK.out.len] at hbs hbn ⊢; have HB3 := Lib.hid (HB2.out.trans (hb3.mono HB2.out.size)); clear hbs hbn hb3)
  rw [show (dfs t (edsR t) true ((edsR t).length + 1) [] 0 none none).isSome = true from HBR.out]
  go_wp2_with fail
  go_ret2
  exact ⟨rfl, HB3.out.alloc (by exact HB3.out.size) _⟩
set_option maxRecDepth 20000 in
set_option maxHeartbeats 2000000 in
theorem why_none (t : TitD) (x : TA) (zs : List ZonM) (w : World) (hs : Sizes t) (hT : TitAt w w.heap.size t x zs) (hc : checkT t = 0) (hb : (bestR t true).isSome = false) (n m : Nat) (hn : n = (edsR t).length) (hm : m = n * 2 ^ n) :
    Calls Try.prog 35 #[.agg (titV t x)] w fun e w' => ∃ gA c, e = .returned (.tuple #[.slice (some ⟨gA, 0, none⟩) m c, .int .i64 0]) ∧ w'.ownsRow w.heap.size 3 1 (.slice (some ⟨gA, 0, none⟩) m c) m (tabW n (leaT t (edsR t))) ∧ Below w.heap.size w w' := by
  have HBR := Lib.hid hb
  have HNM := Lib.hid (And.intro hn hm)
  clear hb hn hm
  have HCH := Lib.hid (chk_ok hc)
  obtain ⟨w1, hw1⟩ : ∃ W, W = w.alloc (.cells (titV t x) 26) := ⟨_, rfl⟩
  have hb1 : Below w.heap.size w w1 := by rw [hw1]; exact (Below.refl _ _).alloc (Nat.le_refl _) _
  obtain ⟨gT, hgT⟩ : ∃ g, g = w.heap.size := ⟨_, rfl⟩
  have kT : Blk w1 gT 26 (titV t x) := by rw [hw1, hgT]; exact Blk.new _ _ _
  have HCK := Lib.hid (open_any t x zs w1 hs ((hT.below hb1).mono hb1.size) hc)
  have r0 := kT.cell 0
  have r1 := kT.cell 1
  have r2 := kT.cell 2
  have r3 := kT.cell 3
  have r4 := kT.cell 4
  have r5 := kT.cell 5
  have r6 := kT.cell 6
  have r7 := kT.cell 7
  simp [titV] at r0 r1 r2 r3 r4 r5 r6 r7
  have HB1 := Lib.hid hb1
  have HW1 := Lib.hid hw1
  have HGT := Lib.hid hgT
  clear hb1 hw1 hgT kT hT hs hc
  unfold titV at *
  go_enter Try.func35, Try.ntmps35
  go_upto_region 1 with fail
  rw [← HW1.out, ← HGT.out]
  go_upto_region 5 with first
    | (go_at_call 61; refine HCK.out.mono ?_; rintro e w2 ⟨k, rfl, hk, hb2⟩; have HK := Lib.hid hk; have HB2 := Lib.hid (HB1.out.trans (hb2.mono HB1.out.size)); clear hb2 hk)
    | (go_at_call 82; refine (search_any t x k w1.heap.size w2 HCH.out HK.out true).mono ?_; rintro e w3 ⟨⟨ba, bn, bc, bp, bf, rfl, hbs, hbn⟩, hb3⟩; rw [HK.out.len] at hbs hbn ⊢; have HB23 := Lib.hid hb3; have HB3 := Lib.hid (HB2.out.trans (hb3.mono HB2.out.size)); clear hbs hbn hb3)
  rw [show (dfs t (edsR t) true ((edsR t).length + 1) [] 0 none none).isSome = false from HBR.out]
  obtain ⟨w4, hw4⟩ : ∃ W, W = w3.alloc (.cells #[.slice ba bn bc, .int .i64 bp, .int .i64 bf] 151) := ⟨_, rfl⟩
  have hb34 : Below w3.heap.size w3 w4 := by rw [hw4]; exact (Below.refl _ _).alloc (Nat.le_refl _) _
  have HB4 := Lib.hid (HB3.out.trans (hb34.mono HB3.out.size))
  have HTB := Lib.hid (table_any t x k w1.heap.size w4 HCH.out ((HK.out.below HB23.out).below hb34) n m (by rw [HK.out.len]; exact HNM.out.1) HNM.out.2)
  have HW4 := Lib.hid hw4
  clear hw4 hb34
  go_upto_region 7 with fail
  rw [← HW4.out]
  go_wp2_with (go_at_call 83; refine HTB.out.mono ?_; rintro e w5 ⟨gA, c, rfl, ho, hb⟩; have HO := Lib.hid ho; have HB5 := Lib.hid hb; clear ho hb)
  go_ret2
  exact ⟨gA, c, rfl, World.ownsRow.mono HO.out HB4.out.size, HB4.out.trans (HB5.out.mono HB4.out.size)⟩
end Go.Proofs.Ytokdleanpkkdpaa
namespace Go.Ed
open Go.Fh Go.RowKit Go.Proofs.Ytokdleanpkkdpaa
theorem slotE_pl {t : TitD} (h : ChkOk t) (l : Option SloD) (e : Nat) : 0 ≤ (slotE t (edsR t) l e).plates := by
  cases l with
  | none => exact (platesB_bd (good_of_paired h.ok.pair) h.ok.c4 _).1
  | some s => exact (platesB_bd (good_of_paired h.ok.pair) h.ok.c4 _).1
theorem best_scanOk {t : TitD} (h : ChkOk t) (time : Bool) : ScanOk t (edsR t) time (allO (edsR t).length ((edsR t).length + 1) []) (bestR t time) := by
  have := dfs_scan (time := time) (slotE_pl h) ((edsR t).length + 1) [] none (by simp) (by simp) (fun _ => rfl)
  unfold bestR
  rw [show dfs t (edsR t) time ((edsR t).length + 1) [] 0 none none = dfs t (edsR t) time ((edsR t).length + 1) [] (runE t (edsR t) []).1 (runE t (edsR t) []).2.1 none from rfl, this]
  exact scan_ok t (edsR t) time _
theorem fewest_ex {t : TitD} (h : ChkOk t) : ∃ ob p f, bestR t false = some (ob, p, f) ∧ ∀ o : List Nat, o.Perm (List.range (edsR t).length) → p ≤ (runE t (edsR t) o).1 := by
  have hs := best_scanOk h false
  obtain ⟨ob, p, f, hb, _⟩ := hs.least (List.range (edsR t).length) (perm_allO (.refl _)) rfl
  refine ⟨ob, p, f, hb, fun o ho => ?_⟩
  obtain ⟨ob', p', f', hb', h2⟩ := hs.least o (perm_allO ho) rfl
  rw [hb] at hb'
  injection hb' with e1
  injection e1 with e1 e2
  injection e2 with e2 e3
  subst e2
  rcases h2 with h2 | ⟨h2, _⟩ <;> omega
theorem best_ok {t : TitD} (h : ChkOk t) {ob : List Nat} {p f : Int} (hb : bestR t true = some (ob, p, f)) :
    ob.Perm (List.range (edsR t).length) ∧ p = (runE t (edsR t) ob).1 ∧ f = endE (runE t (edsR t) ob) ∧ (runE t (edsR t) ob).2.2 = false ∧
      ∀ o : List Nat, o.Perm (List.range (edsR t).length) → (runE t (edsR t) o).2.2 = false → p < (runE t (edsR t) o).1 ∨ (p = (runE t (edsR t) o).1 ∧ f ≤ endE (runE t (edsR t) o)) := by
  have hs := best_scanOk h true
  obtain ⟨h1, h2, h3, h4⟩ := hs.from_ ob p f hb
  refine ⟨allO_perm h1, h2, h3, by simpa using h4, fun o ho hl => ?_⟩
  obtain ⟨ob', p', f', hb', h5⟩ := hs.least o (perm_allO ho) (by simp [hl])
  rw [hb] at hb'
  injection hb' with e1
  injection e1 with e1 e2
  injection e2 with e2 e3
  subst e2 e3
  rcases h5 with h5 | ⟨h5, h6⟩
  · exact .inl h5
  · exact .inr ⟨h5, h6 rfl⟩
theorem best_nil {t : TitD} (h : ChkOk t) (hb : bestR t true = none) (o : List Nat) (ho : o.Perm (List.range (edsR t).length)) : (runE t (edsR t) o).2.2 = true := by
  cases hl : (runE t (edsR t) o).2.2
  · obtain ⟨ob', p', f', hb', _⟩ := (best_scanOk h true).least o (perm_allO ho) (by simp [hl])
    rw [hb] at hb'; cases hb'
  · rfl
theorem eds_pos {t : TitD} (h : ChkOk t) (e : Nat) : 0 ≤ ((edsR t).getD e ed0).copies ∧ 0 ≤ ((edsR t).getD e ed0).ready := by
  by_cases he : e < (edsR t).length
  · have := edsR_ok h (getD_mem he)
    have h1 := this.c0
    exact ⟨by omega, this.r0⟩
  · rw [List.getD_eq_getElem?_getD, List.getElem?_eq_none (by omega)]; exact ⟨Int.le_refl 0, Int.le_refl 0⟩
theorem end_pos {t : TitD} (h : ChkOk t) (e : Nat) {b : Int} (hb : 0 ≤ b) : 0 ≤ endOf t ((edsR t).getD e ed0) b := by
  unfold endOf
  have h1 := (eds_pos h e).1
  have h2 := h.ok.rate0
  have := Int.ediv_nonneg (a := 60 * ((edsR t).getD e ed0).copies + t.rate - 1) (b := t.rate) (by omega) (by omega)
  omega
theorem eds_posT {t : TitD} (h : ChkOk t) : PosT t (edsR t) := by
  refine ⟨fun e => ?_, fun e b x hx => ?_⟩
  · refine end_pos h e ?_
    have := h.ok.start0
    omega
  · refine end_pos h e ?_
    have h1 := h.ok.stop0
    have h2 := (platesB_bd (good_of_paired h.ok.pair) h.ok.c4 (fun p => decide (((edsR t).getD b ed0).variants.getD p (-1) ≠ ((edsR t).getD e ed0).variants.getD p (-1)))).1
    have h3 : 0 ≤ changeB t ((edsR t).getD b ed0) ((edsR t).getD e ed0) * t.hang := Int.mul_nonneg h2 h.ok.hang0
    omega
theorem leaT_ge {t : TitD} {es : List EdD} (hp : PosT t es) (S e : Nat) : -1 ≤ leaT t es S e := by
  rw [leaT_eq]
  split
  · omega
  · split
    · rcases putV_cases (es := es) (old := -1) (s := firstS t es e) with ⟨h, _⟩ | ⟨h, h2, _⟩
      · rw [h]; omega
      · rw [h]; have := hp.f e; omega
    · rcases leaG_from t es (leaT t es (S - 2 ^ e)) e es.length with h | ⟨b, _, h1, h2, h⟩
      · rw [h]; omega
      · rw [h]; have := hp.n e b _ h1; omega
theorem provOk_congr {t : TitD} {es : List EdD} (hn : es.length ≤ 7) {f g : Nat → Nat → Int} (h : TabEq es.length f g) (hp : ProvOk t es f) : ProvOk t es g := by
  have h2 : 0 < 2 ^ es.length := Nat.two_pow_pos _
  have h128 := pow_le7 es.length (by omega)
  refine ⟨fun e he => ?_, fun e he => ?_, fun set h1 h3 last hla hbl hx e he hbe => ?_⟩
  · rw [← h _ e (by omega) he]; exact hp.full e he
  · rw [← h _ e (Nat.pow_lt_pow_right (by omega) he) he]; exact hp.first e he
  · have hz := bit_room es.length (by omega) set (by omega) e (by omega) (by omega) he hbe
    rw [← h _ _ (by omega) hla] at hx ⊢
    rw [← h _ e hz he]
    exact hp.next set h1 h3 last hla hbl hx e he hbe
theorem slotsD_sum (t : TitD) (es : List EdD) (o : List Nat) {n : Nat} (hn : o.length = n) : sumN (fun i => ((slotsD t es o).getD i slo0).plates) n = (runE t es o).1 := by
  rw [runE_plates, hn]
  refine sumN_congr fun i hi => ?_
  have hl : (slotsD t es o).length = n := by rw [← hn]; exact upF_len _ _
  have : (slotsD t es o).getD i slo0 = slotAt t es o i := by
    rw [List.getD_eq_getElem?_getD, List.getElem?_eq_getElem (by omega)]
    simp [slotsD, upF]
  rw [this]
theorem slotAt_pl {t : TitD} (h : ChkOk t) (o : List Nat) {i : Nat} (hi : i < o.length) : 0 ≤ (slotAt t (edsR t) o i).plates ∧ (slotAt t (edsR t) o i).plates ≤ 100000 := by
  have h1 := runE_last t (edsR t) o hi
  have h2 : slotAt t (edsR t) o i = slotE t (edsR t) (runE t (edsR t) (o.take i)).2.1 o[i] := by unfold slotAt; rw [h1]; rfl
  rw [h2]
  have hc := h.ok.c1
  cases (runE t (edsR t) (o.take i)).2.1 with
  | none => have := platesB_bd (good_of_paired h.ok.pair) h.ok.c4 (fun _ => true); exact ⟨this.1, by show platesB t _ ≤ _; omega⟩
  | some s =>
    have := platesB_bd (good_of_paired h.ok.pair) h.ok.c4 (fun p => decide (((edsR t).getD s.edition.toNat ed0).variants.getD p (-1) ≠ ((edsR t).getD o[i] ed0).variants.getD p (-1)))
    exact ⟨this.1, by show platesB t _ ≤ _; omega⟩
end Go.Ed
