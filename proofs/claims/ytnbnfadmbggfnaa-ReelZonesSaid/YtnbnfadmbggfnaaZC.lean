/- Editions, Parts, Insert; conditions: lengths that a title has. Turned from another seat by a program. -/
import Derived.Test.YtnbnfadmbggfnaaZB
import Derived.LoopIn
import Derived.LoopNIn
import Derived.OwnWalkIn
import Derived.RangeFuncBox
import Derived.RangeFuncCalls
import Derived.RangeFuncFrom
import Derived.RangeFuncLeaves
import Derived.RangeFuncNested
import Derived.Shelf.Abstract
import Derived.Shelf.Spec.SlicesInsert
import Derived.Shelf.Spec.SlicesInsertGrow
import Derived.Sort.CutIn
import Derived.TacticsInMore
set_option linter.unusedSimpArgs false
set_option linter.unusedVariables false
namespace Go.Ed
open Go.Fh Go.RowKit Go.Proofs.Ytnbnfadmbggfnaa
def seenN (l : List Int) (k : Nat) (i : Nat) : Bool := (l.take k).any fun q => q == (i : Int)
theorem seenN_succ {l : List Int} {k : Nat} (hk : k < l.length) (i : Nat) : seenN l (k + 1) i = (seenN l k i || l[k] == (i : Int)) := by
  unfold seenN
  rw [List.take_succ_eq_append_getElem hk, List.any_append]; simp
theorem orders_stop {n : Nat} {l : List Int} {k : Nat} (hk : k < l.length) (h : inBZ l[k] 0 ((n : Int) - 1) = false ∨ seenN l k l[k].toNat = true ∧ 0 ≤ l[k]) : ordersB n l = false := by
  unfold ordersB
  rcases h with h | ⟨h, h0⟩
  · have : (l.all fun e => inBZ e 0 ((n : Int) - 1)) = false := List.all_eq_false.2 ⟨l[k], List.getElem_mem hk, by simp [h]⟩
    rw [this]; simp
  · have : ¬ l.Nodup := by
      intro hn
      obtain ⟨q, hq, e⟩ := List.any_eq_true.1 h
      obtain ⟨j, hj, rfl⟩ := List.getElem_of_mem hq
      rw [List.length_take] at hj
      rw [List.getElem_take] at e
      have e2 : l[j] = l[k] := by have := beq_iff_eq.1 e; omega
      have := (List.pairwise_iff_getElem.1 hn) j k (by omega) hk (by omega)
      exact this e2
    simp [this]
theorem orders_all {n : Nat} {l : List Int} (h : ∀ k (hk : k < l.length), inBZ l[k] 0 ((n : Int) - 1) = true ∧ seenN l k l[k].toNat = false) : ordersB n l = decide (l.length = n) := by
  unfold ordersB
  have h1 : (l.all fun e => inBZ e 0 ((n : Int) - 1)) = true := by
    rw [List.all_eq_true]
    intro x hx
    obtain ⟨k, hk, rfl⟩ := List.getElem_of_mem hx
    exact (h k hk).1
  have h2 : l.Nodup := by
    refine List.pairwise_iff_getElem.2 fun i j hi hj hij e => ?_
    have hs := (h j hj).2
    have := List.any_eq_false.1 hs l[i] (by
      have : (l.take j)[i]'(by rw [List.length_take]; omega) = l[i] := by rw [List.getElem_take]
      rw [← this]; exact List.getElem_mem _)
    have hb := inB_iffZ.1 (h j hj).1
    rw [e] at this
    simp at this
    omega
  simp [h1, h2]
end Go.Ed
namespace Go.Proofs.Ytnbnfadmbggfnaa
open Go.RowKit Go.Fh Go.Ed
set_option maxRecDepth 20000 in
set_option maxHeartbeats 4000000 in
theorem orders_any (t : TitD) (x : TA) (k : Wk) (B : Nat) (A : Option Addr) (c : Nat) (l : List Int) (w : World) (hW : WorkAt w B t x k) (hk7 : k.es.length ≤ 1000) (hl : l.length ≤ 1000000000) (hA : Sl encInt 1 w w.heap.size A l) :
    Calls Try.prog 124 #[.pointer (some ⟨k.g, 0, none⟩), .slice A l.length c] w fun e w' => e = .returned (.bool (ordersB k.es.length l)) ∧ Below w.heap.size w w' := by
  obtain ⟨n, hn⟩ : ∃ n, n = k.es.length := ⟨_, rfl⟩
  have y8 := hW.hk.cell 8
  simp [workV] at y8
  rw [← hn] at y8 hk7 ⊢
  have hmk := run_make_row' (P := Try.prog) 217 4 (.bool false) 1 Try.underlying217 infoBool rfl .i64 .i64 n (by omega) (by omega) w
  obtain ⟨w2, hw2⟩ : ∃ W, W = w.alloc (.cells (madeCells #[.bool false] n) 4) := ⟨_, rfl⟩
  rw [← hw2] at hmk
  have hr0 : w2.rowIs w.heap.size 4 n (fun _ => .bool false) := by rw [hw2]; exact World.rowIs_made w (.bool false) n 4
  have hb12 : Below w.heap.size w w2 := by rw [hw2]; exact (Below.refl _ _).alloc (Nat.le_refl _) _
  obtain ⟨gK, hgK⟩ : ∃ g, g = w.heap.size := ⟨_, rfl⟩
  rw [← hgK] at hmk hr0
  have HA := Lib.hid hA
  have HGK := Lib.hid (show w.heap.size ≤ gK by omega)
  have HR0 := Lib.hid hr0
  have HB12 := Lib.hid hb12
  generalize k.E = E at *
  generalize k.cE = cE at *
  generalize k.g = gW at *
  clear hA hw2 hgK hr0 hb12 hW hn
  go_enter Try.func124, Try.ntmps124
  go_upto_region 2 with fail
  clear hmk y8
  go_wp2_with fail
  go_loopw [16] (fun i wr => ∃ k : Nat, k ≤ l.length ∧ i = .int .i64 k ∧ Hid (∀ j (h : j < l.length), j < k → inBZ l[j] 0 ((n : Int) - 1) = true ∧ seenN l j l[j].toNat = false) ∧ Hid (wr.rowIs gK 4 n (fun j => .bool (seenN l k j))) ∧ Below w.heap.size w wr) (fun i _ => l.length - (intOf i).toNat)
  case atStart => exact ⟨0, Nat.zero_le _, rfl, fun j _ hj => absurd hj (by omega), by simpa [Hid, seenN] using HR0.out, HB12.out⟩
  case round =>
    obtain ⟨k, hk, rfl, HP, HR, hB⟩ := hrel
    have HBR := Lib.hid hB
    by_cases hlt : k < l.length
    · obtain ⟨pb, po, hpa, hpb, c0⟩ := (HA.out.below hB).at1 hlt
      subst hpa
      obtain ⟨p, hp⟩ : ∃ p, p = l[k] := ⟨_, rfl⟩
      have f1 := IntWalk.i64_in ((n : Int) - 1) (by omega)
      have HST := Lib.hid (fun h => orders_stop (n := n) hlt h)
      rw [← hp] at c0 HST
      have HPV := Lib.hid hp
      clear hp hB
      cases hin : inBZ p 0 ((n : Int) - 1)
      · have HF := Lib.hid (HST.out (.inl hin))
        go_wp2_with (go_at_call 132; refine (within_anyZ _ _ _ _).mono ?_; rintro e w' ⟨rfl, rfl⟩)
        go_ret
        exact ⟨ret_bool HF.out.symm, HBR.out⟩
      · have hpr := inB_iffZ.1 hin
        obtain ⟨pn, rfl⟩ : ∃ pn : Nat, p = (pn : Int) := ⟨p.toNat, by omega⟩
        have hp1 : pn < n := by omega
        have d1 := HR.out.cell hp1
        cases hs : seenN l k pn
        · rw [hs] at d1
          have z1 := HR.out.frozen pn
          have HSN := Lib.hid hs
          have HIN := Lib.hid hin
          have hsu := fun i => seenN_succ hlt i
          have HSU := Lib.hid hsu
          clear hs hsu
          go_wp2_with (go_at_call 132; refine (within_anyZ _ _ _ _).mono ?_; rintro e w' ⟨rfl, rfl⟩)
          go_roundw
          case rel =>
            refine ⟨k + 1, by omega, by go_num, ?_, ?_, ?_⟩
            · intro j h hj
              by_cases e : j = k
              · subst e; rw [← HPV.out]; exact ⟨HIN.out, by simpa using HSN.out⟩
              · exact HP.out j h (by omega)
            · refine World.rowIs.congr (HR.out.set pn (.bool true)) fun j hj => ?_
              rw [HSU.out, ← HPV.out]
              by_cases e1 : j = pn
              · subst e1; simp
              · have a1 : ((pn : Int) == (j : Int)) = false := by simp; omega
                rw [a1]; simp [e1]
            · exact HBR.out.setCell (by exact HGK.out) _
          case measure => simp [intOf]; omega
        · rw [hs] at d1
          have HF := Lib.hid (HST.out (.inr ⟨by simpa using hs, by omega⟩))
          clear hs
          go_wp2_with (go_at_call 132; refine (within_anyZ _ _ _ _).mono ?_; rintro e w' ⟨rfl, rfl⟩)
          go_ret
          exact ⟨ret_bool HF.out.symm, HBR.out⟩
    · obtain rfl : k = l.length := by omega
      have HF := Lib.hid (orders_all (n := n) fun k hk => HP.out k hk hk)
      go_wp2_with fail
      go_ret
      refine ⟨ret_bool ?_, HBR.out⟩
      rw [HF.out]
      by_cases h : l.length = n
      · simp [h]
      · simp [h]; omega
end Go.Proofs.Ytnbnfadmbggfnaa
namespace Go.Ed
open Go.Fh Go.RowKit Go.Proofs.Ytnbnfadmbggfnaa
theorem WorkAt.len {w : Go.World} {B : Nat} {t : TitD} {x : TA} {k : Wk} (h : WorkAt w B t x k) : k.es.length = (edsR t).length := by rw [← h.eds]; simp
theorem WorkAt.below {w w' : Go.World} {B : Nat} {t : TitD} {x : TA} {k : Wk} (h : WorkAt w B t x k) (hb : Below w.heap.size w w') : WorkAt w' B t x k :=
  ⟨h.eds, h.ed.below hb, h.hk.below hb h.hk.lt, h.hg, h.hrl, own_belowV h.oC hb, fun i hi => own_belowV (h.oR i hi) hb⟩
theorem WorkAt.hE {w : Go.World} {B : Nat} {t : TitD} {x : TA} {k : Wk} (h : WorkAt w B t x k) : Sl encEd 5 w w.heap.size k.E k.es := Sl.of_own encEd_len h.ed.row
theorem WorkAt.hZ {w : Go.World} {B : Nat} {t : TitD} {x : TA} {k : Wk} (h : WorkAt w B t x k) (i : Nat) (hi : i < k.es.length) : Sl encInt 1 w w.heap.size k.es[i].2.z k.es[i].1.zones := own_slZ (h.ed.zon i hi)
theorem eds_le {t : TitD} (h : checkT t = 0) : 1 ≤ (edsR t).length ∧ (edsR t).length ≤ 7 := by rw [edsR_len]; exact ⟨(chk_ok h).n0, (chk_ok h).n1⟩
theorem WorkAt.base {w : Go.World} {B B' : Nat} {t : TitD} {x : TA} {k : Wk} (h : WorkAt w B t x k) (hB : B' ≤ B) : WorkAt w B' t x k :=
  ⟨h.eds, h.ed.base hB, h.hk, Nat.le_trans hB h.hg, h.hrl, Go.World.ownsRow.mono h.oC hB, fun i hi => Go.World.ownsRow.mono (h.oR i hi) hB⟩
end Go.Ed
namespace Go.Proofs.Ytnbnfadmbggfnaa
open Go.RowKit Go.Fh Go.Ed
section
set_option maxRecDepth 20000 in
set_option maxHeartbeats 2000000 in
theorem ask_okZ (t : TitD) (x : TA) (zs : List ZonM) (w : World) (hs : Sizes t) (hT : TitAt w w.heap.size t x zs) (A : Option Addr) (c : Nat) (l : List Int) (hl : l.length ≤ 1000000000) (hA : Sl encInt 1 w w.heap.size A l) (hc : checkT t = 0) :
    Calls Try.prog 84 #[.agg (titV t x), .slice A l.length c] w fun e w' => ∃ k : Wk, e = .returned (.tuple #[.pointer (some ⟨k.g, 0, none⟩), .int .i64 (if ordersB (edsR t).length l then 0 else 1)]) ∧ WorkAt w' w.heap.size t x k ∧ Below w.heap.size w w' := by
  obtain ⟨ob, hob⟩ : ∃ ob, ob = ordersB (edsR t).length l := ⟨_, rfl⟩
  rw [← hob]
  have HO := Lib.hid hob
  clear hob
  obtain ⟨w1, hw1⟩ : ∃ W, W = w.alloc (.cells (titV t x) 86) := ⟨_, rfl⟩
  have hb1 : Below w.heap.size w w1 := by rw [hw1]; exact (Below.refl _ _).alloc (Nat.le_refl _) _
  obtain ⟨gT, hgT⟩ : ∃ g, g = w.heap.size := ⟨_, rfl⟩
  have kT : Blk w1 gT 86 (titV t x) := by rw [hw1, hgT]; exact Blk.new _ _ _
  have HCK := Lib.hid (open_any t x zs w1 hs ((hT.below hb1).mono hb1.size) hc)
  have r0 := kT.cell 0
  have r1 := kT.cell 1
  have r2 := kT.cell 2
  have r3 := kT.cell 3
  have r4 := kT.cell 4
  have r5 := kT.cell 5
  have r6 := kT.cell 6
  have r7 := kT.cell 7
  simp [titV] at r0 r1 r2 r3 r4 r5 r6 r7
  have HB1 := Lib.hid hb1
  have HW1 := Lib.hid hw1
  have HGT := Lib.hid hgT
  have HA := Lib.hid hA
  have h7 := (eds_le hc).2
  clear hb1 hw1 hgT kT hT hs hc hA
  have hor := fun (k : Wk) W (hk : WorkAt W w1.heap.size t x k) (hb : Below w.heap.size w W) => orders_any t x k w1.heap.size A c l W hk (by rw [hk.len]; omega) hl ((HA.out.below hb).mono hb.size)
  have HOR := Lib.hid hor
  clear hor h7
  unfold titV at *
  go_enter Try.func84, Try.ntmps84
  go_upto_region 1 with fail
  rw [← HW1.out, ← HGT.out]
  cases ob
  all_goals
    go_wp2_with first
      | (go_at_call 81; refine HCK.out.mono ?_; rintro e w2 ⟨k, rfl, hk, hb2⟩; have HK := Lib.hid hk; have HB2 := Lib.hid (HB1.out.trans (hb2.mono HB1.out.size)); clear hb2 hk)
      | (go_at_call 124; refine (HOR.out k _ HK.out HB2.out).mono ?_; rintro e w3 ⟨he, hb3⟩; rw [HK.out.len, ← HO.out] at he; subst he; have HB3 := Lib.hid hb3; clear hb3)
    go_ret2
    exact ⟨k, rfl, (HK.out.below HB3.out).base HB1.out.size, HB2.out.trans (HB3.out.mono HB2.out.size)⟩
set_option maxRecDepth 20000 in
set_option maxHeartbeats 2000000 in
theorem eds_ok (t : TitD) (x : TA) (zs : List ZonM) (w : World) (hs : Sizes t) (hT : TitAt w w.heap.size t x zs) (hc : checkT t = 0) :
    Calls Try.prog 36 #[.agg (titV t x)] w fun e w' => ∃ k : Wk, e = .returned (.tuple #[.slice k.E k.es.length k.cE, .int .i64 0]) ∧ WorkAt w' w.heap.size t x k ∧ Below w.heap.size w w' := by
  obtain ⟨w1, hw1⟩ : ∃ W, W = w.alloc (.cells (titV t x) 86) := ⟨_, rfl⟩
  have hb1 : Below w.heap.size w w1 := by rw [hw1]; exact (Below.refl _ _).alloc (Nat.le_refl _) _
  obtain ⟨gT, hgT⟩ : ∃ g, g = w.heap.size := ⟨_, rfl⟩
  have kT : Blk w1 gT 86 (titV t x) := by rw [hw1, hgT]; exact Blk.new _ _ _
  have HCK := Lib.hid (open_any t x zs w1 hs ((hT.below hb1).mono hb1.size) hc)
  have r0 := kT.cell 0
  have r1 := kT.cell 1
  have r2 := kT.cell 2
  have r3 := kT.cell 3
  have r4 := kT.cell 4
  have r5 := kT.cell 5
  have r6 := kT.cell 6
  have r7 := kT.cell 7
  simp [titV] at r0 r1 r2 r3 r4 r5 r6 r7
  have HB1 := Lib.hid hb1
  have HW1 := Lib.hid hw1
  have HGT := Lib.hid hgT
  clear hb1 hw1 hgT kT hT hs hc
  unfold titV at *
  go_enter Try.func36, Try.ntmps36
  go_upto_region 1 with fail
  rw [← HW1.out, ← HGT.out]
  go_wp2_with (go_at_call 81; refine HCK.out.mono ?_; rintro e w2 ⟨k, rfl, hk, hb2⟩; have y8 := hk.hk.cell 8; simp [workV] at y8; have HK := Lib.hid hk; have HB2 := Lib.hid (HB1.out.trans (hb2.mono HB1.out.size)); clear hb2 hk)
  go_ret2
  exact ⟨k, rfl, HK.out.base HB1.out.size, HB2.out⟩
end
end Go.Proofs.Ytnbnfadmbggfnaa
namespace Go.Ed
open Go.Fh Go.RowKit Go.Proofs.Ytnbnfadmbggfnaa
theorem copZ_bd {t : TitD} (h : ChkOk t) {z : Int} (h0 : 0 ≤ z) (h1 : z < (t.zones.length : Int)) : 0 ≤ copZ t z ∧ copZ t z ≤ 1000000 := by
  have := errZ_ok (h.ez z.toNat (by omega))
  unfold copZ zon0
  exact this.1
theorem sumC_bd {t : TitD} (h : ChkOk t) (zs : List Int) (hz : ∀ z ∈ zs, 0 ≤ z ∧ z < (t.zones.length : Int)) : 0 ≤ sumC t zs ∧ sumC t zs ≤ 1000000 * (zs.length : Int) := by
  induction zs with
  | nil => simp [sumC]
  | cons z zs ih =>
    have h1 := copZ_bd h (hz z (by simp)).1 (hz z (by simp)).2
    have h2 := ih fun y hy => hz y (by simp [hy])
    rw [sumC_cons]
    simp only [List.length_cons]
    omega
theorem edsR_mem {t : TitD} {e : EdD} (he : e ∈ edsR t) : ∃ e0 ∈ edsN t t.zones.length, e = ⟨e0.zones, e0.copies, readyN t.ready e0.variants t.ready.length, e0.due, e0.variants⟩ := by
  unfold edsR at he
  obtain ⟨e0, h0, rfl⟩ := List.mem_map.1 he
  exact ⟨e0, h0, rfl⟩
theorem edsR_zn {t : TitD} (h : ChkOk t) {e : EdD} (he : e ∈ edsR t) : e.zones.length ≤ 12 ∧ e.variants.length = t.colours.length ∧ 1 ≤ e.zones.length := by
  obtain ⟨e0, h0, rfl⟩ := edsR_mem he
  have b := edsN_bd h _ (Nat.le_refl _) e0 h0
  exact ⟨by have := b.zn; have := h.z1; show e0.zones.length ≤ 12; omega, b.vn, b.z1⟩
theorem zoneL_snoc (es : List EdD) (o : List Nat) (e : Nat) : zoneL es (o ++ [e]) = zoneL es o ++ (es.getD e ed0).zones := by simp [zoneL]
theorem zoneL_len {t : TitD} (h : ChkOk t) (o : List Nat) (ho : ∀ e ∈ o, e < (edsR t).length) : (zoneL (edsR t) o).length ≤ 12 * o.length ∧ ∀ z ∈ zoneL (edsR t) o, 0 ≤ z ∧ z < (t.zones.length : Int) := by
  induction o with
  | nil => simp [zoneL]
  | cons e o ih =>
    have he := ho e (by simp)
    have ih := ih fun y hy => ho y (by simp [hy])
    have hm : (edsR t).getD e ed0 ∈ edsR t := by rw [List.getD_eq_getElem?_getD, List.getElem?_eq_getElem he]; exact List.getElem_mem he
    have hl := (edsR_zn h hm).1
    have hv := edsR_vars t _ hm
    have e1 : zoneL (edsR t) (e :: o) = ((edsR t).getD e ed0).zones ++ zoneL (edsR t) o := by simp [zoneL]
    rw [e1]
    refine ⟨by simp only [List.length_append, List.length_cons]; omega, fun z hz => ?_⟩
    rcases List.mem_append.1 hz with h | h
    · exact ⟨(hv z h).1, (hv z h).2.1⟩
    · exact ih.2 z h
end Go.Ed
namespace Go.Proofs.Ytnbnfadmbggfnaa
open Go.RowKit Go.Fh Go.Ed
theorem infoPart : (Try.prog.info? 96).map (fun i => (i.zero, i.size, i.bytes)) = some (some (.agg #[.int .i64 0, .int .i64 0, .int .i64 0]), 3, 24) := by kernel_rfl
set_option maxRecDepth 20000 in
set_option maxHeartbeats 4000000 in
theorem parts_any (t : TitD) (x : TA) (zs : List ZonM) (k : Wk) (B : Nat) (A : Option Addr) (c : Nat) (o : List Nat) (w : World) (hc : ChkOk t) (hT : TitAt w w.heap.size t x zs) (hW : WorkAt w B t x k) (hl : o.length ≤ 1000) (ho : ∀ e ∈ o, e < (edsR t).length) (hA : Sl encInt 1 w w.heap.size A (o.map fun (e : Nat) => (e : Int))) :
    Calls Try.prog 85 #[.pointer (some ⟨k.g, 0, none⟩), .slice A o.length c] w fun e w' => ∃ A' c', e = .returned (.slice A' (partsL t (edsR t) o).length c') ∧ w'.ownsRow w.heap.size 96 3 (.slice A' (partsL t (edsR t) o).length c') (partsL t (edsR t) o).length ((partsL t (edsR t) o).flatMap enc3) ∧ Below w.heap.size w w' := by
  have HT := Lib.hid hT
  have HW := Lib.hid hW
  have HA := Lib.hid hA
  have HC := Lib.hid hc
  have HO := Lib.hid ho
  have hkl := hW.hk.lt
  have hpl : (partsL t (edsR t) o).length = (zoneL (edsR t) o).length := partsGo_len _ _ _
  have HPL := Lib.hid hpl
  clear hT hW hA hc ho hpl
  go_enter Try.func85, Try.ntmps85
  go_wp2_with fail
  go_loopw [5, 6, 13] (fun v n i wr => ∃ q : Nat, q ≤ o.length ∧ i = .int .i64 q ∧ n = .int .i64 (sumC t (zoneL (edsR t) (o.take q))) ∧ Hid (wr.ownsRow w.heap.size 96 3 v (zoneL (edsR t) (o.take q)).length ((partsGo t 0 (zoneL (edsR t) (o.take q))).flatMap enc3)) ∧ Below w.heap.size w wr) (fun _ _ i _ => o.length - (intOf i).toNat)
  case atStart => exact ⟨0, Nat.zero_le _, rfl, rfl, World.ownsRow_nil _ _ _ _, Below.refl _ _⟩
  case round =>
    obtain ⟨q, hq, rfl, rfl, HV, hB⟩ := hrel
    have HB := Lib.hid hB
    have y8 := (HW.out.below hB).hk.cell 8
    simp [workV] at y8
    clear hB
    by_cases hlt : q < o.length
    · have hlm : q < (o.map fun (e : Nat) => (e : Int)).length := by simpa using hlt
      obtain ⟨ob, oo, hoa, hob, c0⟩ := (HA.out.below HB.out).at1 hlm
      rw [List.getElem_map] at c0
      subst hoa
      have hoq := HO.out o[q] (List.getElem_mem hlt)
      have hsn : zoneL (edsR t) (o.take (q + 1)) = zoneL (edsR t) (o.take q) ++ ((edsR t).getD o[q] ed0).zones := by rw [List.take_succ_eq_append_getElem hlt, zoneL_snoc]
      obtain ⟨en, hen⟩ : ∃ e, e = o[q] := ⟨_, rfl⟩
      rw [← hen] at c0 hoq hsn
      have hek : en < k.es.length := by rw [HW.out.len]; exact hoq
      have hE := (HW.out.below HB.out).hE
      obtain ⟨eb', eo, hka, heb, d0, d1, d2, d3, d4⟩ := Sl.atEd hE hek
      have hZ := fun W (hb : Below w.heap.size w W) => (HW.out.below hb).hZ en hek
      obtain ⟨zl, hzl⟩ : ∃ l, l = k.es[en].1.zones := ⟨_, rfl⟩
      rw [← hzl] at d0 hZ
      have hgz : ((edsR t).getD en ed0).zones = zl := by
        rw [hzl]
        have : (edsR t).getD en ed0 = k.es[en].1 := by
          have h1 : (k.es.map (·.1))[en]'(by simpa using hek) = k.es[en].1 := by simp
          rw [← h1]
          simp only [HW.out.eds]
          simp [hoq]
        rw [this]
      rw [hgz] at hsn
      have hmem : (edsR t).getD en ed0 ∈ edsR t := by rw [List.getD_eq_getElem?_getD, List.getElem?_eq_getElem hoq]; exact List.getElem_mem hoq
      have hzv := edsR_vars t _ hmem
      have hzn := (edsR_zn HC.out hmem).1
      rw [hgz] at hzv hzn
      have hzb := zoneL_len HC.out (o.take q) (fun e he => HO.out e (List.mem_of_mem_take he))
      obtain ⟨done, hdone⟩ : ∃ l, l = zoneL (edsR t) (o.take q) := ⟨_, rfl⟩
      rw [← hdone] at HV hzb hsn ⊢
      have hdl : done.length ≤ 12000 := by have := hzb.1; rw [List.length_take] at this; omega
      have hzz : ∀ j, j ≤ zl.length → ∀ z ∈ done ++ zl.take j, 0 ≤ z ∧ z < (t.zones.length : Int) := by
        intro j hj z hz
        rcases List.mem_append.1 hz with h | h
        · exact hzb.2 z h
        · have := hzv z (List.mem_of_mem_take h); exact ⟨this.1, this.2.1⟩
      rw [hka] at y8
      generalize k.es[en].2.z = zA at *
      generalize k.es[en].2.cz = zc at *
      obtain ⟨wq, hwq⟩ : ∃ W, W = wr := ⟨_, rfl⟩
      rw [← hwq] at HV HB y8 c0 d0 d1 d2 d3 d4 ⊢
      have HSN := Lib.hid hsn
      have HZZ := Lib.hid hzz
      have HZL := Lib.hid hZ
      have HDN := Lib.hid hdone
      clear hen hzl hgz hE hZ hsn hzz hdone hwq hka hmem hzv hzb d1 d2 d3 d4
      go_wp2_with fail
      clear y8 c0 d0
      go_loopw [5, 6, 26] (fun v n i wr => ∃ j : Nat, j ≤ zl.length ∧ i = .int .i64 j ∧ n = .int .i64 (sumC t (done ++ zl.take j)) ∧ Hid (wr.ownsRow w.heap.size 96 3 v (done.length + j) ((partsGo t 0 (done ++ zl.take j)).flatMap enc3)) ∧ Below w.heap.size w wr) (fun _ _ i _ => zl.length - (intOf i).toNat)
      case atStart => exact ⟨0, Nat.zero_le _, rfl, by simp, by simpa using HV, HB.out⟩
      case round =>
        obtain ⟨j, hj, rfl, rfl, HVj, hbj⟩ := hrel
        have hsb := sumC_bd HC.out (done ++ zl.take j) (HZZ.out j hj)
        have hll : (done ++ zl.take j).length ≤ 12012 := by simp; omega
        have HBW := Lib.hid hbj
        have hkr := (HW.out.below HBW.out).hk
        have y2 := hkr.cell 2
        have y8 := hkr.cell 8
        simp [workV] at y2 y8
        obtain ⟨AR, cR, hvr⟩ := own_shape HVj.out
        subst hvr
        have hsz := HBW.out.size
        by_cases hlj : j < zl.length
        · obtain ⟨zb, zo, hza, hzb, e0⟩ := (HZL.out _ HBW.out).at1 hlj
          subst hza
          have hzj := HZZ.out (j + 1) (by omega) zl[j] (List.mem_append.2 (.inr (by rw [List.take_succ_eq_append_getElem hlj]; exact List.mem_append.2 (.inr (by simp)))))
          obtain ⟨z, hz⟩ : ∃ z, z = zl[j] := ⟨_, rfl⟩
          rw [← hz] at e0 hzj
          obtain ⟨zn, rfl⟩ : ∃ n : Nat, z = (n : Int) := ⟨z.toNat, by omega⟩
          have hzn2 : zn < zs.length := by rw [HT.out.zlen]; omega
          have hzn3 : (zn : Int) < (t.zones.length : Int) := hzj.2
          obtain ⟨tb, to_, htz, htb, g0, g1, g2⟩ := Sl.atZon ((HT.out.below HBW.out).cZ) hzn2
          have hcz : copZ t (zn : Int) = zs[zn].1.copies := by
            unfold copZ zon0
            rw [Int.toNat_natCast, HT.out.zget hzn2]
          rw [← hcz] at g0
          have hcb := copZ_bd HC.out (show (0 : Int) ≤ (zn : Int) by omega) hzn3
          obtain ⟨cz, hcz2⟩ : ∃ c, c = copZ t (zn : Int) := ⟨_, rfl⟩
          obtain ⟨sm, hsm⟩ : ∃ s, s = sumC t (done ++ zl.take j) := ⟨_, rfl⟩
          rw [← hcz2] at g0 hcb
          rw [← hsm] at hsb ⊢
          have hts : zl.take (j + 1) = zl.take j ++ [(zn : Int)] := by rw [List.take_succ_eq_append_getElem hlj, ← hz]
          have hs2 : sumC t (done ++ zl.take (j + 1)) = sm + cz := by rw [hts, ← List.append_assoc, sumC_snoc, ← hsm, ← hcz2]
          have hp2 : partsGo t 0 (done ++ zl.take (j + 1)) = partsGo t 0 (done ++ zl.take j) ++ [((zn : Int), sm, sm + cz - 1)] := by
            rw [hts, ← List.append_assoc, partsGo_snoc, ← hsm, ← hcz2]
            simp
          rw [htz] at y2
          have f1 := IntWalk.i64_in (sm + cz) (by omega)
          have f2 := IntWalk.i64_in (sm + cz - 1) (by omega)
          obtain ⟨i0, hi, hq0, hq1, hq2⟩ := info_parts infoPart
          have HI := Lib.hid hi
          have HS2 := Lib.hid hs2
          have HP2 := Lib.hid hp2
          have hm1 : done.length + j + 1 ≤ maxLen := by simp only [maxLen]; omega
          have hm2 : (done.length + j + 1) * 24 ≤ 140737488355328 := by omega
          have HSN2 := Lib.hid (show ∀ W, Below w.heap.size w W → W.cell? ⟨k.g, 2, none⟩ = some (.slice (some ⟨tb, to_, none⟩) t.zones.length x.cz) ∧ W.cell? ⟨tb, to_ + zn * 3, none⟩ = some (.int .i64 cz) from fun W hb => by
            have h2 := (HW.out.below hb).hk.cell 2
            simp [workV] at h2
            rw [htz] at h2
            refine ⟨h2, ?_⟩
            have h3 := (hb.cell (p := ⟨tb, to_ + zn * 3, none⟩) htb).trans ((HBW.out.cell (p := ⟨tb, to_ + zn * 3, none⟩) htb).symm.trans g0)
            exact h3)
          clear hkr hz hts hs2 hp2 htz hcz hcz2 hsm hi hbj
          go_wp2_with (at_builtin; refine wpList_append_lies _ rfl (.tmp 30) (.tmp 47) 92 rfl w.heap.size 96 i0 _ 3 24 Try.underlying92 HI.out hq0 hq1 hq2 rfl (by decide) (.slice AR (done.length + j) cR) (done.length + j) ((partsGo t 0 (done ++ zl.take j)).flatMap enc3) rfl (HVj.out.alloc _) ⟨wr.heap.size, 0, none⟩ 1 1 [.int .i64 (zn : Int), .int .i64 sm, .int .i64 (sm + cz - 1)] rfl rfl (news_of1 wr 96 #[.int .i64 (zn : Int), .int .i64 sm, .int .i64 (sm + cz - 1)]) (by intro u hu; simp at hu; rcases hu with rfl | rfl | rfl <;> rfl) (by decide) hm1 hm2 (by simp; omega) (wr.heap.size + 1) (by simp) ?_; intro g7 cap7 w7 hown7 hgrow7 hat7 hlt7; have hb7 := (HBW.out.alloc hsz (.cells #[.int .i64 (zn : Int), .int .i64 sm, .int .i64 (sm + cz - 1)] 96)).grown hgrow7 (by simp; omega) (fun p hp => (HVj.out.lt p hp).1); obtain ⟨y7, g7c⟩ := HSN2.out w7 hb7; have HO7 := Lib.hid hown7; have HB7 := Lib.hid hb7; clear hown7 hgrow7 hat7 hb7 y2 g0)
          go_roundw
          case rel =>
            refine ⟨j + 1, by omega, by go_num, by rw [HS2.out], ?_, HB7.out⟩
            rw [HP2.out]
            rw [List.flatMap_append]
            exact Lib.hid HO7.out
          case measure => simp [intOf]; omega
        · obtain rfl : j = zl.length := by omega
          have hds : done ++ zl.take zl.length = zoneL (edsR t) (o.take (q + 1)) := by rw [HSN.out]; simp
          have HDS := Lib.hid hds
          have hdz : done.length + zl.length = (zoneL (edsR t) (o.take (q + 1))).length := by rw [← hds]; simp
          have HDZ := Lib.hid hdz
          clear hds hdz
          go_wp2_with fail
          go_roundw
          case rel => exact ⟨q + 1, by omega, by go_num, by rw [HDS.out], Lib.hid (by rw [← HDZ.out, ← HDS.out]; exact HVj.out), HBW.out⟩
          case measure => simp [intOf]; omega
    · obtain rfl : q = o.length := by omega
      rw [List.take_of_length_le (Nat.le_refl _)] at HV
      obtain ⟨AR, cR, hvr⟩ := own_shape HV.out
      subst hvr
      go_wp2_with fail
      go_ret
      refine ⟨AR, cR, by rw [HPL.out]; rfl, ?_, HB.out⟩
      rw [HPL.out]
      exact HV.out
section
set_option maxRecDepth 20000 in
set_option maxHeartbeats 2000000 in
theorem Parts_ok (t : TitD) (x : TA) (zs : List ZonM) (w : World) (hs : Sizes t) (hT : TitAt w w.heap.size t x zs) (A : Option Addr) (c : Nat) (o : List Nat) (hl : o.length ≤ 1000) (hA : Sl encInt 1 w w.heap.size A (o.map fun (e : Nat) => (e : Int))) (hc : checkT t = 0) (ho : ordersB (edsR t).length (o.map fun (e : Nat) => (e : Int)) = true) :
    Calls Try.prog 38 #[.agg (titV t x), .slice A o.length c] w fun e w' => ∃ A' c', e = .returned (.tuple #[.slice A' (partsL t (edsR t) o).length c', .int .i64 0]) ∧ w'.ownsRow w.heap.size 96 3 (.slice A' (partsL t (edsR t) o).length c') (partsL t (edsR t) o).length ((partsL t (edsR t) o).flatMap enc3) ∧ Below w.heap.size w w' := by
  obtain ⟨w1, hw1⟩ : ∃ W, W = w.alloc (.cells (titV t x) 86) := ⟨_, rfl⟩
  have hb1 : Below w.heap.size w w1 := by rw [hw1]; exact (Below.refl _ _).alloc (Nat.le_refl _) _
  obtain ⟨gT, hgT⟩ : ∃ g, g = w.heap.size := ⟨_, rfl⟩
  have kT : Blk w1 gT 86 (titV t x) := by rw [hw1, hgT]; exact Blk.new _ _ _
  have r0 := kT.cell 0
  have r1 := kT.cell 1
  have r2 := kT.cell 2
  have r3 := kT.cell 3
  have r4 := kT.cell 4
  have r5 := kT.cell 5
  have r6 := kT.cell 6
  have r7 := kT.cell 7
  simp [titV] at r0 r1 r2 r3 r4 r5 r6 r7
  have hlo : (o.map fun (e : Nat) => (e : Int)).length = o.length := by simp
  have HCK := Lib.hid (ask_okZ t x zs w1 hs ((hT.below hb1).mono hb1.size) A c (o.map fun (e : Nat) => (e : Int)) (by rw [hlo]; omega) ((hA.below hb1).mono hb1.size) hc)
  rw [hlo, ho] at HCK
  simp only [if_true] at HCK
  have hoe : ∀ e ∈ o, e < (edsR t).length := by
    intro e he
    unfold ordersB at ho
    simp only [Bool.and_eq_true] at ho
    have := inB_iffZ.1 (List.all_eq_true.1 ho.1.2 (e : Int) (List.mem_map.2 ⟨e, he, rfl⟩))
    omega
  have HT1 := Lib.hid ((hT.below hb1).mono hb1.size)
  have HA1 := Lib.hid ((hA.below hb1).mono hb1.size)
  have HPA := Lib.hid (fun (k : Wk) W (hk : WorkAt W w1.heap.size t x k) (hb : Below w1.heap.size w1 W) => parts_any t x zs k w1.heap.size A c o W (chk_ok hc) ((HT1.out.below hb).mono hb.size) hk hl hoe ((HA1.out.below hb).mono hb.size))
  have HB1 := Lib.hid hb1
  have HW1 := Lib.hid hw1
  have HGT := Lib.hid hgT
  clear hb1 hw1 hgT kT hT hs hc hA ho hoe hlo
  unfold titV at *
  go_enter Try.func38, Try.ntmps38
  go_upto_region 1 with fail
  rw [← HW1.out, ← HGT.out]
  go_wp2_with first
    | (go_at_call 84; refine HCK.out.mono ?_; rintro e w2 ⟨k, rfl, hk, hb2⟩; have HB2 := Lib.hid hb2; have HK := Lib.hid hk; clear hb2 hk)
    | (go_at_call 85; refine (HPA.out k _ HK.out HB2.out).mono ?_; rintro e w3 ⟨A', c', rfl, hown, hb3⟩; have HO3 := Lib.hid hown; have HB3 := Lib.hid (HB2.out.trans (hb3.mono HB2.out.size)); have hs2 := HB2.out.size; clear hown hb3)
  go_ret2
  exact ⟨A', c', rfl, World.ownsRow.mono HO3.out (Nat.le_trans HB1.out.size hs2), HB1.out.trans (HB3.out.mono HB1.out.size)⟩
end
end Go.Proofs.Ytnbnfadmbggfnaa
namespace Go.Proofs.Ytnbnfadmbggfnaa
open Go.RowKit Go.Fh Go.Ed Go.Shelf
attribute [local go_sem] Oper.semAt_some
end Go.Proofs.Ytnbnfadmbggfnaa
namespace Go.Ed
open Go.Fh Go.RowKit Go.Proofs.Ytnbnfadmbggfnaa
/-- whatever there is, but for two blocks and a row, lies as it lay -/
structure Same (gO gB : Nat) (r : Option Nat) (A C : Go.World) : Prop where
  os : C.os = A.os
  tape : C.tape = A.tape
  output : C.output = A.output
  size : A.heap.size ≤ C.heap.size
  block : ∀ j, j < A.heap.size → j ≠ gO → j ≠ gB → some j ≠ r → C.heap[j]? = A.heap[j]?
/-- a row is the same one, or a later one -/
def Lat (r : Option Nat) (A : Go.World) (r' : Option Nat) : Prop := r' = r ∨ ∀ j, r' = some j → A.heap.size ≤ j
theorem Lat.refl (r : Option Nat) (A : Go.World) : Lat r A r := .inl rfl
theorem Lat.trans {r r' r'' : Option Nat} {A C : Go.World} (h : Lat r A r') (k : Lat r' C r'') (hs : A.heap.size ≤ C.heap.size) : Lat r A r'' := by
  rcases k with k | k
  · rw [k]; exact h
  · exact .inr fun j e => Nat.le_trans hs (k j e)
theorem Same.refl (gO gB : Nat) (r : Option Nat) (A : Go.World) : Same gO gB r A A := ⟨rfl, rfl, rfl, Nat.le_refl _, fun _ _ _ _ _ => rfl⟩
theorem Same.trans {gO gB : Nat} {r r' : Option Nat} {A C D : Go.World} (h : Same gO gB r A C) (k : Same gO gB r' C D) (hr : Lat r A r') : Same gO gB r A D :=
  ⟨k.os.trans h.os, k.tape.trans h.tape, k.output.trans h.output, Nat.le_trans h.size k.size, fun j a b c d => (k.block j (Nat.lt_of_lt_of_le a h.size) b c (fun e => by
    rcases hr with q | q
    · exact d (e.trans q)
    · have := q j e.symm; omega)).trans (h.block j a b c d)⟩
theorem Same.of_below {gO gB : Nat} {r : Option Nat} {A C : Go.World} (h : Below A.heap.size A C) : Same gO gB r A C := ⟨h.os, h.tape, h.output, h.size, fun j hj _ _ _ => h.block j hj⟩
theorem Same.grown {gO gB : Nat} {r r' : Option Nat} {A C D : Go.World} (h : Same gO gB r A C) (hg : C.grownBy D r') (hr : ∀ j, r' = some j → A.heap.size ≤ j ∨ j = gO ∨ j = gB ∨ r' = r) : Same gO gB r A D :=
  ⟨hg.os.trans h.os, hg.tape.trans h.tape, hg.output.trans h.output, Nat.le_trans h.size hg.size, fun j a b c d => (hg.block j (Nat.lt_of_lt_of_le a h.size) (fun e => by
    rcases hr j e.symm with q | q | q | q
    · omega
    · exact b q
    · exact c q
    · exact d (e.trans q))).trans (h.block j a b c d)⟩
theorem Same.below {g0 gO gB : Nat} {r : Option Nat} {w A C : Go.World} (h : Same gO gB r A C) (hb : Below g0 w A) (h0 : g0 ≤ A.heap.size) (h2 : g0 ≤ gO) (h3 : g0 ≤ gB) (hr : ∀ j, r = some j → g0 ≤ j) : Below g0 w C :=
  ⟨h.os.trans hb.os, h.tape.trans hb.tape, h.output.trans hb.output, Nat.le_trans hb.size h.size, fun j hj => (h.block j (by omega) (by omega) (by omega) (fun e => by have := hr j e.symm; omega)).trans (hb.block j hj)⟩
def intsV (o : List Nat) : List Go.Value := (o.map fun (e : Nat) => (e : Int)).map (Go.Value.int .i64)
/-- the order and the best order lie in memory -/
structure SrB (B gO gB : Nat) (o : List Nat) (b : Best) (v bo : Go.Value) (bp bf : Int) (W : Go.World) : Prop where
  box : Blk W gO 47 #[v]
  row : W.ownsRow B 3 1 v o.length (intsV o)
  best : Blk W gB 151 #[bo, .int .i64 bp, .int .i64 bf]
  none_ : b = none → bo = .slice none 0 0
  some_ : ∀ ob p f, b = some (ob, p, f) → 0 < ob.length ∧ W.ownsRow B 3 1 bo ob.length (intsV ob) ∧ bp = p ∧ bf = f ∧ v.ownBlock ≠ bo.ownBlock
theorem SrB.below {B gO gB : Nat} {o : List Nat} {b : Best} {v bo : Go.Value} {bp bf : Int} {W W' : Go.World} (h : SrB B gO gB o b v bo bp bf W) (hb : Below W.heap.size W W') : SrB B gO gB o b v bo bp bf W' :=
  ⟨h.box.below hb h.box.lt, own_belowV h.row hb, h.best.below hb h.best.lt, h.none_, fun ob p f e => by
    obtain ⟨h1, h2, h3⟩ := h.some_ ob p f e
    exact ⟨h1, own_belowV h2 hb, h3⟩⟩
end Go.Ed
namespace Go.Proofs.Ytnbnfadmbggfnaa
open Go.RowKit Go.Fh Go.Ed
/-- the numbers of a list, in memory: i of them are read -/
structure DigAtZ (w : World) (B : Nat) (A : Option Addr) (c : Nat) (l : List Nat) (g i : Nat) : Prop where
  k : Blk w g 154 #[.slice A l.length c, .int .i64 i]
  s : Sl encBn 1 w B A l
  lo : B ≤ g
  len : l.length ≤ 9223372036854775807
  bd : ∀ x ∈ l, x ≤ 255
set_option maxRecDepth 20000 in
set_option maxHeartbeats 2000000 in
theorem digit_anyZ (w : World) (B : Nat) (A : Option Addr) (c : Nat) (l : List Nat) (g i n : Nat) (h : DigAtZ w B A c l g i) (hi : i ≤ 1000000000) (hn : 0 < n) (hn2 : n ≤ 1000) :
    Calls Try.prog 80 #[.pointer (some ⟨g, 0, none⟩), .int .i64 n] w fun e w' => e = .returned (.int .i64 (digZ l i n)) ∧ DigAtZ w' B A c l g (i + 1) ∧ Same g g none w w' := by
  have c0 := h.k.cell 0
  have c1 := h.k.cell 1
  have z1 := h.k.frozen 1
  simp at c0 c1
  obtain ⟨w1, hw1⟩ : ∃ W, W = w.setCell ⟨g, 1, none⟩ (.int .i64 ((i : Int) + 1)) := ⟨_, rfl⟩
  have k1 : Blk w1 g 154 #[.slice A l.length c, .int .i64 ((i : Int) + 1)] := by rw [hw1]; simpa using h.k.set_ 1 (.int .i64 ((i : Int) + 1))
  have sm : Same g g none w w1 := by
    rw [hw1]
    exact ⟨rfl, rfl, rfl, by simp [World.setCell], fun j hj h1 h2 _ => by rw [Below.heap_setCell _ _ _ j (by exact h1)]⟩
  have s1 : Sl encBn 1 w1 B A l := h.s.below (by rw [hw1]; exact (Below.refl _ _).setCell (by exact h.lo) _)
  have hl := h.len
  have hbd := h.bd
  have hlo := h.lo
  have fin : ∀ W, Below w1.heap.size w1 W → DigAtZ W B A c l g (i + 1) ∧ Same g g none w W := fun W hb => ⟨⟨by simpa using k1.below hb k1.lt, s1.keep fun p hp => hb.cell (by have := k1.lt; omega), hlo, hl, hbd⟩, sm.trans (Same.of_below hb) (.inl rfl)⟩
  have hd0 : l.length ≤ i → digZ l i n = 0 := fun h => by simp [digZ, List.getD_eq_getElem?_getD, List.getElem?_eq_none h]
  have hd1 : ∀ h : i < l.length, digZ l i n = ((l[i] % n : Nat) : Int) := fun h => by simp [digZ, List.getD_eq_getElem?_getD, h]
  have FIN := Lib.hid fin
  have K1 := Lib.hid k1
  have S1 := Lib.hid s1
  have HW1 := Lib.hid hw1
  have HD0 := Lib.hid hd0
  have HD1 := Lib.hid hd1
  have HBD := Lib.hid hbd
  clear sm hd0 hd1 fin hbd k1 s1 hw1
  by_cases hlt : i < l.length
  · obtain ⟨b, off, rfl, hb, d0⟩ := Sl.atBn S1.out hlt
    have hb2 : b < w1.heap.size := by have := K1.out.lt; omega
    have hli := HBD.out _ (List.getElem_mem hlt)
    have SB := Lib.hid (show ∀ W, Below w1.heap.size w1 W → (W.cell? ⟨g, 0, none⟩ = some (.slice (some ⟨b, off, none⟩) l.length c) ∧ W.cell? ⟨g, 1, none⟩ = some (.int .i64 ((i : Int) + 1)) ∧ W.cell? ⟨b, off + i, none⟩ = some (.int .u8 ((l[i] : Nat) : Int))) from fun W hb => ⟨by rw [(K1.out.below hb K1.out.lt).cell]; simp, by rw [(K1.out.below hb K1.out.lt).cell]; simp, (hb.cell (p := ⟨b, _, none⟩) hb2).trans d0⟩)
    clear d0
    have hq0 : (0 : Int) ≤ (i : Int) := by omega
    have hq3 : (i : Int) < (l.length : Int) := by omega
    have hr1 : IntKind.i64.wrap ((i : Int) + 1) = (i : Int) + 1 := by rw [IntKind.wrap_i64]; omega
    have hr2 : IntKind.i64.wrap ((i : Int) + 1 - 1) = (i : Int) := by rw [IntKind.wrap_i64]; omega
    have hr3 : IntKind.i64.wrap (i : Int) = (i : Int) := by rw [IntKind.wrap_i64]; omega
    go_enter Try.func80, Try.ntmps80
    go_upto_region 2 with fail
    rw [← HW1.out]
    clear c0 c1 z1
    go_region_held3 (fun w' => w'.cell? ⟨g, 0, none⟩ = some (.slice (some ⟨b, off, none⟩) l.length c) ∧ w'.cell? ⟨g, 1, none⟩ = some (.int .i64 ((i : Int) + 1)) ∧ w'.cell? ⟨b, off + i, none⟩ = some (.int .u8 ((l[i] : Nat) : Int)))
      (exact SB.out _ (by repeat (first | exact Below.refl _ _ | refine Below.drew ?_ | refine below_drewN ?_ _)))
      (fail)
    all_goals
      go_upto_region 4 with fail
      obtain ⟨k0, k1, k2⟩ := SB.out w1 (Below.refl _ _)
      have hn0 : ((n : Int) == 0) = false := by simp; omega
      have hn1 : ¬ ((n : Int) = 0) := by omega
      have hn2 : n ≠ 0 := by omega
      go_quiet (fail)
    all_goals
      go_wp2_with fail
      go_ret
      refine ⟨by rw [HD1.out hlt]; simp, FIN.out _ (by repeat (first | exact Below.refl _ _ | refine Below.drew ?_ | refine below_drewN ?_ _))⟩
  · have hge : (l.length : Int) < (i : Int) + 1 := by omega
    have SB := Lib.hid (show ∀ W, Below w1.heap.size w1 W → (W.cell? ⟨g, 0, none⟩ = some (.slice A l.length c) ∧ W.cell? ⟨g, 1, none⟩ = some (.int .i64 ((i : Int) + 1))) from fun W hb => ⟨by rw [(K1.out.below hb K1.out.lt).cell]; simp, by rw [(K1.out.below hb K1.out.lt).cell]; simp⟩)
    have hr1 : IntKind.i64.wrap ((i : Int) + 1) = (i : Int) + 1 := by rw [IntKind.wrap_i64]; omega
    go_enter Try.func80, Try.ntmps80
    go_upto_region 2 with fail
    rw [← HW1.out]
    clear c0 c1 z1
    go_region_held3 (fun w' => w'.cell? ⟨g, 0, none⟩ = some (.slice A l.length c) ∧ w'.cell? ⟨g, 1, none⟩ = some (.int .i64 ((i : Int) + 1)))
      (exact SB.out _ (by repeat (first | exact Below.refl _ _ | refine Below.drew ?_ | refine below_drewN ?_ _)))
      (fail)
    all_goals
      go_wp2_with fail
      go_ret
      refine ⟨by rw [HD0.out (by omega)]; rfl, FIN.out _ (by repeat (first | exact Below.refl _ _ | refine Below.drew ?_ | refine below_drewN ?_ _))⟩
end Go.Proofs.Ytnbnfadmbggfnaa
namespace Go.Fh
open Go.RowKit
theorem gr_same {g : Nat} {w w' : World} (h : Go.Ed.Same g g none w w') : w.grownBy w' (some g) :=
  ⟨h.os, h.tape, h.output, h.size, fun j hj hne => h.block j hj (fun e => hne (by rw [e])) (fun e => hne (by rw [e])) (by simp)⟩
end Go.Fh
namespace Go.Proofs.Ytnbnfadmbggfnaa
open Go.RowKit Go.Fh Go.Ed
theorem DigAtZ.gr {w w' : World} {B : Nat} {A : Option Addr} {c : Nat} {l : List Nat} {g i : Nat} {r : Option Nat} (h : DigAtZ w B A c l g i) (hg : w.grownBy w' r) (hr : r ≠ some g) (hlo : ∀ j, r = some j → B ≤ j) : DigAtZ w' B A c l g i :=
  ⟨h.k.grown hg (fun e => hr e.symm), h.s.keep fun p hp => by
    have h1 := h.lo
    have h2 := h.k.lt
    exact hg.cell_far p (by omega) (fun e => by have := hlo _ e.symm; omega), h.lo, h.len, h.bd⟩
theorem digit_gr (w : World) (B : Nat) (A : Option Addr) (c : Nat) (l : List Nat) (g i n : Nat) (h : DigAtZ w B A c l g i) (hi : i ≤ 1000000000) (hn : 0 < n) (hn2 : n ≤ 1000) :
    Calls Try.prog 80 #[.pointer (some ⟨g, 0, none⟩), .int .i64 n] w fun e w' => e = .returned (.int .i64 (digZ l i n)) ∧ DigAtZ w' B A c l g (i + 1) ∧ w.grownBy w' (some g) :=
  (digit_anyZ w B A c l g i n h hi hn hn2).mono (by rintro e w' ⟨h1, h2, h3⟩; exact ⟨h1, h2, gr_same h3⟩)
end Go.Proofs.Ytnbnfadmbggfnaa
namespace Go.Proofs.Ytnbnfadmbggfnaa
open Go.RowKit Go.Fh Go.Ed
theorem digit_gmZ (w : World) (B : Nat) (A : Option Addr) (c : Nat) (l : List Nat) (g i n : Nat) (m : Int) (hm : m = (n : Int)) (h : DigAtZ w B A c l g i) (hi : i ≤ 1000000000) (hn : 0 < n) (hn2 : n ≤ 1000) :
    Calls Try.prog 80 #[.pointer (some ⟨g, 0, none⟩), .int .i64 m] w fun e w' => e = .returned (.int .i64 (digZ l i n)) ∧ DigAtZ w' B A c l g (i + 1) ∧ w.grownBy w' (some g) := by
  subst hm; exact digit_gr w B A c l g i n h hi hn hn2
end Go.Proofs.Ytnbnfadmbggfnaa
namespace Go.Proofs.Ytnbnfadmbggfnaa
open Go.RowKit Go.Fh Go.Ed
/-- the numbers, the title in the making, and its place -/
structure Mk (w W : World) (A : Option Addr) (c : Nat) (l : List Nat) (g i gT : Nat) (cs : Array Value) : Prop where
  hd : DigAtZ W w.heap.size A c l g i
  kT : Blk W gT 86 cs
  kR : Blk W w.heap.size 86 #[.slice none 0 0, .slice none 0 0, .slice none 0 0, .slice none 0 0, .int .i64 0, .int .i64 0, .int .i64 0, .int .i64 0]
  low : Below w.heap.size w W
  n1 : gT ≠ g
  n2 : w.heap.size < g
  n3 : w.heap.size < gT
section
variable {w W W' : World} {A : Option Addr} {c : Nat} {l : List Nat} {g i gT : Nat} {cs : Array Value}
theorem Mk.gr (h : Mk w W A c l g i gT cs) {r : Option Nat} (hg : W.grownBy W' r) (h1 : r ≠ some g) (h2 : r ≠ some gT) (h3 : r ≠ some w.heap.size) (h4 : ∀ j, r = some j → w.heap.size ≤ j) : Mk w W' A c l g i gT cs :=
  ⟨h.hd.gr hg h1 h4, h.kT.grown hg (fun e => h2 e.symm), h.kR.grown hg (fun e => h3 e.symm), h.low.grown hg h.low.size h4, h.n1, h.n2, h.n3⟩
theorem Mk.dig_ (h : Mk w W A c l g i gT cs) {i' : Nat} (hd : DigAtZ W' w.heap.size A c l g i') (hg : W.grownBy W' (some g)) : Mk w W' A c l g i' gT cs :=
  ⟨hd, h.kT.grown hg (fun e => h.n1 (by injection e)), h.kR.grown hg (fun e => by have := h.n2; injection e with e; omega), h.low.grown hg h.low.size (fun j e => by have := h.n2; injection e with e; omega), h.n1, h.n2, h.n3⟩
theorem Mk.row (h : Mk w W A c l g i gT cs) {base : Nat} {e : TypeId} {s n : Nat} {v : Value} {xs : List Value} (ho : W.ownsRow base e s v n xs) (he : e ≠ 86) (he2 : e ≠ 154) (hb : w.heap.size ≤ base) (hg : W.grownBy W' v.ownBlock) : Mk w W' A c l g i gT cs :=
  h.gr hg (fun e => own_blk_ne ho h.hd.k he2 e.symm) (fun e => own_blk_ne ho h.kT he e.symm) (fun e => own_blk_ne ho h.kR he e.symm) (fun j e => by have := (ho.lt j e).1; omega)
theorem Mk.set_ (h : Mk w W A c l g i gT cs) (k : Nat) (u : Value) : Mk w (W.setCell ⟨gT, k, none⟩ u) A c l g i gT (cs.setIfInBounds k u) :=
  ⟨h.hd.gr (gr_set W gT k u) (fun e => h.n1 (by injection e)) (fun j e => by have := h.n3; injection e with e; omega), h.kT.set_ k u, h.kR.far (p := ⟨gT, k, none⟩) (by have := h.n3; show w.heap.size ≠ gT; omega) u, h.low.setCell (by have := h.n3; show w.heap.size ≤ gT; omega) u, h.n1, h.n2, h.n3⟩
theorem Mk.fresh (h : Mk w W A c l g i gT cs) (o : Obj) : Mk w (W.alloc o) A c l g i gT cs := h.gr (World.grownBy_alloc W o none) (by simp) (by simp) (by simp) (by simp)
theorem Mk.drew (h : Mk w W A c l g i gT cs) : Mk w W.drew A c l g i gT cs := h.gr (gr_drew (gr_refl W none)) (by simp) (by simp) (by simp) (by simp)
end
end Go.Proofs.Ytnbnfadmbggfnaa
namespace Go.Fh
open Go.RowKit Go.Ed
theorem same_own {gO gB : Nat} {w w' : World} {base : Nat} {e : TypeId} {s n : Nat} {v : Value} {xs : List Value} (h : Same gO gB none w w') (ho : w.ownsRow base e s v n xs) (h1 : some gO ≠ v.ownBlock) (h2 : some gB ≠ v.ownBlock) : w'.ownsRow base e s v n xs :=
  own_heap ho fun g cs hv hg => h.block g (Array.getElem?_eq_some_iff.1 hg).1 (fun e => h1 (by rw [hv, e])) (fun e => h2 (by rw [hv, e])) (by simp)
theorem same_gr {gO gB : Nat} {w W W' : World} {r : Option Nat} (h : Same gO gB none w W) (hg : W.grownBy W' r) (hr : ∀ j, r = some j → w.heap.size ≤ j ∨ j = gO ∨ j = gB) : Same gO gB none w W' :=
  h.grown hg fun j e => by
    rcases hr j e with a | a | a
    · exact .inl a
    · exact .inr (.inl a)
    · exact .inr (.inr (.inl a))
end Go.Fh
namespace Go.Ed
theorem dueM_i (l : List Nat) (i : Nat) : (dueM l i).2 ≤ i + 2 := by unfold dueM; split <;> simp
theorem zonM_i (l : List Nat) (n i : Nat) : (zonM l n i).2 ≤ i + 3 + n := by
  have := dueM_i l (i + 1)
  show (dueM l (i + 1)).2 + n ≤ _
  omega
theorem zonsM_i (l : List Nat) (n i k : Nat) : (zonsM l n i k).2 ≤ i + k * (3 + n) := by
  induction k with
  | zero => simp [zonsM]
  | succ k ih =>
    have := zonM_i l n (zonsM l n i k).2
    show (zonM l n (zonsM l n i k).2).2 ≤ _
    rw [Nat.add_mul]
    omega
theorem rdyM_i (l : List Nat) (i k : Nat) : (rdyM l i k).2 ≤ i + 3 * k := by
  induction k with
  | zero => simp [rdyM]
  | succ k ih => unfold rdyM; split <;> simp <;> omega
end Go.Ed
namespace Go.Proofs
open Go.Shelf
def Try.lays21_ren : Go.Shelf.Ren := ⟨fun | 21 => 37 | 27 => 82 | 28 => 83 | 35 => 123 | 39 => 137 | n => n, fun | 22 => 47 | n => n, fun | n => n⟩
theorem Try.lays21 : Go.Proofs.Lays2.n21 Try.prog Try.lays21_ren := {
  mixed := by kernel_rfl
  f21 := Try.func37.trans (congrArg some (by kernel_rfl))
  f27 := Try.func82.trans (congrArg some (by kernel_rfl))
  f28 := Try.func83.trans (congrArg some (by kernel_rfl))
  f35 := Try.func123.trans (congrArg some (by kernel_rfl))
  f39 := Try.func137.trans (congrArg some (by kernel_rfl))
  t0 := Try.underlying0
  a0 := Try.isAgg0
  z0 := Try.sizeOf0
  v0 := Try.zeroValue0
  t3 := Try.underlying3
  a3 := Try.isAgg3
  z3 := Try.sizeOf3
  v3 := Try.zeroValue3
  t4 := Try.underlying4
  a4 := Try.isAgg4
  z4 := Try.sizeOf4
  v4 := Try.zeroValue4
  t22 := Try.underlying47
  a22 := Try.isAgg47
  z22 := Try.sizeOf47
  v22 := Try.zeroValue47
  i3 := by kernel_rfl }
end Go.Proofs
namespace Go.Fh
open Go.RowKit
theorem own_of_cells {w : World} {g base cap : Nat} {t : TypeId} {a : Array Value} (h : Blk w g t a) (hs : a.size = cap) (hb : base ≤ g) (hcap : cap ≤ maxLen) (ys : List Value) (hn : ys.length ≤ cap) (hc : ∀ j (hj : j < ys.length), w.cell? ⟨g, j, none⟩ = some ys[j]) :
    w.ownsRow base t 1 (.slice (some ⟨g, 0, none⟩) ys.length cap) ys.length ys := by
  refine ⟨by simp, .inr ⟨g, cap, a, rfl, hb, h, hn, hcap, by simpa using hs, ?_⟩⟩
  apply List.ext_getElem
  · simp; omega
  · intro j h1 h2
    have := hc j h2
    rw [h.cell] at this
    simp at h1 ⊢
    rw [Array.getElem?_eq_getElem (by omega)] at this
    exact Option.some.inj this
/-- two writes side by side: the row with one more laid in -/
theorem ins_cells {w : World} {g i : Nat} {xs : List Value} {x : Value} (hi : i ≤ xs.length) (hp : ∀ j, j < xs.length + 1 → (w.cell? ⟨g, j, none⟩).isSome = true) (hc : ∀ j (hj : j < xs.length), j < i → w.cell? ⟨g, j, none⟩ = some xs[j]) (w2 : World)
    (h2 : ∀ j, j < i → w2.cell? ⟨g, j, none⟩ = w.cell? ⟨g, j, none⟩) (h3 : w2.cell? ⟨g, i, none⟩ = some x) (h4 : ∀ j (hj : j < (xs.drop i).length), w2.cell? ⟨g, i + 1 + j, none⟩ = some (xs.drop i)[j]) :
    ∀ j (hj : j < (xs.insertIdx i x).length), w2.cell? ⟨g, j, none⟩ = some (xs.insertIdx i x)[j] := by
  intro j hj
  rw [List.length_insertIdx_of_le_length hi] at hj
  rw [List.getElem_insertIdx]
  split
  · rename_i h; rw [h2 j h, hc j (by omega) h]
  · split
    · rename_i h h'; rw [h']; exact h3
    · rename_i h h'
      have := h4 (j - (i + 1)) (by simp; omega)
      rw [show i + 1 + (j - (i + 1)) = j by omega] at this
      rw [this, List.getElem_drop]
      congr 2
      omega
end Go.Fh
namespace Go.Proofs.Ytnbnfadmbggfnaa
open Go.RowKit Go.Fh Go.Ed
/-- what Insert of one number gives -/
def InsPost (w : World) (base : Nat) (A : Option Addr) (n c : Nat) (zs : List Value) (e : Ending) (w' : World) : Prop :=
  ∃ A' c', e = .returned (.slice A' (n + 1) c') ∧ w'.ownsRow base 3 1 (.slice A' (n + 1) c') (n + 1) zs ∧ w.grownBy w' (Value.slice A n c).ownBlock ∧ (A' = A ∨ ∃ g, A' = some ⟨g, 0, none⟩ ∧ w.heap.size ≤ g)
theorem grown_setCells {w w0 : World} {g : Nat} {r : Option Nat} (hr : r = some g) : ∀ (vs : List Value) (o : Nat) (w : World), w0.grownBy w r → w0.grownBy (w.setCells g o vs) r
  | [], _, _, h => h
  | v :: vs, o, w, h => grown_setCells (w := w) hr vs (o + 1) _ ⟨h.os, h.tape, h.output, by simpa [World.setCell] using h.size, fun j hj hne => by
      rw [Below.heap_setCell _ _ _ j (by intro e; apply hne; rw [hr]; exact congrArg some e)]; exact h.block j hj hne⟩
theorem cells_of_take {w : World} {g : Nat} {t : TypeId} {cur : Array Value} {ys : List Value} (hk : Blk w g t cur) (hy : cur.toList.take ys.length = ys) : ∀ j (hj : j < ys.length), w.cell? ⟨g, j, none⟩ = some ys[j] := by
  intro j hj
  rw [hk.cell]
  have h : (cur.toList.take ys.length)[j]? = some ys[j] := by rw [hy]; simp [hj]
  rw [List.getElem?_take, if_pos hj] at h
  simpa using h
theorem insert_end_room (w : World) (base g c vb : Nat) (ys : List Value) (y : Value) (cur : Array Value) (hk : Blk w g 3 cur) (hcs : cur.size = c) (hb : base ≤ g) (hcm : c ≤ maxLen) (hy : cur.toList.take ys.length = ys) (hv : Blk w vb 3 #[y]) (hroom : ys.length + 1 ≤ c) (h1 : y.oneCell' = true) :
    Calls Try.prog 37 #[.slice (some ⟨g, 0, none⟩) ys.length c, .int .i64 ys.length, .slice (some ⟨vb, 0, none⟩) 1 1] w (InsPost w base (some ⟨g, 0, none⟩) ys.length c (ys.insertIdx ys.length y)) := by
  have hcell : ∀ j, j < c → w.cell? ⟨g, j, none⟩ = some (cur[j]!) := fun j hj => by rw [hk.cell]; simp [show j < cur.size by omega]
  refine (Any2.slices_Insert_int_end_room Try.lays21 g 0 ys.length c vb 0 1 1 [y] w (by omega) hroom (by simpa [maxLen] using hcm) rfl (fun j hj => by rw [hcell _ (by omega)]; rfl) (fun j hj => hk.frozen _) (fun j v hj => by cases j with | zero => (rw [hv.cell]; simpa using hj) | succ j => (simp at hj)) (fun v hv => by simp at hv; subst hv; exact h1)).mono ?_
  rintro e w' ⟨rfl, rfl⟩
  obtain ⟨a', ha, hsz⟩ := blk_setCells [y] (0 + ys.length) w cur hk
  refine ⟨_, _, rfl, ?_, grown_setCells (w := w) rfl _ _ _ ⟨rfl, rfl, rfl, Nat.le_refl _, fun _ _ _ => rfl⟩, .inl rfl⟩
  have hlen : (ys.insertIdx ys.length y).length = ys.length + 1 := List.length_insertIdx_of_le_length (Nat.le_refl _) _
  have key := own_of_cells ha (cap := c) (by omega) hb hcm (ys.insertIdx ys.length y) (by omega) ?_
  · rw [hlen] at key; exact key
  · refine ins_cells (Nat.le_refl _) (fun j hj => by rw [hcell j (by omega)]; rfl) (fun j hj _ => cells_of_take hk hy j hj) _ (fun j hj => World.cell?_setCells_out g _ _ _ _ (fun _ _ => .inl (by simp only; omega))) ?_ (fun j hj => by simp at hj)
    have := World.cell?_setCells_in g [y] (0 + ys.length) w (fun j hj => by rw [hcell _ (by simp at hj; omega)]; rfl) 0 (by simp)
    rw [show 0 + ys.length + 0 = ys.length by omega] at this
    exact this
theorem insert_end_grow (w : World) (base c vb : Nat) (A : Option Addr) (ys : List Value) (y : Value) (hbase : base ≤ w.heap.size) (hA : A = none → ys.length = 0) (hc : ∀ a, A = some a → ∀ j v, ys[j]? = some v → w.cell? (a.add j) = some v) (hv : Blk w vb 3 #[y]) (hnc : ys.length ≤ c) (hroom : c < ys.length + 1) (hl : ys.length ≤ 1000000) (h1 : y.oneCell' = true) :
    Calls Try.prog 37 #[.slice A ys.length c, .int .i64 ys.length, .slice (some ⟨vb, 0, none⟩) 1 1] w (InsPost w base A ys.length c (ys.insertIdx ys.length y)) := by
  refine (Any2.slices_Insert_int_end_grow Try.lays21 A ys.length c vb 0 1 1 ys [y] w (by omega) hnc hroom (by omega) rfl rfl hA hc (fun j v hj => by cases j with | zero => (rw [hv.cell]; simpa using hj) | succ j => (simp at hj)) (fun v hv => by simp at hv; subst hv; exact h1)).mono ?_
  rintro e w' ⟨rfl, rfl⟩
  have hge := grownCap_ge w (ys.length + 1) c (Try.lays21_ren.t 3)
  have hle := grownCap_le_maxLen w (ys.length + 1) c (Try.lays21_ren.t 3) (by simp only [maxLen]; omega)
  have hins : ys.insertIdx ys.length y = ys ++ [y] := List.insertIdx_length_self
  refine ⟨_, _, rfl, ?_, ⟨rfl, rfl, rfl, by simp, fun j hj _ => Below.heap_alloc w.drew _ j hj⟩, .inr ⟨_, rfl, Nat.le_refl _⟩⟩
  have hb := Blk.new w.drew 3 ((ys ++ [y]).toArray ++ Builtin.zeroCells (Value.int .i64 0).cells (grownCap w (ys.length + 1) c (Try.lays21_ren.t 3) - (ys.length + 1)))
  have key := own_of_cells hb (cap := grownCap w (ys.length + 1) c (Try.lays21_ren.t 3)) (by rw [Array.size_append, size_zeroCells]; simp [Value.cells]; omega) hbase hle (ys ++ [y]) (by simpa using hge) (fun j hj => by rw [hb.cell, Array.getElem?_append_left (by simpa using hj)]; simp [hj])
  rw [show (ys ++ [y]).length = ys.length + 1 from by simp] at key
  rw [hins]
  exact key
theorem insert_shift (w : World) (base g c vb i : Nat) (ys : List Value) (y : Value) (cur : Array Value) (hk : Blk w g 3 cur) (hcs : cur.size = c) (hb : base ≤ g) (hcm : c ≤ maxLen) (hy : cur.toList.take ys.length = ys) (hv : Blk w vb 3 #[y]) (hne : vb ≠ g) (hi : i < ys.length) (hroom : ys.length + 1 ≤ c) (h1 : y.oneCell' = true) (hys : ∀ v ∈ ys, v.oneCell' = true) :
    Calls Try.prog 37 #[.slice (some ⟨g, 0, none⟩) ys.length c, .int .i64 i, .slice (some ⟨vb, 0, none⟩) 1 1] w (InsPost w base (some ⟨g, 0, none⟩) ys.length c (ys.insertIdx i y)) := by
  have hcell : ∀ j, j < c → w.cell? ⟨g, j, none⟩ = some (cur[j]!) := fun j hj => by rw [hk.cell]; simp [show j < cur.size by omega]
  have hcl : ∀ j v, ys[j]? = some v → w.cell? ⟨g, 0 + j, none⟩ = some v := fun j v hj => by
    obtain ⟨hj2, rfl⟩ := List.getElem?_eq_some_iff.1 hj
    rw [Nat.zero_add]; exact cells_of_take hk hy j hj2
  have sh : ∀ {b : Nat} {cs : Array Value}, Blk w b 3 cs → w.shape? b = some (3, cs.size) := fun h => by simp [World.shape?, show w.heap[_]? = _ from h]
  refine (Any2.slices_Insert_int_shift Try.lays21 g 0 ys.length c i vb 0 1 1 ys [y] w hi (by omega) hroom (by simpa [maxLen] using hcm) hne rfl rfl hcl (fun j hj => by rw [Nat.zero_add, hcell _ (by omega)]; rfl) (fun j hj => hk.frozen _) (fun j v hj => by cases j with | zero => (rw [hv.cell]; simpa using hj) | succ j => (simp at hj)) hys (fun v hv => by simp at hv; subst hv; exact h1) 3 3 1 cur.size (sh hv) (sh hk) (by omega) (hv.frozen _) (hv.frozen _)).mono ?_
  rintro e w' ⟨rfl, rfl⟩
  obtain ⟨a', ha, hsz⟩ := blk_setCells (ys.drop i) (0 + (i + 1)) w.drew cur hk.drew
  obtain ⟨a2, ha2, hsz2⟩ := blk_setCells [y] (0 + i) _ a' ha
  have hg0 : w.grownBy w.drew (some g) := ⟨rfl, rfl, rfl, Nat.le_refl _, fun _ _ _ => rfl⟩
  refine ⟨_, _, rfl, ?_, grown_setCells (w := w) rfl _ _ _ (grown_setCells (w := w) rfl _ _ _ hg0), .inl rfl⟩
  have hlen : (ys.insertIdx i y).length = ys.length + 1 := List.length_insertIdx_of_le_length (by omega) _
  have key := own_of_cells ha2 (cap := c) (by omega) hb hcm (ys.insertIdx i y) (by omega) ?_
  · rw [hlen] at key; exact key
  · refine ins_cells (w := w) (by omega) (fun j hj => by rw [hcell j (by omega)]; rfl) (fun j hj _ => cells_of_take hk hy j hj) _ (fun j hj => ?_) ?_ (fun j hj => ?_)
    · rw [World.cell?_setCells_out g _ _ _ _ (fun _ _ => .inl (by simp only; omega)), World.cell?_setCells_out g _ _ _ _ (fun _ _ => .inl (by simp only; omega))]
      rfl
    · have := World.cell?_setCells_in g [y] (0 + i) (w.drew.setCells g (0 + (i + 1)) (ys.drop i)) (fun j hj => by rw [ha.cell]; simp at hj; simp; omega) 0 (by simp)
      rw [show 0 + i + 0 = i by omega] at this
      exact this
    · rw [World.cell?_setCells_out g _ _ _ _ (fun _ _ => .inr (by simp only [List.length_singleton]; omega))]
      have := World.cell?_setCells_in g (ys.drop i) (0 + (i + 1)) w.drew (fun j hj => by rw [hk.drew.cell]; simp at hj; simp; omega) j hj
      rw [show 0 + (i + 1) + j = i + 1 + j by omega] at this
      exact this
theorem insert_grow (w : World) (base g c vb i : Nat) (ys : List Value) (y : Value) (cur : Array Value) (hk : Blk w g 3 cur) (hbase : base ≤ w.heap.size) (hy : cur.toList.take ys.length = ys) (hv : Blk w vb 3 #[y]) (hi : i < ys.length) (hnc : ys.length ≤ c) (hroom : c < ys.length + 1) (hl : ys.length ≤ 1000000) (h1 : y.oneCell' = true) (hys : ∀ v ∈ ys, v.oneCell' = true) :
    Calls Try.prog 37 #[.slice (some ⟨g, 0, none⟩) ys.length c, .int .i64 i, .slice (some ⟨vb, 0, none⟩) 1 1] w (InsPost w base (some ⟨g, 0, none⟩) ys.length c (ys.insertIdx i y)) := by
  have hcl : ∀ j v, ys[j]? = some v → w.cell? ⟨g, 0 + j, none⟩ = some v := fun j v hj => by
    obtain ⟨hj2, rfl⟩ := List.getElem?_eq_some_iff.1 hj
    rw [Nat.zero_add]; exact cells_of_take hk hy j hj2
  refine (Any2.slices_Insert_int_grow Try.lays21 g 0 ys.length c i vb 0 1 1 ys [y] w hi (by omega) hnc hroom (by omega) rfl rfl hcl (fun j v hj => by cases j with | zero => (rw [hv.cell]; simpa using hj) | succ j => (simp at hj)) hys (fun v hv => by simp at hv; subst hv; exact h1)).mono ?_
  rintro e w' ⟨rfl, rfl⟩
  have hge := grownCap_ge w (ys.length + 1) c (Try.lays21_ren.t 3)
  have hle := grownCap_le_maxLen w (ys.length + 1) c (Try.lays21_ren.t 3) (by simp only [maxLen]; omega)
  obtain ⟨cap, hcap⟩ : ∃ k, k = grownCap w (ys.length + 1) c (Try.lays21_ren.t 3) := ⟨_, rfl⟩
  rw [← hcap] at hge hle ⊢
  obtain ⟨a0, ha0⟩ : ∃ a, a = (ys.take i).toArray ++ Builtin.zeroCells (Value.int .i64 0).cells (ys.length + 1 - i) ++ Builtin.zeroCells (Value.int .i64 0).cells (cap - (ys.length + 1)) := ⟨_, rfl⟩
  rw [← ha0]
  have hs0 : a0.size = cap := by rw [ha0, Array.size_append, Array.size_append, size_zeroCells, size_zeroCells]; simp [Value.cells]; omega
  have hb0 : Blk (w.alloc (.cells a0 3)).drew w.heap.size 3 a0 := (Blk.new w 3 a0).drew
  have hlow : ∀ j (hj : j < ys.length), j < i → (w.alloc (.cells a0 3)).drew.cell? ⟨w.heap.size, j, none⟩ = some ys[j] := fun j hj hji => by
    rw [hb0.cell, ha0, Array.getElem?_append_left (by simp; omega), Array.getElem?_append_left (by simp; omega)]
    simp [List.getElem?_take, hji, hj]
  have hpres : ∀ j, j < cap → ((w.alloc (.cells a0 3)).drew.cell? ⟨w.heap.size, j, none⟩).isSome = true := fun j hj => by rw [hb0.cell]; simp [hs0, hj]
  obtain ⟨a1, ha1, hs1⟩ := blk_setCells [y] i _ a0 hb0
  obtain ⟨a2, ha2, hs2⟩ := blk_setCells (ys.drop i) (i + 1) _ a1 ha1.drew
  have hlen : (ys.insertIdx i y).length = ys.length + 1 := List.length_insertIdx_of_le_length (by omega) _
  have hbel : Below w.heap.size w (((w.alloc (.cells a0 3)).drew.setCells w.heap.size i [y]).drew.setCells w.heap.size (i + 1) (ys.drop i)) :=
    setCells_below (Nat.le_refl _) _ _ _ (Below.drew (setCells_below (Nat.le_refl _) _ _ _ (Below.drew ((Below.refl _ _).alloc (Nat.le_refl _) _))))
  refine ⟨_, _, rfl, ?_, ⟨hbel.os, hbel.tape, hbel.output, hbel.size, fun j hj _ => hbel.block j hj⟩, .inr ⟨_, rfl, Nat.le_refl _⟩⟩
  have key := own_of_cells ha2 (cap := cap) (by omega) hbase hle (ys.insertIdx i y) (by omega) ?_
  · rw [hlen] at key; exact key
  · refine ins_cells (w := (w.alloc (.cells a0 3)).drew) (by omega) (fun j hj => hpres j (by omega)) hlow _ (fun j hj => ?_) ?_ (fun j hj => ?_)
    · rw [World.cell?_setCells_out _ _ _ _ _ (fun _ _ => .inl (by simp only; omega))]
      exact World.cell?_setCells_out _ _ _ _ _ (fun _ _ => .inl (by simp only; omega))
    · rw [World.cell?_setCells_out _ _ _ _ _ (fun _ _ => .inl (by simp only; omega))]
      have := World.cell?_setCells_in w.heap.size [y] i (w.alloc (.cells a0 3)).drew (fun j hj => by simp at hj; exact hpres _ (by omega)) 0 (by simp)
      exact this
    · exact World.cell?_setCells_in w.heap.size (ys.drop i) (i + 1) _ (fun j hj => by rw [ha1.drew.cell]; simp at hj; simp; omega) j hj
theorem insert_own (w : World) (base c vb i : Nat) (A : Option Addr) (ys : List Value) (y : Value) (hA : w.ownsRow base 3 1 (.slice A ys.length c) ys.length ys) (hbase : base ≤ w.heap.size) (hv : Blk w vb 3 #[y]) (hne : (Value.slice A ys.length c).ownBlock ≠ some vb) (hi : i ≤ ys.length) (hl : ys.length ≤ 1000000) (h1 : y.oneCell' = true) (hys : ∀ v ∈ ys, v.oneCell' = true) :
    Calls Try.prog 37 #[.slice A ys.length c, .int .i64 i, .slice (some ⟨vb, 0, none⟩) 1 1] w (InsPost w base A ys.length c (ys.insertIdx i y)) := by
  rcases hA.2 with ⟨hn, hz⟩ | ⟨g, cap, cur, he, hb, hk, hnc, hcm, hcs, hy⟩
  · injection hn with e1 e2 e3
    subst e1 e3
    have hi0 : i = ys.length := by omega
    subst hi0
    exact insert_end_grow w base 0 vb none ys y hbase (fun _ => hz) (fun a h => by cases h) hv (by omega) (by omega) hl h1
  · injection he with e1 e2 e3
    subst e1 e3
    rw [Nat.mul_one] at hcs hy
    have hkb : Blk w g 3 cur := hk
    have hvg : vb ≠ g := fun e => hne (by rw [e]; rfl)
    by_cases hroom : ys.length + 1 ≤ c
    · by_cases hie : i = ys.length
      · subst hie; exact insert_end_room w base g c vb ys y cur hkb hcs hb hcm hy hv hroom h1
      · exact insert_shift w base g c vb i ys y cur hkb hcs hb hcm hy hv hvg (by omega) hroom h1 hys
    · by_cases hie : i = ys.length
      · subst hie
        exact insert_end_grow w base c vb _ ys y hbase (fun h => by cases h) (fun a h j v hj => by injection h with h; subst h; exact hA.cells rfl j v hj) hv hnc (by omega) hl h1
      · exact insert_grow w base g c vb i ys y cur hkb hbase hy hv (by omega) hnc (by omega) hl h1 hys
end Go.Proofs.Ytnbnfadmbggfnaa
namespace Go.Proofs.Ytnbnfadmbggfnaa
open Go.RowKit Go.Fh Go.Ed
theorem map_ins {α β : Type} (f : α → β) (a : α) : ∀ (i : Nat) (l : List α), (l.insertIdx i a).map f = (l.map f).insertIdx i (f a) := by
  intro i
  induction i with
  | zero => intro l; simp
  | succ i ih => intro l; cases l with
    | nil => simp
    | cons x l => simp [ih]
theorem intsV_ins (l : List Nat) (i k : Nat) : intsV (l.insertIdx i k) = (intsV l).insertIdx i (.int .i64 (k : Int)) := by
  unfold intsV
  rw [map_ins, map_ins]
end Go.Proofs.Ytnbnfadmbggfnaa
