/- The search; conditions: a right title. -/
import Derived.Test.YtokdleanpkkdpaaS2
import Derived.WalkSmall
import Derived.WalkSpells
import Derived.Deep.AppendLies
import Derived.Deep.CutBlock
set_option linter.unusedSimpArgs false
set_option linter.unusedVariables false
namespace Go.Proofs.Ytokdleanpkkdpaa
open Go.RowKit Go.Fh Go.Ed
theorem any_cast (o : List Nat) (e : Nat) : ((o.map fun (x : Nat) => (x : Int)).any fun y => (e : Int) == y) = o.contains e := by
  rw [Bool.eq_iff_iff, List.any_eq_true, List.contains_iff_mem]
  constructor
  · rintro ⟨y, hy, h⟩
    obtain ⟨x, hx, rfl⟩ := List.mem_map.1 hy
    have : e = x := by have := beq_iff_eq.1 h; omega
    rw [this]; exact hx
  · intro h
    exact ⟨_, List.mem_map.2 ⟨e, h, rfl⟩, by simp⟩
theorem intsV_snoc (o : List Nat) (e : Nat) : intsV (o ++ [e]) = intsV o ++ [.int .i64 (e : Int)] := by simp [intsV]
theorem own_cap {w : World} {base : Nat} {e : TypeId} {size n cap g : Nat} {xs : List Value} (h : w.ownsRow base e size (.slice (some ⟨g, 0, none⟩) n cap) n xs) : n ≤ cap := by
  rcases h.2 with ⟨h0, _⟩ | ⟨g', cap', cur, hv, _, _, hle, _⟩
  · cases h0
  · cases hv; exact hle
theorem _root_.Go.Ed.SrB.far {B gO gB : Nat} {o : List Nat} {b : Best} {v bo : Value} {bp bf : Int} {W : World} (h : SrB B gO gB o b v bo bp bf W) {g : Nat} {cs : Array Value} (hk : Blk W g 63 cs) (i : Nat) (u : Value) : SrB B gO gB o b v bo bp bf (W.setCell ⟨g, i, none⟩ u) :=
  ⟨h.box.far (p := ⟨g, i, none⟩) (by exact Blk.ne_ h.box hk (by decide)) u, own_far h.row (p := ⟨g, i, none⟩) (by exact own_blk_ne h.row hk (by decide)) u, h.best.far (p := ⟨g, i, none⟩) (by exact Blk.ne_ h.best hk (by decide)) u, h.none_, fun ob p f e => by
    obtain ⟨h1, h2, h3⟩ := h.some_ ob p f e
    exact ⟨h1, own_far h2 (p := ⟨g, i, none⟩) (by exact own_blk_ne h2 hk (by decide)) u, h3⟩⟩
theorem _root_.Go.Ed.Same.put {gO gB : Nat} {r : Option Nat} {A C : World} (h : Same gO gB r A C) {g : Nat} (hg : A.heap.size ≤ g ∨ g = gO) (i : Nat) (u : Value) : Same gO gB r A (C.setCell ⟨g, i, none⟩ u) :=
  ⟨h.os, h.tape, h.output, by simpa [World.setCell] using h.size, fun j a b c d => (Below.heap_setCell C _ u j (by intro e; subst e; rcases hg with q | q; (exact absurd a (by simp; omega)); (exact b q))).trans (h.block j a b c d)⟩
/-- the order has got one more, and its box holds it -/
theorem _root_.Go.Ed.SrB.push {B gO gB : Nat} {o : List Nat} {b : Best} {v bo : Value} {bp bf : Int} {W W' : World} (h : SrB B gO gB o b v bo bp bf W) (e g cap : Nat)
    (ho : W'.ownsRow B 3 1 (.slice (some ⟨g, 0, none⟩) (o.length + 1) cap) (o.length + 1) (intsV o ++ [.int .i64 (e : Int)])) (hg : W.grownBy W' v.ownBlock) (hl : v.ownBlock = some g ∨ W.heap.size ≤ g) :
    SrB B gO gB (o ++ [e]) b (.slice (some ⟨g, 0, none⟩) (o.length + 1) cap) bo bp bf (W'.setCell ⟨gO, 0, none⟩ (.slice (some ⟨g, 0, none⟩) (o.length + 1) cap)) := by
  have hb : Blk W' gO 22 #[v] := h.box.grown hg (own_blk_ne h.row h.box (by decide))
  have hbe : Blk W' gB 151 #[bo, .int .i64 bp, .int .i64 bf] := h.best.grown hg (own_blk_ne h.row h.best (by decide))
  have hne : gB ≠ gO := Blk.ne_ hbe hb (by decide)
  refine ⟨by simpa using hb.set_ 0 (.slice (some ⟨g, 0, none⟩) (o.length + 1) cap), ?_, hbe.far (by exact hne) _, h.none_, fun ob p f q => ?_⟩
  · rw [intsV_snoc, List.length_append]
    exact own_far ho (by exact own_blk_ne ho hb (by decide)) _
  · obtain ⟨h1, h2, h3, h4, h5⟩ := h.some_ ob p f q
    have h6 : W'.ownsRow B 3 1 bo ob.length (intsV ob) := h2.kept hg (by
      cases hq : bo.ownBlock with
      | none => exact .inl rfl
      | some y => exact .inr (fun q2 => h5 (by rw [hq]; exact q2.symm)))
    refine ⟨h1, own_far h6 (by exact own_blk_ne h6 hb (by decide)) _, h3, h4, fun q2 => ?_⟩
    rcases hl with hl | hl
    · exact h5 (hl.trans q2)
    · have := (h2.lt g q2.symm).2; omega
/-- the order has got one less -/
theorem _root_.Go.Ed.SrB.pop {B gO gB : Nat} {o : List Nat} {e : Nat} {b : Best} {bo : Value} {bp bf : Int} {W : World} {g cap : Nat} (h : SrB B gO gB (o ++ [e]) b (.slice (some ⟨g, 0, none⟩) (o.length + 1) cap) bo bp bf W) :
    SrB B gO gB o b (.slice (some ⟨g, 0, none⟩) o.length cap) bo bp bf (W.setCell ⟨gO, 0, none⟩ (.slice (some ⟨g, 0, none⟩) o.length cap)) := by
  have hne : gB ≠ gO := Blk.ne_ h.best h.box (by decide)
  have hr := h.row
  rw [intsV_snoc, List.length_append] at hr
  have hp := ownsRow_pop (by simp [intsV]) hr
  refine ⟨by simpa using h.box.set_ 0 (.slice (some ⟨g, 0, none⟩) o.length cap), own_far hp (by exact own_blk_ne hp h.box (by decide)) _, h.best.far (by exact hne) _, h.none_, fun ob p f q => ?_⟩
  obtain ⟨h1, h2, h3, h4, h5⟩ := h.some_ ob p f q
  exact ⟨h1, own_far h2 (by exact own_blk_ne h2 h.box (by decide)) _, h3, h4, h5⟩
set_option maxRecDepth 20000 in
set_option maxHeartbeats 8000000 in
theorem try_any (t : TitD) (x : TA) (k : Wk) (Bk : Nat) (wk : World) (hc : ChkOk t) (hW : WorkAt wk Bk t x k) (B gO gW gB gT gR : Nat) (time : Bool) :
    ∀ (fuel : Nat) (o : List Nat) (p : Int) (l : Option SloD) (b : Best) (v bo : Value) (bp bf : Int) (W : World), k.es.length < o.length + fuel → o.length ≤ k.es.length → (∀ e ∈ o, e < k.es.length) → (l = none ↔ o = []) →
      (∀ s, l = some s → (∃ eb : Nat, eb < k.es.length ∧ s.edition = (eb : Int)) ∧ 0 ≤ s.fin ∧ s.fin ≤ 722000000 * (o.length : Int)) → 0 ≤ p → p ≤ 256 * (o.length : Int) → Bx wk B gO gW gB gT gR k.g time W → SrB B gO gB o b v bo bp bf W →
      Calls Try.prog 119 (argsT p (l.getD slo0) gO gW gB gT gR) W (TryPost B gO gB v.ownBlock o (dfs t (edsR t) time fuel o p l b) W) := by
  intro fuel
  induction fuel with
  | zero => intro o p l b v bo bp bf W h1 h2; omega
  | succ fuel ih =>
    intro o p l b v bo bp bf W h1 h2 ho hlo hls hp0 hp1 hx hs
    have hn1 : 1 ≤ k.es.length := by rw [hW.len, edsR_len]; exact hc.n0
    have hn7 : k.es.length ≤ 7 := by rw [hW.len, edsR_len]; exact hc.n1
    by_cases hfull : o.length = k.es.length
    · rw [dfs_full (by rw [hfull, hW.len])]
      obtain ⟨s, hs0⟩ : ∃ s, l = some s := by
        cases l with
        | none => have := hlo.1 rfl; subst this; simp at hfull; omega
        | some s => exact ⟨s, rfl⟩
      subst hs0
      exact try_full t x k Bk wk hW B gO gW gB gT gR time o p s b v bo bp bf W hx hs hfull (by omega) (by omega)
    · rw [dfs_more (by rw [← hW.len]; exact hfull), ← hW.len]
      obtain ⟨⟨n1, n2, n3, n4, n5, n6⟩, n7⟩ := hx.ne hs
      obtain ⟨s, hsd⟩ : ∃ s, s = l.getD slo0 := ⟨_, rfl⟩
      rw [← hsd]
      obtain ⟨W1, hW1⟩ : ∃ X, X = W.alloc (.cells #[.int .i64 s.edition, .int .i64 s.plates, .int .i64 s.beg, .int .i64 s.fin] 63) := ⟨_, rfl⟩
      obtain ⟨gL, hgL⟩ : ∃ g, g = W.heap.size := ⟨_, rfl⟩
      have kL : Blk W1 gL 63 #[.int .i64 s.edition, .int .i64 s.plates, .int .i64 s.beg, .int .i64 s.fin] := by rw [hW1, hgL]; exact Blk.new _ _ _
      have hb1 : Below W.heap.size W W1 := by rw [hW1]; exact (Below.refl _ _).alloc (Nat.le_refl _) _
      have hs1 := hs.below hb1
      have hx1 := hx.same (r := none) (Same.of_below hb1) ⟨n1, n2, n3, n4, n5, n6⟩ (fun j e => by cases e)
      have hw1 := hW.below hx1.low
      obtain ⟨A, c, hv⟩ := own_shape hs1.row
      have hrow0 := hs.row
      subst hv
      have y2 := hs1.box.cell 0
      have y3 := hx1.kW.cell 0
      have y8 := hw1.hk.cell 8
      simp [workV] at y2 y3 y8
      have t18 : ((o.length : Int) == (k.es.length : Int)) = false := by simp; omega
      have hlL := kL.lt
      obtain ⟨r, hr⟩ : ∃ r, r = (Value.slice A o.length c).ownBlock := ⟨_, rfl⟩
      rw [← hr]
      have hrB : ∀ j, r = some j → B ≤ j ∧ j < W.heap.size := fun j e => hrow0.lt j (by rw [← hr]; exact e)
      have HSM := Lib.hid (Same.of_below (gO := gO) (gB := gB) (r := r) hb1)
      have hlr : Lat r W (Value.slice A o.length c).ownBlock := .inl hr.symm
      have HLR := Lib.hid hlr
      have holt : o.length < k.es.length := by omega
      have HRB := Lib.hid hrB
      have HSL := Lib.hid hls
      have HO := Lib.hid ho
      have HLO := Lib.hid hlo
      have HSD := Lib.hid hsd
      have HX := Lib.hid hx
      have HX1 := Lib.hid hx1
      have HS1 := Lib.hid hs1
      have HW := Lib.hid hW
      have HC := Lib.hid hc
      have KL := Lib.hid kL
      have HB1 := Lib.hid hb1
      have HW1 := Lib.hid hW1
      have HGL := Lib.hid hgL
      have IH := Lib.hid ih
      clear hlr hls ho hlo hsd hx hx1 hs1 hs hW hc kL hb1 hW1 hgL ih hrB hrow0 hr hw1 hfull
      unfold argsT slV
      go_enter Try.func119, Try.ntmps119
      go_upto_region 1 with fail
      rw [← HW1.out, ← HGL.out]
      go_step3
      go_wp2_with fail
      go_quiet (fail)
      go_wp2_with fail
      go_step3
      go_wp2_with fail
      clear y2 y3 y8
      go_loopw [55] (fun i wr => ∃ (e : Nat) (v bo : Value) (bp bf : Int), e ≤ k.es.length ∧ i = .int .i64 (e : Int) ∧ Hid (SrB B gO gB o ((List.range e).foldl (dstep t (edsR t) time fuel o p l) b) v bo bp bf wr) ∧ Hid (Lat r W v.ownBlock) ∧ Hid (Same gO gB r W wr) ∧ Hid (Blk wr gL 63 #[.int .i64 s.edition, .int .i64 s.plates, .int .i64 s.beg, .int .i64 s.fin]) ∧ True) (fun i _ => k.es.length - (intOf i).toNat)
      case atStart => exact ⟨0, _, _, _, _, Nat.zero_le _, rfl, HS1.out.drewN _, HLR, HSM.out.drewN _, KL, trivial⟩
      case round =>
        obtain ⟨e, v, bo, bp, bf, he, rfl, HS, HL, HSm, HK, _⟩ := hrel
        have hrB2 : ∀ j, r = some j → B ≤ j := fun j q => (HRB.out j q).1
        have HXr := Lib.hid (HX.out.same HSm.out ⟨n1, n2, n3, n4, n5, n6⟩ hrB2)
        obtain ⟨A2, c2, hv⟩ := own_shape HS.out.row
        subst hv
        have hlO := HS.out.box.lt
        have hlL2 := HK.out.lt
        have y2 := HS.out.box.cell 0
        simp at y2
        have hszW := HSm.out.size
        by_cases hlt : e < k.es.length
        · obtain ⟨bc, hbc⟩ : ∃ bc, bc = (List.range e).foldl (dstep t (edsR t) time fuel o p l) b := ⟨_, rfl⟩
          have hfold : (List.range (e + 1)).foldl (dstep t (edsR t) time fuel o p l) b = dstep t (edsR t) time fuel o p l bc e := by rw [List.range_succ, List.foldl_append, hbc]; rfl
          rw [← hbc] at HS
          have HF := Lib.hid hfold
          clear hfold hbc
          have hlm : (o.map fun (x : Nat) => (x : Int)).length = o.length := by simp
          have hct : ∀ W', Below wr.heap.size wr W' → Calls Try.prog 68 #[.slice A2 o.length c2, .int .i64 (e : Int)] W' fun q w' => q = .returned (.bool (o.contains e)) ∧ Below W'.heap.size W' w' := by
            intro W' hb
            have h0 := contains_any A2 c2 (o.map fun (x : Nat) => (x : Int)) (e : Int) W' (by rw [hlm]; omega) (own_sl (B := B) (c := c2) (by rw [hlm]; exact (HS.out.below hb).row))
            rw [hlm, any_cast] at h0
            exact h0
          have HCT := Lib.hid hct
          clear hct hlm
          obtain ⟨wz, hwz⟩ : ∃ X, X = wr.alloc (.cells #[.int .i64 0, .int .i64 0, .int .i64 0, .int .i64 0] 63) := ⟨_, rfl⟩
          obtain ⟨gS, hgS⟩ : ∃ g, g = wr.heap.size := ⟨_, rfl⟩
          have kS : Blk wz gS 63 #[.int .i64 0, .int .i64 0, .int .i64 0, .int .i64 0] := by rw [hwz, hgS]; exact Blk.new _ _ _
          have hbz : Below wr.heap.size wr wz := by rw [hwz]; exact (Below.refl _ _).alloc (Nat.le_refl _) _
          have HWZ := Lib.hid hwz
          have HGS := Lib.hid hgS
          have KS := Lib.hid kS
          have HBZ := Lib.hid hbz
          have hgz : gS < wz.heap.size := kS.lt
          have hnL : gS ≠ gL := by omega
          have y2z := (HS.out.below hbz).box.cell 0
          simp at y2z
          clear hwz hgS kS hbz
          cases hcon : o.contains e
          rotate_left
          · rw [hcon] at HCT
            have hds : dstep t (edsR t) time fuel o p l bc e = bc := by unfold dstep; rw [if_pos hcon]
            have HDS := Lib.hid hds
            clear hcon hds
            go_upto_region 9 with fail
            rw [← HWZ.out, ← HGS.out]
            go_wp2_with (go_at_call 68; refine (HCT.out _ HBZ.out).mono ?_; rintro q w2 ⟨rfl, hb2⟩; have HB2 := Lib.hid (HBZ.out.trans (hb2.mono HBZ.out.size)); clear hb2)
            go_roundw
            case rel =>
              exact ⟨e + 1, _, _, _, _, by omega, by go_num, by rw [HF.out, HDS.out]; exact HS.out.below HB2.out, HL, HSm.out.trans (Same.of_below HB2.out) (.inl rfl), HK.out.below HB2.out hlL2, trivial⟩
            case measure => simp [intOf]; omega
          · rw [hcon] at HCT
            have hds : dstep t (edsR t) time fuel o p l bc e = if (time && lateB (edsR t) (slotE t (edsR t) l e)) || more bc (p + (slotE t (edsR t) l e).plates) then bc else dfs t (edsR t) time fuel (o ++ [e]) (p + (slotE t (edsR t) l e).plates) (some (slotE t (edsR t) l e)) bc := by
              conv => lhs; unfold dstep
              rw [if_neg (by rw [hcon]; simp)]
            have hsb := slotE_bd HC.out (l := l) (e := e) (K := 722000000 * (o.length : Int)) (by rw [← HW.out.len]; exact hlt) (by omega) (fun s hs => (HSL.out s hs).2)
            have hsed := slotE_ed t (edsR t) l e
            obtain ⟨sl, hsl⟩ : ∃ sl, sl = slotE t (edsR t) l e := ⟨_, rfl⟩
            rw [← hsl] at hds hsb hsed
            have HSV := Lib.hid hsl
            have HSE := Lib.hid hsed
            have HDS := Lib.hid hds
            clear hcon hds hsl hsed
            go_upto_block 2 with fail
            rw [← HWZ.out, ← HGS.out]
            go_cut [] (fun wx => Hid (Blk wx gS 63 #[.int .i64 (e : Int), .int .i64 sl.plates, .int .i64 sl.beg, .int .i64 sl.fin]) ∧ Hid (SrB B gO gB o bc (.slice A2 o.length c2) bo bp bf wx) ∧ Hid (Same gO gB r W wx) ∧ Hid (Blk wx gL 63 #[.int .i64 s.edition, .int .i64 s.plates, .int .i64 s.beg, .int .i64 s.fin]) ∧ wr.heap.size < wx.heap.size)
            case first =>
              go_upto_if 69 with (go_at_call 68; refine (HCT.out _ HBZ.out).mono ?_; rintro q w2 ⟨rfl, hb2⟩; have HB2 := Lib.hid (HBZ.out.trans (hb2.mono HBZ.out.size)); have k2 := KS.out.below hb2 hgz; have HK2 := Lib.hid k2; have y2b := (HS.out.below (HBZ.out.trans (hb2.mono HBZ.out.size))).box.cell 0; simp at y2b; have hgz2 := k2.lt; have hz2 := HBZ.out.size; have hz3 := hb2.size; clear hb2 k2)
              have hk2 := HW.out.below ((HXr.out.same (r := none) (Same.of_below HB2.out) ⟨n1, n2, n3, n4, n5, n6⟩ (fun j q => by cases q)).low)
              have hX2 := HXr.out.same (r := none) (Same.of_below HB2.out) ⟨n1, n2, n3, n4, n5, n6⟩ (fun j q => by cases q)
              have y3 := hX2.kW.cell 0
              simp at y3
              have hlw2 := hX2.kW.lt
              have hok := edsR_ok HC.out (show k.es[e].1 ∈ edsR t by rw [← HW.out.eds]; exact List.mem_map.2 ⟨_, List.getElem_mem hlt, rfl⟩)
              have HFin := Lib.hid (show ∀ (w4 : World), Below w2.heap.size w2 w4 → (Blk ((((w4.setCell ⟨gS, 0, none⟩ (.int .i64 (e : Int))).setCell ⟨gS, 1, none⟩ (.int .i64 sl.plates)).setCell ⟨gS, 2, none⟩ (.int .i64 sl.beg)).setCell ⟨gS, 3, none⟩ (.int .i64 sl.fin)) gS 63 #[.int .i64 (e : Int), .int .i64 sl.plates, .int .i64 sl.beg, .int .i64 sl.fin] ∧ SrB B gO gB o bc (.slice A2 o.length c2) bo bp bf ((((w4.setCell ⟨gS, 0, none⟩ (.int .i64 (e : Int))).setCell ⟨gS, 1, none⟩ (.int .i64 sl.plates)).setCell ⟨gS, 2, none⟩ (.int .i64 sl.beg)).setCell ⟨gS, 3, none⟩ (.int .i64 sl.fin)) ∧ Same gO gB r W ((((w4.setCell ⟨gS, 0, none⟩ (.int .i64 (e : Int))).setCell ⟨gS, 1, none⟩ (.int .i64 sl.plates)).setCell ⟨gS, 2, none⟩ (.int .i64 sl.beg)).setCell ⟨gS, 3, none⟩ (.int .i64 sl.fin)) ∧ Blk ((((w4.setCell ⟨gS, 0, none⟩ (.int .i64 (e : Int))).setCell ⟨gS, 1, none⟩ (.int .i64 sl.plates)).setCell ⟨gS, 2, none⟩ (.int .i64 sl.beg)).setCell ⟨gS, 3, none⟩ (.int .i64 sl.fin)) gL 63 #[.int .i64 s.edition, .int .i64 s.plates, .int .i64 s.beg, .int .i64 s.fin] ∧ wr.heap.size < ((((w4.setCell ⟨gS, 0, none⟩ (.int .i64 (e : Int))).setCell ⟨gS, 1, none⟩ (.int .i64 sl.plates)).setCell ⟨gS, 2, none⟩ (.int .i64 sl.beg)).setCell ⟨gS, 3, none⟩ (.int .i64 sl.fin)).heap.size) from by
                intro w4 hb
                have k4 := HK2.out.below hb hgz2
                have q1 := k4.set_ 0 (.int .i64 (e : Int))
                have q2 := q1.set_ 1 (.int .i64 sl.plates)
                have q3 := q2.set_ 2 (.int .i64 sl.beg)
                have q4 := q3.set_ 3 (.int .i64 sl.fin)
                have hb24 := HB2.out.trans (hb.mono HB2.out.size)
                have s4 := HS.out.below hb24
                have hgSr : gS = wr.heap.size := HGS.out
                refine ⟨by simpa using q4, (((s4.far k4 0 _).far q1 1 _).far q2 2 _).far q3 3 _, ?_, (((HK.out.below hb24 hlL2).far (p := ⟨gS, 0, none⟩) (by exact hnL.symm) _).far (p := ⟨gS, 1, none⟩) (by exact hnL.symm) _).far (p := ⟨gS, 2, none⟩) (by exact hnL.symm) _ |>.far (p := ⟨gS, 3, none⟩) (by exact hnL.symm) _, ?_⟩
                · have hgW : W.heap.size ≤ gS := by omega
                  exact ((((HSm.out.trans (Same.of_below hb24) (.inl rfl)).put (.inl hgW) 0 _).put (.inl hgW) 1 _).put (.inl hgW) 2 _).put (.inl hgW) 3 _
                · have h1 := q4.lt
                  omega)
              by_cases hl0 : l = none
              · have ho0 := HLO.out.1 hl0
                have t72 : ((o.length : Int) == 0) = true := by simp [ho0]
                have hfs := first_any t HC.out.ok x k.es k.E k.C k.cE k.cC k.g e w2 (by omega) hlt hok hk2.hk hk2.hE
                rw [HW.out.eds] at hfs
                have hv : firstS t (edsR t) e = sl := by rw [HSV.out, hl0]; rfl
                rw [hv] at hfs
                unfold slV at hfs
                rw [HSE.out] at hfs
                have HFS := Lib.hid (show Calls Try.prog 87 #[.pointer (some ⟨k.g, 0, none⟩), .int .i64 (e : Int)] w2 fun r w' => r = .returned (.agg #[.int .i64 (e : Int), .int .i64 sl.plates, .int .i64 sl.beg, .int .i64 sl.fin]) ∧ Below w2.heap.size w2 w' from hfs)
                clear hfs hv ho0 hl0
                go_wp2_with (go_at_call 87; refine HFS.out.mono ?_; rintro q w4 ⟨rfl, hb4⟩; have k4 := HK2.out.below hb4 hgz2; have q0 := k4.cell 0; have q1 := k4.cell 1; have q2 := k4.cell 2; have q3 := k4.cell 3; have z0 := k4.frozen 0; have z1 := k4.frozen 1; have z2 := k4.frozen 2; have z3 := k4.frozen 3; simp at q0 q1 q2 q3; have HB4 := Lib.hid hb4; clear hb4 k4)
                go_meet
                have hf := HFin.out w4 HB4.out
                exact ⟨hf.1, hf.2.1, hf.2.2.1, hf.2.2.2.1, hf.2.2.2.2⟩
              · obtain ⟨s0, hs0⟩ : ∃ s0, l = some s0 := by
                  cases hq : l with
                  | none => exact absurd hq hl0
                  | some s0 => exact ⟨s0, rfl⟩
                have ho0 : o ≠ [] := fun h => hl0 (HLO.out.2 h)
                have hol : 0 < o.length := List.length_pos_iff.2 ho0
                have t72 : ((o.length : Int) == 0) = false := by simp [ho0]
                obtain ⟨⟨eb, heb1, heb2⟩, hf0, hf1⟩ := HSL.out s0 hs0
                have hss : s = s0 := by have := HSD.out; rw [hs0] at this; exact this
                rw [← hss] at heb2 hf0 hf1
                have l0 := (HK.out.below HB2.out hlL2).cell 0
                have l3 := (HK.out.below HB2.out hlL2).cell 3
                simp at l0 l3
                have hns := next_any t HC.out.ok x k.es k.E k.C k.cE k.cC k.g k.rows e eb s.fin w2 (by omega) hlt heb1 hok hf0 (by omega) hk2.hk hk2.hE HW.out.hrl hk2.hC hk2.hR
                rw [HW.out.eds] at hns
                have hv : nextS t (edsR t) e eb s.fin = sl := by rw [HSV.out, hs0, ← hss]; show _ = nextS t (edsR t) e s.edition.toNat s.fin; rw [heb2]; rfl
                rw [hv] at hns
                unfold slV at hns
                rw [HSE.out] at hns
                rw [heb2] at l0
                have HFS := Lib.hid (show Calls Try.prog 88 #[.pointer (some ⟨k.g, 0, none⟩), .int .i64 (e : Int), .int .i64 (eb : Int), .int .i64 s.fin] w2 fun r w' => r = .returned (.agg #[.int .i64 (e : Int), .int .i64 sl.plates, .int .i64 sl.beg, .int .i64 sl.fin]) ∧ Below w2.heap.size w2 w' from hns)
                clear hns hv ho0 heb2 hl0 hs0 hss
                go_wp2_with (go_at_call 88; refine HFS.out.mono ?_; rintro q w4 ⟨rfl, hb4⟩; have k4 := HK2.out.below hb4 hgz2; have q0 := k4.cell 0; have q1 := k4.cell 1; have q2 := k4.cell 2; have q3 := k4.cell 3; have z0 := k4.frozen 0; have z1 := k4.frozen 1; have z2 := k4.frozen 2; have z3 := k4.frozen 3; simp at q0 q1 q2 q3; have HB4 := Lib.hid hb4; clear hb4 k4)
                go_meet
                have hf := HFin.out w4 HB4.out
                exact ⟨hf.1, hf.2.1, hf.2.2.1, hf.2.2.2.1, hf.2.2.2.2⟩
            case rest =>
              obtain ⟨HKS, HS3, HSm3, HK3, hsz3⟩ := hcut
              have hX3 := HX.out.same HSm3.out ⟨n1, n2, n3, n4, n5, n6⟩ hrB2
              have hw3 := HW.out.below hX3.low
              obtain ⟨w5, hw5⟩ : ∃ W, W = wc := ⟨_, rfl⟩
              rw [← hw5] at HKS HS3 HSm3 HK3 hsz3 hX3 hw3 ⊢
              clear hw5
              have S3b := Lib.hid HS3.out
              have KS3 := Lib.hid HKS.out
              have hgS5 := HKS.out.lt
              have hneq := fun w a n c n' c' => run_neq_slice_nil_any (P := Try.prog) w 22 3 a n c n' c' Try.underlying22
              have y5 := hX3.kT.cell 0
              have y3 := hX3.kW.cell 0
              have k0 := HKS.out.cell 0
              have k1 := HKS.out.cell 1
              have k2 := HKS.out.cell 2
              have k3 := HKS.out.cell 3
              have m0 := HS3.out.best.cell 0
              have m1 := HS3.out.best.cell 1
              have y2c := HS3.out.box.cell 0
              simp at y5 y3 k0 k1 k2 k3 m0 m1 y2c
              obtain ⟨lt, hlt2⟩ : ∃ b, b = lateB (edsR t) sl := ⟨_, rfl⟩
              have hlv : lt = decide (k.es[e].1.due < sl.fin) := by
                rw [hlt2]
                unfold lateB
                rw [HSE.out, Int.toNat_natCast, ← HW.out.eds]
                simp [hlt]
              have hlc := fun W' (hb : Below w5.heap.size w5 W') => late_any t x k.es k.E k.C k.cE k.cC k.g (allB t) e sl.plates sl.beg sl.fin W' (by omega) hlt (hw3.below hb).hk (hw3.below hb).hE
              rw [← hlv] at hlc
              have HLT := Lib.hid hlc
              obtain ⟨dec, hdec⟩ : ∃ d, d = ((time && lt) || more bc (p + sl.plates)) := ⟨_, rfl⟩
              have HDEC := Lib.hid hdec
              have HLV := Lib.hid hlt2
              have fsum := IntWalk.i64_in (p + sl.plates) (by omega)
              have HX3 := Lib.hid hX3
              have hlO5 := HS3.out.box.lt
              have hlB5 := HS3.out.best.lt
              clear hlc hlv hdec hlt2 hX3 hw3
              go_upto_region 12 with fail
              go_cut [95] (fun p wx => p = .bool dec ∧ Hid (Below w5.heap.size w5 wx))
              case first =>
                by_cases htm : time = true
                · rw [htm] at y5
                  by_cases hltt : lt = true
                  · have hd : dec = true := by rw [HDEC.out, htm, hltt]; rfl
                    have HD := Lib.hid hd
                    rw [hltt] at HLT
                    clear hd htm hltt
                    go_wp2_with (go_at_call 80; refine (HLT.out _ (Below.refl _ _)).mono ?_; rintro q w6 ⟨rfl, hb6⟩; have m0 := (S3b.out.below hb6).best.cell 0; have m1 := (S3b.out.below hb6).best.cell 1; have ks6 := KS3.out.below hb6 hgS5; have m4 := ks6.cell 1; simp at m0 m1 m4; have HB6 := Lib.hid hb6; clear hb6 ks6)
                    go_meet
                    exact ⟨by first | (rw [HD.out]; done) | (rw [HD.out, decide_eq_false (by omega)]), HB6⟩
                  · have hltf : lt = false := by simpa using hltt
                    rw [hltf] at HLT
                    have HLF := Lib.hid hltf
                    have HTM := Lib.hid htm
                    clear htm hltt hltf
                    by_cases hbn : bc = none
                    · have hbo := S3b.out.none_ hbn
                      subst hbo
                      have hd : dec = false := by rw [HDEC.out, hbn]; simp [more, HLF.out]
                      have HD := Lib.hid hd
                      clear hd hbn
                      go_wp2_with (go_at_call 80; refine (HLT.out _ (Below.refl _ _)).mono ?_; rintro q w6 ⟨rfl, hb6⟩; have m0 := (S3b.out.below hb6).best.cell 0; have m1 := (S3b.out.below hb6).best.cell 1; have ks6 := KS3.out.below hb6 hgS5; have m4 := ks6.cell 1; simp at m0 m1 m4; have HB6 := Lib.hid hb6; clear hb6 ks6)
                      go_meet
                      exact ⟨by first | (rw [HD.out]; done) | (rw [HD.out, decide_eq_false (by omega)]), HB6⟩
                    · obtain ⟨⟨ob, p0, f0⟩, hbs⟩ : ∃ y, bc = some y := by
                        cases hq : bc with
                        | none => exact absurd hq hbn
                        | some y => exact ⟨y, rfl⟩
                      obtain ⟨hop, hor, hbp, hbf, hsep⟩ := S3b.out.some_ ob p0 f0 hbs
                      obtain ⟨gq, cq, hbq, _, _⟩ := hor.form hop
                      subst hbq
                      have hmo : more bc (p + sl.plates) = decide (bp < p + sl.plates) := by rw [hbs, hbp]; rfl
                      have HMO := Lib.hid hmo
                      clear hmo hbs hor hop hsep hbn hbp hbf
                      by_cases hbig : bp < p + sl.plates
                      · have hd : dec = true := by rw [HDEC.out, HMO.out]; simp [hbig]
                        have HD := Lib.hid hd
                        clear hd
                        go_wp2_with (go_at_call 80; refine (HLT.out _ (Below.refl _ _)).mono ?_; rintro q w6 ⟨rfl, hb6⟩; have m0 := (S3b.out.below hb6).best.cell 0; have m1 := (S3b.out.below hb6).best.cell 1; have ks6 := KS3.out.below hb6 hgS5; have m4 := ks6.cell 1; simp at m0 m1 m4; have HB6 := Lib.hid hb6; clear hb6 ks6)
                        go_meet
                        exact ⟨by first | (rw [HD.out]; done) | (rw [HD.out, decide_eq_false (by omega)]), HB6⟩
                      · have hd : dec = false := by rw [HDEC.out, HMO.out]; simp [hbig, HLF.out]
                        have HD := Lib.hid hd
                        have hbig2 : p + sl.plates ≤ bp := by omega
                        clear hd hbig
                        go_wp2_with (go_at_call 80; refine (HLT.out _ (Below.refl _ _)).mono ?_; rintro q w6 ⟨rfl, hb6⟩; have m0 := (S3b.out.below hb6).best.cell 0; have m1 := (S3b.out.below hb6).best.cell 1; have ks6 := KS3.out.below hb6 hgS5; have m4 := ks6.cell 1; simp at m0 m1 m4; have HB6 := Lib.hid hb6; clear hb6 ks6)
                        go_meet
                        exact ⟨by first | (rw [HD.out]; done) | (rw [HD.out, decide_eq_false (by omega)]), HB6⟩
                · have htf : time = false := by simpa using htm
                  rw [htf] at y5
                  have HTM := Lib.hid htf
                  clear htm htf
                  by_cases hbn : bc = none
                  · have hbo := S3b.out.none_ hbn
                    subst hbo
                    have hd : dec = false := by rw [HDEC.out, hbn]; simp [more, HTM.out]
                    have HD := Lib.hid hd
                    clear hd hbn
                    go_wp2_with fail
                    go_meet
                    exact ⟨by first | (rw [HD.out]; done) | (rw [HD.out, decide_eq_false (by omega)]), Below.refl _ _⟩
                  · obtain ⟨⟨ob, p0, f0⟩, hbs⟩ : ∃ y, bc = some y := by
                      cases hq : bc with
                      | none => exact absurd hq hbn
                      | some y => exact ⟨y, rfl⟩
                    obtain ⟨hop, hor, hbp, hbf, hsep⟩ := S3b.out.some_ ob p0 f0 hbs
                    obtain ⟨gq, cq, hbq, _, _⟩ := hor.form hop
                    subst hbq
                    have hmo : more bc (p + sl.plates) = decide (bp < p + sl.plates) := by rw [hbs, hbp]; rfl
                    have HMO := Lib.hid hmo
                    clear hmo hbs hor hop hsep hbn hbp hbf
                    by_cases hbig : bp < p + sl.plates
                    · have hd : dec = true := by rw [HDEC.out, HMO.out]; simp [hbig]
                      have HD := Lib.hid hd
                      clear hd
                      go_wp2_with fail
                      go_meet
                      exact ⟨by first | (rw [HD.out]; done) | (rw [HD.out, decide_eq_false (by omega)]), Below.refl _ _⟩
                    · have hd : dec = false := by rw [HDEC.out, HMO.out]; simp [hbig, HTM.out]
                      have HD := Lib.hid hd
                      have hbig2 : p + sl.plates ≤ bp := by omega
                      clear hd hbig
                      go_wp2_with fail
                      go_meet
                      exact ⟨by first | (rw [HD.out]; done) | (rw [HD.out, decide_eq_false (by omega)]), Below.refl _ _⟩
              case rest =>
                obtain ⟨rfl, HB7⟩ := hcut
                have HB7w := Lib.hid HB7.out
                have hsz7 := HB7.out.size
                have sm7 := HSm3.out.trans (Same.of_below (r := r) HB7.out) (.inl rfl)
                have s7 := S3b.out.below HB7.out
                have kl7 := HK3.out.below HB7.out HK3.out.lt
                have HSm7 := Lib.hid sm7
                have HS7 := Lib.hid s7
                have HKL7 := Lib.hid kl7
                by_cases hd : dec = true
                · have hds := HDS.out
                  rw [if_pos (by rw [← HLV.out, ← HDEC.out]; exact hd)] at hds
                  have HDS2 := Lib.hid hds
                  clear hds sm7 s7 kl7
                  subst hd
                  go_wp2_with fail
                  go_roundw
                  case rel => exact ⟨e + 1, _, _, _, _, by omega, by go_num, by rw [HF.out, HDS2.out]; exact HS7.out, HL, HSm7.out, HKL7.out, trivial⟩
                  case measure => simp [intOf]; omega
                · have hdf : dec = false := by simpa using hd
                  have hds := HDS.out
                  rw [if_neg (by rw [← HLV.out, ← HDEC.out]; exact hd)] at hds
                  have HDS2 := Lib.hid hds
                  have ks7 := KS3.out.below HB7.out hgS5
                  have KS7 := Lib.hid ks7
                  have hx7 := HX.out.same HSm7.out ⟨n1, n2, n3, n4, n5, n6⟩ hrB2
                  have HX7 := Lib.hid hx7
                  have y2d := s7.box.cell 0
                  have f2d := s7.box.frozen 0
                  simp at y2d
                  have hlO7 := s7.box.lt
                  have hB7 := hx7.sz
                  obtain ⟨i0, hi, hz0, hz1, hz2⟩ := info_parts infoInt
                  have HI := Lib.hid hi
                  have hm1 : o.length + 1 ≤ maxLen := by simp only [maxLen]; omega
                  have hm2 : (o.length + 1) * 8 ≤ 140737488355328 := by omega
                  have HPU := Lib.hid (show ∀ (g7 cap7 : Nat) (w8 : World), w8.ownsRow B 3 1 (.slice (some ⟨g7, 0, none⟩) (o.length + 1) cap7) (o.length + 1) (intsV o ++ [.int .i64 (e : Int)]) → (wc.alloc (.cells #[.int .i64 (e : Int)] 3)).grownBy w8 (Value.slice A2 o.length c2).ownBlock → ((Value.slice A2 o.length c2).ownBlock = some g7 ∨ g7 = wc.heap.size + 1) →
                      Blk w8 gO 22 #[.slice A2 o.length c2] ∧ SrB B gO gB (o ++ [e]) bc (.slice (some ⟨g7, 0, none⟩) (o.length + 1) cap7) bo bp bf (w8.setCell ⟨gO, 0, none⟩ (.slice (some ⟨g7, 0, none⟩) (o.length + 1) cap7)) ∧ Same gO gB r W (w8.setCell ⟨gO, 0, none⟩ (.slice (some ⟨g7, 0, none⟩) (o.length + 1) cap7)) ∧ Lat r W (some g7) ∧ Blk (w8.setCell ⟨gO, 0, none⟩ (.slice (some ⟨g7, 0, none⟩) (o.length + 1) cap7)) gS 63 #[.int .i64 (e : Int), .int .i64 sl.plates, .int .i64 sl.beg, .int .i64 sl.fin] ∧ Blk (w8.setCell ⟨gO, 0, none⟩ (.slice (some ⟨g7, 0, none⟩) (o.length + 1) cap7)) gL 63 #[.int .i64 s.edition, .int .i64 s.plates, .int .i64 s.beg, .int .i64 s.fin] from by
                    intro g7 cap7 w8 ho8 hg8 hat8
                    have sa := HS7.out.below (show Below wc.heap.size wc (wc.alloc (.cells #[.int .i64 (e : Int)] 3)) from (Below.refl _ _).alloc (Nat.le_refl _) _)
                    have hb8 : Blk w8 gO 22 #[.slice A2 o.length c2] := sa.box.grown hg8 (own_blk_ne sa.row sa.box (by decide))
                    have hks8 : Blk w8 gS 63 #[.int .i64 (e : Int), .int .i64 sl.plates, .int .i64 sl.beg, .int .i64 sl.fin] := (KS7.out.alloc _).grown hg8 (own_blk_ne sa.row (KS7.out.alloc _) (by decide))
                    have hkl8 : Blk w8 gL 63 #[.int .i64 s.edition, .int .i64 s.plates, .int .i64 s.beg, .int .i64 s.fin] := (HKL7.out.alloc _).grown hg8 (own_blk_ne sa.row (HKL7.out.alloc _) (by decide))
                    refine ⟨hb8, sa.push e g7 cap7 ho8 hg8 (by rcases hat8 with h | h; (exact .inl h); (exact .inr (by rw [h]; simp))), ?_, ?_, hks8.far (by exact Blk.ne_ hks8 hb8 (by decide)) _, hkl8.far (by exact Blk.ne_ hkl8 hb8 (by decide)) _⟩
                    · refine Same.put ?_ (.inr rfl) 0 _
                      refine (HSm7.out.trans (Same.of_below (show Below wc.heap.size wc (wc.alloc (.cells #[.int .i64 (e : Int)] 3)) from (Below.refl _ _).alloc (Nat.le_refl _) _)) (.inl rfl)).grown hg8 fun j hj => ?_
                      rcases HL.out with h | h
                      · exact .inr (.inr (.inr h))
                      · exact .inl (h j hj)
                    · rcases hat8 with h | h
                      · rw [← h]; exact HL.out
                      · exact .inr fun j hj => by injection hj with hj; have := HSm7.out.size; omega)
                  have HSR := Lib.hid s7.row
                  clear hds sm7 s7 kl7 hi ks7 hx7 hd
                  subst hdf
                  go_upto_region 14 with (at_builtin; refine wpList_append_lies _ rfl (.tmp 96) (.tmp 98) 22 rfl B 3 i0 _ 1 8 Try.underlying22 HI.out hz0 hz1 hz2 rfl (by decide) (.slice A2 o.length c2) o.length (intsV o) rfl (HSR.out.alloc _) ⟨wc.heap.size, 0, none⟩ 1 1 [.int .i64 (e : Int)] rfl rfl (news_of1 wc 3 #[.int .i64 (e : Int)]) (by intro u hu; simp at hu; subst hu; rfl) (by decide) hm1 hm2 (by simp; omega) (wc.heap.size + 1) (by simp) ?_; intro g7 cap7 w8 hown8 hgrow8 hat8 hlt8; have h8 := HPU.out g7 cap7 w8 hown8 hgrow8 hat8; have p8 := h8.1.cell 0; have q8 := h8.1.frozen 0; simp at p8; have H8 := Lib.hid h8; clear hown8 hgrow8 hat8 h8)
                  generalize hw9 : World.setCell w8 _ _ = w9
                  have h8 := H8.out
                  rw [hw9] at h8
                  obtain ⟨_, s9, sm9, lat9, ks9, kl9⟩ := h8
                  have hx9 := HX.out.same sm9 ⟨n1, n2, n3, n4, n5, n6⟩ hrB2
                  have hcall := IH.out (o ++ [e]) (p + sl.plates) (some sl) bc _ bo bp bf w9 (by simp; omega) (by simp; omega) (fun y hy => by rcases List.mem_append.1 hy with h | h; (exact HO.out y h); (simp at h; subst h; exact hlt)) (by simp) (fun s' hs' => by injection hs' with hs'; subst hs'; exact ⟨⟨e, hlt, HSE.out⟩, hsb.2.2.1, by have := hsb.2.2.2; simp; omega⟩) (by omega) (by simp; omega) hx9 s9
                  have HCALL := Lib.hid (show Calls Try.prog 119 #[.int .i64 (p + sl.plates), .agg #[.int .i64 (e : Int), .int .i64 sl.plates, .int .i64 sl.beg, .int .i64 sl.fin], .pointer (some ⟨gO, 0, none⟩), .pointer (some ⟨gW, 0, none⟩), .pointer (some ⟨gB, 0, none⟩), .pointer (some ⟨gT, 0, none⟩), .pointer (some ⟨gR, 0, none⟩)] w9 (TryPost B gO gB (some g7) (o ++ [e]) (dfs t (edsR t) time fuel (o ++ [e]) (p + sl.plates) (some sl) bc) w9) by have h0 := hcall; unfold argsT slV at h0; simp only [Option.getD_some] at h0; rw [HSE.out] at h0; exact h0)
                  have r6 := hx9.kR.cell 0
                  have g1 := ks9.cell 0
                  have g2 := ks9.cell 1
                  have g3 := ks9.cell 2
                  have g4 := ks9.cell 3
                  simp at r6 g1 g2 g3 g4
                  have HLAT9 := Lib.hid lat9
                  have HSM9 := Lib.hid sm9
                  have HKL9 := Lib.hid kl9
                  have HS9 := Lib.hid s9
                  clear hcall hw9 s9 sm9 lat9 ks9 kl9 hx9
                  go_wp2_with (go_at_call 119; refine HCALL.out.mono ?_; rintro q w10 ⟨⟨rv, rfl⟩, ⟨v2, bo2, bp2, bf2, s10, lat10⟩, sm10⟩; obtain ⟨gz, cz, hvz, _, _⟩ := s10.row.form (by simp); subst hvz; have HS10 := Lib.hid s10; have HLAT10 := Lib.hid lat10; have HSM10 := Lib.hid sm10; have y10 := s10.box.cell 0; have f10 := s10.box.frozen 0; simp at y10; have hcap := own_cap s10.row; simp at hcap; have hlO10 := s10.box.lt; have fi := IntWalk.i64_in ((o.length : Int) + 1 - 1) (by omega); clear s10 lat10 sm10)
                  go_roundw
                  case rel =>
                    have h10 : SrB B gO gB (o ++ [e]) (dfs t (edsR t) time fuel (o ++ [e]) (p + sl.plates) (some sl) bc) (.slice (some ⟨gz, 0, none⟩) (o.length + 1) cz) bo2 bp2 bf2 w10 := by
                      have h0 := HS10.out
                      rw [List.length_append] at h0
                      exact h0
                    have kl10 := HSM10.out.blk HKL9.out (Blk.ne_ HKL9.out HS9.out.box (by decide)) (Blk.ne_ HKL9.out HS9.out.best (by decide)) (own_blk_ne HS9.out.row HKL9.out (by decide))
                    exact ⟨e + 1, .slice (some ⟨gz, 0, none⟩) o.length cz, bo2, bp2, bf2, by omega, by go_num, by rw [HF.out, HDS2.out]; exact h10.pop, HLAT9.out.trans HLAT10.out HSM9.out.size, (HSM9.out.trans HSM10.out HLAT9.out).put (.inr rfl) 0 _, kl10.far (by exact Blk.ne_ HKL9.out HS9.out.box (by decide)) _, trivial⟩
                  case measure => simp [intOf]; omega
        · obtain rfl : e = k.es.length := by omega
          go_wp2_with fail
          go_end0
          exact ⟨⟨_, rfl⟩, ⟨_, _, _, _, HS.out, HL.out⟩, HSm.out⟩
end Go.Proofs.Ytokdleanpkkdpaa
