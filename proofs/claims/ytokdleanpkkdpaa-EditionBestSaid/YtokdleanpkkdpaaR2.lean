/- The slots of an order, one by one; the iterator of slots; conditions: a right title. -/
import Derived.Test.YtokdleanpkkdpaaR1
import Derived.Test.YtokdleanpkkdpaaE2
import Derived.Test.YtokdleanpkkdpaaE3
import Derived.Shelf.Abstract
import Derived.OwnWalkIn
import Derived.TacticsInMore
import Derived.LoopNIn
import Derived.LoopIn
import Derived.RangeFuncCalls
import Derived.Sort.CutIn
set_option linter.unusedSimpArgs false
set_option linter.unusedVariables false
namespace Go.Ed
open Go.Fh Go.RowKit Go.Proofs.Ytokdleanpkkdpaa
def upF {α : Type} (f : Nat → α) (k : Nat) : List α := (List.range k).map f
theorem upF_succ {α : Type} (f : Nat → α) (k : Nat) : upF f (k + 1) = upF f k ++ [f k] := by simp [upF, List.range_succ]
theorem upF_len {α : Type} (f : Nat → α) (k : Nat) : (upF f k).length = k := by simp [upF]
def slo0 : SloD := ⟨0, 0, 0, 0⟩
/-- the slot at a place of an order -/
def slotAt (t : TitD) (es : List EdD) (o : List Nat) (i : Nat) : SloD := ((runE t es (o.take (i + 1))).2.1).getD slo0
def slotsD (t : TitD) (es : List EdD) (o : List Nat) : List SloD := upF (slotAt t es o) o.length
theorem runE_last (t : TitD) (es : List EdD) (o : List Nat) {i : Nat} (h : i < o.length) : (runE t es (o.take (i + 1))).2.1 = some (slotE t es (runE t es (o.take i)).2.1 o[i]) := by
  rw [List.take_succ_eq_append_getElem h, runE_snoc]; rfl
theorem slotAt_zero (t : TitD) (es : List EdD) (o : List Nat) (h : 0 < o.length) : slotAt t es o 0 = firstS t es o[0] := by
  unfold slotAt
  rw [runE_last t es o h]
  rfl
theorem slotE_ed (t : TitD) (es : List EdD) (l : Option SloD) (e : Nat) : (slotE t es l e).edition = e := by cases l <;> rfl
theorem slotAt_ed (t : TitD) (es : List EdD) (o : List Nat) {i : Nat} (h : i < o.length) : (slotAt t es o i).edition = o[i] := by
  unfold slotAt
  rw [runE_last t es o h]
  exact slotE_ed _ _ _ _
theorem slotAt_succ (t : TitD) (es : List EdD) (o : List Nat) {i : Nat} (h : i + 1 < o.length) : slotAt t es o (i + 1) = nextS t es o[i + 1] (o[i]'(by omega)) (slotAt t es o i).fin := by
  have h1 := slotAt_ed t es o (show i < o.length by omega)
  unfold slotAt at h1 ⊢
  rw [runE_last t es o h]
  rw [runE_last t es o (show i < o.length by omega)] at h1 ⊢
  simp only [Option.getD_some] at h1 ⊢
  show nextS t es o[i + 1] (slotE t es _ _).edition.toNat _ = _
  rw [h1, Int.toNat_natCast]
theorem edsR_ok {t : TitD} (h : ChkOk t) {e : EdD} (he : e ∈ edsR t) : OkE t e := by
  obtain ⟨e0, h0, rfl⟩ := edsR_mem he
  have b := edsN_bd h _ (Nat.le_refl _) e0 h0
  have hr := readyN_bd (l := t.ready) (fun r hr => by
    obtain ⟨i, hi, rfl⟩ := List.getElem_of_mem hr
    have h0 := h.er i hi
    unfold errR at h0
    rw [show t.ready.getD i (0, 0, 0) = t.ready[i] by simp [hi]] at h0
    dsimp only at h0
    split at h0
    · cases h0
    · rename_i h1
      simp only [Bool.or_eq_true, not_or, Bool.not_eq_true, Bool.not_eq_false'] at h1
      exact inB_iff.1 h1.2.2) e0.variants t.ready.length (Nat.le_refl _)
  have := h.z1
  exact ⟨b.c0, by have := b.c1; show e0.copies ≤ _; omega, hr.1, hr.2, b.d0, b.d1⟩
theorem getD_mem {es : List EdD} {e : Nat} (h : e < es.length) : es.getD e ed0 ∈ es := by rw [List.getD_eq_getElem?_getD, List.getElem?_eq_getElem h]; exact List.getElem_mem h
theorem slotAt_bd {t : TitD} (h : ChkOk t) {o : List Nat} (ho : ∀ e ∈ o, e < (edsR t).length) : ∀ i, i < o.length → 0 ≤ (slotAt t (edsR t) o i).beg ∧ (slotAt t (edsR t) o i).beg < (slotAt t (edsR t) o i).fin ∧ (slotAt t (edsR t) o i).fin ≤ 722000000 * ((i : Int) + 1) := by
  intro i
  induction i with
  | zero =>
    intro hi
    rw [slotAt_zero _ _ _ hi]
    have hm := getD_mem (ho o[0] (List.getElem_mem hi))
    have hok := edsR_ok h hm
    have := endOf_bd h.ok hok (max t.start ((edsR t).getD o[0] ed0).ready)
    have := hok.r0
    have := hok.r1
    have := h.ok.start0
    have := h.ok.start1
    show 0 ≤ max t.start _ ∧ max t.start _ < endOf _ _ _ ∧ endOf _ _ _ ≤ _
    omega
  | succ i ih =>
    intro hi
    have ih := ih (by omega)
    rw [slotAt_succ _ _ _ hi]
    have hm := getD_mem (ho o[i + 1] (List.getElem_mem hi))
    have hok := edsR_ok h hm
    obtain ⟨ch, hch⟩ : ∃ c, c = changeB t ((edsR t).getD (o[i]'(by omega)) ed0) ((edsR t).getD o[i + 1] ed0) := ⟨_, rfl⟩
    have hcb := changeB_bd h.ok ((edsR t).getD (o[i]'(by omega)) ed0) ((edsR t).getD o[i + 1] ed0)
    rw [← hch] at hcb
    have hmul : 0 ≤ ch * t.hang ∧ ch * t.hang ≤ 256 * 3600 := ⟨Int.mul_nonneg (by omega) h.ok.hang0, Int.mul_le_mul hcb.2 h.ok.hang1 h.ok.hang0 (by omega)⟩
    have hr0 := hok.r0
    have hr1 := hok.r1
    have hs0 := h.ok.stop0
    have hs1 := h.ok.stop1
    obtain ⟨f, hf⟩ : ∃ f, f = (slotAt t (edsR t) o i).fin := ⟨_, rfl⟩
    rw [← hf] at ih
    have hen := endOf_bd h.ok hok (max f ((edsR t).getD o[i + 1] ed0).ready + t.stop + ch * t.hang)
    have key : 0 ≤ max f ((edsR t).getD o[i + 1] ed0).ready + t.stop + ch * t.hang ∧ max f ((edsR t).getD o[i + 1] ed0).ready + t.stop + ch * t.hang < endOf t ((edsR t).getD o[i + 1] ed0) (max f ((edsR t).getD o[i + 1] ed0).ready + t.stop + ch * t.hang) ∧ endOf t ((edsR t).getD o[i + 1] ed0) (max f ((edsR t).getD o[i + 1] ed0).ready + t.stop + ch * t.hang) ≤ 722000000 * (((i + 1 : Nat) : Int) + 1) := by
      generalize ch * t.hang = m at *
      omega
    rw [hch, hf] at key
    exact key
end Go.Ed
namespace Go.Proofs.Ytokdleanpkkdpaa
open Go.RowKit Go.Fh Go.Ed Go.Shelf
attribute [local go_sem] Oper.semAt_some
def Kept (g : Nat) (A B : World) : Prop := ∀ o, A.heap[g]? = some o → B.heap[g]? = some o
/-- what a round of a range over slots leaves as it lay: whatever lies below g0, and three blocks -/
def KpS (g0 gO gQ b : Nat) (A B : World) : Prop := Below g0 A B ∧ Kept gO A B ∧ Kept gQ A B ∧ Kept b A B
def encsS (x : Nat × SloD) : Array Value := #[.int .i64 (x.1 : Int), slV x.2]
def itF (t : TitD) (es : List EdD) (o : List Nat) (i : Nat) : Nat × SloD := (i, slotAt t es o i)
set_option maxRecDepth 100000 in
set_option maxHeartbeats 4000000 in
theorem slots_in (n : Nat) (hn : 1 ≤ n) (t : TitD) (x : TA) (k : Wk) (B gO gQ : Nat) (A : Option Addr) (c : Nat) (o : List Nat) (w w0 : World) (hc : ChkOk t) (hW : WorkAt w B t x k) (hol : o.length ≤ 100) (ho : ∀ e ∈ o, e < (edsR t).length)
    (hA : Sl encInt 1 w w.heap.size A (o.map fun (e : Nat) => (e : Int))) (hw0 : Below w.heap.size w w0) (hO : Blk w0 gO 22 #[.slice A o.length c]) (hQ : Blk w0 gQ 124 #[.pointer (some ⟨k.g, 0, none⟩)]) (G : Nat × SloD → Prop) (hGG : ∀ i, i < o.length → G (itF t (edsR t) o i)) :
    SeqC Fence.wide n Try.prog 114 #[.pointer (some ⟨gO, 0, none⟩), .pointer (some ⟨gQ, 0, none⟩)] encsS (KpS w.heap.size gO gQ) G (fun ys => ys = upF (itF t (edsR t) o) o.length) (fun pre => ∃ i, i < o.length ∧ pre = upF (itF t (edsR t) o) (i + 1)) o.length w0 := by
  intro l J Jx W hb hJ hJx hY h0
  have hgO := hO.lt
  have hgQ := hQ.lt
  have kO := hO.below hb hgO
  have kQ := hQ.below hb hgQ
  have hwW := hw0.trans (hb.mono hw0.size)
  have HW := Lib.hid hW
  have HA := Lib.hid hA
  have HC := Lib.hid hc
  have HO := Lib.hid ho
  have HJ := Lib.hid hJ
  have HJX := Lib.hid hJx
  have HY := Lib.hid hY
  have H0 := Lib.hid h0
  have HWW := Lib.hid hwW
  have hgO1 := kO.lt
  have hgQ1 := kQ.lt
  have KO := Lib.hid kO
  have KQ := Lib.hid kQ
  obtain ⟨gS, hgS⟩ : ∃ g, g = W.heap.size := ⟨_, rfl⟩
  obtain ⟨W1, hW1⟩ : ∃ X, X = W.alloc (.cells #[.int .i64 0, .int .i64 0, .int .i64 0, .int .i64 0] 63) := ⟨_, rfl⟩
  have kS : Blk W1 gS 63 #[.int .i64 0, .int .i64 0, .int .i64 0, .int .i64 0] := by rw [hW1, hgS]; exact Blk.new W 63 _
  have hb1 : Below W.heap.size W W1 := by rw [hW1]; exact (Below.refl _ _).alloc (Nat.le_refl _) _
  have hs1 : gS < W1.heap.size := kS.lt
  have h01 : J [] W1 := hJ [] W W1 h0 (by rw [hW1]; exact World.grownBy_alloc _ _ _)
  have hlk := HW.out.hk.lt
  have hsW : w.heap.size ≤ W.heap.size := hwW.size
  have KS := Lib.hid kS
  have HB1 := Lib.hid hb1
  have HW1 := Lib.hid hW1
  have HGS := Lib.hid hgS
  have H01 := Lib.hid h01
  have y1 := kO.cell 0
  simp at y1
  clear kS hb1 hW1 h01 kO kQ hwW hW hA hc ho hJ hJx hY h0 hO hQ hb hw0 hgS
  refine callsIn_of_wp Try.func114 rfl trivial ?_ rfl
  simp only [Try.ntmps114, List.size_toArray, List.length_cons, List.length_nil, Nat.reduceAdd, Nat.reduceSub, Array.replicate_succ, Array.replicate_zero, List.push_toArray, List.append_toArray, List.nil_append, List.cons_append]
  gi_wp2
  rw [← HW1.out, ← HGS.out]
  clear y1
  gi_loopw [9] (fun i wr => ∃ q : Nat, q ≤ o.length ∧ i = .int .i64 (q : Int) ∧ J (upF (itF t (edsR t) o) q) wr ∧ Hid (∃ s : SloD, (q ≠ 0 → s = slotAt t (edsR t) o (q - 1)) ∧ Blk wr gS 63 #[.int .i64 s.edition, .int .i64 s.plates, .int .i64 s.beg, .int .i64 s.fin]) ∧ Hid (Below w.heap.size w wr) ∧ Hid (Blk wr gO 22 #[.slice A o.length c]) ∧ Hid (Blk wr gQ 124 #[.pointer (some ⟨k.g, 0, none⟩)]) ∧ W.heap.size < wr.heap.size) (fun i _ => o.length - (intOf i).toNat)
  case atStart => exact ⟨0, Nat.zero_le _, rfl, H01.out, ⟨slo0, fun h => absurd rfl h, KS.out⟩, HWW.out.trans (HB1.out.mono hsW), KO.out.below HB1.out hgO1, KQ.out.below HB1.out hgQ1, by rw [← HGS.out]; exact hs1⟩
  case round =>
    obtain ⟨q, hq, rfl, hJs, HSL, HBL, HOL, HQL, hsz⟩ := hrel
    obtain ⟨s, hs1', ks⟩ := HSL.out
    have HJs := Lib.hid hJs
    have y0 := HQL.out.cell 0
    simp at y0
    have s0 := ks.cell 0
    have s1 := ks.cell 1
    have s2 := ks.cell 2
    have s3 := ks.cell 3
    have z0 := ks.frozen 0
    have z1 := ks.frozen 1
    have z2 := ks.frozen 2
    have z3 := ks.frozen 3
    simp at s0 s1 s2 s3
    have hgSr := ks.lt
    have HKS := Lib.hid ks
    have HS1 := Lib.hid hs1'
    clear hJs ks hs1'
    by_cases hlt : q < o.length
    · have hlm : q < (o.map fun (e : Nat) => (e : Int)).length := by simpa using hlt
      obtain ⟨ob, oo, hoa, hob, c0⟩ := (HA.out.below HBL.out).at1 hlm
      rw [List.getElem_map] at c0
      subst hoa
      have hen := HO.out o[q] (List.getElem_mem hlt)
      obtain ⟨en, he⟩ : ∃ e, e = o[q] := ⟨_, rfl⟩
      rw [← he] at c0 hen
      have hek : en < k.es.length := by rw [HW.out.len]; exact hen
      have HE := Lib.hid he
      have h7 : k.es.length ≤ 1000 := by rw [HW.out.len, edsR_len]; have := HC.out.n1; omega
      obtain ⟨sl, hsl⟩ : ∃ s, s = slotAt t (edsR t) o q := ⟨_, rfl⟩
      have HSV := Lib.hid hsl
      have hY1 := fun W' hj hsz' => HY.out (upF (itF t (edsR t) o) q) (q, sl) W' (by have := hGG q hlt; rw [show itF t (edsR t) o q = (q, sl) from by rw [hsl]; rfl] at this; exact this) hj (by rw [upF_len]; exact hlt) hsz'
      have hup : upF (itF t (edsR t) o) (q + 1) = upF (itF t (edsR t) o) q ++ [(q, sl)] := by rw [upF_succ, hsl]; rfl
      have HUP := Lib.hid hup
      have HY1 := Lib.hid hY1
      clear he hsl hY1 hup
      by_cases hq0 : q = 0
      · have t15 : ((q : Int) == 0) = true := by simp [hq0]
        have HQ0 := Lib.hid hq0
        have hfs := fun W' (hb : Below wr.heap.size wr W') => first_any t HC.out.ok x k.es k.E k.C k.cE k.cC k.g en W' h7 hek (edsR_ok HC.out (show k.es[en].1 ∈ edsR t by rw [← HW.out.eds]; exact List.mem_map.2 ⟨_, List.getElem_mem hek, rfl⟩)) ((HW.out.below (HBL.out.trans (hb.mono HBL.out.size))).hk) ((HW.out.below (HBL.out.trans (hb.mono HBL.out.size))).hE)
        rw [HW.out.eds] at hfs
        have hv : firstS t (edsR t) en = sl := by
          have h0 := HQ0.out
          subst h0
          rw [HSV.out, slotAt_zero _ _ _ hlt, HE.out]
        rw [hv] at hfs
        have HFS := Lib.hid (show Calls Try.prog 87 #[.pointer (some ⟨k.g, 0, none⟩), .int .i64 (en : Int)] wr fun r w' => r = .returned (.agg #[.int .i64 sl.edition, .int .i64 sl.plates, .int .i64 sl.beg, .int .i64 sl.fin]) ∧ Below wr.heap.size wr w' from hfs wr (Below.refl _ _))
        clear hfs hv hq0
        gi_upto_region 7 with (refine ⟨trivial, ?_⟩; gi_at_call 87; refine (callsIn_wide.2 HFS.out).mono ?_; rintro e w2 ⟨rfl, hb2⟩; have k2 := HKS.out.below hb2 hgSr; have t0 := k2.cell 0; have t1 := k2.cell 1; have t2 := k2.cell 2; have t3 := k2.cell 3; have v0 := k2.frozen 0; have v1 := k2.frozen 1; have v2 := k2.frozen 2; have v3 := k2.frozen 3; simp at t0 t1 t2 t3; have HB2 := Lib.hid hb2; have K2 := Lib.hid k2; clear hb2 k2)
        have k3 := (((K2.out.set_ 0 (.int .i64 sl.edition)).set_ 1 (.int .i64 sl.plates)).set_ 2 (.int .i64 sl.beg)).set_ 3 (.int .i64 sl.fin)
        have hst : ∀ u0 u1 u2 u3, wr.grownBy ((((w2.setCell ⟨gS, 0, none⟩ u0).setCell ⟨gS, 1, none⟩ u1).setCell ⟨gS, 2, none⟩ u2).setCell ⟨gS, 3, none⟩ u3) (some gS) := by
          intro u0 u1 u2 u3
          have h := HB2.out
          refine ⟨h.os, h.tape, h.output, by simpa [World.setCell] using h.size, fun j hj hne => ?_⟩
          have hjn : j ≠ gS := fun e => hne (by rw [e])
          rw [Below.heap_setCell _ _ _ j hjn, Below.heap_setCell _ _ _ j hjn, Below.heap_setCell _ _ _ j hjn, Below.heap_setCell _ _ _ j hjn]
          exact h.block j hj
        have hgr := hst (.int .i64 sl.edition) (.int .i64 sl.plates) (.int .i64 sl.beg) (.int .i64 sl.fin)
        generalize hw3 : World.setCell _ _ _ = w3
        rw [hw3] at k3 hgr
        have hJ3 := HJ.out _ _ _ HJs.out (by rw [← HGS.out]; exact hgr)
        have hsz3 : W.heap.size < w3.heap.size := Nat.lt_of_lt_of_le hsz hgr.size
        obtain ⟨fn, tmps, assign, body, hy, hR⟩ := HY1.out w3 hJ3 hsz3
        dsimp only [encsS, slV] at hy
        have HR := Lib.hid hR
        have K3 := Lib.hid k3
        have HGR := Lib.hid hgr
        have r0 := k3.cell 0
        have r1 := k3.cell 1
        have r2 := k3.cell 2
        have r3 := k3.cell 3
        simp at r0 r1 r2 r3
        have hsW3 : w.heap.size ≤ gS := by rw [HGS.out]; exact hsW
        clear hw3 hst hgr hJ3 k3 hR t0 t1 t2 t3 v0 v1 v2 v3 s0 s1 s2 s3 z0 z1 z2 z3 y0 c0
        gi_wp2
        refine HR.out.mono ?_
        rintro e W4 (⟨rfl, hJ4, hk4⟩ | ⟨rfl, hJx4⟩)
        · have HJ4 := Lib.hid hJ4
          have HK4 := Lib.hid hk4
          clear hJ4 hk4 hy r0 r1 r2 r3
          gi_wp2
          go_roundw
          case rel =>
            have hb4 : Below w.heap.size w W4 := (HBL.out.grown HGR.out HBL.out.size (fun j hj => by injection hj with hj; rw [← hj]; exact hsW3)).trans HK4.out.1
            have hne1 : some gO ≠ some gS := fun e => by injection e with e; have h1 : _ = some _ := HOL.out; have h2 : _ = some _ := HKS.out; rw [e, h2] at h1; injection h1 with h1; injection h1 with _ ht; cases ht
            have hne2 : some gQ ≠ some gS := fun e => by injection e with e; have h1 : _ = some _ := HQL.out; have h2 : _ = some _ := HKS.out; rw [e, h2] at h1; injection h1 with h1; injection h1 with _ ht; cases ht
            refine ⟨q + 1, by omega, by simp, by rw [HUP.out]; exact HJ4.out, ⟨sl, fun _ => by simp [HSV.out], ?_⟩, hb4, ?_, ?_, Nat.lt_of_lt_of_le hsz3 HK4.out.1.size⟩
            · have := HK4.out.2.2.2
              rw [← HGS.out] at this
              exact this _ K3.out
            · exact HK4.out.2.1 _ (HOL.out.grown HGR.out hne1)
            · exact HK4.out.2.2.1 _ (HQL.out.grown HGR.out hne2)
          case measure => simp [intOf]; omega
        · have HJ4 := Lib.hid hJx4
          clear hJx4 hy r0 r1 r2 r3
          gi_wp2
          refine bodyPost_ret (results_none rfl _ _ _) rfl ?_
          exact ⟨⟨_, rfl⟩, .inr ⟨_, ⟨q, hlt, rfl⟩, by rw [HUP.out]; exact HJ4.out⟩⟩
      · have t15 : ((q : Int) == 0) = false := by simp [hq0]
        obtain ⟨p, rfl⟩ : ∃ p, q = p + 1 := ⟨q - 1, by omega⟩
        have hsp := HS1.out (by omega)
        simp only [Nat.add_sub_cancel] at hsp
        obtain ⟨bf, hbf⟩ : ∃ b, b = o[p]'(by omega) := ⟨_, rfl⟩
        have hse : s.edition = (bf : Int) := by rw [hsp, slotAt_ed _ _ _ (by omega), hbf]
        have hbn : bf < (edsR t).length := by rw [hbf]; exact HO.out _ (List.getElem_mem _)
        have hbk : bf < k.es.length := by rw [HW.out.len]; exact hbn
        have hfb := slotAt_bd HC.out HO.out p (by omega)
        rw [← hsp] at hfb
        have hns := fun W' (hb : Below wr.heap.size wr W') => next_any t HC.out.ok x k.es k.E k.C k.cE k.cC k.g k.rows en bf s.fin W' h7 hek hbk (edsR_ok HC.out (show k.es[en].1 ∈ edsR t by rw [← HW.out.eds]; exact List.mem_map.2 ⟨_, List.getElem_mem hek, rfl⟩)) (by omega) (by omega) ((HW.out.below (HBL.out.trans (hb.mono HBL.out.size))).hk) ((HW.out.below (HBL.out.trans (hb.mono HBL.out.size))).hE) HW.out.hrl ((HW.out.below (HBL.out.trans (hb.mono HBL.out.size))).hC) ((HW.out.below (HBL.out.trans (hb.mono HBL.out.size))).hR)
        rw [HW.out.eds] at hns
        have hv : nextS t (edsR t) en bf s.fin = sl := by rw [HSV.out, slotAt_succ _ _ _ hlt, hsp, HE.out, hbf]
        rw [hv] at hns
        have HFS := Lib.hid (show Calls Try.prog 88 #[.pointer (some ⟨k.g, 0, none⟩), .int .i64 (en : Int), .int .i64 (bf : Int), .int .i64 s.fin] wr fun r w' => r = .returned (.agg #[.int .i64 sl.edition, .int .i64 sl.plates, .int .i64 sl.beg, .int .i64 sl.fin]) ∧ Below wr.heap.size wr w' from hns wr (Below.refl _ _))
        rw [hse] at s0
        clear hns hv hq0 hse hsp hbf hfb
        gi_upto_region 7 with (refine ⟨trivial, ?_⟩; gi_at_call 88; refine (callsIn_wide.2 HFS.out).mono ?_; rintro e w2 ⟨rfl, hb2⟩; have k2 := HKS.out.below hb2 hgSr; have t0 := k2.cell 0; have t1 := k2.cell 1; have t2 := k2.cell 2; have t3 := k2.cell 3; have v0 := k2.frozen 0; have v1 := k2.frozen 1; have v2 := k2.frozen 2; have v3 := k2.frozen 3; simp at t0 t1 t2 t3; have HB2 := Lib.hid hb2; have K2 := Lib.hid k2; clear hb2 k2)
        have k3 := (((K2.out.set_ 0 (.int .i64 sl.edition)).set_ 1 (.int .i64 sl.plates)).set_ 2 (.int .i64 sl.beg)).set_ 3 (.int .i64 sl.fin)
        have hst : ∀ u0 u1 u2 u3, wr.grownBy ((((w2.setCell ⟨gS, 0, none⟩ u0).setCell ⟨gS, 1, none⟩ u1).setCell ⟨gS, 2, none⟩ u2).setCell ⟨gS, 3, none⟩ u3) (some gS) := by
          intro u0 u1 u2 u3
          have h := HB2.out
          refine ⟨h.os, h.tape, h.output, by simpa [World.setCell] using h.size, fun j hj hne => ?_⟩
          have hjn : j ≠ gS := fun e => hne (by rw [e])
          rw [Below.heap_setCell _ _ _ j hjn, Below.heap_setCell _ _ _ j hjn, Below.heap_setCell _ _ _ j hjn, Below.heap_setCell _ _ _ j hjn]
          exact h.block j hj
        have hgr := hst (.int .i64 sl.edition) (.int .i64 sl.plates) (.int .i64 sl.beg) (.int .i64 sl.fin)
        generalize hw3 : World.setCell _ _ _ = w3
        rw [hw3] at k3 hgr
        have hJ3 := HJ.out _ _ _ HJs.out (by rw [← HGS.out]; exact hgr)
        have hsz3 : W.heap.size < w3.heap.size := Nat.lt_of_lt_of_le hsz hgr.size
        obtain ⟨fn, tmps, assign, body, hy, hR⟩ := HY1.out w3 hJ3 hsz3
        dsimp only [encsS, slV] at hy
        rw [show ((p + 1 : Nat) : Int) = (p : Int) + 1 by omega] at hy
        have HR := Lib.hid hR
        have K3 := Lib.hid k3
        have HGR := Lib.hid hgr
        have r0 := k3.cell 0
        have r1 := k3.cell 1
        have r2 := k3.cell 2
        have r3 := k3.cell 3
        simp at r0 r1 r2 r3
        have hsW3 : w.heap.size ≤ gS := by rw [HGS.out]; exact hsW
        clear hw3 hst hgr hJ3 k3 hR t0 t1 t2 t3 v0 v1 v2 v3 s0 s1 s2 s3 z0 z1 z2 z3 y0 c0
        gi_wp2
        refine HR.out.mono ?_
        rintro e W4 (⟨rfl, hJ4, hk4⟩ | ⟨rfl, hJx4⟩)
        · have HJ4 := Lib.hid hJ4
          have HK4 := Lib.hid hk4
          clear hJ4 hk4 hy r0 r1 r2 r3
          gi_wp2
          go_roundw
          case rel =>
            have hb4 : Below w.heap.size w W4 := (HBL.out.grown HGR.out HBL.out.size (fun j hj => by injection hj with hj; rw [← hj]; exact hsW3)).trans HK4.out.1
            have hne1 : some gO ≠ some gS := fun e => by injection e with e; have h1 : _ = some _ := HOL.out; have h2 : _ = some _ := HKS.out; rw [e, h2] at h1; injection h1 with h1; injection h1 with _ ht; cases ht
            have hne2 : some gQ ≠ some gS := fun e => by injection e with e; have h1 : _ = some _ := HQL.out; have h2 : _ = some _ := HKS.out; rw [e, h2] at h1; injection h1 with h1; injection h1 with _ ht; cases ht
            refine ⟨p + 1 + 1, by omega, by simp, by rw [HUP.out]; exact HJ4.out, ⟨sl, fun _ => by simp [HSV.out], ?_⟩, hb4, ?_, ?_, Nat.lt_of_lt_of_le hsz3 HK4.out.1.size⟩
            · have := HK4.out.2.2.2
              rw [← HGS.out] at this
              exact this _ K3.out
            · exact HK4.out.2.1 _ (HOL.out.grown HGR.out hne1)
            · exact HK4.out.2.2.1 _ (HQL.out.grown HGR.out hne2)
          case measure => simp [intOf]; omega
        · have HJ4 := Lib.hid hJx4
          clear hJx4 hy r0 r1 r2 r3
          gi_wp2
          refine bodyPost_ret (results_none rfl _ _ _) rfl ?_
          exact ⟨⟨_, rfl⟩, .inr ⟨_, ⟨p + 1, hlt, rfl⟩, by rw [HUP.out]; exact HJ4.out⟩⟩
    · obtain rfl : q = o.length := by omega
      clear s0 s1 s2 s3 z0 z1 z2 z3 y0
      gi_wp2
      go_end0
      exact ⟨⟨_, rfl⟩, .inl ⟨_, rfl, HJs.out⟩⟩
end Go.Proofs.Ytokdleanpkkdpaa
