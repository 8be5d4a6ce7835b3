/- Contract of ready: when an edition's last plates can be hung; conditions: a title at work, pages that are there. -/
import Derived.Test.YtokdleanpkkdpaaC1
set_option linter.unusedSimpArgs false
set_option linter.unusedVariables false
namespace Go.Ed
theorem readyN_bd {l : List (Int × Int × Int)} (h : ∀ r ∈ l, 0 ≤ r.2.2 ∧ r.2.2 ≤ 86400) (v : List Int) : ∀ k, k ≤ l.length → 0 ≤ readyN l v k ∧ readyN l v k ≤ 86400 := by
  intro k
  induction k with
  | zero => intro _; simp [readyN]
  | succ k ih =>
    intro hk
    have h0 := ih (by omega)
    have hg : l.getD k (0, 0, 0) = l[k] := by simp [show k < l.length by omega]
    have := h _ (List.getElem_mem (show k < l.length by omega))
    unfold readyN
    rw [hg]
    split <;> omega
end Go.Ed
namespace Go.Proofs.Ytokdleanpkkdpaa
open Go.RowKit Go.Fh Go.Ed

set_option maxRecDepth 20000 in
set_option maxHeartbeats 4000000 in
theorem ready_any (t : TitD) (x : TA) (E C : Value) (g : Nat) (al : Int) (e : EdD) (y : EA) (w : World) (hrl : t.ready.length ≤ 1000000000) (hk : Blk w g 129 (workC t x E C al))
    (hR : Sl enc3 3 w w.heap.size x.r t.ready) (hV : Sl encInt 1 w w.heap.size y.v e.variants) (hr : ∀ r ∈ t.ready, 0 ≤ r.1 ∧ r.1 < e.variants.length) :
    Calls Try.prog 79 #[.pointer (some ⟨g, 0, none⟩), .agg (edV e y)] w fun r w' => r = .returned (.int .i64 (readyN t.ready e.variants t.ready.length)) ∧ Below w.heap.size w w' := by
  obtain ⟨w1, hw1⟩ : ∃ W, W = w.alloc (.cells (edV e y) 52) := ⟨_, rfl⟩
  have hbw : Below w.heap.size w w1 := by rw [hw1]; exact (Below.refl _ _).alloc (Nat.le_refl _) _
  obtain ⟨gE, hgE⟩ : ∃ g, g = w.heap.size := ⟨_, rfl⟩
  have kE : Blk w1 gE 52 (edV e y) := by rw [hw1, hgE]; exact Blk.new w 52 _
  have hg : g < w.heap.size := hk.lt
  have hk1 := hk.below hbw hg
  have hg1 : g < w1.heap.size := hk1.lt
  have hgE1 : gE < w1.heap.size := kE.lt
  have k3 := hk1.cell 3
  simp [workC] at k3
  have HR := Lib.hid hR
  have HV := Lib.hid hV
  have HRR := Lib.hid hr
  have HW1 := Lib.hid hw1
  have HGE := Lib.hid hgE
  have KE := Lib.hid kE
  have HBW := Lib.hid hbw
  clear hR hV hr hw1 hgE kE hbw hk hk1
  unfold edV at *
  go_enter Try.func79, Try.ntmps79
  go_upto_region 1 with fail
  rw [← HW1.out, ← HGE.out]
  go_wp2_with fail
  go_loopw [5, 14] (fun m i wr => ∃ k : Nat, k ≤ t.ready.length ∧ i = .int .i64 k ∧ m = .int .i64 (readyN t.ready e.variants k) ∧ Below w1.heap.size w1 wr) (fun _ i _ => t.ready.length - (intOf i).toNat)
  case atStart => exact ⟨0, Nat.zero_le _, rfl, rfl, Below.refl _ _⟩
  case round =>
    obtain ⟨k, hk, rfl, rfl, hW⟩ := hrel
    have HW := Lib.hid hW
    by_cases hlt : k < t.ready.length
    · obtain ⟨rb, ro, hxa, hrb, c0, c1, c2⟩ := (HR.out.below (HBW.out.trans (hW.mono HBW.out.size))).at3 hlt
      obtain ⟨pg, vr, at_, hq⟩ : ∃ a b c, t.ready[k] = (a, b, c) := ⟨_, _, _, rfl⟩
      have hrr := HRR.out _ (List.getElem_mem hlt)
      have hgd : t.ready.getD k (0, 0, 0) = (pg, vr, at_) := by rw [← hq]; simp [hlt]
      rw [hq] at c0 c1 c2 hrr
      dsimp only at c0 c1 c2 hrr
      obtain ⟨pn, rfl⟩ : ∃ n : Nat, pg = n := ⟨pg.toNat, by omega⟩
      have hpn : pn < e.variants.length := by omega
      obtain ⟨vb, vo, hva, hvb, d0⟩ := (HV.out.below (HBW.out.trans (hW.mono HBW.out.size))).at1 hpn
      have hvg : e.variants.getD pn (-1) = e.variants[pn] := by simp [hpn]
      obtain ⟨vv, hvv⟩ : ∃ v, v = e.variants[pn] := ⟨_, rfl⟩
      rw [← hvv] at d0 hvg
      have ke := KE.out.below hW hgE1
      have e4 := ke.cell 4
      simp at e4
      rw [hva] at e4
      rw [hxa]
      have hs : readyN t.ready e.variants (k + 1) = if vv = vr then max (readyN t.ready e.variants k) at_ else readyN t.ready e.variants k := by
        conv => lhs; unfold readyN
        rw [hgd]
        simp only [Int.toNat_natCast, hvg]
      obtain ⟨rn, hrn⟩ : ∃ r, r = readyN t.ready e.variants k := ⟨_, rfl⟩
      rw [← hrn] at hs ⊢
      obtain ⟨w2, hw2⟩ : ∃ W, W = wr.alloc (.cells #[.int .i64 (pn : Int), .int .i64 vr, .int .i64 at_] 69) := ⟨_, rfl⟩
      obtain ⟨gR, hgR⟩ : ∃ g, g = wr.heap.size := ⟨_, rfl⟩
      have kR : Blk w2 gR 69 #[.int .i64 (pn : Int), .int .i64 vr, .int .i64 at_] := by rw [hw2, hgR]; exact Blk.new wr 69 _
      have hb2 : Below wr.heap.size wr w2 := by rw [hw2]; exact (Below.refl _ _).alloc (Nat.le_refl _) _
      have q0 := kR.cell 0
      have q1 := kR.cell 1
      have q2 := kR.cell 2
      simp at q0 q1 q2
      have ke2 := (KE.out.below (hW.trans (hb2.mono hW.size)) hgE1).cell 4
      simp at ke2
      rw [hva] at ke2
      have d2 := (hb2.cell (p := ⟨vb, vo + pn, none⟩) (Nat.lt_of_lt_of_le hvb (HBW.out.trans (hW.mono HBW.out.size)).size)).trans d0
      have HW2 := Lib.hid (hW.trans (hb2.mono hW.size))
      have HW2W := Lib.hid hw2
      have HGR := Lib.hid hgR
      have HS := Lib.hid hs
      have HRN := Lib.hid hrn
      clear hW hw2 hgR kR hb2 hs hrn hva hxa hvv hvg hgd hq e4 ke
      by_cases he : vv = vr
      · have t1 : (vv == vr) = true := by simp [he]
        have hm : readyN t.ready e.variants (k + 1) = max rn at_ := by rw [HS.out, if_pos he]
        have HM := Lib.hid hm
        clear he hm
        go_upto_region 5 with fail
        rw [← HW2W.out, ← HGR.out]
        go_quiet (fail)
        go_wp2_with fail
        go_roundw
        case rel => exact ⟨k + 1, by omega, by go_num, int_eq HM.out.symm, below_drewN HW2.out _⟩
        case measure => simp [intOf]; omega
      · have t1 : (vv == vr) = false := by simp [he]
        have hm : readyN t.ready e.variants (k + 1) = rn := by rw [HS.out, if_neg he]
        have HM := Lib.hid hm
        clear he hm
        go_upto_region 5 with fail
        rw [← HW2W.out, ← HGR.out]
        go_quiet (fail)
        go_wp2_with fail
        go_roundw
        case rel => exact ⟨k + 1, by omega, by go_num, int_eq HM.out.symm, below_drewN HW2.out _⟩
        case measure => simp [intOf]; omega
    · obtain rfl : k = t.ready.length := by omega
      go_wp2_with fail
      go_ret
      exact ⟨rfl, HBW.out.trans (HW.out.mono HBW.out.size)⟩
end Go.Proofs.Ytokdleanpkkdpaa
