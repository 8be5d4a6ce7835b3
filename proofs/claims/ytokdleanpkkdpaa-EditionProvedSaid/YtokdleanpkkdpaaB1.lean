/- Contracts of slot, first and next: the slots of editions; conditions: a title at work. -/
import Derived.Test.YtokdleanpkkdpaaA9
import Derived.Test.YtokdleanpkkdpaaSpec6
set_option linter.unusedSimpArgs false
set_option linter.unusedVariables false
namespace Go.Ed
/-- what is known of a title at work -/
structure OkT (t : TitD) : Prop where
  c1 : t.colours.length ≤ 64
  c4 : ∀ c ∈ t.colours, 1 ≤ c ∧ c ≤ 4
  start0 : 0 ≤ t.start
  start1 : t.start ≤ 86400
  rate0 : 1 ≤ t.rate
  rate1 : t.rate ≤ 3000
  stop0 : 0 ≤ t.stop
  stop1 : t.stop ≤ 3600
  hang0 : 0 ≤ t.hang
  hang1 : t.hang ≤ 3600
  pair : pairedB t = true
structure OkE (t : TitD) (e : EdD) : Prop where
  c0 : 1 ≤ e.copies
  c1 : e.copies ≤ 12000000
  r0 : 0 ≤ e.ready
  r1 : e.ready ≤ 86400
  d0 : 0 ≤ e.due
  d1 : e.due ≤ 86400
theorem endOf_bd {t : TitD} {e : EdD} (ht : OkT t) (he : OkE t e) (b : Int) : b < endOf t e b ∧ endOf t e b ≤ b + 720003000 := by
  unfold endOf
  have h1 : 1 ≤ (60 * e.copies + t.rate - 1) / t.rate := by
    have hr := ht.rate0
    rw [Int.le_ediv_iff_mul_le (by omega)]
    have := he.c0
    omega
  have h2 : (60 * e.copies + t.rate - 1) / t.rate ≤ 60 * e.copies + t.rate - 1 := Int.ediv_le_self _ (by have := he.c0; have := ht.rate0; omega)
  have := he.c1
  have := ht.rate1
  omega
def slV (s : SloD) : Go.Value := .agg #[.int .i64 s.edition, .int .i64 s.plates, .int .i64 s.beg, .int .i64 s.fin]
end Go.Ed
namespace Go.Proofs.Ytokdleanpkkdpaa
open Go.RowKit Go.Fh Go.Ed

set_option maxRecDepth 20000 in
set_option maxHeartbeats 2000000 in
theorem slot_any (t : TitD) (ht : OkT t) (x : TA) (es : List EdM) (E C : Option Addr) (cE cC g : Nat) (all : Int) (e : Nat) (p bg fn : Int) (w : World) (hn : es.length ≤ 1000) (he : e < es.length) (hoe : OkE t es[e].1)
    (hb0 : 0 ≤ bg) (hb1 : bg ≤ 1000000000000)
    (hk : Blk w g 129 (workV t x E es.length cE C cC all)) (hE : Sl encEd 5 w w.heap.size E es) :
    Calls Try.prog 123 #[.pointer (some ⟨g, 0, none⟩), .agg #[.int .i64 (e : Int), .int .i64 p, .int .i64 bg, .int .i64 fn]] w fun r w' => r = .returned (slV ⟨e, p, bg, endOf t es[e].1 bg⟩) ∧ Below w.heap.size w w' := by
  obtain ⟨w1, hw1⟩ : ∃ W, W = (w.alloc (.cells #[.int .i64 (e : Int), .int .i64 p, .int .i64 bg, .int .i64 fn] 63)).alloc (.cells #[.int .i64 0, .int .i64 0, .int .i64 0, .int .i64 0] 63) := ⟨_, rfl⟩
  have hbw : Below w.heap.size w w1 := by rw [hw1]; exact ((Below.refl _ _).alloc (Nat.le_refl _) _).alloc (by simp) _
  obtain ⟨gS, hgS⟩ : ∃ g, g = w.heap.size := ⟨_, rfl⟩
  obtain ⟨gR, hgR⟩ : ∃ g, g = w.heap.size + 1 := ⟨_, rfl⟩
  have kS : Blk w1 gS 63 #[.int .i64 (e : Int), .int .i64 p, .int .i64 bg, .int .i64 fn] := by rw [hw1, hgS]; exact (Blk.new w 63 _).alloc _
  have kR : Blk w1 gR 63 #[.int .i64 0, .int .i64 0, .int .i64 0, .int .i64 0] := by
    rw [hw1, hgR]
    have h0 := Blk.new (w.alloc (.cells #[.int .i64 (e : Int), .int .i64 p, .int .i64 bg, .int .i64 fn] 63)) 63 #[.int .i64 0, .int .i64 0, .int .i64 0, .int .i64 0]
    rw [World.size_alloc] at h0
    exact h0
  have hg : g < w.heap.size := hk.lt
  have hk1 := hk.below hbw hg
  obtain ⟨b, off, rfl, hbl, d0, d1, d2, d3, d4⟩ := Sl.atEd (hE.below hbw) he
  have k1 := hk1.cell 5
  have k8 := hk1.cell 8
  simp [workV] at k1 k8
  have s0 := kS.cell 0
  have s1 := kS.cell 1
  have s2 := kS.cell 2
  have s3 := kS.cell 3
  simp at s0 s1 s2 s3
  have z3 := kS.frozen 3
  have hc0 := hoe.c0
  have hc1 := hoe.c1
  have hr0 := ht.rate0
  have hr1 := ht.rate1
  have hend := endOf_bd ht hoe bg
  obtain ⟨cp, hcp⟩ : ∃ c, c = es[e].1.copies := ⟨_, rfl⟩
  have hed : endOf t es[e].1 bg = bg + (60 * cp + t.rate - 1) / t.rate := by rw [hcp]; rfl
  rw [← hcp] at d1 hc0 hc1
  rw [hed] at hend ⊢
  obtain ⟨ra, hra⟩ : ∃ r, r = t.rate := ⟨_, rfl⟩
  rw [← hra] at k1 hr0 hr1 hend ⊢
  have f1 := IntWalk.i64_in (60 * cp) (by omega)
  have f2 := IntWalk.i64_in (60 * cp + ra) (by omega)
  have f3 := IntWalk.i64_in (60 * cp + ra - 1) (by omega)
  have f4 := IntWalk.i64_quo (60 * cp + ra - 1) ra (by omega)
  obtain ⟨q, hq⟩ : ∃ q, q = (60 * cp + ra - 1) / ra := ⟨_, rfl⟩
  rw [← hq] at hend f4 ⊢
  have f5 := IntWalk.i64_in (bg + q) (by omega)
  have hne : ra ≠ 0 := by omega
  have HW1 := Lib.hid hw1
  have HGS := Lib.hid hgS
  have HGR := Lib.hid hgR
  have HQ := Lib.hid hq
  have KS := Lib.hid kS
  have KR := Lib.hid kR
  have HNE := Lib.hid (show gR ≠ gS by omega)
  have HGE := Lib.hid (show w.heap.size ≤ gS by omega)
  have HBW := Lib.hid hbw
  clear hw1 hgS hgR hq kS kR hbw hk hk1 hE d0 d2 d3 d4 hed hcp hra hend
  clear hoe ht hc0 hc1 hr0 hr1 hn hb0 hb1
  go_enter Try.func123, Try.ntmps123
  go_upto_region 1 with fail
  rw [← HW1.out, ← HGR.out, ← HGS.out]
  go_region
  all_goals
    have kS2 := KS.out.set_ 3 (.int .i64 (bg + q))
    have kR2 := KR.out.far (p := ⟨gS, 3, none⟩) (by exact HNE.out) (.int .i64 (bg + q))
    have hbe := HBW.out.setCell (p := ⟨gS, 3, none⟩) (by exact HGE.out) (.int .i64 (bg + q))
    obtain ⟨w2, hw2⟩ : ∃ W, W = (w1.setCell ⟨gS, 3, none⟩ (.int .i64 (bg + q))).drew := ⟨_, rfl⟩
    rw [← hw2]
    have kS3 : Blk w2 gS 63 #[.int .i64 (e : Int), .int .i64 p, .int .i64 bg, .int .i64 (bg + q)] := by rw [hw2]; exact kS2
    have kR3 : Blk w2 gR 63 #[.int .i64 0, .int .i64 0, .int .i64 0, .int .i64 0] := by rw [hw2]; exact kR2
    have hb3 : Below w.heap.size w w2 := by rw [hw2]; exact hbe.drew
    have a0 := kS3.cell 0
    have a1 := kS3.cell 1
    have a2 := kS3.cell 2
    have a3 := kS3.cell 3
    have b0 := kR3.cell 0
    have b1 := kR3.cell 1
    have b2 := kR3.cell 2
    have b3 := kR3.cell 3
    have y0 := kR3.frozen 0
    have y1 := kR3.frozen 1
    have y2 := kR3.frozen 2
    have y3 := kR3.frozen 3
    simp at a0 a1 a2 a3 b0 b1 b2 b3
    have HB3 := Lib.hid hb3
    have KR3 := Lib.hid kR3
    clear hw2 kS2 kR2 hbe kS3 kR3 hb3 s0 s1 s2 s3 z3 k1 k8 d1
    go_wp2_with fail
    have kf := (((KR3.out.set_ 0 (.int .i64 (e : Int))).set_ 1 (.int .i64 p)).set_ 2 (.int .i64 bg)).set_ 3 (.int .i64 (bg + q))
    refine bodyPost_ret (v := slV ⟨e, p, bg, bg + q⟩) ?_ rfl ⟨rfl, ?_⟩
    · have c0 := kf.cell 0
      have c1 := kf.cell 1
      have c2 := kf.cell 2
      have c3 := kf.cell 3
      simp at c0 c1 c2 c3
      clear a0 a1 a2 a3 b0 b1 b2 b3
      generalize World.setCell _ _ _ = W at c0 c1 c2 c3 ⊢
      simp [results, Try.results123, go_sem, c0, c1, c2, c3, slV]
    · have hr : w.heap.size ≤ gR := by rw [HGR.out]; omega
      exact (((HB3.out.setCell (by exact hr) _).setCell (by exact hr) _).setCell (by exact hr) _).setCell (by exact hr) _
end Go.Proofs.Ytokdleanpkkdpaa
