/- Contracts of first and next: the slots of editions; conditions: a title at work. -/
import Derived.Test.YtokdleanpkkdpaaB1
set_option linter.unusedSimpArgs false
set_option linter.unusedVariables false
namespace Go.Proofs.Ytokdleanpkkdpaa
open Go.RowKit Go.Fh Go.Ed
theorem getD_ed {es : List EdM} {e : Nat} (he : e < es.length) : (es.map (·.1)).getD e ed0 = es[e].1 := by simp [he]

set_option maxRecDepth 20000 in
set_option maxHeartbeats 2000000 in
theorem first_any (t : TitD) (ht : OkT t) (x : TA) (es : List EdM) (E C : Option Addr) (cE cC g : Nat) (e : Nat) (w : World) (hn : es.length ≤ 1000) (he : e < es.length) (hoe : OkE t es[e].1)
    (hk : Blk w g 129 (workV t x E es.length cE C cC (allB t))) (hE : Sl encEd 5 w w.heap.size E es) :
    Calls Try.prog 87 #[.pointer (some ⟨g, 0, none⟩), .int .i64 (e : Int)] w fun r w' => r = .returned (slV (firstS t (es.map (·.1)) e)) ∧ Below w.heap.size w w' := by
  obtain ⟨w1, hw1⟩ : ∃ W, W = w.alloc (.cells #[.int .i64 0, .int .i64 0, .int .i64 0, .int .i64 0] 63) := ⟨_, rfl⟩
  have hbw : Below w.heap.size w w1 := by rw [hw1]; exact (Below.refl _ _).alloc (Nat.le_refl _) _
  obtain ⟨gR, hgR⟩ : ∃ g, g = w.heap.size := ⟨_, rfl⟩
  have kR : Blk w1 gR 63 #[.int .i64 0, .int .i64 0, .int .i64 0, .int .i64 0] := by rw [hw1, hgR]; exact Blk.new w 63 _
  have hg : g < w.heap.size := hk.lt
  have hk1 := hk.below hbw hg
  have hg1 : g < w1.heap.size := hk1.lt
  have HS := Lib.hid (fun W (hb : Below w1.heap.size w1 W) p bg b0 b1 => slot_any t ht x es E C cE cC g (allB t) e p bg 0 W hn he hoe b0 b1 (hk1.below hb hg1) (((hE.below hbw).below (hb.mono hbw.size)).mono (Nat.le_trans hbw.size hb.size)))
  obtain ⟨b, off, rfl, hbl, d0, d1, d2, d3, d4⟩ := Sl.atEd (hE.below hbw) he
  have k3 := hk1.cell 8
  have k4 := hk1.cell 4
  have k10 := hk1.cell 10
  simp [workV] at k3 k4 k10
  have hst0 := ht.start0
  have hst1 := ht.start1
  have hrd0 := hoe.r0
  have hrd1 := hoe.r1
  obtain ⟨sl, hsl⟩ : ∃ s, s = firstS t (es.map (·.1)) e := ⟨_, rfl⟩
  have hsv : slV ⟨e, allB t, max t.start es[e].1.ready, endOf t es[e].1 (max t.start es[e].1.ready)⟩ = slV sl := by
    rw [hsl]; unfold firstS; rw [getD_ed he]
  obtain ⟨rd, hrd⟩ : ∃ r, r = es[e].1.ready := ⟨_, rfl⟩
  rw [← hrd] at d2 hrd0 hrd1 hsv
  have hsd := hsv
  rw [show slV sl = .agg #[.int .i64 sl.edition, .int .i64 sl.plates, .int .i64 sl.beg, .int .i64 sl.fin] from rfl] at hsd
  rw [← hsl]
  obtain ⟨al, hal⟩ : ∃ a, a = allB t := ⟨_, rfl⟩
  rw [← hal] at k10 hsd
  have HS1 := Lib.hid (show ∀ W, Below w1.heap.size w1 W → Calls Try.prog 123 #[.pointer (some ⟨g, 0, none⟩), .agg #[.int .i64 (e : Int), .int .i64 al, .int .i64 (max t.start rd), .int .i64 0]] W fun r w' => r = .returned (.agg #[.int .i64 sl.edition, .int .i64 sl.plates, .int .i64 sl.beg, .int .i64 sl.fin]) ∧ Below W.heap.size W w' from fun W hb => by
    rw [hal]
    refine (HS.out W hb (allB t) (max t.start rd) (by omega) (by omega)).mono ?_
    rintro r w' ⟨rfl, hb'⟩
    exact ⟨by rw [← hsd, hal, hrd], hb'⟩)
  have z0 := kR.frozen 0
  have z1 := kR.frozen 1
  have z2 := kR.frozen 2
  have z3 := kR.frozen 3
  have r0 := kR.cell 0
  have r1 := kR.cell 1
  have r2 := kR.cell 2
  have r3 := kR.cell 3
  simp at r0 r1 r2 r3
  have hgR1 : gR < w1.heap.size := kR.lt
  have HW1 := Lib.hid hw1
  have HGR := Lib.hid hgR
  have HGE := Lib.hid (show w.heap.size ≤ gR by omega)
  have KR := Lib.hid kR
  have HBW := Lib.hid hbw
  clear hw1 hgR kR hbw hk hk1 hE d0 d1 d3 d4 HS hsl hsv hrd hsd hal hoe hrd0 hrd1 hst0 hst1 z0 z1 z2 z3 r0 r1 r2 r3
  go_enter Try.func87, Try.ntmps87
  go_upto_region 1 with fail
  rw [← HW1.out, ← HGR.out]
  have SB := Lib.hid (show ∀ W, Below w.heap.size w1 W → (W.cell? ⟨g, 10, none⟩ = some (.int .i64 al) ∧ W.cell? ⟨g, 4, none⟩ = some (.int .i64 t.start) ∧ W.cell? ⟨g, 8, none⟩ = some (.slice (some ⟨b, off, none⟩) es.length cE) ∧ W.cell? ⟨b, off + e * 5 + 2, none⟩ = some (.int .i64 rd)) from fun W hb => ⟨(hb.cell (p := ⟨g, 10, none⟩) hg).trans k10, (hb.cell (p := ⟨g, 4, none⟩) hg).trans k4, (hb.cell (p := ⟨g, 8, none⟩) hg).trans k3, (hb.cell (p := ⟨b, _, none⟩) hbl).trans d2⟩)
  clear k10 k4 k3 d2
  go_region_held3 (fun w' => w'.cell? ⟨g, 10, none⟩ = some (.int .i64 al) ∧ w'.cell? ⟨g, 4, none⟩ = some (.int .i64 t.start) ∧ w'.cell? ⟨g, 8, none⟩ = some (.slice (some ⟨b, off, none⟩) es.length cE) ∧ w'.cell? ⟨b, off + e * 5 + 2, none⟩ = some (.int .i64 rd))
    (exact SB.out _ (by repeat (first | exact Below.refl _ _ | exact HB2.out.mono HBW.out.size | refine Below.drew ?_ | refine below_drewN ?_ _ | refine Below.setCell ?_ (by exact HGE.out) _)))
    ((go_at_call 123; refine (HS1.out _ (by repeat (first | exact Below.refl _ _ | refine Below.drew ?_ | refine below_drewN ?_ _))).mono ?_; rintro r w2 ⟨rfl, hb1⟩; have hb2 := ((Below.refl w1.heap.size w1).drew).trans hb1; clear hb1; have kR2 := Blk.below KR.out hb2 hgR1; have r0 := kR2.cell 0; have r1 := kR2.cell 1; have r2 := kR2.cell 2; have r3 := kR2.cell 3; have z0 := kR2.frozen 0; have z1 := kR2.frozen 1; have z2 := kR2.frozen 2; have z3 := kR2.frozen 3; simp at r0 r1 r2 r3; have KR2 := Lib.hid kR2; have HB2 := Lib.hid hb2; clear hb2 kR2))
  all_goals
    have kf := (((KR2.out.set_ 0 (.int .i64 sl.edition)).set_ 1 (.int .i64 sl.plates)).set_ 2 (.int .i64 sl.beg)).set_ 3 (.int .i64 sl.fin)
    go_wp2_with fail
    refine bodyPost_ret (v := slV sl) ?_ rfl ⟨rfl, ?_⟩
    · have c0 := kf.cell 0
      have c1 := kf.cell 1
      have c2 := kf.cell 2
      have c3 := kf.cell 3
      simp at c0 c1 c2 c3
      clear r0 r1 r2 r3 z0 z1 z2 z3
      generalize World.setCell _ _ _ = W at c0 c1 c2 c3 ⊢
      simp [results, Try.results87, go_sem, c0, c1, c2, c3, slV]
    · exact ((((HBW.out.trans (HB2.out.mono HBW.out.size)).setCell (by exact HGE.out) _).setCell (by exact HGE.out) _).setCell (by exact HGE.out) _).setCell (by exact HGE.out) _
end Go.Proofs.Ytokdleanpkkdpaa
