/- Contract of next: the slot of an edition behind another one; conditions: a title at work. -/
import Derived.Test.YtokdleanpkkdpaaA9
import Derived.Test.YtokdleanpkkdpaaSpec6
set_option linter.unusedSimpArgs false
set_option linter.unusedVariables false
namespace Go.Ed
/-- what is known of a title at work -/
structure OkT (t : TitD) : Prop where
  c1 : t.colours.length ≤ 64
  c4 : ∀ c ∈ t.colours, 1 ≤ c ∧ c ≤ 4
  start0 : 0 ≤ t.start
  start1 : t.start ≤ 86400
  rate0 : 1 ≤ t.rate
  rate1 : t.rate ≤ 3000
  stop0 : 0 ≤ t.stop
  stop1 : t.stop ≤ 3600
  hang0 : 0 ≤ t.hang
  hang1 : t.hang ≤ 3600
  pair : pairedB t = true
structure OkE (t : TitD) (e : EdD) : Prop where
  c0 : 1 ≤ e.copies
  c1 : e.copies ≤ 12000000
  r0 : 0 ≤ e.ready
  r1 : e.ready ≤ 86400
  d0 : 0 ≤ e.due
  d1 : e.due ≤ 86400
theorem endOf_bd {t : TitD} {e : EdD} (ht : OkT t) (he : OkE t e) (b : Int) : b < endOf t e b ∧ endOf t e b ≤ b + 720003000 := by
  unfold endOf
  have h1 : 1 ≤ (60 * e.copies + t.rate - 1) / t.rate := by
    have hr := ht.rate0
    rw [Int.le_ediv_iff_mul_le (by omega)]
    have := he.c0
    omega
  have h2 : (60 * e.copies + t.rate - 1) / t.rate ≤ 60 * e.copies + t.rate - 1 := Int.ediv_le_self _ (by have := he.c0; have := ht.rate0; omega)
  have := he.c1
  have := ht.rate1
  omega
def slV (s : SloD) : Go.Value := .agg #[.int .i64 s.edition, .int .i64 s.plates, .int .i64 s.beg, .int .i64 s.fin]
end Go.Ed
namespace Go.Proofs.Ytokdleanpkkdpaa
open Go.RowKit Go.Fh Go.Ed

set_option maxRecDepth 20000 in
set_option maxHeartbeats 2000000 in
theorem slot_any (t : TitD) (ht : OkT t) (x : TA) (es : List EdM) (E C : Option Addr) (cE cC g : Nat) (all : Int) (e : Nat) (p bg fn : Int) (w : World) (hn : es.length ≤ 1000) (he : e < es.length) (hoe : OkE t es[e].1)
    (hb0 : 0 ≤ bg) (hb1 : bg ≤ 1000000000000)
    (hk : Blk w g 129 (workV t x E es.length cE C cC all)) (hE : Sl encEd 5 w w.heap.size E es) :
    Calls Try.prog 123 #[.pointer (some ⟨g, 0, none⟩), .agg #[.int .i64 (e : Int), .int .i64 p, .int .i64 bg, .int .i64 fn]] w fun r w' => r = .returned (slV ⟨e, p, bg, endOf t es[e].1 bg⟩) ∧ Below w.heap.size w w' := by
  obtain ⟨w1, hw1⟩ : ∃ W, W = (w.alloc (.cells #[.int .i64 (e : Int), .int .i64 p, .int .i64 bg, .int .i64 fn] 63)).alloc (.cells #[.int .i64 0, .int .i64 0, .int .i64 0, .int .i64 0] 63) := ⟨_, rfl⟩
  have hbw : Below w.heap.size w w1 := by rw [hw1]; exact ((Below.refl _ _).alloc (Nat.le_refl _) _).alloc (by simp) _
  obtain ⟨gS, hgS⟩ : ∃ g, g = w.heap.size := ⟨_, rfl⟩
  obtain ⟨gR, hgR⟩ : ∃ g, g = w.heap.size + 1 := ⟨_, rfl⟩
  have kS : Blk w1 gS 63 #[.int .i64 (e : Int), .int .i64 p, .int .i64 bg, .int .i64 fn] := by rw [hw1, hgS]; exact (Blk.new w 63 _).alloc _
  have kR : Blk w1 gR 63 #[.int .i64 0, .int .i64 0, .int .i64 0, .int .i64 0] := by
    rw [hw1, hgR]
    have h0 := Blk.new (w.alloc (.cells #[.int .i64 (e : Int), .int .i64 p, .int .i64 bg, .int .i64 fn] 63)) 63 #[.int .i64 0, .int .i64 0, .int .i64 0, .int .i64 0]
    rw [World.size_alloc] at h0
    exact h0
  have hg : g < w.heap.size := hk.lt
  have hk1 := hk.below hbw hg
  obtain ⟨b, off, rfl, hbl, d0, d1, d2, d3, d4⟩ := Sl.atEd (hE.below hbw) he
  have k1 := hk1.cell 5
  have k8 := hk1.cell 8
  simp [workV] at k1 k8
  have s0 := kS.cell 0
  have s1 := kS.cell 1
  have s2 := kS.cell 2
  have s3 := kS.cell 3
  simp at s0 s1 s2 s3
  have z3 := kS.frozen 3
  have hc0 := hoe.c0
  have hc1 := hoe.c1
  have hr0 := ht.rate0
  have hr1 := ht.rate1
  have hend := endOf_bd ht hoe bg
  obtain ⟨cp, hcp⟩ : ∃ c, c = es[e].1.copies := ⟨_, rfl⟩
  have hed : endOf t es[e].1 bg = bg + (60 * cp + t.rate - 1) / t.rate := by rw [hcp]; rfl
  rw [← hcp] at d1 hc0 hc1
  rw [hed] at hend ⊢
  obtain ⟨ra, hra⟩ : ∃ r, r = t.rate := ⟨_, rfl⟩
  rw [← hra] at k1 hr0 hr1 hend ⊢
  have f1 := IntWalk.i64_in (60 * cp) (by omega)
  have f2 := IntWalk.i64_in (60 * cp + ra) (by omega)
  have f3 := IntWalk.i64_in (60 * cp + ra - 1) (by omega)
  have f4 := IntWalk.i64_quo (60 * cp + ra - 1) ra (by omega)
  obtain ⟨q, hq⟩ : ∃ q, q = (60 * cp + ra - 1) / ra := ⟨_, rfl⟩
  rw [← hq] at hend f4 ⊢
  have f5 := IntWalk.i64_in (bg + q) (by omega)
  have hne : ra ≠ 0 := by omega
  have HW1 := Lib.hid hw1
  have HGS := Lib.hid hgS
  have HGR := Lib.hid hgR
  have HQ := Lib.hid hq
  have KS := Lib.hid kS
  have KR := Lib.hid kR
  have HNE := Lib.hid (show gR ≠ gS by omega)
  have HGE := Lib.hid (show w.heap.size ≤ gS by omega)
  have HBW := Lib.hid hbw
  clear hw1 hgS hgR hq kS kR hbw hk hk1 hE d0 d2 d3 d4 hed hcp hra hend
  clear hoe ht hc0 hc1 hr0 hr1 hn hb0 hb1
  go_enter Try.func123, Try.ntmps123
  go_upto_region 1 with fail
  rw [← HW1.out, ← HGR.out, ← HGS.out]
  go_region
  all_goals
    have kS2 := KS.out.set_ 3 (.int .i64 (bg + q))
    have kR2 := KR.out.far (p := ⟨gS, 3, none⟩) (by exact HNE.out) (.int .i64 (bg + q))
    have hbe := HBW.out.setCell (p := ⟨gS, 3, none⟩) (by exact HGE.out) (.int .i64 (bg + q))
    obtain ⟨w2, hw2⟩ : ∃ W, W = (w1.setCell ⟨gS, 3, none⟩ (.int .i64 (bg + q))).drew := ⟨_, rfl⟩
    rw [← hw2]
    have kS3 : Blk w2 gS 63 #[.int .i64 (e : Int), .int .i64 p, .int .i64 bg, .int .i64 (bg + q)] := by rw [hw2]; exact kS2
    have kR3 : Blk w2 gR 63 #[.int .i64 0, .int .i64 0, .int .i64 0, .int .i64 0] := by rw [hw2]; exact kR2
    have hb3 : Below w.heap.size w w2 := by rw [hw2]; exact hbe.drew
    have a0 := kS3.cell 0
    have a1 := kS3.cell 1
    have a2 := kS3.cell 2
    have a3 := kS3.cell 3
    have b0 := kR3.cell 0
    have b1 := kR3.cell 1
    have b2 := kR3.cell 2
    have b3 := kR3.cell 3
    have y0 := kR3.frozen 0
    have y1 := kR3.frozen 1
    have y2 := kR3.frozen 2
    have y3 := kR3.frozen 3
    simp at a0 a1 a2 a3 b0 b1 b2 b3
    have HB3 := Lib.hid hb3
    have KR3 := Lib.hid kR3
    clear hw2 kS2 kR2 hbe kS3 kR3 hb3 s0 s1 s2 s3 z3 k1 k8 d1
    go_wp2_with fail
    have kf := (((KR3.out.set_ 0 (.int .i64 (e : Int))).set_ 1 (.int .i64 p)).set_ 2 (.int .i64 bg)).set_ 3 (.int .i64 (bg + q))
    refine bodyPost_ret (v := slV ⟨e, p, bg, bg + q⟩) ?_ rfl ⟨rfl, ?_⟩
    · have c0 := kf.cell 0
      have c1 := kf.cell 1
      have c2 := kf.cell 2
      have c3 := kf.cell 3
      simp at c0 c1 c2 c3
      clear a0 a1 a2 a3 b0 b1 b2 b3
      generalize World.setCell _ _ _ = W at c0 c1 c2 c3 ⊢
      simp [results, Try.results123, go_sem, c0, c1, c2, c3, slV]
    · have hr : w.heap.size ≤ gR := by rw [HGR.out]; omega
      exact (((HB3.out.setCell (by exact hr) _).setCell (by exact hr) _).setCell (by exact hr) _).setCell (by exact hr) _
end Go.Proofs.Ytokdleanpkkdpaa
namespace Go.Proofs.Ytokdleanpkkdpaa
open Go.RowKit Go.Fh Go.Ed
theorem getD_ed {es : List EdM} {e : Nat} (he : e < es.length) : (es.map (·.1)).getD e ed0 = es[e].1 := by simp [he]

set_option maxRecDepth 20000 in
set_option maxHeartbeats 2000000 in
theorem first_any (t : TitD) (ht : OkT t) (x : TA) (es : List EdM) (E C : Option Addr) (cE cC g : Nat) (e : Nat) (w : World) (hn : es.length ≤ 1000) (he : e < es.length) (hoe : OkE t es[e].1)
    (hk : Blk w g 129 (workV t x E es.length cE C cC (allB t))) (hE : Sl encEd 5 w w.heap.size E es) :
    Calls Try.prog 87 #[.pointer (some ⟨g, 0, none⟩), .int .i64 (e : Int)] w fun r w' => r = .returned (slV (firstS t (es.map (·.1)) e)) ∧ Below w.heap.size w w' := by
  obtain ⟨w1, hw1⟩ : ∃ W, W = w.alloc (.cells #[.int .i64 0, .int .i64 0, .int .i64 0, .int .i64 0] 63) := ⟨_, rfl⟩
  have hbw : Below w.heap.size w w1 := by rw [hw1]; exact (Below.refl _ _).alloc (Nat.le_refl _) _
  obtain ⟨gR, hgR⟩ : ∃ g, g = w.heap.size := ⟨_, rfl⟩
  have kR : Blk w1 gR 63 #[.int .i64 0, .int .i64 0, .int .i64 0, .int .i64 0] := by rw [hw1, hgR]; exact Blk.new w 63 _
  have hg : g < w.heap.size := hk.lt
  have hk1 := hk.below hbw hg
  have hg1 : g < w1.heap.size := hk1.lt
  have HS := Lib.hid (fun W (hb : Below w1.heap.size w1 W) p bg b0 b1 => slot_any t ht x es E C cE cC g (allB t) e p bg 0 W hn he hoe b0 b1 (hk1.below hb hg1) (((hE.below hbw).below (hb.mono hbw.size)).mono (Nat.le_trans hbw.size hb.size)))
  obtain ⟨b, off, rfl, hbl, d0, d1, d2, d3, d4⟩ := Sl.atEd (hE.below hbw) he
  have k3 := hk1.cell 8
  have k4 := hk1.cell 4
  have k10 := hk1.cell 10
  simp [workV] at k3 k4 k10
  have hst0 := ht.start0
  have hst1 := ht.start1
  have hrd0 := hoe.r0
  have hrd1 := hoe.r1
  obtain ⟨sl, hsl⟩ : ∃ s, s = firstS t (es.map (·.1)) e := ⟨_, rfl⟩
  have hsv : slV ⟨e, allB t, max t.start es[e].1.ready, endOf t es[e].1 (max t.start es[e].1.ready)⟩ = slV sl := by
    rw [hsl]; unfold firstS; rw [getD_ed he]
  obtain ⟨rd, hrd⟩ : ∃ r, r = es[e].1.ready := ⟨_, rfl⟩
  rw [← hrd] at d2 hrd0 hrd1 hsv
  have hsd := hsv
  rw [show slV sl = .agg #[.int .i64 sl.edition, .int .i64 sl.plates, .int .i64 sl.beg, .int .i64 sl.fin] from rfl] at hsd
  rw [← hsl]
  obtain ⟨al, hal⟩ : ∃ a, a = allB t := ⟨_, rfl⟩
  rw [← hal] at k10 hsd
  have HS1 := Lib.hid (show ∀ W, Below w1.heap.size w1 W → Calls Try.prog 123 #[.pointer (some ⟨g, 0, none⟩), .agg #[.int .i64 (e : Int), .int .i64 al, .int .i64 (max t.start rd), .int .i64 0]] W fun r w' => r = .returned (.agg #[.int .i64 sl.edition, .int .i64 sl.plates, .int .i64 sl.beg, .int .i64 sl.fin]) ∧ Below W.heap.size W w' from fun W hb => by
    rw [hal]
    refine (HS.out W hb (allB t) (max t.start rd) (by omega) (by omega)).mono ?_
    rintro r w' ⟨rfl, hb'⟩
    exact ⟨by rw [← hsd, hal, hrd], hb'⟩)
  have z0 := kR.frozen 0
  have z1 := kR.frozen 1
  have z2 := kR.frozen 2
  have z3 := kR.frozen 3
  have r0 := kR.cell 0
  have r1 := kR.cell 1
  have r2 := kR.cell 2
  have r3 := kR.cell 3
  simp at r0 r1 r2 r3
  have hgR1 : gR < w1.heap.size := kR.lt
  have HW1 := Lib.hid hw1
  have HGR := Lib.hid hgR
  have HGE := Lib.hid (show w.heap.size ≤ gR by omega)
  have KR := Lib.hid kR
  have HBW := Lib.hid hbw
  clear hw1 hgR kR hbw hk hk1 hE d0 d1 d3 d4 HS hsl hsv hrd hsd hal hoe hrd0 hrd1 hst0 hst1 z0 z1 z2 z3 r0 r1 r2 r3
  go_enter Try.func87, Try.ntmps87
  go_upto_region 1 with fail
  rw [← HW1.out, ← HGR.out]
  have SB := Lib.hid (show ∀ W, Below w.heap.size w1 W → (W.cell? ⟨g, 10, none⟩ = some (.int .i64 al) ∧ W.cell? ⟨g, 4, none⟩ = some (.int .i64 t.start) ∧ W.cell? ⟨g, 8, none⟩ = some (.slice (some ⟨b, off, none⟩) es.length cE) ∧ W.cell? ⟨b, off + e * 5 + 2, none⟩ = some (.int .i64 rd)) from fun W hb => ⟨(hb.cell (p := ⟨g, 10, none⟩) hg).trans k10, (hb.cell (p := ⟨g, 4, none⟩) hg).trans k4, (hb.cell (p := ⟨g, 8, none⟩) hg).trans k3, (hb.cell (p := ⟨b, _, none⟩) hbl).trans d2⟩)
  clear k10 k4 k3 d2
  go_region_held3 (fun w' => w'.cell? ⟨g, 10, none⟩ = some (.int .i64 al) ∧ w'.cell? ⟨g, 4, none⟩ = some (.int .i64 t.start) ∧ w'.cell? ⟨g, 8, none⟩ = some (.slice (some ⟨b, off, none⟩) es.length cE) ∧ w'.cell? ⟨b, off + e * 5 + 2, none⟩ = some (.int .i64 rd))
    (exact SB.out _ (by repeat (first | exact Below.refl _ _ | exact HB2.out.mono HBW.out.size | refine Below.drew ?_ | refine below_drewN ?_ _ | refine Below.setCell ?_ (by exact HGE.out) _)))
    ((go_at_call 123; refine (HS1.out _ (by repeat (first | exact Below.refl _ _ | refine Below.drew ?_ | refine below_drewN ?_ _))).mono ?_; rintro r w2 ⟨rfl, hb1⟩; have hb2 := ((Below.refl w1.heap.size w1).drew).trans hb1; clear hb1; have kR2 := Blk.below KR.out hb2 hgR1; have r0 := kR2.cell 0; have r1 := kR2.cell 1; have r2 := kR2.cell 2; have r3 := kR2.cell 3; have z0 := kR2.frozen 0; have z1 := kR2.frozen 1; have z2 := kR2.frozen 2; have z3 := kR2.frozen 3; simp at r0 r1 r2 r3; have KR2 := Lib.hid kR2; have HB2 := Lib.hid hb2; clear hb2 kR2))
  all_goals
    have kf := (((KR2.out.set_ 0 (.int .i64 sl.edition)).set_ 1 (.int .i64 sl.plates)).set_ 2 (.int .i64 sl.beg)).set_ 3 (.int .i64 sl.fin)
    go_wp2_with fail
    refine bodyPost_ret (v := slV sl) ?_ rfl ⟨rfl, ?_⟩
    · have c0 := kf.cell 0
      have c1 := kf.cell 1
      have c2 := kf.cell 2
      have c3 := kf.cell 3
      simp at c0 c1 c2 c3
      clear r0 r1 r2 r3 z0 z1 z2 z3
      generalize World.setCell _ _ _ = W at c0 c1 c2 c3 ⊢
      simp [results, Try.results87, go_sem, c0, c1, c2, c3, slV]
    · exact ((((HBW.out.trans (HB2.out.mono HBW.out.size)).setCell (by exact HGE.out) _).setCell (by exact HGE.out) _).setCell (by exact HGE.out) _).setCell (by exact HGE.out) _
end Go.Proofs.Ytokdleanpkkdpaa
namespace Go.Ed
/-- rows of changes -/
def encRow (n : Nat) (r : Option Go.Addr × Nat) : List Go.Value := [.slice r.1 n r.2]
def chgL (t : TitD) (es : List EdD) (i : Nat) : List Int := es.map fun b => changeB t (es.getD i ed0) b
theorem changeB_bd {t : TitD} (ht : OkT t) (a b : EdD) : 0 ≤ changeB t a b ∧ changeB t a b ≤ 256 := by
  have := platesB_bd (good_of_paired ht.pair) ht.c4 (fun p => decide (a.variants.getD p (-1) ≠ b.variants.getD p (-1)))
  have h := ht.c1
  unfold changeB
  omega
end Go.Ed
namespace Go.Proofs.Ytokdleanpkkdpaa
open Go.RowKit Go.Fh Go.Ed
theorem Sl.atRow {B n : Nat} {w : World} {A : Option Addr} {l : List (Option Addr × Nat)} (h : Sl (encRow n) 1 w B A l) {k : Nat} (hk : k < l.length) :
    ∃ b off, A = some ⟨b, off, none⟩ ∧ b < B ∧ w.cell? ⟨b, off + k, none⟩ = some (.slice l[k].1 n l[k].2) := by
  obtain ⟨b, off, hA, hb, hc⟩ := h.at_ hk
  exact ⟨b, off, hA, hb, by simpa using hc 0 _ rfl⟩

set_option maxRecDepth 20000 in
set_option maxHeartbeats 2000000 in
theorem next_any (t : TitD) (ht : OkT t) (x : TA) (es : List EdM) (E C : Option Addr) (cE cC g : Nat) (rows : List (Option Addr × Nat)) (e bf : Nat) (fin : Int) (w : World) (hn : es.length ≤ 1000) (he : e < es.length) (hbf : bf < es.length) (hoe : OkE t es[e].1) (hf0 : 0 ≤ fin) (hf1 : fin ≤ 100000000000)
    (hk : Blk w g 129 (workV t x E es.length cE C cC (allB t))) (hE : Sl encEd 5 w w.heap.size E es) (hrl : rows.length = es.length) (hC : Sl (encRow es.length) 1 w w.heap.size C rows)
    (hR : ∀ i (hi : i < rows.length), Sl encInt 1 w w.heap.size rows[i].1 (chgL t (es.map (·.1)) i)) :
    Calls Try.prog 88 #[.pointer (some ⟨g, 0, none⟩), .int .i64 (e : Int), .int .i64 (bf : Int), .int .i64 fin] w fun r w' => r = .returned (slV (nextS t (es.map (·.1)) e bf fin)) ∧ Below w.heap.size w w' := by
  obtain ⟨w1, hw1⟩ : ∃ W, W = w.alloc (.cells #[.int .i64 0, .int .i64 0, .int .i64 0, .int .i64 0] 63) := ⟨_, rfl⟩
  have hbw : Below w.heap.size w w1 := by rw [hw1]; exact (Below.refl _ _).alloc (Nat.le_refl _) _
  obtain ⟨gR, hgR⟩ : ∃ g, g = w.heap.size := ⟨_, rfl⟩
  have kR : Blk w1 gR 63 #[.int .i64 0, .int .i64 0, .int .i64 0, .int .i64 0] := by rw [hw1, hgR]; exact Blk.new w 63 _
  have hg : g < w.heap.size := hk.lt
  have hk1 := hk.below hbw hg
  have hg1 : g < w1.heap.size := hk1.lt
  have HS := Lib.hid (fun W (hb : Below w1.heap.size w1 W) p bg b0 b1 => slot_any t ht x es E C cE cC g (allB t) e p bg 0 W hn he hoe b0 b1 (hk1.below hb hg1) (((hE.below hbw).below (hb.mono hbw.size)).mono (Nat.le_trans hbw.size hb.size)))
  obtain ⟨b, off, rfl, hbl, d0, d1, d2, d3, d4⟩ := Sl.atEd (hE.below hbw) he
  have hbr : bf < rows.length := by omega
  obtain ⟨cb, co, rfl, hcl, c0⟩ := Sl.atRow (hC.below hbw) hbr
  have hcl' : e < (chgL t (es.map (·.1)) bf).length := by simp [chgL, he]
  obtain ⟨rb, ro, hrq, hrb, q0⟩ := ((hR bf hbr).below hbw).at1 hcl'
  have hgv : (chgL t (es.map (·.1)) bf)[e] = changeB t es[bf].1 es[e].1 := by simp [chgL, hbf]
  rw [hgv] at q0
  rw [hrq] at c0
  generalize rows[bf].2 = rc at c0
  have k8 := hk1.cell 8
  have k9 := hk1.cell 9
  have k6 := hk1.cell 6
  have k7 := hk1.cell 7
  simp [workV] at k8 k9 k6 k7
  have hst0 := ht.stop0
  have hst1 := ht.stop1
  have hhg0 := ht.hang0
  have hhg1 := ht.hang1
  have hrd0 := hoe.r0
  have hrd1 := hoe.r1
  have hcb := changeB_bd ht es[bf].1 es[e].1
  obtain ⟨sl, hsl⟩ : ∃ s, s = nextS t (es.map (·.1)) e bf fin := ⟨_, rfl⟩
  obtain ⟨ch, hch⟩ : ∃ c, c = changeB t es[bf].1 es[e].1 := ⟨_, rfl⟩
  have hsv : slV ⟨e, changeB t es[bf].1 es[e].1, max fin es[e].1.ready + t.stop + changeB t es[bf].1 es[e].1 * t.hang, endOf t es[e].1 (max fin es[e].1.ready + t.stop + changeB t es[bf].1 es[e].1 * t.hang)⟩ = slV sl := by
    rw [hsl]; unfold nextS; rw [getD_ed he, getD_ed hbf]
  rw [← hch] at q0 hcb hsv
  obtain ⟨rd, hrd⟩ : ∃ r, r = es[e].1.ready := ⟨_, rfl⟩
  rw [← hrd] at d2 hrd0 hrd1 hsv
  have hmul : 0 ≤ ch * t.hang ∧ ch * t.hang ≤ 256 * 3600 := ⟨Int.mul_nonneg (by omega) (by omega), Int.mul_le_mul (by omega) (by omega) (by omega) (by omega)⟩
  obtain ⟨mu, hmu⟩ : ∃ m, m = ch * t.hang := ⟨_, rfl⟩
  rw [← hmu] at hmul hsv
  have hsd := hsv
  rw [show slV sl = .agg #[.int .i64 sl.edition, .int .i64 sl.plates, .int .i64 sl.beg, .int .i64 sl.fin] from rfl] at hsd
  rw [← hsl]
  have f1 := (IntWalk.i64_in (ch * t.hang) (by omega)).trans hmu.symm
  have f2 := IntWalk.i64_in (max fin rd + t.stop) (by omega)
  have f3 := IntWalk.i64_in (max fin rd + t.stop + mu) (by omega)
  have HS1 := Lib.hid (show ∀ W, Below w1.heap.size w1 W → Calls Try.prog 123 #[.pointer (some ⟨g, 0, none⟩), .agg #[.int .i64 (e : Int), .int .i64 ch, .int .i64 (max fin rd + t.stop + mu), .int .i64 0]] W fun r w' => r = .returned (.agg #[.int .i64 sl.edition, .int .i64 sl.plates, .int .i64 sl.beg, .int .i64 sl.fin]) ∧ Below W.heap.size W w' from fun W hb => by
    refine (HS.out W hb ch (max fin rd + t.stop + mu) (by omega) (by omega)).mono ?_
    rintro r w' ⟨rfl, hb'⟩
    exact ⟨by rw [← hsd, hrd], hb'⟩)
  have hgR1 : gR < w1.heap.size := kR.lt
  have HW1 := Lib.hid hw1
  have HGR := Lib.hid hgR
  have HGE := Lib.hid (show w.heap.size ≤ gR by omega)
  have KR := Lib.hid kR
  have HBW := Lib.hid hbw
  have HMU := Lib.hid hmu
  clear hw1 hgR kR hbw hk hk1 hE d0 d1 d3 d4 HS hsl hsv hrd hsd hoe hrd0 hrd1 hst0 hst1 hhg0 hhg1 hcb hch hmul hmu hgv hrq hC hR hcl' hbr hf0 hf1 ht hrl
  go_enter Try.func88, Try.ntmps88
  go_upto_region 1 with fail
  rw [← HW1.out, ← HGR.out]
  go_upto_region 2 with fail
  have SB := Lib.hid (show ∀ W, Below w.heap.size w1 W → (W.cell? ⟨g, 6, none⟩ = some (.int .i64 t.stop) ∧ W.cell? ⟨g, 7, none⟩ = some (.int .i64 t.hang) ∧ W.cell? ⟨g, 8, none⟩ = some (.slice (some ⟨b, off, none⟩) es.length cE) ∧ W.cell? ⟨b, off + e * 5 + 2, none⟩ = some (.int .i64 rd)) from fun W hb => ⟨(hb.cell (p := ⟨g, 6, none⟩) hg).trans k6, (hb.cell (p := ⟨g, 7, none⟩) hg).trans k7, (hb.cell (p := ⟨g, 8, none⟩) hg).trans k8, (hb.cell (p := ⟨b, _, none⟩) hbl).trans d2⟩)
  clear k6 k7 k8 k9 d2 c0 q0
  go_region_held3 (fun w' => w'.cell? ⟨g, 6, none⟩ = some (.int .i64 t.stop) ∧ w'.cell? ⟨g, 7, none⟩ = some (.int .i64 t.hang) ∧ w'.cell? ⟨g, 8, none⟩ = some (.slice (some ⟨b, off, none⟩) es.length cE) ∧ w'.cell? ⟨b, off + e * 5 + 2, none⟩ = some (.int .i64 rd))
    (exact SB.out _ (by repeat (first | exact Below.refl _ _ | exact HB2.out.mono HBW.out.size | refine Below.drew ?_ | refine below_drewN ?_ _ | refine Below.setCell ?_ (by exact HGE.out) _)))
    ((go_at_call 123; refine (HS1.out _ (by repeat (first | exact Below.refl _ _ | refine Below.drew ?_ | refine below_drewN ?_ _))).mono ?_; rintro r w2 ⟨rfl, hb1⟩; have hb2 := ((Below.refl w1.heap.size w1).drew).trans hb1; clear hb1; have kR2 := Blk.below KR.out hb2 hgR1; have r0 := kR2.cell 0; have r1 := kR2.cell 1; have r2 := kR2.cell 2; have r3 := kR2.cell 3; have z0 := kR2.frozen 0; have z1 := kR2.frozen 1; have z2 := kR2.frozen 2; have z3 := kR2.frozen 3; simp at r0 r1 r2 r3; have KR2 := Lib.hid kR2; have HB2 := Lib.hid hb2; clear hb2 kR2))
  all_goals
    have kf := (((KR2.out.set_ 0 (.int .i64 sl.edition)).set_ 1 (.int .i64 sl.plates)).set_ 2 (.int .i64 sl.beg)).set_ 3 (.int .i64 sl.fin)
    go_wp2_with fail
    refine bodyPost_ret (v := slV sl) ?_ rfl ⟨rfl, ?_⟩
    · have c0 := kf.cell 0
      have c1 := kf.cell 1
      have c2 := kf.cell 2
      have c3 := kf.cell 3
      simp at c0 c1 c2 c3
      clear r0 r1 r2 r3 z0 z1 z2 z3
      generalize World.setCell _ _ _ = W at c0 c1 c2 c3 ⊢
      simp [results, Try.results88, go_sem, c0, c1, c2, c3, slV]
    · exact ((((HBW.out.trans (HB2.out.mono HBW.out.size)).setCell (by exact HGE.out) _).setCell (by exact HGE.out) _).setCell (by exact HGE.out) _).setCell (by exact HGE.out) _
end Go.Proofs.Ytokdleanpkkdpaa
