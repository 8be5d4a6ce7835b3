/- Contract of next: the slot of an edition behind another one; conditions: a title at work. -/
import Derived.Test.YtokdleanpkkdpaaB2
set_option linter.unusedSimpArgs false
set_option linter.unusedVariables false
namespace Go.Ed
/-- rows of changes -/
def encRow (n : Nat) (r : Option Go.Addr × Nat) : List Go.Value := [.slice r.1 n r.2]
def chgL (t : TitD) (es : List EdD) (i : Nat) : List Int := es.map fun b => changeB t (es.getD i ed0) b
theorem changeB_bd {t : TitD} (ht : OkT t) (a b : EdD) : 0 ≤ changeB t a b ∧ changeB t a b ≤ 256 := by
  have := platesB_bd (good_of_paired ht.pair) ht.c4 (fun p => decide (a.variants.getD p (-1) ≠ b.variants.getD p (-1)))
  have h := ht.c1
  unfold changeB
  omega
end Go.Ed
namespace Go.Proofs.Ytokdleanpkkdpaa
open Go.RowKit Go.Fh Go.Ed
theorem Sl.atRow {B n : Nat} {w : World} {A : Option Addr} {l : List (Option Addr × Nat)} (h : Sl (encRow n) 1 w B A l) {k : Nat} (hk : k < l.length) :
    ∃ b off, A = some ⟨b, off, none⟩ ∧ b < B ∧ w.cell? ⟨b, off + k, none⟩ = some (.slice l[k].1 n l[k].2) := by
  obtain ⟨b, off, hA, hb, hc⟩ := h.at_ hk
  exact ⟨b, off, hA, hb, by simpa using hc 0 _ rfl⟩

set_option maxRecDepth 20000 in
set_option maxHeartbeats 2000000 in
theorem next_any (t : TitD) (ht : OkT t) (x : TA) (es : List EdM) (E C : Option Addr) (cE cC g : Nat) (rows : List (Option Addr × Nat)) (e bf : Nat) (fin : Int) (w : World) (hn : es.length ≤ 1000) (he : e < es.length) (hbf : bf < es.length) (hoe : OkE t es[e].1) (hf0 : 0 ≤ fin) (hf1 : fin ≤ 100000000000)
    (hk : Blk w g 129 (workV t x E es.length cE C cC (allB t))) (hE : Sl encEd 5 w w.heap.size E es) (hrl : rows.length = es.length) (hC : Sl (encRow es.length) 1 w w.heap.size C rows)
    (hR : ∀ i (hi : i < rows.length), Sl encInt 1 w w.heap.size rows[i].1 (chgL t (es.map (·.1)) i)) :
    Calls Try.prog 88 #[.pointer (some ⟨g, 0, none⟩), .int .i64 (e : Int), .int .i64 (bf : Int), .int .i64 fin] w fun r w' => r = .returned (slV (nextS t (es.map (·.1)) e bf fin)) ∧ Below w.heap.size w w' := by
  obtain ⟨w1, hw1⟩ : ∃ W, W = w.alloc (.cells #[.int .i64 0, .int .i64 0, .int .i64 0, .int .i64 0] 63) := ⟨_, rfl⟩
  have hbw : Below w.heap.size w w1 := by rw [hw1]; exact (Below.refl _ _).alloc (Nat.le_refl _) _
  obtain ⟨gR, hgR⟩ : ∃ g, g = w.heap.size := ⟨_, rfl⟩
  have kR : Blk w1 gR 63 #[.int .i64 0, .int .i64 0, .int .i64 0, .int .i64 0] := by rw [hw1, hgR]; exact Blk.new w 63 _
  have hg : g < w.heap.size := hk.lt
  have hk1 := hk.below hbw hg
  have hg1 : g < w1.heap.size := hk1.lt
  have HS := Lib.hid (fun W (hb : Below w1.heap.size w1 W) p bg b0 b1 => slot_any t ht x es E C cE cC g (allB t) e p bg 0 W hn he hoe b0 b1 (hk1.below hb hg1) (((hE.below hbw).below (hb.mono hbw.size)).mono (Nat.le_trans hbw.size hb.size)))
  obtain ⟨b, off, rfl, hbl, d0, d1, d2, d3, d4⟩ := Sl.atEd (hE.below hbw) he
  have hbr : bf < rows.length := by omega
  obtain ⟨cb, co, rfl, hcl, c0⟩ := Sl.atRow (hC.below hbw) hbr
  have hcl' : e < (chgL t (es.map (·.1)) bf).length := by simp [chgL, he]
  obtain ⟨rb, ro, hrq, hrb, q0⟩ := ((hR bf hbr).below hbw).at1 hcl'
  have hgv : (chgL t (es.map (·.1)) bf)[e] = changeB t es[bf].1 es[e].1 := by simp [chgL, hbf]
  rw [hgv] at q0
  rw [hrq] at c0
  generalize rows[bf].2 = rc at c0
  have k8 := hk1.cell 8
  have k9 := hk1.cell 9
  have k6 := hk1.cell 6
  have k7 := hk1.cell 7
  simp [workV] at k8 k9 k6 k7
  have hst0 := ht.stop0
  have hst1 := ht.stop1
  have hhg0 := ht.hang0
  have hhg1 := ht.hang1
  have hrd0 := hoe.r0
  have hrd1 := hoe.r1
  have hcb := changeB_bd ht es[bf].1 es[e].1
  obtain ⟨sl, hsl⟩ : ∃ s, s = nextS t (es.map (·.1)) e bf fin := ⟨_, rfl⟩
  obtain ⟨ch, hch⟩ : ∃ c, c = changeB t es[bf].1 es[e].1 := ⟨_, rfl⟩
  have hsv : slV ⟨e, changeB t es[bf].1 es[e].1, max fin es[e].1.ready + t.stop + changeB t es[bf].1 es[e].1 * t.hang, endOf t es[e].1 (max fin es[e].1.ready + t.stop + changeB t es[bf].1 es[e].1 * t.hang)⟩ = slV sl := by
    rw [hsl]; unfold nextS; rw [getD_ed he, getD_ed hbf]
  rw [← hch] at q0 hcb hsv
  obtain ⟨rd, hrd⟩ : ∃ r, r = es[e].1.ready := ⟨_, rfl⟩
  rw [← hrd] at d2 hrd0 hrd1 hsv
  have hmul : 0 ≤ ch * t.hang ∧ ch * t.hang ≤ 256 * 3600 := ⟨Int.mul_nonneg (by omega) (by omega), Int.mul_le_mul (by omega) (by omega) (by omega) (by omega)⟩
  obtain ⟨mu, hmu⟩ : ∃ m, m = ch * t.hang := ⟨_, rfl⟩
  rw [← hmu] at hmul hsv
  have hsd := hsv
  rw [show slV sl = .agg #[.int .i64 sl.edition, .int .i64 sl.plates, .int .i64 sl.beg, .int .i64 sl.fin] from rfl] at hsd
  rw [← hsl]
  have f1 := (IntWalk.i64_in (ch * t.hang) (by omega)).trans hmu.symm
  have f2 := IntWalk.i64_in (max fin rd + t.stop) (by omega)
  have f3 := IntWalk.i64_in (max fin rd + t.stop + mu) (by omega)
  have HS1 := Lib.hid (show ∀ W, Below w1.heap.size w1 W → Calls Try.prog 123 #[.pointer (some ⟨g, 0, none⟩), .agg #[.int .i64 (e : Int), .int .i64 ch, .int .i64 (max fin rd + t.stop + mu), .int .i64 0]] W fun r w' => r = .returned (.agg #[.int .i64 sl.edition, .int .i64 sl.plates, .int .i64 sl.beg, .int .i64 sl.fin]) ∧ Below W.heap.size W w' from fun W hb => by
    refine (HS.out W hb ch (max fin rd + t.stop + mu) (by omega) (by omega)).mono ?_
    rintro r w' ⟨rfl, hb'⟩
    exact ⟨by rw [← hsd, hrd], hb'⟩)
  have hgR1 : gR < w1.heap.size := kR.lt
  have HW1 := Lib.hid hw1
  have HGR := Lib.hid hgR
  have HGE := Lib.hid (show w.heap.size ≤ gR by omega)
  have KR := Lib.hid kR
  have HBW := Lib.hid hbw
  have HMU := Lib.hid hmu
  clear hw1 hgR kR hbw hk hk1 hE d0 d1 d3 d4 HS hsl hsv hrd hsd hoe hrd0 hrd1 hst0 hst1 hhg0 hhg1 hcb hch hmul hmu hgv hrq hC hR hcl' hbr hf0 hf1 ht hrl
  go_enter Try.func88, Try.ntmps88
  go_upto_region 1 with fail
  rw [← HW1.out, ← HGR.out]
  go_upto_region 2 with fail
  have SB := Lib.hid (show ∀ W, Below w.heap.size w1 W → (W.cell? ⟨g, 6, none⟩ = some (.int .i64 t.stop) ∧ W.cell? ⟨g, 7, none⟩ = some (.int .i64 t.hang) ∧ W.cell? ⟨g, 8, none⟩ = some (.slice (some ⟨b, off, none⟩) es.length cE) ∧ W.cell? ⟨b, off + e * 5 + 2, none⟩ = some (.int .i64 rd)) from fun W hb => ⟨(hb.cell (p := ⟨g, 6, none⟩) hg).trans k6, (hb.cell (p := ⟨g, 7, none⟩) hg).trans k7, (hb.cell (p := ⟨g, 8, none⟩) hg).trans k8, (hb.cell (p := ⟨b, _, none⟩) hbl).trans d2⟩)
  clear k6 k7 k8 k9 d2 c0 q0
  go_region_held3 (fun w' => w'.cell? ⟨g, 6, none⟩ = some (.int .i64 t.stop) ∧ w'.cell? ⟨g, 7, none⟩ = some (.int .i64 t.hang) ∧ w'.cell? ⟨g, 8, none⟩ = some (.slice (some ⟨b, off, none⟩) es.length cE) ∧ w'.cell? ⟨b, off + e * 5 + 2, none⟩ = some (.int .i64 rd))
    (exact SB.out _ (by repeat (first | exact Below.refl _ _ | exact HB2.out.mono HBW.out.size | refine Below.drew ?_ | refine below_drewN ?_ _ | refine Below.setCell ?_ (by exact HGE.out) _)))
    ((go_at_call 123; refine (HS1.out _ (by repeat (first | exact Below.refl _ _ | refine Below.drew ?_ | refine below_drewN ?_ _))).mono ?_; rintro r w2 ⟨rfl, hb1⟩; have hb2 := ((Below.refl w1.heap.size w1).drew).trans hb1; clear hb1; have kR2 := Blk.below KR.out hb2 hgR1; have r0 := kR2.cell 0; have r1 := kR2.cell 1; have r2 := kR2.cell 2; have r3 := kR2.cell 3; have z0 := kR2.frozen 0; have z1 := kR2.frozen 1; have z2 := kR2.frozen 2; have z3 := kR2.frozen 3; simp at r0 r1 r2 r3; have KR2 := Lib.hid kR2; have HB2 := Lib.hid hb2; clear hb2 kR2))
  all_goals
    have kf := (((KR2.out.set_ 0 (.int .i64 sl.edition)).set_ 1 (.int .i64 sl.plates)).set_ 2 (.int .i64 sl.beg)).set_ 3 (.int .i64 sl.fin)
    go_wp2_with fail
    refine bodyPost_ret (v := slV sl) ?_ rfl ⟨rfl, ?_⟩
    · have c0 := kf.cell 0
      have c1 := kf.cell 1
      have c2 := kf.cell 2
      have c3 := kf.cell 3
      simp at c0 c1 c2 c3
      clear r0 r1 r2 r3 z0 z1 z2 z3
      generalize World.setCell _ _ _ = W at c0 c1 c2 c3 ⊢
      simp [results, Try.results88, go_sem, c0, c1, c2, c3, slV]
    · exact ((((HBW.out.trans (HB2.out.mono HBW.out.size)).setCell (by exact HGE.out) _).setCell (by exact HGE.out) _).setCell (by exact HGE.out) _).setCell (by exact HGE.out) _
end Go.Proofs.Ytokdleanpkkdpaa
