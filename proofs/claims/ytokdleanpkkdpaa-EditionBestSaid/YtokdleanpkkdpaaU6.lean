/- Contract of the reference's Follow; conditions: editions in memory. -/
import Derived.Test.YtokdleanpkkdpaaU5
import Derived.Deep.DeepCutAuto
set_option linter.unusedSimpArgs false
set_option linter.unusedVariables false
namespace Go.Ed
open Go.Fh Go.RowKit Go.Proofs.Ytokdleanpkkdpaa
/-- the slot of an edition behind another one, or the first one -/
def folS (t : TitD) (es : List EdD) (e : Nat) (ob : Option Nat) (fin : Int) : SloD :=
  match ob with
  | none => firstS t es e
  | some b => nextS t es e b fin
end Go.Ed
namespace Go.Proofs.Ytokdleanpkkdpaa
open Go.RowKit Go.Fh Go.Ed
theorem balR {w W : World} (h : Below w.heap.size w W) (o : Obj) : Below w.heap.size w (W.alloc o) := h.alloc h.size o
theorem blkA {w w' : World} {t : TypeId} {cs : Array Value} (hb : Below (w.alloc (.cells cs t)).heap.size (w.alloc (.cells cs t)) w') : Blk w' w.heap.size t cs := (Blk.new w t cs).below hb (Blk.new w t cs).lt
theorem blkA' {w w' : World} {t : TypeId} {cs : Array Value} (hb : Below ((w.alloc (.cells cs t)).drew).heap.size ((w.alloc (.cells cs t)).drew) w') : Blk w' w.heap.size t cs := blkA (show Below (w.alloc (.cells cs t)).heap.size (w.alloc (.cells cs t)) w' from ((Below.refl _ _).drew).trans hb)
theorem blk4 {w : World} {g : Nat} {a b c d a' b' c' d' : Value} (h : Blk w g 106 #[a, b, c, d]) : Blk ((((w.setCell ⟨g, 0, none⟩ a').setCell ⟨g, 1, none⟩ b').setCell ⟨g, 2, none⟩ c').setCell ⟨g, 3, none⟩ d') g 106 #[a', b', c', d'] := by
  have := (((h.set_ 0 a').set_ 1 b').set_ 2 c').set_ 3 d'
  simpa using this
set_option maxRecDepth 20000 in
set_option maxHeartbeats 4000000 in
theorem follow_any (t : TitD) (ht : OkT t) (x : TA) (A : Option Addr) (c : Nat) (es : List EdM) (e : Nat) (ob : Option Nat) (fin : Int) (w : World) (hn : es.length ≤ 1000) (he : e < es.length) (hoe : OkE t es[e].1)
    (hv : ∀ i (h : i < es.length), es[i].1.variants.length = t.colours.length) (hob : ∀ b, ob = some b → b < es.length) (hf0 : 0 ≤ fin) (hf1 : fin ≤ 100000000000) (hpl : t.pairs.length ≤ 1000000000)
    (hA : Sl encInt 1 w w.heap.size x.a t.colours) (hB : Sl encInt 1 w w.heap.size x.b t.pairs) (hE : Sl encEd 5 w w.heap.size A es) (hV : ∀ i (h : i < es.length), Sl encInt 1 w w.heap.size es[i].2.v es[i].1.variants) :
    Calls Try.prog 118 #[.agg (titV t x), .slice A es.length c, .int .i64 (e : Int), .int .i64 (ob.elim (-1) fun b => (b : Int)), .int .i64 fin] w fun r w' => r = .returned (slV (folS t (es.map (·.1)) e ob fin)) ∧ Below w.heap.size w w' := by
  obtain ⟨w1, hw1⟩ : ∃ W, W = (w.alloc (.cells (titV t x) 88)).alloc (.cells #[.int .i64 0, .int .i64 0, .int .i64 0, .int .i64 0] 106) := ⟨_, rfl⟩
  have hb1 : Below w.heap.size w w1 := by rw [hw1]; exact ((Below.refl _ _).alloc (Nat.le_refl _) _).alloc (by simp) _
  obtain ⟨gT, hgT⟩ : ∃ g, g = w.heap.size := ⟨_, rfl⟩
  obtain ⟨gR, hgR⟩ : ∃ g, g = w.heap.size + 1 := ⟨_, rfl⟩
  have kT : Blk w1 gT 88 (titV t x) := by rw [hw1, hgT]; exact (Blk.new _ _ _).alloc _
  have kR : Blk w1 gR 106 #[.int .i64 0, .int .i64 0, .int .i64 0, .int .i64 0] := by
    rw [hw1, hgR]
    have h0 := Blk.new (w.alloc (.cells (titV t x) 88)) 106 #[.int .i64 0, .int .i64 0, .int .i64 0, .int .i64 0]
    rw [World.size_alloc] at h0
    exact h0
  have hgl : gT < w1.heap.size := kT.lt
  have hgrl : gR < w1.heap.size := kR.lt
  obtain ⟨pb, off, rfl, hbl, d0, d1, d2, d3, d4⟩ := Sl.atEd (hE.below hb1) he
  have hgp := good_of_paired ht.pair
  have hblw : pb < w1.heap.size := Nat.lt_of_lt_of_le hbl hb1.size
  have SD := Lib.hid (show ∀ W, Below w1.heap.size w1 W → W.cell? ⟨pb, off + e * 5, none⟩ = some (.slice es[e].2.z es[e].1.zones.length es[e].2.cz) ∧ W.cell? ⟨pb, off + e * 5 + 1, none⟩ = some (.int .i64 es[e].1.copies) ∧ W.cell? ⟨pb, off + e * 5 + 2, none⟩ = some (.int .i64 es[e].1.ready) ∧ W.cell? ⟨pb, off + e * 5 + 3, none⟩ = some (.int .i64 es[e].1.due) ∧ W.cell? ⟨pb, off + e * 5 + 4, none⟩ = some (.slice es[e].2.v es[e].1.variants.length es[e].2.cv) from fun W hb =>
    ⟨(hb.cell (p := ⟨pb, off + e * 5, none⟩) hblw).trans d0, (hb.cell (p := ⟨pb, off + e * 5 + 1, none⟩) hblw).trans d1, (hb.cell (p := ⟨pb, off + e * 5 + 2, none⟩) hblw).trans d2, (hb.cell (p := ⟨pb, off + e * 5 + 3, none⟩) hblw).trans d3, (hb.cell (p := ⟨pb, off + e * 5 + 4, none⟩) hblw).trans d4⟩)
  have HCH := Lib.hid (fun W (b : Nat) (hb' : b < es.length) (h : Below w1.heap.size w1 W) => rchange_any t x es[b].1 es[e].1 es[b].2 es[e].2 W (by have := ht.c1; omega) ht.c4 hpl hgp (paired_nn ht.pair) (hv b hb') (hv e he) ((hA.below (hb1.trans (h.mono hb1.size))).mono (Nat.le_trans hb1.size h.size)) ((hB.below (hb1.trans (h.mono hb1.size))).mono (Nat.le_trans hb1.size h.size)) (((hV b hb').below (hb1.trans (h.mono hb1.size))).mono (Nat.le_trans hb1.size h.size)) (((hV e he).below (hb1.trans (h.mono hb1.size))).mono (Nat.le_trans hb1.size h.size)))
  have HPL := Lib.hid (fun W (h : Below w1.heap.size w1 W) => rplates_any t x W (by have := ht.c1; omega) ht.c4 hpl hgp (paired_nn ht.pair) ((hA.below (hb1.trans (h.mono hb1.size))).mono (Nat.le_trans hb1.size h.size)) ((hB.below (hb1.trans (h.mono hb1.size))).mono (Nat.le_trans hb1.size h.size)))
  obtain ⟨al, hal⟩ : ∃ a, a = allB t := ⟨_, rfl⟩
  rw [← hal] at HPL
  have r0 := kT.cell 0
  have r1 := kT.cell 1
  have r2 := kT.cell 2
  have r3 := kT.cell 3
  have r4 := kT.cell 4
  have r5 := kT.cell 5
  have r6 := kT.cell 6
  have r7 := kT.cell 7
  simp [titV] at r0 r1 r2 r3 r4 r5 r6 r7
  have HB1 := Lib.hid hb1
  have HW1 := Lib.hid hw1
  have HGT := Lib.hid hgT
  have HGR := Lib.hid hgR
  have KT := Lib.hid kT
  have KR := Lib.hid kR
  have HAL := Lib.hid hal
  have HOE := Lib.hid hoe
  have HOT := Lib.hid ht
  have HV := Lib.hid hv
  have HOB := Lib.hid hob
  have HE0 := Lib.hid hE
  have HV0 := Lib.hid hV
  have HA0 := Lib.hid hA
  have HB0 := Lib.hid hB
  have D1 := Lib.hid d1
  have D2 := Lib.hid d2
  clear hb1 hw1 hgT hgR kT kR hal hoe ht hv hob hE hV hA hB d0 d1 d2 d3 d4 hgp
  unfold titV at *
  obtain ⟨⟨fe, fp, fb, ff⟩, hfs⟩ : ∃ s, s = folS t (es.map (·.1)) e ob fin := ⟨_, rfl⟩
  rw [← hfs]
  have hfe : fe = (e : Int) := by
    have h := congrArg SloD.edition hfs
    rw [show fe = (⟨fe, fp, fb, ff⟩ : SloD).edition from rfl, h]
    cases ob <;> rfl
  subst hfe
  have HFS := Lib.hid hfs
  clear hfs
  obtain ⟨bv, hbv⟩ : ∃ v, v = ob.elim (-1) fun b => (b : Int) := ⟨_, rfl⟩
  rw [← hbv]
  have HBV := Lib.hid hbv
  clear hbv
  have SB := Lib.hid (show ∀ W, Below w1.heap.size w1 W → W.cell? ⟨gT, 0, none⟩ = some (.slice x.a t.colours.length x.ca) ∧ W.cell? ⟨gT, 1, none⟩ = some (.slice x.b t.pairs.length x.cb) ∧ W.cell? ⟨gT, 2, none⟩ = some (.slice x.z t.zones.length x.cz) ∧ W.cell? ⟨gT, 3, none⟩ = some (.slice x.r t.ready.length x.cr) ∧ W.cell? ⟨gT, 4, none⟩ = some (.int .i64 t.start) ∧ W.cell? ⟨gT, 5, none⟩ = some (.int .i64 t.rate) ∧ W.cell? ⟨gT, 6, none⟩ = some (.int .i64 t.stop) ∧ W.cell? ⟨gT, 7, none⟩ = some (.int .i64 t.hang) from fun W hb =>
    ⟨(hb.cell (p := ⟨gT, 0, none⟩) hgl).trans r0, (hb.cell (p := ⟨gT, 1, none⟩) hgl).trans r1, (hb.cell (p := ⟨gT, 2, none⟩) hgl).trans r2, (hb.cell (p := ⟨gT, 3, none⟩) hgl).trans r3, (hb.cell (p := ⟨gT, 4, none⟩) hgl).trans r4, (hb.cell (p := ⟨gT, 5, none⟩) hgl).trans r5, (hb.cell (p := ⟨gT, 6, none⟩) hgl).trans r6, (hb.cell (p := ⟨gT, 7, none⟩) hgl).trans r7⟩)
  go_enter Try.func118, Try.ntmps118
  go_upto_region 1 with fail
  rw [← HW1.out, ← HGR.out, ← HGT.out]
  go_cut [11] (fun p wx => ∃ gS, p = .pointer (some ⟨gS, 0, none⟩) ∧ Hid (Blk wx gS 106 #[.int .i64 (e : Int), .int .i64 al, .int .i64 t.start, .int .i64 0]) ∧ Hid (w1.heap.size ≤ gS) ∧ Hid (Below w1.heap.size w1 wx))
  case first =>
    skip
    go_region_law (go_simp; go_at_call 98; refine (HPL.out _ (by repeat (first | exact Below.refl _ _ | refine Below.drew ?_ | refine balR ?_ _))).mono ?_; rintro r w3 ⟨rfl, hb3⟩; (first | (have kS := blkA hb3; have KS := Lib.hid kS; have e0 := kS.cell 0; have e1 := kS.cell 1; have e2 := kS.cell 2; have e3 := kS.cell 3; have g0 := kS.frozen 0; have g1 := kS.frozen 1; have g2 := kS.frozen 2; have g3 := kS.frozen 3; simp at e0 e1 e2 e3; clear kS) | (have kS := blkA' hb3; have KS := Lib.hid kS; have e0 := kS.cell 0; have e1 := kS.cell 1; have e2 := kS.cell 2; have e3 := kS.cell 3; have g0 := kS.frozen 0; have g1 := kS.frozen 1; have g2 := kS.frozen 2; have g3 := kS.frozen 3; simp at e0 e1 e2 e3; clear kS) | skip); have HB3 := Lib.hid (Below.trans (show Below w1.heap.size w1 _ from by repeat (first | exact Below.refl _ _ | refine Below.drew ?_ | refine balR ?_ _)) (hb3.mono (by first | exact Nat.le_refl _ | simp))); clear hb3; obtain ⟨r0, r1, r2, r3, r4, r5, r6, r7⟩ := SB.out _ HB3.out; have hgl3 := Nat.lt_of_lt_of_le hgl HB3.out.size; go_wp2_with fail)
    all_goals go_wp2
    all_goals go_meet
    all_goals
      refine ⟨_, rfl, ?_, ?_, ?_⟩
      · first
          | (with_reducible exact Lib.hid (blk4 KS.out))
          | (with_reducible exact Lib.hid (Blk.new _ _ _))
      · first
          | (with_reducible exact Lib.hid (Nat.le_refl _))
          | (with_reducible exact Lib.hid HB3.out.size)
      · first
          | (with_reducible exact Lib.hid ((((HB3.out.setCell (Nat.le_refl _) _).setCell (Nat.le_refl _) _).setCell (Nat.le_refl _) _).setCell (Nat.le_refl _) _))
          | (with_reducible exact Lib.hid (balR HB3.out _))
  case rest =>
    skip
    obtain ⟨gS, rfl, HKS, HGE, HBS⟩ := hcut
    clear r0 r1 r2 r3 r4 r5 r6 r7
    obtain ⟨w4, hw4⟩ : ∃ W, W = wc := ⟨_, rfl⟩
    rw [← hw4] at HKS HBS ⊢
    clear hw4
    obtain ⟨r0, r1, r2, r3, r4, r5, r6, r7⟩ := SB.out _ HBS.out
    obtain ⟨d0, d1, d2, d3, d4⟩ := SD.out _ HBS.out
    have kS4 := HKS.out
    have s0 := kS4.cell 0; have s1 := kS4.cell 1; have s2 := kS4.cell 2; have s3 := kS4.cell 3; have z0 := kS4.frozen 0; have z1 := kS4.frozen 1; have z2 := kS4.frozen 2; have z3 := kS4.frozen 3; simp at s0 s1 s2 s3
    have hgS4 := kS4.lt
    clear kS4
    obtain ⟨rd, hrd⟩ : ∃ r, r = es[e].1.ready := ⟨_, rfl⟩
    rw [← hrd] at d2
    have HRD := Lib.hid hrd
    clear hrd
    obtain ⟨m1, hm1⟩ : ∃ b, b = decide (t.start < rd) := ⟨_, rfl⟩
    have hd1 := hm1.symm
    have HM1 := Lib.hid hm1
    clear hm1
    go_upto_region 2 with fail
    go_quiet (fail)
    go_upto_if 26 with fail
    go_cut [] (fun wx => Hid (Blk wx gS 106 #[.int .i64 (e : Int), .int .i64 al, .int .i64 (max t.start rd), .int .i64 0]) ∧ Hid (Below w1.heap.size w1 wx))
    case first =>
      cases m1
      · go_wp2_with fail
        go_meet
        have hmx : max t.start rd = t.start := by have := HM1.out; simp at this; omega
        exact ⟨Lib.hid (by rw [hmx]; exact HKS.out), Lib.hid (below_drewN HBS.out _)⟩
      · go_wp2_with fail
        go_meet
        have hmx : max t.start rd = rd := by have := HM1.out; simp at this; omega
        exact ⟨Lib.hid (by rw [hmx]; have := (show Blk (w4.drewN nq) gS 106 _ from HKS.out).set_ 2 (.int .i64 rd); simpa using this), Lib.hid ((below_drewN HBS.out _).setCell (by exact HGE.out) _)⟩
    case rest =>
      obtain ⟨HK5, HB5⟩ := hcut
      obtain ⟨w5, hw5⟩ : ∃ W, W = wc := ⟨_, rfl⟩
      rw [← hw5] at HK5 HB5 ⊢
      clear hw5 hd1 s0 s1 s2 s3 z0 z1 z2 z3 r0 r1 r2 r3 r4 r5 r6 r7 d0 d1 d2 d3 d4 HM1
      obtain ⟨r0, r1, r2, r3, r4, r5, r6, r7⟩ := SB.out _ HB5.out
      obtain ⟨d0, d1, d2, d3, d4⟩ := SD.out _ HB5.out
      rw [← HRD.out] at d2
      have kS5 := HK5.out
      have s0 := kS5.cell 0; have s1 := kS5.cell 1; have s2 := kS5.cell 2; have s3 := kS5.cell 3; have z0 := kS5.frozen 0; have z1 := kS5.frozen 1; have z2 := kS5.frozen 2; have z3 := kS5.frozen 3; simp at s0 s1 s2 s3
      have hgS5 := kS5.lt
      clear kS5
      obtain ⟨bt, hbt⟩ : ∃ b, b = decide ((0 : Int) ≤ bv) := ⟨_, rfl⟩
      have hbd := hbt.symm
      have HBT := Lib.hid hbt
      clear hbt
      go_upto_if 34 with fail
      go_cut [] (fun wx => Hid (Blk wx gS 106 #[.int .i64 (e : Int), .int .i64 fp, .int .i64 fb, .int .i64 0]) ∧ Hid (Below w1.heap.size w1 wx))
      case first =>
        cases ob with
        | none =>
          have hb0 : bt = false := by rw [HBT.out, HBV.out]; rfl
          subst hb0
          go_wp2_with fail
          go_meet
          refine ⟨Lib.hid ?_, HB5⟩
          have h := HFS.out
          unfold folS firstS at h
          rw [getD_ed he, ← HRD.out, ← HAL.out] at h
          injection h with h1 h2 h3 h4
          rw [h2, h3]
          exact HK5.out
        | some b =>
          have hbb := HOB.out b rfl
          have hb0 : bt = true := by rw [HBT.out, HBV.out]; simp
          subst hb0
          have hbv : bv = (b : Int) := HBV.out
          subst hbv
          obtain ⟨pb2, off2, hA2, hbl2, e0, e1, e2, e3, e4⟩ := Sl.atEd (HE0.out.below HB1.out) hbb
          injection hA2 with hA2
          injection hA2 with hA3 hA4 hA5
          subst hA3 hA4
          obtain ⟨ch, hch⟩ : ∃ c, c = changeB t es[b].1 es[e].1 := ⟨_, rfl⟩
          have hcb := changeB_bd HOT.out es[b].1 es[e].1
          rw [← hch] at hcb
          have HCC := Lib.hid (show ∀ W, Below w1.heap.size w1 W → Calls Try.prog 97 #[.agg #[.slice x.a t.colours.length x.ca, .slice x.b t.pairs.length x.cb, .slice x.z t.zones.length x.cz, .slice x.r t.ready.length x.cr, .int .i64 t.start, .int .i64 t.rate, .int .i64 t.stop, .int .i64 t.hang], .agg #[.slice es[b].2.z es[b].1.zones.length es[b].2.cz, .int .i64 es[b].1.copies, .int .i64 es[b].1.ready, .int .i64 es[b].1.due, .slice es[b].2.v es[b].1.variants.length es[b].2.cv], .agg #[.slice es[e].2.z es[e].1.zones.length es[e].2.cz, .int .i64 es[e].1.copies, .int .i64 rd, .int .i64 es[e].1.due, .slice es[e].2.v es[e].1.variants.length es[e].2.cv]] W fun r w' => r = .returned (.int .i64 ch) ∧ Below W.heap.size W w' from fun W hW => by
            rw [hch, HRD.out]
            exact HCH.out W b hbb hW)
          have hblw2 : pb < w1.heap.size := Nat.lt_of_lt_of_le hbl2 HB1.out.size
          have SE := Lib.hid (show ∀ W, Below w1.heap.size w1 W → W.cell? ⟨pb, off + b * 5, none⟩ = some (.slice es[b].2.z es[b].1.zones.length es[b].2.cz) ∧ W.cell? ⟨pb, off + b * 5 + 1, none⟩ = some (.int .i64 es[b].1.copies) ∧ W.cell? ⟨pb, off + b * 5 + 2, none⟩ = some (.int .i64 es[b].1.ready) ∧ W.cell? ⟨pb, off + b * 5 + 3, none⟩ = some (.int .i64 es[b].1.due) ∧ W.cell? ⟨pb, off + b * 5 + 4, none⟩ = some (.slice es[b].2.v es[b].1.variants.length es[b].2.cv) from fun W hb =>
            ⟨(hb.cell (p := ⟨pb, off + b * 5, none⟩) hblw2).trans e0, (hb.cell (p := ⟨pb, off + b * 5 + 1, none⟩) hblw2).trans e1, (hb.cell (p := ⟨pb, off + b * 5 + 2, none⟩) hblw2).trans e2, (hb.cell (p := ⟨pb, off + b * 5 + 3, none⟩) hblw2).trans e3, (hb.cell (p := ⟨pb, off + b * 5 + 4, none⟩) hblw2).trans e4⟩)
          clear e0 e1 e2 e3 e4
          obtain ⟨e0, e1, e2, e3, e4⟩ := SE.out _ HB5.out
          have hr0 := HOE.out.r0
          have hr1 := HOE.out.r1
          rw [← HRD.out] at hr0 hr1
          have hs0 := HOT.out.stop0
          have hs1 := HOT.out.stop1
          have hh0 := HOT.out.hang0
          have hh1 := HOT.out.hang1
          have hmul : 0 ≤ ch * t.hang ∧ ch * t.hang ≤ 256 * 3600 := ⟨Int.mul_nonneg hcb.1 hh0, Int.mul_le_mul hcb.2 hh1 hh0 (by omega)⟩
          have f0 := IntWalk.i64_in (ch * t.hang) (by omega)
          have hbg : fp = ch ∧ fb = max fin rd + t.stop + ch * t.hang := by
            have hp : fp = changeB t ((es.map (·.1)).getD b ed0) ((es.map (·.1)).getD e ed0) := congrArg SloD.plates HFS.out
            have hb : fb = max fin ((es.map (·.1)).getD e ed0).ready + t.stop + changeB t ((es.map (·.1)).getD b ed0) ((es.map (·.1)).getD e ed0) * t.hang := congrArg SloD.beg HFS.out
            rw [getD_ed he, getD_ed hbb, ← hch] at hp hb
            rw [← HRD.out] at hb
            exact ⟨hp, hb⟩
          have HBG := Lib.hid hbg
          have j0 : (0 : Int) ≤ (b : Int) := by omega
          have j1 : (b : Int) < (es.length : Int) := by omega
          have j2 : (0 : Int) ≤ (e : Int) := by omega
          have j3 : (e : Int) < (es.length : Int) := by omega
          clear hch hbg hh0 hh1 hcb
          obtain ⟨m2, hm2⟩ : ∃ b, b = decide (fin < rd) := ⟨_, rfl⟩
          have hd2 := hm2.symm
          have HM2 := Lib.hid hm2
          clear hm2
          obtain ⟨bb, hbbq⟩ : ∃ b, b = max fin rd := ⟨_, rfl⟩
          rw [← hbbq] at HBG
          have hbb0 : 0 ≤ bb ∧ bb ≤ 100000000000 := by omega
          have HBQ := Lib.hid hbbq
          clear hbbq
          have f1 := IntWalk.i64_in (bb + t.stop) (by omega)
          have f2 := IntWalk.i64_in (bb + t.stop + ch * t.hang) (by omega)
          clear hmul hr0 hr1 hs0 hs1 hbb0
          go_upto_region 5 with fail
          go_region_law (go_simp; go_at_call 97; refine (HCC.out _ (by repeat (first | exact HB5.out | refine Below.drew ?_))).mono ?_; rintro r w6 ⟨rfl, hb6⟩; have HB6 := Lib.hid (Below.trans (show Below w1.heap.size w1 _ from by repeat (first | exact HB5.out | refine Below.drew ?_)) (hb6.mono (by exact HB5.out.size))); have hk6 := Lib.hid (Blk.below (show Blk _ gS 106 _ from by repeat (first | exact HK5.out | refine Blk.drew ?_)) hb6 (by exact hgS5)); clear hb6 s0 s1 s2 s3 z0 z1 z2 z3 r0 r1 r2 r3 r4 r5 r6 r7 d0 d1 d2 d3 d4 e0 e1 e2 e3 e4; obtain ⟨r0, r1, r2, r3, r4, r5, r6, r7⟩ := SB.out _ HB6.out; obtain ⟨d0, d1, d2, d3, d4⟩ := SD.out _ HB6.out; rw [← HRD.out] at d2; have kS6 := hk6.out; have s0 := kS6.cell 0; have s1 := kS6.cell 1; have s2 := kS6.cell 2; have s3 := kS6.cell 3; have z0 := kS6.frozen 0; have z1 := kS6.frozen 1; have z2 := kS6.frozen 2; have z3 := kS6.frozen 3; simp at s0 s1 s2 s3; have hgS6 := kS6.lt; clear kS6; go_wp2_with fail)
          all_goals
            have HKQ := Lib.hid (fun (v : Int) => (hk6.out.set_ 1 (.int .i64 ch)).set_ 2 (.int .i64 v))
            have hne : pb ≠ gS := by have := HGE.out; omega
            have hne2 : gT ≠ gS := by have := HGE.out; omega
            have hqm : bb = if m2 then rd else fin := by have h1 := HM2.out; have h2 := HBQ.out; cases m2 <;> simp at h1 ⊢ <;> omega
            have HQM := Lib.hid hqm
            clear hqm
            cases m2
            · obtain rfl : bb = fin := HQM.out
              go_wp2_with fail
              go_meet
              refine ⟨Lib.hid ?_, Lib.hid (((HB6.out.setCell (by exact HGE.out) _).setCell (by exact HGE.out) _).setCell (by exact HGE.out) _)⟩
              have := ((hk6.out.set_ 1 (.int .i64 ch)).set_ 2 (.int .i64 bb)).set_ 2 (.int .i64 (bb + t.stop + ch * t.hang))
              rw [HBG.out.1, HBG.out.2]
              simpa using this
            · obtain rfl : bb = rd := HQM.out
              have kx := ((hk6.out.set_ 1 (.int .i64 ch)).set_ 2 (.int .i64 fin)).set_ 2 (.int .i64 bb)
              have x2 := kx.cell 2
              have x1 := kx.cell 1
              have fx := kx.frozen 2
              simp at x1 x2
              clear kx
              go_wp2_with fail
              go_meet
              refine ⟨Lib.hid ?_, Lib.hid ((((HB6.out.setCell (by exact HGE.out) _).setCell (by exact HGE.out) _).setCell (by exact HGE.out) _).setCell (by exact HGE.out) _)⟩
              have := (((hk6.out.set_ 1 (.int .i64 ch)).set_ 2 (.int .i64 fin)).set_ 2 (.int .i64 bb)).set_ 2 (.int .i64 (bb + t.stop + ch * t.hang))
              rw [HBG.out.1, HBG.out.2]
              simpa using this
      case rest =>
        obtain ⟨HK7, HB7⟩ := hcut
        obtain ⟨w7, hw7⟩ : ∃ W, W = wc := ⟨_, rfl⟩
        rw [← hw7] at HK7 HB7 ⊢
        clear hw7 hbd s0 s1 s2 s3 z0 z1 z2 z3 r0 r1 r2 r3 r4 r5 r6 r7 d0 d1 d2 d3 d4 HBT hgS5
        obtain ⟨r0, r1, r2, r3, r4, r5, r6, r7⟩ := SB.out _ HB7.out
        obtain ⟨d0, d1, d2, d3, d4⟩ := SD.out _ HB7.out
        have hfo : ff = endOf t es[e].1 fb ∧ 0 ≤ fb ∧ fb ≤ 200000000000 := by
          have hcb := fun b => changeB_bd HOT.out ((es.map (·.1)).getD b ed0) es[e].1
          have q1 := HOE.out.r0
          have q2 := HOE.out.r1
          have q3 := HOT.out.stop0
          have q4 := HOT.out.stop1
          have q5 := HOT.out.hang0
          have q6 := HOT.out.hang1
          have q7 := HOT.out.start0
          have q8 := HOT.out.start1
          have hb := congrArg SloD.beg HFS.out
          have hf := congrArg SloD.fin HFS.out
          cases ob with
          | none =>
            unfold folS firstS at hb hf
            rw [getD_ed he] at hb hf
            dsimp only at hb hf
            rw [← hb] at hf
            exact ⟨hf, by omega, by omega⟩
          | some b =>
            have hmul : 0 ≤ changeB t ((es.map (·.1)).getD b ed0) es[e].1 * t.hang ∧ changeB t ((es.map (·.1)).getD b ed0) es[e].1 * t.hang ≤ 256 * 3600 := ⟨Int.mul_nonneg (hcb b).1 q5, Int.mul_le_mul (hcb b).2 q6 q5 (by omega)⟩
            unfold folS nextS at hb hf
            rw [getD_ed he] at hb hf
            dsimp only at hb hf
            rw [← hb] at hf
            exact ⟨hf, by omega, by omega⟩
        have hc0 := HOE.out.c0
        have hc1 := HOE.out.c1
        have ha0 := HOT.out.rate0
        have ha1 := HOT.out.rate1
        obtain ⟨h2, h3, h4⟩ := hfo
        have hend : ff = fb + ((60 * es[e].1.copies) / t.rate + if 0 < (60 * es[e].1.copies) % t.rate then 1 else 0) := by rw [h2]; unfold endOf; rw [ceil_eq (by omega) ha0]
        obtain ⟨cp, hcp⟩ : ∃ c, c = es[e].1.copies := ⟨_, rfl⟩
        obtain ⟨lf, hlf⟩ : ∃ l, l = 60 * cp := ⟨_, rfl⟩
        rw [← hcp] at hend d1 hc0 hc1
        rw [← hlf] at hend
        have f0 := IntWalk.i64_in (60 * cp) (by omega)
        rw [← hlf] at f0
        have f0' : IntKind.i64.wrap (60 * cp) = lf := by rw [hlf] at *; exact f0
        obtain ⟨ra, hra⟩ : ∃ r, r = t.rate := ⟨_, rfl⟩
        rw [← hra] at hend r5 ha0 ha1
        have f1 := IntWalk.i64_quo lf ra (by omega)
        have hq1 : 0 ≤ lf / ra := Int.ediv_nonneg (by omega) (by omega)
        have hq2 : lf / ra ≤ lf := Int.ediv_le_self _ (by omega)
        have hm0 : 0 ≤ lf % ra := Int.emod_nonneg _ (by omega)
        have hm1 : lf % ra < ra := Int.emod_lt_of_pos _ (by omega)
        have f2 : IntKind.i64.wrap (lf.tmod ra) = lf % ra := by rw [Int.tmod_eq_emod_of_nonneg (by omega)]; exact IntWalk.i64_in _ (by omega)
        obtain ⟨qu, hqu⟩ : ∃ q, q = lf / ra := ⟨_, rfl⟩
        rw [← hqu] at hend f1 hq1 hq2
        have f3 := IntWalk.i64_in (fb + qu) (by omega)
        have f4 := IntWalk.i64_in (fb + qu + 1) (by omega)
        obtain ⟨fq, hfq⟩ : ∃ q, q = fb + qu := ⟨_, rfl⟩
        have f4w : wrap64 (fb + qu + 1) = fb + qu + 1 := IntWalk.wrap64_in _ (by omega)
        rw [← hfq] at f4 f4w
        have f3' : IntKind.i64.wrap (fb + qu) = fq := by rw [f3, hfq]
        have hend2 : ff = fq + if 0 < lf % ra then 1 else 0 := by rw [hend, hfq]; omega
        clear f3 hfq hend
        have hne : ra ≠ 0 := by omega
        have hgE := HGE.out
        have hgRw : w.heap.size ≤ gR := by rw [HGR.out]; omega
        have HEND := Lib.hid hend2
        have HRA := Lib.hid hra
        have HLF := Lib.hid hlf
        have kr7 := (KR.out.below HB7.out hgrl)
        have KR7 := Lib.hid kr7
        have b0 := kr7.cell 0
        have b1 := kr7.cell 1
        have b2 := kr7.cell 2
        have b3 := kr7.cell 3
        have y0 := kr7.frozen 0
        have y1 := kr7.frozen 1
        have y2 := kr7.frozen 2
        have y3 := kr7.frozen 3
        simp at b0 b1 b2 b3
        have hne2 : gR ≠ gS := by omega
        have hne3 : gT ≠ gS := by omega
        have hne4 : pb ≠ gS := by omega
        have kS7 := HK7.out
        have s0 := kS7.cell 0
        have s1 := kS7.cell 1
        have s2 := kS7.cell 2
        have s3 := kS7.cell 3
        have z0 := kS7.frozen 0
        have z1 := kS7.frozen 1
        have z2 := kS7.frozen 2
        have z3 := kS7.frozen 3
        simp at s0 s1 s2 s3
        have hgS7 := kS7.lt
        clear kS7 kr7 hend2 hra hlf hqu hcp h2
        go_upto_region 12 with fail
        go_region_law (fail)
        all_goals
          have kq := (HK7.out.set_ 3 (.int .i64 fb)).set_ 3 (.int .i64 fq)
          have kr := (KR7.out.far (p := ⟨gS, 3, none⟩) (by exact hne2) (.int .i64 fb)).far (p := ⟨gS, 3, none⟩) (by exact hne2) (.int .i64 fq)
          obtain ⟨w8, hw8⟩ : ∃ W, W = ((w7.setCell ⟨gS, 3, none⟩ (.int .i64 fb)).setCell ⟨gS, 3, none⟩ (.int .i64 fq)).drew := ⟨_, rfl⟩
          rw [← hw8]
          have hk8 : Blk w8 gS 106 #[.int .i64 (e : Int), .int .i64 fp, .int .i64 fb, .int .i64 fq] := by rw [hw8]; exact (show Blk ((w7.setCell ⟨gS, 3, none⟩ (.int .i64 fb)).setCell ⟨gS, 3, none⟩ (.int .i64 fq)) gS 106 #[.int .i64 (e : Int), .int .i64 fp, .int .i64 fb, .int .i64 fq] by simpa using kq)
          have hr8 : Blk w8 gR 106 #[.int .i64 0, .int .i64 0, .int .i64 0, .int .i64 0] := by rw [hw8]; exact kr
          have HB8 := Lib.hid (show Below w1.heap.size w1 w8 from by rw [hw8]; exact ((HB7.out.setCell (by exact hgE) _).setCell (by exact hgE) _).drew)
          clear hw8 kq kr s0 s1 s2 s3 z0 z1 z2 z3 b0 b1 b2 b3 y0 y1 y2 y3 r0 r1 r2 r3 r4 r5 r6 r7 d0 d1 d2 d3 d4
          obtain ⟨r0, r1, r2, r3, r4, r5, r6, r7⟩ := SB.out _ HB8.out
          rw [← HRA.out] at r5
          have s0 := hk8.cell 0
          have s1 := hk8.cell 1
          have s2 := hk8.cell 2
          have s3 := hk8.cell 3
          have z0 := hk8.frozen 0
          have z1 := hk8.frozen 1
          have z2 := hk8.frozen 2
          have z3 := hk8.frozen 3
          have b0 := hr8.cell 0
          have b1 := hr8.cell 1
          have b2 := hr8.cell 2
          have b3 := hr8.cell 3
          have y0 := hr8.frozen 0
          have y1 := hr8.frozen 1
          have y2 := hr8.frozen 2
          have y3 := hr8.frozen 3
          simp at s0 s1 s2 s3 b0 b1 b2 b3
          have HK8 := Lib.hid hk8
          have HR8 := Lib.hid hr8
          clear hk8 hr8
          by_cases hre : 0 < lf % ra
          · have hd : decide ((0 : Int) < lf % ra) = true := by simpa using hre
            have hff : ff = fq + 1 := by have := HEND.out; rw [if_pos hre] at this; omega
            have f4' : wrap64 (fq + 1) = ff := by rw [f4w]; exact hff.symm
            clear f4 f4w
            have HFF := Lib.hid (show ff = ff from rfl)
            clear hff
            clear hre
            go_upto_region 15 with fail
            try rw [f4']
            have kq := HK8.out.set_ 3 (.int .i64 ff)
            have kr := HR8.out.far (p := ⟨gS, 3, none⟩) (by exact hne2) (.int .i64 ff)
            obtain ⟨w9, hw9⟩ : ∃ W, W = w8.setCell ⟨gS, 3, none⟩ (.int .i64 ff) := ⟨_, rfl⟩
            rw [← hw9] at kq kr ⊢
            have HB9 := Lib.hid (show Below w1.heap.size w1 w9 from by rw [hw9]; exact HB8.out.setCell (by exact hgE) _)
            have HR9 := Lib.hid kr
            clear hw9 s0 s1 s2 s3 z0 z1 z2 z3 b0 b1 b2 b3 y0 y1 y2 y3 r0 r1 r2 r3 r4 r5 r6 r7 f4'
            have s0 := kq.cell 0
            have s1 := kq.cell 1
            have s2 := kq.cell 2
            have s3 := kq.cell 3
            have z0 := kq.frozen 0
            have z1 := kq.frozen 1
            have z2 := kq.frozen 2
            have z3 := kq.frozen 3
            have b0 := kr.cell 0
            have b1 := kr.cell 1
            have b2 := kr.cell 2
            have b3 := kr.cell 3
            have y0 := kr.frozen 0
            have y1 := kr.frozen 1
            have y2 := kr.frozen 2
            have y3 := kr.frozen 3
            simp at s0 s1 s2 s3 b0 b1 b2 b3
            clear kq kr
            have kf := (((HR9.out.set_ 0 (.int .i64 (e : Int))).set_ 1 (.int .i64 fp)).set_ 2 (.int .i64 fb)).set_ 3 (.int .i64 ff)
            go_wp2_with fail
            refine bodyPost_ret (v := slV ⟨e, fp, fb, ff⟩) ?_ rfl ⟨rfl, ?_⟩
            · have c0 := kf.cell 0
              have c1 := kf.cell 1
              have c2 := kf.cell 2
              have c3 := kf.cell 3
              simp at c0 c1 c2 c3
              clear s0 s1 s2 s3 z0 z1 z2 z3 b0 b1 b2 b3 y0 y1 y2 y3
              generalize World.setCell _ _ _ = W at c0 c1 c2 c3 ⊢
              simp [results, Try.results118, go_sem, c0, c1, c2, c3, slV]
            · exact ((((HB1.out.trans (HB9.out.mono HB1.out.size)).setCell (by exact hgRw) _).setCell (by exact hgRw) _).setCell (by exact hgRw) _).setCell (by exact hgRw) _
          · have hd : decide ((0 : Int) < lf % ra) = false := by simpa using hre
            have hff : fq = ff := by have := HEND.out; rw [if_neg hre] at this; omega
            clear hre f4 f4w
            rw [hff] at s3
            have HR9 := HR8
            have HB9 := HB8
            have kf := (((HR9.out.set_ 0 (.int .i64 (e : Int))).set_ 1 (.int .i64 fp)).set_ 2 (.int .i64 fb)).set_ 3 (.int .i64 ff)
            go_wp2_with fail
            refine bodyPost_ret (v := slV ⟨e, fp, fb, ff⟩) ?_ rfl ⟨rfl, ?_⟩
            · have c0 := kf.cell 0
              have c1 := kf.cell 1
              have c2 := kf.cell 2
              have c3 := kf.cell 3
              simp at c0 c1 c2 c3
              clear s0 s1 s2 s3 z0 z1 z2 z3 b0 b1 b2 b3 y0 y1 y2 y3
              generalize World.setCell _ _ _ = W at c0 c1 c2 c3 ⊢
              simp [results, Try.results118, go_sem, c0, c1, c2, c3, slV]
            · exact ((((HB1.out.trans (HB9.out.mono HB1.out.size)).setCell (by exact hgRw) _).setCell (by exact hgRw) _).setCell (by exact hgRw) _).setCell (by exact hgRw) _
end Go.Proofs.Ytokdleanpkkdpaa
