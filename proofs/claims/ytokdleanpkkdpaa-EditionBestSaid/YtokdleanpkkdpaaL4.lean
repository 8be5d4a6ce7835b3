/- Contract of copied; conditions: a title in memory. Printed by a program. -/
import Derived.Test.YtokdleanpkkdpaaL3
import Derived.Deep.DeepCutAuto
import Derived.Deep.RegionHeld3
set_option linter.unusedSimpArgs false
set_option linter.unusedVariables false
namespace Go.Fh
/-- an operation is taken first; where it writes is laid open -/
theorem wpAnyH_takeE {P : Program} {ops : Array Oper} {Q : Exit → Act → World → Prop} {md : Region.Mode} {S : World → Prop} {i : Nat} {oi : Oper} {v : Value} {fuel : Nat} {listed : Array Bool} {a : Act} {w : World} (d : Option Tmp) (hi : ops[i]? = some oi) (hd : oi.dst = d)
    (hs : Region.noSelect ops = true) (hf : Region.free md ops listed i = true) (hr : (Region.ready md ops listed).contains i = true)
    (hQ : ∀ c a w, Q (.panic c) (a.put oi.dst v) w → Q (.panic c) a w) (hy : YieldsIf P ops S oi v a) (hS : S w)
    (h : wpAnyH P md ops Q S fuel (listed.setIfInBounds i true) (a.put d v) w) : wpAnyH P md ops Q S (fuel + 1) listed a w := by
  subst hd
  exact wpAnyH_take hi hs hf hr hQ hy hS h
end Go.Fh
namespace Go.Proofs.Ytokdleanpkkdpaa
open Go.RowKit Go.Fh Go.Ed
theorem infoR161 : (Try.prog.info? 161).map (fun i => (i.zero, i.size, i.bytes)) = some (some (.agg #[.int .i64 0, .int .i64 0, .int .i64 0]), 3, 24) := by kernel_rfl
theorem infoRzon : (Try.prog.info? 160).map (fun i => (i.zero, i.size, i.bytes)) = some (some (.agg #[.int .i64 0, .int .i64 0, .slice none 0 0]), 3, 40) := by kernel_rfl
theorem bstep {w v v' : World} (h : Below w.heap.size w v) (k : Below v.heap.size v v') : Below w.heap.size w v' := h.trans (k.mono h.size)
theorem bset {B : Nat} {w v : World} (h : Below B w v) (p : Addr) (u : Value) (hp : B ≤ p.block) : Below B w (v.setCell p u) := h.setCell hp u
theorem blk8 {w : World} {g : Nat} {e : TypeId} {a0 a1 a2 a3 a4 a5 a6 a7 : Value} (h : Blk w g e #[a0, a1, a2, a3, a4, a5, a6, a7]) (v0 v1 v2 v3 v4 v5 v6 v7 : Value) :
    Blk ((((((((w.setCell ⟨g, 0, none⟩ v0).setCell ⟨g, 1, none⟩ v1).setCell ⟨g, 2, none⟩ v2).setCell ⟨g, 3, none⟩ v3).setCell ⟨g, 4, none⟩ v4).setCell ⟨g, 5, none⟩ v5).setCell ⟨g, 6, none⟩ v6).setCell ⟨g, 7, none⟩ v7) g e #[v0, v1, v2, v3, v4, v5, v6, v7] := by
  have := (((((((h.set_ 0 v0).set_ 1 v1).set_ 2 v2).set_ 3 v3).set_ 4 v4).set_ 5 v5).set_ 6 v6).set_ 7 v7
  simpa using this
theorem own_set8 {W : World} {b : Nat} {e e' : TypeId} {s n g : Nat} {v : Value} {xs : List Value} {cs : Array Value} (ho : W.ownsRow b e' s v n xs) (hk : Blk W g e cs) (he : e' ≠ e) (v0 v1 v2 v3 v4 v5 v6 v7 : Value) :
    ((((((((W.setCell ⟨g, 0, none⟩ v0).setCell ⟨g, 1, none⟩ v1).setCell ⟨g, 2, none⟩ v2).setCell ⟨g, 3, none⟩ v3).setCell ⟨g, 4, none⟩ v4).setCell ⟨g, 5, none⟩ v5).setCell ⟨g, 6, none⟩ v6).setCell ⟨g, 7, none⟩ v7).ownsRow b e' s v n xs := by
  have h0 := (But.set_ hk 0 v0).own ho he
  have h1 := (But.set_ (hk.set_ 0 v0) 1 v1).own h0 he
  have h2 := (But.set_ ((hk.set_ 0 v0).set_ 1 v1) 2 v2).own h1 he
  have h3 := (But.set_ (((hk.set_ 0 v0).set_ 1 v1).set_ 2 v2) 3 v3).own h2 he
  have h4 := (But.set_ ((((hk.set_ 0 v0).set_ 1 v1).set_ 2 v2).set_ 3 v3) 4 v4).own h3 he
  have h5 := (But.set_ (((((hk.set_ 0 v0).set_ 1 v1).set_ 2 v2).set_ 3 v3).set_ 4 v4) 5 v5).own h4 he
  have h6 := (But.set_ ((((((hk.set_ 0 v0).set_ 1 v1).set_ 2 v2).set_ 3 v3).set_ 4 v4).set_ 5 v5) 6 v6).own h5 he
  exact (But.set_ (((((((hk.set_ 0 v0).set_ 1 v1).set_ 2 v2).set_ 3 v3).set_ 4 v4).set_ 5 v5).set_ 6 v6) 7 v7).own h6 he
theorem far8 {W : World} {g g' : Nat} {e : TypeId} {cs : Array Value} (h : Blk W g e cs) (hne : g ≠ g') (v0 v1 v2 v3 v4 v5 v6 v7 : Value) :
    Blk ((((((((W.setCell ⟨g', 0, none⟩ v0).setCell ⟨g', 1, none⟩ v1).setCell ⟨g', 2, none⟩ v2).setCell ⟨g', 3, none⟩ v3).setCell ⟨g', 4, none⟩ v4).setCell ⟨g', 5, none⟩ v5).setCell ⟨g', 6, none⟩ v6).setCell ⟨g', 7, none⟩ v7) g e cs :=
  (((((((h.far (p := ⟨g', 0, none⟩) (by exact hne) v0).far (p := ⟨g', 1, none⟩) (by exact hne) v1).far (p := ⟨g', 2, none⟩) (by exact hne) v2).far (p := ⟨g', 3, none⟩) (by exact hne) v3).far (p := ⟨g', 4, none⟩) (by exact hne) v4).far (p := ⟨g', 5, none⟩) (by exact hne) v5).far (p := ⟨g', 6, none⟩) (by exact hne) v6).far (p := ⟨g', 7, none⟩) (by exact hne) v7
theorem set8_low {w W : World} (h : Below w.heap.size w W) {g : Nat} (hg : w.heap.size ≤ g) (v0 v1 v2 v3 v4 v5 v6 v7 : Value) :
    Below w.heap.size w ((((((((W.setCell ⟨g, 0, none⟩ v0).setCell ⟨g, 1, none⟩ v1).setCell ⟨g, 2, none⟩ v2).setCell ⟨g, 3, none⟩ v3).setCell ⟨g, 4, none⟩ v4).setCell ⟨g, 5, none⟩ v5).setCell ⟨g, 6, none⟩ v6).setCell ⟨g, 7, none⟩ v7) :=
  bset (bset (bset (bset (bset (bset (bset (bset h _ v0 (by exact hg)) _ v1 (by exact hg)) _ v2 (by exact hg)) _ v3 (by exact hg)) _ v4 (by exact hg)) _ v5 (by exact hg)) _ v6 (by exact hg)) _ v7 (by exact hg)
theorem tit_drew {X : World} {t : TitD} {x : TA} {zs : List ZonM} (h : TitAt X X.heap.size t x zs) : TitAt X.drew X.drew.heap.size t x zs := (h.below (Below.drew (Below.refl _ _))).mono (Nat.le_refl _)
/-- what copied has made are two titles, where their rows have stayed -/
theorem cpz_out {w W F : World} {t : TitD} {x : TA} {g1 g2 g3 g4 g5 : Nat} {y1 y2 : TA} {zs1 zs2 : List ZonM} {Z1 Z2 : Option Addr} {c1 c2 : Nat} {R2 : Option Addr} {cr2 : Nat} (h : CpZ w W t x g1 g2 g3 g4 g5 y1 y2 t.zones.length t.zones.length zs1 zs2 Z1 Z2 c1 c2 R2 cr2 t.ready.length)
    (hk : ∀ {b : Nat} {e' : TypeId} {s n : Nat} {v : Value} {xs : List Value}, e' ≠ 26 → e' ≠ 88 → W.ownsRow b e' s v n xs → F.ownsRow b e' s v n xs) :
    TitAt F F.heap.size t ⟨y1.a, y1.ca, y1.b, y1.cb, Z1, c1, y1.r, y1.cr⟩ zs1 ∧ TitAt F F.heap.size t ⟨y2.a, y2.ca, y2.b, y2.cb, Z2, c2, R2, cr2⟩ zs2 := by
  have e1 : zs1.map (·.1) = t.zones := by rw [h.m1, List.take_of_length_le (Nat.le_refl _)]
  have e2 : zs2.map (·.1) = t.zones := by rw [h.m2, List.take_of_length_le (Nat.le_refl _)]
  have l1 : t.zones.length = zs1.length := by rw [← e1]; simp
  have l2 : t.zones.length = zs2.length := by rw [← e2]; simp
  have z1 := hk (by decide) (by decide) h.oZ1
  have z2 := hk (by decide) (by decide) h.oZ2
  rw [l1] at z1
  rw [l2] at z2
  have rr := hk (by decide) (by decide) h.oR2
  rw [List.take_of_length_le (Nat.le_refl _)] at rr
  exact ⟨⟨e1, own_sl (hk (by decide) (by decide) h.oA1), own_sl (hk (by decide) (by decide) h.oB1), Sl.of_own (enc := encZon) (fun _ => rfl) z1, fun i hi => own_sl (hk (by decide) (by decide) (h.oV1 i hi)), Sl.of_own (enc := enc3) (fun _ => rfl) (hk (by decide) (by decide) h.oR1)⟩,
    ⟨e2, own_sl (hk (by decide) (by decide) h.oA2), own_sl (hk (by decide) (by decide) h.oB2), Sl.of_own (enc := encZon) (fun _ => rfl) z2, fun i hi => own_sl (hk (by decide) (by decide) (h.oV2 i hi)), Sl.of_own (enc := enc3) (fun _ => rfl) rr⟩⟩
set_option maxRecDepth 20000 in
set_option maxHeartbeats 2000000 in
theorem copied_any (t : TitD) (x : TA) (zs : List ZonM) (w : World) (hs : Sizes t) (hT : TitAt w w.heap.size t x zs) :
    Calls Try.prog 39 #[.agg (titV t x)] w fun e w' => ∃ (y1 y2 : TA) (zs1 zs2 : List ZonM), e = .returned (.tuple #[.agg (titV t y1), .agg (titV t y2)]) ∧ TitAt w' w'.heap.size t y1 zs1 ∧ TitAt w' w'.heap.size t y2 zs2 ∧ Below w.heap.size w w' := by
  obtain ⟨w1, hw1⟩ : ∃ W, W = ((w.alloc (.cells (titV t x) 26)).alloc (.cells #[.slice none 0 0, .slice none 0 0, .slice none 0 0, .slice none 0 0, .int .i64 0, .int .i64 0, .int .i64 0, .int .i64 0] 26)).alloc (.cells #[.slice none 0 0, .slice none 0 0, .slice none 0 0, .slice none 0 0, .int .i64 0, .int .i64 0, .int .i64 0, .int .i64 0] 88) := ⟨_, rfl⟩
  have hb1 : Below w.heap.size w w1 := by rw [hw1]; exact balR (balR (balR (Below.refl _ _) _) _) _
  obtain ⟨g1, hg1⟩ : ∃ g, g = w.heap.size := ⟨_, rfl⟩
  obtain ⟨g2, hg2⟩ : ∃ g, g = w.heap.size + 1 := ⟨_, rfl⟩
  obtain ⟨g3, hg3⟩ : ∃ g, g = w.heap.size + 1 + 1 := ⟨_, rfl⟩
  have k1 : Blk w1 g1 26 (titV t x) := by rw [hw1, hg1]; exact ((blkAt rfl 26 _).alloc _).alloc _
  have k2 : Blk w1 g2 26 #[.slice none 0 0, .slice none 0 0, .slice none 0 0, .slice none 0 0, .int .i64 0, .int .i64 0, .int .i64 0, .int .i64 0] := by rw [hw1, hg2]; exact (blkAt (by simp) 26 _).alloc _
  have k3 : Blk w1 g3 88 #[.slice none 0 0, .slice none 0 0, .slice none 0 0, .slice none 0 0, .int .i64 0, .int .i64 0, .int .i64 0, .int .i64 0] := by rw [hw1, hg3]; exact blkAt (by simp) 88 _
  have hgl := k1.lt
  have SB := Lib.hid (show ∀ W, Below w1.heap.size w1 W → W.cell? ⟨g1, 0, none⟩ = some (.slice x.a t.colours.length x.ca) ∧ W.cell? ⟨g1, 1, none⟩ = some (.slice x.b t.pairs.length x.cb) ∧ W.cell? ⟨g1, 2, none⟩ = some (.slice x.z t.zones.length x.cz) ∧ W.cell? ⟨g1, 3, none⟩ = some (.slice x.r t.ready.length x.cr) ∧ W.cell? ⟨g1, 4, none⟩ = some (.int .i64 t.start) ∧ W.cell? ⟨g1, 5, none⟩ = some (.int .i64 t.rate) ∧ W.cell? ⟨g1, 6, none⟩ = some (.int .i64 t.stop) ∧ W.cell? ⟨g1, 7, none⟩ = some (.int .i64 t.hang) from fun W hb => box26 t x k1 W hb)
  have hTX := fun W (hb : Below w1.heap.size w1 W) => (hT.below (hb1.trans (hb.mono hb1.size))).mono ((hb1.trans (hb.mono hb1.size)).size)
  have HTB := Lib.hid hTX
  have HCLA := Lib.hid (show ∀ W, Below w1.heap.size w1 W → Calls Try.prog 40 #[.slice x.a t.colours.length x.ca] W fun e w' => ∃ A c, e = .returned (.slice A t.colours.length c) ∧ w'.ownsRow W.heap.size 3 1 (.slice A t.colours.length c) t.colours.length (t.colours.map (Value.int .i64)) ∧ Below W.heap.size W w' from fun W hb => cloneOwn_any x.a x.ca t.colours W (by have := hs.s1; omega) (hTX W hb).cA)
  have HCLB := Lib.hid (show ∀ W, Below w1.heap.size w1 W → Calls Try.prog 40 #[.slice x.b t.pairs.length x.cb] W fun e w' => ∃ A c, e = .returned (.slice A t.pairs.length c) ∧ w'.ownsRow W.heap.size 3 1 (.slice A t.pairs.length c) t.pairs.length (t.pairs.map (Value.int .i64)) ∧ Below W.heap.size W w' from fun W hb => cloneOwn_any x.b x.cb t.pairs W (by have := hs.s2; omega) (hTX W hb).cB)
  have HCLR := Lib.hid (show ∀ W, Below w1.heap.size w1 W → Calls Try.prog 29 #[.slice x.r t.ready.length x.cr] W fun e w' => ∃ A c, e = .returned (.slice A t.ready.length c) ∧ w'.ownsRow W.heap.size 69 3 (.slice A t.ready.length c) t.ready.length (t.ready.flatMap enc3) ∧ Below W.heap.size W w' from fun W hb => cloneRdy_any x.r x.cr t.ready W (by have := hs.s4; omega) (hTX W hb).cR)
  have HT0 := Lib.hid hT
  have s3 := hs.s3
  have s4 := hs.s4
  have HS5 := Lib.hid hs.s5
  have HB1 := Lib.hid hb1
  have HW1 := Lib.hid hw1
  have HG1 := Lib.hid hg1
  have HG2 := Lib.hid hg2
  have HG3 := Lib.hid hg3
  have K1 := Lib.hid k1
  have K2 := Lib.hid k2
  have K3 := Lib.hid k3
  clear hb1 hw1 hg1 hg2 hg3 k1 k2 k3 hTX hT hs
  unfold titV at *
  go_enter Try.func39, Try.ntmps39
  go_upto_region 1 with fail
  rw [← HW1.out, ← HG3.out, ← HG2.out, ← HG1.out]
  obtain ⟨r0, r1, r2, r3, r4, r5, r6, r7⟩ := SB.out _ (Below.refl _ _)
  go_cut [4] (fun p wx => ∃ (g4 : Nat) (AA : Option Addr) (cA : Nat) (AB : Option Addr) (cB : Nat) (AR : Option Addr) (cR : Nat), p = .pointer (some ⟨g4, 0, none⟩) ∧ Hid (Blk wx g4 26 #[.slice AA t.colours.length cA, .slice AB t.pairs.length cB, .slice none 0 0, .slice AR t.ready.length cR, .int .i64 t.start, .int .i64 t.rate, .int .i64 t.stop, .int .i64 t.hang]) ∧ Hid (wx.ownsRow w1.heap.size 3 1 (.slice AA t.colours.length cA) t.colours.length (t.colours.map (Value.int .i64))) ∧ Hid (wx.ownsRow w1.heap.size 3 1 (.slice AB t.pairs.length cB) t.pairs.length (t.pairs.map (Value.int .i64))) ∧ Hid (wx.ownsRow w1.heap.size 69 3 (.slice AR t.ready.length cR) t.ready.length (t.ready.flatMap enc3)) ∧ Hid (w1.heap.size ≤ g4) ∧ Hid (Below w1.heap.size w1 wx))
  case first =>
    skip
    clear r0 r1 r2 r3 r4 r5 r6 r7
    go_region_held3 (fun W => W.cell? ⟨g1, 0, none⟩ = some (.slice x.a t.colours.length x.ca) ∧ W.cell? ⟨g1, 1, none⟩ = some (.slice x.b t.pairs.length x.cb) ∧ W.cell? ⟨g1, 2, none⟩ = some (.slice x.z t.zones.length x.cz) ∧ W.cell? ⟨g1, 3, none⟩ = some (.slice x.r t.ready.length x.cr) ∧ W.cell? ⟨g1, 4, none⟩ = some (.int .i64 t.start) ∧ W.cell? ⟨g1, 5, none⟩ = some (.int .i64 t.rate) ∧ W.cell? ⟨g1, 6, none⟩ = some (.int .i64 t.stop) ∧ W.cell? ⟨g1, 7, none⟩ = some (.int .i64 t.hang))
      (exact SB.out _ (by (repeat (with_reducible first | exact Below.refl _ _ | exact HBA.out | exact HBB.out | exact HBR.out | refine Below.drew ?_ | refine balR ?_ _ | refine bset ?_ _ _ (by first | exact Nat.le_refl _ | exact HBA.out.size | exact HBB.out.size | exact HBR.out.size)))))
      (first
        | (go_at_call 40; with_reducible refine (HCLA.out _ (by (repeat (with_reducible first | exact Below.refl _ _ | exact HBA.out | exact HBB.out | exact HBR.out | refine Below.drew ?_ | refine balR ?_ _ | refine bset ?_ _ _ (by first | exact Nat.le_refl _ | exact HBA.out.size | exact HBB.out.size | exact HBR.out.size))))).mono ?_; rintro r A ⟨AA, cA, rfl, ho, hb⟩; (first | (have kS := blkA hb; have KS := Lib.hid kS; have e0 := kS.cell 0; have f0 := kS.frozen 0; have e1 := kS.cell 1; have f1 := kS.frozen 1; have e2 := kS.cell 2; have f2 := kS.frozen 2; have e3 := kS.cell 3; have f3 := kS.frozen 3; have e4 := kS.cell 4; have f4 := kS.frozen 4; have e5 := kS.cell 5; have f5 := kS.frozen 5; have e6 := kS.cell 6; have f6 := kS.frozen 6; have e7 := kS.cell 7; have f7 := kS.frozen 7; simp at e0 e1 e2 e3 e4 e5 e6 e7; clear kS) | (have kS := blkA' hb; have KS := Lib.hid kS; have e0 := kS.cell 0; have f0 := kS.frozen 0; have e1 := kS.cell 1; have f1 := kS.frozen 1; have e2 := kS.cell 2; have f2 := kS.frozen 2; have e3 := kS.cell 3; have f3 := kS.frozen 3; have e4 := kS.cell 4; have f4 := kS.frozen 4; have e5 := kS.cell 5; have f5 := kS.frozen 5; have e6 := kS.cell 6; have f6 := kS.frozen 6; have e7 := kS.cell 7; have f7 := kS.frozen 7; simp at e0 e1 e2 e3 e4 e5 e6 e7; clear kS) | (have kS := KS.out.below (by exact hb) KS.out.lt; have KS := Lib.hid kS; clear e0 e1 e2 e3 e4 e5 e6 e7 f0 f1 f2 f3 f4 f5 f6 f7; have e0 := kS.cell 0; have f0 := kS.frozen 0; have e1 := kS.cell 1; have f1 := kS.frozen 1; have e2 := kS.cell 2; have f2 := kS.frozen 2; have e3 := kS.cell 3; have f3 := kS.frozen 3; have e4 := kS.cell 4; have f4 := kS.frozen 4; have e5 := kS.cell 5; have f5 := kS.frozen 5; have e6 := kS.cell 6; have f6 := kS.frozen 6; have e7 := kS.cell 7; have f7 := kS.frozen 7; simp at e0 e1 e2 e3 e4 e5 e6 e7; clear kS) | skip); have HBA := Lib.hid (bstep (show Below w1.heap.size w1 _ from by (repeat (with_reducible first | exact Below.refl _ _ | exact HBA.out | exact HBB.out | exact HBR.out | refine Below.drew ?_ | refine balR ?_ _ | refine bset ?_ _ _ (by first | exact Nat.le_refl _ | exact HBA.out.size | exact HBB.out.size | exact HBR.out.size)))) hb); have HCA := Lib.hid hb; have HPA := Lib.hid (own_sz ho (Below.size (show Below w1.heap.size w1 _ from by (repeat (with_reducible first | exact Below.refl _ _ | exact HBA.out | exact HBB.out | exact HBR.out | refine Below.drew ?_ | refine balR ?_ _ | refine bset ?_ _ _ (by first | exact Nat.le_refl _ | exact HBA.out.size | exact HBB.out.size | exact HBR.out.size)))))); clear ho hb)
        | (go_at_call 40; with_reducible refine (HCLB.out _ (by (repeat (with_reducible first | exact Below.refl _ _ | exact HBA.out | exact HBB.out | exact HBR.out | refine Below.drew ?_ | refine balR ?_ _ | refine bset ?_ _ _ (by first | exact Nat.le_refl _ | exact HBA.out.size | exact HBB.out.size | exact HBR.out.size))))).mono ?_; rintro r B ⟨AB, cB, rfl, ho, hb⟩; (first | (have kS := blkA hb; have KS := Lib.hid kS; have e0 := kS.cell 0; have f0 := kS.frozen 0; have e1 := kS.cell 1; have f1 := kS.frozen 1; have e2 := kS.cell 2; have f2 := kS.frozen 2; have e3 := kS.cell 3; have f3 := kS.frozen 3; have e4 := kS.cell 4; have f4 := kS.frozen 4; have e5 := kS.cell 5; have f5 := kS.frozen 5; have e6 := kS.cell 6; have f6 := kS.frozen 6; have e7 := kS.cell 7; have f7 := kS.frozen 7; simp at e0 e1 e2 e3 e4 e5 e6 e7; clear kS) | (have kS := blkA' hb; have KS := Lib.hid kS; have e0 := kS.cell 0; have f0 := kS.frozen 0; have e1 := kS.cell 1; have f1 := kS.frozen 1; have e2 := kS.cell 2; have f2 := kS.frozen 2; have e3 := kS.cell 3; have f3 := kS.frozen 3; have e4 := kS.cell 4; have f4 := kS.frozen 4; have e5 := kS.cell 5; have f5 := kS.frozen 5; have e6 := kS.cell 6; have f6 := kS.frozen 6; have e7 := kS.cell 7; have f7 := kS.frozen 7; simp at e0 e1 e2 e3 e4 e5 e6 e7; clear kS) | (have kS := KS.out.below (by exact hb) KS.out.lt; have KS := Lib.hid kS; clear e0 e1 e2 e3 e4 e5 e6 e7 f0 f1 f2 f3 f4 f5 f6 f7; have e0 := kS.cell 0; have f0 := kS.frozen 0; have e1 := kS.cell 1; have f1 := kS.frozen 1; have e2 := kS.cell 2; have f2 := kS.frozen 2; have e3 := kS.cell 3; have f3 := kS.frozen 3; have e4 := kS.cell 4; have f4 := kS.frozen 4; have e5 := kS.cell 5; have f5 := kS.frozen 5; have e6 := kS.cell 6; have f6 := kS.frozen 6; have e7 := kS.cell 7; have f7 := kS.frozen 7; simp at e0 e1 e2 e3 e4 e5 e6 e7; clear kS) | skip); have HBB := Lib.hid (bstep (show Below w1.heap.size w1 _ from by (repeat (with_reducible first | exact Below.refl _ _ | exact HBA.out | exact HBB.out | exact HBR.out | refine Below.drew ?_ | refine balR ?_ _ | refine bset ?_ _ _ (by first | exact Nat.le_refl _ | exact HBA.out.size | exact HBB.out.size | exact HBR.out.size)))) hb); have HCB := Lib.hid hb; have HPB := Lib.hid (own_sz ho (Below.size (show Below w1.heap.size w1 _ from by (repeat (with_reducible first | exact Below.refl _ _ | exact HBA.out | exact HBB.out | exact HBR.out | refine Below.drew ?_ | refine balR ?_ _ | refine bset ?_ _ _ (by first | exact Nat.le_refl _ | exact HBA.out.size | exact HBB.out.size | exact HBR.out.size)))))); clear ho hb)
        | (go_at_call 29; with_reducible refine (HCLR.out _ (by (repeat (with_reducible first | exact Below.refl _ _ | exact HBA.out | exact HBB.out | exact HBR.out | refine Below.drew ?_ | refine balR ?_ _ | refine bset ?_ _ _ (by first | exact Nat.le_refl _ | exact HBA.out.size | exact HBB.out.size | exact HBR.out.size))))).mono ?_; rintro r R ⟨AR, cR, rfl, ho, hb⟩; (first | (have kS := blkA hb; have KS := Lib.hid kS; have e0 := kS.cell 0; have f0 := kS.frozen 0; have e1 := kS.cell 1; have f1 := kS.frozen 1; have e2 := kS.cell 2; have f2 := kS.frozen 2; have e3 := kS.cell 3; have f3 := kS.frozen 3; have e4 := kS.cell 4; have f4 := kS.frozen 4; have e5 := kS.cell 5; have f5 := kS.frozen 5; have e6 := kS.cell 6; have f6 := kS.frozen 6; have e7 := kS.cell 7; have f7 := kS.frozen 7; simp at e0 e1 e2 e3 e4 e5 e6 e7; clear kS) | (have kS := blkA' hb; have KS := Lib.hid kS; have e0 := kS.cell 0; have f0 := kS.frozen 0; have e1 := kS.cell 1; have f1 := kS.frozen 1; have e2 := kS.cell 2; have f2 := kS.frozen 2; have e3 := kS.cell 3; have f3 := kS.frozen 3; have e4 := kS.cell 4; have f4 := kS.frozen 4; have e5 := kS.cell 5; have f5 := kS.frozen 5; have e6 := kS.cell 6; have f6 := kS.frozen 6; have e7 := kS.cell 7; have f7 := kS.frozen 7; simp at e0 e1 e2 e3 e4 e5 e6 e7; clear kS) | (have kS := KS.out.below (by exact hb) KS.out.lt; have KS := Lib.hid kS; clear e0 e1 e2 e3 e4 e5 e6 e7 f0 f1 f2 f3 f4 f5 f6 f7; have e0 := kS.cell 0; have f0 := kS.frozen 0; have e1 := kS.cell 1; have f1 := kS.frozen 1; have e2 := kS.cell 2; have f2 := kS.frozen 2; have e3 := kS.cell 3; have f3 := kS.frozen 3; have e4 := kS.cell 4; have f4 := kS.frozen 4; have e5 := kS.cell 5; have f5 := kS.frozen 5; have e6 := kS.cell 6; have f6 := kS.frozen 6; have e7 := kS.cell 7; have f7 := kS.frozen 7; simp at e0 e1 e2 e3 e4 e5 e6 e7; clear kS) | skip); have HBR := Lib.hid (bstep (show Below w1.heap.size w1 _ from by (repeat (with_reducible first | exact Below.refl _ _ | exact HBA.out | exact HBB.out | exact HBR.out | refine Below.drew ?_ | refine balR ?_ _ | refine bset ?_ _ _ (by first | exact Nat.le_refl _ | exact HBA.out.size | exact HBB.out.size | exact HBR.out.size)))) hb); have HCR := Lib.hid hb; have HPR := Lib.hid (own_sz ho (Below.size (show Below w1.heap.size w1 _ from by (repeat (with_reducible first | exact Below.refl _ _ | exact HBA.out | exact HBB.out | exact HBR.out | refine Below.drew ?_ | refine balR ?_ _ | refine bset ?_ _ _ (by first | exact Nat.le_refl _ | exact HBA.out.size | exact HBB.out.size | exact HBR.out.size)))))); clear ho hb))
    all_goals go_wp2
    all_goals go_meet
    all_goals
      refine ⟨_, AA, cA, AB, cB, AR, cR, rfl, ?_, ?_, ?_, ?_, ?_, ?_⟩
      · first
          | (with_reducible exact Lib.hid (blk8 KS.out _ _ _ _ _ _ _ _))
          | (with_reducible exact Lib.hid (Blk.new _ _ _))
      · first
          | (with_reducible exact Lib.hid (own_set8 (own_belowV HPA.out (by (repeat (with_reducible first | exact Below.refl _ _ | refine bstep ?_ HCA.out | refine bstep ?_ HCB.out | refine bstep ?_ HCR.out | refine Below.drew ?_ | refine balR ?_ _)))) KS.out (by decide) _ _ _ _ _ _ _ _))
          | (with_reducible exact Lib.hid (own_belowV HPA.out (by (repeat (with_reducible first | exact Below.refl _ _ | refine bstep ?_ HCA.out | refine bstep ?_ HCB.out | refine bstep ?_ HCR.out | refine Below.drew ?_ | refine balR ?_ _)))))
      · first
          | (with_reducible exact Lib.hid (own_set8 (own_belowV HPB.out (by (repeat (with_reducible first | exact Below.refl _ _ | refine bstep ?_ HCA.out | refine bstep ?_ HCB.out | refine bstep ?_ HCR.out | refine Below.drew ?_ | refine balR ?_ _)))) KS.out (by decide) _ _ _ _ _ _ _ _))
          | (with_reducible exact Lib.hid (own_belowV HPB.out (by (repeat (with_reducible first | exact Below.refl _ _ | refine bstep ?_ HCA.out | refine bstep ?_ HCB.out | refine bstep ?_ HCR.out | refine Below.drew ?_ | refine balR ?_ _)))))
      · first
          | (with_reducible exact Lib.hid (own_set8 (own_belowV HPR.out (by (repeat (with_reducible first | exact Below.refl _ _ | refine bstep ?_ HCA.out | refine bstep ?_ HCB.out | refine bstep ?_ HCR.out | refine Below.drew ?_ | refine balR ?_ _)))) KS.out (by decide) _ _ _ _ _ _ _ _))
          | (with_reducible exact Lib.hid (own_belowV HPR.out (by (repeat (with_reducible first | exact Below.refl _ _ | refine bstep ?_ HCA.out | refine bstep ?_ HCB.out | refine bstep ?_ HCR.out | refine Below.drew ?_ | refine balR ?_ _)))))
      · first
          | (with_reducible exact Lib.hid (Nat.le_refl _))
          | (with_reducible exact Lib.hid HBA.out.size)
          | (with_reducible exact Lib.hid HBB.out.size)
          | (with_reducible exact Lib.hid HBR.out.size)
      · exact Lib.hid (by (repeat (with_reducible first | exact Below.refl _ _ | exact HBA.out | exact HBB.out | exact HBR.out | refine Below.drew ?_ | refine balR ?_ _ | refine bset ?_ _ _ (by first | exact Nat.le_refl _ | exact HBA.out.size | exact HBB.out.size | exact HBR.out.size))))
  case rest =>
    obtain ⟨g4, AA, cA, AB, cB, AR, cR, rfl, HK4, HPA, HPB, HPR, HG4, HB4⟩ := hcut
    obtain ⟨w4, hw4⟩ : ∃ W, W = wc := ⟨_, rfl⟩
    rw [← hw4] at HK4 HPA HPB HPR HB4 ⊢
    clear hw4 r0 r1 r2 r3 r4 r5 r6 r7
    have HCLA4 := Lib.hid (fun W (hb : Below w4.heap.size w4 W) => HCLA.out W (HB4.out.trans (hb.mono HB4.out.size)))
    have HCLB4 := Lib.hid (fun W (hb : Below w4.heap.size w4 W) => HCLB.out W (HB4.out.trans (hb.mono HB4.out.size)))
    have SB4 := Lib.hid (fun W (hb : Below w4.heap.size w4 W) => SB.out W (HB4.out.trans (hb.mono HB4.out.size)))
    have hgl4 : g1 < w4.heap.size := Nat.lt_of_lt_of_le hgl HB4.out.size
    obtain ⟨r0, r1, r2, r3, r4, r5, r6, r7⟩ := SB4.out _ (Below.refl _ _)
    go_upto_region 2 with fail
    go_cut [5] (fun p wx => ∃ (g5 : Nat) (AC : Option Addr) (cC : Nat) (AD : Option Addr) (cD : Nat), p = .pointer (some ⟨g5, 0, none⟩) ∧ Hid (Blk wx g5 88 #[.slice AC t.colours.length cC, .slice AD t.pairs.length cD, .slice none 0 0, .slice none 0 0, .int .i64 t.start, .int .i64 t.rate, .int .i64 t.stop, .int .i64 t.hang]) ∧ Hid (wx.ownsRow w4.heap.size 3 1 (.slice AC t.colours.length cC) t.colours.length (t.colours.map (Value.int .i64))) ∧ Hid (wx.ownsRow w4.heap.size 3 1 (.slice AD t.pairs.length cD) t.pairs.length (t.pairs.map (Value.int .i64))) ∧ Hid (w4.heap.size ≤ g5) ∧ Hid (Below w4.heap.size w4 wx))
    case first =>
      skip
      clear r0 r1 r2 r3 r4 r5 r6 r7
      clear HPA HPB HPR
      go_region_held3 (fun W => W.cell? ⟨g1, 0, none⟩ = some (.slice x.a t.colours.length x.ca) ∧ W.cell? ⟨g1, 1, none⟩ = some (.slice x.b t.pairs.length x.cb) ∧ W.cell? ⟨g1, 2, none⟩ = some (.slice x.z t.zones.length x.cz) ∧ W.cell? ⟨g1, 3, none⟩ = some (.slice x.r t.ready.length x.cr) ∧ W.cell? ⟨g1, 4, none⟩ = some (.int .i64 t.start) ∧ W.cell? ⟨g1, 5, none⟩ = some (.int .i64 t.rate) ∧ W.cell? ⟨g1, 6, none⟩ = some (.int .i64 t.stop) ∧ W.cell? ⟨g1, 7, none⟩ = some (.int .i64 t.hang))
        (exact SB4.out _ (by (repeat (with_reducible first | exact Below.refl _ _ | exact HBC.out | exact HBD.out | refine Below.drew ?_ | refine balR ?_ _ | refine bset ?_ _ _ (by first | exact Nat.le_refl _ | exact HBC.out.size | exact HBD.out.size)))))
        (first
          | (go_at_call 40; with_reducible refine (HCLA4.out _ (by (repeat (with_reducible first | exact Below.refl _ _ | exact HBC.out | exact HBD.out | refine Below.drew ?_ | refine balR ?_ _ | refine bset ?_ _ _ (by first | exact Nat.le_refl _ | exact HBC.out.size | exact HBD.out.size))))).mono ?_; rintro r C ⟨AC, cC, rfl, ho, hb⟩; (first | (have kS := blkA hb; have KS := Lib.hid kS; have e0 := kS.cell 0; have f0 := kS.frozen 0; have e1 := kS.cell 1; have f1 := kS.frozen 1; have e2 := kS.cell 2; have f2 := kS.frozen 2; have e3 := kS.cell 3; have f3 := kS.frozen 3; have e4 := kS.cell 4; have f4 := kS.frozen 4; have e5 := kS.cell 5; have f5 := kS.frozen 5; have e6 := kS.cell 6; have f6 := kS.frozen 6; have e7 := kS.cell 7; have f7 := kS.frozen 7; simp at e0 e1 e2 e3 e4 e5 e6 e7; clear kS) | (have kS := blkA' hb; have KS := Lib.hid kS; have e0 := kS.cell 0; have f0 := kS.frozen 0; have e1 := kS.cell 1; have f1 := kS.frozen 1; have e2 := kS.cell 2; have f2 := kS.frozen 2; have e3 := kS.cell 3; have f3 := kS.frozen 3; have e4 := kS.cell 4; have f4 := kS.frozen 4; have e5 := kS.cell 5; have f5 := kS.frozen 5; have e6 := kS.cell 6; have f6 := kS.frozen 6; have e7 := kS.cell 7; have f7 := kS.frozen 7; simp at e0 e1 e2 e3 e4 e5 e6 e7; clear kS) | (have kS := KS.out.below (by exact hb) KS.out.lt; have KS := Lib.hid kS; clear e0 e1 e2 e3 e4 e5 e6 e7 f0 f1 f2 f3 f4 f5 f6 f7; have e0 := kS.cell 0; have f0 := kS.frozen 0; have e1 := kS.cell 1; have f1 := kS.frozen 1; have e2 := kS.cell 2; have f2 := kS.frozen 2; have e3 := kS.cell 3; have f3 := kS.frozen 3; have e4 := kS.cell 4; have f4 := kS.frozen 4; have e5 := kS.cell 5; have f5 := kS.frozen 5; have e6 := kS.cell 6; have f6 := kS.frozen 6; have e7 := kS.cell 7; have f7 := kS.frozen 7; simp at e0 e1 e2 e3 e4 e5 e6 e7; clear kS) | skip); have HBC := Lib.hid (bstep (show Below w4.heap.size w4 _ from by (repeat (with_reducible first | exact Below.refl _ _ | exact HBC.out | exact HBD.out | refine Below.drew ?_ | refine balR ?_ _ | refine bset ?_ _ _ (by first | exact Nat.le_refl _ | exact HBC.out.size | exact HBD.out.size)))) hb); have HCC := Lib.hid hb; have HPC := Lib.hid (own_sz ho (Below.size (show Below w4.heap.size w4 _ from by (repeat (with_reducible first | exact Below.refl _ _ | exact HBC.out | exact HBD.out | refine Below.drew ?_ | refine balR ?_ _ | refine bset ?_ _ _ (by first | exact Nat.le_refl _ | exact HBC.out.size | exact HBD.out.size)))))); clear ho hb)
          | (go_at_call 40; with_reducible refine (HCLB4.out _ (by (repeat (with_reducible first | exact Below.refl _ _ | exact HBC.out | exact HBD.out | refine Below.drew ?_ | refine balR ?_ _ | refine bset ?_ _ _ (by first | exact Nat.le_refl _ | exact HBC.out.size | exact HBD.out.size))))).mono ?_; rintro r D ⟨AD, cD, rfl, ho, hb⟩; (first | (have kS := blkA hb; have KS := Lib.hid kS; have e0 := kS.cell 0; have f0 := kS.frozen 0; have e1 := kS.cell 1; have f1 := kS.frozen 1; have e2 := kS.cell 2; have f2 := kS.frozen 2; have e3 := kS.cell 3; have f3 := kS.frozen 3; have e4 := kS.cell 4; have f4 := kS.frozen 4; have e5 := kS.cell 5; have f5 := kS.frozen 5; have e6 := kS.cell 6; have f6 := kS.frozen 6; have e7 := kS.cell 7; have f7 := kS.frozen 7; simp at e0 e1 e2 e3 e4 e5 e6 e7; clear kS) | (have kS := blkA' hb; have KS := Lib.hid kS; have e0 := kS.cell 0; have f0 := kS.frozen 0; have e1 := kS.cell 1; have f1 := kS.frozen 1; have e2 := kS.cell 2; have f2 := kS.frozen 2; have e3 := kS.cell 3; have f3 := kS.frozen 3; have e4 := kS.cell 4; have f4 := kS.frozen 4; have e5 := kS.cell 5; have f5 := kS.frozen 5; have e6 := kS.cell 6; have f6 := kS.frozen 6; have e7 := kS.cell 7; have f7 := kS.frozen 7; simp at e0 e1 e2 e3 e4 e5 e6 e7; clear kS) | (have kS := KS.out.below (by exact hb) KS.out.lt; have KS := Lib.hid kS; clear e0 e1 e2 e3 e4 e5 e6 e7 f0 f1 f2 f3 f4 f5 f6 f7; have e0 := kS.cell 0; have f0 := kS.frozen 0; have e1 := kS.cell 1; have f1 := kS.frozen 1; have e2 := kS.cell 2; have f2 := kS.frozen 2; have e3 := kS.cell 3; have f3 := kS.frozen 3; have e4 := kS.cell 4; have f4 := kS.frozen 4; have e5 := kS.cell 5; have f5 := kS.frozen 5; have e6 := kS.cell 6; have f6 := kS.frozen 6; have e7 := kS.cell 7; have f7 := kS.frozen 7; simp at e0 e1 e2 e3 e4 e5 e6 e7; clear kS) | skip); have HBD := Lib.hid (bstep (show Below w4.heap.size w4 _ from by (repeat (with_reducible first | exact Below.refl _ _ | exact HBC.out | exact HBD.out | refine Below.drew ?_ | refine balR ?_ _ | refine bset ?_ _ _ (by first | exact Nat.le_refl _ | exact HBC.out.size | exact HBD.out.size)))) hb); have HCD := Lib.hid hb; have HPD := Lib.hid (own_sz ho (Below.size (show Below w4.heap.size w4 _ from by (repeat (with_reducible first | exact Below.refl _ _ | exact HBC.out | exact HBD.out | refine Below.drew ?_ | refine balR ?_ _ | refine bset ?_ _ _ (by first | exact Nat.le_refl _ | exact HBC.out.size | exact HBD.out.size)))))); clear ho hb))
      all_goals go_wp2
      all_goals go_meet
      all_goals
        refine ⟨_, AC, cC, AD, cD, rfl, ?_, ?_, ?_, ?_, ?_⟩
        · first
            | (with_reducible exact Lib.hid (blk8 KS.out _ _ _ _ _ _ _ _))
            | (with_reducible exact Lib.hid (Blk.new _ _ _))
        · first
            | (with_reducible exact Lib.hid (own_set8 (own_belowV HPC.out (by (repeat (with_reducible first | exact Below.refl _ _ | refine bstep ?_ HCC.out | refine bstep ?_ HCD.out | refine Below.drew ?_ | refine balR ?_ _)))) KS.out (by decide) _ _ _ _ _ _ _ _))
            | (with_reducible exact Lib.hid (own_belowV HPC.out (by (repeat (with_reducible first | exact Below.refl _ _ | refine bstep ?_ HCC.out | refine bstep ?_ HCD.out | refine Below.drew ?_ | refine balR ?_ _)))))
        · first
            | (with_reducible exact Lib.hid (own_set8 (own_belowV HPD.out (by (repeat (with_reducible first | exact Below.refl _ _ | refine bstep ?_ HCC.out | refine bstep ?_ HCD.out | refine Below.drew ?_ | refine balR ?_ _)))) KS.out (by decide) _ _ _ _ _ _ _ _))
            | (with_reducible exact Lib.hid (own_belowV HPD.out (by (repeat (with_reducible first | exact Below.refl _ _ | refine bstep ?_ HCC.out | refine bstep ?_ HCD.out | refine Below.drew ?_ | refine balR ?_ _)))))
        · first
            | (with_reducible exact Lib.hid (Nat.le_refl _))
            | (with_reducible exact Lib.hid HBC.out.size)
            | (with_reducible exact Lib.hid HBD.out.size)
        · exact Lib.hid (by (repeat (with_reducible first | exact Below.refl _ _ | exact HBC.out | exact HBD.out | refine Below.drew ?_ | refine balR ?_ _ | refine bset ?_ _ _ (by first | exact Nat.le_refl _ | exact HBC.out.size | exact HBD.out.size))))
    case rest =>
      obtain ⟨g5, AC, cC, AD, cD, rfl, HK5, HPC, HPD, HG5, HB5⟩ := hcut
      obtain ⟨w5, hw5⟩ : ∃ W, W = wc := ⟨_, rfl⟩
      rw [← hw5] at HK5 HPC HPD HB5 ⊢
      clear hw5 r0 r1 r2 r3 r4 r5 r6 r7
      have HB15 := Lib.hid (HB4.out.trans (HB5.out.mono HB4.out.size))
      have hn : w.heap.size ≤ g1 ∧ w.heap.size ≤ g2 ∧ w.heap.size ≤ g3 ∧ w.heap.size ≤ g4 ∧ w.heap.size ≤ g5 ∧ g4 ≠ g1 ∧ g4 ≠ g2 ∧ g1 ≠ g2 ∧ g5 ≠ g3 := by
        have e1 := HG1.out
        have e2 := HG2.out
        have e3 := HG3.out
        have e4 := HG4.out
        have e5 := HG5.out
        have b1 := HB1.out.size
        have b4 := HB4.out.size
        have l1 := K1.out.lt
        have l2 := K2.out.lt
        have l3 := K3.out.lt
        omega
      have HZ0 := Lib.hid (show CpZ w w5 t x g1 g2 g3 g4 g5 ⟨AA, cA, AB, cB, none, 0, AR, cR⟩ ⟨AC, cC, AD, cD, none, 0, none, 0⟩ 0 0 [] [] none none 0 0 none 0 0 from
        ⟨HB1.out.trans (HB15.out.mono HB1.out.size), K1.out.below HB15.out K1.out.lt, K2.out.below HB15.out K2.out.lt, K3.out.below HB15.out K3.out.lt, HK4.out.below HB5.out HK4.out.lt, HK5.out, hn,
          own_sz (own_belowV HPA.out HB5.out) HB1.out.size, own_sz (own_belowV HPB.out HB5.out) HB1.out.size, own_sz (own_belowV HPR.out HB5.out) HB1.out.size, own_sz HPC.out (Nat.le_trans HB1.out.size HB4.out.size), own_sz HPD.out (Nat.le_trans HB1.out.size HB4.out.size),
          World.ownsRow_nil _ _ _ _, World.ownsRow_nil _ _ _ _, fun i h => absurd h (by simp), fun i h => absurd h (by simp), World.ownsRow_nil _ _ _ _, rfl, rfl⟩)
      obtain ⟨y1, hy1⟩ : ∃ y, y = (⟨AA, cA, AB, cB, none, 0, AR, cR⟩ : TA) := ⟨_, rfl⟩
      obtain ⟨y2, hy2⟩ : ∃ y, y = (⟨AC, cC, AD, cD, none, 0, none, 0⟩ : TA) := ⟨_, rfl⟩
      rw [← hy1, ← hy2] at HZ0
      have HN := Lib.hid hn
      clear hn hy1 hy2 HK4 HK5 HPA HPB HPR HPC HPD HCLA4 HCLB4 SB4 HCLA HCLB HCLR hgl4
      obtain ⟨-, -, r2, -, -, -, -, -⟩ := SB.out _ HB15.out
      obtain ⟨xz, hxz⟩ : ∃ a, a = x.z := ⟨_, rfl⟩
      rw [← hxz] at r2
      have HXZ := Lib.hid hxz
      clear hxz
      obtain ⟨i47, hi47, yz0, yz1, yz2⟩ := info_parts infoZonY
      have HI47 := Lib.hid hi47
      obtain ⟨i160, hi160, xz0, xz1, xz2⟩ := info_parts infoRzon
      have HI160 := Lib.hid hi160
      clear hi47 hi160
      go_wp2_with fail
      clear r2
      go_loopw [46] (fun i wr => ∃ (k : Nat) (zs1 zs2 : List ZonM) (Z1 : Option Addr) (c1 : Nat) (Z2 : Option Addr) (c2 : Nat), k ≤ t.zones.length ∧ i = .int .i64 k ∧ Hid (CpZ w wr t x g1 g2 g3 g4 g5 y1 y2 k k zs1 zs2 Z1 Z2 c1 c2 none 0 0)) (fun i _ => t.zones.length - (intOf i).toNat)
      case atStart => exact ⟨0, [], [], none, 0, none, 0, Nat.zero_le _, rfl, HZ0⟩
      case round =>
        clear HZ0
        obtain ⟨k, zs1, zs2, Z1, c1, Z2, c2, hk, rfl, HZ⟩ := hrel
        by_cases hlt : k < t.zones.length
        · skip
          have hkz : k < zs.length := by rw [HT0.out.zlen]; exact hlt
          obtain ⟨tb, to_, htz, htb, q0, q1, q2⟩ := Sl.atZon (HT0.out.below HZ.out.low).cZ hkz
          have hxz2 : xz = some ⟨tb, to_, none⟩ := HXZ.out.trans htz
          subst hxz2
          have hzk : t.zones[k]? = some zs[k].1 := by rw [← HT0.out.zeq]; simp [hkz]
          have hvl := HS5.out zs[k].1 (by rw [← HT0.out.zeq]; exact List.mem_map.2 ⟨_, List.getElem_mem hkz, rfl⟩)
          have hcv := HT0.out.cV k hkz
          obtain ⟨⟨z, zA, zc⟩, hz⟩ : ∃ z, z = zs[k] := ⟨_, rfl⟩
          rw [← hz] at q0 q1 q2 hzk hvl hcv
          dsimp only at q0 q1 q2 hzk hvl hcv
          have HZK := Lib.hid hzk
          have htb' : tb < wr.heap.size := Nat.lt_of_lt_of_le htb HZ.out.low.size
          obtain ⟨g7, hg7⟩ : ∃ g, g = wr.heap.size := ⟨_, rfl⟩
          obtain ⟨W7, hW7⟩ : ∃ W, W = wr.alloc (.cells #[.int .i64 z.copies, .int .i64 z.due, .slice zA z.variants.length zc] 47) := ⟨_, rfl⟩
          have HZ7 := Lib.hid (show CpZ w W7 t x g1 g2 g3 g4 g5 y1 y2 k k zs1 zs2 Z1 Z2 c1 c2 none 0 0 by rw [hW7]; exact HZ.out.below ((Below.refl _ _).alloc (Nat.le_refl _) _))
          have HK7 := Lib.hid (show Blk W7 g7 47 #[.int .i64 z.copies, .int .i64 z.due, .slice zA z.variants.length zc] by rw [hW7, hg7]; exact Blk.new _ _ _)
          have HR7 := Lib.hid (show ∀ j, (Value.slice Z1 k c1).ownBlock = some j → j < g7 from fun j e => by rw [hg7]; exact (HZ.out.oZ1.lt j e).2)
          have HN7 := Lib.hid (show g7 ≠ g4 from by have := HZ.out.b4.lt; omega)
          have HN75 := Lib.hid (show g7 ≠ g5 from by have := HZ.out.b5.lt; omega)
          have HW7 := Lib.hid hW7
          have HG7 := Lib.hid hg7
          have HCL0 := Lib.hid (show ∀ W, Below w.heap.size w W → Calls Try.prog 40 #[.slice zA z.variants.length zc] W fun e w' => ∃ A c, e = .returned (.slice A z.variants.length c) ∧ w'.ownsRow W.heap.size 3 1 (.slice A z.variants.length c) z.variants.length (z.variants.map (Value.int .i64)) ∧ Below W.heap.size W w' from fun W hb => cloneOwn_any zA zc z.variants W (by omega) ((hcv.below hb).mono hb.size))
          have HCL := Lib.hid (fun W (hb : Below W7.heap.size W7 W) => HCL0.out W (HZ7.out.low.trans (hb.mono HZ7.out.low.size)))
          have i0 : (0 : Int) ≤ (k : Int) := by omega
          have i1 : (k : Int) < (t.zones.length : Int) := by omega
          have hm1 : k + 1 ≤ maxLen := by simp only [maxLen]; omega
          have hm2 : (k + 1) * 40 ≤ 140737488355328 := by omega
          clear hW7 hg7 hz hzk hcv htz
          go_upto_region 6 with fail
          rw [← HW7.out, ← HG7.out]
          clear q0 q1 q2
          have SY := Lib.hid (show ∀ W, Below W7.heap.size W7 W → W.cell? ⟨g4, 2, none⟩ = some (.slice Z1 k c1) ∧ W.cell? ⟨g7, 0, none⟩ = some (.int .i64 z.copies) ∧ W.cell? ⟨g7, 1, none⟩ = some (.int .i64 z.due) ∧ W.cell? ⟨g7, 2, none⟩ = some (.slice zA z.variants.length zc) from fun W hb => by
            have h4 := (HZ7.out.below hb).b4
            have h7 := HK7.out.below hb HK7.out.lt
            exact ⟨by rw [h4.cell]; simp, by rw [h7.cell]; simp, by rw [h7.cell]; simp, by rw [h7.cell]; simp⟩)
          obtain ⟨y4, p0, p1, p2⟩ := SY.out _ (Below.refl _ _)
          have hl4 := HZ7.out.b4.lt
          have hl7 := HK7.out.lt
          have hw7 := HZ7.out.low.size
          have HAP := Lib.hid (show ∀ (W w9 : World), Below W7.heap.size W7 W → W.grownBy w9 (Value.slice Z1 k c1).ownBlock → w9.cell? ⟨g4, 2, none⟩ = some (.slice Z1 k c1) ∧ w9.frozen? ⟨g4, 2, none⟩ = false ∧ Blk w9 g7 47 #[.int .i64 z.copies, .int .i64 z.due, .slice zA z.variants.length zc] from fun W w9 hb hg => by
            have h4 := ((HZ7.out.below hb).b4).grown hg (own_blk_ne (HZ7.out.below hb).oZ1 (HZ7.out.below hb).b4 (by decide))
            exact ⟨by rw [h4.cell]; simp, h4.frozen 2, (HK7.out.below hb HK7.out.lt).grown hg (fun e => by have := HR7.out _ e.symm; omega)⟩)
          go_cut [] (fun wx => ∃ (g9 cap9 : Nat) (A9 : Option Addr) (c9 : Nat), Hid (CpZ w wx t x g1 g2 g3 g4 g5 y1 y2 (k + 1) k (zs1 ++ [(z, (A9, c9))]) zs2 (some ⟨g9, 0, none⟩) Z2 cap9 c2 none 0 0) ∧ Hid (Blk wx g7 47 #[.int .i64 z.copies, .int .i64 z.due, .slice zA z.variants.length zc]))
          case first =>
            skip
            clear p0 p1 p2
            refine wp_region_noPanic ?_
            refine wp_region_held_drew (S := (fun W => W.cell? ⟨g7, 0, none⟩ = some (.int .i64 z.copies) ∧ W.cell? ⟨g7, 1, none⟩ = some (.int .i64 z.due) ∧ W.cell? ⟨g7, 2, none⟩ = some (.slice zA z.variants.length zc))) (by kernel_rfl) ?_ (fun hHeld => ?_)
            · (try dsimp only); (first | exact hS9 | exact hT9 _ | exact (SY.out _ (by (repeat (with_reducible first | exact Below.refl _ _ | exact HB8.out | refine Below.drew ?_ | refine balR ?_ _)))).2)
            refine wpAnyH_takeE (i := 0) (v := ?_) (some 50) rfl rfl (by kernel_rfl) (by kernel_rfl) (by kernel_rfl) (fun _ _ _ h => h) (Or.inl ⟨by rfl, ?_⟩) (by assumption) ?_
            rotate_left
            · intro w hSw; (try dsimp only at hSw); go_simp; (try with_reducible rfl)
            try simp only [Act.put, List.setIfInBounds_toArray, List.set_cons_zero, List.set_cons_succ]
            refine wpAnyH_takeE (i := 2) (v := ?_) (some 52) rfl rfl (by kernel_rfl) (by kernel_rfl) (by kernel_rfl) (fun _ _ _ h => h) (Or.inl ⟨by rfl, ?_⟩) (by assumption) ?_
            rotate_left
            · intro w hSw; (try dsimp only at hSw); go_simp; (try with_reducible rfl)
            try simp only [Act.put, List.setIfInBounds_toArray, List.set_cons_zero, List.set_cons_succ]
            refine wpAnyH_takeE (i := 3) (v := ?_) (some 53) rfl rfl (by kernel_rfl) (by kernel_rfl) (by kernel_rfl) (fun _ _ _ h => h) (Or.inl ⟨by rfl, ?_⟩) (by assumption) ?_
            rotate_left
            · intro w hSw; (try dsimp only at hSw); go_simp; (try with_reducible rfl)
            try simp only [Act.put, List.setIfInBounds_toArray, List.set_cons_zero, List.set_cons_succ]
            refine wpAnyH_takeE (i := 4) (v := ?_) (some 54) rfl rfl (by kernel_rfl) (by kernel_rfl) (by kernel_rfl) (fun _ _ _ h => h) (Or.inl ⟨by rfl, ?_⟩) (by assumption) ?_
            rotate_left
            · intro w hSw; (try dsimp only at hSw); go_simp; (try with_reducible rfl)
            try simp only [Act.put, List.setIfInBounds_toArray, List.set_cons_zero, List.set_cons_succ]
            refine wpAnyH_takeE (i := 5) (v := ?_) (some 55) rfl rfl (by kernel_rfl) (by kernel_rfl) (by kernel_rfl) (fun _ _ _ h => h) (Or.inl ⟨by rfl, ?_⟩) (by assumption) ?_
            rotate_left
            · intro w hSw; (try dsimp only at hSw); go_simp; (try with_reducible rfl)
            try simp only [Act.put, List.setIfInBounds_toArray, List.set_cons_zero, List.set_cons_succ]
            refine wpAnyH_takeE (i := 6) (v := ?_) (some 56) rfl rfl (by kernel_rfl) (by kernel_rfl) (by kernel_rfl) (fun _ _ _ h => h) (Or.inl ⟨by rfl, ?_⟩) (by assumption) ?_
            rotate_left
            · intro w hSw; (try dsimp only at hSw); go_simp; (try with_reducible rfl)
            try simp only [Act.put, List.setIfInBounds_toArray, List.set_cons_zero, List.set_cons_succ]
            refine wpAnyH_takeE (i := 7) (v := ?_) (some 57) rfl rfl (by kernel_rfl) (by kernel_rfl) (by kernel_rfl) (fun _ _ _ h => h) (Or.inl ⟨by rfl, ?_⟩) (by assumption) ?_
            rotate_left
            · intro w hSw; (try dsimp only at hSw); go_simp; (try with_reducible rfl)
            try simp only [Act.put, List.setIfInBounds_toArray, List.set_cons_zero, List.set_cons_succ]
            refine wpAnyH_ready (rs := [1, 8]) (by kernel_rfl) (by simp) ?_
            refine AllReadyH.cons rfl (fun K hK => ?_) (AllReadyH.cons rfl (fun K hK => ?_) AllReadyH.nil)
            · go_simp
              refine hK.out _ _ ?_ (fun hHeld => ?_)
              · (try dsimp only); (first | exact hS9 | exact hT9 _ | exact (SY.out _ (by (repeat (with_reducible first | exact Below.refl _ _ | exact HB8.out | refine Below.drew ?_ | refine balR ?_ _)))).2)
              clear hK K
              try simp only [List.getElem_toArray, List.getElem_cons_succ, List.getElem_cons_zero]
              try simp only [Act.put, List.setIfInBounds_toArray, List.set_cons_zero, List.set_cons_succ]
              refine wpAnyH_ready (rs := [8]) (by kernel_rfl) (by simp) ?_
              refine AllReadyH.cons rfl (fun K hK => ?_) AllReadyH.nil
              (go_simp; go_at_call 40; refine (HCL.out _ (by (repeat (with_reducible first | exact Below.refl _ _ | refine Below.drew ?_ | refine balR ?_ _)))).mono ?_; rintro e w8 ⟨A9, c9, rfl, ho8, hb8⟩; have HB8 := Lib.hid (bstep (show Below W7.heap.size W7 _ from by (repeat (with_reducible first | exact Below.refl _ _ | refine Below.drew ?_ | refine balR ?_ _))) hb8); have HO8 := Lib.hid (own_sz ho8 (show w.heap.size ≤ _ from by first | exact hw7 | (simp; omega))); have hz8 := HB8.out.size; have y4 := (SY.out _ HB8.out).1; have hl4' := Nat.lt_of_lt_of_le hl4 hz8; have hl7' := Nat.lt_of_lt_of_le hl7 hz8; clear ho8 hb8; go_wp2_with fail)
              refine hK.out _ _ ?_ (fun hHeld => ?_)
              · (try dsimp only); (first | exact hS9 | exact hT9 _ | exact (SY.out _ (by (repeat (with_reducible first | exact Below.refl _ _ | exact HB8.out | refine Below.drew ?_ | refine balR ?_ _)))).2)
              clear hK K
              try simp only [List.getElem_toArray, List.getElem_cons_succ, List.getElem_cons_zero]
              try simp only [Act.put, List.setIfInBounds_toArray, List.set_cons_zero, List.set_cons_succ]
              refine wpAnyH_takeE (i := 9) (v := ?_) (some 59) rfl rfl (by kernel_rfl) (by kernel_rfl) (by kernel_rfl) (fun _ _ _ h => h) (Or.inl ⟨by rfl, ?_⟩) (by assumption) ?_
              rotate_left
              · intro w hSw; (try dsimp only at hSw); go_simp; (try with_reducible rfl)
              try simp only [Act.put, List.setIfInBounds_toArray, List.set_cons_zero, List.set_cons_succ]
              refine wpAnyH_ready (rs := [10]) (by kernel_rfl) (by simp) ?_
              refine AllReadyH.cons rfl (fun K hK => ?_) AllReadyH.nil
              go_simp
              refine hK.out _ _ ?_ (fun hHeld => ?_)
              · (try dsimp only); (first | exact hS9 | exact hT9 _ | exact (SY.out _ (by (repeat (with_reducible first | exact Below.refl _ _ | exact HB8.out | refine Below.drew ?_ | refine balR ?_ _)))).2)
              clear hK K
              try simp only [List.getElem_toArray, List.getElem_cons_succ, List.getElem_cons_zero]
              try simp only [Act.put, List.setIfInBounds_toArray, List.set_cons_zero, List.set_cons_succ]
              refine wpAnyH_ready (rs := [11]) (by kernel_rfl) (by simp) ?_
              refine AllReadyH.cons rfl (fun K hK => ?_) AllReadyH.nil
              (refine step_append_lies _ rfl (.tmp 51) (.tmp 60) 23 rfl w.heap.size 47 i47 _ 3 40 Try.underlying23 HI47.out yz0 yz1 yz2 rfl (by decide) (.slice Z1 k c1) k (zs1.flatMap encZon) (by rfl) ((HZ7.out.below (by (repeat (with_reducible first | exact HB8.out | refine Below.drew ?_ | refine balR ?_ _)))).oZ1) _ 1 1 [.int .i64 z.copies, .int .i64 z.due, .slice A9 z.variants.length c9] (by rfl) rfl (World.news_of_block (cs := #[.int .i64 z.copies, .int .i64 z.due, .slice A9 z.variants.length c9]) (t := 47) (fr := (0, 0)) (by show Blk _ _ 47 #[.int .i64 z.copies, .int .i64 z.due, .slice A9 z.variants.length c9]; repeat (first | exact Blk.new _ _ _ | refine Blk.drew ?_))) (by intro u hu; simp at hu; rcases hu with rfl | rfl | rfl <;> rfl) (by decide) hm1 hm2 (by simp; omega) _ rfl ?_; intro g9 cap9 w9 hown9 hgrow9 hat9 hlt9; have hx9 := HAP.out _ w9 (by (repeat (with_reducible first | exact HB8.out | refine Below.drew ?_ | refine balR ?_ _))) hgrow9; obtain ⟨y9, f9, hk9⟩ := hx9; have HK9 := Lib.hid hk9; have hS9 : w9.cell? ⟨g7, 0, none⟩ = some (.int .i64 z.copies) ∧ w9.cell? ⟨g7, 1, none⟩ = some (.int .i64 z.due) ∧ w9.cell? ⟨g7, 2, none⟩ = some (.slice zA z.variants.length zc) := ⟨by rw [hk9.cell]; simp, by rw [hk9.cell]; simp, by rw [hk9.cell]; simp⟩; have hT9 : ∀ u, (w9.setCell ⟨g4, 2, none⟩ u).cell? ⟨g7, 0, none⟩ = some (.int .i64 z.copies) ∧ (w9.setCell ⟨g4, 2, none⟩ u).cell? ⟨g7, 1, none⟩ = some (.int .i64 z.due) ∧ (w9.setCell ⟨g4, 2, none⟩ u).cell? ⟨g7, 2, none⟩ = some (.slice zA z.variants.length zc) := fun u => by { have hq := hk9.far (p := ⟨g4, 2, none⟩) (by exact HN7.out) u; exact ⟨by rw [hq.cell]; simp, by rw [hq.cell]; simp, by rw [hq.cell]; simp⟩ }; have HP9 := Lib.hid (CpZ.push1 (HZ7.out.below (by (repeat (with_reducible first | exact HB8.out | refine Below.drew ?_ | refine balR ?_ _)))) HZK.out (own_belowV HO8.out (by (repeat (with_reducible first | exact Below.refl _ _ | refine Below.drew ?_ | refine balR ?_ _)))) hgrow9 hown9); clear hown9 hgrow9 hat9 hk9)
              refine hK.out _ _ ?_ (fun hHeld => ?_)
              · (try dsimp only); (first | exact hS9 | exact hT9 _ | exact (SY.out _ (by (repeat (with_reducible first | exact Below.refl _ _ | exact HB8.out | refine Below.drew ?_ | refine balR ?_ _)))).2)
              clear hK K
              try simp only [List.getElem_toArray, List.getElem_cons_succ, List.getElem_cons_zero]
              try simp only [Act.put, List.setIfInBounds_toArray, List.set_cons_zero, List.set_cons_succ]
              refine wpAnyH_takeE (i := 12) (v := ?_) (some 62) rfl rfl (by kernel_rfl) (by kernel_rfl) (by kernel_rfl) (fun _ _ _ h => h) (Or.inl ⟨by rfl, ?_⟩) (by assumption) ?_
              rotate_left
              · intro w hSw; (try dsimp only at hSw); go_simp; (try with_reducible rfl)
              try simp only [Act.put, List.setIfInBounds_toArray, List.set_cons_zero, List.set_cons_succ]
              refine wpAnyH_ready (rs := [13]) (by kernel_rfl) (by simp) ?_
              refine AllReadyH.cons rfl (fun K hK => ?_) AllReadyH.nil
              go_simp
              refine hK.out _ _ ?_ (fun hHeld => ?_)
              · (try dsimp only); (first | exact hS9 | exact hT9 _ | exact (SY.out _ (by (repeat (with_reducible first | exact Below.refl _ _ | exact HB8.out | refine Below.drew ?_ | refine balR ?_ _)))).2)
              clear hK K
              try simp only [List.getElem_toArray, List.getElem_cons_succ, List.getElem_cons_zero]
              try simp only [Act.put, List.setIfInBounds_toArray, List.set_cons_zero, List.set_cons_succ]
              refine wpAnyH_done (by kernel_rfl) ?_ _
              refine NoPanic.normal ?_
              go_wp2_with fail
              go_meet
              exact ⟨g9, cap9, A9, c9, HP9, Lib.hid (HK9.out.far (p := ⟨g4, 2, none⟩) (by exact HN7.out) _)⟩
            · (go_simp; go_at_call 40; refine (HCL.out _ (by (repeat (with_reducible first | exact Below.refl _ _ | refine Below.drew ?_ | refine balR ?_ _)))).mono ?_; rintro e w8 ⟨A9, c9, rfl, ho8, hb8⟩; have HB8 := Lib.hid (bstep (show Below W7.heap.size W7 _ from by (repeat (with_reducible first | exact Below.refl _ _ | refine Below.drew ?_ | refine balR ?_ _))) hb8); have HO8 := Lib.hid (own_sz ho8 (show w.heap.size ≤ _ from by first | exact hw7 | (simp; omega))); have hz8 := HB8.out.size; have y4 := (SY.out _ HB8.out).1; have hl4' := Nat.lt_of_lt_of_le hl4 hz8; have hl7' := Nat.lt_of_lt_of_le hl7 hz8; clear ho8 hb8; go_wp2_with fail)
              refine hK.out _ _ ?_ (fun hHeld => ?_)
              · (try dsimp only); (first | exact hS9 | exact hT9 _ | exact (SY.out _ (by (repeat (with_reducible first | exact Below.refl _ _ | exact HB8.out | refine Below.drew ?_ | refine balR ?_ _)))).2)
              clear hK K
              try simp only [List.getElem_toArray, List.getElem_cons_succ, List.getElem_cons_zero]
              try simp only [Act.put, List.setIfInBounds_toArray, List.set_cons_zero, List.set_cons_succ]
              refine wpAnyH_takeE (i := 9) (v := ?_) (some 59) rfl rfl (by kernel_rfl) (by kernel_rfl) (by kernel_rfl) (fun _ _ _ h => h) (Or.inl ⟨by rfl, ?_⟩) (by assumption) ?_
              rotate_left
              · intro w hSw; (try dsimp only at hSw); go_simp; (try with_reducible rfl)
              try simp only [Act.put, List.setIfInBounds_toArray, List.set_cons_zero, List.set_cons_succ]
              refine wpAnyH_ready (rs := [1, 10]) (by kernel_rfl) (by simp) ?_
              refine AllReadyH.cons rfl (fun K hK => ?_) (AllReadyH.cons rfl (fun K hK => ?_) AllReadyH.nil)
              · go_simp
                refine hK.out _ _ ?_ (fun hHeld => ?_)
                · (try dsimp only); (first | exact hS9 | exact hT9 _ | exact (SY.out _ (by (repeat (with_reducible first | exact Below.refl _ _ | exact HB8.out | refine Below.drew ?_ | refine balR ?_ _)))).2)
                clear hK K
                try simp only [List.getElem_toArray, List.getElem_cons_succ, List.getElem_cons_zero]
                try simp only [Act.put, List.setIfInBounds_toArray, List.set_cons_zero, List.set_cons_succ]
                refine wpAnyH_ready (rs := [10]) (by kernel_rfl) (by simp) ?_
                refine AllReadyH.cons rfl (fun K hK => ?_) AllReadyH.nil
                go_simp
                refine hK.out _ _ ?_ (fun hHeld => ?_)
                · (try dsimp only); (first | exact hS9 | exact hT9 _ | exact (SY.out _ (by (repeat (with_reducible first | exact Below.refl _ _ | exact HB8.out | refine Below.drew ?_ | refine balR ?_ _)))).2)
                clear hK K
                try simp only [List.getElem_toArray, List.getElem_cons_succ, List.getElem_cons_zero]
                try simp only [Act.put, List.setIfInBounds_toArray, List.set_cons_zero, List.set_cons_succ]
                refine wpAnyH_ready (rs := [11]) (by kernel_rfl) (by simp) ?_
                refine AllReadyH.cons rfl (fun K hK => ?_) AllReadyH.nil
                (refine step_append_lies _ rfl (.tmp 51) (.tmp 60) 23 rfl w.heap.size 47 i47 _ 3 40 Try.underlying23 HI47.out yz0 yz1 yz2 rfl (by decide) (.slice Z1 k c1) k (zs1.flatMap encZon) (by rfl) ((HZ7.out.below (by (repeat (with_reducible first | exact HB8.out | refine Below.drew ?_ | refine balR ?_ _)))).oZ1) _ 1 1 [.int .i64 z.copies, .int .i64 z.due, .slice A9 z.variants.length c9] (by rfl) rfl (World.news_of_block (cs := #[.int .i64 z.copies, .int .i64 z.due, .slice A9 z.variants.length c9]) (t := 47) (fr := (0, 0)) (by show Blk _ _ 47 #[.int .i64 z.copies, .int .i64 z.due, .slice A9 z.variants.length c9]; repeat (first | exact Blk.new _ _ _ | refine Blk.drew ?_))) (by intro u hu; simp at hu; rcases hu with rfl | rfl | rfl <;> rfl) (by decide) hm1 hm2 (by simp; omega) _ rfl ?_; intro g9 cap9 w9 hown9 hgrow9 hat9 hlt9; have hx9 := HAP.out _ w9 (by (repeat (with_reducible first | exact HB8.out | refine Below.drew ?_ | refine balR ?_ _))) hgrow9; obtain ⟨y9, f9, hk9⟩ := hx9; have HK9 := Lib.hid hk9; have hS9 : w9.cell? ⟨g7, 0, none⟩ = some (.int .i64 z.copies) ∧ w9.cell? ⟨g7, 1, none⟩ = some (.int .i64 z.due) ∧ w9.cell? ⟨g7, 2, none⟩ = some (.slice zA z.variants.length zc) := ⟨by rw [hk9.cell]; simp, by rw [hk9.cell]; simp, by rw [hk9.cell]; simp⟩; have hT9 : ∀ u, (w9.setCell ⟨g4, 2, none⟩ u).cell? ⟨g7, 0, none⟩ = some (.int .i64 z.copies) ∧ (w9.setCell ⟨g4, 2, none⟩ u).cell? ⟨g7, 1, none⟩ = some (.int .i64 z.due) ∧ (w9.setCell ⟨g4, 2, none⟩ u).cell? ⟨g7, 2, none⟩ = some (.slice zA z.variants.length zc) := fun u => by { have hq := hk9.far (p := ⟨g4, 2, none⟩) (by exact HN7.out) u; exact ⟨by rw [hq.cell]; simp, by rw [hq.cell]; simp, by rw [hq.cell]; simp⟩ }; have HP9 := Lib.hid (CpZ.push1 (HZ7.out.below (by (repeat (with_reducible first | exact HB8.out | refine Below.drew ?_ | refine balR ?_ _)))) HZK.out (own_belowV HO8.out (by (repeat (with_reducible first | exact Below.refl _ _ | refine Below.drew ?_ | refine balR ?_ _)))) hgrow9 hown9); clear hown9 hgrow9 hat9 hk9)
                refine hK.out _ _ ?_ (fun hHeld => ?_)
                · (try dsimp only); (first | exact hS9 | exact hT9 _ | exact (SY.out _ (by (repeat (with_reducible first | exact Below.refl _ _ | exact HB8.out | refine Below.drew ?_ | refine balR ?_ _)))).2)
                clear hK K
                try simp only [List.getElem_toArray, List.getElem_cons_succ, List.getElem_cons_zero]
                try simp only [Act.put, List.setIfInBounds_toArray, List.set_cons_zero, List.set_cons_succ]
                refine wpAnyH_takeE (i := 12) (v := ?_) (some 62) rfl rfl (by kernel_rfl) (by kernel_rfl) (by kernel_rfl) (fun _ _ _ h => h) (Or.inl ⟨by rfl, ?_⟩) (by assumption) ?_
                rotate_left
                · intro w hSw; (try dsimp only at hSw); go_simp; (try with_reducible rfl)
                try simp only [Act.put, List.setIfInBounds_toArray, List.set_cons_zero, List.set_cons_succ]
                refine wpAnyH_ready (rs := [13]) (by kernel_rfl) (by simp) ?_
                refine AllReadyH.cons rfl (fun K hK => ?_) AllReadyH.nil
                go_simp
                refine hK.out _ _ ?_ (fun hHeld => ?_)
                · (try dsimp only); (first | exact hS9 | exact hT9 _ | exact (SY.out _ (by (repeat (with_reducible first | exact Below.refl _ _ | exact HB8.out | refine Below.drew ?_ | refine balR ?_ _)))).2)
                clear hK K
                try simp only [List.getElem_toArray, List.getElem_cons_succ, List.getElem_cons_zero]
                try simp only [Act.put, List.setIfInBounds_toArray, List.set_cons_zero, List.set_cons_succ]
                refine wpAnyH_done (by kernel_rfl) ?_ _
                refine NoPanic.normal ?_
                go_wp2_with fail
                go_meet
                exact ⟨g9, cap9, A9, c9, HP9, Lib.hid (HK9.out.far (p := ⟨g4, 2, none⟩) (by exact HN7.out) _)⟩
              · go_simp
                refine hK.out _ _ ?_ (fun hHeld => ?_)
                · (try dsimp only); (first | exact hS9 | exact hT9 _ | exact (SY.out _ (by (repeat (with_reducible first | exact Below.refl _ _ | exact HB8.out | refine Below.drew ?_ | refine balR ?_ _)))).2)
                clear hK K
                try simp only [List.getElem_toArray, List.getElem_cons_succ, List.getElem_cons_zero]
                try simp only [Act.put, List.setIfInBounds_toArray, List.set_cons_zero, List.set_cons_succ]
                refine wpAnyH_ready (rs := [1]) (by kernel_rfl) (by simp) ?_
                refine AllReadyH.cons rfl (fun K hK => ?_) AllReadyH.nil
                go_simp
                refine hK.out _ _ ?_ (fun hHeld => ?_)
                · (try dsimp only); (first | exact hS9 | exact hT9 _ | exact (SY.out _ (by (repeat (with_reducible first | exact Below.refl _ _ | exact HB8.out | refine Below.drew ?_ | refine balR ?_ _)))).2)
                clear hK K
                try simp only [List.getElem_toArray, List.getElem_cons_succ, List.getElem_cons_zero]
                try simp only [Act.put, List.setIfInBounds_toArray, List.set_cons_zero, List.set_cons_succ]
                refine wpAnyH_ready (rs := [11]) (by kernel_rfl) (by simp) ?_
                refine AllReadyH.cons rfl (fun K hK => ?_) AllReadyH.nil
                (refine step_append_lies _ rfl (.tmp 51) (.tmp 60) 23 rfl w.heap.size 47 i47 _ 3 40 Try.underlying23 HI47.out yz0 yz1 yz2 rfl (by decide) (.slice Z1 k c1) k (zs1.flatMap encZon) (by rfl) ((HZ7.out.below (by (repeat (with_reducible first | exact HB8.out | refine Below.drew ?_ | refine balR ?_ _)))).oZ1) _ 1 1 [.int .i64 z.copies, .int .i64 z.due, .slice A9 z.variants.length c9] (by rfl) rfl (World.news_of_block (cs := #[.int .i64 z.copies, .int .i64 z.due, .slice A9 z.variants.length c9]) (t := 47) (fr := (0, 0)) (by show Blk _ _ 47 #[.int .i64 z.copies, .int .i64 z.due, .slice A9 z.variants.length c9]; repeat (first | exact Blk.new _ _ _ | refine Blk.drew ?_))) (by intro u hu; simp at hu; rcases hu with rfl | rfl | rfl <;> rfl) (by decide) hm1 hm2 (by simp; omega) _ rfl ?_; intro g9 cap9 w9 hown9 hgrow9 hat9 hlt9; have hx9 := HAP.out _ w9 (by (repeat (with_reducible first | exact HB8.out | refine Below.drew ?_ | refine balR ?_ _))) hgrow9; obtain ⟨y9, f9, hk9⟩ := hx9; have HK9 := Lib.hid hk9; have hS9 : w9.cell? ⟨g7, 0, none⟩ = some (.int .i64 z.copies) ∧ w9.cell? ⟨g7, 1, none⟩ = some (.int .i64 z.due) ∧ w9.cell? ⟨g7, 2, none⟩ = some (.slice zA z.variants.length zc) := ⟨by rw [hk9.cell]; simp, by rw [hk9.cell]; simp, by rw [hk9.cell]; simp⟩; have hT9 : ∀ u, (w9.setCell ⟨g4, 2, none⟩ u).cell? ⟨g7, 0, none⟩ = some (.int .i64 z.copies) ∧ (w9.setCell ⟨g4, 2, none⟩ u).cell? ⟨g7, 1, none⟩ = some (.int .i64 z.due) ∧ (w9.setCell ⟨g4, 2, none⟩ u).cell? ⟨g7, 2, none⟩ = some (.slice zA z.variants.length zc) := fun u => by { have hq := hk9.far (p := ⟨g4, 2, none⟩) (by exact HN7.out) u; exact ⟨by rw [hq.cell]; simp, by rw [hq.cell]; simp, by rw [hq.cell]; simp⟩ }; have HP9 := Lib.hid (CpZ.push1 (HZ7.out.below (by (repeat (with_reducible first | exact HB8.out | refine Below.drew ?_ | refine balR ?_ _)))) HZK.out (own_belowV HO8.out (by (repeat (with_reducible first | exact Below.refl _ _ | refine Below.drew ?_ | refine balR ?_ _)))) hgrow9 hown9); clear hown9 hgrow9 hat9 hk9)
                refine hK.out _ _ ?_ (fun hHeld => ?_)
                · (try dsimp only); (first | exact hS9 | exact hT9 _ | exact (SY.out _ (by (repeat (with_reducible first | exact Below.refl _ _ | exact HB8.out | refine Below.drew ?_ | refine balR ?_ _)))).2)
                clear hK K
                try simp only [List.getElem_toArray, List.getElem_cons_succ, List.getElem_cons_zero]
                try simp only [Act.put, List.setIfInBounds_toArray, List.set_cons_zero, List.set_cons_succ]
                refine wpAnyH_takeE (i := 12) (v := ?_) (some 62) rfl rfl (by kernel_rfl) (by kernel_rfl) (by kernel_rfl) (fun _ _ _ h => h) (Or.inl ⟨by rfl, ?_⟩) (by assumption) ?_
                rotate_left
                · intro w hSw; (try dsimp only at hSw); go_simp; (try with_reducible rfl)
                try simp only [Act.put, List.setIfInBounds_toArray, List.set_cons_zero, List.set_cons_succ]
                refine wpAnyH_ready (rs := [13]) (by kernel_rfl) (by simp) ?_
                refine AllReadyH.cons rfl (fun K hK => ?_) AllReadyH.nil
                go_simp
                refine hK.out _ _ ?_ (fun hHeld => ?_)
                · (try dsimp only); (first | exact hS9 | exact hT9 _ | exact (SY.out _ (by (repeat (with_reducible first | exact Below.refl _ _ | exact HB8.out | refine Below.drew ?_ | refine balR ?_ _)))).2)
                clear hK K
                try simp only [List.getElem_toArray, List.getElem_cons_succ, List.getElem_cons_zero]
                try simp only [Act.put, List.setIfInBounds_toArray, List.set_cons_zero, List.set_cons_succ]
                refine wpAnyH_done (by kernel_rfl) ?_ _
                refine NoPanic.normal ?_
                go_wp2_with fail
                go_meet
                exact ⟨g9, cap9, A9, c9, HP9, Lib.hid (HK9.out.far (p := ⟨g4, 2, none⟩) (by exact HN7.out) _)⟩
          case rest =>
            skip
            obtain ⟨gA, capA, AA1, cc1, HZ8, HK8⟩ := hcut
            obtain ⟨W8, hW8⟩ : ∃ W, W = wc := ⟨_, rfl⟩
            rw [← hW8] at HZ8 HK8 ⊢
            clear hW8 y4 p0 p1 p2 SY HZ7 HK7 HAP hl4 hl7 hw7 HW7 HR7 HCL
            obtain ⟨zs1', hzs1⟩ : ∃ l, l = zs1 ++ [(z, (AA1, cc1))] := ⟨_, rfl⟩
            rw [← hzs1] at HZ8
            clear hzs1
            obtain ⟨W7, hW7⟩ : ∃ W, W = W8 := ⟨_, rfl⟩
            rw [← hW7] at HZ8 HK8 ⊢
            clear hW7
            have HZ7 := HZ8
            have HK7 := HK8
            have hg7 := HG7.out
            have HCL := Lib.hid (fun W (hb : Below W7.heap.size W7 W) => HCL0.out W (HZ7.out.low.trans (hb.mono HZ7.out.low.size)))
            have HR7 := Lib.hid (show ∀ j, (Value.slice Z2 k c2).ownBlock = some j → j < g7 from fun j e => by rw [hg7]; exact (HZ.out.oZ2.lt j e).2)
            clear hg7 HZ8 HK8 HZ
            go_upto_region 7 with fail
            have SY := Lib.hid (show ∀ W, Below W7.heap.size W7 W → W.cell? ⟨g5, 2, none⟩ = some (.slice Z2 k c2) ∧ W.cell? ⟨g7, 0, none⟩ = some (.int .i64 z.copies) ∧ W.cell? ⟨g7, 1, none⟩ = some (.int .i64 z.due) ∧ W.cell? ⟨g7, 2, none⟩ = some (.slice zA z.variants.length zc) from fun W hb => by
              have h4 := (HZ7.out.below hb).b5
              have h7 := HK7.out.below hb HK7.out.lt
              exact ⟨by rw [h4.cell]; simp, by rw [h7.cell]; simp, by rw [h7.cell]; simp, by rw [h7.cell]; simp⟩)
            obtain ⟨y4, p0, p1, p2⟩ := SY.out _ (Below.refl _ _)
            have hl5 := HZ7.out.b5.lt
            have hl7 := HK7.out.lt
            have hw7 := HZ7.out.low.size
            have HAP := Lib.hid (show ∀ (W w9 : World), Below W7.heap.size W7 W → W.grownBy w9 (Value.slice Z2 k c2).ownBlock → w9.cell? ⟨g5, 2, none⟩ = some (.slice Z2 k c2) ∧ w9.frozen? ⟨g5, 2, none⟩ = false ∧ Blk w9 g7 47 #[.int .i64 z.copies, .int .i64 z.due, .slice zA z.variants.length zc] from fun W w9 hb hg => by
              have h4 := ((HZ7.out.below hb).b5).grown hg (own_blk_ne (HZ7.out.below hb).oZ2 (HZ7.out.below hb).b5 (by decide))
              exact ⟨by rw [h4.cell]; simp, h4.frozen 2, (HK7.out.below hb HK7.out.lt).grown hg (fun e => by have := HR7.out _ e.symm; omega)⟩)
            clear p0 p1 p2
            refine wp_region_noPanic ?_
            refine wp_region_held_drew (S := (fun W => W.cell? ⟨g7, 0, none⟩ = some (.int .i64 z.copies) ∧ W.cell? ⟨g7, 1, none⟩ = some (.int .i64 z.due) ∧ W.cell? ⟨g7, 2, none⟩ = some (.slice zA z.variants.length zc))) (by kernel_rfl) ?_ (fun hHeld => ?_)
            · (try dsimp only); (first | exact hS9 | exact hT9 _ | exact (SY.out _ (by (repeat (with_reducible first | exact Below.refl _ _ | exact HB8.out | refine Below.drew ?_ | refine balR ?_ _)))).2)
            refine wpAnyH_takeE (i := 0) (v := ?_) (some 63) rfl rfl (by kernel_rfl) (by kernel_rfl) (by kernel_rfl) (fun _ _ _ h => h) (Or.inl ⟨by rfl, ?_⟩) (by assumption) ?_
            rotate_left
            · intro w hSw; (try dsimp only at hSw); go_simp; (try with_reducible rfl)
            try simp only [Act.put, List.setIfInBounds_toArray, List.set_cons_zero, List.set_cons_succ]
            refine wpAnyH_takeE (i := 2) (v := ?_) (some 65) rfl rfl (by kernel_rfl) (by kernel_rfl) (by kernel_rfl) (fun _ _ _ h => h) (Or.inl ⟨by rfl, ?_⟩) (by assumption) ?_
            rotate_left
            · intro w hSw; (try dsimp only at hSw); go_simp; (try with_reducible rfl)
            try simp only [Act.put, List.setIfInBounds_toArray, List.set_cons_zero, List.set_cons_succ]
            refine wpAnyH_takeE (i := 3) (v := ?_) (some 66) rfl rfl (by kernel_rfl) (by kernel_rfl) (by kernel_rfl) (fun _ _ _ h => h) (Or.inl ⟨by rfl, ?_⟩) (by assumption) ?_
            rotate_left
            · intro w hSw; (try dsimp only at hSw); go_simp; (try with_reducible rfl)
            try simp only [Act.put, List.setIfInBounds_toArray, List.set_cons_zero, List.set_cons_succ]
            refine wpAnyH_takeE (i := 4) (v := ?_) (some 67) rfl rfl (by kernel_rfl) (by kernel_rfl) (by kernel_rfl) (fun _ _ _ h => h) (Or.inl ⟨by rfl, ?_⟩) (by assumption) ?_
            rotate_left
            · intro w hSw; (try dsimp only at hSw); go_simp; (try with_reducible rfl)
            try simp only [Act.put, List.setIfInBounds_toArray, List.set_cons_zero, List.set_cons_succ]
            refine wpAnyH_takeE (i := 5) (v := ?_) (some 68) rfl rfl (by kernel_rfl) (by kernel_rfl) (by kernel_rfl) (fun _ _ _ h => h) (Or.inl ⟨by rfl, ?_⟩) (by assumption) ?_
            rotate_left
            · intro w hSw; (try dsimp only at hSw); go_simp; (try with_reducible rfl)
            try simp only [Act.put, List.setIfInBounds_toArray, List.set_cons_zero, List.set_cons_succ]
            refine wpAnyH_takeE (i := 6) (v := ?_) (some 69) rfl rfl (by kernel_rfl) (by kernel_rfl) (by kernel_rfl) (fun _ _ _ h => h) (Or.inl ⟨by rfl, ?_⟩) (by assumption) ?_
            rotate_left
            · intro w hSw; (try dsimp only at hSw); go_simp; (try with_reducible rfl)
            try simp only [Act.put, List.setIfInBounds_toArray, List.set_cons_zero, List.set_cons_succ]
            refine wpAnyH_takeE (i := 7) (v := ?_) (some 70) rfl rfl (by kernel_rfl) (by kernel_rfl) (by kernel_rfl) (fun _ _ _ h => h) (Or.inl ⟨by rfl, ?_⟩) (by assumption) ?_
            rotate_left
            · intro w hSw; (try dsimp only at hSw); go_simp; (try with_reducible rfl)
            try simp only [Act.put, List.setIfInBounds_toArray, List.set_cons_zero, List.set_cons_succ]
            refine wpAnyH_ready (rs := [1, 8]) (by kernel_rfl) (by simp) ?_
            refine AllReadyH.cons rfl (fun K hK => ?_) (AllReadyH.cons rfl (fun K hK => ?_) AllReadyH.nil)
            · go_simp
              refine hK.out _ _ ?_ (fun hHeld => ?_)
              · (try dsimp only); (first | exact hS9 | exact hT9 _ | exact (SY.out _ (by (repeat (with_reducible first | exact Below.refl _ _ | exact HB8.out | refine Below.drew ?_ | refine balR ?_ _)))).2)
              clear hK K
              try simp only [List.getElem_toArray, List.getElem_cons_succ, List.getElem_cons_zero]
              try simp only [Act.put, List.setIfInBounds_toArray, List.set_cons_zero, List.set_cons_succ]
              refine wpAnyH_ready (rs := [8]) (by kernel_rfl) (by simp) ?_
              refine AllReadyH.cons rfl (fun K hK => ?_) AllReadyH.nil
              (go_simp; go_at_call 40; refine (HCL.out _ (by (repeat (with_reducible first | exact Below.refl _ _ | refine Below.drew ?_ | refine balR ?_ _)))).mono ?_; rintro e w8 ⟨A9, c9, rfl, ho8, hb8⟩; have HB8 := Lib.hid (bstep (show Below W7.heap.size W7 _ from by (repeat (with_reducible first | exact Below.refl _ _ | refine Below.drew ?_ | refine balR ?_ _))) hb8); have HO8 := Lib.hid (own_sz ho8 (show w.heap.size ≤ _ from by first | exact hw7 | (simp; omega))); have hz8 := HB8.out.size; have y4 := (SY.out _ HB8.out).1; have hl5' := Nat.lt_of_lt_of_le hl5 hz8; have hl7' := Nat.lt_of_lt_of_le hl7 hz8; clear ho8 hb8; go_wp2_with fail)
              refine hK.out _ _ ?_ (fun hHeld => ?_)
              · (try dsimp only); (first | exact hS9 | exact hT9 _ | exact (SY.out _ (by (repeat (with_reducible first | exact Below.refl _ _ | exact HB8.out | refine Below.drew ?_ | refine balR ?_ _)))).2)
              clear hK K
              try simp only [List.getElem_toArray, List.getElem_cons_succ, List.getElem_cons_zero]
              try simp only [Act.put, List.setIfInBounds_toArray, List.set_cons_zero, List.set_cons_succ]
              refine wpAnyH_takeE (i := 9) (v := ?_) (some 72) rfl rfl (by kernel_rfl) (by kernel_rfl) (by kernel_rfl) (fun _ _ _ h => h) (Or.inl ⟨by rfl, ?_⟩) (by assumption) ?_
              rotate_left
              · intro w hSw; (try dsimp only at hSw); go_simp; (try with_reducible rfl)
              try simp only [Act.put, List.setIfInBounds_toArray, List.set_cons_zero, List.set_cons_succ]
              refine wpAnyH_ready (rs := [10]) (by kernel_rfl) (by simp) ?_
              refine AllReadyH.cons rfl (fun K hK => ?_) AllReadyH.nil
              go_simp
              refine hK.out _ _ ?_ (fun hHeld => ?_)
              · (try dsimp only); (first | exact hS9 | exact hT9 _ | exact (SY.out _ (by (repeat (with_reducible first | exact Below.refl _ _ | exact HB8.out | refine Below.drew ?_ | refine balR ?_ _)))).2)
              clear hK K
              try simp only [List.getElem_toArray, List.getElem_cons_succ, List.getElem_cons_zero]
              try simp only [Act.put, List.setIfInBounds_toArray, List.set_cons_zero, List.set_cons_succ]
              refine wpAnyH_ready (rs := [11]) (by kernel_rfl) (by simp) ?_
              refine AllReadyH.cons rfl (fun K hK => ?_) AllReadyH.nil
              (refine step_append_lies _ rfl (.tmp 64) (.tmp 73) 85 rfl w.heap.size 160 i160 _ 3 40 Try.underlying85 HI160.out xz0 xz1 xz2 rfl (by decide) (.slice Z2 k c2) k (zs2.flatMap encZon) (by rfl) ((HZ7.out.below (by (repeat (with_reducible first | exact HB8.out | refine Below.drew ?_ | refine balR ?_ _)))).oZ2) _ 1 1 [.int .i64 z.copies, .int .i64 z.due, .slice A9 z.variants.length c9] (by rfl) rfl (World.news_of_block (cs := #[.int .i64 z.copies, .int .i64 z.due, .slice A9 z.variants.length c9]) (t := 160) (fr := (0, 0)) (by show Blk _ _ 160 #[.int .i64 z.copies, .int .i64 z.due, .slice A9 z.variants.length c9]; repeat (first | exact Blk.new _ _ _ | refine Blk.drew ?_))) (by intro u hu; simp at hu; rcases hu with rfl | rfl | rfl <;> rfl) (by decide) hm1 hm2 (by simp; omega) _ rfl ?_; intro g9 cap9 w9 hown9 hgrow9 hat9 hlt9; have hx9 := HAP.out _ w9 (by (repeat (with_reducible first | exact HB8.out | refine Below.drew ?_ | refine balR ?_ _))) hgrow9; obtain ⟨y9, f9, hk9⟩ := hx9; have HK9 := Lib.hid hk9; have hS9 : w9.cell? ⟨g7, 0, none⟩ = some (.int .i64 z.copies) ∧ w9.cell? ⟨g7, 1, none⟩ = some (.int .i64 z.due) ∧ w9.cell? ⟨g7, 2, none⟩ = some (.slice zA z.variants.length zc) := ⟨by rw [hk9.cell]; simp, by rw [hk9.cell]; simp, by rw [hk9.cell]; simp⟩; have hT9 : ∀ u, (w9.setCell ⟨g5, 2, none⟩ u).cell? ⟨g7, 0, none⟩ = some (.int .i64 z.copies) ∧ (w9.setCell ⟨g5, 2, none⟩ u).cell? ⟨g7, 1, none⟩ = some (.int .i64 z.due) ∧ (w9.setCell ⟨g5, 2, none⟩ u).cell? ⟨g7, 2, none⟩ = some (.slice zA z.variants.length zc) := fun u => by { have hq := hk9.far (p := ⟨g5, 2, none⟩) (by exact HN75.out) u; exact ⟨by rw [hq.cell]; simp, by rw [hq.cell]; simp, by rw [hq.cell]; simp⟩ }; have HP9 := Lib.hid (CpZ.push2 (HZ7.out.below (by (repeat (with_reducible first | exact HB8.out | refine Below.drew ?_ | refine balR ?_ _)))) HZK.out (own_belowV HO8.out (by (repeat (with_reducible first | exact Below.refl _ _ | refine Below.drew ?_ | refine balR ?_ _)))) hgrow9 hown9); clear hown9 hgrow9 hat9 hk9)
              refine hK.out _ _ ?_ (fun hHeld => ?_)
              · (try dsimp only); (first | exact hS9 | exact hT9 _ | exact (SY.out _ (by (repeat (with_reducible first | exact Below.refl _ _ | exact HB8.out | refine Below.drew ?_ | refine balR ?_ _)))).2)
              clear hK K
              try simp only [List.getElem_toArray, List.getElem_cons_succ, List.getElem_cons_zero]
              try simp only [Act.put, List.setIfInBounds_toArray, List.set_cons_zero, List.set_cons_succ]
              refine wpAnyH_takeE (i := 12) (v := ?_) (some 75) rfl rfl (by kernel_rfl) (by kernel_rfl) (by kernel_rfl) (fun _ _ _ h => h) (Or.inl ⟨by rfl, ?_⟩) (by assumption) ?_
              rotate_left
              · intro w hSw; (try dsimp only at hSw); go_simp; (try with_reducible rfl)
              try simp only [Act.put, List.setIfInBounds_toArray, List.set_cons_zero, List.set_cons_succ]
              refine wpAnyH_ready (rs := [13]) (by kernel_rfl) (by simp) ?_
              refine AllReadyH.cons rfl (fun K hK => ?_) AllReadyH.nil
              go_simp
              refine hK.out _ _ ?_ (fun hHeld => ?_)
              · (try dsimp only); (first | exact hS9 | exact hT9 _ | exact (SY.out _ (by (repeat (with_reducible first | exact Below.refl _ _ | exact HB8.out | refine Below.drew ?_ | refine balR ?_ _)))).2)
              clear hK K
              try simp only [List.getElem_toArray, List.getElem_cons_succ, List.getElem_cons_zero]
              try simp only [Act.put, List.setIfInBounds_toArray, List.set_cons_zero, List.set_cons_succ]
              refine wpAnyH_done (by kernel_rfl) ?_ _
              refine NoPanic.normal ?_
              go_wp2_with fail
              go_roundw
              case rel => exact ⟨k + 1, zs1', zs2 ++ [(z, (A9, c9))], some ⟨gA, 0, none⟩, capA, some ⟨g9, 0, none⟩, cap9, by omega, by go_num, HP9⟩
              case measure => simp [intOf]; omega
            · (go_simp; go_at_call 40; refine (HCL.out _ (by (repeat (with_reducible first | exact Below.refl _ _ | refine Below.drew ?_ | refine balR ?_ _)))).mono ?_; rintro e w8 ⟨A9, c9, rfl, ho8, hb8⟩; have HB8 := Lib.hid (bstep (show Below W7.heap.size W7 _ from by (repeat (with_reducible first | exact Below.refl _ _ | refine Below.drew ?_ | refine balR ?_ _))) hb8); have HO8 := Lib.hid (own_sz ho8 (show w.heap.size ≤ _ from by first | exact hw7 | (simp; omega))); have hz8 := HB8.out.size; have y4 := (SY.out _ HB8.out).1; have hl5' := Nat.lt_of_lt_of_le hl5 hz8; have hl7' := Nat.lt_of_lt_of_le hl7 hz8; clear ho8 hb8; go_wp2_with fail)
              refine hK.out _ _ ?_ (fun hHeld => ?_)
              · (try dsimp only); (first | exact hS9 | exact hT9 _ | exact (SY.out _ (by (repeat (with_reducible first | exact Below.refl _ _ | exact HB8.out | refine Below.drew ?_ | refine balR ?_ _)))).2)
              clear hK K
              try simp only [List.getElem_toArray, List.getElem_cons_succ, List.getElem_cons_zero]
              try simp only [Act.put, List.setIfInBounds_toArray, List.set_cons_zero, List.set_cons_succ]
              refine wpAnyH_takeE (i := 9) (v := ?_) (some 72) rfl rfl (by kernel_rfl) (by kernel_rfl) (by kernel_rfl) (fun _ _ _ h => h) (Or.inl ⟨by rfl, ?_⟩) (by assumption) ?_
              rotate_left
              · intro w hSw; (try dsimp only at hSw); go_simp; (try with_reducible rfl)
              try simp only [Act.put, List.setIfInBounds_toArray, List.set_cons_zero, List.set_cons_succ]
              refine wpAnyH_ready (rs := [1, 10]) (by kernel_rfl) (by simp) ?_
              refine AllReadyH.cons rfl (fun K hK => ?_) (AllReadyH.cons rfl (fun K hK => ?_) AllReadyH.nil)
              · go_simp
                refine hK.out _ _ ?_ (fun hHeld => ?_)
                · (try dsimp only); (first | exact hS9 | exact hT9 _ | exact (SY.out _ (by (repeat (with_reducible first | exact Below.refl _ _ | exact HB8.out | refine Below.drew ?_ | refine balR ?_ _)))).2)
                clear hK K
                try simp only [List.getElem_toArray, List.getElem_cons_succ, List.getElem_cons_zero]
                try simp only [Act.put, List.setIfInBounds_toArray, List.set_cons_zero, List.set_cons_succ]
                refine wpAnyH_ready (rs := [10]) (by kernel_rfl) (by simp) ?_
                refine AllReadyH.cons rfl (fun K hK => ?_) AllReadyH.nil
                go_simp
                refine hK.out _ _ ?_ (fun hHeld => ?_)
                · (try dsimp only); (first | exact hS9 | exact hT9 _ | exact (SY.out _ (by (repeat (with_reducible first | exact Below.refl _ _ | exact HB8.out | refine Below.drew ?_ | refine balR ?_ _)))).2)
                clear hK K
                try simp only [List.getElem_toArray, List.getElem_cons_succ, List.getElem_cons_zero]
                try simp only [Act.put, List.setIfInBounds_toArray, List.set_cons_zero, List.set_cons_succ]
                refine wpAnyH_ready (rs := [11]) (by kernel_rfl) (by simp) ?_
                refine AllReadyH.cons rfl (fun K hK => ?_) AllReadyH.nil
                (refine step_append_lies _ rfl (.tmp 64) (.tmp 73) 85 rfl w.heap.size 160 i160 _ 3 40 Try.underlying85 HI160.out xz0 xz1 xz2 rfl (by decide) (.slice Z2 k c2) k (zs2.flatMap encZon) (by rfl) ((HZ7.out.below (by (repeat (with_reducible first | exact HB8.out | refine Below.drew ?_ | refine balR ?_ _)))).oZ2) _ 1 1 [.int .i64 z.copies, .int .i64 z.due, .slice A9 z.variants.length c9] (by rfl) rfl (World.news_of_block (cs := #[.int .i64 z.copies, .int .i64 z.due, .slice A9 z.variants.length c9]) (t := 160) (fr := (0, 0)) (by show Blk _ _ 160 #[.int .i64 z.copies, .int .i64 z.due, .slice A9 z.variants.length c9]; repeat (first | exact Blk.new _ _ _ | refine Blk.drew ?_))) (by intro u hu; simp at hu; rcases hu with rfl | rfl | rfl <;> rfl) (by decide) hm1 hm2 (by simp; omega) _ rfl ?_; intro g9 cap9 w9 hown9 hgrow9 hat9 hlt9; have hx9 := HAP.out _ w9 (by (repeat (with_reducible first | exact HB8.out | refine Below.drew ?_ | refine balR ?_ _))) hgrow9; obtain ⟨y9, f9, hk9⟩ := hx9; have HK9 := Lib.hid hk9; have hS9 : w9.cell? ⟨g7, 0, none⟩ = some (.int .i64 z.copies) ∧ w9.cell? ⟨g7, 1, none⟩ = some (.int .i64 z.due) ∧ w9.cell? ⟨g7, 2, none⟩ = some (.slice zA z.variants.length zc) := ⟨by rw [hk9.cell]; simp, by rw [hk9.cell]; simp, by rw [hk9.cell]; simp⟩; have hT9 : ∀ u, (w9.setCell ⟨g5, 2, none⟩ u).cell? ⟨g7, 0, none⟩ = some (.int .i64 z.copies) ∧ (w9.setCell ⟨g5, 2, none⟩ u).cell? ⟨g7, 1, none⟩ = some (.int .i64 z.due) ∧ (w9.setCell ⟨g5, 2, none⟩ u).cell? ⟨g7, 2, none⟩ = some (.slice zA z.variants.length zc) := fun u => by { have hq := hk9.far (p := ⟨g5, 2, none⟩) (by exact HN75.out) u; exact ⟨by rw [hq.cell]; simp, by rw [hq.cell]; simp, by rw [hq.cell]; simp⟩ }; have HP9 := Lib.hid (CpZ.push2 (HZ7.out.below (by (repeat (with_reducible first | exact HB8.out | refine Below.drew ?_ | refine balR ?_ _)))) HZK.out (own_belowV HO8.out (by (repeat (with_reducible first | exact Below.refl _ _ | refine Below.drew ?_ | refine balR ?_ _)))) hgrow9 hown9); clear hown9 hgrow9 hat9 hk9)
                refine hK.out _ _ ?_ (fun hHeld => ?_)
                · (try dsimp only); (first | exact hS9 | exact hT9 _ | exact (SY.out _ (by (repeat (with_reducible first | exact Below.refl _ _ | exact HB8.out | refine Below.drew ?_ | refine balR ?_ _)))).2)
                clear hK K
                try simp only [List.getElem_toArray, List.getElem_cons_succ, List.getElem_cons_zero]
                try simp only [Act.put, List.setIfInBounds_toArray, List.set_cons_zero, List.set_cons_succ]
                refine wpAnyH_takeE (i := 12) (v := ?_) (some 75) rfl rfl (by kernel_rfl) (by kernel_rfl) (by kernel_rfl) (fun _ _ _ h => h) (Or.inl ⟨by rfl, ?_⟩) (by assumption) ?_
                rotate_left
                · intro w hSw; (try dsimp only at hSw); go_simp; (try with_reducible rfl)
                try simp only [Act.put, List.setIfInBounds_toArray, List.set_cons_zero, List.set_cons_succ]
                refine wpAnyH_ready (rs := [13]) (by kernel_rfl) (by simp) ?_
                refine AllReadyH.cons rfl (fun K hK => ?_) AllReadyH.nil
                go_simp
                refine hK.out _ _ ?_ (fun hHeld => ?_)
                · (try dsimp only); (first | exact hS9 | exact hT9 _ | exact (SY.out _ (by (repeat (with_reducible first | exact Below.refl _ _ | exact HB8.out | refine Below.drew ?_ | refine balR ?_ _)))).2)
                clear hK K
                try simp only [List.getElem_toArray, List.getElem_cons_succ, List.getElem_cons_zero]
                try simp only [Act.put, List.setIfInBounds_toArray, List.set_cons_zero, List.set_cons_succ]
                refine wpAnyH_done (by kernel_rfl) ?_ _
                refine NoPanic.normal ?_
                go_wp2_with fail
                go_roundw
                case rel => exact ⟨k + 1, zs1', zs2 ++ [(z, (A9, c9))], some ⟨gA, 0, none⟩, capA, some ⟨g9, 0, none⟩, cap9, by omega, by go_num, HP9⟩
                case measure => simp [intOf]; omega
              · go_simp
                refine hK.out _ _ ?_ (fun hHeld => ?_)
                · (try dsimp only); (first | exact hS9 | exact hT9 _ | exact (SY.out _ (by (repeat (with_reducible first | exact Below.refl _ _ | exact HB8.out | refine Below.drew ?_ | refine balR ?_ _)))).2)
                clear hK K
                try simp only [List.getElem_toArray, List.getElem_cons_succ, List.getElem_cons_zero]
                try simp only [Act.put, List.setIfInBounds_toArray, List.set_cons_zero, List.set_cons_succ]
                refine wpAnyH_ready (rs := [1]) (by kernel_rfl) (by simp) ?_
                refine AllReadyH.cons rfl (fun K hK => ?_) AllReadyH.nil
                go_simp
                refine hK.out _ _ ?_ (fun hHeld => ?_)
                · (try dsimp only); (first | exact hS9 | exact hT9 _ | exact (SY.out _ (by (repeat (with_reducible first | exact Below.refl _ _ | exact HB8.out | refine Below.drew ?_ | refine balR ?_ _)))).2)
                clear hK K
                try simp only [List.getElem_toArray, List.getElem_cons_succ, List.getElem_cons_zero]
                try simp only [Act.put, List.setIfInBounds_toArray, List.set_cons_zero, List.set_cons_succ]
                refine wpAnyH_ready (rs := [11]) (by kernel_rfl) (by simp) ?_
                refine AllReadyH.cons rfl (fun K hK => ?_) AllReadyH.nil
                (refine step_append_lies _ rfl (.tmp 64) (.tmp 73) 85 rfl w.heap.size 160 i160 _ 3 40 Try.underlying85 HI160.out xz0 xz1 xz2 rfl (by decide) (.slice Z2 k c2) k (zs2.flatMap encZon) (by rfl) ((HZ7.out.below (by (repeat (with_reducible first | exact HB8.out | refine Below.drew ?_ | refine balR ?_ _)))).oZ2) _ 1 1 [.int .i64 z.copies, .int .i64 z.due, .slice A9 z.variants.length c9] (by rfl) rfl (World.news_of_block (cs := #[.int .i64 z.copies, .int .i64 z.due, .slice A9 z.variants.length c9]) (t := 160) (fr := (0, 0)) (by show Blk _ _ 160 #[.int .i64 z.copies, .int .i64 z.due, .slice A9 z.variants.length c9]; repeat (first | exact Blk.new _ _ _ | refine Blk.drew ?_))) (by intro u hu; simp at hu; rcases hu with rfl | rfl | rfl <;> rfl) (by decide) hm1 hm2 (by simp; omega) _ rfl ?_; intro g9 cap9 w9 hown9 hgrow9 hat9 hlt9; have hx9 := HAP.out _ w9 (by (repeat (with_reducible first | exact HB8.out | refine Below.drew ?_ | refine balR ?_ _))) hgrow9; obtain ⟨y9, f9, hk9⟩ := hx9; have HK9 := Lib.hid hk9; have hS9 : w9.cell? ⟨g7, 0, none⟩ = some (.int .i64 z.copies) ∧ w9.cell? ⟨g7, 1, none⟩ = some (.int .i64 z.due) ∧ w9.cell? ⟨g7, 2, none⟩ = some (.slice zA z.variants.length zc) := ⟨by rw [hk9.cell]; simp, by rw [hk9.cell]; simp, by rw [hk9.cell]; simp⟩; have hT9 : ∀ u, (w9.setCell ⟨g5, 2, none⟩ u).cell? ⟨g7, 0, none⟩ = some (.int .i64 z.copies) ∧ (w9.setCell ⟨g5, 2, none⟩ u).cell? ⟨g7, 1, none⟩ = some (.int .i64 z.due) ∧ (w9.setCell ⟨g5, 2, none⟩ u).cell? ⟨g7, 2, none⟩ = some (.slice zA z.variants.length zc) := fun u => by { have hq := hk9.far (p := ⟨g5, 2, none⟩) (by exact HN75.out) u; exact ⟨by rw [hq.cell]; simp, by rw [hq.cell]; simp, by rw [hq.cell]; simp⟩ }; have HP9 := Lib.hid (CpZ.push2 (HZ7.out.below (by (repeat (with_reducible first | exact HB8.out | refine Below.drew ?_ | refine balR ?_ _)))) HZK.out (own_belowV HO8.out (by (repeat (with_reducible first | exact Below.refl _ _ | refine Below.drew ?_ | refine balR ?_ _)))) hgrow9 hown9); clear hown9 hgrow9 hat9 hk9)
                refine hK.out _ _ ?_ (fun hHeld => ?_)
                · (try dsimp only); (first | exact hS9 | exact hT9 _ | exact (SY.out _ (by (repeat (with_reducible first | exact Below.refl _ _ | exact HB8.out | refine Below.drew ?_ | refine balR ?_ _)))).2)
                clear hK K
                try simp only [List.getElem_toArray, List.getElem_cons_succ, List.getElem_cons_zero]
                try simp only [Act.put, List.setIfInBounds_toArray, List.set_cons_zero, List.set_cons_succ]
                refine wpAnyH_takeE (i := 12) (v := ?_) (some 75) rfl rfl (by kernel_rfl) (by kernel_rfl) (by kernel_rfl) (fun _ _ _ h => h) (Or.inl ⟨by rfl, ?_⟩) (by assumption) ?_
                rotate_left
                · intro w hSw; (try dsimp only at hSw); go_simp; (try with_reducible rfl)
                try simp only [Act.put, List.setIfInBounds_toArray, List.set_cons_zero, List.set_cons_succ]
                refine wpAnyH_ready (rs := [13]) (by kernel_rfl) (by simp) ?_
                refine AllReadyH.cons rfl (fun K hK => ?_) AllReadyH.nil
                go_simp
                refine hK.out _ _ ?_ (fun hHeld => ?_)
                · (try dsimp only); (first | exact hS9 | exact hT9 _ | exact (SY.out _ (by (repeat (with_reducible first | exact Below.refl _ _ | exact HB8.out | refine Below.drew ?_ | refine balR ?_ _)))).2)
                clear hK K
                try simp only [List.getElem_toArray, List.getElem_cons_succ, List.getElem_cons_zero]
                try simp only [Act.put, List.setIfInBounds_toArray, List.set_cons_zero, List.set_cons_succ]
                refine wpAnyH_done (by kernel_rfl) ?_ _
                refine NoPanic.normal ?_
                go_wp2_with fail
                go_roundw
                case rel => exact ⟨k + 1, zs1', zs2 ++ [(z, (A9, c9))], some ⟨gA, 0, none⟩, capA, some ⟨g9, 0, none⟩, cap9, by omega, by go_num, HP9⟩
                case measure => simp [intOf]; omega
        · obtain rfl : k = t.zones.length := by omega
          skip
          have kb1 := HZ.out.b1
          have r3 := kb1.cell 3
          simp [titV] at r3
          obtain ⟨xr, hxr⟩ : ∃ a, a = x.r := ⟨_, rfl⟩
          rw [← hxr] at r3
          have HXR := Lib.hid hxr
          obtain ⟨i161, hi161, rz0, rz1, rz2⟩ := info_parts infoR161
          have HI161 := Lib.hid hi161
          clear hxr kb1 hi161
          go_wp2_with fail
          clear r3
          go_loopw [80] (fun i wr => ∃ (m : Nat) (R2 : Option Addr) (cr2 : Nat), m ≤ t.ready.length ∧ i = .int .i64 m ∧ Hid (CpZ w wr t x g1 g2 g3 g4 g5 y1 y2 t.zones.length t.zones.length zs1 zs2 Z1 Z2 c1 c2 R2 cr2 m)) (fun i _ => t.ready.length - (intOf i).toNat)
          case atStart => exact ⟨0, none, 0, Nat.zero_le _, rfl, HZ⟩
          case round =>
            clear HZ
            obtain ⟨m, R2, cr2, hm, rfl, HZ⟩ := hrel
            by_cases hlm : m < t.ready.length
            · skip
              obtain ⟨tb, to_, htz, htb, q0, q1, q2⟩ := (HT0.out.below HZ.out.low).cR.at3 hlm
              have hxz2 : xr = some ⟨tb, to_, none⟩ := HXR.out.trans htz
              subst hxz2
              have hzk : t.ready[m]? = some t.ready[m] := List.getElem?_eq_getElem hlm
              obtain ⟨⟨pp, vv, aa⟩, hr⟩ : ∃ r, r = t.ready[m] := ⟨_, rfl⟩
              rw [← hr] at q0 q1 q2 hzk
              dsimp only at q0 q1 q2
              have HZK := Lib.hid hzk
              have htb' : tb < wr.heap.size := Nat.lt_of_lt_of_le htb HZ.out.low.size
              have hb5 := HZ.out.b5
              have y5 := hb5.cell 3
              have f5 := hb5.frozen 3
              simp at y5
              have hl5 := hb5.lt
              have i0 : (0 : Int) ≤ (m : Int) := by omega
              have i1 : (m : Int) < (t.ready.length : Int) := by omega
              have hm1 : m + 1 ≤ maxLen := by simp only [maxLen]; omega
              have hm2 : (m + 1) * 24 ≤ 140737488355328 := by omega
              have hw5 := HZ.out.low.size
              obtain ⟨W5, hW5⟩ : ∃ W, W = wr.alloc (.cells #[.int .i64 pp, .int .i64 vv, .int .i64 aa] 69) := ⟨_, rfl⟩
              obtain ⟨g9b, hg9b⟩ : ∃ g, g = wr.heap.size := ⟨_, rfl⟩
              have HZ5 := Lib.hid (show CpZ w W5 t x g1 g2 g3 g4 g5 y1 y2 t.zones.length t.zones.length zs1 zs2 Z1 Z2 c1 c2 R2 cr2 m by rw [hW5]; exact HZ.out.below ((Below.refl _ _).alloc (Nat.le_refl _) _))
              have kb := Blk.new wr 69 #[.int .i64 pp, .int .i64 vv, .int .i64 aa]
              rw [← hW5, ← hg9b] at kb
              have p0 := kb.cell 0
              have p1 := kb.cell 1
              have p2 := kb.cell 2
              simp at p0 p1 p2
              have hl9 := kb.lt
              have hw55 : wr.heap.size ≤ W5.heap.size := by rw [hW5]; simp
              have HW5 := Lib.hid hW5
              have HG9 := Lib.hid hg9b
              clear hW5 hg9b hb5 hr hzk htz kb y5 f5 hl5
              go_upto_region 12 with fail
              rw [← HW5.out, ← HG9.out]
              clear q0 q1 q2
              have hb5 := HZ5.out.b5
              have y5 := hb5.cell 3
              have f5 := hb5.frozen 3
              simp at y5
              have hl5 := hb5.lt
              clear hb5
              go_wp2_with (at_builtin; refine wpList_append_lies _ rfl (.tmp 85) (.tmp 87) 86 rfl w.heap.size 161 i161 _ 3 24 Try.underlying86 HI161.out rz0 rz1 rz2 rfl (by decide) (.slice R2 m cr2) m ((t.ready.take m).flatMap enc3) rfl (HZ5.out.oR2.alloc _) ⟨W5.heap.size, 0, none⟩ 1 1 [.int .i64 pp, .int .i64 vv, .int .i64 aa] rfl rfl (news_of1 W5 161 #[.int .i64 pp, .int .i64 vv, .int .i64 aa]) (by intro u hu; simp at hu; rcases hu with rfl | rfl | rfl <;> rfl) (by decide) hm1 hm2 (by simp; omega) (W5.heap.size + 1) (by simp) ?_; intro g9 cap9 w9 hown9 hgrow9 hat9 hlt9; have hq := HZ5.out.below (balR (Below.refl W5.heap.size W5) (.cells #[.int .i64 pp, .int .i64 vv, .int .i64 aa] 161)); have HP9 := Lib.hid (CpZ.pushR hq HZK.out hgrow9 hown9); have k9 := hq.b5.grown hgrow9 (own_blk_ne hq.oR2 hq.b5 (by decide)); have y9 := k9.cell 3; have f9 := k9.frozen 3; simp at y9; clear hq k9 hown9 hgrow9 hat9)
              go_roundw
              case rel => exact ⟨m + 1, some ⟨g9, 0, none⟩, cap9, by omega, by go_num, HP9⟩
              case measure => simp [intOf]; omega
            · obtain rfl : m = t.ready.length := by omega
              skip
              have n2 := HN.out
              have n3 : g4 ≠ g3 := Blk.ne_ HZ.out.b4 HZ.out.b3 (by decide)
              have n4 : g5 ≠ g2 := fun e => Blk.ne_ HZ.out.b2 HZ.out.b5 (by decide) e.symm
              have n5 : g2 ≠ g3 := Blk.ne_ HZ.out.b2 HZ.out.b3 (by decide)
              obtain ⟨m1, m2, m3, m4, m5, m6, m7, m8, m9⟩ := n2
              have hb2 := HZ.out.b2
              have hb3 := HZ.out.b3
              have hb4 := HZ.out.b4
              have hb5 := HZ.out.b5
              have ka0 := hb4.cell 0
              have ka1 := hb4.cell 1
              have ka2 := hb4.cell 2
              have ka3 := hb4.cell 3
              have ka4 := hb4.cell 4
              have ka5 := hb4.cell 5
              have ka6 := hb4.cell 6
              have ka7 := hb4.cell 7
              have kb0 := hb5.cell 0
              have kb1 := hb5.cell 1
              have kb2 := hb5.cell 2
              have kb3 := hb5.cell 3
              have kb4 := hb5.cell 4
              have kb5 := hb5.cell 5
              have kb6 := hb5.cell 6
              have kb7 := hb5.cell 7
              have kc0 := hb2.cell 0
              have kc1 := hb2.cell 1
              have kc2 := hb2.cell 2
              have kc3 := hb2.cell 3
              have kc4 := hb2.cell 4
              have kc5 := hb2.cell 5
              have kc6 := hb2.cell 6
              have kc7 := hb2.cell 7
              have kd0 := hb3.cell 0
              have kd1 := hb3.cell 1
              have kd2 := hb3.cell 2
              have kd3 := hb3.cell 3
              have kd4 := hb3.cell 4
              have kd5 := hb3.cell 5
              have kd6 := hb3.cell 6
              have kd7 := hb3.cell 7
              have kf0 := hb2.frozen 0
              have kf1 := hb2.frozen 1
              have kf2 := hb2.frozen 2
              have kf3 := hb2.frozen 3
              have kf4 := hb2.frozen 4
              have kf5 := hb2.frozen 5
              have kf6 := hb2.frozen 6
              have kf7 := hb2.frozen 7
              have kh0 := hb3.frozen 0
              have kh1 := hb3.frozen 1
              have kh2 := hb3.frozen 2
              have kh3 := hb3.frozen 3
              have kh4 := hb3.frozen 4
              have kh5 := hb3.frozen 5
              have kh6 := hb3.frozen 6
              have kh7 := hb3.frozen 7
              simp at ka0 ka1 ka2 ka3 ka4 ka5 ka6 ka7 kb0 kb1 kb2 kb3 kb4 kb5 kb6 kb7 kc0 kc1 kc2 kc3 kc4 kc5 kc6 kc7 kd0 kd1 kd2 kd3 kd4 kd5 kd6 kd7
              have KA := Lib.hid (far8 (blk8 hb2 (.slice y1.a t.colours.length y1.ca) (.slice y1.b t.pairs.length y1.cb) (.slice Z1 t.zones.length c1) (.slice y1.r t.ready.length y1.cr) (.int .i64 t.start) (.int .i64 t.rate) (.int .i64 t.stop) (.int .i64 t.hang)) (by exact n5) (.slice y2.a t.colours.length y2.ca) (.slice y2.b t.pairs.length y2.cb) (.slice Z2 t.zones.length c2) (.slice R2 t.ready.length cr2) (.int .i64 t.start) (.int .i64 t.rate) (.int .i64 t.stop) (.int .i64 t.hang))
              have KB := Lib.hid (blk8 (far8 hb3 (by exact fun e => n5 e.symm) (.slice y1.a t.colours.length y1.ca) (.slice y1.b t.pairs.length y1.cb) (.slice Z1 t.zones.length c1) (.slice y1.r t.ready.length y1.cr) (.int .i64 t.start) (.int .i64 t.rate) (.int .i64 t.stop) (.int .i64 t.hang)) (.slice y2.a t.colours.length y2.ca) (.slice y2.b t.pairs.length y2.cb) (.slice Z2 t.zones.length c2) (.slice R2 t.ready.length cr2) (.int .i64 t.start) (.int .i64 t.rate) (.int .i64 t.stop) (.int .i64 t.hang))
              have HTT := Lib.hid (cpz_out HZ.out (F := ((((((((((((((((wr.setCell ⟨g2, 0, none⟩ (.slice y1.a t.colours.length y1.ca)).setCell ⟨g2, 1, none⟩ (.slice y1.b t.pairs.length y1.cb)).setCell ⟨g2, 2, none⟩ (.slice Z1 t.zones.length c1)).setCell ⟨g2, 3, none⟩ (.slice y1.r t.ready.length y1.cr)).setCell ⟨g2, 4, none⟩ (.int .i64 t.start)).setCell ⟨g2, 5, none⟩ (.int .i64 t.rate)).setCell ⟨g2, 6, none⟩ (.int .i64 t.stop)).setCell ⟨g2, 7, none⟩ (.int .i64 t.hang)).setCell ⟨g3, 0, none⟩ (.slice y2.a t.colours.length y2.ca)).setCell ⟨g3, 1, none⟩ (.slice y2.b t.pairs.length y2.cb)).setCell ⟨g3, 2, none⟩ (.slice Z2 t.zones.length c2)).setCell ⟨g3, 3, none⟩ (.slice R2 t.ready.length cr2)).setCell ⟨g3, 4, none⟩ (.int .i64 t.start)).setCell ⟨g3, 5, none⟩ (.int .i64 t.rate)).setCell ⟨g3, 6, none⟩ (.int .i64 t.stop)).setCell ⟨g3, 7, none⟩ (.int .i64 t.hang))) (fun he1 he2 ho => own_set8 (own_set8 ho hb2 he1 (.slice y1.a t.colours.length y1.ca) (.slice y1.b t.pairs.length y1.cb) (.slice Z1 t.zones.length c1) (.slice y1.r t.ready.length y1.cr) (.int .i64 t.start) (.int .i64 t.rate) (.int .i64 t.stop) (.int .i64 t.hang)) (far8 hb3 (by exact fun e => n5 e.symm) (.slice y1.a t.colours.length y1.ca) (.slice y1.b t.pairs.length y1.cb) (.slice Z1 t.zones.length c1) (.slice y1.r t.ready.length y1.cr) (.int .i64 t.start) (.int .i64 t.rate) (.int .i64 t.stop) (.int .i64 t.hang)) he2 (.slice y2.a t.colours.length y2.ca) (.slice y2.b t.pairs.length y2.cb) (.slice Z2 t.zones.length c2) (.slice R2 t.ready.length cr2) (.int .i64 t.start) (.int .i64 t.rate) (.int .i64 t.stop) (.int .i64 t.hang)))
              have HLO := Lib.hid (set8_low (set8_low HZ.out.low (by exact m2) (.slice y1.a t.colours.length y1.ca) (.slice y1.b t.pairs.length y1.cb) (.slice Z1 t.zones.length c1) (.slice y1.r t.ready.length y1.cr) (.int .i64 t.start) (.int .i64 t.rate) (.int .i64 t.stop) (.int .i64 t.hang)) (by exact m3) (.slice y2.a t.colours.length y2.ca) (.slice y2.b t.pairs.length y2.cb) (.slice Z2 t.zones.length c2) (.slice R2 t.ready.length cr2) (.int .i64 t.start) (.int .i64 t.rate) (.int .i64 t.stop) (.int .i64 t.hang))
              clear hb2 hb3 hb4 hb5
              go_wp2_with fail
              go_region_law (fail)
              all_goals
                go_wp2_with fail
                refine bodyPost_ret (v := .tuple #[.agg #[.slice y1.a t.colours.length y1.ca, .slice y1.b t.pairs.length y1.cb, .slice Z1 t.zones.length c1, .slice y1.r t.ready.length y1.cr, .int .i64 t.start, .int .i64 t.rate, .int .i64 t.stop, .int .i64 t.hang], .agg #[.slice y2.a t.colours.length y2.ca, .slice y2.b t.pairs.length y2.cb, .slice Z2 t.zones.length c2, .slice R2 t.ready.length cr2, .int .i64 t.start, .int .i64 t.rate, .int .i64 t.stop, .int .i64 t.hang]]) ?_ rfl ⟨⟨y1.a, y1.ca, y1.b, y1.cb, Z1, c1, y1.r, y1.cr⟩, ⟨y2.a, y2.ca, y2.b, y2.cb, Z2, c2, R2, cr2⟩, zs1, zs2, rfl, ?_, ?_, ?_⟩
                · have kA := KA.out
                  have kB := KB.out
                  have qa0 := kA.cell 0
                  have qa1 := kA.cell 1
                  have qa2 := kA.cell 2
                  have qa3 := kA.cell 3
                  have qa4 := kA.cell 4
                  have qa5 := kA.cell 5
                  have qa6 := kA.cell 6
                  have qa7 := kA.cell 7
                  have qb0 := kB.cell 0
                  have qb1 := kB.cell 1
                  have qb2 := kB.cell 2
                  have qb3 := kB.cell 3
                  have qb4 := kB.cell 4
                  have qb5 := kB.cell 5
                  have qb6 := kB.cell 6
                  have qb7 := kB.cell 7
                  simp at qa0 qa1 qa2 qa3 qa4 qa5 qa6 qa7 qb0 qb1 qb2 qb3 qb4 qb5 qb6 qb7
                  clear ka0 ka1 ka2 ka3 ka4 ka5 ka6 ka7 kb0 kb1 kb2 kb3 kb4 kb5 kb6 kb7 kc0 kc1 kc2 kc3 kc4 kc5 kc6 kc7 kd0 kd1 kd2 kd3 kd4 kd5 kd6 kd7 kf0 kf1 kf2 kf3 kf4 kf5 kf6 kf7 kh0 kh1 kh2 kh3 kh4 kh5 kh6 kh7 kA kB
                  generalize World.setCell _ _ _ = W at qa0 qa1 qa2 qa3 qa4 qa5 qa6 qa7 qb0 qb1 qb2 qb3 qb4 qb5 qb6 qb7 ⊢
                  simp [results, Try.results39, go_sem, qa0, qa1, qa2, qa3, qa4, qa5, qa6, qa7, qb0, qb1, qb2, qb3, qb4, qb5, qb6, qb7]
                · with_reducible exact tit_drew HTT.out.1
                · with_reducible exact tit_drew HTT.out.2
                · with_reducible exact HLO.out.drew
end Go.Proofs.Ytokdleanpkkdpaa
