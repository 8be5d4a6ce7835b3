/- Memory words for the copies of a press; conditions: rows that the walk owns. -/
import Derived.Test.YtnbnfadmbggfnaaUH
set_option linter.unusedSimpArgs false
set_option linter.unusedVariables false
namespace Go.Rl
open Go.Fh Go.RowKit Go
/-- a row of webs in the making, and the rows of its reels -/
structure RowsOf (e t : TypeId) (B : Nat) (W : World) (A : Option Addr) (k c : Nat) (ms : List WebM) (vs : List WebD) : Prop where
  row : W.ownsRow B e 4 (.slice A k c) k (ms.flatMap encWeb)
  eq : ms.map (·.1) = vs
  len : ms.length = k
  rls : ∀ m ∈ ms, W.ownsRow B t 4 (.slice m.2.1 m.1.reels.length m.2.2) m.1.reels.length (m.1.reels.flatMap encReel)
section
variable {e t : TypeId} {B : Nat} {W W' : World} {A : Option Addr} {k c : Nat} {ms : List WebM} {vs : List WebD}
theorem RowsOf.nil (e t : TypeId) (B : Nat) (W : World) : RowsOf e t B W none 0 0 [] [] := ⟨World.ownsRow_nil _ _ _ _, rfl, rfl, fun m hm => by simp at hm⟩
theorem RowsOf.below (h : RowsOf e t B W A k c ms vs) (hb : Below W.heap.size W W') : RowsOf e t B W' A k c ms vs :=
  ⟨own_belowV h.row hb, h.eq, h.len, fun m hm => own_belowV (h.rls m hm) hb⟩
theorem RowsOf.blk (h : RowsOf e t B W A k c ms vs) {g : Nat} {u : TypeId} {cs : Array Value} (hg : W.grownBy W' (some g)) (hk : Blk W g u cs) (h1 : e ≠ u) (h2 : t ≠ u) : RowsOf e t B W' A k c ms vs :=
  ⟨own_kept2 h.row hg (.inr fun x => own_blk_ne h.row hk h1 x.symm), h.eq, h.len, fun m hm => own_kept2 (h.rls m hm) hg (.inr fun x => own_blk_ne (h.rls m hm) hk h2 x.symm)⟩
theorem RowsOf.own (h : RowsOf e t B W A k c ms vs) {B' : Nat} {u : TypeId} {s n : Nat} {v : Value} {xs : List Value} (hg : W.grownBy W' v.ownBlock) (ho : W.ownsRow B' u s v n xs) (h1 : e ≠ u) (h2 : t ≠ u) : RowsOf e t B W' A k c ms vs :=
  ⟨own_kept2 h.row hg (own_own_ne h.row ho h1), h.eq, h.len, fun m hm => own_kept2 (h.rls m hm) hg (own_own_ne (h.rls m hm) ho h2)⟩
theorem RowsOf.push (h : RowsOf e t B W A k c ms vs) {A' : Option Addr} {c' : Nat} {v : WebD} {vA : Option Addr} {vc : Nat} (hne : t ≠ e) (hg : W.grownBy W' (Value.slice A k c).ownBlock)
    (ho : W'.ownsRow B e 4 (.slice A' (k + 1) c') (k + 1) (ms.flatMap encWeb ++ encWeb (v, (vA, vc)))) (hr : W.ownsRow B t 4 (.slice vA v.reels.length vc) v.reels.length (v.reels.flatMap encReel)) : RowsOf e t B W' A' (k + 1) c' (ms ++ [(v, (vA, vc))]) (vs ++ [v]) :=
  ⟨by rw [List.flatMap_append]; simpa using ho, by rw [List.map_append, h.eq]; rfl, by rw [List.length_append, h.len]; rfl, fun m hm => by
    rcases List.mem_append.1 hm with hm | hm
    · exact own_kept2 (h.rls m hm) hg (own_own_ne (h.rls m hm) h.row hne)
    · have hm : m = (v, (vA, vc)) := by simpa using hm
      subst hm
      exact own_kept2 hr hg (own_own_ne hr h.row hne)⟩
theorem RowsOf.prs {p : PrsD} (h : RowsOf e t B W A k c ms p.webs) : PrsAt W W.heap.size p A ms := by
  refine ⟨?_, h.eq, fun i hi => Sl.of_own (fun _ => rfl) (h.rls _ (List.getElem_mem hi))⟩
  have hr := h.row
  rw [← h.len] at hr
  exact Sl.of_own (fun _ => rfl) hr
end
/-- two presses in the making -/
structure CpyM (B : Nat) (w0 W : World) (p : PrsD) (g4 g5 ko kr : Nat) (AO : Option Addr) (cO : Nat) (AR : Option Addr) (cR : Nat) (mo mr : List WebM) : Prop where
  k4 : Blk W g4 26 #[.int .i64 p.cut, .int .i64 p.margin, .slice AO ko cO]
  k5 : Blk W g5 131 #[.int .i64 p.cut, .int .i64 p.margin, .slice AR kr cR]
  o : RowsOf 41 54 B W AO ko cO mo (p.webs.take ko)
  r : RowsOf 181 182 B W AR kr cR mr (p.webs.take kr)
  bel : Below B w0 W
  l4 : B ≤ g4
  l5 : B ≤ g5
  lw : B ≤ w0.heap.size
section
variable {B : Nat} {w0 W W' W2 W3 : World} {p : PrsD} {g4 g5 ko kr : Nat} {AO AR : Option Addr} {cO cR : Nat} {mo mr : List WebM}
theorem CpyM.below (h : CpyM B w0 W p g4 g5 ko kr AO cO AR cR mo mr) (hb : Below W.heap.size W W') : CpyM B w0 W' p g4 g5 ko kr AO cO AR cR mo mr :=
  ⟨h.k4.below hb h.k4.lt, h.k5.below hb h.k5.lt, h.o.below hb, h.r.below hb, h.bel.trans (hb.mono (Nat.le_trans h.lw h.bel.size)), h.l4, h.l5, h.lw⟩
theorem CpyM.low (h : CpyM B w0 W p g4 g5 ko kr AO cO AR cR mo mr) : B ≤ W.heap.size := Nat.le_trans h.lw h.bel.size
theorem CpyM.push_o (h : CpyM B w0 W p g4 g5 ko kr AO cO AR cR mo mr) (hk : ko < p.webs.length) {v : WebD} (hv : v = p.webs[ko]) {A' vA : Option Addr} {c' vc : Nat} (hg : W.grownBy W' (Value.slice AO ko cO).ownBlock)
    (ho : W'.ownsRow B 41 4 (.slice A' (ko + 1) c') (ko + 1) (mo.flatMap encWeb ++ encWeb (v, (vA, vc)))) (hr : W.ownsRow B 54 4 (.slice vA v.reels.length vc) v.reels.length (v.reels.flatMap encReel)) :
    CpyM B w0 (W'.setCell ⟨g4, 2, none⟩ (.slice A' (ko + 1) c')) p g4 g5 (ko + 1) kr A' c' AR cR (mo ++ [(v, (vA, vc))]) mr := by
  subst hv
  have k4 := h.k4.grown hg (own_blk_ne h.o.row h.k4 (by decide))
  have k5 := h.k5.grown hg (own_blk_ne h.o.row h.k5 (by decide))
  have o := h.o.push (by decide) hg ho hr
  have r := h.r.own hg h.o.row (by decide) (by decide)
  rw [← List.take_succ_eq_append_getElem hk] at o
  have bel := h.bel.grown hg h.low (fun j hj => (own_at h.o.row hj).2)
  refine ⟨?_, k5.far (p := ⟨g4, 2, none⟩) (Blk.ne_ k5 k4 (by decide)) _, ?_, r.blk (gr_set W' g4 2 _) k4 (by decide) (by decide), bel.grown (gr_set W' g4 2 _) (Nat.le_trans h.low hg.size) (fun j hj => by injection hj with hj; have := h.l4; omega), h.l4, h.l5, h.lw⟩
  · simpa using k4.set_ 2 (.slice A' (ko + 1) c')
  · exact o.blk (gr_set W' g4 2 _) k4 (by decide) (by decide)
theorem CpyM.push_r (h : CpyM B w0 W p g4 g5 ko kr AO cO AR cR mo mr) (hk : kr < p.webs.length) {v : WebD} (hv : v = p.webs[kr]) {A' vA : Option Addr} {c' vc : Nat} (hg : W.grownBy W' (Value.slice AR kr cR).ownBlock)
    (ho : W'.ownsRow B 181 4 (.slice A' (kr + 1) c') (kr + 1) (mr.flatMap encWeb ++ encWeb (v, (vA, vc)))) (hr : W.ownsRow B 182 4 (.slice vA v.reels.length vc) v.reels.length (v.reels.flatMap encReel)) :
    CpyM B w0 (W'.setCell ⟨g5, 2, none⟩ (.slice A' (kr + 1) c')) p g4 g5 ko (kr + 1) AO cO A' c' mo (mr ++ [(v, (vA, vc))]) := by
  subst hv
  have k4 := h.k4.grown hg (own_blk_ne h.r.row h.k4 (by decide))
  have k5 := h.k5.grown hg (own_blk_ne h.r.row h.k5 (by decide))
  have r := h.r.push (by decide) hg ho hr
  have o := h.o.own hg h.r.row (by decide) (by decide)
  rw [← List.take_succ_eq_append_getElem hk] at r
  have bel := h.bel.grown hg h.low (fun j hj => (own_at h.r.row hj).2)
  refine ⟨k4.far (p := ⟨g5, 2, none⟩) (Blk.ne_ k4 k5 (by decide)) _, ?_, o.blk (gr_set W' g5 2 _) k5 (by decide) (by decide), ?_, bel.grown (gr_set W' g5 2 _) (Nat.le_trans h.low hg.size) (fun j hj => by injection hj with hj; have := h.l5; omega), h.l4, h.l5, h.lw⟩
  · simpa using k5.set_ 2 (.slice A' (kr + 1) c')
  · exact r.blk (gr_set W' g5 2 _) k5 (by decide) (by decide)
theorem CpyM.cells (h : CpyM B w0 W p g4 g5 ko kr AO cO AR cR mo mr) : (W.cell? ⟨g4, 0, none⟩ = some (.int .i64 p.cut) ∧ W.cell? ⟨g4, 1, none⟩ = some (.int .i64 p.margin) ∧ W.cell? ⟨g4, 2, none⟩ = some (.slice AO ko cO)) ∧ (W.cell? ⟨g5, 0, none⟩ = some (.int .i64 p.cut) ∧ W.cell? ⟨g5, 1, none⟩ = some (.int .i64 p.margin) ∧ W.cell? ⟨g5, 2, none⟩ = some (.slice AR kr cR)) := by
  have a0 := h.k4.cell 0
  have a1 := h.k4.cell 1
  have a2 := h.k4.cell 2
  have b0 := h.k5.cell 0
  have b1 := h.k5.cell 1
  have b2 := h.k5.cell 2
  simp at a0 a1 a2 b0 b1 b2
  exact ⟨⟨a0, a1, a2⟩, b0, b1, b2⟩
/-- a block of three cells written anew -/
theorem blk3 {g t : Nat} {a b c : Value} (h : Blk W g t #[a, b, c]) (x y z : Value) : Blk (((W.setCell ⟨g, 0, none⟩ x).setCell ⟨g, 1, none⟩ y).setCell ⟨g, 2, none⟩ z) g t #[x, y, z] := by
  simpa using ((h.set_ 0 x).set_ 1 y).set_ 2 z
theorem far3 {g t g' : Nat} {cs : Array Value} (h : Blk W g t cs) (hn : g ≠ g') (x y z : Value) : Blk (((W.setCell ⟨g', 0, none⟩ x).setCell ⟨g', 1, none⟩ y).setCell ⟨g', 2, none⟩ z) g t cs :=
  ((h.far (p := ⟨g', 0, none⟩) hn x).far (p := ⟨g', 1, none⟩) hn y).far (p := ⟨g', 2, none⟩) hn z
theorem rows3 {e t : TypeId} {A : Option Addr} {k c : Nat} {ms : List WebM} {vs : List WebD} (h : RowsOf e t B W A k c ms vs) {g u : Nat} {a b d : Value} (hk : Blk W g u #[a, b, d]) (h1 : e ≠ u) (h2 : t ≠ u) (x y z : Value) : RowsOf e t B (((W.setCell ⟨g, 0, none⟩ x).setCell ⟨g, 1, none⟩ y).setCell ⟨g, 2, none⟩ z) A k c ms vs :=
  ((h.blk (gr_set W g 0 x) hk h1 h2).blk (gr_set _ g 1 y) (hk.set_ 0 x) h1 h2).blk (gr_set _ g 2 z) ((hk.set_ 0 x).set_ 1 y) h1 h2
end
end Go.Rl
