/- The search for a plan: what lies in memory; conditions: none. -/
import Derived.Test.YtnbnfadmbggfnaaPC
import Derived.Test.YtnbnfadmbggfnaaQY
set_option linter.unusedSimpArgs false
set_option linter.unusedVariables false
namespace Go.Rl
open Go.Fh Go.RowKit
abbrev rowV (l : List Int) : List Go.Value := l.map (Go.Value.int .i64)
structure SeaA (H B gN gF gB gS gL gD gT gR : Nat) : Prop where
  nb : gN ≠ gB
  lo : H ≤ gN ∧ H ≤ gF ∧ H ≤ gB ∧ H ≤ gR
  hi : gN < B ∧ gF < B ∧ gB < B ∧ gS < B ∧ gL < B ∧ gD < B ∧ gT < B ∧ gR < B
def tryV (gN gF gB gS gL gD gT : Nat) : Go.Value := .func (.func 114) #[] #[.pointer (some ⟨gN, 0, none⟩), .pointer (some ⟨gF, 0, none⟩), .pointer (some ⟨gB, 0, none⟩), .pointer (some ⟨gS, 0, none⟩), .pointer (some ⟨gL, 0, none⟩), .pointer (some ⟨gD, 0, none⟩), .pointer (some ⟨gT, 0, none⟩)]
/-- the search at work: now holds l and u, left holds F, best holds b -/
structure SeaM (wk : Go.World) (B gN gF gB gS gL gD gT gR : Nat) (sS sD : Go.Value) (m : Nat) (l : List Int) (u y : Int) (F : Nat → Int) (b : Option PlT) (v vb : Go.Value) (ub bb : Int) (W : Go.World) : Prop where
  ad : SeaA wk.heap.size B gN gF gB gS gL gD gT gR
  low : Below wk.heap.size wk W
  sz : B ≤ W.heap.size
  kN : Blk W gN 148 #[v, .int .i64 u, .int .i64 y]
  row : W.ownsRow B 3 1 v l.length (rowV l)
  kF : Blk W gF 4 #[.bool b.isSome]
  kB : Blk W gB 148 #[vb, .int .i64 ub, .int .i64 bb]
  best : ∀ z, b = some z → W.ownsRow B 3 1 vb z.1.length (rowV z.1) ∧ ub = z.2.1 ∧ bb = z.2.2
  sep : v.ownBlock = none ∨ v.ownBlock ≠ vb.ownBlock
  vbo : b = none → vb = .slice none 0 0
  kS : Blk W gS 39 #[sS]
  kL : Blk W gL 47 #[.slice (some ⟨gR, 0, none⟩) m m]
  kD : Blk W gD 69 #[sD]
  kT : Blk W gT 1 #[tryV gN gF gB gS gL gD gT]
  left : RowF W gR F m
section
variable {wk W X : Go.World} {B gN gF gB gS gL gD gT gR : Nat} {sS sD : Go.Value} {m : Nat} {l : List Int} {u y : Int} {F : Nat → Int} {b : Option PlT} {v vb : Go.Value} {ub bb : Int}
theorem SeaM.below (h : SeaM wk B gN gF gB gS gL gD gT gR sS sD m l u y F b v vb ub bb W) (hb : Below W.heap.size W X) : SeaM wk B gN gF gB gS gL gD gT gR sS sD m l u y F b v vb ub bb X :=
  ⟨h.ad, bstep h.low hb, Nat.le_trans h.sz hb.size, h.kN.below hb h.kN.lt, own_belowV h.row hb, h.kF.below hb h.kF.lt, h.kB.below hb h.kB.lt, fun z hz => ⟨own_belowV (h.best z hz).1 hb, (h.best z hz).2⟩, h.sep, h.vbo, h.kS.below hb h.kS.lt, h.kL.below hb h.kL.lt, h.kD.below hb h.kD.lt, h.kT.below hb h.kT.lt, h.left.below hb⟩
/-- a row of one's own after a store into a box of another type -/
theorem own_far {e e' : Go.TypeId} {s n g : Nat} {v : Go.Value} {xs : List Go.Value} {cs : Array Go.Value} {b0 : Nat} (ho : W.ownsRow b0 e' s v n xs) (hk : Blk W g e cs) (he : e' ≠ e) (i : Nat) (x : Go.Value) : (W.setCell ⟨g, i, none⟩ x).ownsRow b0 e' s v n xs := milw_type ho hk he i x
theorem SeaM.setU (h : SeaM wk B gN gF gB gS gL gD gT gR sS sD m l u y F b v vb ub bb W) (u' : Int) : SeaM wk B gN gF gB gS gL gD gT gR sS sD m l u' y F b v vb ub bb (W.setCell ⟨gN, 1, none⟩ (.int .i64 u')) :=
  ⟨h.ad, h.low.setCell (by exact h.ad.lo.1) _, by simpa [World.setCell] using h.sz, by simpa using h.kN.set_ 1 (.int .i64 u'), own_far h.row h.kN (by decide) 1 _, h.kF.far (p := ⟨gN, 1, none⟩) (Blk.ne_ h.kF h.kN (by decide)) _, h.kB.far (p := ⟨gN, 1, none⟩) (fun e => h.ad.nb e.symm) _, fun z hz => ⟨own_far (h.best z hz).1 h.kN (by decide) 1 _, (h.best z hz).2⟩, h.sep, h.vbo,
    h.kS.far (p := ⟨gN, 1, none⟩) (Blk.ne_ h.kS h.kN (by decide)) _, h.kL.far (p := ⟨gN, 1, none⟩) (Blk.ne_ h.kL h.kN (by decide)) _, h.kD.far (p := ⟨gN, 1, none⟩) (Blk.ne_ h.kD h.kN (by decide)) _, h.kT.far (p := ⟨gN, 1, none⟩) (Blk.ne_ h.kT h.kN (by decide)) _, h.left.far (p := ⟨gN, 1, none⟩) (Blk.ne_ (t := 3) h.left h.kN (by decide)) _⟩
theorem SeaM.setY (h : SeaM wk B gN gF gB gS gL gD gT gR sS sD m l u y F b v vb ub bb W) (y' : Int) : SeaM wk B gN gF gB gS gL gD gT gR sS sD m l u y' F b v vb ub bb (W.setCell ⟨gN, 2, none⟩ (.int .i64 y')) :=
  ⟨h.ad, h.low.setCell (by exact h.ad.lo.1) _, by simpa [World.setCell] using h.sz, by simpa using h.kN.set_ 2 (.int .i64 y'), own_far h.row h.kN (by decide) 2 _, h.kF.far (p := ⟨gN, 2, none⟩) (Blk.ne_ h.kF h.kN (by decide)) _, h.kB.far (p := ⟨gN, 2, none⟩) (fun e => h.ad.nb e.symm) _, fun z hz => ⟨own_far (h.best z hz).1 h.kN (by decide) 2 _, (h.best z hz).2⟩, h.sep, h.vbo,
    h.kS.far (p := ⟨gN, 2, none⟩) (Blk.ne_ h.kS h.kN (by decide)) _, h.kL.far (p := ⟨gN, 2, none⟩) (Blk.ne_ h.kL h.kN (by decide)) _, h.kD.far (p := ⟨gN, 2, none⟩) (Blk.ne_ h.kD h.kN (by decide)) _, h.kT.far (p := ⟨gN, 2, none⟩) (Blk.ne_ h.kT h.kN (by decide)) _, h.left.far (p := ⟨gN, 2, none⟩) (Blk.ne_ (t := 3) h.left h.kN (by decide)) _⟩
/-- now's slice is set, where the row is that already -/
theorem SeaM.setV (h : SeaM wk B gN gF gB gS gL gD gT gR sS sD m l u y F b v vb ub bb W) {l' : List Int} {v' : Go.Value} (ho : W.ownsRow B 3 1 v' l'.length (rowV l')) (hs : v'.ownBlock = none ∨ v'.ownBlock ≠ vb.ownBlock) : SeaM wk B gN gF gB gS gL gD gT gR sS sD m l' u y F b v' vb ub bb (W.setCell ⟨gN, 0, none⟩ v') :=
  ⟨h.ad, h.low.setCell (by exact h.ad.lo.1) _, by simpa [World.setCell] using h.sz, by simpa using h.kN.set_ 0 v', own_far ho h.kN (by decide) 0 _, h.kF.far (p := ⟨gN, 0, none⟩) (Blk.ne_ h.kF h.kN (by decide)) _, h.kB.far (p := ⟨gN, 0, none⟩) (fun e => h.ad.nb e.symm) _, fun z hz => ⟨own_far (h.best z hz).1 h.kN (by decide) 0 _, (h.best z hz).2⟩, hs, h.vbo,
    h.kS.far (p := ⟨gN, 0, none⟩) (Blk.ne_ h.kS h.kN (by decide)) _, h.kL.far (p := ⟨gN, 0, none⟩) (Blk.ne_ h.kL h.kN (by decide)) _, h.kD.far (p := ⟨gN, 0, none⟩) (Blk.ne_ h.kD h.kN (by decide)) _, h.kT.far (p := ⟨gN, 0, none⟩) (Blk.ne_ h.kT h.kN (by decide)) _, h.left.far (p := ⟨gN, 0, none⟩) (Blk.ne_ (t := 3) h.left h.kN (by decide)) _⟩
/-- a number of left is set -/
theorem SeaM.setL (h : SeaM wk B gN gF gB gS gL gD gT gR sS sD m l u y F b v vb ub bb W) (i : Nat) (x : Int) : SeaM wk B gN gF gB gS gL gD gT gR sS sD m l u y (fun j => if j = i then x else F j) b v vb ub bb (W.setCell ⟨gR, i, none⟩ (.int .i64 x)) := by
  have hr : ∀ {vv : Go.Value} {n : Nat} {xs : List Go.Value}, W.ownsRow B 3 1 vv n xs → (W.setCell ⟨gR, i, none⟩ (.int .i64 x)).ownsRow B 3 1 vv n xs := fun {vv n xs} ho => own_heap ho fun g cs hg _ => by
    have := (ho.lt g hg).1
    have h2 := h.ad.hi
    exact Below.heap_setCell W ⟨gR, i, none⟩ _ g (by show g ≠ gR; omega)
  exact ⟨h.ad, h.low.setCell (by exact h.ad.lo.2.2.2) _, by simpa [World.setCell] using h.sz, h.kN.far (p := ⟨gR, i, none⟩) (Blk.ne_ (t' := 3) h.kN h.left (by decide)) _, hr h.row, h.kF.far (p := ⟨gR, i, none⟩) (Blk.ne_ (t' := 3) h.kF h.left (by decide)) _, h.kB.far (p := ⟨gR, i, none⟩) (Blk.ne_ (t' := 3) h.kB h.left (by decide)) _, fun z hz => ⟨hr (h.best z hz).1, (h.best z hz).2⟩, h.sep, h.vbo,
    h.kS.far (p := ⟨gR, i, none⟩) (Blk.ne_ (t' := 3) h.kS h.left (by decide)) _, h.kL.far (p := ⟨gR, i, none⟩) (Blk.ne_ (t' := 3) h.kL h.left (by decide)) _, h.kD.far (p := ⟨gR, i, none⟩) (Blk.ne_ (t' := 3) h.kD h.left (by decide)) _, h.kT.far (p := ⟨gR, i, none⟩) (Blk.ne_ (t' := 3) h.kT h.left (by decide)) _, h.left.set_ i x⟩
/-- the best is set, and found -/
theorem SeaM.setB (h : SeaM wk B gN gF gB gS gL gD gT gR sS sD m l u y F b v vb ub bb W) {z : PlT} {v' : Go.Value} (ho : W.ownsRow B 3 1 v' z.1.length (rowV z.1)) (hs : v.ownBlock = none ∨ v.ownBlock ≠ v'.ownBlock) :
    SeaM wk B gN gF gB gS gL gD gT gR sS sD m l u y F (some z) v v' z.2.1 z.2.2 ((((W.setCell ⟨gB, 0, none⟩ v').setCell ⟨gB, 1, none⟩ (.int .i64 z.2.1)).setCell ⟨gB, 2, none⟩ (.int .i64 z.2.2)).setCell ⟨gF, 0, none⟩ (.bool true)) := by
  have far : ∀ {g : Nat} {t : Go.TypeId} {cs : Array Go.Value}, Blk W g t cs → g ≠ gB → g ≠ gF → Blk ((((W.setCell ⟨gB, 0, none⟩ v').setCell ⟨gB, 1, none⟩ (.int .i64 z.2.1)).setCell ⟨gB, 2, none⟩ (.int .i64 z.2.2)).setCell ⟨gF, 0, none⟩ (.bool true)) g t cs := fun {g t cs} hk h1 h2 =>
    (((hk.far (p := ⟨gB, 0, none⟩) h1 _).far (p := ⟨gB, 1, none⟩) h1 _).far (p := ⟨gB, 2, none⟩) h1 _).far (p := ⟨gF, 0, none⟩) h2 _
  have hFB : gF ≠ gB := Blk.ne_ h.kF h.kB (by decide)
  have rw_ : ∀ {vv : Go.Value} {n : Nat} {xs : List Go.Value}, W.ownsRow B 3 1 vv n xs → ((((W.setCell ⟨gB, 0, none⟩ v').setCell ⟨gB, 1, none⟩ (.int .i64 z.2.1)).setCell ⟨gB, 2, none⟩ (.int .i64 z.2.2)).setCell ⟨gF, 0, none⟩ (.bool true)).ownsRow B 3 1 vv n xs := fun {vv n xs} ho => own_heap ho fun g cs hg hc => by
    have := (ho.lt g hg).1
    have h2 := h.ad.hi
    have hk : Blk W g 3 cs := hc
    exact (far hk (by omega) (by omega)).trans hc.symm
  have kB1 := ((h.kB.set_ 0 v').set_ 1 (.int .i64 z.2.1)).set_ 2 (.int .i64 z.2.2)
  have kF1 := ((h.kF.far (p := ⟨gB, 0, none⟩) hFB v').far (p := ⟨gB, 1, none⟩) hFB (.int .i64 z.2.1)).far (p := ⟨gB, 2, none⟩) hFB (.int .i64 z.2.2)
  refine ⟨h.ad, (((h.low.setCell (by exact h.ad.lo.2.2.1) _).setCell (by exact h.ad.lo.2.2.1) _).setCell (by exact h.ad.lo.2.2.1) _).setCell (by exact h.ad.lo.2.1) _, by simpa [World.setCell] using h.sz, far h.kN h.ad.nb (Blk.ne_ h.kN h.kF (by decide)), rw_ h.row, by simpa using kF1.set_ 0 (.bool true), ?_, fun z' hz => ?_, hs, fun e => (by cases e), far h.kS (Blk.ne_ h.kS h.kB (by decide)) (Blk.ne_ h.kS h.kF (by decide)), far h.kL (Blk.ne_ h.kL h.kB (by decide)) (Blk.ne_ h.kL h.kF (by decide)), far h.kD (Blk.ne_ h.kD h.kB (by decide)) (Blk.ne_ h.kD h.kF (by decide)), far h.kT (Blk.ne_ h.kT h.kB (by decide)) (Blk.ne_ h.kT h.kF (by decide)), far h.left (Blk.ne_ (t := 3) h.left h.kB (by decide)) (Blk.ne_ (t := 3) h.left h.kF (by decide))⟩
  · have := kB1.far (p := ⟨gF, 0, none⟩) (fun e => hFB e.symm) (.bool true)
    simpa using this
  · injection hz with hz
    subst hz
    exact ⟨rw_ ho, rfl, rfl⟩
/-- only now's row has grown -/
theorem SeaM.grow (h : SeaM wk B gN gF gB gS gL gD gT gR sS sD m l u y F b v vb ub bb W) {l' : List Int} {g9 c9 : Nat} (hg : W.grownBy X v.ownBlock) (ho : X.ownsRow B 3 1 (.slice (some ⟨g9, 0, none⟩) l'.length c9) l'.length (rowV l')) (hat : v.ownBlock = some g9 ∨ g9 = W.heap.size) :
    SeaM wk B gN gF gB gS gL gD gT gR sS sD m l' u y F b (.slice (some ⟨g9, 0, none⟩) l'.length c9) vb ub bb (X.setCell ⟨gN, 0, none⟩ (.slice (some ⟨g9, 0, none⟩) l'.length c9)) := by
  have hl := fun j hj => h.row.lt j hj
  have hn : ∀ g, g < B → some g ≠ v.ownBlock := fun g hgB e => by have := (hl g e.symm).1; omega
  have h2 := h.ad.hi
  have hvb : vb.ownBlock = none ∨ vb.ownBlock ≠ v.ownBlock := by
    rcases h.sep with e | e
    · by_cases q : vb.ownBlock = none
      · exact .inl q
      · exact .inr (by rw [e]; exact q)
    · exact .inr fun q => e q.symm
  have hb : ∀ z, b = some z → X.ownsRow B 3 1 vb z.1.length (rowV z.1) ∧ ub = z.2.1 ∧ bb = z.2.2 := fun z hz => ⟨own_kept2 (h.best z hz).1 hg hvb, (h.best z hz).2⟩
  have hs : (Go.Value.slice (some ⟨g9, 0, none⟩) l'.length c9).ownBlock = none ∨ (Go.Value.slice (some ⟨g9, 0, none⟩) l'.length c9).ownBlock ≠ vb.ownBlock := by
    right
    intro e
    have e2 : vb.ownBlock = some g9 := e.symm
    rcases hat with a | a
    · rcases h.sep with q | q
      · rw [q] at a; cases a
      · exact q (a.trans e2.symm)
    · cases hb0 : b with
      | none => rw [h.vbo hb0] at e2; simp [Value.ownBlock] at e2
      | some z => have := ((h.best z hb0).1.lt g9 e2).2; omega
  have hX : SeaM wk B gN gF gB gS gL gD gT gR sS sD m l' u y F b (.slice (some ⟨g9, 0, none⟩) l'.length c9) vb ub bb (X.setCell ⟨gN, 0, none⟩ (.slice (some ⟨g9, 0, none⟩) l'.length c9)) := by
    have kN := h.kN.grown hg (hn _ (by omega))
    have kF := h.kF.grown hg (hn _ (by omega))
    have kB := h.kB.grown hg (hn _ (by omega))
    have kS := h.kS.grown hg (hn _ (by omega))
    have kL := h.kL.grown hg (hn _ (by omega))
    have kD := h.kD.grown hg (hn _ (by omega))
    have kT := h.kT.grown hg (hn _ (by omega))
    have kR : RowF X gR F m := Blk.grown (t := 3) h.left hg (hn _ (by omega))
    exact ⟨h.ad, (h.low.grown hg h.low.size (fun p hp => by have := (hl p hp).1; have := h.ad.lo; omega)).setCell (by exact h.ad.lo.1) _, by have := hg.size; have := h.sz; simp [World.setCell]; omega, by simpa using kN.set_ 0 _, own_far ho kN (by decide) 0 _, kF.far (p := ⟨gN, 0, none⟩) (Blk.ne_ kF kN (by decide)) _, kB.far (p := ⟨gN, 0, none⟩) (fun e => h.ad.nb e.symm) _, fun z hz => ⟨own_far (hb z hz).1 kN (by decide) 0 _, (hb z hz).2⟩, hs, h.vbo,
      kS.far (p := ⟨gN, 0, none⟩) (Blk.ne_ kS kN (by decide)) _, kL.far (p := ⟨gN, 0, none⟩) (Blk.ne_ kL kN (by decide)) _, kD.far (p := ⟨gN, 0, none⟩) (Blk.ne_ kD kN (by decide)) _, kT.far (p := ⟨gN, 0, none⟩) (Blk.ne_ kT kN (by decide)) _, RowF.far kR (p := ⟨gN, 0, none⟩) (Blk.ne_ (t := 3) kR kN (by decide)) _⟩
  exact hX
end
end Go.Rl
