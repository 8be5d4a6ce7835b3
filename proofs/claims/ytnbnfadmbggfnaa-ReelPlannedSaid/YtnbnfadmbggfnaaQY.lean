/- Words for the memory of a supply in the making; conditions: none. -/
import Derived.Test.YtnbnfadmbggfnaaQV
import Derived.Test.YtnbnfadmbggfnaaA5
import Derived.Test.YtnbnfadmbggfnaaCG
import Derived.Test.YtnbnfadmbggfnaaQT
import Derived.Deep.AppendLies
import Derived.Deep.CutBlock
set_option linter.unusedSimpArgs false
set_option linter.unusedVariables false
namespace Go.Fh
open Go.RowKit
theorem milw_type {W : World} {g : Nat} {e e' : TypeId} {b s n : Nat} {v : Value} {xs : List Value} {cs : Array Value} (ho : W.ownsRow b e' s v n xs) (hk : Blk W g e cs) (he : e' ≠ e) (i : Nat) (u : Value) : (W.setCell ⟨g, i, none⟩ u).ownsRow b e' s v n xs := by
  refine own_heap ho fun g' cs' hv hg => ?_
  exact Below.heap_setCell W ⟨g, i, none⟩ u g' (Blk.ne_ (t := e') (cs := cs') hg hk he)
theorem milw_cells {W : World} {g : Nat} {e : TypeId} {a0 a1 a2 a3 : Value} (k : Blk W g e #[a0, a1, a2, a3]) : W.cell? ⟨g, 0, none⟩ = some a0 ∧ W.cell? ⟨g, 1, none⟩ = some a1 ∧ W.cell? ⟨g, 2, none⟩ = some a2 ∧ W.cell? ⟨g, 3, none⟩ = some a3 := by
  have r0 := k.cell 0
  have r1 := k.cell 1
  have r2 := k.cell 2
  have r3 := k.cell 3
  simp at r0 r1 r2 r3
  exact ⟨r0, r1, r2, r3⟩
/-- a supply in the making: its box, its two rows -/
structure MilX (w X : World) (base g : Nat) (b1 b2 V1 V2 : Value) (n1 n2 : Nat) (xs1 xs2 : List Value) (kp rm : Int) : Prop where
  bel : Below w.heap.size w X
  kT : Blk X g 60 #[b1, b2, .int .i64 kp, .int .i64 rm]
  o1 : X.ownsRow base 3 1 V1 n1 xs1
  o2 : X.ownsRow base 3 1 V2 n2 xs2
  sep : V1.ownBlock = none ∨ V1.ownBlock ≠ V2.ownBlock
  gl : g < base
  hb : base ≤ X.heap.size
  wl : w.heap.size ≤ g
structure NewX (X : World) (gn : Nat) (u V1 V2 : Value) : Prop where
  blk : Blk X gn 3 #[u]
  n1 : some gn ≠ V1.ownBlock
  n2 : some gn ≠ V2.ownBlock
section
variable {w X X' : World} {base g : Nat} {b1 b2 V1 V2 : Value} {n1 n2 : Nat} {xs1 xs2 : List Value} {kp rm : Int}
theorem MilX.alloc (h : MilX w X base g b1 b2 V1 V2 n1 n2 xs1 xs2 kp rm) (o : Obj) : MilX w (X.alloc o) base g b1 b2 V1 V2 n1 n2 xs1 xs2 kp rm :=
  ⟨balR h.bel o, h.kT.alloc o, own_belowV h.o1 (balR (Below.refl _ _) o), own_belowV h.o2 (balR (Below.refl _ _) o), h.sep, h.gl, by have := h.hb; simp; omega, h.wl⟩
theorem MilX.drew (h : MilX w X base g b1 b2 V1 V2 n1 n2 xs1 xs2 kp rm) : MilX w X.drew base g b1 b2 V1 V2 n1 n2 xs1 xs2 kp rm :=
  ⟨h.bel.drew, h.kT, h.o1, h.o2, h.sep, h.gl, h.hb, h.wl⟩
theorem MilX.app1 (h : MilX w X base g b1 b2 V1 V2 n1 n2 xs1 xs2 kp rm) {g9 c9 m : Nat} {ys : List Value} (hg : X.grownBy X' V1.ownBlock) (ho : X'.ownsRow base 3 1 (.slice (some ⟨g9, 0, none⟩) m c9) m ys) (hat : V1.ownBlock = some g9 ∨ g9 = X.heap.size) : MilX w X' base g b1 b2 (.slice (some ⟨g9, 0, none⟩) m c9) V2 m n2 ys xs2 kp rm := by
  have hl := fun j hj => h.o1.lt j hj
  have hl2 := fun j hj => h.o2.lt j hj
  refine ⟨h.bel.grown hg ?_ fun p hp => ?_, h.kT.grown hg (fun e => ?_), ho, own_kept2 h.o2 hg ?_, .inr ?_, h.gl, Nat.le_trans h.hb hg.size, h.wl⟩
  · exact h.bel.size
  · have := (hl p hp).1
    have := h.gl
    have := h.wl
    omega
  · have := (hl g e.symm).1
    have := h.gl
    omega
  · rcases h.sep with e | e
    · rw [e]
      by_cases h2 : V2.ownBlock = none
      · exact .inl h2
      · exact .inr h2
    · exact .inr fun e2 => e e2.symm
  · intro e
    have e2 : V2.ownBlock = some g9 := e.symm
    rcases hat with a | a
    · rcases h.sep with s | s
      · rw [s] at a; cases a
      · exact s (a.trans e2.symm)
    · have := (hl2 g9 e2).2
      omega
theorem MilX.app2 (h : MilX w X base g b1 b2 V1 V2 n1 n2 xs1 xs2 kp rm) {g9 c9 m : Nat} {ys : List Value} (hg : X.grownBy X' V2.ownBlock) (ho : X'.ownsRow base 3 1 (.slice (some ⟨g9, 0, none⟩) m c9) m ys) (hat : V2.ownBlock = some g9 ∨ g9 = X.heap.size) : MilX w X' base g b1 b2 V1 (.slice (some ⟨g9, 0, none⟩) m c9) n1 m xs1 ys kp rm := by
  have hl := fun j hj => h.o2.lt j hj
  have hl1 := fun j hj => h.o1.lt j hj
  refine ⟨h.bel.grown hg ?_ fun p hp => ?_, h.kT.grown hg (fun e => ?_), own_kept2 h.o1 hg h.sep, ho, .inr ?_, h.gl, Nat.le_trans h.hb hg.size, h.wl⟩
  · exact h.bel.size
  · have := (hl p hp).1
    have := h.gl
    have := h.wl
    omega
  · have := (hl g e.symm).1
    have := h.gl
    omega
  · intro e
    have e2 : V1.ownBlock = some g9 := e
    rcases hat with a | a
    · rcases h.sep with s | s
      · rw [s] at e2; cases e2
      · exact s (e2.trans a.symm)
    · have := (hl1 g9 e2).2
      omega
theorem MilX.put (h : MilX w X base g b1 b2 V1 V2 n1 n2 xs1 xs2 kp rm) : MilX w ((X.setCell ⟨g, 0, none⟩ V1).setCell ⟨g, 1, none⟩ V2) base g V1 V2 V1 V2 n1 n2 xs1 xs2 kp rm := by
  have k1 := h.kT.set_ 0 V1
  have k2 := k1.set_ 1 V2
  have s1 : (X.setCell ⟨g, 0, none⟩ V1).heap.size = X.heap.size := by simp [World.setCell]
  have s2 : ((X.setCell ⟨g, 0, none⟩ V1).setCell ⟨g, 1, none⟩ V2).heap.size = X.heap.size := by simp [World.setCell]
  have hw := h.wl
  refine ⟨(h.bel.setCell (by exact hw) _).setCell (by exact hw) _, by simpa using k2, milw_type (milw_type h.o1 h.kT (by decide) 0 V1) k1 (by decide) 1 V2, milw_type (milw_type h.o2 h.kT (by decide) 0 V1) k1 (by decide) 1 V2, h.sep, h.gl, by rw [s2]; exact h.hb, h.wl⟩
theorem MilX.cells (h : MilX w X base g b1 b2 V1 V2 n1 n2 xs1 xs2 kp rm) : X.cell? ⟨g, 0, none⟩ = some b1 ∧ X.cell? ⟨g, 1, none⟩ = some b2 ∧ X.cell? ⟨g, 2, none⟩ = some (.int .i64 kp) ∧ X.cell? ⟨g, 3, none⟩ = some (.int .i64 rm) := milw_cells h.kT
theorem MilX.mid (h : MilX w X base g b1 b2 V1 V2 n1 n2 xs1 xs2 kp rm) (u : Value) : (X.setCell ⟨g, 0, none⟩ u).cell? ⟨g, 1, none⟩ = some b2 ∧ (X.setCell ⟨g, 0, none⟩ u).frozen? ⟨g, 1, none⟩ = false := by
  have k1 := h.kT.set_ 0 u
  have := k1.cell 1
  exact ⟨by rw [this]; simp, k1.frozen 1⟩
theorem NewX.make (h : MilX w X base g b1 b2 V1 V2 n1 n2 xs1 xs2 kp rm) (u : Value) : NewX (X.alloc (.cells #[u] 3)) X.heap.size u V1 V2 :=
  ⟨Blk.new _ _ _, fun e => by have := (h.o1.lt _ e.symm).2; omega, fun e => by have := (h.o2.lt _ e.symm).2; omega⟩
theorem NewX.alloc {gn : Nat} {u : Value} (h : NewX X gn u V1 V2) (o : Obj) : NewX (X.alloc o) gn u V1 V2 := ⟨h.blk.alloc o, h.n1, h.n2⟩
theorem NewX.app1 {gn : Nat} {u : Value} (h : NewX X gn u V1 V2) {g9 c9 m : Nat} (hg : X.grownBy X' V1.ownBlock) (hat : V1.ownBlock = some g9 ∨ g9 = X.heap.size) : NewX X' gn u (.slice (some ⟨g9, 0, none⟩) m c9) V2 :=
  ⟨h.blk.grown hg h.n1, fun e => by
    have e : gn = g9 := by simpa [Value.ownBlock] using e
    rcases hat with a | a
    · exact h.n1 (by rw [a, e])
    · have := h.blk.lt; omega, h.n2⟩
theorem NewX.app2 {gn : Nat} {u : Value} (h : NewX X gn u V1 V2) {g9 c9 m : Nat} (hg : X.grownBy X' V2.ownBlock) (hat : V2.ownBlock = some g9 ∨ g9 = X.heap.size) : NewX X' gn u V1 (.slice (some ⟨g9, 0, none⟩) m c9) :=
  ⟨h.blk.grown hg h.n2, h.n1, fun e => by
    have e : gn = g9 := by simpa [Value.ownBlock] using e
    rcases hat with a | a
    · exact h.n2 (by rw [a, e])
    · have := h.blk.lt; omega⟩
end
end Go.Fh
namespace Go.Rl
open Go.Fh Go.RowKit
def mil1 (l : List Nat) (k : Nat) : List Go.Value := (l.take k).map fun (v : Nat) => Go.Value.int .i64 ((v % 60 : Nat) : Int)
def mil2 (l : List Nat) (k : Nat) : List Go.Value := (l.take k).map fun (v : Nat) => Go.Value.int .i64 (v : Int)
theorem mil1_s {l : List Nat} {k : Nat} (h : k < l.length) : mil1 l (k + 1) = mil1 l k ++ [.int .i64 ((l[k] % 60 : Nat) : Int)] := by
  unfold mil1; rw [List.take_succ_eq_append_getElem h, List.map_append]; rfl
theorem mil2_s {l : List Nat} {k : Nat} (h : k < l.length) : mil2 l (k + 1) = mil2 l k ++ [.int .i64 (l[k] : Int)] := by
  unfold mil2; rw [List.take_succ_eq_append_getElem h, List.map_append]; rfl
theorem mil1_eq (need order : List Nat) (n : Nat) (kp rm : Int) : mil1 need n = (milS need order n kp rm).need.map (Go.Value.int .i64) := by unfold mil1 milS; rw [List.map_map]; rfl
theorem mil2_eq (need order : List Nat) (n : Nat) (kp rm : Int) : mil2 order n = (milS need order n kp rm).order.map (Go.Value.int .i64) := by unfold mil2 milS; rw [List.map_map]; rfl
theorem milS_n {need order : List Nat} {n : Nat} {kp rm : Int} (h : n ≤ need.length) : (milS need order n kp rm).need.length = n := by unfold milS; simp; omega
theorem milS_o {need order : List Nat} {n : Nat} {kp rm : Int} (h : n ≤ order.length) : (milS need order n kp rm).order.length = n := by unfold milS; simp; omega
theorem chgL_eq (s : SupD) (k : Nat) (y : Int) : upF (fun j => if j = k then leaV s k + y else leaV s j) (s.need.length + 1) = chgL s k y := by
  unfold chgL
  refine List.ext_getElem (by rw [upF_len, List.length_set, upF_len]) fun i h1 h2 => ?_
  rw [upF_get, List.getElem_set]
  by_cases e : k = i
  · rw [if_pos e, if_pos e.symm]
  · rw [if_neg e, if_neg (fun h => e h.symm), upF_get]
theorem wks_len {n : Nat} {ws : List Nat} (h : WksOk n ws) : ws.length ≤ n := by
  have hj : ∀ j, j < ws.length → j ≤ ws.getD j 0 := by
    intro j
    induction j with
    | zero => omega
    | succ j ih => intro hj; have := h.up j hj; have := ih (by omega); omega
  have h1 := h.l1
  have := hj (ws.length - 1) (by omega)
  have := h.lt (ws.length - 1) (by omega)
  omega
theorem cas_app (l : List Nat) (x : Nat) : (casts (l ++ [x])).map (Go.Value.int .i64) = (casts l).map (Go.Value.int .i64) ++ [.int .i64 (x : Int)] := by unfold casts; simp
end Go.Rl
namespace Go.Fh
open Go.RowKit Go.Rl
theorem own_cas {W : World} {B : Nat} {A : Option Addr} {c : Nat} {L : List Nat} (h : W.ownsRow B 3 1 (.slice A L.length c) L.length ((casts L).map (Value.int .i64))) : Sl encInt 1 W W.heap.size A (casts L) := own_sl (c := c) (B := B) (by rw [cas_len]; exact h)
theorem mil_at {w X : World} {base g : Nat} {b1 b2 : Value} {n : Nat} {A1 A2 : Option Addr} {c1 c2 : Nat} {need order : List Nat} {kp rm kp' rm' : Int} (h : MilX w X base g b1 b2 (.slice A1 n c1) (.slice A2 n c2) n n (mil1 need n) (mil2 order n) kp rm) (h1 : n ≤ need.length) (h2 : n ≤ order.length) :
    SupAt X X.heap.size (milS need order n kp' rm') ⟨A1, c1, A2, c2⟩ := by
  have e1 := milS_n (order := order) (kp := kp') (rm := rm') h1
  have e2 := milS_o (need := need) (kp := kp') (rm := rm') h2
  have o1 := h.o1
  have o2 := h.o2
  rw [mil1_eq need order n kp' rm'] at o1
  rw [mil2_eq need order n kp' rm'] at o2
  refine ⟨own_sl (c := c1) (B := base) ?_, own_sl (c := c2) (B := base) ?_⟩
  · rw [e1]; exact o1
  · rw [e2]; exact o2
end Go.Fh
