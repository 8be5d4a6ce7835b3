/- Words for the memory of Made; conditions: none. -/
import Derived.Test.YtnbnfadmbggfnaaCH
import Derived.Test.YtnbnfadmbggfnaaB1
set_option linter.unusedSimpArgs false
set_option linter.unusedVariables false
namespace Go.Rl
open Go.Fh Go.RowKit
/-- all blocks stay but two -/
structure Sm2 (g h : Nat) (X Y : Go.World) : Prop where
  os : Y.os = X.os
  tape : Y.tape = X.tape
  output : Y.output = X.output
  size : X.heap.size ≤ Y.heap.size
  block : ∀ j, j < X.heap.size → j ≠ g → j ≠ h → Y.heap[j]? = X.heap[j]?
theorem Sm2.refl (g h : Nat) (X : Go.World) : Sm2 g h X X := ⟨rfl, rfl, rfl, Nat.le_refl _, fun _ _ _ _ => rfl⟩
theorem Sm2.gr {g h : Nat} {X Y Z : Go.World} {r : Option Nat} (k : Sm2 g h X Y) (hg : Y.grownBy Z r) (hr : ∀ j, r = some j → j = g ∨ j = h ∨ X.heap.size ≤ j) : Sm2 g h X Z :=
  ⟨hg.os.trans k.os, hg.tape.trans k.tape, hg.output.trans k.output, Nat.le_trans k.size hg.size, fun j hj h1 h2 => (hg.block j (Nat.lt_of_lt_of_le hj k.size) (fun e => by rcases hr j e.symm with a | a | a <;> omega)).trans (k.block j hj h1 h2)⟩
theorem Sm2.own {g h : Nat} {X Y : Go.World} {base : Nat} {e : Go.TypeId} {s n : Nat} {v : Go.Value} {xs : List Go.Value} (k : Sm2 g h X Y) (ho : X.ownsRow base e s v n xs) (h1 : v.ownBlock ≠ some g) (h2 : v.ownBlock ≠ some h) : Y.ownsRow base e s v n xs :=
  own_heap ho fun b cs hb hc => k.block b (lt_of_heap hc) (fun e => h1 (by rw [hb, e])) (fun e => h2 (by rw [hb, e]))
end Go.Rl
namespace Go.Rl
open Go.Fh Go.RowKit
/-- a press that was made, in rows of one's own -/
structure MadeAt (w W : Go.World) (p : PrsD) (AW : Option Go.Addr) (c0 : Nat) (ms : List WebM) : Prop where
  low : Below w.heap.size w W
  eq : ms.map (·.1) = p.webs
  rW : W.ownsRow w.heap.size 41 4 (.slice AW ms.length c0) ms.length (ms.flatMap encWeb)
  rR : ∀ j (h : j < ms.length), W.ownsRow w.heap.size 54 4 (.slice ms[j].2.1 ms[j].1.reels.length ms[j].2.2) ms[j].1.reels.length (ms[j].1.reels.flatMap encReel)
theorem MadeAt.at_ {w W : Go.World} {p : PrsD} {AW : Option Go.Addr} {c0 : Nat} {ms : List WebM} (h : MadeAt w W p AW c0 ms) : PrsAt W W.heap.size p AW ms :=
  ⟨Sl.of_own (fun _ => rfl) h.rW, h.eq, fun i hi => Sl.of_own (fun _ => rfl) (h.rR i hi)⟩
end Go.Rl
namespace Go.Proofs.Ytnbnfadmbggfnaa
open Go.RowKit Go.Fh Go.Rl
/-- the numbers, the press in the making, and its place -/
structure MkP (w W : World) (A : Option Addr) (c : Nat) (l : List Nat) (g i gT : Nat) (cs : Array Value) : Prop where
  hd : DigAt W w.heap.size A c l g i
  kT : Blk W gT 26 cs
  kR : Blk W w.heap.size 26 #[.int .i64 0, .int .i64 0, .slice none 0 0]
  low : Below w.heap.size w W
  n1 : gT ≠ g
  n2 : w.heap.size < g
  n3 : w.heap.size < gT
section
variable {w W W' : World} {A : Option Addr} {c : Nat} {l : List Nat} {g i gT : Nat} {cs : Array Value}
theorem MkP.gr (h : MkP w W A c l g i gT cs) {r : Option Nat} (hg : W.grownBy W' r) (h1 : r ≠ some g) (h2 : r ≠ some gT) (h3 : r ≠ some w.heap.size) (h4 : ∀ j, r = some j → w.heap.size ≤ j) : MkP w W' A c l g i gT cs :=
  ⟨h.hd.gr hg h1 h4, h.kT.grown hg (fun e => h2 e.symm), h.kR.grown hg (fun e => h3 e.symm), h.low.grown hg h.low.size h4, h.n1, h.n2, h.n3⟩
theorem MkP.dig_ (h : MkP w W A c l g i gT cs) {i' : Nat} (hd : DigAt W' w.heap.size A c l g i') (hg : W.grownBy W' (some g)) : MkP w W' A c l g i' gT cs :=
  ⟨hd, h.kT.grown hg (fun e => h.n1 (by injection e)), h.kR.grown hg (fun e => by have := h.n2; injection e with e; omega), h.low.grown hg h.low.size (fun j e => by have := h.n2; injection e with e; omega), h.n1, h.n2, h.n3⟩
theorem MkP.row (h : MkP w W A c l g i gT cs) {base : Nat} {e : TypeId} {s n : Nat} {v : Value} {xs : List Value} (ho : W.ownsRow base e s v n xs) (he : e ≠ 26) (he2 : e ≠ 74) (hb : w.heap.size ≤ base) (hg : W.grownBy W' v.ownBlock) : MkP w W' A c l g i gT cs :=
  h.gr hg (fun e => own_blk_ne ho h.hd.k he2 e.symm) (fun e => own_blk_ne ho h.kT he e.symm) (fun e => own_blk_ne ho h.kR he e.symm) (fun j e => by have := (ho.lt j e).1; omega)
theorem MkP.set_ (h : MkP w W A c l g i gT cs) (k : Nat) (u : Value) : MkP w (W.setCell ⟨gT, k, none⟩ u) A c l g i gT (cs.setIfInBounds k u) :=
  ⟨h.hd.gr (gr_set W gT k u) (fun e => h.n1 (by injection e)) (fun j e => by have := h.n3; injection e with e; omega), h.kT.set_ k u, h.kR.far (p := ⟨gT, k, none⟩) (by have := h.n3; show w.heap.size ≠ gT; omega) u, h.low.setCell (by have := h.n3; show w.heap.size ≤ gT; omega) u, h.n1, h.n2, h.n3⟩
theorem MkP.fresh (h : MkP w W A c l g i gT cs) (o : Obj) : MkP w (W.alloc o) A c l g i gT cs := h.gr (World.grownBy_alloc W o none) (by simp) (by simp) (by simp) (by simp)
theorem MkP.drew (h : MkP w W A c l g i gT cs) : MkP w W.drew A c l g i gT cs := h.gr (gr_drew (gr_refl W none)) (by simp) (by simp) (by simp) (by simp)
end
/-- .. and a web in the making, its row of reels, and what stays since it was begun -/
structure MkR (w wp W : World) (A : Option Addr) (c : Nat) (l : List Nat) (g i gT : Nat) (cs : Array Value) (g6 : Nat) (cs6 : Array Value) (v : Value) (n : Nat) (xs : List Value) : Prop where
  pm : MkP w W A c l g i gT cs
  k6 : Blk W g6 41 cs6
  row : W.ownsRow wp.heap.size 54 4 v n xs
  sm : Sm2 g g6 wp W
  m1 : g6 ≠ g
  m2 : g6 ≠ gT
  m3 : w.heap.size < g6
  m4 : g6 < wp.heap.size
section
variable {w wp W W' : World} {A : Option Addr} {c : Nat} {l : List Nat} {g i gT g6 n : Nat} {cs cs6 : Array Value} {v : Value} {xs : List Value}
theorem MkR.gr (h : MkR w wp W A c l g i gT cs g6 cs6 v n xs) {r : Option Nat} (hg : W.grownBy W' r) (h1 : r ≠ some g) (h2 : r ≠ some gT) (h3 : r ≠ some g6) (h4 : v.ownBlock = none ∨ v.ownBlock ≠ r) (h5 : ∀ j, r = some j → wp.heap.size ≤ j) : MkR w wp W' A c l g i gT cs g6 cs6 v n xs := by
  have h6 := h.m3
  have h7 := h.m4
  exact ⟨h.pm.gr hg h1 h2 (fun e => by have := h5 _ e; omega) (fun j e => by have := h5 _ e; omega), h.k6.grown hg (fun e => h3 e.symm), h.row.kept hg h4, h.sm.gr hg (fun j e => .inr (.inr (h5 j e))), h.m1, h.m2, h.m3, h.m4⟩
theorem MkR.dig_ (h : MkR w wp W A c l g i gT cs g6 cs6 v n xs) {i' : Nat} (hd : DigAt W' w.heap.size A c l g i') (hg : W.grownBy W' (some g)) : MkR w wp W' A c l g i' gT cs g6 cs6 v n xs :=
  ⟨h.pm.dig_ hd hg, h.k6.grown hg (fun e => h.m1 (by injection e)), h.row.kept hg (.inr (fun e => own_blk_ne h.row h.pm.hd.k (by decide) e.symm)), h.sm.gr hg (fun j e => .inl (by injection e with e; exact e.symm)), h.m1, h.m2, h.m3, h.m4⟩
theorem MkR.fresh (h : MkR w wp W A c l g i gT cs g6 cs6 v n xs) (o : Obj) : MkR w wp (W.alloc o) A c l g i gT cs g6 cs6 v n xs := h.gr (World.grownBy_alloc W o none) (by simp) (by simp) (by simp) (by by_cases e : v.ownBlock = none; (exact .inl e); (exact .inr e)) (by simp)
theorem MkR.drew (h : MkR w wp W A c l g i gT cs g6 cs6 v n xs) : MkR w wp W.drew A c l g i gT cs g6 cs6 v n xs := h.gr (gr_drew (gr_refl W none)) (by simp) (by simp) (by simp) (by by_cases e : v.ownBlock = none; (exact .inl e); (exact .inr e)) (by simp)
/-- a store into a newer block that is no row -/
theorem MkR.far (h : MkR w wp W A c l g i gT cs g6 cs6 v n xs) {b : Nat} (hb : W.heap.size ≤ b ∨ ∃ cs', Blk W b 54 cs' ∧ wp.heap.size ≤ b ∧ v.ownBlock ≠ some b) (o : Nat) (u : Value) (hlt : b < W.heap.size) : MkR w wp (W.setCell ⟨b, o, none⟩ u) A c l g i gT cs g6 cs6 v n xs := by
  rcases hb with hb | ⟨cs', h1, h2, h3⟩
  · omega
  · have h7 := h.m4
    refine h.gr (gr_set W b o u) (fun e => ?_) (fun e => ?_) (fun e => ?_) (.inr h3) (fun j e => by injection e with e; omega)
    · exact Blk.ne_ h1 h.pm.hd.k (by decide) (by injection e)
    · exact Blk.ne_ h1 h.pm.kT (by decide) (by injection e)
    · injection e with e; omega
/-- a reel is added to the row, the new row is laid into the web -/
theorem MkR.add (h : MkR w wp W A c l g i gT cs g6 cs6 v n xs) {W9 : World} {v9 : Value} {n9 : Nat} {xs9 : List Value} (hg : W.grownBy W9 v.ownBlock) (ho : W9.ownsRow wp.heap.size 54 4 v9 n9 xs9) (u : Value) (k : Nat) : MkR w wp (W9.setCell ⟨g6, k, none⟩ u) A c l g i gT cs g6 (cs6.setIfInBounds k u) v9 n9 xs9 := by
  have hmk := h.pm.row h.row (by decide) (by decide) (by have := h.m3; have := h.m4; omega) hg
  have hk6 := h.k6.grown hg (own_blk_ne h.row h.k6 (by decide))
  refine ⟨hmk.gr (gr_set W9 g6 k u) (fun e => h.m1 (by injection e)) (fun e => h.m2 (by injection e)) (fun e => by have := h.m3; injection e with e; omega) (fun j e => by have := h.m3; injection e with e; omega), hk6.set_ k u, own_far ho (p := ⟨g6, k, none⟩) (own_blk_ne ho hk6 (by decide)) u, ?_, h.m1, h.m2, h.m3, h.m4⟩
  refine (h.sm.gr hg (fun j e => .inr (.inr (h.row.lt j e).1))).gr (gr_set W9 g6 k u) (fun j e => .inr (.inl (by injection e with e; exact e.symm)))
end
theorem digit_v (w : World) (B : Nat) (A : Option Addr) (c : Nat) (l : List Nat) (g i n : Nat) (m v : Int) (hm : m = (n : Int)) (hv : v = dig l i n) (h : DigAt w B A c l g i) (hi : i ≤ 1000000000) (hn : 0 < n) (hn2 : n ≤ 1000) :
    Calls Try.prog 31 #[.pointer (some ⟨g, 0, none⟩), .int .i64 m] w fun e w' => e = .returned (.int .i64 v) ∧ DigAt w' B A c l g (i + 1) ∧ w.grownBy w' (some g) := by
  subst hv; exact digit_gm w B A c l g i n m hm h hi hn hn2
theorem infoReel : (Try.prog.info? 54).map (fun i => (i.zero, i.size, i.bytes)) = some (some (.agg #[.int .i64 0, .int .i64 0, .int .i64 0, .int .i64 0]), 4, 32) := by kernel_rfl
theorem infoWeb : (Try.prog.info? 41).map (fun i => (i.zero, i.size, i.bytes)) = some (some (.agg #[.slice none 0 0, .int .i64 0, .int .i64 0, .int .i64 0]), 4, 48) := by kernel_rfl
end Go.Proofs.Ytnbnfadmbggfnaa
