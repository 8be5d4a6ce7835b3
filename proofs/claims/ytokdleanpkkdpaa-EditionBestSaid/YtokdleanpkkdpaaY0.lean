/- Words for rows that turn: stores and growth; conditions: none. -/
import Derived.Test.YtokdleanpkkdpaaX1
import Derived.Test.YtokdleanpkkdpaaD4
set_option linter.unusedSimpArgs false
set_option linter.unusedVariables false
namespace Go.Fh
open Go.RowKit
theorem gr_set (W : World) (b o : Nat) (u : Value) : W.grownBy (W.setCell ⟨b, o, none⟩ u) (some b) :=
  ⟨rfl, rfl, rfl, by simp [World.setCell], fun j hj hne => Below.heap_setCell W _ u j (by intro e; exact hne (by rw [e]))⟩
theorem gr_refl (w : World) (r : Option Nat) : w.grownBy w r := ⟨rfl, rfl, rfl, Nat.le_refl _, fun _ _ _ => rfl⟩
theorem gr_drew {w w' : World} {r : Option Nat} (h : w.grownBy w' r) : w.grownBy w'.drew r := ⟨h.os, (((Below.refl w'.heap.size w').drew).tape).trans h.tape, h.output, h.size, h.block⟩
theorem gr_trans {w w' w'' : World} {r : Option Nat} (h : w.grownBy w' r) (hg : w'.grownBy w'' r) : w.grownBy w'' r :=
  ⟨hg.os.trans h.os, hg.tape.trans h.tape, hg.output.trans h.output, Nat.le_trans h.size hg.size, fun k hk q => (hg.block k (Nat.lt_of_lt_of_le hk h.size) q).trans (h.block k hk q)⟩
theorem gr_below {w w' : World} (hb : Below w.heap.size w w') (r : Option Nat) : w.grownBy w' r := ⟨hb.os, hb.tape, hb.output, hb.size, fun j hj _ => hb.block j hj⟩
theorem gr_same {g : Nat} {w w' : World} (h : Go.Ed.Same g g none w w') : w.grownBy w' (some g) :=
  ⟨h.os, h.tape, h.output, h.size, fun j hj hne => h.block j hj (fun e => hne (by rw [e])) (fun e => hne (by rw [e])) (by simp)⟩
theorem gr_alloc {w w' : World} {r : Option Nat} (h : w.grownBy w' r) (o : Obj) : w.grownBy (w'.alloc o) r := gr_trans h (World.grownBy_alloc w' o r)
/-- a store into a row of one's own -/
theorem own_put {w : World} {base : Nat} {e : TypeId} {size g n cap : Nat} {xs : List Value} (h : w.ownsRow base e size (.slice (some ⟨g, 0, none⟩) n cap) n xs) (i : Nat) (u : Value) : (w.setCell ⟨g, i, none⟩ u).ownsRow base e size (.slice (some ⟨g, 0, none⟩) n cap) n (xs.set i u) := by
  rcases h.2 with ⟨e0, _⟩ | ⟨g', cap', cur, e0, hb, hg, hn, hm, hs, ht⟩
  · cases e0
  · injection e0 with e1 _ e3
    injection e1 with e1
    injection e1 with e1
    subst e1; subst e3
    have hk : Blk w g e cur := hg
    refine ⟨by rw [List.length_set]; exact h.1, .inr ⟨g, cap, _, rfl, hb, hk.set_ i u, hn, hm, by simpa using hs, ?_⟩⟩
    rw [Array.toList_setIfInBounds, List.take_set, ht]
theorem own_kept2 {w w' : World} {base : Nat} {e : TypeId} {size n : Nat} {v : Value} {xs : List Value} (h : w.ownsRow base e size v n xs) {r : Option Nat} (hg : w.grownBy w' r) (hr : v.ownBlock = none ∨ v.ownBlock ≠ r) : w'.ownsRow base e size v n xs := h.kept hg hr
end Go.Fh
namespace Go.Proofs.Ytokdleanpkkdpaa
open Go.RowKit Go.Fh Go.Ed
theorem DigAt.gr {w w' : World} {B : Nat} {A : Option Addr} {c : Nat} {l : List Nat} {g i : Nat} {r : Option Nat} (h : DigAt w B A c l g i) (hg : w.grownBy w' r) (hr : r ≠ some g) (hlo : ∀ j, r = some j → B ≤ j) : DigAt w' B A c l g i :=
  ⟨h.k.grown hg (fun e => hr e.symm), h.s.keep fun p hp => by
    have h1 := h.lo
    have h2 := h.k.lt
    exact hg.cell_far p (by omega) (fun e => by have := hlo _ e.symm; omega), h.lo, h.len, h.bd⟩
theorem digit_gr (w : World) (B : Nat) (A : Option Addr) (c : Nat) (l : List Nat) (g i n : Nat) (h : DigAt w B A c l g i) (hi : i ≤ 1000000000) (hn : 0 < n) (hn2 : n ≤ 1000) :
    Calls Try.prog 60 #[.pointer (some ⟨g, 0, none⟩), .int .i64 n] w fun e w' => e = .returned (.int .i64 (dig l i n)) ∧ DigAt w' B A c l g (i + 1) ∧ w.grownBy w' (some g) :=
  (digit_any w B A c l g i n h hi hn hn2).mono (by rintro e w' ⟨h1, h2, h3⟩; exact ⟨h1, h2, gr_same h3⟩)
end Go.Proofs.Ytokdleanpkkdpaa
namespace Go.Proofs.Ytokdleanpkkdpaa
open Go.RowKit Go.Fh Go.Ed
theorem digit_gm (w : World) (B : Nat) (A : Option Addr) (c : Nat) (l : List Nat) (g i n : Nat) (m : Int) (hm : m = (n : Int)) (h : DigAt w B A c l g i) (hi : i ≤ 1000000000) (hn : 0 < n) (hn2 : n ≤ 1000) :
    Calls Try.prog 60 #[.pointer (some ⟨g, 0, none⟩), .int .i64 m] w fun e w' => e = .returned (.int .i64 (dig l i n)) ∧ DigAt w' B A c l g (i + 1) ∧ w.grownBy w' (some g) := by
  subst hm; exact digit_gr w B A c l g i n h hi hn hn2
end Go.Proofs.Ytokdleanpkkdpaa
namespace Go.Proofs.Ytokdleanpkkdpaa
open Go.RowKit Go.Fh Go.Ed
/-- the numbers, the title in the making, and its place -/
structure Mk (w W : World) (A : Option Addr) (c : Nat) (l : List Nat) (g i gT : Nat) (cs : Array Value) : Prop where
  hd : DigAt W w.heap.size A c l g i
  kT : Blk W gT 26 cs
  kR : Blk W w.heap.size 26 #[.slice none 0 0, .slice none 0 0, .slice none 0 0, .slice none 0 0, .int .i64 0, .int .i64 0, .int .i64 0, .int .i64 0]
  low : Below w.heap.size w W
  n1 : gT ≠ g
  n2 : w.heap.size < g
  n3 : w.heap.size < gT
section
variable {w W W' : World} {A : Option Addr} {c : Nat} {l : List Nat} {g i gT : Nat} {cs : Array Value}
theorem Mk.gr (h : Mk w W A c l g i gT cs) {r : Option Nat} (hg : W.grownBy W' r) (h1 : r ≠ some g) (h2 : r ≠ some gT) (h3 : r ≠ some w.heap.size) (h4 : ∀ j, r = some j → w.heap.size ≤ j) : Mk w W' A c l g i gT cs :=
  ⟨h.hd.gr hg h1 h4, h.kT.grown hg (fun e => h2 e.symm), h.kR.grown hg (fun e => h3 e.symm), h.low.grown hg h.low.size h4, h.n1, h.n2, h.n3⟩
theorem Mk.dig_ (h : Mk w W A c l g i gT cs) {i' : Nat} (hd : DigAt W' w.heap.size A c l g i') (hg : W.grownBy W' (some g)) : Mk w W' A c l g i' gT cs :=
  ⟨hd, h.kT.grown hg (fun e => h.n1 (by injection e)), h.kR.grown hg (fun e => by have := h.n2; injection e with e; omega), h.low.grown hg h.low.size (fun j e => by have := h.n2; injection e with e; omega), h.n1, h.n2, h.n3⟩
theorem Mk.row (h : Mk w W A c l g i gT cs) {base : Nat} {e : TypeId} {s n : Nat} {v : Value} {xs : List Value} (ho : W.ownsRow base e s v n xs) (he : e ≠ 26) (he2 : e ≠ 122) (hb : w.heap.size ≤ base) (hg : W.grownBy W' v.ownBlock) : Mk w W' A c l g i gT cs :=
  h.gr hg (fun e => own_blk_ne ho h.hd.k he2 e.symm) (fun e => own_blk_ne ho h.kT he e.symm) (fun e => own_blk_ne ho h.kR he e.symm) (fun j e => by have := (ho.lt j e).1; omega)
theorem Mk.set_ (h : Mk w W A c l g i gT cs) (k : Nat) (u : Value) : Mk w (W.setCell ⟨gT, k, none⟩ u) A c l g i gT (cs.setIfInBounds k u) :=
  ⟨h.hd.gr (gr_set W gT k u) (fun e => h.n1 (by injection e)) (fun j e => by have := h.n3; injection e with e; omega), h.kT.set_ k u, h.kR.far (p := ⟨gT, k, none⟩) (by have := h.n3; show w.heap.size ≠ gT; omega) u, h.low.setCell (by have := h.n3; show w.heap.size ≤ gT; omega) u, h.n1, h.n2, h.n3⟩
theorem Mk.fresh (h : Mk w W A c l g i gT cs) (o : Obj) : Mk w (W.alloc o) A c l g i gT cs := h.gr (World.grownBy_alloc W o none) (by simp) (by simp) (by simp) (by simp)
theorem Mk.drew (h : Mk w W A c l g i gT cs) : Mk w W.drew A c l g i gT cs := h.gr (gr_drew (gr_refl W none)) (by simp) (by simp) (by simp) (by simp)
end
end Go.Proofs.Ytokdleanpkkdpaa
namespace Go.Proofs.Ytokdleanpkkdpaa
open Go.RowKit Go.Fh Go.Ed
theorem digit_gt (w : World) (B : Nat) (A : Option Addr) (c : Nat) (l : List Nat) (g i : Nat) (m : Int) (h : DigAt w B A c l g i ∧ i ≤ 1000000000 ∧ 0 < m ∧ m ≤ 1000) :
    Calls Try.prog 60 #[.pointer (some ⟨g, 0, none⟩), .int .i64 m] w fun e w' => e = .returned (.int .i64 (dig l i m.toNat)) ∧ DigAt w' B A c l g (i + 1) ∧ w.grownBy w' (some g) :=
  digit_gm w B A c l g i m.toNat m (by omega) h.1 h.2.1 (by omega) (by omega)
end Go.Proofs.Ytokdleanpkkdpaa
namespace Go.Fh
open Go.RowKit Go.Ed
theorem same_own {gO gB : Nat} {w w' : World} {base : Nat} {e : TypeId} {s n : Nat} {v : Value} {xs : List Value} (h : Same gO gB none w w') (ho : w.ownsRow base e s v n xs) (h1 : some gO ≠ v.ownBlock) (h2 : some gB ≠ v.ownBlock) : w'.ownsRow base e s v n xs :=
  own_heap ho fun g cs hv hg => h.block g (Array.getElem?_eq_some_iff.1 hg).1 (fun e => h1 (by rw [hv, e])) (fun e => h2 (by rw [hv, e])) (by simp)
theorem same_gr {gO gB : Nat} {w W W' : World} {r : Option Nat} (h : Same gO gB none w W) (hg : W.grownBy W' r) (hr : ∀ j, r = some j → w.heap.size ≤ j ∨ j = gO ∨ j = gB) : Same gO gB none w W' :=
  h.grown hg fun j e => by
    rcases hr j e with a | a | a
    · exact .inl a
    · exact .inr (.inl a)
    · exact .inr (.inr (.inl a))
end Go.Fh
namespace Go.Ed
theorem dueM_i (l : List Nat) (i : Nat) : (dueM l i).2 ≤ i + 2 := by unfold dueM; split <;> simp
theorem zonM_i (l : List Nat) (n i : Nat) : (zonM l n i).2 ≤ i + 3 + n := by
  have := dueM_i l (i + 1)
  show (dueM l (i + 1)).2 + n ≤ _
  omega
theorem zonsM_i (l : List Nat) (n i k : Nat) : (zonsM l n i k).2 ≤ i + k * (3 + n) := by
  induction k with
  | zero => simp [zonsM]
  | succ k ih =>
    have := zonM_i l n (zonsM l n i k).2
    show (zonM l n (zonsM l n i k).2).2 ≤ _
    rw [Nat.add_mul]
    omega
theorem rdyM_i (l : List Nat) (i k : Nat) : (rdyM l i k).2 ≤ i + 3 * k := by
  induction k with
  | zero => simp [rdyM]
  | succ k ih => unfold rdyM; split <;> simp <;> omega
end Go.Ed
