/- Base: words for memory: slices that read as lists; conditions: none. -/
import Derived.WalkKit
import Derived.Lib.Hide
import Derived.OwnWalk
import Derived.Deep.AppendLies
import Derived.Deep.Draws
import Derived.Laws.OwnMore
import Derived.Laws.Rows
set_option linter.unusedSimpArgs false
set_option linter.unusedVariables false
namespace Go.Fh
open Go.RowKit

theorem bcell {W w1 : World} (hb : Below W.heap.size W w1) : (∀ b o, b < W.heap.size → w1.cell? ⟨b, o, none⟩ = W.cell? ⟨b, o, none⟩) ∧ (∀ b o, b < W.heap.size → w1.frozen? ⟨b, o, none⟩ = W.frozen? ⟨b, o, none⟩) :=
  ⟨fun b o h => hb.cell (p := ⟨b, o, none⟩) h, fun b o h => hb.frozen (p := ⟨b, o, none⟩) h⟩

/-- The slice address A, of as many elements as l has, each of 'size' cells, reads as l; it lies below block B. -/
def Sl {α : Type} (enc : α → List Value) (size : Nat) (w : World) (B : Nat) (A : Option Addr) (l : List α) : Prop :=
  l ≠ [] → ∃ b off, A = some ⟨b, off, none⟩ ∧ b < B ∧ ∀ k x, l[k]? = some x → ∀ j u, (enc x)[j]? = some u → w.cell? ⟨b, off + k * size + j, none⟩ = some u

def encInt (n : Int) : List Value := [.int .i64 n]
def enc2 (d : Int × Int) : List Value := [.int .i64 d.1, .int .i64 d.2]
def enc3 (d : Int × Int × Int) : List Value := [.int .i64 d.1, .int .i64 d.2.1, .int .i64 d.2.2]

section
variable {α : Type} {enc : α → List Value} {size B B' : Nat} {w w' : World} {A : Option Addr} {l : List α}
theorem Sl.keep (h : Sl enc size w B A l) (hk : ∀ p : Addr, p.block < B → w'.cell? p = w.cell? p) : Sl enc size w' B A l := fun hn => by
  obtain ⟨b, off, hA, hb, hc⟩ := h hn
  exact ⟨b, off, hA, hb, fun k x hx j u hu => (hk _ hb).trans (hc k x hx j u hu)⟩
theorem Sl.mono (h : Sl enc size w B A l) (hB : B ≤ B') : Sl enc size w B' A l := fun hn => by
  obtain ⟨b, off, hA, hb, hc⟩ := h hn
  exact ⟨b, off, hA, Nat.lt_of_lt_of_le hb hB, hc⟩
theorem Sl.below (h : Sl enc size w B A l) (hb : Below B w w') : Sl enc size w' B A l := h.keep fun _ hp => hb.cell hp
theorem Sl.nil : Sl enc size w B A [] := fun h => absurd rfl h
theorem Sl.at_ (h : Sl enc size w B A l) {k : Nat} (hk : k < l.length) : ∃ b off, A = some ⟨b, off, none⟩ ∧ b < B ∧ ∀ j u, (enc l[k])[j]? = some u → w.cell? ⟨b, off + k * size + j, none⟩ = some u := by
  obtain ⟨b, off, hA, hb, hc⟩ := h (by intro e; subst e; simp at hk)
  exact ⟨b, off, hA, hb, fun j u hu => hc k _ (List.getElem?_eq_getElem hk) j u hu⟩
end

theorem Sl.none_nil {α : Type} {enc : α → List Value} {size B : Nat} {w : World} {l : List α} (h : Sl enc size w B none l) : l = [] := by
  cases l with
  | nil => rfl
  | cons x l => obtain ⟨b, off, h, _⟩ := h (by simp); cases h
theorem Sl.at1 {B : Nat} {w : World} {A : Option Addr} {l : List Int} (h : Sl encInt 1 w B A l) {k : Nat} (hk : k < l.length) :
    ∃ b off, A = some ⟨b, off, none⟩ ∧ b < B ∧ w.cell? ⟨b, off + k, none⟩ = some (.int .i64 l[k]) := by
  obtain ⟨b, off, hA, hb, hc⟩ := h.at_ hk
  exact ⟨b, off, hA, hb, by simpa using hc 0 _ rfl⟩
theorem Sl.at2 {B : Nat} {w : World} {A : Option Addr} {l : List (Int × Int)} (h : Sl enc2 2 w B A l) {k : Nat} (hk : k < l.length) :
    ∃ b off, A = some ⟨b, off, none⟩ ∧ b < B ∧ w.cell? ⟨b, off + k * 2, none⟩ = some (.int .i64 l[k].1) ∧ w.cell? ⟨b, off + k * 2 + 1, none⟩ = some (.int .i64 l[k].2) := by
  obtain ⟨b, off, hA, hb, hc⟩ := h.at_ hk
  exact ⟨b, off, hA, hb, hc 0 _ rfl, hc 1 _ rfl⟩
theorem Sl.at3 {B : Nat} {w : World} {A : Option Addr} {l : List (Int × Int × Int)} (h : Sl enc3 3 w B A l) {k : Nat} (hk : k < l.length) :
    ∃ b off, A = some ⟨b, off, none⟩ ∧ b < B ∧ w.cell? ⟨b, off + k * 3, none⟩ = some (.int .i64 l[k].1) ∧ w.cell? ⟨b, off + k * 3 + 1, none⟩ = some (.int .i64 l[k].2.1) ∧ w.cell? ⟨b, off + k * 3 + 2, none⟩ = some (.int .i64 l[k].2.2) := by
  obtain ⟨b, off, hA, hb, hc⟩ := h.at_ hk
  exact ⟨b, off, hA, hb, hc 0 _ rfl, hc 1 _ rfl, hc 2 _ rfl⟩

theorem below_drewN {B : Nat} {a w : World} (h : Below B a w) (n : Nat) : Below B a (w.drewN n) := ⟨h.os, h.tape, h.output, h.size, h.block⟩
theorem ret_int {k : IntKind} {a b : Int} (h : a = b) : Ending.returned (.int k a) = .returned (.int k b) := by rw [h]
theorem ret_bool {a b : Bool} (h : a = b) : Ending.returned (.bool a) = .returned (.bool b) := by rw [h]
theorem int_eq {k : IntKind} {a b : Int} (h : a = b) : Value.int k a = .int k b := by rw [h]
/-- flattened cells -/
theorem Sl.flat {α : Type} {enc : α → List Value} {size B : Nat} {w : World} {ad : Addr} {l : List α} (hs : ∀ x, (enc x).length = size) (h : Sl enc size w B (some ad) l) :
    ∀ j u, (l.flatMap enc)[j]? = some u → w.cell? (ad.add j) = some u := by
  intro j u hu
  have hn : l ≠ [] := by intro e; subst e; simp at hu
  obtain ⟨b, off, e, _, hc⟩ := h hn
  injection e with e; subst e
  have hadd : (⟨b, off, none⟩ : Addr).add j = ⟨b, off + j, none⟩ := by unfold Addr.add; split <;> simp_all
  rw [hadd]
  have key : ∀ (l : List α) (k0 : Nat), (∀ k x, l[k]? = some x → ∀ j u, (enc x)[j]? = some u → w.cell? ⟨b, off + (k0 + k) * size + j, none⟩ = some u) → ∀ j u, (l.flatMap enc)[j]? = some u → w.cell? ⟨b, off + k0 * size + j, none⟩ = some u := by
    intro l
    induction l with
    | nil => intro k0 _ j u hu; simp at hu
    | cons x l ih =>
      intro k0 hc j u hu
      rw [List.flatMap_cons] at hu
      by_cases hj : j < size
      · rw [List.getElem?_append_left (by rw [hs]; exact hj)] at hu
        exact hc 0 x rfl j u hu
      · rw [List.getElem?_append_right (by rw [hs]; omega), hs] at hu
        have := ih (k0 + 1) (fun k y hy j u hu => by
          have := hc (k + 1) y (by simpa using hy) j u hu
          rw [show k0 + 1 + k = k0 + (k + 1) by omega]; exact this) (j - size) u hu
        rw [show off + k0 * size + j = off + (k0 + 1) * size + (j - size) by rw [Nat.add_mul]; omega]
        exact this
  simpa using key l 0 (by simpa using hc) j u hu

theorem length_flat {α : Type} {enc : α → List Value} {size : Nat} (hs : ∀ x, (enc x).length = size) (l : List α) : (l.flatMap enc).length = l.length * size := by
  induction l with
  | nil => simp
  | cons x l ih => simp [List.flatMap_cons, ih, hs, Nat.add_mul]; omega

/-- an owned row reads as a list -/
theorem Sl.of_own {α : Type} {enc : α → List Value} {size base : Nat} {w : World} {e : TypeId} {A : Option Addr} {c : Nat} {l : List α} (hs : ∀ x, (enc x).length = size)
    (h : w.ownsRow base e size (.slice A l.length c) l.length (l.flatMap enc)) : Sl enc size w w.heap.size A l := by
  intro hn
  have hpos : 0 < l.length := List.length_pos_iff.2 hn
  rcases h.2 with ⟨_, h0⟩ | ⟨g, cap, cur, hv, hb, hh, hle, hcap, hsz, htake⟩
  · omega
  · injection hv with hA h2 h3
    subst hA
    refine ⟨g, 0, rfl, (Array.getElem?_eq_some_iff.1 hh).1, fun k x hx j u hu => ?_⟩
    have hj : j < size := by
      rcases Nat.lt_or_ge j size with h | h
      · exact h
      · rw [List.getElem?_eq_none (by rw [hs]; exact h)] at hu; cases hu
    have hflat : (l.flatMap enc)[k * size + j]? = some u := by
      have key : ∀ (l : List α) (k : Nat) (x : α), l[k]? = some x → (enc x)[j]? = some u → (l.flatMap enc)[k * size + j]? = some u := by
        intro l
        induction l with
        | nil => intro k x hx; simp at hx
        | cons y l ih =>
          intro k x hx hu
          rw [List.flatMap_cons]
          cases k with
          | zero =>
            simp at hx; subst hx
            rw [List.getElem?_append_left (by rw [hs]; omega)]
            simpa using hu
          | succ k =>
            rw [List.getElem?_append_right (by rw [hs, Nat.add_mul]; omega), hs]
            rw [show (k + 1) * size + j - size = k * size + j by rw [Nat.add_mul]; omega]
            exact ih k x (by simpa using hx) hu
      exact key l k x hx hu
    have := h.cells (g := g) rfl (k * size + j) u hflat
    have hadd : (⟨g, 0, none⟩ : Addr).add (k * size + j) = ⟨g, 0 + k * size + j, none⟩ := by unfold Addr.add; split <;> simp_all
    rw [hadd] at this
    exact this

theorem own_shape {w : World} {base : Nat} {e : TypeId} {size : Nat} {v : Value} {n : Nat} {xs : List Value} (h : w.ownsRow base e size v n xs) : ∃ A c, v = .slice A n c := by
  rcases h.2 with ⟨rfl, rfl⟩ | ⟨g, cap, cur, rfl, _⟩
  · exact ⟨none, 0, rfl⟩
  · exact ⟨_, _, rfl⟩


/-- block g is just the cells cs of element type t, none frozen -/
def Blk (w : World) (g : Nat) (t : TypeId) (cs : Array Value) : Prop := w.heap[g]? = some (.cells cs t (0, 0))
section
variable {w w' : World} {g : Nat} {t : TypeId} {cs : Array Value}
theorem Blk.lt (h : Blk w g t cs) : g < w.heap.size := by
  rcases Nat.lt_or_ge g w.heap.size with hlt | hge
  · exact hlt
  · unfold Blk at h; rw [Array.getElem?_eq_none hge] at h; cases h
theorem Blk.cell (h : Blk w g t cs) (i : Nat) : w.cell? ⟨g, i, none⟩ = cs[i]? := cell_of_row w g i cs t (0, 0) h
theorem Blk.frozen (h : Blk w g t cs) (i : Nat) : w.frozen? ⟨g, i, none⟩ = false := by
  unfold Blk at h
  simp [World.frozen?, h]
theorem Blk.new (w : World) (t : TypeId) (cs : Array Value) : Blk (w.alloc (.cells cs t)) w.heap.size t cs := heap_alloc_new w _
theorem Blk.drew (h : Blk w g t cs) : Blk w.drew g t cs := h
theorem Blk.drewN (h : Blk w g t cs) (n : Nat) : Blk (w.drewN n) g t cs := h
theorem Blk.alloc (h : Blk w g t cs) (o : Obj) : Blk (w.alloc o) g t cs := (Below.heap_alloc w o g h.lt).trans h
theorem Blk.set_ (h : Blk w g t cs) (i : Nat) (u : Value) : Blk (w.setCell ⟨g, i, none⟩ u) g t (cs.setIfInBounds i u) := by
  unfold Blk at h ⊢
  simp [World.setCell, Array.getElem?_modify, h]
theorem Blk.far (h : Blk w g t cs) {p : Addr} (hp : g ≠ p.block) (u : Value) : Blk (w.setCell p u) g t cs := (Below.heap_setCell w p u g hp).trans h
theorem Blk.below {B : Nat} (h : Blk w g t cs) (hb : Below B w w') (hg : g < B) : Blk w' g t cs := (hb.block g hg).trans h
theorem Blk.grown {row : Option Nat} (h : Blk w g t cs) (hb : w.grownBy w' row) (hg : some g ≠ row) : Blk w' g t cs := (hb.block g h.lt hg).trans h
theorem Blk.ne_ {g' : Nat} {t' : TypeId} {cs' : Array Value} (h : Blk w g t cs) (h' : Blk w g' t' cs') (hne : t ≠ t') : g ≠ g' := by
  rintro rfl
  unfold Blk at h h'
  rw [h] at h'
  injection h' with h'
  injection h' with _ ht
  exact hne ht
theorem own_blk_ne {base : Nat} {e : TypeId} {size n : Nat} {v : Value} {xs : List Value} (h : w.ownsRow base e size v n xs) (hg : Blk w g t cs) (hne : e ≠ t) : some g ≠ v.ownBlock := by
  rcases h.2 with ⟨rfl, _⟩ | ⟨g', cap, cur, rfl, _, hh, _⟩
  · simp [Value.ownBlock]
  · intro he
    have : g' = g := by simpa [Value.ownBlock] using he.symm
    subst this
    exact Blk.ne_ (t := e) hh hg hne rfl
end

/-- a row that is owned stays owned while another block is written -/
theorem own_far {w : World} {base : Nat} {e : TypeId} {size : Nat} {v : Value} {n : Nat} {xs : List Value} (h : w.ownsRow base e size v n xs) {p : Addr} (hp : some p.block ≠ v.ownBlock) (u : Value) : (w.setCell p u).ownsRow base e size v n xs :=
  h.kept (w' := w.setCell p u) (row := some p.block) ⟨rfl, rfl, rfl, by simp [World.setCell], fun k _ hne => Below.heap_setCell w p u k (fun e => hne (by rw [e]))⟩ (.inr (fun e => hp e.symm))

theorem Sl.of_blk {α : Type} {enc : α → List Value} {size : Nat} {w : World} {g : Nat} {e : TypeId} {cs : Array Value} {l : List α} (hs : ∀ x, (enc x).length = size) (hl : l.length ≤ maxLen)
    (h : Blk w g e cs) (hc : cs.toList = l.flatMap enc) : Sl enc size w w.heap.size (some ⟨g, 0, none⟩) l := by
  have hfl := length_flat hs l
  have hsz : cs.size = l.length * size := by rw [← hfl, ← hc]; simp
  exact Sl.of_own (base := 0) (e := e) (c := l.length) hs ⟨hfl, .inr ⟨g, l.length, cs, rfl, Nat.zero_le _, h, Nat.le_refl _, hl, hsz, by rw [hc, ← hfl]; exact List.take_length⟩⟩

/-- the cells of the block that was just laid -/
theorem news_of1 (w : World) (t : TypeId) (cs : Array Value) : ∀ j u, cs.toList[j]? = some u → (w.alloc (.cells cs t)).cell? ((⟨w.heap.size, 0, none⟩ : Addr).add j) = some u :=
  World.news_of_block (Blk.new w t cs)
theorem news_of2 (w : World) (o : Obj) (t : TypeId) (cs : Array Value) : ∀ j u, cs.toList[j]? = some u → ((w.alloc o).alloc (.cells cs t)).cell? ((⟨w.heap.size + 1, 0, none⟩ : Addr).add j) = some u := by
  have := Blk.new (w.alloc o) t cs
  rw [World.size_alloc] at this
  exact World.news_of_block this

end Go.Fh
