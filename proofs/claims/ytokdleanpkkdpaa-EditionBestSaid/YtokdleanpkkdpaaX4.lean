/- Contract of permuted: an order made of numbers; conditions: bytes, at most 1000 places. -/
import Derived.Test.YtokdleanpkkdpaaX1
import Derived.Test.YtokdleanpkkdpaaSpecC
import Derived.Shelf.Spec.SlicesInsert
import Derived.Shelf.Spec.SlicesInsertGrow
import Derived.Test.YtokdleanpkkdpaaY0
set_option linter.unusedSimpArgs false
set_option linter.unusedVariables false
namespace Go.Proofs
open Go.Shelf
def Try.lays21_ren : Go.Shelf.Ren := ⟨fun | 21 => 62 | 27 => 110 | 28 => 111 | 35 => 126 | 39 => 129 | n => n, fun | 22 => 22 | n => n, fun | n => n⟩
theorem Try.lays21 : Go.Proofs.Lays2.n21 Try.prog Try.lays21_ren := {
  mixed := by kernel_rfl
  f21 := Try.func62.trans (congrArg some (by kernel_rfl))
  f27 := Try.func110.trans (congrArg some (by kernel_rfl))
  f28 := Try.func111.trans (congrArg some (by kernel_rfl))
  f35 := Try.func126.trans (congrArg some (by kernel_rfl))
  f39 := Try.func129.trans (congrArg some (by kernel_rfl))
  t0 := Try.underlying0
  a0 := Try.isAgg0
  z0 := Try.sizeOf0
  v0 := Try.zeroValue0
  t3 := Try.underlying3
  a3 := Try.isAgg3
  z3 := Try.sizeOf3
  v3 := Try.zeroValue3
  t4 := Try.underlying4
  a4 := Try.isAgg4
  z4 := Try.sizeOf4
  v4 := Try.zeroValue4
  t22 := Try.underlying22
  a22 := Try.isAgg22
  z22 := Try.sizeOf22
  v22 := Try.zeroValue22
  i3 := by kernel_rfl }
end Go.Proofs
namespace Go.Fh
open Go.RowKit
theorem own_of_cells {w : World} {g base cap : Nat} {t : TypeId} {a : Array Value} (h : Blk w g t a) (hs : a.size = cap) (hb : base ≤ g) (hcap : cap ≤ maxLen) (ys : List Value) (hn : ys.length ≤ cap) (hc : ∀ j (hj : j < ys.length), w.cell? ⟨g, j, none⟩ = some ys[j]) :
    w.ownsRow base t 1 (.slice (some ⟨g, 0, none⟩) ys.length cap) ys.length ys := by
  refine ⟨by simp, .inr ⟨g, cap, a, rfl, hb, h, hn, hcap, by simpa using hs, ?_⟩⟩
  apply List.ext_getElem
  · simp; omega
  · intro j h1 h2
    have := hc j h2
    rw [h.cell] at this
    simp at h1 ⊢
    rw [Array.getElem?_eq_getElem (by omega)] at this
    exact Option.some.inj this
/-- two writes side by side: the row with one more laid in -/
theorem ins_cells {w : World} {g i : Nat} {xs : List Value} {x : Value} (hi : i ≤ xs.length) (hp : ∀ j, j < xs.length + 1 → (w.cell? ⟨g, j, none⟩).isSome = true) (hc : ∀ j (hj : j < xs.length), j < i → w.cell? ⟨g, j, none⟩ = some xs[j]) (w2 : World)
    (h2 : ∀ j, j < i → w2.cell? ⟨g, j, none⟩ = w.cell? ⟨g, j, none⟩) (h3 : w2.cell? ⟨g, i, none⟩ = some x) (h4 : ∀ j (hj : j < (xs.drop i).length), w2.cell? ⟨g, i + 1 + j, none⟩ = some (xs.drop i)[j]) :
    ∀ j (hj : j < (xs.insertIdx i x).length), w2.cell? ⟨g, j, none⟩ = some (xs.insertIdx i x)[j] := by
  intro j hj
  rw [List.length_insertIdx_of_le_length hi] at hj
  rw [List.getElem_insertIdx]
  split
  · rename_i h; rw [h2 j h, hc j (by omega) h]
  · split
    · rename_i h h'; rw [h']; exact h3
    · rename_i h h'
      have := h4 (j - (i + 1)) (by simp; omega)
      rw [show i + 1 + (j - (i + 1)) = j by omega] at this
      rw [this, List.getElem_drop]
      congr 2
      omega
end Go.Fh
namespace Go.Proofs.Ytokdleanpkkdpaa
open Go.RowKit Go.Fh Go.Ed
/-- what Insert of one number gives -/
def InsPost (w : World) (base : Nat) (A : Option Addr) (n c : Nat) (zs : List Value) (e : Ending) (w' : World) : Prop :=
  ∃ A' c', e = .returned (.slice A' (n + 1) c') ∧ w'.ownsRow base 3 1 (.slice A' (n + 1) c') (n + 1) zs ∧ w.grownBy w' (Value.slice A n c).ownBlock ∧ (A' = A ∨ ∃ g, A' = some ⟨g, 0, none⟩ ∧ w.heap.size ≤ g)
theorem grown_setCells {w w0 : World} {g : Nat} {r : Option Nat} (hr : r = some g) : ∀ (vs : List Value) (o : Nat) (w : World), w0.grownBy w r → w0.grownBy (w.setCells g o vs) r
  | [], _, _, h => h
  | v :: vs, o, w, h => grown_setCells (w := w) hr vs (o + 1) _ ⟨h.os, h.tape, h.output, by simpa [World.setCell] using h.size, fun j hj hne => by
      rw [Below.heap_setCell _ _ _ j (by intro e; apply hne; rw [hr]; exact congrArg some e)]; exact h.block j hj hne⟩
theorem cells_of_take {w : World} {g : Nat} {t : TypeId} {cur : Array Value} {ys : List Value} (hk : Blk w g t cur) (hy : cur.toList.take ys.length = ys) : ∀ j (hj : j < ys.length), w.cell? ⟨g, j, none⟩ = some ys[j] := by
  intro j hj
  rw [hk.cell]
  have h : (cur.toList.take ys.length)[j]? = some ys[j] := by rw [hy]; simp [hj]
  rw [List.getElem?_take, if_pos hj] at h
  simpa using h
theorem insert_end_room (w : World) (base g c vb : Nat) (ys : List Value) (y : Value) (cur : Array Value) (hk : Blk w g 3 cur) (hcs : cur.size = c) (hb : base ≤ g) (hcm : c ≤ maxLen) (hy : cur.toList.take ys.length = ys) (hv : Blk w vb 3 #[y]) (hroom : ys.length + 1 ≤ c) (h1 : y.oneCell' = true) :
    Calls Try.prog 62 #[.slice (some ⟨g, 0, none⟩) ys.length c, .int .i64 ys.length, .slice (some ⟨vb, 0, none⟩) 1 1] w (InsPost w base (some ⟨g, 0, none⟩) ys.length c (ys.insertIdx ys.length y)) := by
  have hcell : ∀ j, j < c → w.cell? ⟨g, j, none⟩ = some (cur[j]!) := fun j hj => by rw [hk.cell]; simp [show j < cur.size by omega]
  refine (Any2.slices_Insert_int_end_room Try.lays21 g 0 ys.length c vb 0 1 1 [y] w (by omega) hroom (by simpa [maxLen] using hcm) rfl (fun j hj => by rw [hcell _ (by omega)]; rfl) (fun j hj => hk.frozen _) (fun j v hj => by cases j with | zero => (rw [hv.cell]; simpa using hj) | succ j => (simp at hj)) (fun v hv => by simp at hv; subst hv; exact h1)).mono ?_
  rintro e w' ⟨rfl, rfl⟩
  obtain ⟨a', ha, hsz⟩ := blk_setCells [y] (0 + ys.length) w cur hk
  refine ⟨_, _, rfl, ?_, grown_setCells (w := w) rfl _ _ _ ⟨rfl, rfl, rfl, Nat.le_refl _, fun _ _ _ => rfl⟩, .inl rfl⟩
  have hlen : (ys.insertIdx ys.length y).length = ys.length + 1 := List.length_insertIdx_of_le_length (Nat.le_refl _) _
  have key := own_of_cells ha (cap := c) (by omega) hb hcm (ys.insertIdx ys.length y) (by omega) ?_
  · rw [hlen] at key; exact key
  · refine ins_cells (Nat.le_refl _) (fun j hj => by rw [hcell j (by omega)]; rfl) (fun j hj _ => cells_of_take hk hy j hj) _ (fun j hj => World.cell?_setCells_out g _ _ _ _ (fun _ _ => .inl (by simp only; omega))) ?_ (fun j hj => by simp at hj)
    have := World.cell?_setCells_in g [y] (0 + ys.length) w (fun j hj => by rw [hcell _ (by simp at hj; omega)]; rfl) 0 (by simp)
    rw [show 0 + ys.length + 0 = ys.length by omega] at this
    exact this
theorem insert_end_grow (w : World) (base c vb : Nat) (A : Option Addr) (ys : List Value) (y : Value) (hbase : base ≤ w.heap.size) (hA : A = none → ys.length = 0) (hc : ∀ a, A = some a → ∀ j v, ys[j]? = some v → w.cell? (a.add j) = some v) (hv : Blk w vb 3 #[y]) (hnc : ys.length ≤ c) (hroom : c < ys.length + 1) (hl : ys.length ≤ 1000000) (h1 : y.oneCell' = true) :
    Calls Try.prog 62 #[.slice A ys.length c, .int .i64 ys.length, .slice (some ⟨vb, 0, none⟩) 1 1] w (InsPost w base A ys.length c (ys.insertIdx ys.length y)) := by
  refine (Any2.slices_Insert_int_end_grow Try.lays21 A ys.length c vb 0 1 1 ys [y] w (by omega) hnc hroom (by omega) rfl rfl hA hc (fun j v hj => by cases j with | zero => (rw [hv.cell]; simpa using hj) | succ j => (simp at hj)) (fun v hv => by simp at hv; subst hv; exact h1)).mono ?_
  rintro e w' ⟨rfl, rfl⟩
  have hge := grownCap_ge w (ys.length + 1) c (Try.lays21_ren.t 3)
  have hle := grownCap_le_maxLen w (ys.length + 1) c (Try.lays21_ren.t 3) (by simp only [maxLen]; omega)
  have hins : ys.insertIdx ys.length y = ys ++ [y] := List.insertIdx_length_self
  refine ⟨_, _, rfl, ?_, ⟨rfl, rfl, rfl, by simp, fun j hj _ => heap_alloc_old w.drew _ j hj⟩, .inr ⟨_, rfl, Nat.le_refl _⟩⟩
  have hb := Blk.new w.drew 3 ((ys ++ [y]).toArray ++ Builtin.zeroCells (Value.int .i64 0).cells (grownCap w (ys.length + 1) c (Try.lays21_ren.t 3) - (ys.length + 1)))
  have key := own_of_cells hb (cap := grownCap w (ys.length + 1) c (Try.lays21_ren.t 3)) (by rw [Array.size_append, size_zeroCells]; simp [Value.cells]; omega) hbase hle (ys ++ [y]) (by simpa using hge) (fun j hj => by rw [hb.cell, Array.getElem?_append_left (by simpa using hj)]; simp [hj])
  rw [show (ys ++ [y]).length = ys.length + 1 from by simp] at key
  rw [hins]
  exact key
theorem insert_shift (w : World) (base g c vb i : Nat) (ys : List Value) (y : Value) (cur : Array Value) (hk : Blk w g 3 cur) (hcs : cur.size = c) (hb : base ≤ g) (hcm : c ≤ maxLen) (hy : cur.toList.take ys.length = ys) (hv : Blk w vb 3 #[y]) (hne : vb ≠ g) (hi : i < ys.length) (hroom : ys.length + 1 ≤ c) (h1 : y.oneCell' = true) (hys : ∀ v ∈ ys, v.oneCell' = true) :
    Calls Try.prog 62 #[.slice (some ⟨g, 0, none⟩) ys.length c, .int .i64 i, .slice (some ⟨vb, 0, none⟩) 1 1] w (InsPost w base (some ⟨g, 0, none⟩) ys.length c (ys.insertIdx i y)) := by
  have hcell : ∀ j, j < c → w.cell? ⟨g, j, none⟩ = some (cur[j]!) := fun j hj => by rw [hk.cell]; simp [show j < cur.size by omega]
  have hcl : ∀ j v, ys[j]? = some v → w.cell? ⟨g, 0 + j, none⟩ = some v := fun j v hj => by
    obtain ⟨hj2, rfl⟩ := List.getElem?_eq_some_iff.1 hj
    rw [Nat.zero_add]; exact cells_of_take hk hy j hj2
  have sh : ∀ {b : Nat} {cs : Array Value}, Blk w b 3 cs → w.shape? b = some (3, cs.size) := fun h => by simp [World.shape?, show w.heap[_]? = _ from h]
  refine (Any2.slices_Insert_int_shift Try.lays21 g 0 ys.length c i vb 0 1 1 ys [y] w hi (by omega) hroom (by simpa [maxLen] using hcm) hne rfl rfl hcl (fun j hj => by rw [Nat.zero_add, hcell _ (by omega)]; rfl) (fun j hj => hk.frozen _) (fun j v hj => by cases j with | zero => (rw [hv.cell]; simpa using hj) | succ j => (simp at hj)) hys (fun v hv => by simp at hv; subst hv; exact h1) 3 3 1 cur.size (sh hv) (sh hk) (by omega) (hv.frozen _) (hv.frozen _)).mono ?_
  rintro e w' ⟨rfl, rfl⟩
  obtain ⟨a', ha, hsz⟩ := blk_setCells (ys.drop i) (0 + (i + 1)) w.drew cur hk.drew
  obtain ⟨a2, ha2, hsz2⟩ := blk_setCells [y] (0 + i) _ a' ha
  have hg0 : w.grownBy w.drew (some g) := ⟨rfl, rfl, rfl, Nat.le_refl _, fun _ _ _ => rfl⟩
  refine ⟨_, _, rfl, ?_, grown_setCells (w := w) rfl _ _ _ (grown_setCells (w := w) rfl _ _ _ hg0), .inl rfl⟩
  have hlen : (ys.insertIdx i y).length = ys.length + 1 := List.length_insertIdx_of_le_length (by omega) _
  have key := own_of_cells ha2 (cap := c) (by omega) hb hcm (ys.insertIdx i y) (by omega) ?_
  · rw [hlen] at key; exact key
  · refine ins_cells (w := w) (by omega) (fun j hj => by rw [hcell j (by omega)]; rfl) (fun j hj _ => cells_of_take hk hy j hj) _ (fun j hj => ?_) ?_ (fun j hj => ?_)
    · rw [World.cell?_setCells_out g _ _ _ _ (fun _ _ => .inl (by simp only; omega)), World.cell?_setCells_out g _ _ _ _ (fun _ _ => .inl (by simp only; omega))]
      rfl
    · have := World.cell?_setCells_in g [y] (0 + i) (w.drew.setCells g (0 + (i + 1)) (ys.drop i)) (fun j hj => by rw [ha.cell]; simp at hj; simp; omega) 0 (by simp)
      rw [show 0 + i + 0 = i by omega] at this
      exact this
    · rw [World.cell?_setCells_out g _ _ _ _ (fun _ _ => .inr (by simp only [List.length_singleton]; omega))]
      have := World.cell?_setCells_in g (ys.drop i) (0 + (i + 1)) w.drew (fun j hj => by rw [hk.drew.cell]; simp at hj; simp; omega) j hj
      rw [show 0 + (i + 1) + j = i + 1 + j by omega] at this
      exact this
theorem insert_grow (w : World) (base g c vb i : Nat) (ys : List Value) (y : Value) (cur : Array Value) (hk : Blk w g 3 cur) (hbase : base ≤ w.heap.size) (hy : cur.toList.take ys.length = ys) (hv : Blk w vb 3 #[y]) (hi : i < ys.length) (hnc : ys.length ≤ c) (hroom : c < ys.length + 1) (hl : ys.length ≤ 1000000) (h1 : y.oneCell' = true) (hys : ∀ v ∈ ys, v.oneCell' = true) :
    Calls Try.prog 62 #[.slice (some ⟨g, 0, none⟩) ys.length c, .int .i64 i, .slice (some ⟨vb, 0, none⟩) 1 1] w (InsPost w base (some ⟨g, 0, none⟩) ys.length c (ys.insertIdx i y)) := by
  have hcl : ∀ j v, ys[j]? = some v → w.cell? ⟨g, 0 + j, none⟩ = some v := fun j v hj => by
    obtain ⟨hj2, rfl⟩ := List.getElem?_eq_some_iff.1 hj
    rw [Nat.zero_add]; exact cells_of_take hk hy j hj2
  refine (Any2.slices_Insert_int_grow Try.lays21 g 0 ys.length c i vb 0 1 1 ys [y] w hi (by omega) hnc hroom (by omega) rfl rfl hcl (fun j v hj => by cases j with | zero => (rw [hv.cell]; simpa using hj) | succ j => (simp at hj)) hys (fun v hv => by simp at hv; subst hv; exact h1)).mono ?_
  rintro e w' ⟨rfl, rfl⟩
  have hge := grownCap_ge w (ys.length + 1) c (Try.lays21_ren.t 3)
  have hle := grownCap_le_maxLen w (ys.length + 1) c (Try.lays21_ren.t 3) (by simp only [maxLen]; omega)
  obtain ⟨cap, hcap⟩ : ∃ k, k = grownCap w (ys.length + 1) c (Try.lays21_ren.t 3) := ⟨_, rfl⟩
  rw [← hcap] at hge hle ⊢
  obtain ⟨a0, ha0⟩ : ∃ a, a = (ys.take i).toArray ++ Builtin.zeroCells (Value.int .i64 0).cells (ys.length + 1 - i) ++ Builtin.zeroCells (Value.int .i64 0).cells (cap - (ys.length + 1)) := ⟨_, rfl⟩
  rw [← ha0]
  have hs0 : a0.size = cap := by rw [ha0, Array.size_append, Array.size_append, size_zeroCells, size_zeroCells]; simp [Value.cells]; omega
  have hb0 : Blk (w.alloc (.cells a0 3)).drew w.heap.size 3 a0 := (Blk.new w 3 a0).drew
  have hlow : ∀ j (hj : j < ys.length), j < i → (w.alloc (.cells a0 3)).drew.cell? ⟨w.heap.size, j, none⟩ = some ys[j] := fun j hj hji => by
    rw [hb0.cell, ha0, Array.getElem?_append_left (by simp; omega), Array.getElem?_append_left (by simp; omega)]
    simp [List.getElem?_take, hji, hj]
  have hpres : ∀ j, j < cap → ((w.alloc (.cells a0 3)).drew.cell? ⟨w.heap.size, j, none⟩).isSome = true := fun j hj => by rw [hb0.cell]; simp [hs0, hj]
  obtain ⟨a1, ha1, hs1⟩ := blk_setCells [y] i _ a0 hb0
  obtain ⟨a2, ha2, hs2⟩ := blk_setCells (ys.drop i) (i + 1) _ a1 ha1.drew
  have hlen : (ys.insertIdx i y).length = ys.length + 1 := List.length_insertIdx_of_le_length (by omega) _
  have hbel : Below w.heap.size w (((w.alloc (.cells a0 3)).drew.setCells w.heap.size i [y]).drew.setCells w.heap.size (i + 1) (ys.drop i)) :=
    setCells_below (Nat.le_refl _) _ _ _ (Below.drew (setCells_below (Nat.le_refl _) _ _ _ (Below.drew ((Below.refl _ _).alloc (Nat.le_refl _) _))))
  refine ⟨_, _, rfl, ?_, ⟨hbel.os, hbel.tape, hbel.output, hbel.size, fun j hj _ => hbel.block j hj⟩, .inr ⟨_, rfl, Nat.le_refl _⟩⟩
  have key := own_of_cells ha2 (cap := cap) (by omega) hbase hle (ys.insertIdx i y) (by omega) ?_
  · rw [hlen] at key; exact key
  · refine ins_cells (w := (w.alloc (.cells a0 3)).drew) (by omega) (fun j hj => hpres j (by omega)) hlow _ (fun j hj => ?_) ?_ (fun j hj => ?_)
    · rw [World.cell?_setCells_out _ _ _ _ _ (fun _ _ => .inl (by simp only; omega))]
      exact World.cell?_setCells_out _ _ _ _ _ (fun _ _ => .inl (by simp only; omega))
    · rw [World.cell?_setCells_out _ _ _ _ _ (fun _ _ => .inl (by simp only; omega))]
      have := World.cell?_setCells_in w.heap.size [y] i (w.alloc (.cells a0 3)).drew (fun j hj => by simp at hj; exact hpres _ (by omega)) 0 (by simp)
      exact this
    · exact World.cell?_setCells_in w.heap.size (ys.drop i) (i + 1) _ (fun j hj => by rw [ha1.drew.cell]; simp at hj; simp; omega) j hj
theorem insert_own (w : World) (base c vb i : Nat) (A : Option Addr) (ys : List Value) (y : Value) (hA : w.ownsRow base 3 1 (.slice A ys.length c) ys.length ys) (hbase : base ≤ w.heap.size) (hv : Blk w vb 3 #[y]) (hne : (Value.slice A ys.length c).ownBlock ≠ some vb) (hi : i ≤ ys.length) (hl : ys.length ≤ 1000000) (h1 : y.oneCell' = true) (hys : ∀ v ∈ ys, v.oneCell' = true) :
    Calls Try.prog 62 #[.slice A ys.length c, .int .i64 i, .slice (some ⟨vb, 0, none⟩) 1 1] w (InsPost w base A ys.length c (ys.insertIdx i y)) := by
  rcases hA.2 with ⟨hn, hz⟩ | ⟨g, cap, cur, he, hb, hk, hnc, hcm, hcs, hy⟩
  · injection hn with e1 e2 e3
    subst e1 e3
    have hi0 : i = ys.length := by omega
    subst hi0
    exact insert_end_grow w base 0 vb none ys y hbase (fun _ => hz) (fun a h => by cases h) hv (by omega) (by omega) hl h1
  · injection he with e1 e2 e3
    subst e1 e3
    rw [Nat.mul_one] at hcs hy
    have hkb : Blk w g 3 cur := hk
    have hvg : vb ≠ g := fun e => hne (by rw [e]; rfl)
    by_cases hroom : ys.length + 1 ≤ c
    · by_cases hie : i = ys.length
      · subst hie; exact insert_end_room w base g c vb ys y cur hkb hcs hb hcm hy hv hroom h1
      · exact insert_shift w base g c vb i ys y cur hkb hcs hb hcm hy hv hvg (by omega) hroom h1 hys
    · by_cases hie : i = ys.length
      · subst hie
        exact insert_end_grow w base c vb _ ys y hbase (fun h => by cases h) (fun a h j v hj => by injection h with h; subst h; exact hA.cells rfl j v hj) hv hnc (by omega) hl h1
      · exact insert_grow w base g c vb i ys y cur hkb hbase hy hv (by omega) hnc (by omega) hl h1 hys
end Go.Proofs.Ytokdleanpkkdpaa
namespace Go.Proofs.Ytokdleanpkkdpaa
open Go.RowKit Go.Fh Go.Ed
theorem map_ins {α β : Type} (f : α → β) (a : α) : ∀ (i : Nat) (l : List α), (l.insertIdx i a).map f = (l.map f).insertIdx i (f a) := by
  intro i
  induction i with
  | zero => intro l; simp
  | succ i ih => intro l; cases l with
    | nil => simp
    | cons x l => simp [ih]
theorem intsV_ins (l : List Nat) (i k : Nat) : intsV (l.insertIdx i k) = (intsV l).insertIdx i (.int .i64 (k : Int)) := by
  unfold intsV
  rw [map_ins, map_ins]
set_option maxRecDepth 20000 in
set_option maxHeartbeats 2000000 in
theorem permuted_any (A : Option Addr) (c n : Nat) (l : List Nat) (w : World) (hn : n ≤ 1000) (hl : l.length ≤ 9223372036854775807) (hbd : ∀ x ∈ l, x ≤ 255) (hA : Sl encBn 1 w w.heap.size A l) :
    Calls Try.prog 16 #[.int .i64 n, .slice A l.length c] w fun e w' => ∃ A' c', e = .returned (.slice A' n c') ∧ w'.ownsRow w.heap.size 3 1 (.slice A' n c') n (intsV (permM l n)) ∧ Below w.heap.size w w' := by
  obtain ⟨w1, hw1⟩ : ∃ W, W = w.alloc (.cells #[.slice A l.length c, .int .i64 0] 122) := ⟨_, rfl⟩
  have kg : Blk w1 w.heap.size 122 #[.slice A l.length c, .int .i64 0] := by rw [hw1]; exact Blk.new _ _ _
  have hb1 : Below w.heap.size w w1 := by rw [hw1]; exact (Below.refl _ _).alloc (Nat.le_refl _) _
  have hd1 : DigAt w1 w.heap.size A c l w.heap.size 0 := ⟨kg, hA.below hb1, by omega, hl, hbd⟩
  have HD1 := Lib.hid hd1
  have HB1 := Lib.hid hb1
  have HW1 := Lib.hid hw1
  clear hd1 hb1 hw1 kg hA hbd
  go_enter Try.func16, Try.ntmps16
  go_wp2
  rw [← HW1.out]
  go_loopw [6, 12] (fun v i wr => ∃ k : Nat, k ≤ n ∧ i = .int .i64 k ∧ ∃ A' c', v = .slice A' k c' ∧ wr.ownsRow w.heap.size 3 1 (.slice A' k c') k (intsV (permM l k)) ∧ DigAt wr w.heap.size A c l w.heap.size k ∧ Below w.heap.size w wr ∧ (Value.slice A' k c').ownBlock ≠ some w.heap.size) (fun _ i _ => n - (intOf i).toNat)
  case atStart => exact ⟨0, Nat.zero_le _, rfl, none, 0, rfl, World.ownsRow_nil _ _ _ _, HD1.out, HB1.out, by simp [Value.ownBlock]⟩
  case round =>
    obtain ⟨k, hk, rfl, A', c', rfl, ho, hd, hb, hgn⟩ := hrel
    by_cases hlt : k < n
    · have hcd : Calls Try.prog 60 #[.pointer (some ⟨w.heap.size, 0, none⟩), .int .i64 ((k : Int) + 1)] wr fun e w' => e = .returned (.int .i64 (dig l k (k + 1))) ∧ DigAt w' w.heap.size A c l w.heap.size (k + 1) ∧ Same w.heap.size w.heap.size none wr w' := by
        have := digit_any wr _ A c l w.heap.size k (k + 1) hd (by omega) (by omega) (by omega)
        simpa using this
      obtain ⟨dk, hdk⟩ : ∃ d, d = (dig l k (k + 1)).toNat := ⟨_, rfl⟩
      have hdb := dig_bd l k (n := k + 1) (by omega)
      have hdk2 : dig l k (k + 1) = (dk : Int) := by omega
      rw [hdk2] at hcd
      have hyl : (intsV (permM l k)).length = k := by simp [intsV, permM_len]
      have hin : ∀ W : World, W.ownsRow w.heap.size 3 1 (.slice A' k c') k (intsV (permM l k)) → w.heap.size ≤ W.heap.size → Calls Try.prog 62 #[.slice A' k c', .int .i64 dk, .slice (some ⟨W.heap.size, 0, none⟩) 1 1] (W.alloc (.cells #[.int .i64 k] 3)) (InsPost (W.alloc (.cells #[.int .i64 k] 3)) w.heap.size A' k c' ((intsV (permM l k)).insertIdx dk (.int .i64 k))) := by
        intro W hW hs
        have h0 := insert_own (W.alloc (.cells #[.int .i64 k] 3)) w.heap.size c' W.heap.size dk A' (intsV (permM l k)) (.int .i64 k) (by rw [hyl]; exact hW.alloc _) (by simp; omega) (Blk.new W 3 _) (by rw [hyl]; intro e; have := (hW.lt _ e).2; omega) (by omega) (by omega) rfl (by simp [intsV]; intro a _; rfl)
        rw [hyl] at h0
        exact h0
      have hnx : (intsV (permM l k)).insertIdx dk (.int .i64 k) = intsV (permM l (k + 1)) := by
        rw [← intsV_ins]
        unfold permM
        rw [hdk2, Int.toNat_natCast]
        cases k <;> rfl
      have HNX := Lib.hid hnx
      have HCD := Lib.hid hcd
      have HIN := Lib.hid hin
      have HO := Lib.hid ho
      have HD := Lib.hid hd
      have HB := Lib.hid hb
      have HGN := Lib.hid hgn
      have HBS := Lib.hid hb.size
      have hr1 : IntKind.i64.wrap ((k : Int) + 1) = (k : Int) + 1 := by rw [IntKind.wrap_i64]; omega
      clear hcd hin ho hd hb hgn hdk hdk2 hdb hyl hnx
      go_wp2_with (first
        | (go_at_call 60; refine HCD.out.mono ?_; rintro e w2 ⟨rfl, hD2, hS2⟩; have HD2 := Lib.hid hD2; have HS2 := Lib.hid hS2; have HO2 := Lib.hid (World.ownsRow.kept HO.out (w' := w2) (row := some w.heap.size) ⟨hS2.os, hS2.tape, hS2.output, hS2.size, fun j hj hne => hS2.block j hj (fun e => hne (by rw [e])) (fun e => hne (by rw [e])) (by simp)⟩ (.inr HGN.out)); clear hD2 hS2)
        | (go_at_call 62; refine (HIN.out _ HO2.out (Nat.le_trans HBS.out HS2.out.size)).mono ?_; rintro e w3 ⟨A3, c3, rfl, hO3, hG3, hA3⟩; have HO3 := Lib.hid hO3; have HG3 := Lib.hid hG3; have HA3 := Lib.hid hA3; clear hO3 hG3 hA3))
      go_roundw
      case rel =>
        have hs2 := HS2.out.size
        have hbs := HBS.out
        have hd3 := ((HD2.out.gr (World.grownBy_alloc w2 (.cells #[.int .i64 k] 3) none) (by simp) (by simp)).gr HG3.out HGN.out (fun j e => (HO2.out.lt j e).1))
        refine ⟨k + 1, by omega, by go_num, A3, c3, rfl, ?_, hd3, ?_, ?_⟩
        · rw [← HNX.out]; exact HO3.out
        · refine (Same.below HS2.out HB.out hbs (Nat.le_refl _) (Nat.le_refl _) (by simp)).trans ?_
          exact (((Below.refl w.heap.size w2).alloc (by omega) _).grown HG3.out (by simp; omega) (fun j e => (HO2.out.lt j e).1)).mono (by omega)
        · rcases HA3.out with h | ⟨g, h, hg⟩
          · intro e
            apply HGN.out
            rw [h] at e
            rcases A' with _ | a
            · simp [Value.ownBlock] at e
            · simpa [Value.ownBlock] using e
          · rw [h]
            intro e
            unfold Value.ownBlock at e
            simp at e
            simp at hg
            omega
      case measure => simp [intOf]; omega
    · obtain rfl : k = n := by omega
      have HO := Lib.hid ho
      have HB := Lib.hid hb
      clear ho hb hd hgn
      go_wp2
      go_ret
      exact ⟨A', c', rfl, HO.out, HB.out⟩
end Go.Proofs.Ytokdleanpkkdpaa
