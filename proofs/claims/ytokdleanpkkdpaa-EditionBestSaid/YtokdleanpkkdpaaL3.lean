/- Memory words for copied: titles in the making; conditions: none. Printed by a program. -/
import Derived.Test.YtokdleanpkkdpaaL2
import Derived.Test.YtokdleanpkkdpaaZ1
set_option linter.unusedSimpArgs false
set_option linter.unusedVariables false
namespace Go.Ed
open Go.Fh Go.RowKit Go.Proofs.Ytokdleanpkkdpaa
/-- all blocks stay but those of one type -/
structure But (e : Go.TypeId) (W W' : Go.World) : Prop where
  size : W.heap.size ≤ W'.heap.size
  block : ∀ (g : Nat) cs (e' : Go.TypeId), e' ≠ e → W.heap[g]? = some (Go.Obj.cells cs e' (0, 0)) → W'.heap[g]? = W.heap[g]?
theorem But.own {e e' : Go.TypeId} {W W' : Go.World} (h : But e W W') {b s n : Nat} {v : Go.Value} {xs : List Go.Value} (ho : W.ownsRow b e' s v n xs) (he : e' ≠ e) : W'.ownsRow b e' s v n xs := own_heap ho fun g cs _ hg => h.block g cs e' he hg
theorem But.blk {e e' : Go.TypeId} {W W' : Go.World} (h : But e W W') {g : Nat} {cs : Array Go.Value} (hk : Blk W g e' cs) (he : e' ≠ e) : Blk W' g e' cs := by
  have := h.block g cs e' he hk
  unfold Blk at *
  rw [this]; exact hk
theorem But.row {e : Go.TypeId} {W W' : Go.World} {b s n : Nat} {v : Go.Value} {xs : List Go.Value} (ho : W.ownsRow b e s v n xs) (hg : W.grownBy W' v.ownBlock) : But e W W' :=
  ⟨hg.size, fun g cs e' hne hh => hg.block g (lt_of_heap hh) (fun q => own_blk_ne ho (show Blk W g e' cs from hh) (fun h => hne h.symm) q)⟩
theorem But.set_ {e : Go.TypeId} {W : Go.World} {g : Nat} {cs : Array Go.Value} (hk : Blk W g e cs) (i : Nat) (u : Go.Value) : But e W (W.setCell ⟨g, i, none⟩ u) :=
  ⟨by simp [Go.World.setCell], fun g' cs' e' hne hh => Below.heap_setCell W _ u g' (fun q => by
    have q : g' = g := by simpa using q
    subst q
    unfold Blk at hk
    rw [hk] at hh
    injection hh with hh
    injection hh with _ ht
    exact hne ht.symm)⟩
theorem own_sz {W : Go.World} {b : Nat} {e : Go.TypeId} {s n : Nat} {v : Go.Value} {xs : List Go.Value} (h : W.ownsRow b e s v n xs) {b' : Nat} (hb : b' ≤ b) : W.ownsRow b' e s v n xs := Go.World.ownsRow.mono h hb
/-- the two titles that copied makes: so many zones, so many ready seconds -/
structure CpZ (w W : Go.World) (t : TitD) (x : TA) (g1 g2 g3 g4 g5 : Nat) (y1 y2 : TA) (k1 k2 : Nat) (zs1 zs2 : List ZonM) (Z1 Z2 : Option Go.Addr) (c1 c2 : Nat) (R2 : Option Go.Addr) (cr2 m : Nat) : Prop where
  low : Below w.heap.size w W
  b1 : Blk W g1 26 (titV t x)
  b2 : Blk W g2 26 #[Go.Value.slice none 0 0, Go.Value.slice none 0 0, Go.Value.slice none 0 0, Go.Value.slice none 0 0, Go.Value.int .i64 0, Go.Value.int .i64 0, Go.Value.int .i64 0, Go.Value.int .i64 0]
  b3 : Blk W g3 88 #[Go.Value.slice none 0 0, Go.Value.slice none 0 0, Go.Value.slice none 0 0, Go.Value.slice none 0 0, Go.Value.int .i64 0, Go.Value.int .i64 0, Go.Value.int .i64 0, Go.Value.int .i64 0]
  b4 : Blk W g4 26 #[Go.Value.slice y1.a t.colours.length y1.ca, Go.Value.slice y1.b t.pairs.length y1.cb, Go.Value.slice Z1 k1 c1, Go.Value.slice y1.r t.ready.length y1.cr, Go.Value.int .i64 t.start, Go.Value.int .i64 t.rate, Go.Value.int .i64 t.stop, Go.Value.int .i64 t.hang]
  b5 : Blk W g5 88 #[Go.Value.slice y2.a t.colours.length y2.ca, Go.Value.slice y2.b t.pairs.length y2.cb, Go.Value.slice Z2 k2 c2, Go.Value.slice R2 m cr2, Go.Value.int .i64 t.start, Go.Value.int .i64 t.rate, Go.Value.int .i64 t.stop, Go.Value.int .i64 t.hang]
  n : w.heap.size ≤ g1 ∧ w.heap.size ≤ g2 ∧ w.heap.size ≤ g3 ∧ w.heap.size ≤ g4 ∧ w.heap.size ≤ g5 ∧ g4 ≠ g1 ∧ g4 ≠ g2 ∧ g1 ≠ g2 ∧ g5 ≠ g3
  oA1 : W.ownsRow w.heap.size 3 1 (Go.Value.slice y1.a t.colours.length y1.ca) t.colours.length (t.colours.map (Go.Value.int .i64))
  oB1 : W.ownsRow w.heap.size 3 1 (Go.Value.slice y1.b t.pairs.length y1.cb) t.pairs.length (t.pairs.map (Go.Value.int .i64))
  oR1 : W.ownsRow w.heap.size 69 3 (Go.Value.slice y1.r t.ready.length y1.cr) t.ready.length (t.ready.flatMap enc3)
  oA2 : W.ownsRow w.heap.size 3 1 (Go.Value.slice y2.a t.colours.length y2.ca) t.colours.length (t.colours.map (Go.Value.int .i64))
  oB2 : W.ownsRow w.heap.size 3 1 (Go.Value.slice y2.b t.pairs.length y2.cb) t.pairs.length (t.pairs.map (Go.Value.int .i64))
  oZ1 : W.ownsRow w.heap.size 47 3 (Go.Value.slice Z1 k1 c1) k1 (zs1.flatMap encZon)
  oZ2 : W.ownsRow w.heap.size 160 3 (Go.Value.slice Z2 k2 c2) k2 (zs2.flatMap encZon)
  oV1 : ∀ i (h : i < zs1.length), W.ownsRow w.heap.size 3 1 (Go.Value.slice zs1[i].2.1 zs1[i].1.variants.length zs1[i].2.2) zs1[i].1.variants.length (zs1[i].1.variants.map (Go.Value.int .i64))
  oV2 : ∀ i (h : i < zs2.length), W.ownsRow w.heap.size 3 1 (Go.Value.slice zs2[i].2.1 zs2[i].1.variants.length zs2[i].2.2) zs2[i].1.variants.length (zs2[i].1.variants.map (Go.Value.int .i64))
  oR2 : W.ownsRow w.heap.size 161 3 (Go.Value.slice R2 m cr2) m ((t.ready.take m).flatMap enc3)
  m1 : zs1.map (·.1) = t.zones.take k1
  m2 : zs2.map (·.1) = t.zones.take k2
section
variable {w W W' : Go.World} {t : TitD} {x : TA} {g1 g2 g3 g4 g5 : Nat} {y1 y2 : TA} {k1 k2 : Nat} {zs1 zs2 : List ZonM} {Z1 Z2 : Option Go.Addr} {c1 c2 : Nat} {R2 : Option Go.Addr} {cr2 m : Nat}
theorem CpZ.below (h : CpZ w W t x g1 g2 g3 g4 g5 y1 y2 k1 k2 zs1 zs2 Z1 Z2 c1 c2 R2 cr2 m) (hb : Below W.heap.size W W') : CpZ w W' t x g1 g2 g3 g4 g5 y1 y2 k1 k2 zs1 zs2 Z1 Z2 c1 c2 R2 cr2 m :=
  ⟨h.low.trans (hb.mono h.low.size), h.b1.below hb h.b1.lt, h.b2.below hb h.b2.lt, h.b3.below hb h.b3.lt, h.b4.below hb h.b4.lt, h.b5.below hb h.b5.lt, h.n, own_belowV h.oA1 hb, own_belowV h.oB1 hb, own_belowV h.oR1 hb, own_belowV h.oA2 hb, own_belowV h.oB2 hb, own_belowV h.oZ1 hb, own_belowV h.oZ2 hb, fun i hi => own_belowV (h.oV1 i hi) hb, fun i hi => own_belowV (h.oV2 i hi) hb, own_belowV h.oR2 hb, h.m1, h.m2⟩
theorem CpZ.push1 (h : CpZ w W t x g1 g2 g3 g4 g5 y1 y2 k1 k2 zs1 zs2 Z1 Z2 c1 c2 R2 cr2 m) {z : ZonD} {A9 : Option Go.Addr} {c9 g9 cap9 : Nat} (hz : t.zones[k1]? = some z) (hv : W.ownsRow w.heap.size 3 1 (.slice A9 z.variants.length c9) z.variants.length (z.variants.map (Go.Value.int .i64))) (hg : W.grownBy W' (Go.Value.slice Z1 k1 c1).ownBlock) (ho : W'.ownsRow w.heap.size 47 3 (.slice (some ⟨g9, 0, none⟩) (k1 + 1) cap9) (k1 + 1) (zs1.flatMap encZon ++ encZon (z, (A9, c9)))) :
    CpZ w (W'.setCell ⟨g4, 2, none⟩ (.slice (some ⟨g9, 0, none⟩) (k1 + 1) cap9)) t x g1 g2 g3 g4 g5 y1 y2 (k1 + 1) k2 (zs1 ++ [(z, (A9, c9))]) zs2 (some ⟨g9, 0, none⟩) Z2 cap9 c2 R2 cr2 m := by
  have kk0 : But 47 W W' := But.row h.oZ1 hg
  have kb := kk0.blk h.b4 (by decide)
  have kk1 : But 26 W' (W'.setCell ⟨g4, 2, none⟩ (.slice (some ⟨g9, 0, none⟩) (k1 + 1) cap9)) := But.set_ kb 2 _
  have hlow := (h.low.grown hg h.low.size (fun j hj => (h.oZ1.lt j hj).1)).setCell (p := ⟨g4, 2, none⟩) (by have := h.n; show w.heap.size ≤ g4; omega) (.slice (some ⟨g9, 0, none⟩) (k1 + 1) cap9)
  obtain ⟨n1, n2, n3, n4, n5, n6, n7, n8, n9⟩ := h.n
  exact ⟨hlow,
    (kk0.blk h.b1 (by decide)).far (p := ⟨g4, 2, none⟩) (by show g1 ≠ g4; omega) _,
    (kk0.blk h.b2 (by decide)).far (p := ⟨g4, 2, none⟩) (by show g2 ≠ g4; omega) _,
    kk1.blk (kk0.blk h.b3 (by decide)) (by decide),
    (by have q := kb.set_ 2 (.slice (some ⟨g9, 0, none⟩) (k1 + 1) cap9); simpa using q),
    kk1.blk (kk0.blk h.b5 (by decide)) (by decide),
    ⟨n1, n2, n3, n4, n5, n6, n7, n8, n9⟩,
    kk1.own (kk0.own h.oA1 (by decide)) (by decide),
    kk1.own (kk0.own h.oB1 (by decide)) (by decide),
    kk1.own (kk0.own h.oR1 (by decide)) (by decide),
    kk1.own (kk0.own h.oA2 (by decide)) (by decide),
    kk1.own (kk0.own h.oB2 (by decide)) (by decide),
    (by have q := kk1.own ho (by decide); simpa using q),
    kk1.own (kk0.own h.oZ2 (by decide)) (by decide),
    fun i hi => by
      rw [List.getElem_append] at *
      split
      · rename_i hlt; exact kk1.own (kk0.own (h.oV1 i hlt) (by decide)) (by decide)
      · rename_i hlt
        have : i - zs1.length = 0 := by simp at hi; omega
        simp only [this, List.getElem_cons_zero]
        exact kk1.own (kk0.own hv (by decide)) (by decide),
    fun i hi => kk1.own (kk0.own (h.oV2 i hi) (by decide)) (by decide),
    kk1.own (kk0.own h.oR2 (by decide)) (by decide),
    (by rw [List.map_append, h.m1, List.take_add_one, hz]; rfl),
    h.m2⟩
theorem CpZ.push2 (h : CpZ w W t x g1 g2 g3 g4 g5 y1 y2 k1 k2 zs1 zs2 Z1 Z2 c1 c2 R2 cr2 m) {z : ZonD} {A9 : Option Go.Addr} {c9 g9 cap9 : Nat} (hz : t.zones[k2]? = some z) (hv : W.ownsRow w.heap.size 3 1 (.slice A9 z.variants.length c9) z.variants.length (z.variants.map (Go.Value.int .i64))) (hg : W.grownBy W' (Go.Value.slice Z2 k2 c2).ownBlock) (ho : W'.ownsRow w.heap.size 160 3 (.slice (some ⟨g9, 0, none⟩) (k2 + 1) cap9) (k2 + 1) (zs2.flatMap encZon ++ encZon (z, (A9, c9)))) :
    CpZ w (W'.setCell ⟨g5, 2, none⟩ (.slice (some ⟨g9, 0, none⟩) (k2 + 1) cap9)) t x g1 g2 g3 g4 g5 y1 y2 k1 (k2 + 1) zs1 (zs2 ++ [(z, (A9, c9))]) Z1 (some ⟨g9, 0, none⟩) c1 cap9 R2 cr2 m := by
  have kk0 : But 160 W W' := But.row h.oZ2 hg
  have kb := kk0.blk h.b5 (by decide)
  have kk1 : But 88 W' (W'.setCell ⟨g5, 2, none⟩ (.slice (some ⟨g9, 0, none⟩) (k2 + 1) cap9)) := But.set_ kb 2 _
  have hlow := (h.low.grown hg h.low.size (fun j hj => (h.oZ2.lt j hj).1)).setCell (p := ⟨g5, 2, none⟩) (by have := h.n; show w.heap.size ≤ g5; omega) (.slice (some ⟨g9, 0, none⟩) (k2 + 1) cap9)
  obtain ⟨n1, n2, n3, n4, n5, n6, n7, n8, n9⟩ := h.n
  exact ⟨hlow,
    kk1.blk (kk0.blk h.b1 (by decide)) (by decide),
    kk1.blk (kk0.blk h.b2 (by decide)) (by decide),
    (kk0.blk h.b3 (by decide)).far (p := ⟨g5, 2, none⟩) (by show g3 ≠ g5; omega) _,
    kk1.blk (kk0.blk h.b4 (by decide)) (by decide),
    (by have q := kb.set_ 2 (.slice (some ⟨g9, 0, none⟩) (k2 + 1) cap9); simpa using q),
    ⟨n1, n2, n3, n4, n5, n6, n7, n8, n9⟩,
    kk1.own (kk0.own h.oA1 (by decide)) (by decide),
    kk1.own (kk0.own h.oB1 (by decide)) (by decide),
    kk1.own (kk0.own h.oR1 (by decide)) (by decide),
    kk1.own (kk0.own h.oA2 (by decide)) (by decide),
    kk1.own (kk0.own h.oB2 (by decide)) (by decide),
    kk1.own (kk0.own h.oZ1 (by decide)) (by decide),
    (by have q := kk1.own ho (by decide); simpa using q),
    fun i hi => kk1.own (kk0.own (h.oV1 i hi) (by decide)) (by decide),
    fun i hi => by
      rw [List.getElem_append] at *
      split
      · rename_i hlt; exact kk1.own (kk0.own (h.oV2 i hlt) (by decide)) (by decide)
      · rename_i hlt
        have : i - zs2.length = 0 := by simp at hi; omega
        simp only [this, List.getElem_cons_zero]
        exact kk1.own (kk0.own hv (by decide)) (by decide),
    kk1.own (kk0.own h.oR2 (by decide)) (by decide),
    h.m1,
    (by rw [List.map_append, h.m2, List.take_add_one, hz]; rfl)⟩
theorem CpZ.pushR (h : CpZ w W t x g1 g2 g3 g4 g5 y1 y2 k1 k2 zs1 zs2 Z1 Z2 c1 c2 R2 cr2 m) {r : Int × Int × Int} {g9 cap9 : Nat} (hz : t.ready[m]? = some r) (hg : W.grownBy W' (Go.Value.slice R2 m cr2).ownBlock) (ho : W'.ownsRow w.heap.size 161 3 (.slice (some ⟨g9, 0, none⟩) (m + 1) cap9) (m + 1) ((t.ready.take m).flatMap enc3 ++ enc3 r)) :
    CpZ w (W'.setCell ⟨g5, 3, none⟩ (.slice (some ⟨g9, 0, none⟩) (m + 1) cap9)) t x g1 g2 g3 g4 g5 y1 y2 k1 k2 zs1 zs2 Z1 Z2 c1 c2 (some ⟨g9, 0, none⟩) cap9 (m + 1) := by
  have kk0 : But 161 W W' := But.row h.oR2 hg
  have kb := kk0.blk h.b5 (by decide)
  have kk1 : But 88 W' (W'.setCell ⟨g5, 3, none⟩ (.slice (some ⟨g9, 0, none⟩) (m + 1) cap9)) := But.set_ kb 3 _
  have hlow := (h.low.grown hg h.low.size (fun j hj => (h.oR2.lt j hj).1)).setCell (p := ⟨g5, 3, none⟩) (by have := h.n; show w.heap.size ≤ g5; omega) (.slice (some ⟨g9, 0, none⟩) (m + 1) cap9)
  obtain ⟨n1, n2, n3, n4, n5, n6, n7, n8, n9⟩ := h.n
  exact ⟨hlow,
    kk1.blk (kk0.blk h.b1 (by decide)) (by decide),
    kk1.blk (kk0.blk h.b2 (by decide)) (by decide),
    (kk0.blk h.b3 (by decide)).far (p := ⟨g5, 3, none⟩) (by show g3 ≠ g5; omega) _,
    kk1.blk (kk0.blk h.b4 (by decide)) (by decide),
    (by have q := kb.set_ 3 (.slice (some ⟨g9, 0, none⟩) (m + 1) cap9); simpa using q),
    ⟨n1, n2, n3, n4, n5, n6, n7, n8, n9⟩,
    kk1.own (kk0.own h.oA1 (by decide)) (by decide),
    kk1.own (kk0.own h.oB1 (by decide)) (by decide),
    kk1.own (kk0.own h.oR1 (by decide)) (by decide),
    kk1.own (kk0.own h.oA2 (by decide)) (by decide),
    kk1.own (kk0.own h.oB2 (by decide)) (by decide),
    kk1.own (kk0.own h.oZ1 (by decide)) (by decide),
    kk1.own (kk0.own h.oZ2 (by decide)) (by decide),
    fun i hi => kk1.own (kk0.own (h.oV1 i hi) (by decide)) (by decide),
    fun i hi => kk1.own (kk0.own (h.oV2 i hi) (by decide)) (by decide),
    (by have q := kk1.own ho (by decide); rw [List.take_add_one, hz]; simpa using q),
    h.m1,
    h.m2⟩
end
end Go.Ed
