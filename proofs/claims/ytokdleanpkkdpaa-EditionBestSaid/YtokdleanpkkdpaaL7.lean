/- Words for the laws' walks: boxed titles, copied and kept in their spelling; conditions: a title in memory. -/
import Derived.Test.YtokdleanpkkdpaaL4
import Derived.Test.YtokdleanpkkdpaaL6
set_option linter.unusedSimpArgs false
set_option linter.unusedVariables false
namespace Go.Proofs.Ytokdleanpkkdpaa
open Go.RowKit Go.Fh Go.Ed
theorem boxE {w : World} {g : Nat} {e : TypeId} (t : TitD) (x : TA) (h : Blk w g e (titV t x)) (W : World) (hb : Below w.heap.size w W) : W.cell? ⟨g, 0, none⟩ = some (.slice x.a t.colours.length x.ca) ∧ W.cell? ⟨g, 1, none⟩ = some (.slice x.b t.pairs.length x.cb) ∧ W.cell? ⟨g, 2, none⟩ = some (.slice x.z t.zones.length x.cz) ∧ W.cell? ⟨g, 3, none⟩ = some (.slice x.r t.ready.length x.cr) ∧ W.cell? ⟨g, 4, none⟩ = some (.int .i64 t.start) ∧ W.cell? ⟨g, 5, none⟩ = some (.int .i64 t.rate) ∧ W.cell? ⟨g, 6, none⟩ = some (.int .i64 t.stop) ∧ W.cell? ⟨g, 7, none⟩ = some (.int .i64 t.hang) := by
  have k := h.below hb h.lt
  have r0 := k.cell 0
  have r1 := k.cell 1
  have r2 := k.cell 2
  have r3 := k.cell 3
  have r4 := k.cell 4
  have r5 := k.cell 5
  have r6 := k.cell 6
  have r7 := k.cell 7
  simp [titV] at r0 r1 r2 r3 r4 r5 r6 r7
  exact ⟨r0, r1, r2, r3, r4, r5, r6, r7⟩
theorem copied_w (t : TitD) (x : TA) (zs : List ZonM) (w : World) (hs : Sizes t) (hT : TitAt w w.heap.size t x zs) :
    Calls Try.prog 39 #[.agg #[.slice x.a t.colours.length x.ca, .slice x.b t.pairs.length x.cb, .slice x.z t.zones.length x.cz, .slice x.r t.ready.length x.cr, .int .i64 t.start, .int .i64 t.rate, .int .i64 t.stop, .int .i64 t.hang]] w fun e w' => ∃ (y1 y2 : TA) (zs1 zs2 : List ZonM), e = .returned (.tuple #[.agg #[.slice y1.a t.colours.length y1.ca, .slice y1.b t.pairs.length y1.cb, .slice y1.z t.zones.length y1.cz, .slice y1.r t.ready.length y1.cr, .int .i64 t.start, .int .i64 t.rate, .int .i64 t.stop, .int .i64 t.hang], .agg #[.slice y2.a t.colours.length y2.ca, .slice y2.b t.pairs.length y2.cb, .slice y2.z t.zones.length y2.cz, .slice y2.r t.ready.length y2.cr, .int .i64 t.start, .int .i64 t.rate, .int .i64 t.stop, .int .i64 t.hang]]) ∧ Hid (TitAt w' w'.heap.size t y1 zs1) ∧ Hid (TitAt w' w'.heap.size t y2 zs2) ∧ Hid (Below w.heap.size w w') :=
  (copied_any t x zs w hs hT).mono (by
    rintro e w' ⟨y1, y2, zs1, zs2, rfl, h1, h2, hb⟩
    exact ⟨y1, y2, zs1, zs2, rfl, h1, h2, hb⟩)
theorem kept_w (t : TitD) (x y : TA) (zs ys : List ZonM) (w : World) (hs : Sizes t) (hT : TitAt w w.heap.size t x zs) (hY : TitAt w w.heap.size t y ys) :
    Calls Try.prog 52 #[.agg #[.slice x.a t.colours.length x.ca, .slice x.b t.pairs.length x.cb, .slice x.z t.zones.length x.cz, .slice x.r t.ready.length x.cr, .int .i64 t.start, .int .i64 t.rate, .int .i64 t.stop, .int .i64 t.hang], .agg #[.slice y.a t.colours.length y.ca, .slice y.b t.pairs.length y.cb, .slice y.z t.zones.length y.cz, .slice y.r t.ready.length y.cr, .int .i64 t.start, .int .i64 t.rate, .int .i64 t.stop, .int .i64 t.hang]] w fun e w' => e = .returned (.bool true) ∧ Hid (Below w.heap.size w w') := kept_any t x y zs ys w hs hT hY
end Go.Proofs.Ytokdleanpkkdpaa
