/- Contract of late: whether a slot ends too late; conditions: a title at work. -/
import Derived.Test.YtokdleanpkkdpaaA7
set_option linter.unusedSimpArgs false
set_option linter.unusedVariables false
namespace Go.Proofs.Ytokdleanpkkdpaa
open Go.RowKit Go.Fh Go.Ed
abbrev EdM := EdD × EA
def encEd (e : EdM) : List Value := [.slice e.2.z e.1.zones.length e.2.cz, .int .i64 e.1.copies, .int .i64 e.1.ready, .int .i64 e.1.due, .slice e.2.v e.1.variants.length e.2.cv]
/-- the cells of a title at work -/
def workC (t : TitD) (x : TA) (v c : Value) (all : Int) : Array Value := #[.slice x.a t.colours.length x.ca, .slice x.b t.pairs.length x.cb, .slice x.z t.zones.length x.cz, .slice x.r t.ready.length x.cr, .int .i64 t.start, .int .i64 t.rate, .int .i64 t.stop, .int .i64 t.hang, v, c, .int .i64 all]
/-- a title at work lies in a block -/
def workV (t : TitD) (x : TA) (E : Option Addr) (n cE : Nat) (C : Option Addr) (cC : Nat) (all : Int) : Array Value := #[.slice x.a t.colours.length x.ca, .slice x.b t.pairs.length x.cb, .slice x.z t.zones.length x.cz, .slice x.r t.ready.length x.cr, .int .i64 t.start, .int .i64 t.rate, .int .i64 t.stop, .int .i64 t.hang, .slice E n cE, .slice C n cC, .int .i64 all]
theorem workV_eq (t : TitD) (x : TA) (E : Option Addr) (n cE : Nat) (C : Option Addr) (cC : Nat) (all : Int) : workV t x E n cE C cC all = workC t x (.slice E n cE) (.slice C n cC) all := rfl
theorem Sl.atEd {B : Nat} {w : World} {A : Option Addr} {l : List EdM} (h : Sl encEd 5 w B A l) {k : Nat} (hk : k < l.length) :
    ∃ b off, A = some ⟨b, off, none⟩ ∧ b < B ∧ w.cell? ⟨b, off + k * 5, none⟩ = some (.slice l[k].2.z l[k].1.zones.length l[k].2.cz) ∧ w.cell? ⟨b, off + k * 5 + 1, none⟩ = some (.int .i64 l[k].1.copies) ∧ w.cell? ⟨b, off + k * 5 + 2, none⟩ = some (.int .i64 l[k].1.ready) ∧ w.cell? ⟨b, off + k * 5 + 3, none⟩ = some (.int .i64 l[k].1.due) ∧ w.cell? ⟨b, off + k * 5 + 4, none⟩ = some (.slice l[k].2.v l[k].1.variants.length l[k].2.cv) := by
  obtain ⟨b, off, hA, hb, hc⟩ := h.at_ hk
  exact ⟨b, off, hA, hb, hc 0 _ rfl, hc 1 _ rfl, hc 2 _ rfl, hc 3 _ rfl, hc 4 _ rfl⟩

set_option maxRecDepth 20000 in
set_option maxHeartbeats 2000000 in
theorem late_any (t : TitD) (x : TA) (es : List EdM) (E C : Option Addr) (cE cC g : Nat) (all : Int) (e : Nat) (p bg fn : Int) (w : World) (hn : es.length ≤ 1000) (he : e < es.length)
    (hk : Blk w g 129 (workV t x E es.length cE C cC all)) (hE : Sl encEd 5 w w.heap.size E es) :
    Calls Try.prog 80 #[.pointer (some ⟨g, 0, none⟩), .agg #[.int .i64 (e : Int), .int .i64 p, .int .i64 bg, .int .i64 fn]] w fun r w' => r = .returned (.bool (decide (es[e].1.due < fn))) ∧ Below w.heap.size w w' := by
  have hb0 : Below w.heap.size w (w.alloc (.cells #[.int .i64 (e : Int), .int .i64 p, .int .i64 bg, .int .i64 fn] 63)) := (Below.refl _ _).alloc (Nat.le_refl _) _
  have hg : g < w.heap.size := hk.lt
  have k8 := hk.cell 8
  simp [workV] at k8
  obtain ⟨b, off, rfl, hbl, d0, d1, d2, d3, d4⟩ := Sl.atEd hE he
  have HB0 := Lib.hid hb0
  clear hb0 hk hE d0 d1 d2 d4
  generalize es[e].1.due = due at *
  go_enter Try.func80, Try.ntmps80
  go_wp2_with fail
  go_quiet (fail)
  go_wp2_with fail
  go_ret
  exact ⟨rfl, below_drewN HB0.out _⟩
end Go.Proofs.Ytokdleanpkkdpaa
