/- What a title made of numbers knows; small words for the laws; conditions: none. -/
import Derived.Test.YtokdleanpkkdpaaY1
import Derived.Test.YtokdleanpkkdpaaR3
import Derived.Test.YtokdleanpkkdpaaE4
import Derived.Test.YtokdleanpkkdpaaX4
import Derived.Test.YtokdleanpkkdpaaSpecC
import Derived.Test.YtokdleanpkkdpaaSpecD
set_option linter.unusedSimpArgs false
set_option linter.unusedVariables false
namespace Go.Ed
theorem made_zones (l : List Nat) : ∀ z ∈ (madeT l).zones, ZonOk (madeT l).colours.length z := by
  obtain ⟨p, hp⟩ := pairsM_ok l
  intro z hz
  have h := (zonsM_ok l (pagesM l) ((pairsM l).2.2 + 1) (1 + (dig l (pairsM l).2.2 7).toNat)).2 z hz
  show ZonOk (pairsM l).1.length z
  rw [hp.len]; exact h
theorem made_sizes (l : List Nat) : Sizes (madeT l) := by
  have h := chk_ok (madeT_ok l)
  obtain ⟨p, hp⟩ := pairsM_ok l
  have hq := pairs_few hp
  have hg := pagesM_bd l
  refine ⟨by have := h.ok.c1; omega, by show (pairsM l).2.1.length ≤ _; omega, by have := h.z1; omega, by have := h.r1; omega, fun z hz => ?_⟩
  have := (made_zones l z hz).len
  have := h.ok.c1
  omega
theorem permM_lt (l : List Nat) (n : Nat) : ∀ e ∈ permM l n, e < n := fun e he => List.mem_range.1 ((permM_perm l n).mem_iff.1 he)
end Go.Ed
namespace Go.Proofs.Ytokdleanpkkdpaa
open Go.RowKit Go.Fh Go.Ed
theorem tit_cells {W : World} {g : Nat} {t : TitD} {x : TA} (h : Blk W g 26 (titV t x)) : W.cell? ⟨g, 0, none⟩ = some (.slice x.a t.colours.length x.ca) ∧ W.cell? ⟨g, 1, none⟩ = some (.slice x.b t.pairs.length x.cb) ∧ W.cell? ⟨g, 2, none⟩ = some (.slice x.z t.zones.length x.cz) ∧ W.cell? ⟨g, 3, none⟩ = some (.slice x.r t.ready.length x.cr) ∧ W.cell? ⟨g, 4, none⟩ = some (.int .i64 t.start) ∧ W.cell? ⟨g, 5, none⟩ = some (.int .i64 t.rate) ∧ W.cell? ⟨g, 6, none⟩ = some (.int .i64 t.stop) ∧ W.cell? ⟨g, 7, none⟩ = some (.int .i64 t.hang) :=
  ⟨h.cell 0, h.cell 1, h.cell 2, h.cell 3, h.cell 4, h.cell 5, h.cell 6, h.cell 7⟩
section
/-- Editions, in the walk's spelling -/
theorem eds_w (t : TitD) (x : TA) (zs : List ZonM) (w : World) (hs : Sizes t) (hc : checkT t = 0) (n : Nat) (hn : n = (edsR t).length) (hT : TitAt w w.heap.size t x zs) :
    Calls Try.prog 15 #[.agg #[.slice x.a t.colours.length x.ca, .slice x.b t.pairs.length x.cb, .slice x.z t.zones.length x.cz, .slice x.r t.ready.length x.cr, .int .i64 t.start, .int .i64 t.rate, .int .i64 t.stop, .int .i64 t.hang]] w fun e w' => ∃ k : Wk, e = .returned (.tuple #[.slice k.E n k.cE, .int .i64 0]) ∧ Hid (WorkAt w' w.heap.size t x k) ∧ Hid (Below w.heap.size w w') := by
  subst hn
  exact (eds_ok t x zs w hs hT hc).mono (by rintro e w' ⟨k, rfl, hk, hb⟩; exact ⟨k, by rw [hk.len], hk, hb⟩)
theorem change_w (t : TitD) (x : TA) (zs : List ZonM) (w : World) (hs : Sizes t) (hc : checkT t = 0) (a b : Nat) (ha : a < (edsR t).length) (hb : b < (edsR t).length) (ch : Int) (hch : ch = changeB t ((edsR t).getD a ed0) ((edsR t).getD b ed0)) (hT : TitAt w w.heap.size t x zs) :
    Calls Try.prog 22 #[.agg #[.slice x.a t.colours.length x.ca, .slice x.b t.pairs.length x.cb, .slice x.z t.zones.length x.cz, .slice x.r t.ready.length x.cr, .int .i64 t.start, .int .i64 t.rate, .int .i64 t.stop, .int .i64 t.hang], .int .i64 (a : Int), .int .i64 (b : Int)] w fun e w' => e = .returned (.tuple #[.int .i64 ch, .int .i64 0]) ∧ Hid (Below w.heap.size w w') := by
  subst hch
  exact (change_ok t x zs w hs hT a b hc ha hb).mono (by rintro e w' ⟨rfl, hb⟩; exact ⟨rfl, hb⟩)
theorem plates_w (t : TitD) (x : TA) (zs : List ZonM) (w : World) (hs : Sizes t) (hc : checkT t = 0) (hT : TitAt w w.heap.size t x zs) :
    Calls Try.prog 23 #[.agg #[.slice x.a t.colours.length x.ca, .slice x.b t.pairs.length x.cb, .slice x.z t.zones.length x.cz, .slice x.r t.ready.length x.cr, .int .i64 t.start, .int .i64 t.rate, .int .i64 t.stop, .int .i64 t.hang]] w fun e w' => e = .returned (.tuple #[.int .i64 (allB t), .int .i64 0]) ∧ Hid (Below w.heap.size w w') :=
  (plates_ok t x zs w hs hT hc).mono (by rintro e w' ⟨rfl, hb⟩; exact ⟨rfl, hb⟩)
theorem slots_w (t : TitD) (x : TA) (zs : List ZonM) (w : World) (hs : Sizes t) (hc : checkT t = 0) (A : Option Addr) (c : Nat) (o : List Nat) (hl : o.length ≤ 1000) (hA : Sl encInt 1 w w.heap.size A (o.map fun (e : Nat) => (e : Int))) (ho : ordersB (edsR t).length (o.map fun (e : Nat) => (e : Int)) = true) (hT : TitAt w w.heap.size t x zs) :
    Calls Try.prog 24 #[.agg #[.slice x.a t.colours.length x.ca, .slice x.b t.pairs.length x.cb, .slice x.z t.zones.length x.cz, .slice x.r t.ready.length x.cr, .int .i64 t.start, .int .i64 t.rate, .int .i64 t.stop, .int .i64 t.hang], .slice A o.length c] w fun e w' => ∃ A' c', e = .returned (.tuple #[.slice A' o.length c', .int .i64 0]) ∧ Hid (Sl encSlo 4 w' w'.heap.size A' (slotsD t (edsR t) o)) ∧ Hid (Below w.heap.size w w') :=
  (Slots_ok t x zs w hs hT A c o hl hA hc ho).mono (by
    have hlen : (slotsD t (edsR t) o).length = o.length := upF_len _ _
    rintro e w' ⟨A', c', rfl, hown, hb⟩
    exact ⟨A', c', by rw [hlen], Sl.of_own (fun _ => rfl) hown, hb⟩)
theorem parts_w (t : TitD) (x : TA) (zs : List ZonM) (w : World) (hs : Sizes t) (hc : checkT t = 0) (A : Option Addr) (c : Nat) (o : List Nat) (m : Nat) (hm : m = (partsL t (edsR t) o).length) (hl : o.length ≤ 1000) (hA : Sl encInt 1 w w.heap.size A (o.map fun (e : Nat) => (e : Int))) (ho : ordersB (edsR t).length (o.map fun (e : Nat) => (e : Int)) = true) (hT : TitAt w w.heap.size t x zs) :
    Calls Try.prog 17 #[.agg #[.slice x.a t.colours.length x.ca, .slice x.b t.pairs.length x.cb, .slice x.z t.zones.length x.cz, .slice x.r t.ready.length x.cr, .int .i64 t.start, .int .i64 t.rate, .int .i64 t.stop, .int .i64 t.hang], .slice A o.length c] w fun e w' => ∃ A' c', e = .returned (.tuple #[.slice A' m c', .int .i64 0]) ∧ Hid (Sl enc3 3 w' w'.heap.size A' (partsL t (edsR t) o)) ∧ Hid (Below w.heap.size w w') := by
  subst hm
  exact (Parts_ok t x zs w hs hT A c o hl hA hc ho).mono (by
    rintro e w' ⟨A', c', rfl, hown, hb⟩
    exact ⟨A', c', rfl, Sl.of_own (fun _ => rfl) hown, hb⟩)
theorem which_w (t : TitD) (x : TA) (zs : List ZonM) (w : World) (hs : Sizes t) (hc : checkT t = 0) (A : Option Addr) (c : Nat) (o : List Nat) (copy : Int) (r : Int × Int × Int) (hr : r = whichE t (edsR t) o copy) (hl : o.length ≤ 1000) (hA : Sl encInt 1 w w.heap.size A (o.map fun (e : Nat) => (e : Int))) (ho : ordersB (edsR t).length (o.map fun (e : Nat) => (e : Int)) = true) (hT : TitAt w w.heap.size t x zs) :
    Calls Try.prog 18 #[.agg #[.slice x.a t.colours.length x.ca, .slice x.b t.pairs.length x.cb, .slice x.z t.zones.length x.cz, .slice x.r t.ready.length x.cr, .int .i64 t.start, .int .i64 t.rate, .int .i64 t.stop, .int .i64 t.hang], .slice A o.length c, .int .i64 copy] w fun e w' => e = .returned (.tuple #[.int .i64 r.1, .int .i64 r.2.1, .int .i64 r.2.2]) ∧ Hid (Below w.heap.size w w') := by
  subst hr
  exact (Which_ok t x zs w hs hT A c o copy hl hA hc ho).mono (by rintro e w' ⟨rfl, hb⟩; exact ⟨rfl, hb⟩)
end
theorem made_w (A : Option Addr) (c : Nat) (l : List Nat) (w : World) (t : TitD) (ht : t = madeT l) (hl : l.length ≤ 9223372036854775807) (hbd : ∀ x ∈ l, x ≤ 255) (hA : Sl encBn 1 w w.heap.size A l) :
    Calls Try.prog 14 #[.slice A l.length c] w fun e w' => ∃ x zs, e = .returned (.agg #[.slice x.a t.colours.length x.ca, .slice x.b t.pairs.length x.cb, .slice x.z t.zones.length x.cz, .slice x.r t.ready.length x.cr, .int .i64 t.start, .int .i64 t.rate, .int .i64 t.stop, .int .i64 t.hang]) ∧ Hid (TitAt w' w'.heap.size t x zs) ∧ Hid (Below w.heap.size w w') := by
  subst ht
  exact (made_any A c l w hl hbd hA).mono (by rintro e w' ⟨x, zs, h1, h2, h3⟩; exact ⟨x, zs, h1, h2, h3⟩)
theorem perm_w (A : Option Addr) (c n : Nat) (l : List Nat) (w : World) (hn : n ≤ 1000) (hl : l.length ≤ 9223372036854775807) (hbd : ∀ x ∈ l, x ≤ 255) (hA : Sl encBn 1 w w.heap.size A l) :
    Calls Try.prog 16 #[.int .i64 n, .slice A l.length c] w fun e w' => ∃ A' c', e = .returned (.slice A' n c') ∧ Hid (Sl encInt 1 w' w'.heap.size A' ((permM l n).map fun (e : Nat) => (e : Int))) ∧ Hid (Below w.heap.size w w') :=
  (permuted_any A c n l w hn hl hbd hA).mono (by
    rintro e w' ⟨A', c', rfl, hown, hb⟩
    have hlen : ((permM l n).map fun (e : Nat) => (e : Int)).length = n := by simp [permM_len]
    exact ⟨A', c', rfl, own_sl (c := c') (B := w.heap.size) (by rw [hlen]; exact hown), hb⟩)
end Go.Proofs.Ytokdleanpkkdpaa
