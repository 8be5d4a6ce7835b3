/- Arguments opened: a title; conditions: none. -/
import Derived.Test.YtokdleanpkkdpaaOpn
import Derived.Test.YtokdleanpkkdpaaD2
import Derived.Test.YtokdleanpkkdpaaBase
set_option linter.unusedSimpArgs false
set_option linter.unusedVariables false
namespace Go.Fh.Opn
open Go.Joins Go.ChangeShapes Go.WideShapes Go.RowKit Go.Deep Go.Ed
section
variable {H : Type} {enc : TypeId × Value → H} {P : Program} {w : World} {base : Nat} {spare : Nat → Bool} {held : Bool}
theorem open_agg8 {r : Reach} {b0 : Nat} {t : TypeId} {f0 f1 f2 f3 f4 f5 f6 f7 : Field} {v : Value} {d : DataW H} {p : List MemPlace} (hs : P.underlying t = some (.struct #[f0, f1, f2, f3, f4, f5, f6, f7])) (hone : oneCellFields P #[f0, f1, f2, f3, f4, f5, f6, f7] = true) (hC : P.cellsOf t = 8)
    (hv : Value.okWide P w r b0 t v) (h : DataW.Trod enc P w base spare held t v d p) :
    ∃ (v0 v1 v2 v3 v4 v5 v6 v7 : Value) (y0 y1 y2 y3 y4 y5 y6 y7 : DataW H × List MemPlace) (n : Nat), v = .agg #[v0, v1, v2, v3, v4, v5, v6, v7] ∧
      DataW.trod enc P w base spare held n f0.type [v0] = some y0 ∧ DataW.trod enc P w base spare held n f1.type [v1] = some y1 ∧ DataW.trod enc P w base spare held n f2.type [v2] = some y2 ∧ DataW.trod enc P w base spare held n f3.type [v3] = some y3 ∧ DataW.trod enc P w base spare held n f4.type [v4] = some y4 ∧ DataW.trod enc P w base spare held n f5.type [v5] = some y5 ∧ DataW.trod enc P w base spare held n f6.type [v6] = some y6 ∧ DataW.trod enc P w base spare held n f7.type [v7] = some y7 := by
  obtain ⟨cs, rfl, hsz⟩ := okWide_struct hs hv
  obtain ⟨l⟩ := cs
  match l, hsz.trans hC with
  | [c0, c1, c2, c3, c4, c5, c6, c7], _ =>
    obtain ⟨fuel, hf⟩ := h
    obtain ⟨xs, n, _, hx, _, hlen, hg⟩ := DataW.trod_struct hs hf
    obtain ⟨o0, k0⟩ := hone_of hone 0 f0 rfl
    obtain ⟨o1, k1⟩ := hone_of hone 1 f1 rfl
    obtain ⟨o2, k2⟩ := hone_of hone 2 f2 rfl
    obtain ⟨o3, k3⟩ := hone_of hone 3 f3 rfl
    obtain ⟨o4, k4⟩ := hone_of hone 4 f4 rfl
    obtain ⟨o5, k5⟩ := hone_of hone 5 f5 rfl
    obtain ⟨o6, k6⟩ := hone_of hone 6 f6 rfl
    obtain ⟨o7, k7⟩ := hone_of hone 7 f7 rfl
    match xs, hlen with
    | [y0, y1, y2, y3, y4, y5, y6, y7], _ =>
      exact ⟨c0, c1, c2, c3, c4, c5, c6, c7, y0, y1, y2, y3, y4, y5, y6, y7, n, rfl, by simpa [Value.cells, o0, k0] using hg 0 f0 rfl, by simpa [Value.cells, o1, k1] using hg 1 f1 rfl, by simpa [Value.cells, o2, k2] using hg 2 f2 rfl, by simpa [Value.cells, o3, k3] using hg 3 f3 rfl, by simpa [Value.cells, o4, k4] using hg 4 f4 rfl, by simpa [Value.cells, o5, k5] using hg 5 f5 rfl, by simpa [Value.cells, o6, k6] using hg 6 f6 rfl, by simpa [Value.cells, o7, k7] using hg 7 f7 rfl⟩
end
section
variable {H : Type} {enc : TypeId × Value → H} {P : Program} {W : World}
theorem trod_one {t : TypeId} {v : Value} {n : Nat} {y : DataW H × List MemPlace} (h : DataW.trod enc P W 0 (fun _ => true) true n t [v] = some y) (hv : v.cells = #[v] := by rfl) : DataW.Trod enc P W 0 (fun _ => true) true t v y.1 y.2 := ⟨n, by rw [hv]; simpa using h⟩
theorem sh_slice {t e : TypeId} {n : Nat} {v : Value} {y : DataW H × List MemPlace} (ht : P.underlying t = some (.slice e)) (h : DataW.trod enc P W 0 (fun _ => true) true n t [v] = some y) : ∃ a l c, v = .slice a l c := by
  rcases open_slice ht h with ⟨h0, _⟩ | ⟨a, len, cap, m, n', D, Pl, hcs, _⟩
  · simp at h0; exact ⟨_, _, _, h0⟩
  · simp at hcs; exact ⟨_, _, _, hcs⟩
theorem sl_trips {t e ti : TypeId} {f0 f1 f2 : Field} {a : Option Addr} {len cap : Nat} {d : DataW H} {p : List MemPlace} (ht : P.underlying t = some (.slice e)) (he : P.underlying e = some (.struct #[f0, f1, f2])) (h0 : f0.type = ti) (h1 : f1.type = ti) (h2 : f2.type = ti) (hti : P.underlying ti = some (.int .i64))
    (hone : oneCellFields P #[f0, f1, f2] = true) (hC : P.cellsOf e = 3)
    (h : DataW.Trod enc P W 0 (fun _ => true) true t (.slice a len cap) d p) : ∃ l : List (Int × Int × Int), l.length = len ∧ Sl enc3 3 W W.heap.size a l := by
  obtain ⟨fuel, hf⟩ := h
  rcases open_slice_fields ht he hone hC hf with ⟨hcs, _⟩ | ⟨x, l, c, m, D, Pl, hcs, _, hl, hm, hmm, _, hi⟩
  · simp [Value.cells] at hcs
    obtain ⟨rfl, rfl, rfl⟩ := hcs
    exact ⟨[], rfl, Sl.nil⟩
  · simp [Value.cells] at hcs
    obtain ⟨rfl, rfl, rfl⟩ := hcs
    simp at hmm
    subst hmm
    have key : ∀ i, i < len → ∃ q : Int × Int × Int, W.cell? (x.add (i * 3)) = some (.int .i64 q.1) ∧ W.cell? (x.add (i * 3 + 1)) = some (.int .i64 q.2.1) ∧ W.cell? (x.add (i * 3 + 2)) = some (.int .i64 q.2.2) := by
      intro i him
      obtain ⟨ys, n, _, _, _, hj⟩ := hi i (by omega)
      obtain ⟨v0, y0, hc0, _, t0⟩ := hj 0 f0 rfl
      obtain ⟨v1, y1, hc1, _, t1⟩ := hj 1 f1 rfl
      obtain ⟨v2, y2, hc2, _, t2⟩ := hj 2 f2 rfl
      obtain ⟨n0, e0, _, w0⟩ := DataW.trod_int (h0 ▸ hti) t0
      obtain ⟨n1, e1, _, w1⟩ := DataW.trod_int (h1 ▸ hti) t1
      obtain ⟨n2, e2, _, w2⟩ := DataW.trod_int (h2 ▸ hti) t2
      simp at e0 e1 e2
      subst e0; subst e1; subst e2
      exact ⟨(n0, n1, n2), by simpa using hc0, by simpa using hc1, by simpa using hc2⟩
    have key' : ∀ i, ∃ q : Int × Int × Int, i < len → W.cell? (x.add (i * 3)) = some (.int .i64 q.1) ∧ W.cell? (x.add (i * 3 + 1)) = some (.int .i64 q.2.1) ∧ W.cell? (x.add (i * 3 + 2)) = some (.int .i64 q.2.2) := by
      intro i
      by_cases h : i < len
      · obtain ⟨q, hq⟩ := key i h
        exact ⟨q, fun _ => hq⟩
      · exact ⟨(0, 0, 0), fun h' => absurd h' h⟩
    obtain ⟨g, hg⟩ := Classical.axiomOfChoice key'
    refine ⟨(List.range len).map g, by simp, sl_of_cells (fun _ => rfl) (by decide) ?_⟩
    intro k y hy j u hu
    have hk : k < len := by
      have := (List.getElem?_eq_some_iff.1 hy).1
      simpa using this
    have hyg : y = g k := by
      rw [List.getElem?_map, List.getElem?_range hk] at hy
      simpa using hy.symm
    subst hyg
    obtain ⟨c0, c1, c2⟩ := hg k hk
    match j, hu with
    | 0, hu => simp [enc3] at hu; subst hu; simpa using c0
    | 1, hu => simp [enc3] at hu; subst hu; simpa using c1
    | 2, hu => simp [enc3] at hu; subst hu; simpa using c2
theorem sl_zons {t e ti ts : TypeId} {f0 f1 f2 : Field} {a : Option Addr} {len cap : Nat} {d : DataW H} {p : List MemPlace} (ht : P.underlying t = some (.slice e)) (he : P.underlying e = some (.struct #[f0, f1, f2])) (h0 : f0.type = ti) (h1 : f1.type = ti) (h2 : f2.type = ts) (hti : P.underlying ti = some (.int .i64)) (hts : P.underlying ts = some (.slice ti)) (hci : P.cellsOf ti = 1)
    (hone : oneCellFields P #[f0, f1, f2] = true) (hC : P.cellsOf e = 3)
    (h : DataW.Trod enc P W 0 (fun _ => true) true t (.slice a len cap) d p) : ∃ l : List ZonM, l.length = len ∧ Sl encZon 3 W W.heap.size a l ∧ ∀ y ∈ l, Sl encInt 1 W W.heap.size y.2.1 y.1.variants := by
  obtain ⟨fuel, hf⟩ := h
  rcases open_slice_fields ht he hone hC hf with ⟨hcs, _⟩ | ⟨x, l, c, m, D, Pl, hcs, _, hl, hm, hmm, _, hi⟩
  · simp [Value.cells] at hcs
    obtain ⟨rfl, rfl, rfl⟩ := hcs
    exact ⟨[], rfl, Sl.nil, by simp⟩
  · simp [Value.cells] at hcs
    obtain ⟨rfl, rfl, rfl⟩ := hcs
    simp at hmm
    subst hmm
    have key : ∀ i, i < len → ∃ q : ZonM, Sl encInt 1 W W.heap.size q.2.1 q.1.variants ∧ W.cell? (x.add (i * 3)) = some (.int .i64 q.1.copies) ∧ W.cell? (x.add (i * 3 + 1)) = some (.int .i64 q.1.due) ∧ W.cell? (x.add (i * 3 + 2)) = some (.slice q.2.1 q.1.variants.length q.2.2) := by
      intro i him
      obtain ⟨ys, n, _, _, _, hj⟩ := hi i (by omega)
      obtain ⟨v0, y0, hc0, _, t0⟩ := hj 0 f0 rfl
      obtain ⟨v1, y1, hc1, _, t1⟩ := hj 1 f1 rfl
      obtain ⟨v2, y2, hc2, _, t2⟩ := hj 2 f2 rfl
      obtain ⟨n0, e0, _, w0⟩ := DataW.trod_int (h0 ▸ hti) t0
      obtain ⟨n1, e1, _, w1⟩ := DataW.trod_int (h1 ▸ hti) t1
      simp at e0 e1
      subst e0; subst e1
      have t2' : DataW.trod enc P W 0 (fun _ => true) true n ts [v2] = some y2 := h2 ▸ t2
      have hsh : ∃ a' l' c', v2 = .slice a' l' c' := by
        rcases open_ints hts hti hci t2' with ⟨hcs, _⟩ | ⟨x', l', c', _, hcs, _⟩
        · simp at hcs; exact ⟨_, _, _, hcs⟩
        · simp at hcs; exact ⟨_, _, _, hcs⟩
      obtain ⟨a', l', c', rfl⟩ := hsh
      have hT : DataW.Trod enc P W 0 (fun _ => true) true ts (.slice a' l' c') y2.1 y2.2 := ⟨n, by simpa [Value.cells] using t2'⟩
      obtain ⟨vs, hlen, _, hs⟩ := sl_ints hts hti hci hT
      refine ⟨(⟨n0, n1, vs⟩, a', c'), hs, by simpa using hc0, by simpa using hc1, ?_⟩
      simpa [hlen] using hc2
    have key' : ∀ i, ∃ q : ZonM, i < len → Sl encInt 1 W W.heap.size q.2.1 q.1.variants ∧ W.cell? (x.add (i * 3)) = some (.int .i64 q.1.copies) ∧ W.cell? (x.add (i * 3 + 1)) = some (.int .i64 q.1.due) ∧ W.cell? (x.add (i * 3 + 2)) = some (.slice q.2.1 q.1.variants.length q.2.2) := by
      intro i
      by_cases h : i < len
      · obtain ⟨q, hq⟩ := key i h
        exact ⟨q, fun _ => hq⟩
      · exact ⟨(⟨0, 0, []⟩, none, 0), fun h' => absurd h' h⟩
    obtain ⟨g, hg⟩ := Classical.axiomOfChoice key'
    refine ⟨(List.range len).map g, by simp, sl_of_cells (fun _ => rfl) (by decide) ?_, ?_⟩
    · intro k y hy j u hu
      have hk : k < len := by
        have := (List.getElem?_eq_some_iff.1 hy).1
        simpa using this
      have hyg : y = g k := by
        rw [List.getElem?_map, List.getElem?_range hk] at hy
        simpa using hy.symm
      subst hyg
      obtain ⟨_, c0, c1, c2⟩ := hg k hk
      match j, hu with
      | 0, hu => simp [encZon] at hu; subst hu; simpa using c0
      | 1, hu => simp [encZon] at hu; subst hu; simpa using c1
      | 2, hu => simp [encZon] at hu; subst hu; simpa using c2
    · intro y hy
      obtain ⟨i, hi', rfl⟩ := List.mem_map.1 hy
      exact (hg i (List.mem_range.1 hi')).1
end
end Go.Fh.Opn
