/- Arguments opened: slices of triples, their datum beside them; conditions: none. -/
import Derived.Test.YtgopdfbmddkpfaaOpn
set_option linter.unusedSimpArgs false
set_option linter.unusedVariables false
namespace Go.Fh.Opn
open Go.Joins Go.ChangeShapes Go.WideShapes Go.RowKit Go.Deep
section
variable {H : Type} {enc : TypeId × Value → H} {P : Program} {W : World}
theorem sl_trips_sized {t e ti : TypeId} {f0 f1 f2 : Field} {a : Option Addr} {len cap : Nat} {d : DataW H} {p : List MemPlace} (ht : P.underlying t = some (.slice e)) (he : P.underlying e = some (.struct #[f0, f1, f2])) (h0 : f0.type = ti) (h1 : f1.type = ti) (h2 : f2.type = ti) (hti : P.underlying ti = some (.int .i64))
    (hone : oneCellFields P #[f0, f1, f2] = true) (hC : P.cellsOf e = 3)
    (h : DataW.Trod enc P W 0 (fun _ => true) true t (.slice a len cap) d p) : ∃ l : List (Int × Int × Int), l.length = len ∧ (l.length = 0 ∨ ∃ es sp, d = .slice es sp ∧ es.length = l.length) ∧ (∀ n ∈ l, (Lit.int .i64 n.1).wf = true ∧ (Lit.int .i64 n.2.1).wf = true ∧ (Lit.int .i64 n.2.2).wf = true) ∧ Sl enc3 3 W W.heap.size a l := by
  obtain ⟨fuel, hf⟩ := h
  rcases open_slice_fields ht he hone hC hf with ⟨hcs, _⟩ | ⟨x, l, c, m, D, Pl, hcs, _, hl, hm, hmm, hx, hi⟩
  · simp [Value.cells] at hcs
    obtain ⟨rfl, rfl, rfl⟩ := hcs
    exact ⟨[], rfl, .inl rfl, by simp, Sl.nil⟩
  · simp [Value.cells] at hcs
    obtain ⟨rfl, rfl, rfl⟩ := hcs
    simp at hmm
    subst hmm
    have key : ∀ i, i < len → ∃ q : Int × Int × Int, ((Lit.int .i64 q.1).wf = true ∧ (Lit.int .i64 q.2.1).wf = true ∧ (Lit.int .i64 q.2.2).wf = true) ∧ W.cell? (x.add (i * 3)) = some (.int .i64 q.1) ∧ W.cell? (x.add (i * 3 + 1)) = some (.int .i64 q.2.1) ∧ W.cell? (x.add (i * 3 + 2)) = some (.int .i64 q.2.2) := by
      intro i him
      obtain ⟨ys, n, _, _, _, hj⟩ := hi i (by omega)
      obtain ⟨v0, y0, hc0, _, t0⟩ := hj 0 f0 rfl
      obtain ⟨v1, y1, hc1, _, t1⟩ := hj 1 f1 rfl
      obtain ⟨n0, e0, _, w0⟩ := DataW.trod_int (h0 ▸ hti) t0
      obtain ⟨n1, e1, _, w1⟩ := DataW.trod_int (h1 ▸ hti) t1
      obtain ⟨v2, y2, hc2, _, t2⟩ := hj 2 f2 rfl
      obtain ⟨n2, e2, _, w2⟩ := DataW.trod_int (h2 ▸ hti) t2
      simp at e0 e1 e2
      subst e0; subst e1; subst e2
      exact ⟨(n0, n1, n2), ⟨w0, w1, w2⟩, by simpa using hc0, by simpa using hc1, by simpa using hc2⟩
    have key' : ∀ i, ∃ q : Int × Int × Int, i < len → ((Lit.int .i64 q.1).wf = true ∧ (Lit.int .i64 q.2.1).wf = true ∧ (Lit.int .i64 q.2.2).wf = true) ∧ W.cell? (x.add (i * 3)) = some (.int .i64 q.1) ∧ W.cell? (x.add (i * 3 + 1)) = some (.int .i64 q.2.1) ∧ W.cell? (x.add (i * 3 + 2)) = some (.int .i64 q.2.2) := by
      intro i
      by_cases h : i < len
      · obtain ⟨q, hq⟩ := key i h
        exact ⟨q, fun _ => hq⟩
      · exact ⟨(0, 0, 0), fun h' => absurd h' h⟩
    obtain ⟨g, hg⟩ := Classical.axiomOfChoice key'
    refine ⟨(List.range len).map g, by simp, .inr ⟨_, _, (Prod.mk.inj hx).1, by simp⟩, ?_, sl_of_cells (fun _ => rfl) (by decide) ?_⟩
    · intro n hn
      obtain ⟨i, hi', rfl⟩ := List.mem_map.1 hn
      exact (hg i (List.mem_range.1 hi')).1
    · intro k y hy j u hu
      have hk : k < len := by
        have := (List.getElem?_eq_some_iff.1 hy).1
        simpa using this
      have hyg : y = g k := by
        rw [List.getElem?_map, List.getElem?_range hk] at hy
        simpa using hy.symm
      subst hyg
      obtain ⟨_, c0, c1, c2⟩ := hg k hk
      match j, hu with
      | 0, hu => simp [enc3] at hu; subst hu; simpa using c0
      | 1, hu => simp [enc3] at hu; subst hu; simpa using c1
      | 2, hu => simp [enc3] at hu; subst hu; simpa using c2
end
end Go.Fh.Opn
