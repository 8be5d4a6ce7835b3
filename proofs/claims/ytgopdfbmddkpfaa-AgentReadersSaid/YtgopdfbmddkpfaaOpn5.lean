/- Arguments opened: a list of structs with a list inside; conditions: none. -/
import Derived.Test.YtgopdfbmddkpfaaOpn
import Derived.Test.YtgopdfbmddkpfaaV1
set_option linter.unusedSimpArgs false
set_option linter.unusedVariables false
namespace Go.Proofs.Ytgopdfbmddkpfaa
open Go.Joins Go.ChangeShapes Go.WideShapes Go.RowKit Go.Deep Go.Fh Go.Fh.Opn Go.Ag
section
variable {H : Type} {enc : TypeId × Value → H} {P : Program} {W : World}
theorem sl_len {t e : TypeId} {fs : Array Field} {a : Option Addr} {len cap : Nat} {d : DataW H} {p : List MemPlace} (ht : P.underlying t = some (.slice e)) (he : P.underlying e = some (.struct fs))
    (hone : oneCellFields P fs = true) (hC : P.cellsOf e = fs.size)
    (h : DataW.Trod enc P W 0 (fun _ => true) true t (.slice a len cap) d p) : len ≤ maxLen := by
  obtain ⟨fuel, hf⟩ := h
  rcases open_slice_fields ht he hone hC hf with ⟨hcs, _⟩ | ⟨x, l, c, m, D, Pl, hcs, _, hl, hm, hmm, _, hi⟩
  · simp [Value.cells] at hcs
    obtain ⟨rfl, rfl, rfl⟩ := hcs
    exact Nat.zero_le _
  · simp [Value.cells] at hcs
    obtain ⟨rfl, rfl, rfl⟩ := hcs
    omega
theorem sl_subs {t e ti ts es : TypeId} {f0 f1 f2 f3 f4 g0 g1 : Field} {a : Option Addr} {len cap : Nat} {d : DataW H} {p : List MemPlace} (ht : P.underlying t = some (.slice e)) (he : P.underlying e = some (.struct #[f0, f1, f2, f3, f4]))
    (h0 : f0.type = ti) (h1 : f1.type = ti) (h2 : f2.type = ti) (h3 : f3.type = ti) (h4 : f4.type = ts) (hti : P.underlying ti = some (.int .i64)) (hts : P.underlying ts = some (.slice es)) (hes : P.underlying es = some (.struct #[g0, g1])) (k0 : g0.type = ti) (k1 : g1.type = ti)
    (hone : oneCellFields P #[f0, f1, f2, f3, f4] = true) (hC : P.cellsOf e = 5) (hone2 : oneCellFields P #[g0, g1] = true) (hC2 : P.cellsOf es = 2)
    (h : DataW.Trod enc P W 0 (fun _ => true) true t (.slice a len cap) d p) : ∃ l : List SubM, l.length = len ∧ Sl encSub 5 W W.heap.size a l ∧ ∀ y ∈ l, Sl enc2 2 W W.heap.size y.2.1 y.1.hol := by
  obtain ⟨fuel, hf⟩ := h
  rcases open_slice_fields ht he hone hC hf with ⟨hcs, _⟩ | ⟨x, l, c, m, D, Pl, hcs, _, hl, hm, hmm, _, hi⟩
  · simp [Value.cells] at hcs
    obtain ⟨rfl, rfl, rfl⟩ := hcs
    exact ⟨[], rfl, Sl.nil, by simp⟩
  · simp [Value.cells] at hcs
    obtain ⟨rfl, rfl, rfl⟩ := hcs
    simp at hmm
    subst hmm
    have key : ∀ i, i < len → ∃ q : SubM, Sl enc2 2 W W.heap.size q.2.1 q.1.hol ∧ W.cell? (x.add (i * 5)) = some (.int .i64 q.1.id) ∧ W.cell? (x.add (i * 5 + 1)) = some (.int .i64 q.1.lo) ∧ W.cell? (x.add (i * 5 + 2)) = some (.int .i64 q.1.hi) ∧ W.cell? (x.add (i * 5 + 3)) = some (.int .i64 q.1.days) ∧ W.cell? (x.add (i * 5 + 4)) = some (.slice q.2.1 q.1.hol.length q.2.2) := by
      intro i him
      obtain ⟨ys, n, _, _, _, hj⟩ := hi i (by omega)
      obtain ⟨v0, y0, hc0, _, t0⟩ := hj 0 f0 rfl
      obtain ⟨v1, y1, hc1, _, t1⟩ := hj 1 f1 rfl
      obtain ⟨v2, y2, hc2, _, t2⟩ := hj 2 f2 rfl
      obtain ⟨v3, y3, hc3, _, t3⟩ := hj 3 f3 rfl
      obtain ⟨v4, y4, hc4, _, t4⟩ := hj 4 f4 rfl
      obtain ⟨n0, e0, _, w0⟩ := DataW.trod_int (h0 ▸ hti) t0
      obtain ⟨n1, e1, _, w1⟩ := DataW.trod_int (h1 ▸ hti) t1
      obtain ⟨n2, e2, _, w2⟩ := DataW.trod_int (h2 ▸ hti) t2
      obtain ⟨n3, e3, _, w3⟩ := DataW.trod_int (h3 ▸ hti) t3
      simp at e0 e1 e2 e3
      subst e0; subst e1; subst e2; subst e3
      have t4' : DataW.trod enc P W 0 (fun _ => true) true n ts [v4] = some y4 := h4 ▸ t4
      have hsh : ∃ a' l' c', v4 = .slice a' l' c' := by
        rcases open_slice_fields hts hes hone2 hC2 t4' with ⟨hcs, _⟩ | ⟨x', l', c', _, _, _, hcs, _⟩
        · simp at hcs; exact ⟨_, _, _, hcs⟩
        · simp at hcs; exact ⟨_, _, _, hcs⟩
      obtain ⟨a', l', c', rfl⟩ := hsh
      have hT : DataW.Trod enc P W 0 (fun _ => true) true ts (.slice a' l' c') y4.1 y4.2 := ⟨n, by simpa [Value.cells] using t4'⟩
      obtain ⟨hol, hlen, _, hs⟩ := sl_pairs hts hes k0 k1 hti hone2 hC2 hT
      refine ⟨(⟨n0, n1, n2, n3, hol⟩, a', c'), hs, by simpa using hc0, by simpa using hc1, by simpa using hc2, by simpa using hc3, ?_⟩
      simpa [hlen] using hc4
    have key' : ∀ i, ∃ q : SubM, i < len → Sl enc2 2 W W.heap.size q.2.1 q.1.hol ∧ W.cell? (x.add (i * 5)) = some (.int .i64 q.1.id) ∧ W.cell? (x.add (i * 5 + 1)) = some (.int .i64 q.1.lo) ∧ W.cell? (x.add (i * 5 + 2)) = some (.int .i64 q.1.hi) ∧ W.cell? (x.add (i * 5 + 3)) = some (.int .i64 q.1.days) ∧ W.cell? (x.add (i * 5 + 4)) = some (.slice q.2.1 q.1.hol.length q.2.2) := by
      intro i
      by_cases h : i < len
      · obtain ⟨q, hq⟩ := key i h
        exact ⟨q, fun _ => hq⟩
      · exact ⟨(⟨0, 0, 0, 0, []⟩, none, 0), fun h' => absurd h' h⟩
    obtain ⟨g, hg⟩ := Classical.axiomOfChoice key'
    refine ⟨(List.range len).map g, by simp, sl_of_cells (fun _ => rfl) (by decide) ?_, ?_⟩
    · intro k y hy j u hu
      have hk : k < len := by
        have := (List.getElem?_eq_some_iff.1 hy).1
        simpa using this
      have hyg : y = g k := by
        rw [List.getElem?_map, List.getElem?_range hk] at hy
        simpa using hy.symm
      subst hyg
      obtain ⟨_, c0, c1, c2, c3, c4⟩ := hg k hk
      match j, hu with
      | 0, hu => simp [encSub] at hu; subst hu; simpa using c0
      | 1, hu => simp [encSub] at hu; subst hu; simpa using c1
      | 2, hu => simp [encSub] at hu; subst hu; simpa using c2
      | 3, hu => simp [encSub] at hu; subst hu; simpa using c3
      | 4, hu => simp [encSub] at hu; subst hu; simpa using c4
    · intro y hy
      obtain ⟨i, hi', rfl⟩ := List.mem_map.1 hy
      exact (hg i (List.mem_range.1 hi')).1
end
end Go.Proofs.Ytgopdfbmddkpfaa
