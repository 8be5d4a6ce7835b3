/- Arguments opened: slices of bytes; conditions: none. -/
import Derived.Test.YtfejedmpplbmjaaOpn
import Derived.Test.YtfejedmpplbmjaaOG
set_option linter.unusedSimpArgs false
set_option linter.unusedVariables false
namespace Go.Fh.Opn
open Go.Joins Go.ChangeShapes Go.WideShapes Go.RowKit Go.Deep
section
variable {H : Type} {enc : TypeId × Value → H} {P : Program} {W : World}
def encB (n : Int) : List Value := [.int .u8 n]
theorem sl_bytes {t e : TypeId} {a : Option Addr} {len cap : Nat} {d : DataW H} {p : List MemPlace} (ht : P.underlying t = some (.slice e)) (he : P.underlying e = some (.int .u8)) (hc : P.cellsOf e = 1)
    (h : DataW.Trod enc P W 0 (fun _ => true) true t (.slice a len cap) d p) : ∃ l : List Int, l.length = len ∧ l.length ≤ maxLen ∧ (∀ n ∈ l, (Lit.int .u8 n).wf = true) ∧ Sl encB 1 W W.heap.size a l := by
  obtain ⟨fuel, hf⟩ := h
  rcases open_ints ht he hc hf with ⟨hcs, _⟩ | ⟨x, l, c, zs, hcs, _, hl, hm, hz, _, hcell, hwz⟩
  · simp [Value.cells] at hcs
    obtain ⟨rfl, rfl, rfl⟩ := hcs
    exact ⟨[], rfl, Nat.zero_le _, by simp, Sl.nil⟩
  · simp [Value.cells] at hcs
    obtain ⟨rfl, rfl, rfl⟩ := hcs
    simp at hz
    refine ⟨zs.take len, by simp; omega, by simp; omega, fun n hn => hwz n (List.mem_of_mem_take hn), sl_of_cells (fun _ => rfl) (by decide) ?_⟩
    intro k x hx j u hu
    have hk : k < zs.length := by
      have := (List.getElem?_eq_some_iff.1 hx).1
      simp at this; omega
    match j, hu with
    | 0, hu =>
      simp [encB] at hu
      subst hu
      have h1 := hcell k hk
      have h2 : zs[k]? = some x := by
        rw [List.getElem?_take] at hx
        split at hx
        · exact hx
        · cases hx
      simp only [List.getD_eq_getElem?_getD, h2, Option.getD_some] at h1
      simpa using h1
theorem sl_bytesN {t e : TypeId} {a : Option Addr} {len cap : Nat} {d : DataW H} {p : List MemPlace} (ht : P.underlying t = some (.slice e)) (he : P.underlying e = some (.int .u8)) (hc : P.cellsOf e = 1)
    (h : DataW.Trod enc P W 0 (fun _ => true) true t (.slice a len cap) d p) : ∃ l : List Nat, l.length = len ∧ l.length ≤ maxLen ∧ (∀ n ∈ l, n ≤ 255) ∧ Sl Go.Proofs.Ytfejedmpplbmjaa.encBn 1 W W.heap.size a l := by
  obtain ⟨l, h1, h2, h3, h4⟩ := sl_bytes ht he hc h
  have hb : ∀ n ∈ l, 0 ≤ n ∧ n ≤ 255 := fun n hn => by
    have := h3 n hn
    simp only [Lit.wf, Bool.and_eq_true, decide_eq_true_eq] at this
    rw [show IntKind.u8.min = 0 from by decide, show IntKind.u8.max = 255 from by decide] at this
    exact this
  refine ⟨l.map Int.toNat, by simpa using h1, by simpa using h2, fun n hn => ?_, fun hn => ?_⟩
  · obtain ⟨x, hx, rfl⟩ := List.mem_map.1 hn
    have := hb x hx; omega
  · obtain ⟨b, off, hA, hlt, hcl⟩ := h4 (by intro e; subst e; exact hn rfl)
    refine ⟨b, off, hA, hlt, fun k x hx j u hu => ?_⟩
    rw [List.getElem?_map] at hx
    obtain ⟨y, hy, rfl⟩ := Option.map_eq_some_iff.1 hx
    have hm := hb y (List.mem_of_getElem? hy)
    refine hcl k y hy j u ?_
    simp only [Go.Proofs.Ytfejedmpplbmjaa.encBn] at hu
    rw [show ((y.toNat : Nat) : Int) = y by omega] at hu
    exact hu
end
theorem byte_bd {n : Int} (h : (Lit.int .u8 n).wf = true) : 0 ≤ n ∧ n ≤ 255 := by
  simp only [Lit.wf, Bool.and_eq_true, decide_eq_true_eq] at h
  rw [show IntKind.u8.min = 0 from by decide, show IntKind.u8.max = 255 from by decide] at h
  exact h
theorem u16_bd {n : Int} (h : (Lit.int .u16 n).wf = true) : 0 ≤ n ∧ n ≤ 65535 := by
  simp only [Lit.wf, Bool.and_eq_true, decide_eq_true_eq] at h
  rw [show IntKind.u16.min = 0 from by decide, show IntKind.u16.max = 65535 from by decide] at h
  exact h
end Go.Fh.Opn
