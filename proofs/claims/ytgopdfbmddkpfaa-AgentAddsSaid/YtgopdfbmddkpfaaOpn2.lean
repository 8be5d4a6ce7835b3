/- Arguments opened: slices of bytes; conditions: none. -/
import Derived.Test.YtgopdfbmddkpfaaOpn
import Derived.Test.YtgopdfbmddkpfaaT1
set_option linter.unusedSimpArgs false
set_option linter.unusedVariables false
namespace Go.Fh.Opn
open Go.Joins Go.ChangeShapes Go.WideShapes Go.RowKit Go.Deep
section
variable {H : Type} {enc : TypeId × Value → H} {P : Program} {W : World}
theorem sl_bytes {t e : TypeId} {a : Option Addr} {len cap : Nat} {d : DataW H} {p : List MemPlace} (ht : P.underlying t = some (.slice e)) (he : P.underlying e = some (.int .u8)) (hc : P.cellsOf e = 1)
    (h : DataW.Trod enc P W 0 (fun _ => true) true t (.slice a len cap) d p) : ∃ l : List Int, l.length = len ∧ l.length ≤ maxLen ∧ (∀ n ∈ l, (Lit.int .u8 n).wf = true) ∧ Sl encB 1 W W.heap.size a l := by
  obtain ⟨fuel, hf⟩ := h
  rcases open_ints ht he hc hf with ⟨hcs, _⟩ | ⟨x, l, c, zs, hcs, _, hl, hm, hz, _, hcell, hwz⟩
  · simp [Value.cells] at hcs
    obtain ⟨rfl, rfl, rfl⟩ := hcs
    exact ⟨[], rfl, Nat.zero_le _, by simp, Sl.nil⟩
  · simp [Value.cells] at hcs
    obtain ⟨rfl, rfl, rfl⟩ := hcs
    simp at hz
    refine ⟨zs.take len, by simp; omega, by simp; omega, fun n hn => hwz n (List.mem_of_mem_take hn), sl_of_cells (fun _ => rfl) (by decide) ?_⟩
    intro k x hx j u hu
    have hk : k < zs.length := by
      have := (List.getElem?_eq_some_iff.1 hx).1
      simp at this; omega
    match j, hu with
    | 0, hu =>
      simp [encB] at hu
      subst hu
      have h1 := hcell k hk
      have h2 : zs[k]? = some x := by
        rw [List.getElem?_take] at hx
        split at hx
        · exact hx
        · cases hx
      simp only [List.getD_eq_getElem?_getD, h2, Option.getD_some] at h1
      simpa using h1
end
theorem byte_bd {n : Int} (h : (Lit.int .u8 n).wf = true) : 0 ≤ n ∧ n ≤ 255 := by
  simp only [Lit.wf, Bool.and_eq_true, decide_eq_true_eq] at h
  rw [show IntKind.u8.min = 0 from by decide, show IntKind.u8.max = 255 from by decide] at h
  exact h
theorem u16_bd {n : Int} (h : (Lit.int .u16 n).wf = true) : 0 ≤ n ∧ n ≤ 65535 := by
  simp only [Lit.wf, Bool.and_eq_true, decide_eq_true_eq] at h
  rw [show IntKind.u16.min = 0 from by decide, show IntKind.u16.max = 65535 from by decide] at h
  exact h
end Go.Fh.Opn
