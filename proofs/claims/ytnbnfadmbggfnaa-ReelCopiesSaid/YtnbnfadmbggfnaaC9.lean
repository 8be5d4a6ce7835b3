/- A row of one's own behind a sort of its elements; conditions: as it says. No project text. -/
import Derived.Shelf.GgSortFunc.RowK
import Derived.Shelf.GgSortFunc.InsertionK
import Derived.Test.YtnbnfadmbggfnaaKit
set_option linter.unusedSimpArgs false
set_option linter.unusedVariables false
namespace Go.Fh
open Go.RowKit Go.Sort Go.Proofs
theorem flat_get {α : Type} {enc : α → List Value} {k : Nat} (hk : ∀ x, (enc x).length = k) (k0 : 0 < k) : ∀ (l : List α) (t : Nat) (x : α), l[t / k]? = some x → (l.flatMap enc)[t]? = (enc x)[t % k]? := by
  intro l
  induction l with
  | nil => intro t x h; simp at h
  | cons y l ih =>
    intro t x h
    rw [List.flatMap_cons]
    by_cases ht : t < k
    · rw [Nat.div_eq_of_lt ht] at h
      simp at h
      subst h
      rw [List.getElem?_append_left (by rw [hk]; exact ht), Nat.mod_eq_of_lt ht]
    · have e1 : t / k = (t - k) / k + 1 := Nat.div_eq_sub_div k0 (by omega)
      rw [e1] at h
      rw [List.getElem?_append_right (by rw [hk]; omega), hk, ih (t - k) x (by simpa using h), ← Nat.mod_eq_sub_mod (by omega)]
theorem flatK_list {α : Type} [Inhabited α] {enc : α → List Value} {k : Nat} (hk : ∀ x, (enc x).length = k) (k0 : 0 < k) (d : Array α) : (flatK enc k d).toList = d.toList.flatMap enc := by
  apply List.ext_getElem?
  intro t
  by_cases ht : t < d.size * k
  · have hd : t / k < d.size := Nat.div_lt_of_lt_mul (by rw [Nat.mul_comm]; exact ht)
    have hm : t % k < k := Nat.mod_lt _ k0
    have h1 : d.toList[t / k]? = some d[t / k]! := by rw [Array.getElem?_toList, getElem!_pos d _ hd]; exact Array.getElem?_eq_getElem hd
    rw [flat_get hk k0 _ _ _ h1]
    have h2 := get_flatK enc k d t ht
    have h3 : t < (flatK enc k d).size := by simpa using ht
    rw [Array.getElem?_toList, Array.getElem?_eq_getElem h3]
    rw [getElem!_pos (flatK enc k d) t h3] at h2
    rw [h2, List.getElem?_eq_getElem (by rw [hk]; exact hm), getElem!_pos (enc d[t / k]!) (t % k) (by rw [hk]; exact hm)]
  · rw [List.getElem?_eq_none (by simpa using ht), List.getElem?_eq_none (by rw [length_flat hk]; simpa using ht)]
section
variable {α : Type} [Inhabited α] {enc : α → List Value} {k : Nat} {w : World} {base g cap : Nat} {e : TypeId} {d : Array α}
theorem own_holds (hk : ∀ x, (enc x).length = k) (k0 : 0 < k) (h : w.ownsRow base e k (.slice (some ⟨g, 0, none⟩) d.size cap) d.size (d.toList.flatMap enc)) : HoldsK enc k w g 0 d := by
  intro j hj
  have hfl : (d.toList.flatMap enc)[j]? = some (flatK enc k d)[j]! := by
    rw [← flatK_list hk k0, Array.getElem?_toList, getElem!_pos (flatK enc k d) j hj]
    exact Array.getElem?_eq_getElem hj
  have h1 := h.cells (g := g) rfl j _ hfl
  have hadd : (⟨g, 0, none⟩ : Addr).add j = ⟨g, 0 + j, none⟩ := by unfold Addr.add; split <;> simp_all
  rw [hadd] at h1
  refine ⟨h1, ?_⟩
  obtain ⟨cs, hcs⟩ : ∃ cs, Blk w g e cs := by
    rcases h.2 with ⟨e0, _⟩ | ⟨g', cap', cur, e0, hb, hg, _⟩
    · cases e0
    · injection e0 with e1 _ _
      injection e1 with e1
      injection e1 with e1
      subst e1
      exact ⟨_, hg⟩
  exact hcs.frozen _
theorem own_sorted (hk : ∀ x, (enc x).length = k) (k0 : 0 < k) {d' : Array α} {m : Nat} {os : Array Obj} (h : w.ownsRow base e k (.slice (some ⟨g, 0, none⟩) d.size cap) d.size (d.toList.flatMap enc)) (hs : d'.size = d.size) :
    (sortWorldK enc k w g 0 m d' os).ownsRow base e k (.slice (some ⟨g, 0, none⟩) d.size cap) d.size (d'.toList.flatMap enc) ∧ w.grownBy (sortWorldK enc k w g 0 m d' os) (some g) := by
  rcases h.2 with ⟨e0, _⟩ | ⟨g', cap', cur, e0, hb, hg, hn, hm, hsz, ht⟩
  · cases e0
  injection e0 with e1 _ e3
  injection e1 with e1
  injection e1 with e1
  subst e1; subst e3
  have hgl : g < w.heap.size := (Array.getElem?_eq_some_iff.1 hg).1
  have hW : ∀ j, j < w.heap.size → (sortWorldK enc k w g 0 m d' os).heap[j]? = (putRowK enc k (Sort.ahead w m) g 0 d').heap[j]? := by
    intro j hj
    unfold sortWorldK
    exact heap_grow_old _ _ (by unfold putRowK putRow mapBlock; simpa [Sort.ahead] using hj)
  have hb2 : (sortWorldK enc k w g 0 m d' os).heap[g]? = some (.cells (putCells id 0 (flatK enc k d') cur) e (0, 0)) := by
    rw [hW g hgl]
    unfold putRowK putRow mapBlock
    simp only [Array.getElem?_modify, if_true]
    rw [show (Sort.ahead w m).heap[g]? = some (.cells cur e (0, 0)) from hg]
    rfl
  refine ⟨⟨by rw [length_flat hk]; simp [hs], .inr ⟨g, cap, _, rfl, hb, hb2, hn, hm, by rw [← hsz]; simp [putCells], ?_⟩⟩, ?_⟩
  · rw [← flatK_list hk k0]
    apply List.ext_getElem?
    intro j
    have hcur : d.size * k ≤ cur.size := by rw [hsz]; exact Nat.mul_le_mul_right k hn
    by_cases hj : j < d.size * k
    · rw [List.getElem?_take_of_lt hj, Array.getElem?_toList, Array.getElem?_toList]
      have h3 : j < (flatK enc k d').size := by simp [hs]; exact hj
      rw [Array.getElem?_eq_getElem h3]
      unfold putCells
      rw [Array.getElem?_mapIdx, Array.getElem?_eq_getElem (show j < cur.size by omega)]
      simp only [Option.map_some, Nat.zero_le, true_and, Nat.zero_add, h3, if_true, Nat.sub_zero, id_eq]
      rw [getElem!_pos (flatK enc k d') j h3]
    · rw [List.getElem?_eq_none (by simp; omega), List.getElem?_eq_none (by simp [hs]; omega)]
  · refine ⟨rfl, ?_, rfl, ?_, fun j hj hne => ?_⟩
    · first | rfl | simp [sortWorldK, putRowK, putRow, mapBlock, grow, Sort.ahead]
    · unfold sortWorldK putRowK putRow mapBlock; simp [grow, Sort.ahead]
    · rw [hW j hj]
      unfold putRowK putRow mapBlock
      simp only [Array.getElem?_modify]
      rw [if_neg (fun h => hne (by rw [h]))]
      rfl
end
end Go.Fh
