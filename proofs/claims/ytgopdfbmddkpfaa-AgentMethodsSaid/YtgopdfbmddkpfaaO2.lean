/- Best is the least of the supplies with the least total: plain law, at the sorted list; conditions: none. -/
import Derived.Test.YtgopdfbmddkpfaaO1
import Derived.Test.YtgopdfbmddkpfaaB2
set_option linter.unusedSimpArgs false
set_option linter.unusedVariables false
namespace Go.Ag
open Go.Proofs.Ytgopdfbmddkpfaa
theorem firstK_le (v : Int → Int) (l : List Int) (k : Nat) : firstK v l k ≤ k := by
  induction k with
  | zero => exact Nat.le_refl _
  | succ k ih => unfold firstK; split <;> omega
theorem firstK_min (v : Int → Int) (l : List Int) (k : Nat) : ∀ j, j < k → v (l.getD (firstK v l k) 0) ≤ v (l.getD j 0) ∧ (v (l.getD j 0) = v (l.getD (firstK v l k) 0) → firstK v l k ≤ j) := by
  induction k with
  | zero => intro j hj; omega
  | succ k ih =>
    intro j hj
    have hle := firstK_le v l k
    unfold firstK
    by_cases h : v (l.getD k 0) < v (l.getD (firstK v l k) 0)
    · rw [if_pos h]
      rcases Nat.lt_or_ge j k with hk | hk
      · have := (ih j hk).1
        exact ⟨by omega, fun e => by omega⟩
      · obtain rfl : j = k := by omega
        exact ⟨Int.le_refl _, fun _ => Nat.le_refl _⟩
    · rw [if_neg h]
      rcases Nat.lt_or_ge j k with hk | hk
      · exact ih j hk
      · obtain rfl : j = k := by omega
        exact ⟨by omega, fun _ => hle⟩
theorem sortD_le (l : List Int) {i j : Nat} (hij : i ≤ j) (hj : j < (sortD l).length) : (sortD l).getD i 0 ≤ (sortD l).getD j 0 := by
  have hp : List.Pairwise (fun x y => decide (x ≤ y) = true) (sortD l) := List.pairwise_mergeSort (fun a b c => by simp; omega) (fun a b => by simp; omega) l
  rcases Nat.lt_or_ge i j with h | h
  · have := List.pairwise_iff_getElem.1 hp i j (by omega) hj h
    simp only [List.getD_eq_getElem?_getD, List.getElem?_eq_getElem hj, List.getElem?_eq_getElem (show i < (sortD l).length by omega), Option.getD_some]
    simpa using this
  · obtain rfl : i = j := by omega
    exact Int.le_refl _
theorem bestQ_mem (h : List (Int × Int)) (over under : Int) : bestQ h over under ∈ sortD (ableD h) := by
  have hl := sortD_len h
  have hf := firstK_lt (v := fun q => totalOf q over under h) (l := sortD (ableD h)) (by omega) (Nat.le_refl _)
  unfold bestQ
  rw [List.getD_eq_getElem?_getD, List.getElem?_eq_getElem hf, Option.getD_some]
  exact List.getElem_mem hf
theorem cand_mem {h : List (Int × Int)} {c : Int} (hc : Cand h c) : c ∈ sortD (ableD h) := by
  refine (List.mergeSort_perm _ _).mem_iff.2 ?_
  simp only [ableD, List.mem_cons, List.mem_map]
  rcases hc with rfl | ⟨d, hd, rfl⟩
  · exact .inl rfl
  · exact .inr ⟨d, hd, rfl⟩
theorem mem_cand {h : List (Int × Int)} {c : Int} (hc : c ∈ sortD (ableD h)) : Cand h c := by
  have hc := (List.mergeSort_perm _ _).mem_iff.1 hc
  simp only [ableD, List.mem_cons, List.mem_map] at hc
  rcases hc with rfl | ⟨d, hd, rfl⟩
  · exact .inl rfl
  · exact .inr ⟨d, hd, rfl⟩
/-- THE STAGE'S THEOREM: no supply has a lesser total than Best's, and none less than it has the same -/
theorem bestQ_best {h : List (Int × Int)} {over under : Int} (ho : 0 ≤ over) (hd : ∀ d ∈ h, OkDay d) (q : Int) (hq : 0 ≤ q) :
    totalOf (bestQ h over under) over under h ≤ totalOf q over under h ∧ (totalOf q over under h = totalOf (bestQ h over under) over under h → bestQ h over under ≤ q) := by
  have hM : ∀ d ∈ h, d.1 - d.2 ≤ 10000 := fun d hx => by have := hd d hx; unfold OkDay at this; omega
  obtain ⟨c, hc, hcase⟩ := any_cand (l := h) (over := over) (under := under) ho hM q.toNat
  rw [Int.toNat_of_nonneg hq] at hcase
  obtain ⟨j, hj, rfl⟩ := List.getElem_of_mem (cand_mem hc)
  have hm := firstK_min (fun q => totalOf q over under h) (sortD (ableD h)) _ j hj
  have hs := fun e => sortD_le (ableD h) (i := firstK (fun q => totalOf q over under h) (sortD (ableD h)) (sortD (ableD h)).length) (j := j) e hj
  have ej : (sortD (ableD h)).getD j 0 = (sortD (ableD h))[j] := by rw [List.getD_eq_getElem?_getD, List.getElem?_eq_getElem hj, Option.getD_some]
  simp only [ej] at hm hs
  have eb : bestQ h over under = (sortD (ableD h)).getD (firstK (fun q => totalOf q over under h) (sortD (ableD h)) (sortD (ableD h)).length) 0 := rfl
  rw [← eb] at hm hs
  obtain ⟨h1, h2⟩ := hm
  refine ⟨by omega, fun e => ?_⟩
  rcases hcase with hc1 | ⟨hc1, hc2⟩
  · omega
  · have := hs (h2 (by omega))
    omega
theorem bestQ_bd {h : List (Int × Int)} {over under : Int} (hd : ∀ d ∈ h, OkDay d) : 0 ≤ bestQ h over under ∧ bestQ h over under ≤ 10000 := ableD_bd hd (bestQ_mem h over under)
theorem best_more {h : List (Int × Int)} {over under : Int} (ho : 0 ≤ over) (hd : ∀ d ∈ h, OkDay d) : 0 ≤ costS (bestQ h over under) over under h := by
  have := (bestQ_best (under := under) ho hd (bestQ h over under + 1) (by have := (bestQ_bd (over := over) (under := under) hd).1; omega)).1
  have := total_step h (bestQ h over under) over under
  omega
theorem best_less {h : List (Int × Int)} {over under : Int} (ho : 0 ≤ over) (hd : ∀ d ∈ h, OkDay d) (hp : 0 < bestQ h over under) : costS (bestQ h over under - 1) over under h < 0 := by
  obtain ⟨h1, h2⟩ := bestQ_best (under := under) ho hd (bestQ h over under - 1) (by omega)
  have := total_step h (bestQ h over under - 1) over under
  rw [show bestQ h over under - 1 + 1 = bestQ h over under by omega] at this
  omega
/-- the first supply with the least total of 0 .. n -/
def scanQ (f : Int → Int) : Nat → Int
  | 0 => 0
  | n + 1 => if f ((n : Int) + 1) < f (scanQ f n) then (n : Int) + 1 else scanQ f n
theorem scanQ_bd (f : Int → Int) (n : Nat) : 0 ≤ scanQ f n ∧ scanQ f n ≤ n := by
  induction n with
  | zero => simp [scanQ]
  | succ n ih => unfold scanQ; split <;> omega
theorem scanQ_min (f : Int → Int) (n : Nat) : ∀ q : Int, 0 ≤ q → q ≤ n → f (scanQ f n) ≤ f q ∧ (f q = f (scanQ f n) → scanQ f n ≤ q) := by
  induction n with
  | zero =>
    intro q h1 h2
    obtain rfl : q = 0 := by omega
    simp [scanQ]
  | succ n ih =>
    intro q h1 h2
    have hb := scanQ_bd f n
    unfold scanQ
    by_cases h : f ((n : Int) + 1) < f (scanQ f n)
    · rw [if_pos h]
      by_cases hq : q ≤ n
      · have := (ih q h1 hq).1
        exact ⟨by omega, fun e => by omega⟩
      · obtain rfl : q = (n : Int) + 1 := by omega
        exact ⟨Int.le_refl _, fun _ => Int.le_refl _⟩
    · rw [if_neg h]
      by_cases hq : q ≤ n
      · exact ih q h1 hq
      · obtain rfl : q = (n : Int) + 1 := by omega
        exact ⟨by omega, fun _ => by omega⟩
theorem scan_best {h : List (Int × Int)} {over under : Int} (ho : 0 ≤ over) (hd : ∀ d ∈ h, OkDay d) {n : Nat} (hn : ∀ d ∈ h, d.1 ≤ n) : scanQ (fun q => totalOf q over under h) n = bestQ h over under := by
  have hb := bestQ_bd (over := over) (under := under) hd
  have hbn : bestQ h over under ≤ n := by
    rcases mem_cand (bestQ_mem h over under) with e | ⟨d, hx, e⟩
    · omega
    · have := hd d hx
      have := hn d hx
      unfold OkDay at *
      omega
  have hs := scanQ_bd (fun q => totalOf q over under h) n
  obtain ⟨a1, a2⟩ := scanQ_min (fun q => totalOf q over under h) n _ hb.1 hbn
  obtain ⟨b1, b2⟩ := bestQ_best (under := under) ho hd _ hs.1
  have e : totalOf (scanQ (fun q => totalOf q over under h) n) over under h = totalOf (bestQ h over under) over under h := by omega
  have := a2 e.symm
  have := b2 e
  omega
end Go.Ag
