/- Bundles: sizes are at least one and sum to all; the closure that asks for a batch; conditions: as each says. -/
import Derived.Test.YtfejedmpplbmjaaNS
import Derived.Deep.CutRange
set_option linter.unusedSimpArgs false
set_option linter.unusedVariables false
namespace Go.Ml
open Go.RowKit Go.Fh Go.Proofs.Ytfejedmpplbmjaa
theorem sum_repl (q : Nat) (s : Int) (hs : 0 ≤ s) : (((List.replicate q s).map Int.toNat).sum : Int) = q * s := by
  induction q with
  | zero => simp
  | succ q ih =>
    rw [List.replicate_succ, List.map_cons, List.sum_cons]
    have e : ((q + 1 : Nat) : Int) * s = q * s + s := by rw [show ((q + 1 : Nat) : Int) = (q : Int) + 1 by omega, Int.add_mul, Int.one_mul]
    rw [e]
    omega
theorem szS_all {size least n : Int} (hw : wrgB size least = false) (h0 : 0 ≤ n) : (∀ x ∈ szS size least n, 1 ≤ x) ∧ ((szS size least n).map Int.toNat).sum = n.toNat := by
  have hs : 1 ≤ size ∧ size ≤ 200 ∧ 1 ≤ least := by
    unfold wrgB at hw
    rw [Bool.or_eq_false_iff] at hw
    have a := inB_iff.1 (by simpa using hw.1)
    have b := inB_iff.1 (by simpa using hw.2)
    exact ⟨a.1, a.2, b.1⟩
  obtain ⟨hs1, hs2, hs3⟩ := hs
  unfold szS
  split
  · rename_i h; subst h; simp
  · split
    · exact ⟨by intro x hx; simp at hx; omega, by simp⟩
    · rename_i hn0 hn1
      have hm0 := Int.emod_nonneg n (show size ≠ 0 by omega)
      have hm1 := Int.emod_lt_of_pos n (show 0 < size by omega)
      have hd := Int.mul_ediv_add_emod n size
      have hq0 : 1 ≤ n / size := by rw [Int.le_ediv_iff_mul_le (by omega)]; omega
      obtain ⟨q, hq⟩ : ∃ q : Nat, n / size = (q : Int) + 1 := ⟨(n / size - 1).toNat, by omega⟩
      obtain ⟨lf, hlf⟩ : ∃ x, x = n % size := ⟨_, rfl⟩
      have hc : size * ((q : Int) + 1) = q * size + size := by rw [Int.mul_add, Int.mul_one, Int.mul_comm]
      rw [hq, hc] at hd
      rw [hq, ← hlf]
      rw [← hlf] at hm0 hm1 hd
      have e1 : ((q : Int) + 1).toNat = q + 1 := by omega
      rw [e1]
      have hr := sum_repl q size (by omega)
      have hr1 := sum_repl (q + 1) size (by omega)
      have hr2 : ((q + 1 : Nat) : Int) * size = q * size + size := by rw [show ((q + 1 : Nat) : Int) = (q : Int) + 1 by omega, Int.add_mul, Int.one_mul]
      rw [hr2] at hr1
      split
      · refine ⟨?_, ?_⟩
        · intro x hx
          rcases List.mem_append.1 hx with h | h
          · rw [(List.mem_replicate.1 h).2]; omega
          · simp at h; omega
        · rw [List.map_append, List.sum_append]; simp only [List.map_cons, List.map_nil, List.sum_cons, List.sum_nil]; omega
      · split
        · refine ⟨?_, ?_⟩
          · intro x hx
            rcases List.mem_append.1 hx with h | h
            · rw [(List.mem_replicate.1 h).2]; omega
            · simp at h; omega
          · rw [List.map_append, List.sum_append]; simp only [List.map_cons, List.map_nil, List.sum_cons, List.sum_nil, Nat.add_sub_cancel]; omega
        · refine ⟨?_, by omega⟩
          intro x hx
          rw [(List.mem_replicate.1 hx).2]; omega
theorem offZ_all (sz : List Int) : offZ sz sz.length = (sz.map Int.toNat).sum := by unfold offZ; rw [List.take_length]
theorem offZ_le (sz : List Int) (i : Nat) : offZ sz i ≤ (sz.map Int.toNat).sum := by
  unfold offZ
  have h : (sz.map Int.toNat).sum = ((sz.take i).map Int.toNat).sum + ((sz.drop i).map Int.toNat).sum := by
    rw [← List.sum_append, ← List.map_append, List.take_append_drop]
  omega
theorem remZ_succ (l : List (Int × Int)) (ds : List Drp) (y : Drp) : remZ l (ds ++ [y]) = fun z => if z = y.2.1 then (remZ l ds y.2.1).drop y.2.2.toNat else remZ l ds z := by
  funext z
  unfold remZ usdZ
  rw [List.filter_append, List.map_append, List.sum_append, List.filter_cons, List.filter_nil]
  by_cases h : z = y.2.1
  · subst h; simp [List.drop_drop]
  · have h2 : ¬ y.2.1 = z := fun e => h e.symm
    simp [h, h2]
theorem OfM.off {A B : World} {lo p gO base : Nat} {vN : Value} {m : List (Int × Value)} {lN lZ : List (Int × Int)} {κ ν : Type} {ek : κ → Value} {ev : ν → Value} {mD : List (κ × ν)} (h : OfM A gO base vN m lN lZ) (ho : Off2 lo p p A B) (hp : gO ≠ p) (hm : MapIs ek ev A p mD) : OfM B gO base vN m lN lZ := by
  have hk : ∀ (v : Value) (n : Nat) (xs : List Value), A.ownsRow base 3 1 v n xs → B.ownsRow base 3 1 v n xs := fun v n xs hr => own_heap hr fun g cs hg hc => ho.2.2 g (lt_of_heap hc) (fun e => by
    subst e
    obtain ⟨es, clock, hh, -⟩ := hm
    rw [hc] at hh
    cases hh) (fun e => by
    subst e
    obtain ⟨es, clock, hh, -⟩ := hm
    rw [hc] at hh
    cases hh)
  exact ⟨h.mp.same (ho.2.2 _ h.mp.lt hp hp), hk _ _ _ h.rN, fun z => hk _ _ _ (h.rZ z), h.nN, h.nZ, Nat.le_trans h.hb ho.size, h.hg⟩
end Go.Ml
