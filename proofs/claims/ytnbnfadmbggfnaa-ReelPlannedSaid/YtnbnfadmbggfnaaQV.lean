/- Plain facts for the law of mills: no schedule costs less than what prices prove; conditions: none. -/
import Derived.Test.YtnbnfadmbggfnaaA6
import Derived.Test.YtnbnfadmbggfnaaA7
set_option linter.unusedSimpArgs false
set_option linter.unusedVariables false
namespace Go.Rl
open Go.Fh Go.RowKit
theorem sup_mk {s : SupD} (h1 : 1 ≤ s.need.length) (h2 : s.need.length ≤ 20) (h3 : s.order.length = s.need.length) (h4 : ∀ v ∈ s.need, 0 ≤ v ∧ v ≤ 1000) (h5 : ∀ v ∈ s.order, 0 ≤ v ∧ v ≤ 1000000) (h6 : 0 ≤ s.keep ∧ s.keep ≤ 1000) (h7 : 0 ≤ s.room ∧ s.room ≤ 100000) : errS s = 0 := by
  have a1 : inB (s.need.length : Int) 1 20 = true := inB_iff.2 (by omega)
  have a2 : (s.need.any fun n => !inB n 0 1000) = false := List.any_eq_false.2 fun v hv => by rw [inB_iff.2 (h4 v hv)]; simp
  have a3 : (s.order.any fun n => !inB n 0 1000000) = false := List.any_eq_false.2 fun v hv => by rw [inB_iff.2 (h5 v hv)]; simp
  have a4 : inB s.keep 0 1000 = true := inB_iff.2 h6
  have a5 : inB s.room 0 100000 = true := inB_iff.2 h7
  unfold errS
  rw [a1, a2, a3, a4, a5]
  simp [h3]
theorem cas_len (l : List Nat) : (casts l).length = l.length := by simp [casts]
theorem casts_nat (o : List Nat) : natW (casts o) = o := by
  unfold natW casts
  rw [List.map_map]
  have : (Int.toNat ∘ fun (e : Nat) => (e : Int)) = id := by funext x; simp
  rw [this, List.map_id]
theorem casts_nd (o : List Nat) (j : Nat) : nd (casts o) j = ((o.getD j 0 : Nat) : Int) := by
  unfold nd casts
  rw [List.getD_eq_getElem?_getD, List.getD_eq_getElem?_getD, List.getElem?_map]
  cases o[j]? <;> simp
theorem badW_wks {n : Nat} {o : List Nat} (h : WksOk n o) : badW n (casts o) = false := by
  have hl : (casts o).length = o.length := cas_len o
  refine badW_no (by have := h.l1; omega) (by rw [casts_nd, h.h0]; rfl) fun j hj => ?_
  rw [hl] at hj
  unfold wkJ
  have h1 := h.lt j hj
  rw [casts_nd, casts_nd, inB_iff.2 (by omega), Bool.true_and]
  cases j with
  | zero => simp
  | succ j =>
    have := h.up j hj
    simp only [Nat.add_sub_cancel]
    rw [show decide (((o.getD j 0 : Nat) : Int) < ((o.getD (j + 1) 0 : Nat) : Int)) = true from decide_eq_true (by omega)]
    simp
/-- what the best schedule costs -/
theorem cst_best {s : SupD} (he : errS s = 0) : cstP s (casts (schV s s.need.length 0)) = (resV s s.need.length 0, 0) := by
  have hs := sup_ok he
  have h1 := hs.n0
  have h2 := hs.n1
  have hw := sch_wks hs (n := s.need.length) h2 h1
  unfold cstP
  rw [if_neg (by simpa using he), badW_wks hw, casts_nat, cas_len, sch_cost hs h2 h1]
  rfl
/-- what the least prices prove -/
theorem prv_lea {s : SupD} (he : errS s = 0) {v e : Int} (h : PrvP s (upF (leaV s) (s.need.length + 1)) v e) : v = resV s s.need.length 0 ∧ e = 0 := by
  have hs := sup_ok he
  have h1 := hs.n0
  have h2 := hs.n1
  have hg : ∀ i, i ≤ s.need.length → nd (upF (leaV s) (s.need.length + 1)) i = leaV s i := fun i hi => by
    rw [nd_get (by rw [upF_len]; omega), upF_get]
  have hb : badP s (upF (leaV s) (s.need.length + 1)) = false := by
    unfold badP
    have ha : ((upF (leaV s) (s.need.length + 1)).any fun v => !inB v (-1000000000000) 1000000000000) = false := List.any_eq_false.2 fun v hv => by
      obtain ⟨i, hi, rfl⟩ := List.mem_map.1 (show v ∈ (List.range _).map _ from hv)
      have hi := List.mem_range.1 hi
      have a := leaV_nn hs i (by omega)
      have b := leaV_bd hs i (by omega)
      rw [inB_iff.2 (by omega)]; simp
    rw [ha, hg 0 (by omega), leaV_0, upF_len]
    simp
  have hp : ProveP s s.need.length (nd (upF (leaV s) (s.need.length + 1))) := fun i k hi hk c hc => by
    rw [hg i (by omega), hg k hk]
    exact lea_proves hs h2 i k hi hk c hc
  unfold PrvP at h
  rw [if_neg (by simpa using he), if_neg (by rw [hb]; simp)] at h
  rcases h with ⟨_, h3, h4⟩ | ⟨h3, _⟩
  · rw [hg _ (Nat.le_refl _), lea_res hs h2] at h3
    exact ⟨h3, h4⟩
  · exact absurd hp h3
/-- what allowed weeks cost is not less -/
theorem cst_any {s : SupD} (he : errS s = 0) {ws : List Nat} (hw : WksOk s.need.length ws) {r : Int × Int} (hr : r = cstP s (casts ws)) : (r.2 = 0 ∧ resV s s.need.length 0 ≤ r.1) ∨ r.2 = 9 := by
  have hs := sup_ok he
  have h2 := hs.n1
  unfold cstP at hr
  rw [if_neg (by simpa using he), badW_wks hw, casts_nat, cas_len] at hr
  cases hc : costK s s.need.length ws ws.length with
  | none => rw [hc] at hr; subst hr; exact .inr rfl
  | some c =>
    rw [hc] at hr; subst hr
    have := cost_low hs h2 hw hc
    rw [lea_res hs h2] at this
    exact .inl ⟨rfl, this⟩
/-- prices of which one is changed -/
def chgL (s : SupD) (k : Nat) (y : Int) : List Int := (upF (leaV s) (s.need.length + 1)).set k (leaV s k + y)
theorem chgL_len (s : SupD) (k : Nat) (y : Int) : (chgL s k y).length = s.need.length + 1 := by unfold chgL; rw [List.length_set, upF_len]
theorem prv_chg {s : SupD} (he : errS s = 0) {k : Nat} (h1 : 1 ≤ k) (hk : k ≤ s.need.length) {y : Int} (hy : -40000 ≤ y ∧ y ≤ 40000) {v e : Int} (h : PrvP s (chgL s k y) v e) :
    (e = 0 ∨ e = 7) ∧ (e = 0 → v ≤ resV s s.need.length 0) ∧ (k = s.need.length → (y ≤ 0 ↔ e = 0)) ∧ (¬ y ≤ 0 → e = 7) := by
  have hs := sup_ok he
  have h0 := hs.n0
  have h2 := hs.n1
  have hg : ∀ i, i ≤ s.need.length → nd (chgL s k y) i = if i = k then leaV s k + y else leaV s i := fun i hi => by
    rw [nd_get (by rw [chgL_len]; omega)]
    unfold chgL
    rw [List.getElem_set]
    by_cases e : k = i
    · rw [if_pos e, if_pos e.symm]
    · rw [if_neg e, if_neg (fun h => e h.symm), upF_get]
  have hb : badP s (chgL s k y) = false := by
    unfold badP
    have ha : ((chgL s k y).any fun v => !inB v (-1000000000000) 1000000000000) = false := List.any_eq_false.2 fun v hv => by
      obtain ⟨i, hi, rfl⟩ := List.mem_iff_getElem.1 hv
      rw [chgL_len] at hi
      have hh := hg i (by omega)
      rw [nd_get (by rw [chgL_len]; omega)] at hh
      rw [hh]
      have a := leaV_nn hs i (by omega)
      have b := leaV_bd hs i (by omega)
      have a' := leaV_nn hs k (by omega)
      have b' := leaV_bd hs k (by omega)
      rw [inB_iff.2 (by split <;> omega)]; simp
    rw [ha, hg 0 (by omega), if_neg (by omega), leaV_0, chgL_len]
    simp
  unfold PrvP at h
  rw [if_neg (by simpa using he), if_neg (by rw [hb]; simp)] at h
  have hp0 : nd (chgL s k y) 0 = 0 := by rw [hg 0 (by omega), if_neg (by omega), leaV_0]
  have hup : ¬ y ≤ 0 → ¬ ProveP s s.need.length (nd (chgL s k y)) := fun hy2 hp => by
    obtain ⟨i, hi, c, hc, hl⟩ := leaV_from hs (k := k) (by omega) h1
    have := hp i k hi hk c hc
    rw [hg i (by omega), hg k hk, if_pos rfl, if_neg (by omega)] at this
    omega
  have hdn : k = s.need.length → y ≤ 0 → ProveP s s.need.length (nd (chgL s k y)) := fun hkn hy2 i m hi hm c hc => by
    rw [hg i (by omega), hg m hm, if_neg (show ¬ i = k by omega)]
    have := lea_proves hs h2 i m hi hm c hc
    split
    · rename_i e; rw [e] at this; omega
    · exact this
  rcases h with ⟨a, b, c⟩ | ⟨a, b, c⟩
  · refine ⟨.inl c, fun _ => ?_, fun hkn => ⟨fun _ => c, fun _ => ?_⟩, fun hy2 => absurd a (hup hy2)⟩
    · rw [b, ← lea_res hs h2]
      exact prove_low hs h2 hp0 a _ (Nat.le_refl _)
    · by_cases hy2 : y ≤ 0
      · exact hy2
      · exact absurd a (hup hy2)
  · refine ⟨.inr c, fun h => (by rw [c] at h; cases h), fun hkn => ⟨fun hy2 => absurd (hdn hkn hy2) a, fun h => (by rw [c] at h; cases h)⟩, fun _ => c⟩
/-- the weeks whose bits are set, below m, and the first week -/
def anyW (b : Nat → Bool) : Nat → List Nat
  | 0 => [0]
  | m + 1 => if b (m + 1) then anyW b m ++ [m + 1] else anyW b m
theorem anyW_s1 {b : Nat → Bool} {m : Nat} (h : b (m + 1) = true) : anyW b (m + 1) = anyW b m ++ [m + 1] := by simp [anyW, h]
theorem anyW_s0 {b : Nat → Bool} {m : Nat} (h : b (m + 1) = false) : anyW b (m + 1) = anyW b m := by simp [anyW, h]
theorem anyW_len (b : Nat → Bool) (m : Nat) : 1 ≤ (anyW b m).length ∧ (anyW b m).length ≤ m + 1 := by
  induction m with
  | zero => simp [anyW]
  | succ m ih =>
    cases h : b (m + 1)
    · rw [anyW_s0 h]; omega
    · rw [anyW_s1 h, List.length_append]; simp; omega
theorem anyW_ok (b : Nat → Bool) (m : Nat) : WksOk (m + 1) (anyW b m) := by
  induction m with
  | zero => exact ⟨by simp [anyW], by simp [anyW], fun j hj => by simp [anyW] at hj; subst hj; simp [anyW], fun j hj => by simp [anyW] at hj⟩
  | succ m ih =>
    cases h : b (m + 1)
    · rw [anyW_s0 h]
      exact ⟨ih.l1, ih.h0, fun j hj => Nat.lt_succ_of_lt (ih.lt j hj), ih.up⟩
    · rw [anyW_s1 h]
      have hl := ih.l1
      have e1 : ∀ j, j < (anyW b m).length → (anyW b m ++ [m + 1]).getD j 0 = (anyW b m).getD j 0 := fun j hj => by
        rw [List.getD_eq_getElem?_getD, List.getD_eq_getElem?_getD, List.getElem?_append_left hj]
      have e2 : (anyW b m ++ [m + 1]).getD (anyW b m).length 0 = m + 1 := by
        rw [List.getD_eq_getElem?_getD, List.getElem?_append_right (Nat.le_refl _)]; simp
      have e3 : (anyW b m ++ [m + 1]).length = (anyW b m).length + 1 := by simp
      refine ⟨by omega, by rw [e1 0 (by omega)]; exact ih.h0, fun j hj => ?_, fun j hj => ?_⟩
      · by_cases hj2 : j < (anyW b m).length
        · rw [e1 j hj2]; have := ih.lt j hj2; omega
        · obtain rfl : j = (anyW b m).length := by omega
          rw [e2]; omega
      · by_cases hj2 : j + 1 < (anyW b m).length
        · rw [e1 j (by omega), e1 (j + 1) hj2]; exact ih.up j hj2
        · obtain hj3 : j + 1 = (anyW b m).length := by omega
          rw [hj3, e2, e1 j (by omega)]
          have := ih.lt j (by omega)
          omega
/-- the supply of numbers -/
def milS (need order : List Nat) (n : Nat) (keep room : Int) : SupD := ⟨(need.take n).map fun (v : Nat) => ((v % 60 : Nat) : Int), (order.take n).map fun (v : Nat) => (v : Int), keep, room⟩
theorem mil_ok {need order : List Nat} {n : Nat} {keep room : Int} (h1 : 1 ≤ n) (h2 : n ≤ 12) (h3 : n ≤ need.length) (h4 : n ≤ order.length) (h5 : ∀ v ∈ order, v ≤ 255) (h6 : 0 ≤ keep ∧ keep ≤ 7) (h7 : 0 ≤ room ∧ room ≤ 255) : errS (milS need order n keep room) = 0 := by
  refine sup_mk ?_ ?_ ?_ ?_ ?_ (show 0 ≤ keep ∧ keep ≤ 1000 by omega) (show 0 ≤ room ∧ room ≤ 100000 by omega)
  · show 1 ≤ ((need.take n).map _).length
    rw [List.length_map, List.length_take]; omega
  · show ((need.take n).map _).length ≤ 20
    rw [List.length_map, List.length_take]; omega
  · show ((order.take n).map _).length = ((need.take n).map _).length
    rw [List.length_map, List.length_take, List.length_map, List.length_take]; omega
  · intro v hv
    obtain ⟨x, hx, rfl⟩ := List.mem_map.1 (show v ∈ (need.take n).map _ from hv)
    have := Nat.mod_lt x (by decide : 60 > 0)
    omega
  · intro v hv
    obtain ⟨x, hx, rfl⟩ := List.mem_map.1 (show v ∈ (order.take n).map _ from hv)
    have := h5 x (List.mem_of_mem_take hx)
    omega
end Go.Rl
