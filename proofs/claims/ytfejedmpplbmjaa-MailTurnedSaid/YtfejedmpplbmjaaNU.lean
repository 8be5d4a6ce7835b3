/- The closure that asks for a batch; conditions: as it says. Printed by a program. -/
import Derived.Test.YtfejedmpplbmjaaNT
set_option linter.unusedSimpArgs false
set_option linter.unusedVariables false
namespace Go.Proofs.Ytfejedmpplbmjaa
open Go.RowKit Go.Fh Go.Ml
theorem keyI : KeyLaw Try.prog 3 ekI := keyLaw_int Try.underlying3
theorem zero22 : ∀ w, (zeroValue 22).run Try.prog w = .ok (.slice none 0 0) w := fun w => by kernel_rfl
theorem zero4 : ∀ w, (zeroValue 4).run Try.prog w = .ok (.bool false) w := fun w => by kernel_rfl
set_option maxRecDepth 100000 in
set_option maxHeartbeats 4000000 in
theorem clo88 (k : Int) (bt gm gl gD : Nat) (mD : List (Int × Bool)) (W : World) (h1 : W.cell? ⟨gm, 0, none⟩ = some (.map (some gD))) (h2 : W.cell? ⟨gl, 2, none⟩ = some (.int .i64 (bt : Int))) (hm : MapIs ekI bV W gD mD) (hb : 1 ≤ bt ∧ bt ≤ 1000) (hk : 0 ≤ k ∧ k ≤ 9223372036854775807) (b : Bool) (hbv : b = (mget mD (k.tdiv bt)).getD false) :
    Calls Try.prog 88 #[.int .i64 k, .pointer (some ⟨gm, 0, none⟩), .pointer (some ⟨gl, 0, none⟩)] W fun e w' => e = .returned (.bool b) ∧ Hid (Below W.heap.size W w') := by
  obtain ⟨q, hq⟩ : ∃ q, q = k.tdiv (bt : Int) := ⟨_, rfl⟩
  have hqe : k / (bt : Int) = q := by rw [hq, Int.tdiv_eq_ediv_of_nonneg hk.1]
  have hq0 : 0 ≤ q ∧ q ≤ k := by
    rw [← hqe]
    exact ⟨Int.ediv_nonneg hk.1 (by omega), Int.ediv_le_self _ hk.1⟩
  have hwq : IntKind.i64.wrap q = q := by rw [IntKind.wrap_i64]; omega
  have HQ := Lib.hid (show IntKind.i64.wrap (k.tdiv (bt : Int)) = q from by rw [← hq]; exact hwq)
  have HNE := Lib.hid (show ¬ bt = 0 from by omega)
  have HB := Lib.hid (show ((mget mD q).map bV).getD (.bool false) = .bool b from by rw [hbv, ← hq]; cases mget mD q <;> rfl)
  clear hq hqe hq0 hwq hbv
  go_enter Try.func88, Try.ntmps88
  go_upto_region 1 with fail
  refine wp_region_noPanic ?_
  refine wp_region_held_drew (S := (fun W => W.cell? ⟨gm, 0, none⟩ = some (.map (some gD)) ∧ W.cell? ⟨gl, 2, none⟩ = some (.int .i64 (bt : Int)) ∧ MapIs ekI bV W gD mD)) (by kernel_rfl) ?_ (fun hHeld => ?_)
  · (try dsimp only); (exact ⟨h1, h2, hm.drew⟩)
  refine wpAnyH_takeD (i := 0) (v := ?_) (some 5) rfl rfl (by kernel_rfl) (by kernel_rfl) (by kernel_rfl) (fun _ _ _ h => h) (Or.inl ⟨by rfl, ?_⟩) (by assumption) ?_
  rotate_left
  · intro w hSw; (try dsimp only at hSw); go_simp; (try with_reducible rfl)
  try simp only [Act.put, List.setIfInBounds_toArray, List.set_cons_zero, List.set_cons_succ]
  refine wpAnyH_takeD (i := 1) (v := ?_) (some 6) rfl rfl (by kernel_rfl) (by kernel_rfl) (by kernel_rfl) (fun _ _ _ h => h) (Or.inl ⟨by rfl, ?_⟩) (by assumption) ?_
  rotate_left
  · intro w hSw; (try dsimp only at hSw); go_simp; (try with_reducible rfl)
  try simp only [Act.put, List.setIfInBounds_toArray, List.set_cons_zero, List.set_cons_succ]
  refine wpAnyH_takeD (i := 2) (v := ?_) (some 7) rfl rfl (by kernel_rfl) (by kernel_rfl) (by kernel_rfl) (fun _ _ _ h => h) (Or.inl ⟨by rfl, ?_⟩) (by assumption) ?_
  rotate_left
  · intro w hSw; (try dsimp only at hSw); go_simp; (try with_reducible rfl)
  try simp only [Act.put, List.setIfInBounds_toArray, List.set_cons_zero, List.set_cons_succ]
  refine wpAnyH_takeD (i := 3) (v := ?_) (some 8) rfl rfl (by kernel_rfl) (by kernel_rfl) (by kernel_rfl) (fun _ _ _ h => h) (Or.inl ⟨by rfl, ?_⟩) (by assumption) ?_
  rotate_left
  · intro w hSw; (try dsimp only at hSw); go_simp; (try with_reducible rfl)
  try simp only [Act.put, List.setIfInBounds_toArray, List.set_cons_zero, List.set_cons_succ]
  refine wpAnyH_takeD (i := 4) (v := .int .i64 q) (some 9) rfl rfl (by kernel_rfl) (by kernel_rfl) (by kernel_rfl) (fun _ _ _ h => h) (Or.inl ⟨by rfl, ?_⟩) (by assumption) ?_
  · intro w hSw; (try dsimp only at hSw); (go_simp; (try simp [HQ.out, HNE.out])); (try with_reducible rfl)
  try simp only [Act.put, List.setIfInBounds_toArray, List.set_cons_zero, List.set_cons_succ]
  refine wpAnyH_takeD (i := 5) (v := .bool b) (some 10) rfl rfl (by kernel_rfl) (by kernel_rfl) (by kernel_rfl) (fun _ _ _ h => h) (Or.inl ⟨by rfl, ?_⟩) (by assumption) ?_
  · intro w hSw; (try dsimp only at hSw); (obtain ⟨hs1, hs2, hs3⟩ := hSw; have hq := hs3.lookup Try.underlying180 keyI zero4 q false; simp [execOp, Act.eval, go_sem, ekI] at hq ⊢; rw [HB.out] at hq; exact (congrArg (fun r => r.andThen fun a w => Result.ok (Next.value a) w) hq).trans rfl); (try with_reducible rfl)
  try simp only [Act.put, List.setIfInBounds_toArray, List.set_cons_zero, List.set_cons_succ]
  refine wpAnyH_takeD (i := 6) (v := ?_) (some 4) rfl rfl (by kernel_rfl) (by kernel_rfl) (by kernel_rfl) (fun _ _ _ h => h) (Or.inl ⟨by rfl, ?_⟩) (by assumption) ?_
  rotate_left
  · intro w hSw; (try dsimp only at hSw); go_simp; (try with_reducible rfl)
  try simp only [Act.put, List.setIfInBounds_toArray, List.set_cons_zero, List.set_cons_succ]
  refine wpAnyH_done (by kernel_rfl) ?_ _
  refine NoPanic.normal ?_
  go_wp2
  go_ret
  exact ⟨rfl, Lib.hid (Below.refl _ _).drew⟩
end Go.Proofs.Ytfejedmpplbmjaa
