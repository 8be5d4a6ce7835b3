/- Contracts of slices.Clone, printed by gen11.py; conditions: none. -/
import Derived.Test.YtgopdfbmddkpfaaA1
import Derived.Test.YtgopdfbmddkpfaaSpec2
import Derived.BigQuiet
import Derived.Deep.QuietTactic
import Derived.WalkSpells
set_option linter.unusedSimpArgs false
set_option linter.unusedVariables false
namespace Go.Proofs.Ytgopdfbmddkpfaa
open Go.RowKit Go.Fh Go.Ag

theorem infoDay : (Try.prog.info? 33).map (fun i => (i.zero, i.size, i.bytes)) = some (some (.agg #[.int .i64 0, .int .i64 0]), 2, 16) := by kernel_rfl

set_option maxHeartbeats 1000000 in
theorem cloneDay_any (A : Option Addr) (c : Nat) (l : List (Int × Int)) (w : World) (hl : l.length * 16 ≤ 140737488355328) (hA : Sl enc2 2 w w.heap.size A l) :
    Calls Try.prog 49 #[.slice A l.length c] w fun e w' => ∃ A' c', e = .returned (.slice A' l.length c') ∧ Sl enc2 2 w' w'.heap.size A' l ∧ Below w.heap.size w w' := by
  have hnil := fun w n c n' c' a => Lib.run_eql_slice_nil (P := Try.prog) w 24 33 a n c n' c' Try.underlying24
  obtain ⟨i0, hi0, hz0, hz1, hz2⟩ := info_parts infoDay
  rcases A with _ | ad
  · have h0 := hA.none_nil
    subst h0
    go_enter Try.func49, Try.ntmps49
    go_wp2
    go_ret
    exact ⟨none, 0, rfl, Sl.nil, Below.refl _ _⟩
  · have hs2 : ∀ x : Int × Int, (enc2 x).length = 2 := fun _ => rfl
    have hfl := length_flat (enc := enc2) (size := 2) hs2 l
    have hne : ∀ u ∈ l.flatMap enc2, u.oneCell' = true := by
      intro u hu; obtain ⟨x, _, hx⟩ := List.mem_flatMap.1 hu; simp [enc2] at hx; rcases hx with rfl | rfl <;> rfl
    have hcells : ∀ (W : World), Below w.heap.size w W → ∀ j u, (l.flatMap enc2)[j]? = some u → W.cell? (ad.add j) = some u := fun W hb => (hA.below hb).flat hs2
    obtain ⟨fl, hflat⟩ : ∃ fl, fl = l.flatMap enc2 := ⟨_, rfl⟩
    rw [← hflat] at hfl hne hcells
    have HF := Lib.hid hfl
    have HFL := Lib.hid hflat
    clear hfl hflat
    have hb0 := (Below.refl w.heap.size w).alloc (Nat.le_refl _) (.cells #[] 33)
    have hown := World.ownsRow_made (base := w.heap.size) (e := 33) (size := 2) w #[] 0 (Nat.le_refl _) (by decide) rfl
    go_enter Try.func49, Try.ntmps49
    go_wp2_with (at_builtin; refine wpList_append_own _ rfl (.tmp 5) (.tmp 6) 24 rfl w.heap.size 33 i0 _ 2 16 Try.underlying24 hi0 hz0 hz1 hz2 rfl (by decide) _ _ _ rfl hown ad l.length c fl rfl HF.out (hcells _ hb0) hne (by simp only [maxLen]; omega) (by omega) (by simp) ?_; intro v' w1 hown1 hg1 _)
    go_ret
    obtain ⟨A', c', rfl⟩ := own_shape hown1
    simp only [Nat.zero_add, List.nil_append] at hown1 ⊢
    refine ⟨A', c', rfl, Sl.of_own hs2 (by rw [← HFL.out]; exact hown1), hb0.grown hg1 (by simp) (fun k hk => ?_)⟩
    cases hk; exact Nat.le_refl _

theorem infoInt : (Try.prog.info? 3).map (fun i => (i.zero, i.size, i.bytes)) = some (some (.int .i64 0), 1, 8) := by kernel_rfl

set_option maxHeartbeats 1000000 in
theorem cloneInt_any (A : Option Addr) (c : Nat) (l : List (Int)) (w : World) (hl : l.length * 8 ≤ 140737488355328) (hA : Sl encInt 1 w w.heap.size A l) :
    Calls Try.prog 50 #[.slice A l.length c] w fun e w' => ∃ A' c', e = .returned (.slice A' l.length c') ∧ Sl encInt 1 w' w'.heap.size A' l ∧ Below w.heap.size w w' := by
  have hnil := fun w n c n' c' a => Lib.run_eql_slice_nil (P := Try.prog) w 37 3 a n c n' c' Try.underlying37
  obtain ⟨i0, hi0, hz0, hz1, hz2⟩ := info_parts infoInt
  rcases A with _ | ad
  · have h0 := hA.none_nil
    subst h0
    go_enter Try.func50, Try.ntmps50
    go_wp2
    go_ret
    exact ⟨none, 0, rfl, Sl.nil, Below.refl _ _⟩
  · have hs2 : ∀ x : Int, (encInt x).length = 1 := fun _ => rfl
    have hfl := length_flat (enc := encInt) (size := 1) hs2 l
    have hne : ∀ u ∈ l.flatMap encInt, u.oneCell' = true := by
      intro u hu; obtain ⟨x, _, hx⟩ := List.mem_flatMap.1 hu; simp [encInt] at hx; subst hx; rfl
    have hcells : ∀ (W : World), Below w.heap.size w W → ∀ j u, (l.flatMap encInt)[j]? = some u → W.cell? (ad.add j) = some u := fun W hb => (hA.below hb).flat hs2
    obtain ⟨fl, hflat⟩ : ∃ fl, fl = l.flatMap encInt := ⟨_, rfl⟩
    rw [← hflat] at hfl hne hcells
    have HF := Lib.hid hfl
    have HFL := Lib.hid hflat
    clear hfl hflat
    have hb0 := (Below.refl w.heap.size w).alloc (Nat.le_refl _) (.cells #[] 3)
    have hown := World.ownsRow_made (base := w.heap.size) (e := 3) (size := 1) w #[] 0 (Nat.le_refl _) (by decide) rfl
    go_enter Try.func50, Try.ntmps50
    go_wp2_with (at_builtin; refine wpList_append_own _ rfl (.tmp 5) (.tmp 6) 37 rfl w.heap.size 3 i0 _ 1 8 Try.underlying37 hi0 hz0 hz1 hz2 rfl (by decide) _ _ _ rfl hown ad l.length c fl rfl HF.out (hcells _ hb0) hne (by simp only [maxLen]; omega) (by omega) (by simp) ?_; intro v' w1 hown1 hg1 _)
    go_ret
    obtain ⟨A', c', rfl⟩ := own_shape hown1
    simp only [Nat.zero_add, List.nil_append] at hown1 ⊢
    refine ⟨A', c', rfl, Sl.of_own hs2 (by rw [← HFL.out]; exact hown1), hb0.grown hg1 (by simp) (fun k hk => ?_)⟩
    cases hk; exact Nat.le_refl _

theorem infoOrder : (Try.prog.info? 44).map (fun i => (i.zero, i.size, i.bytes)) = some (some (.agg #[.int .i64 0, .int .i64 0, .int .i64 0]), 3, 24) := by kernel_rfl

set_option maxHeartbeats 1000000 in
theorem cloneOrder_any (A : Option Addr) (c : Nat) (l : List (Int × Int × Int)) (w : World) (hl : l.length * 24 ≤ 140737488355328) (hA : Sl enc3 3 w w.heap.size A l) :
    Calls Try.prog 61 #[.slice A l.length c] w fun e w' => ∃ A' c', e = .returned (.slice A' l.length c') ∧ Sl enc3 3 w' w'.heap.size A' l ∧ Below w.heap.size w w' := by
  have hnil := fun w n c n' c' a => Lib.run_eql_slice_nil (P := Try.prog) w 39 44 a n c n' c' Try.underlying39
  obtain ⟨i0, hi0, hz0, hz1, hz2⟩ := info_parts infoOrder
  rcases A with _ | ad
  · have h0 := hA.none_nil
    subst h0
    go_enter Try.func61, Try.ntmps61
    go_wp2
    go_ret
    exact ⟨none, 0, rfl, Sl.nil, Below.refl _ _⟩
  · have hs2 : ∀ x : Int × Int × Int, (enc3 x).length = 3 := fun _ => rfl
    have hfl := length_flat (enc := enc3) (size := 3) hs2 l
    have hne : ∀ u ∈ l.flatMap enc3, u.oneCell' = true := by
      intro u hu; obtain ⟨x, _, hx⟩ := List.mem_flatMap.1 hu; simp [enc3] at hx; rcases hx with rfl | rfl | rfl <;> rfl
    have hcells : ∀ (W : World), Below w.heap.size w W → ∀ j u, (l.flatMap enc3)[j]? = some u → W.cell? (ad.add j) = some u := fun W hb => (hA.below hb).flat hs2
    obtain ⟨fl, hflat⟩ : ∃ fl, fl = l.flatMap enc3 := ⟨_, rfl⟩
    rw [← hflat] at hfl hne hcells
    have HF := Lib.hid hfl
    have HFL := Lib.hid hflat
    clear hfl hflat
    have hb0 := (Below.refl w.heap.size w).alloc (Nat.le_refl _) (.cells #[] 44)
    have hown := World.ownsRow_made (base := w.heap.size) (e := 44) (size := 3) w #[] 0 (Nat.le_refl _) (by decide) rfl
    go_enter Try.func61, Try.ntmps61
    go_wp2_with (at_builtin; refine wpList_append_own _ rfl (.tmp 5) (.tmp 6) 39 rfl w.heap.size 44 i0 _ 3 24 Try.underlying39 hi0 hz0 hz1 hz2 rfl (by decide) _ _ _ rfl hown ad l.length c fl rfl HF.out (hcells _ hb0) hne (by simp only [maxLen]; omega) (by omega) (by simp) ?_; intro v' w1 hown1 hg1 _)
    go_ret
    obtain ⟨A', c', rfl⟩ := own_shape hown1
    simp only [Nat.zero_add, List.nil_append] at hown1 ⊢
    refine ⟨A', c', rfl, Sl.of_own hs2 (by rw [← HFL.out]; exact hown1), hb0.grown hg1 (by simp) (fun k hk => ?_)⟩
    cases hk; exact Nat.le_refl _

theorem infoMethod : (Try.prog.info? 72).map (fun i => (i.zero, i.size, i.bytes)) = some (some (.agg #[.int .i64 0, .int .i64 0]), 2, 16) := by kernel_rfl

set_option maxHeartbeats 1000000 in
theorem cloneMethod_any (A : Option Addr) (c : Nat) (l : List (Int × Int)) (w : World) (hl : l.length * 16 ≤ 140737488355328) (hA : Sl enc2 2 w w.heap.size A l) :
    Calls Try.prog 72 #[.slice A l.length c] w fun e w' => ∃ A' c', e = .returned (.slice A' l.length c') ∧ Sl enc2 2 w' w'.heap.size A' l ∧ Below w.heap.size w w' := by
  have hnil := fun w n c n' c' a => Lib.run_eql_slice_nil (P := Try.prog) w 69 72 a n c n' c' Try.underlying69
  obtain ⟨i0, hi0, hz0, hz1, hz2⟩ := info_parts infoMethod
  rcases A with _ | ad
  · have h0 := hA.none_nil
    subst h0
    go_enter Try.func72, Try.ntmps72
    go_wp2
    go_ret
    exact ⟨none, 0, rfl, Sl.nil, Below.refl _ _⟩
  · have hs2 : ∀ x : Int × Int, (enc2 x).length = 2 := fun _ => rfl
    have hfl := length_flat (enc := enc2) (size := 2) hs2 l
    have hne : ∀ u ∈ l.flatMap enc2, u.oneCell' = true := by
      intro u hu; obtain ⟨x, _, hx⟩ := List.mem_flatMap.1 hu; simp [enc2] at hx; rcases hx with rfl | rfl <;> rfl
    have hcells : ∀ (W : World), Below w.heap.size w W → ∀ j u, (l.flatMap enc2)[j]? = some u → W.cell? (ad.add j) = some u := fun W hb => (hA.below hb).flat hs2
    obtain ⟨fl, hflat⟩ : ∃ fl, fl = l.flatMap enc2 := ⟨_, rfl⟩
    rw [← hflat] at hfl hne hcells
    have HF := Lib.hid hfl
    have HFL := Lib.hid hflat
    clear hfl hflat
    have hb0 := (Below.refl w.heap.size w).alloc (Nat.le_refl _) (.cells #[] 72)
    have hown := World.ownsRow_made (base := w.heap.size) (e := 72) (size := 2) w #[] 0 (Nat.le_refl _) (by decide) rfl
    go_enter Try.func72, Try.ntmps72
    go_wp2_with (at_builtin; refine wpList_append_own _ rfl (.tmp 5) (.tmp 6) 69 rfl w.heap.size 72 i0 _ 2 16 Try.underlying69 hi0 hz0 hz1 hz2 rfl (by decide) _ _ _ rfl hown ad l.length c fl rfl HF.out (hcells _ hb0) hne (by simp only [maxLen]; omega) (by omega) (by simp) ?_; intro v' w1 hown1 hg1 _)
    go_ret
    obtain ⟨A', c', rfl⟩ := own_shape hown1
    simp only [Nat.zero_add, List.nil_append] at hown1 ⊢
    refine ⟨A', c', rfl, Sl.of_own hs2 (by rw [← HFL.out]; exact hown1), hb0.grown hg1 (by simp) (fun k hk => ?_)⟩
    cases hk; exact Nat.le_refl _

theorem infoComplaint : (Try.prog.info? 66).map (fun i => (i.zero, i.size, i.bytes)) = some (some (.agg #[.int .i64 0, .int .i64 0]), 2, 16) := by kernel_rfl

set_option maxHeartbeats 1000000 in
theorem cloneComplaint_any (A : Option Addr) (c : Nat) (l : List (Int × Int)) (w : World) (hl : l.length * 16 ≤ 140737488355328) (hA : Sl enc2 2 w w.heap.size A l) :
    Calls Try.prog 89 #[.slice A l.length c] w fun e w' => ∃ A' c', e = .returned (.slice A' l.length c') ∧ Sl enc2 2 w' w'.heap.size A' l ∧ Below w.heap.size w w' := by
  have hnil := fun w n c n' c' a => Lib.run_eql_slice_nil (P := Try.prog) w 67 66 a n c n' c' Try.underlying67
  obtain ⟨i0, hi0, hz0, hz1, hz2⟩ := info_parts infoComplaint
  rcases A with _ | ad
  · have h0 := hA.none_nil
    subst h0
    go_enter Try.func89, Try.ntmps89
    go_wp2
    go_ret
    exact ⟨none, 0, rfl, Sl.nil, Below.refl _ _⟩
  · have hs2 : ∀ x : Int × Int, (enc2 x).length = 2 := fun _ => rfl
    have hfl := length_flat (enc := enc2) (size := 2) hs2 l
    have hne : ∀ u ∈ l.flatMap enc2, u.oneCell' = true := by
      intro u hu; obtain ⟨x, _, hx⟩ := List.mem_flatMap.1 hu; simp [enc2] at hx; rcases hx with rfl | rfl <;> rfl
    have hcells : ∀ (W : World), Below w.heap.size w W → ∀ j u, (l.flatMap enc2)[j]? = some u → W.cell? (ad.add j) = some u := fun W hb => (hA.below hb).flat hs2
    obtain ⟨fl, hflat⟩ : ∃ fl, fl = l.flatMap enc2 := ⟨_, rfl⟩
    rw [← hflat] at hfl hne hcells
    have HF := Lib.hid hfl
    have HFL := Lib.hid hflat
    clear hfl hflat
    have hb0 := (Below.refl w.heap.size w).alloc (Nat.le_refl _) (.cells #[] 66)
    have hown := World.ownsRow_made (base := w.heap.size) (e := 66) (size := 2) w #[] 0 (Nat.le_refl _) (by decide) rfl
    go_enter Try.func89, Try.ntmps89
    go_wp2_with (at_builtin; refine wpList_append_own _ rfl (.tmp 5) (.tmp 6) 67 rfl w.heap.size 66 i0 _ 2 16 Try.underlying67 hi0 hz0 hz1 hz2 rfl (by decide) _ _ _ rfl hown ad l.length c fl rfl HF.out (hcells _ hb0) hne (by simp only [maxLen]; omega) (by omega) (by simp) ?_; intro v' w1 hown1 hg1 _)
    go_ret
    obtain ⟨A', c', rfl⟩ := own_shape hown1
    simp only [Nat.zero_add, List.nil_append] at hown1 ⊢
    refine ⟨A', c', rfl, Sl.of_own hs2 (by rw [← HFL.out]; exact hown1), hb0.grown hg1 (by simp) (fun k hk => ?_)⟩
    cases hk; exact Nat.le_refl _

theorem infoSpan : (Try.prog.info? 88).map (fun i => (i.zero, i.size, i.bytes)) = some (some (.agg #[.int .i64 0, .int .i64 0]), 2, 16) := by kernel_rfl

set_option maxHeartbeats 1000000 in
theorem cloneSpan_any (A : Option Addr) (c : Nat) (l : List (Int × Int)) (w : World) (hl : l.length * 16 ≤ 140737488355328) (hA : Sl enc2 2 w w.heap.size A l) :
    Calls Try.prog 119 #[.slice A l.length c] w fun e w' => ∃ A' c', e = .returned (.slice A' l.length c') ∧ Sl enc2 2 w' w'.heap.size A' l ∧ Below w.heap.size w w' := by
  have hnil := fun w n c n' c' a => Lib.run_eql_slice_nil (P := Try.prog) w 61 88 a n c n' c' Try.underlying61
  obtain ⟨i0, hi0, hz0, hz1, hz2⟩ := info_parts infoSpan
  rcases A with _ | ad
  · have h0 := hA.none_nil
    subst h0
    go_enter Try.func119, Try.ntmps119
    go_wp2
    go_ret
    exact ⟨none, 0, rfl, Sl.nil, Below.refl _ _⟩
  · have hs2 : ∀ x : Int × Int, (enc2 x).length = 2 := fun _ => rfl
    have hfl := length_flat (enc := enc2) (size := 2) hs2 l
    have hne : ∀ u ∈ l.flatMap enc2, u.oneCell' = true := by
      intro u hu; obtain ⟨x, _, hx⟩ := List.mem_flatMap.1 hu; simp [enc2] at hx; rcases hx with rfl | rfl <;> rfl
    have hcells : ∀ (W : World), Below w.heap.size w W → ∀ j u, (l.flatMap enc2)[j]? = some u → W.cell? (ad.add j) = some u := fun W hb => (hA.below hb).flat hs2
    obtain ⟨fl, hflat⟩ : ∃ fl, fl = l.flatMap enc2 := ⟨_, rfl⟩
    rw [← hflat] at hfl hne hcells
    have HF := Lib.hid hfl
    have HFL := Lib.hid hflat
    clear hfl hflat
    have hb0 := (Below.refl w.heap.size w).alloc (Nat.le_refl _) (.cells #[] 88)
    have hown := World.ownsRow_made (base := w.heap.size) (e := 88) (size := 2) w #[] 0 (Nat.le_refl _) (by decide) rfl
    go_enter Try.func119, Try.ntmps119
    go_wp2_with (at_builtin; refine wpList_append_own _ rfl (.tmp 5) (.tmp 6) 61 rfl w.heap.size 88 i0 _ 2 16 Try.underlying61 hi0 hz0 hz1 hz2 rfl (by decide) _ _ _ rfl hown ad l.length c fl rfl HF.out (hcells _ hb0) hne (by simp only [maxLen]; omega) (by omega) (by simp) ?_; intro v' w1 hown1 hg1 _)
    go_ret
    obtain ⟨A', c', rfl⟩ := own_shape hown1
    simp only [Nat.zero_add, List.nil_append] at hown1 ⊢
    refine ⟨A', c', rfl, Sl.of_own hs2 (by rw [← HFL.out]; exact hown1), hb0.grown hg1 (by simp) (fun k hk => ?_)⟩
    cases hk; exact Nat.le_refl _

end Go.Proofs.Ytgopdfbmddkpfaa
