/- The two appends of one round of readers, in whatever order; conditions: as it says. -/
import Derived.Test.YtgopdfbmddkpfaaV1
import Derived.Test.YtgopdfbmddkpfaaE2
import Derived.Deep.RegionHeld3
import Derived.Deep.DeepCutAuto
import Derived.Deep.AppendLies
set_option linter.unusedSimpArgs false
set_option linter.unusedVariables false
namespace Go.Proofs.Ytgopdfbmddkpfaa
open Go.RowKit Go.Fh Go.Ag

set_option maxHeartbeats 1000000 in
theorem cloneSpan_own (A : Option Addr) (c : Nat) (l : List (Int × Int)) (w : World) (hl : l.length * 16 ≤ 140737488355328) (hA : Sl enc2 2 w w.heap.size A l) :
    Calls Try.prog 119 #[.slice A l.length c] w fun e w' => ∃ A' c', e = .returned (.slice A' l.length c') ∧ w'.ownsRow w.heap.size 88 2 (.slice A' l.length c') l.length (l.flatMap enc2) ∧ Below w.heap.size w w' := by
  have hnil := fun w n c n' c' a => Lib.run_eql_slice_nil (P := Try.prog) w 61 88 a n c n' c' Try.underlying61
  obtain ⟨i0, hi0, hz0, hz1, hz2⟩ := info_parts infoSpan
  rcases A with _ | ad
  · have h0 := hA.none_nil
    subst h0
    go_enter Try.func119, Try.ntmps119
    go_wp2
    go_ret
    exact ⟨none, 0, rfl, World.ownsRow_nil _ _ _ _, Below.refl _ _⟩
  · have hs2 : ∀ x : Int × Int, (enc2 x).length = 2 := fun _ => rfl
    have hfl := length_flat (enc := enc2) (size := 2) hs2 l
    have hne : ∀ u ∈ l.flatMap enc2, u.oneCell' = true := by
      intro u hu; obtain ⟨x, _, hx⟩ := List.mem_flatMap.1 hu; simp [enc2] at hx; rcases hx with rfl | rfl <;> rfl
    have hcells : ∀ (W : World), Below w.heap.size w W → ∀ j u, (l.flatMap enc2)[j]? = some u → W.cell? (ad.add j) = some u := fun W hb => (hA.below hb).flat hs2
    obtain ⟨fl, hflat⟩ : ∃ fl, fl = l.flatMap enc2 := ⟨_, rfl⟩
    rw [← hflat] at hfl hne hcells
    have HF := Lib.hid hfl
    have HFL := Lib.hid hflat
    clear hfl hflat
    have hb0 := (Below.refl w.heap.size w).alloc (Nat.le_refl _) (.cells #[] 88)
    have hown := World.ownsRow_made (base := w.heap.size) (e := 88) (size := 2) w #[] 0 (Nat.le_refl _) (by decide) rfl
    go_enter Try.func119, Try.ntmps119
    go_wp2_with (at_builtin; refine wpList_append_own _ rfl (.tmp 5) (.tmp 6) 61 rfl w.heap.size 88 i0 _ 2 16 Try.underlying61 hi0 hz0 hz1 hz2 rfl (by decide) _ _ _ rfl hown ad l.length c fl rfl HF.out (hcells _ hb0) hne (by simp only [maxLen]; omega) (by omega) (by simp) ?_; intro v' w1 hown1 hg1 _)
    go_ret
    obtain ⟨A', c', rfl⟩ := own_shape hown1
    simp only [Nat.zero_add, List.nil_append] at hown1 ⊢
    refine ⟨A', c', rfl, by rw [← HFL.out]; exact hown1, hb0.grown hg1 (by simp) (fun k hk => ?_)⟩
    cases hk; exact Nat.le_refl _

/-- rows of cells of two kinds lie in two blocks -/
theorem own_own_ne {w : World} {b1 b2 : Nat} {e1 e2 : TypeId} {s1 s2 n1 n2 : Nat} {v1 v2 : Value} {x1 x2 : List Value} (h1 : w.ownsRow b1 e1 s1 v1 n1 x1) (h2 : w.ownsRow b2 e2 s2 v2 n2 x2) (hne : e1 ≠ e2) : v1.ownBlock = none ∨ v1.ownBlock ≠ v2.ownBlock := by
  rcases h1.2 with ⟨rfl, _⟩ | ⟨g, cap, cur, rfl, _, hg, _⟩
  · exact .inl rfl
  · right
    rcases h2.2 with ⟨rfl, _⟩ | ⟨g', cap', cur', rfl, _, hg', _⟩
    · simp [Value.ownBlock]
    · intro e
      simp [Value.ownBlock] at e
      subst e
      rw [hg] at hg'
      injection hg' with hg'
      injection hg' with _ h _
      exact hne h
theorem own_belowV {w w' : World} {b : Nat} {e : TypeId} {s n : Nat} {v : Value} {xs : List Value} (h : w.ownsRow b e s v n xs) (hb : Below w.heap.size w w') : w'.ownsRow b e s v n xs :=
  World.ownsRow.kept h (row := none) ⟨hb.os, hb.tape, hb.output, hb.size, fun j hj _ => hb.block j hj⟩ (by by_cases h : v.ownBlock = none; (exact .inl h); (exact .inr h))

set_option maxRecDepth 20000 in
set_option maxHeartbeats 4000000 in
theorem subscriber_any (s : SubD) (A : Option Addr) (c : Nat) (w : World) (hl : s.hol.length * 16 ≤ 140737488355328) (hA : Sl enc2 2 w w.heap.size A s.hol) :
    Calls Try.prog 85 #[.agg #[.int .i64 s.id, .int .i64 s.lo, .int .i64 s.hi, .int .i64 s.days, .slice A s.hol.length c]] w fun e w' => ∃ (A1 A2 : Option Addr) (c1 c2 : Nat),
      e = .returned (.tuple #[.agg #[.int .i64 s.id, .int .i64 s.lo, .int .i64 s.hi, .int .i64 s.days, .slice A1 s.hol.length c1], .agg #[.int .i64 s.id, .int .i64 s.lo, .int .i64 s.hi, .int .i64 s.days, .slice A2 s.hol.length c2]]) ∧
      w'.ownsRow w.heap.size 88 2 (.slice A1 s.hol.length c1) s.hol.length (s.hol.flatMap enc2) ∧ w'.ownsRow w.heap.size 88 2 (.slice A2 s.hol.length c2) s.hol.length (s.hol.flatMap enc2) ∧ Below w.heap.size w w' := by
  have hz63 := zero63
  have HA := Lib.hid hA
  have HC := Lib.hid (fun W h => cloneSpan_own A c s.hol W hl h)
  clear hA
  obtain ⟨n, hn⟩ : ∃ n, n = s.hol.length := ⟨_, rfl⟩
  go_enter Try.func85, Try.ntmps85
  go_upto_region 2 with fail
  obtain ⟨w1, hw1⟩ : ∃ W, W = (((w.alloc (.cells #[.int .i64 s.id, .int .i64 s.lo, .int .i64 s.hi, .int .i64 s.days, .slice A s.hol.length c] 63)).alloc (.cells #[.int .i64 0, .int .i64 0, .int .i64 0, .int .i64 0, .slice none 0 0] 63)).alloc (.cells #[.int .i64 0, .int .i64 0, .int .i64 0, .int .i64 0, .slice none 0 0] 161)).alloc (.cells #[.int .i64 s.id, .int .i64 s.lo, .int .i64 s.hi, .int .i64 s.days, .slice A s.hol.length c] 63) := ⟨_, rfl⟩
  rw [← hw1]
  have hb1 : Below w.heap.size w w1 := by rw [hw1]; exact ((((Below.refl _ _).alloc (Nat.le_refl _) _).alloc (by simp) _).alloc (by simp; omega) _).alloc (by simp; omega) _
  obtain ⟨gB, hgB⟩ : ∃ g, g = w.heap.size := ⟨_, rfl⟩
  obtain ⟨gR, hgR⟩ : ∃ g, g = w.heap.size + 1 := ⟨_, rfl⟩
  obtain ⟨gQ, hgQ⟩ : ∃ g, g = w.heap.size + 1 + 1 := ⟨_, rfl⟩
  obtain ⟨gO, hgO⟩ : ∃ g, g = w.heap.size + 1 + 1 + 1 := ⟨_, rfl⟩
  have kB : Blk w1 gB 63 #[.int .i64 s.id, .int .i64 s.lo, .int .i64 s.hi, .int .i64 s.days, .slice A s.hol.length c] := by rw [hw1, hgB]; exact (((Blk.new w 63 _).alloc _).alloc _).alloc _
  have kR : Blk w1 gR 63 #[.int .i64 0, .int .i64 0, .int .i64 0, .int .i64 0, .slice none 0 0] := by
    rw [hw1, hgR]
    have h0 := Blk.new (w.alloc (.cells #[.int .i64 s.id, .int .i64 s.lo, .int .i64 s.hi, .int .i64 s.days, .slice A s.hol.length c] 63)) 63 #[.int .i64 0, .int .i64 0, .int .i64 0, .int .i64 0, .slice none 0 0]
    rw [World.size_alloc] at h0
    exact (h0.alloc _).alloc _
  have kQ : Blk w1 gQ 161 #[.int .i64 0, .int .i64 0, .int .i64 0, .int .i64 0, .slice none 0 0] := by
    rw [hw1, hgQ]
    have h0 := Blk.new ((w.alloc (.cells #[.int .i64 s.id, .int .i64 s.lo, .int .i64 s.hi, .int .i64 s.days, .slice A s.hol.length c] 63)).alloc (.cells #[.int .i64 0, .int .i64 0, .int .i64 0, .int .i64 0, .slice none 0 0] 63)) 161 #[.int .i64 0, .int .i64 0, .int .i64 0, .int .i64 0, .slice none 0 0]
    rw [World.size_alloc, World.size_alloc] at h0
    exact h0.alloc _
  have kO : Blk w1 gO 63 #[.int .i64 s.id, .int .i64 s.lo, .int .i64 s.hi, .int .i64 s.days, .slice A s.hol.length c] := by
    rw [hw1, hgO]
    have h0 := Blk.new (((w.alloc (.cells #[.int .i64 s.id, .int .i64 s.lo, .int .i64 s.hi, .int .i64 s.days, .slice A s.hol.length c] 63)).alloc (.cells #[.int .i64 0, .int .i64 0, .int .i64 0, .int .i64 0, .slice none 0 0] 63)).alloc (.cells #[.int .i64 0, .int .i64 0, .int .i64 0, .int .i64 0, .slice none 0 0] 161)) 63 #[.int .i64 s.id, .int .i64 s.lo, .int .i64 s.hi, .int .i64 s.days, .slice A s.hol.length c]
    rw [World.size_alloc, World.size_alloc, World.size_alloc] at h0
    exact h0
  have hnum : gB = w.heap.size ∧ gR = w.heap.size + 1 ∧ gQ = w.heap.size + 2 ∧ gO = w.heap.size + 3 := ⟨by omega, by omega, by omega, by omega⟩
  rw [← hgO, ← hgQ, ← hgR, ← hgB]
  have HN := Lib.hid hnum
  have HB1 := Lib.hid hb1
  have KR := Lib.hid kR
  have KQ := Lib.hid kQ
  have KB := Lib.hid kB
  have KO := Lib.hid kO
  have b4 := kB.cell 4
  simp at b4
  clear hw1 hgB hgR hgQ hgO hnum hb1 kB kR kQ kO hn hz63
  go_wp2_with fail
  refine (HC.out _ ((HA.out.below HB1.out).mono HB1.out.size)).mono ?_
  rintro e w2 ⟨A1, c1, rfl, ho1, hb2⟩
  have hkO := KO.out.below hb2 KO.out.lt
  have o4 := hkO.cell 4
  have o4f := hkO.frozen 4
  simp at o4
  have HKO := Lib.hid hkO
  have HO1 := Lib.hid ho1
  have HB2 := Lib.hid hb2
  clear hkO ho1 hb2
  go_upto_region 3 with fail
  obtain ⟨w3, hw3⟩ : ∃ W, W = w2.setCell ⟨gO, 4, none⟩ (.slice A1 s.hol.length c1) := ⟨_, rfl⟩
  rw [← hw3]
  have hgo : w1.heap.size ≤ w2.heap.size := HB2.out.size
  have hsz : gB < gO ∧ gR < gO ∧ gQ < gO ∧ gB < gR ∧ gR < gQ ∧ gO < w1.heap.size := by have := HN.out; have := KO.out.lt; omega
  have kO3 : Blk w3 gO 63 #[.int .i64 s.id, .int .i64 s.lo, .int .i64 s.hi, .int .i64 s.days, .slice A1 s.hol.length c1] := by rw [hw3]; exact HKO.out.set_ 4 _
  have kB3 : Blk w3 gB 63 #[.int .i64 s.id, .int .i64 s.lo, .int .i64 s.hi, .int .i64 s.days, .slice A s.hol.length c] := by rw [hw3]; exact (KB.out.below HB2.out KB.out.lt).far (by show gB ≠ gO; omega) _
  have kR3 : Blk w3 gR 63 #[.int .i64 0, .int .i64 0, .int .i64 0, .int .i64 0, .slice none 0 0] := by rw [hw3]; exact (KR.out.below HB2.out KR.out.lt).far (by show gR ≠ gO; omega) _
  have kQ3 : Blk w3 gQ 161 #[.int .i64 0, .int .i64 0, .int .i64 0, .int .i64 0, .slice none 0 0] := by rw [hw3]; exact (KQ.out.below HB2.out KQ.out.lt).far (by show gQ ≠ gO; omega) _
  have hn1 : w.heap.size ≤ gB := by have := HN.out; omega
  have ho3 : w3.ownsRow w.heap.size 88 2 (.slice A1 s.hol.length c1) s.hol.length (s.hol.flatMap enc2) := by
    rw [hw3]
    have := own_far HO1.out (p := ⟨gO, 4, none⟩) (own_blk_ne HO1.out HKO.out (by decide)) (.slice A1 s.hol.length c1)
    exact ⟨this.1, this.2.imp id (fun ⟨g, cap, cur, e, hb, r⟩ => ⟨g, cap, cur, e, by have := HB1.out.size; omega, r⟩)⟩
  have hb3 : Below w.heap.size w w3 := by rw [hw3]; exact (HB1.out.trans (HB2.out.mono HB1.out.size)).setCell (by show w.heap.size ≤ gO; omega) _
  have HB3 := Lib.hid hb3
  have HO3 := Lib.hid ho3
  have KB3 := Lib.hid kB3
  have KO3 := Lib.hid kO3
  have KR3 := Lib.hid kR3
  have KQ3 := Lib.hid kQ3
  have hl3 : gO < w3.heap.size := kO3.lt
  have SB := Lib.hid (show ∀ W, Blk W gB 63 #[.int .i64 s.id, .int .i64 s.lo, .int .i64 s.hi, .int .i64 s.days, .slice A s.hol.length c] → Blk W gO 63 #[.int .i64 s.id, .int .i64 s.lo, .int .i64 s.hi, .int .i64 s.days, .slice A1 s.hol.length c1] → (W.cell? ⟨gB, 0, none⟩ = some (.int .i64 s.id) ∧ W.cell? ⟨gB, 1, none⟩ = some (.int .i64 s.lo) ∧ W.cell? ⟨gB, 2, none⟩ = some (.int .i64 s.hi) ∧ W.cell? ⟨gB, 3, none⟩ = some (.int .i64 s.days) ∧ W.cell? ⟨gB, 4, none⟩ = some (.slice A s.hol.length c) ∧ W.cell? ⟨gO, 0, none⟩ = some (.int .i64 s.id) ∧ W.cell? ⟨gO, 1, none⟩ = some (.int .i64 s.lo) ∧ W.cell? ⟨gO, 2, none⟩ = some (.int .i64 s.hi) ∧ W.cell? ⟨gO, 3, none⟩ = some (.int .i64 s.days) ∧ W.cell? ⟨gO, 4, none⟩ = some (.slice A1 s.hol.length c1)) from fun W h1 h2 => ⟨h1.cell 0, h1.cell 1, h1.cell 2, h1.cell 3, h1.cell 4, h2.cell 0, h2.cell 1, h2.cell 2, h2.cell 3, h2.cell 4⟩)
  obtain ⟨hs1, hs2, hs3, hs4, hs5, hs6⟩ := hsz
  have n1 : gB ≠ gR := by omega
  have n2 : gB ≠ gQ := by omega
  have n3 : gO ≠ gR := by omega
  have n4 : gO ≠ gQ := by omega
  have n5 : gR ≠ gQ := by omega
  clear hw3 kB3 kO3 kR3 kQ3 ho3 hb3 b4 o4 o4f
  go_region_held3 (fun W => W.cell? ⟨gB, 0, none⟩ = some (.int .i64 s.id) ∧ W.cell? ⟨gB, 1, none⟩ = some (.int .i64 s.lo) ∧ W.cell? ⟨gB, 2, none⟩ = some (.int .i64 s.hi) ∧ W.cell? ⟨gB, 3, none⟩ = some (.int .i64 s.days) ∧ W.cell? ⟨gB, 4, none⟩ = some (.slice A s.hol.length c) ∧ W.cell? ⟨gO, 0, none⟩ = some (.int .i64 s.id) ∧ W.cell? ⟨gO, 1, none⟩ = some (.int .i64 s.lo) ∧ W.cell? ⟨gO, 2, none⟩ = some (.int .i64 s.hi) ∧ W.cell? ⟨gO, 3, none⟩ = some (.int .i64 s.days) ∧ W.cell? ⟨gO, 4, none⟩ = some (.slice A1 s.hol.length c1))
    (first
      | exact SB.out _ (by repeat (first | with_reducible exact KB3.out | with_reducible exact kB5 | with_reducible refine Blk.drew ?_ | with_reducible refine Blk.far ?_ n1 _ | with_reducible refine Blk.far ?_ n2 _)) (by repeat (first | with_reducible exact KO3.out | with_reducible exact kO5 | with_reducible refine Blk.drew ?_ | with_reducible refine Blk.far ?_ n3 _ | with_reducible refine Blk.far ?_ n4 _)))
    ((go_at_call 119; refine (HC.out _ (by exact (HA.out.below HB3.out).mono HB3.out.size)).mono ?_; rintro e w5 ⟨A2, c2, rfl, ho2, hb5⟩; have kB5 := (KB3.out.drew).below hb5 (by exact KB3.out.lt); have kO5 := (KO3.out.drew).below hb5 (by exact KO3.out.lt); have kR5 := (KR3.out.drew).below hb5 (by exact KR3.out.lt); have kQ5 := (KQ3.out.drew).below hb5 (by exact KQ3.out.lt); have HO2 := Lib.hid ho2; have HB5 := Lib.hid hb5; have i0 := kR5.cell 0; have i1 := kR5.cell 1; have i2 := kR5.cell 2; have i3 := kR5.cell 3; have i4 := kR5.cell 4; have j0 := kQ5.cell 0; have j1 := kQ5.cell 1; have j2 := kQ5.cell 2; have j3 := kQ5.cell 3; have j4 := kQ5.cell 4; have f0 := kR5.frozen 0; have f1 := kR5.frozen 1; have f2 := kR5.frozen 2; have f3 := kR5.frozen 3; have f4 := kR5.frozen 4; have g0 := kQ5.frozen 0; have g1 := kQ5.frozen 1; have g2 := kQ5.frozen 2; have g3 := kQ5.frozen 3; have g4 := kQ5.frozen 4; simp at i0 i1 i2 i3 i4 j0 j1 j2 j3 j4; clear ho2 hb5))
  have hnR : w.heap.size ≤ gR := by omega
  have hnQ : w.heap.size ≤ gQ := by omega
  have hbw5 : Below w.heap.size w w5 := HB3.out.trans (Below.trans (Below.refl _ _).drew (HB5.out.mono HB3.out.size))
  have ho5 : w5.ownsRow w.heap.size 88 2 (.slice A1 s.hol.length c1) s.hol.length (s.hol.flatMap enc2) := own_belowV (w := w3.drew) HO3.out HB5.out
  have ho6 : w5.ownsRow w.heap.size 88 2 (.slice A2 s.hol.length c2) s.hol.length (s.hol.flatMap enc2) :=
    ⟨HO2.out.1, HO2.out.2.imp id (fun ⟨g, cap, cur, e, hb, r⟩ => ⟨g, cap, cur, e, Nat.le_trans HB3.out.size hb, r⟩)⟩
  have r1 := own_blk_ne ho5 kR5 (by decide)
  have r2 := own_blk_ne ho5 kQ5 (by decide)
  have r3 := own_blk_ne ho6 kR5 (by decide)
  have r4 := own_blk_ne ho6 kQ5 (by decide)
  have HO5 := Lib.hid ho5
  have HO6 := Lib.hid ho6
  have KR5 := Lib.hid kR5
  have KQ5 := Lib.hid kQ5
  have HR := Lib.hid (And.intro r1 (And.intro r2 (And.intro r3 r4)))
  clear ho5 ho6 r1 r2 r3 r4 i0 i1 i2 i3 i4 j0 j1 j2 j3 j4 f0 f1 f2 f3 f4 g0 g1 g2 g3 g4
  go_wp2
  have kf := ((((((((((KR5.out.set_ 0 (.int .i64 s.id)).set_ 1 (.int .i64 s.lo)).set_ 2 (.int .i64 s.hi)).set_ 3 (.int .i64 s.days)).set_ 4 (.slice A1 s.hol.length c1)).far (p := ⟨gQ, 0, none⟩) n5 (.int .i64 s.id)).far (p := ⟨gQ, 1, none⟩) n5 (.int .i64 s.lo)).far (p := ⟨gQ, 2, none⟩) n5 (.int .i64 s.hi)).far (p := ⟨gQ, 3, none⟩) n5 (.int .i64 s.days)).far (p := ⟨gQ, 4, none⟩) n5 (.slice A2 s.hol.length c2))
  have kq := ((((((((((KQ5.out.far (p := ⟨gR, 0, none⟩) (Ne.symm n5) (.int .i64 s.id)).far (p := ⟨gR, 1, none⟩) (Ne.symm n5) (.int .i64 s.lo)).far (p := ⟨gR, 2, none⟩) (Ne.symm n5) (.int .i64 s.hi)).far (p := ⟨gR, 3, none⟩) (Ne.symm n5) (.int .i64 s.days)).far (p := ⟨gR, 4, none⟩) (Ne.symm n5) (.slice A1 s.hol.length c1)).set_ 0 (.int .i64 s.id)).set_ 1 (.int .i64 s.lo)).set_ 2 (.int .i64 s.hi)).set_ 3 (.int .i64 s.days)).set_ 4 (.slice A2 s.hol.length c2))
  have hbf := ((((((((((hbw5.setCell (p := ⟨gR, 0, none⟩) hnR (.int .i64 s.id)).setCell (p := ⟨gR, 1, none⟩) hnR (.int .i64 s.lo)).setCell (p := ⟨gR, 2, none⟩) hnR (.int .i64 s.hi)).setCell (p := ⟨gR, 3, none⟩) hnR (.int .i64 s.days)).setCell (p := ⟨gR, 4, none⟩) hnR (.slice A1 s.hol.length c1)).setCell (p := ⟨gQ, 0, none⟩) hnQ (.int .i64 s.id)).setCell (p := ⟨gQ, 1, none⟩) hnQ (.int .i64 s.lo)).setCell (p := ⟨gQ, 2, none⟩) hnQ (.int .i64 s.hi)).setCell (p := ⟨gQ, 3, none⟩) hnQ (.int .i64 s.days)).setCell (p := ⟨gQ, 4, none⟩) hnQ (.slice A2 s.hol.length c2))
  have hof1 := (own_far (own_far (own_far (own_far (own_far (own_far (own_far (own_far (own_far (own_far HO5.out (p := ⟨gR, 0, none⟩) HR.out.1 (.int .i64 s.id)) (p := ⟨gR, 1, none⟩) HR.out.1 (.int .i64 s.lo)) (p := ⟨gR, 2, none⟩) HR.out.1 (.int .i64 s.hi)) (p := ⟨gR, 3, none⟩) HR.out.1 (.int .i64 s.days)) (p := ⟨gR, 4, none⟩) HR.out.1 (.slice A1 s.hol.length c1)) (p := ⟨gQ, 0, none⟩) HR.out.2.1 (.int .i64 s.id)) (p := ⟨gQ, 1, none⟩) HR.out.2.1 (.int .i64 s.lo)) (p := ⟨gQ, 2, none⟩) HR.out.2.1 (.int .i64 s.hi)) (p := ⟨gQ, 3, none⟩) HR.out.2.1 (.int .i64 s.days)) (p := ⟨gQ, 4, none⟩) HR.out.2.1 (.slice A2 s.hol.length c2))
  have hof2 := (own_far (own_far (own_far (own_far (own_far (own_far (own_far (own_far (own_far (own_far HO6.out (p := ⟨gR, 0, none⟩) HR.out.2.2.1 (.int .i64 s.id)) (p := ⟨gR, 1, none⟩) HR.out.2.2.1 (.int .i64 s.lo)) (p := ⟨gR, 2, none⟩) HR.out.2.2.1 (.int .i64 s.hi)) (p := ⟨gR, 3, none⟩) HR.out.2.2.1 (.int .i64 s.days)) (p := ⟨gR, 4, none⟩) HR.out.2.2.1 (.slice A1 s.hol.length c1)) (p := ⟨gQ, 0, none⟩) HR.out.2.2.2 (.int .i64 s.id)) (p := ⟨gQ, 1, none⟩) HR.out.2.2.2 (.int .i64 s.lo)) (p := ⟨gQ, 2, none⟩) HR.out.2.2.2 (.int .i64 s.hi)) (p := ⟨gQ, 3, none⟩) HR.out.2.2.2 (.int .i64 s.days)) (p := ⟨gQ, 4, none⟩) HR.out.2.2.2 (.slice A2 s.hol.length c2))
  refine bodyPost_ret (v := .tuple #[.agg #[.int .i64 s.id, .int .i64 s.lo, .int .i64 s.hi, .int .i64 s.days, .slice A1 s.hol.length c1], .agg #[.int .i64 s.id, .int .i64 s.lo, .int .i64 s.hi, .int .i64 s.days, .slice A2 s.hol.length c2]]) ?_ rfl ⟨A1, A2, c1, c2, rfl, hof1, hof2, hbf⟩
  have y0 := kf.cell 0
  have y1 := kf.cell 1
  have y2 := kf.cell 2
  have y3 := kf.cell 3
  have y4 := kf.cell 4
  have z0 := kq.cell 0
  have z1 := kq.cell 1
  have z2 := kq.cell 2
  have z3 := kq.cell 3
  have z4 := kq.cell 4
  clear hbf hof1 hof2 kf kq
  generalize World.setCell _ _ _ = W at y0 y1 y2 y3 y4 z0 z1 z2 z3 z4 ⊢
  simp at y0 y1 y2 y3 y4 z0 z1 z2 z3 z4
  simp [results, Try.results85, go_sem, y0, y1, y2, y3, y4, z0, z1, z2, z3, z4]
end Go.Proofs.Ytgopdfbmddkpfaa
namespace Go.Proofs.Ytgopdfbmddkpfaa
open Go.RowKit Go.Fh Go.Ag

theorem info161 : (Try.prog.info? 161).map (fun i => (i.zero, i.size, i.bytes)) = some (some (.agg #[.int .i64 0, .int .i64 0, .int .i64 0, .int .i64 0, .slice none 0 0]), 5, 56) := by kernel_rfl
theorem info63' : (Try.prog.info? 63).map (fun i => (i.zero, i.size, i.bytes)) = some (some (.agg #[.int .i64 0, .int .i64 0, .int .i64 0, .int .i64 0, .slice none 0 0]), 5, 56) := by kernel_rfl
/-- the region with a number -/
def findRegR (n : Nat) : Code → Option Code
  | .region m ops b => if m = n then some (.region m ops b) else none
  | .seq a b => (findRegR n a).or (findRegR n b)
  | .cond _ a b => (findRegR n a).or (findRegR n b)
  | .block _ c => findRegR n c
  | .loop c => findRegR n c
  | .scope c => findRegR n c
  | .rangeFunc _ _ a b => (findRegR n a).or (findRegR n b)
  | _ => none
/-- only two rows have turned, and there is more -/
def Grown2 (w w' : World) (r1 r2 : Option Nat) : Prop := w'.os = w.os ∧ w'.tape = w.tape ∧ w'.output = w.output ∧ w.heap.size ≤ w'.heap.size ∧ ∀ k, k < w.heap.size → some k ≠ r1 → some k ≠ r2 → w'.heap[k]? = w.heap[k]?
section
variable {w w' w'' : World} {r1 r2 r : Option Nat}
theorem Grown2.below {B : Nat} {w0 : World} (h : Below B w0 w) (hg : Grown2 w w' r1 r2) (hB : B ≤ w.heap.size) (h1 : ∀ k, r1 = some k → B ≤ k) (h2 : ∀ k, r2 = some k → B ≤ k) : Below B w0 w' :=
  h.trans ⟨hg.1, hg.2.1, hg.2.2.1, hg.2.2.2.1, fun k hk => hg.2.2.2.2 k (by omega) (fun e => by have := h1 k e.symm; omega) (fun e => by have := h2 k e.symm; omega)⟩
theorem Grown2.own {b : Nat} {e : TypeId} {s n : Nat} {v : Value} {xs : List Value} (h : w.ownsRow b e s v n xs) (hg : Grown2 w w' r1 r2) (h1 : v.ownBlock = none ∨ v.ownBlock ≠ r1) (h2 : v.ownBlock = none ∨ v.ownBlock ≠ r2) : w'.ownsRow b e s v n xs := by
  refine ⟨h.1, ?_⟩
  rcases h.2 with h0 | ⟨g, cap, cur, rfl, hb, hgt, r⟩
  · exact .inl h0
  · have hlt : g < w.heap.size := by
      rcases Nat.lt_or_ge g w.heap.size with h' | h'
      · exact h'
      · rw [Array.getElem?_eq_none h'] at hgt; cases hgt
    have e1 : some g ≠ r1 := by rcases h1 with h1 | h1; (simp [Value.ownBlock] at h1); exact h1
    have e2 : some g ≠ r2 := by rcases h2 with h2 | h2; (simp [Value.ownBlock] at h2); exact h2
    exact .inr ⟨g, cap, cur, rfl, hb, (hg.2.2.2.2 g hlt e1 e2).trans hgt, r⟩
theorem Grown2.blk {g : Nat} {t : TypeId} {cs : Array Value} (hg : Grown2 w w' r1 r2) (h : Blk w g t cs) (h1 : some g ≠ r1) (h2 : some g ≠ r2) : Blk w' g t cs := (hg.2.2.2.2 g h.lt h1 h2).trans h
theorem Grown2.rfl (w : World) (r1 r2 : Option Nat) : Grown2 w w r1 r2 := ⟨Eq.refl _, Eq.refl _, Eq.refl _, Nat.le_refl _, fun _ _ _ _ => Eq.refl _⟩
theorem Grown2.drew (h : Grown2 w w' r1 r2) : Grown2 w w'.drew r1 r2 := ⟨h.1, (by
  have := ((Below.refl w'.heap.size w').drew).tape
  exact this.trans h.2.1), h.2.2.1, h.2.2.2.1, h.2.2.2.2⟩
theorem Grown2.app1 (h : Grown2 w w' r1 r2) (hg : w'.grownBy w'' r1) : Grown2 w w'' r1 r2 :=
  ⟨hg.os.trans h.1, hg.tape.trans h.2.1, hg.output.trans h.2.2.1, Nat.le_trans h.2.2.2.1 hg.size, fun k hk q1 q2 => (hg.block k (Nat.lt_of_lt_of_le hk h.2.2.2.1) q1).trans (h.2.2.2.2 k hk q1 q2)⟩
theorem Grown2.app2 (h : Grown2 w w' r1 r2) (hg : w'.grownBy w'' r2) : Grown2 w w'' r1 r2 :=
  ⟨hg.os.trans h.1, hg.tape.trans h.2.1, hg.output.trans h.2.2.1, Nat.le_trans h.2.2.2.1 hg.size, fun k hk q1 q2 => (hg.block k (Nat.lt_of_lt_of_le hk h.2.2.2.1) q2).trans (h.2.2.2.2 k hk q1 q2)⟩
theorem Grown2.alloc (h : Grown2 w w' r1 r2) (o : Obj) : Grown2 w (w'.alloc o) r1 r2 := h.app1 (World.grownBy_alloc w' o r1)
theorem gr_refl (w : World) (r : Option Nat) : w.grownBy w r := ⟨rfl, rfl, rfl, Nat.le_refl _, fun _ _ _ => rfl⟩
theorem gr_app (h : w.grownBy w' r) (hg : w'.grownBy w'' r) : w.grownBy w'' r :=
  ⟨hg.os.trans h.os, hg.tape.trans h.tape, hg.output.trans h.output, Nat.le_trans h.size hg.size, fun k hk q => (hg.block k (Nat.lt_of_lt_of_le hk h.size) q).trans (h.block k hk q)⟩
theorem gr_drew (h : w.grownBy w' r) : w.grownBy w'.drew r := ⟨h.os, (((Below.refl w'.heap.size w').drew).tape).trans h.tape, h.output, h.size, h.block⟩
theorem gr_alloc (h : w.grownBy w' r) (o : Obj) : w.grownBy (w'.alloc o) r := gr_app h (World.grownBy_alloc w' o r)
theorem blk_new_at {W : World} {g : Nat} {t : TypeId} {cs : Array Value} (h : g = W.heap.size) : Blk (W.alloc (.cells cs t)) g t cs := by subst h; exact Blk.new _ _ _
end
noncomputable def readers7 : Code := (Try.f37.body.bind (findRegR 7)).getD .skip

set_option maxRecDepth 1000000 in
set_option maxHeartbeats 8000000 in
theorem readers7_wp (x : SubD) (B1 B2 A1 A2 : Option Addr) (f1 f2 c1 c2 k gP gQ base : Nat) (lo lr : List Value) (w4 : World)
    (kP : Blk w4 gP 63 #[.int .i64 x.id, .int .i64 x.lo, .int .i64 x.hi, .int .i64 x.days, .slice B1 x.hol.length f1]) (kQ : Blk w4 gQ 161 #[.int .i64 x.id, .int .i64 x.lo, .int .i64 x.hi, .int .i64 x.days, .slice B2 x.hol.length f2])
    (O1 : w4.ownsRow base 63 5 (.slice A1 k c1) k lo) (O2 : w4.ownsRow base 161 5 (.slice A2 k c2) k lr) (hk : k ≤ 600) (hbase : base ≤ w4.heap.size)
    (n1 : some gP ≠ (Value.slice A1 k c1).ownBlock) (n2 : some gP ≠ (Value.slice A2 k c2).ownBlock) (n3 : some gQ ≠ (Value.slice A1 k c1).ownBlock) (n4 : some gQ ≠ (Value.slice A2 k c2).ownBlock)
    (Q : Exit → Act → World → Prop) (u0 u1 u2 u3 u4 u5 u6 u7 u8 u9 u10 u11 u12 u15 u16 u19 u20 u21 u22 u23 u24 u25 u26 u27 u28 u29 u30 u31 u32 u33 u34 u35 u36 u37 u38 u39 u40 u41 u42 u43 u44 u45 u46 u47 u48 u49 u50 u51 u52 u53 u54 u55 u56 u57 u58 u59 u60 u61 u62 u63 u64 u65 u66 u67 u68 u69 u70 u71 u72 u73 u74 u75 u76 u77 u78 u79 u80 u81 u82 u83 u84 u85 u86 u87 u88 u89 u90 u91 u92 u93 u94 u95 u96 u97 u98 u99 u100 u101 u102 u103 u104 u105 u106 u107 u108 u109 u110 u111 u112 u113 u114 u115 u116 u117 u118 u119 u120 u121 u122 u123 u124 u125 u126 u127 u128 u129 u130 u131 u132 u133 u134 u135 u136 u137 u138 u139 u140 u141 u142 u143 u144 u145 u146 u147 u148 u149 u150 u151 u152 u153 u154 u155 u156 u157 u158 u159 u160 u161 u162 u163 u164 u165 u166 u167 u168 u169 u170 u171 u172 u173 u174 u175 u176 u177 u178 u179 u180 u181 u182 u183 u184 u185 u186 u187 u188 u189 : Value)
    (hQ : ∀ (A1' A2' : Option Addr) (c1' c2' : Nat) (wx : World) (v47 v48 v49 v50 v51 v52 v53 v54 : Value), wx.ownsRow base 63 5 (.slice A1' (k + 1) c1') (k + 1) (lo ++ [.int .i64 x.id, .int .i64 x.lo, .int .i64 x.hi, .int .i64 x.days, .slice B1 x.hol.length f1]) → wx.ownsRow base 161 5 (.slice A2' (k + 1) c2') (k + 1) (lr ++ [.int .i64 x.id, .int .i64 x.lo, .int .i64 x.hi, .int .i64 x.days, .slice B2 x.hol.length f2]) → Grown2 w4 wx (Value.slice A1 k c1).ownBlock (Value.slice A2 k c2).ownBlock → Q .normal ⟨(List.toArray (u0 :: u1 :: u2 :: u3 :: u4 :: u5 :: u6 :: u7 :: u8 :: u9 :: u10 :: u11 :: u12 :: .slice A1' (k + 1) c1' :: .slice A2' (k + 1) c2' :: u15 :: u16 :: .pointer (some ⟨gP, 0, none⟩) :: .pointer (some ⟨gQ, 0, none⟩) :: u19 :: u20 :: u21 :: u22 :: u23 :: u24 :: u25 :: u26 :: u27 :: u28 :: u29 :: u30 :: u31 :: u32 :: u33 :: u34 :: u35 :: u36 :: u37 :: u38 :: u39 :: u40 :: u41 :: u42 :: u43 :: u44 :: u45 :: u46 :: v47 :: v48 :: v49 :: v50 :: v51 :: v52 :: v53 :: v54 :: u55 :: u56 :: u57 :: u58 :: u59 :: u60 :: u61 :: u62 :: u63 :: u64 :: u65 :: u66 :: u67 :: u68 :: u69 :: u70 :: u71 :: u72 :: u73 :: u74 :: u75 :: u76 :: u77 :: u78 :: u79 :: u80 :: u81 :: u82 :: u83 :: u84 :: u85 :: u86 :: u87 :: u88 :: u89 :: u90 :: u91 :: u92 :: u93 :: u94 :: u95 :: u96 :: u97 :: u98 :: u99 :: u100 :: u101 :: u102 :: u103 :: u104 :: u105 :: u106 :: u107 :: u108 :: u109 :: u110 :: u111 :: u112 :: u113 :: u114 :: u115 :: u116 :: u117 :: u118 :: u119 :: u120 :: u121 :: u122 :: u123 :: u124 :: u125 :: u126 :: u127 :: u128 :: u129 :: u130 :: u131 :: u132 :: u133 :: u134 :: u135 :: u136 :: u137 :: u138 :: u139 :: u140 :: u141 :: u142 :: u143 :: u144 :: u145 :: u146 :: u147 :: u148 :: u149 :: u150 :: u151 :: u152 :: u153 :: u154 :: u155 :: u156 :: u157 :: u158 :: u159 :: u160 :: u161 :: u162 :: u163 :: u164 :: u165 :: u166 :: u167 :: u168 :: u169 :: u170 :: u171 :: u172 :: u173 :: u174 :: u175 :: u176 :: u177 :: u178 :: u179 :: u180 :: u181 :: u182 :: u183 :: u184 :: u185 :: u186 :: u187 :: u188 :: u189 :: [])), []⟩ wx) :
    Code.wp Try.prog readers7 Q ⟨(List.toArray (u0 :: u1 :: u2 :: u3 :: u4 :: u5 :: u6 :: u7 :: u8 :: u9 :: u10 :: u11 :: u12 :: .slice A1 k c1 :: .slice A2 k c2 :: u15 :: u16 :: .pointer (some ⟨gP, 0, none⟩) :: .pointer (some ⟨gQ, 0, none⟩) :: u19 :: u20 :: u21 :: u22 :: u23 :: u24 :: u25 :: u26 :: u27 :: u28 :: u29 :: u30 :: u31 :: u32 :: u33 :: u34 :: u35 :: u36 :: u37 :: u38 :: u39 :: u40 :: u41 :: u42 :: u43 :: u44 :: u45 :: u46 :: u47 :: u48 :: u49 :: u50 :: u51 :: u52 :: u53 :: u54 :: u55 :: u56 :: u57 :: u58 :: u59 :: u60 :: u61 :: u62 :: u63 :: u64 :: u65 :: u66 :: u67 :: u68 :: u69 :: u70 :: u71 :: u72 :: u73 :: u74 :: u75 :: u76 :: u77 :: u78 :: u79 :: u80 :: u81 :: u82 :: u83 :: u84 :: u85 :: u86 :: u87 :: u88 :: u89 :: u90 :: u91 :: u92 :: u93 :: u94 :: u95 :: u96 :: u97 :: u98 :: u99 :: u100 :: u101 :: u102 :: u103 :: u104 :: u105 :: u106 :: u107 :: u108 :: u109 :: u110 :: u111 :: u112 :: u113 :: u114 :: u115 :: u116 :: u117 :: u118 :: u119 :: u120 :: u121 :: u122 :: u123 :: u124 :: u125 :: u126 :: u127 :: u128 :: u129 :: u130 :: u131 :: u132 :: u133 :: u134 :: u135 :: u136 :: u137 :: u138 :: u139 :: u140 :: u141 :: u142 :: u143 :: u144 :: u145 :: u146 :: u147 :: u148 :: u149 :: u150 :: u151 :: u152 :: u153 :: u154 :: u155 :: u156 :: u157 :: u158 :: u159 :: u160 :: u161 :: u162 :: u163 :: u164 :: u165 :: u166 :: u167 :: u168 :: u169 :: u170 :: u171 :: u172 :: u173 :: u174 :: u175 :: u176 :: u177 :: u178 :: u179 :: u180 :: u181 :: u182 :: u183 :: u184 :: u185 :: u186 :: u187 :: u188 :: u189 :: [])), []⟩ w4 := by
  obtain ⟨i0, hi0, hz0, hz1, hz2⟩ := info_parts info63'
  obtain ⟨j0, hj0, hy0, hy1, hy2⟩ := info_parts info161
  have HI0 := Lib.hid hi0
  have HJ0 := Lib.hid hj0
  have SB := Lib.hid (show ∀ W, Grown2 w4 W (Value.slice A1 k c1).ownBlock (Value.slice A2 k c2).ownBlock → (W.cell? ⟨gP, 0, none⟩ = some (.int .i64 x.id) ∧ W.cell? ⟨gP, 1, none⟩ = some (.int .i64 x.lo) ∧ W.cell? ⟨gP, 2, none⟩ = some (.int .i64 x.hi) ∧ W.cell? ⟨gP, 3, none⟩ = some (.int .i64 x.days) ∧ W.cell? ⟨gP, 4, none⟩ = some (.slice B1 x.hol.length f1) ∧ W.cell? ⟨gQ, 0, none⟩ = some (.int .i64 x.id) ∧ W.cell? ⟨gQ, 1, none⟩ = some (.int .i64 x.lo) ∧ W.cell? ⟨gQ, 2, none⟩ = some (.int .i64 x.hi) ∧ W.cell? ⟨gQ, 3, none⟩ = some (.int .i64 x.days) ∧ W.cell? ⟨gQ, 4, none⟩ = some (.slice B2 x.hol.length f2)) from fun W hg => ⟨(hg.blk kP n1 n2).cell 0, (hg.blk kP n1 n2).cell 1, (hg.blk kP n1 n2).cell 2, (hg.blk kP n1 n2).cell 3, (hg.blk kP n1 n2).cell 4, (hg.blk kQ n3 n4).cell 0, (hg.blk kQ n3 n4).cell 1, (hg.blk kQ n3 n4).cell 2, (hg.blk kQ n3 n4).cell 3, (hg.blk kQ n3 n4).cell 4⟩)
  have HQ := Lib.hid hQ
  have R1 := Lib.hid (show ∀ W, w4.grownBy W (Value.slice A2 k c2).ownBlock → W.ownsRow base 63 5 (.slice A1 k c1) k lo from fun W hg => O1.kept hg (own_own_ne O1 O2 (by decide)))
  have R2 := Lib.hid (show ∀ W, w4.grownBy W (Value.slice A1 k c1).ownBlock → W.ownsRow base 161 5 (.slice A2 k c2) k lr from fun W hg => O2.kept hg (own_own_ne O2 O1 (by decide)))
  have hr1 : Hid (∀ j, (Value.slice A1 k c1).ownBlock = some j → j < w4.heap.size) := fun j hj => (O1.lt j hj).2
  have hr2 : Hid (∀ j, (Value.slice A2 k c2).ownBlock = some j → j < w4.heap.size) := fun j hj => (O2.lt j hj).2
  have H1 := Lib.hid (show ∀ u ∈ ([.int .i64 x.id, .int .i64 x.lo, .int .i64 x.hi, .int .i64 x.days, .slice B1 x.hol.length f1] : List Value), u.oneCell' = true by intro u hu; simp at hu; rcases hu with rfl | rfl | rfl | rfl | rfl <;> rfl)
  have H2 := Lib.hid (show ∀ u ∈ ([.int .i64 x.id, .int .i64 x.lo, .int .i64 x.hi, .int .i64 x.days, .slice B2 x.hol.length f2] : List Value), u.oneCell' = true by intro u hu; simp at hu; rcases hu with rfl | rfl | rfl | rfl | rfl <;> rfl)
  have hm1 : k + 1 ≤ maxLen := by simp only [maxLen]; omega
  have hm2 : (k + 1) * 56 ≤ 140737488355328 := by omega
  clear hi0 hj0 hQ O1 O2 kP kQ n1 n2 n3 n4
  conv => arg 2; whnf
  go_region_held3 (fun W => W.cell? ⟨gP, 0, none⟩ = some (.int .i64 x.id) ∧ W.cell? ⟨gP, 1, none⟩ = some (.int .i64 x.lo) ∧ W.cell? ⟨gP, 2, none⟩ = some (.int .i64 x.hi) ∧ W.cell? ⟨gP, 3, none⟩ = some (.int .i64 x.days) ∧ W.cell? ⟨gP, 4, none⟩ = some (.slice B1 x.hol.length f1) ∧ W.cell? ⟨gQ, 0, none⟩ = some (.int .i64 x.id) ∧ W.cell? ⟨gQ, 1, none⟩ = some (.int .i64 x.lo) ∧ W.cell? ⟨gQ, 2, none⟩ = some (.int .i64 x.hi) ∧ W.cell? ⟨gQ, 3, none⟩ = some (.int .i64 x.days) ∧ W.cell? ⟨gQ, 4, none⟩ = some (.slice B2 x.hol.length f2))
    (exact SB.out _ (by repeat (first | with_reducible exact Grown2.rfl _ _ _ | with_reducible refine Grown2.drew ?_ | with_reducible refine Grown2.alloc ?_ _ | with_reducible refine Grown2.app1 ?_ hgrow1 | with_reducible refine Grown2.app2 ?_ hgrow2)))
    ((first
      | (refine step_append_lies _ rfl (.tmp 47) (.tmp 49) 58 rfl base 63 i0 _ 5 56 Try.underlying58 HI0.out hz0 hz1 hz2 rfl (by decide) (.slice A1 k c1) k lo (by simp [Act.eval, Act.put]) (R1.out _ (by repeat (first | with_reducible exact gr_refl _ _ | with_reducible refine gr_drew ?_ | with_reducible refine gr_alloc ?_ _ | with_reducible refine gr_app ?_ hgrow2))) _ 1 1 [.int .i64 x.id, .int .i64 x.lo, .int .i64 x.hi, .int .i64 x.days, .slice B1 x.hol.length f1] (by simp [Act.eval, Act.put]; rfl) rfl (World.news_of_block (cs := #[.int .i64 x.id, .int .i64 x.lo, .int .i64 x.hi, .int .i64 x.days, .slice B1 x.hol.length f1]) (t := 63) (fr := (0, 0)) (by show Blk _ _ 63 #[.int .i64 x.id, .int .i64 x.lo, .int .i64 x.hi, .int .i64 x.days, .slice B1 x.hol.length f1]; repeat (first | (with_reducible refine blk_new_at ?_; first | rfl | (simp; done)) | with_reducible refine Blk.drew ?_ | with_reducible refine Blk.alloc ?_ _ | with_reducible refine Blk.grown ?_ hgrow2 (fun e => by have := hr2.out _ e.symm; omega)))) H1.out (by decide) hm1 hm2 (by first | exact hbase | omega | (simp; omega)) _ rfl ?_; intro gg1 cap1 wa hown1 hgrow1 hat1 hlt1; have hs1 : w4.heap.size ≤ wa.heap.size := (show Grown2 w4 wa (Value.slice A1 k c1).ownBlock (Value.slice A2 k c2).ownBlock from by repeat (first | with_reducible exact Grown2.rfl _ _ _ | with_reducible refine Grown2.drew ?_ | with_reducible refine Grown2.alloc ?_ _ | with_reducible refine Grown2.app1 ?_ hgrow1 | with_reducible refine Grown2.app2 ?_ hgrow2)).2.2.2.1)
      | (refine step_append_lies _ rfl (.tmp 51) (.tmp 53) 160 rfl base 161 j0 _ 5 56 Try.underlying160 HJ0.out hy0 hy1 hy2 rfl (by decide) (.slice A2 k c2) k lr (by simp [Act.eval, Act.put]) (R2.out _ (by repeat (first | with_reducible exact gr_refl _ _ | with_reducible refine gr_drew ?_ | with_reducible refine gr_alloc ?_ _ | with_reducible refine gr_app ?_ hgrow1))) _ 1 1 [.int .i64 x.id, .int .i64 x.lo, .int .i64 x.hi, .int .i64 x.days, .slice B2 x.hol.length f2] (by simp [Act.eval, Act.put]; rfl) rfl (World.news_of_block (cs := #[.int .i64 x.id, .int .i64 x.lo, .int .i64 x.hi, .int .i64 x.days, .slice B2 x.hol.length f2]) (t := 161) (fr := (0, 0)) (by show Blk _ _ 161 #[.int .i64 x.id, .int .i64 x.lo, .int .i64 x.hi, .int .i64 x.days, .slice B2 x.hol.length f2]; repeat (first | (with_reducible refine blk_new_at ?_; first | rfl | (simp; done)) | with_reducible refine Blk.drew ?_ | with_reducible refine Blk.alloc ?_ _ | with_reducible refine Blk.grown ?_ hgrow1 (fun e => by have := hr1.out _ e.symm; omega)))) H2.out (by decide) hm1 hm2 (by first | exact hbase | omega | (simp; omega)) _ rfl ?_; intro gg2 cap2 wb hown2 hgrow2 hat2 hlt2; have hs2 : w4.heap.size ≤ wb.heap.size := (show Grown2 w4 wb (Value.slice A1 k c1).ownBlock (Value.slice A2 k c2).ownBlock from by repeat (first | with_reducible exact Grown2.rfl _ _ _ | with_reducible refine Grown2.drew ?_ | with_reducible refine Grown2.alloc ?_ _ | with_reducible refine Grown2.app1 ?_ hgrow1 | with_reducible refine Grown2.app2 ?_ hgrow2)).2.2.2.1)))
  all_goals
    refine HQ.out _ _ _ _ _ _ _ _ _ _ _ _ _ ?_ hown2 (by repeat (first | with_reducible exact Grown2.rfl _ _ _ | with_reducible refine Grown2.drew ?_ | with_reducible refine Grown2.alloc ?_ _ | with_reducible refine Grown2.app1 ?_ hgrow1 | with_reducible refine Grown2.app2 ?_ hgrow2))
    exact hown1.kept (gr_app (by repeat (first | with_reducible exact gr_refl _ _ | with_reducible refine gr_drew ?_ | with_reducible refine gr_alloc ?_ _)) hgrow2) (own_own_ne hown1 (R2.out _ (gr_app (by repeat (first | with_reducible exact gr_refl _ _ | with_reducible refine gr_drew ?_ | with_reducible refine gr_alloc ?_ _)) hgrow1)) (by decide))
end Go.Proofs.Ytgopdfbmddkpfaa
