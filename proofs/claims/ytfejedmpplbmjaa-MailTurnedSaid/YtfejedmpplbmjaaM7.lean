/- The contract of can; conditions: numbers that fit. -/
import Derived.Test.YtfejedmpplbmjaaM6
import Derived.Deep.RegionLaw
import Derived.Deep.RegionHeld
import Derived.Test.YtfejedmpplbmjaaC3
set_option linter.unusedSimpArgs false
set_option linter.unusedVariables false
namespace Go.Proofs.Ytfejedmpplbmjaa
open Go.RowKit Go.Fh Go.Ml
theorem infoT151 : (Try.prog.info? 151).map (fun i => (i.zero, i.size, i.bytes)) = some (some (.slice none 0 0), 1, 24) := by kernel_rfl
theorem infoT42 : (Try.prog.info? 42).map (fun i => (i.zero, i.size, i.bytes)) = some (some (.slice none 0 0), 1, 24) := by kernel_rfl
theorem infoT4 : (Try.prog.info? 4).map (fun i => (i.zero, i.size, i.bytes)) = some (some (.bool false), 1, 1) := by kernel_rfl
theorem keeps_val (x a : Int) (z : Bool) (hz : z = inL x a) (ha : -9223372036854775807 ≤ a ∧ a ≤ 9223372036854775807) (w : World) :
    Calls Try.prog 72 #[.int .i64 x, .int .i64 a] w fun e w' => e = .returned (.bool z) ∧ w = w' := by
  rw [hz]; exact keeps_any x a w ha
set_option maxRecDepth 20000 in
set_option maxHeartbeats 16000000 in
theorem can_any (N K m : Nat) (last : Int) (w : World) (hK : 1 ≤ K) (hKN : K ≤ N) (hN : N ≤ 200) (hl0 : 0 ≤ last) (hlK : last ≤ K) (hm1 : 1 ≤ m) (hm3 : m ≤ 300) :
    Calls Try.prog 74 #[.agg #[.int .i64 (N : Int), .int .i64 (K : Int), .int .i64 last], .int .i64 (m : Int)] w fun e w' => ∃ (gO : Nat) (fO : Nat → Value), e = .returned (.slice (some ⟨gO, 0, none⟩) (m + 1) (m + 1)) ∧ Hid (w.heap.size ≤ gO ∧ Blk w' gO 151 (outV m fO) ∧ ∀ i, i ≤ m → TabI N K m last w' i (fO i)) ∧ Hid (Below w.heap.size w w') := by
  obtain ⟨w1, hw1⟩ : ∃ W, W = w.alloc (.cells #[.int .i64 (N : Int), .int .i64 (K : Int), .int .i64 last] 146) := ⟨_, rfl⟩
  obtain ⟨g2, hg2⟩ : ∃ g, g = w.heap.size := ⟨_, rfl⟩
  have k1 : Blk w1 g2 146 #[.int .i64 (N : Int), .int .i64 (K : Int), .int .i64 last] := by rw [hw1, hg2]; exact Blk.new _ _ _
  have HB1 := Lib.hid (show Below w.heap.size w w1 from by rw [hw1]; exact balR (Below.refl _ _) _)
  have HC := Lib.hid (show ∀ W, Below w1.heap.size w1 W → W.cell? ⟨g2, 0, none⟩ = some (.int .i64 (N : Int)) ∧ W.cell? ⟨g2, 1, none⟩ = some (.int .i64 (K : Int)) ∧ W.cell? ⟨g2, 2, none⟩ = some (.int .i64 last) from fun W hb => by
    have k := k1.below hb k1.lt
    have a0 := k.cell 0
    have a1 := k.cell 1
    have a2 := k.cell 2
    simp at a0 a1 a2
    exact ⟨a0, a1, a2⟩)
  obtain ⟨r0, r1, r2⟩ := HC.out w1 (Below.refl _ _)
  have HW1 := Lib.hid hw1
  have HG2 := Lib.hid hg2
  have hmkO := fun W => run_make_row' (P := Try.prog) 149 151 (.slice none 0 0) 24 Try.underlying149 infoT151 rfl .i64 .i64 (m + 1) (by omega) (by omega) W
  have hmkR := fun W => run_make_row' (P := Try.prog) 42 4 (.bool false) 1 Try.underlying42 infoT4 rfl .i64 .i64 (2 * K + 1) (by omega) (by omega) W
  simp only [show ((m + 1 : Nat) : Int) = (m : Int) + 1 from by omega, show ((2 * K + 1 : Nat) : Int) = 2 * (K : Int) + 1 from by omega] at hmkO hmkR
  obtain ⟨i4, hi4, xz0, xz1, xz2⟩ := info_parts infoT42
  have HI4 := Lib.hid hi4
  have s1 : IntKind.i64.wrap ((m : Int) + 1) = (m : Int) + 1 := by rw [IntKind.wrap_i64]; omega
  have s2 : IntKind.i64.wrap ((N : Int) + 1) = (N : Int) + 1 := by rw [IntKind.wrap_i64]; omega
  have s3 : IntKind.i64.wrap (2 * (K : Int)) = 2 * (K : Int) := by rw [IntKind.wrap_i64]; omega
  have s4 : IntKind.i64.wrap (2 * (K : Int) + 1) = 2 * (K : Int) + 1 := by rw [IntKind.wrap_i64]; omega
  have s5 : IntKind.i64.wrap (-(K : Int)) = -(K : Int) := by rw [IntKind.wrap_i64]; omega
  have HMR := Lib.hid hmkR
  clear k1 hw1 hg2 hi4 hmkR
  go_enter Try.func74, Try.ntmps74
  go_upto_region 1 with fail
  rw [← HW1.out, ← HG2.out]
  obtain ⟨gO, hgO⟩ : ∃ g, g = w1.heap.size := ⟨_, rfl⟩
  obtain ⟨w2, hw2⟩ : ∃ W, W = w1.alloc (.cells (madeCells #[.slice none 0 0] (m + 1)) 151) := ⟨_, rfl⟩
  have HO2 := Lib.hid (show Blk w2 gO 151 (outV m fun _ => .slice none 0 0) from by
    have : outV m (fun _ => Value.slice none 0 0) = (List.replicate (m + 1) (Value.slice none 0 0)).toArray := by
      unfold outV; congr 1; refine List.ext_getElem (by simp) fun i h1 h2 => by simp
    rw [hw2, hgO, this, ← toList_madeCells_one]; exact Blk.new w1 151 _)
  have HB2 := Lib.hid (show Below w1.heap.size w1 w2 from by rw [hw2]; exact balR (Below.refl _ _) _)
  have HGO := Lib.hid hgO
  have HW2 := Lib.hid hw2
  clear hgO hw2
  go_upto_region 2 with fail
  rw [← HW2.out, ← HGO.out]
  clear hmkO r0 r1 r2
  go_wp2_with fail
  go_loopw [6] (fun u6 wr => ∃ (p : Nat) (fO : Nat → Value), p ≤ m + 1 ∧ u6 = .int .i64 (bI p) ∧ Hid (Blk wr gO 151 (outV m fO)) ∧ Hid (∀ i, p ≤ i → i ≤ m → TabI N K m last wr i (fO i)) ∧ Hid (∀ i, i < p → fO i = .slice none 0 0) ∧ Hid (Below w1.heap.size w1 wr)) (fun u _ => (intOf u + 1).toNat)
  case atStart => exact ⟨m + 1, fun _ => .slice none 0 0, Nat.le_refl _, rfl, HO2, Lib.hid (fun i h1 h2 => by omega), Lib.hid (fun i h => rfl), HB2⟩
  case round =>
    obtain ⟨p, fO, hp, rfl, HO, HT, HF, HB⟩ := hrel
    have HOL := Lib.hid HO.out.lt
    cases p with
    | zero =>
      rw [show bI 0 = -1 from rfl]
      go_wp2_with fail
      go_ret
      exact ⟨gO, fO, rfl, Lib.hid ⟨by rw [HGO.out]; exact HB1.out.size, HO.out, fun i hi => HT.out i (Nat.zero_le _) hi⟩, Lib.hid (HB1.out.trans (HB.out.mono HB1.out.size))⟩
    | succ j =>
      rw [show bI (j + 1) = (j : Int) from rfl]
      have hj : j ≤ m := by omega
      have ij0 : (0 : Int) ≤ (j : Int) := by omega
      have ij1 : (j : Int) < (m : Int) + 1 := by omega
      have tj : decide ((j : Int) ≥ 0) = true := by simp
      obtain ⟨r0, r1, r2⟩ := HC.out wr HB.out
      --@1
      go_upto_region 6 with fail
      clear r0 r1 r2
      obtain ⟨Wj, hWj⟩ : ∃ W, W = wr := ⟨_, rfl⟩
      rw [← hWj] at HO HT HB HOL ⊢
      have HWJ := Lib.hid hWj
      clear hWj
      go_loopw [22] (fun u22 wq => ∃ (u : Nat) (v : Value) (gQ : Nat → Nat), u ≤ N + 1 ∧ u22 = .int .i64 (u : Int) ∧ Hid (Blk wq gO 151 (outV m fun q => if q = j then v else fO q)) ∧ Hid (wq.ownsRow Wj.heap.size 42 1 v u ((List.range u).map fun a => Value.slice (some ⟨gQ a, 0, none⟩) (2 * K + 1) (2 * K + 1))) ∧ Hid (∀ a, a < u → Blk wq (gQ a) 4 (rowV N K last (m - j) j a)) ∧ Hid (KT Wj wq) ∧ Hid (Below w1.heap.size w1 wq)) (fun u _ => N + 1 - (intOf u).toNat)
      case atStart =>
        refine ⟨0, .slice none 0 0, fun _ => 0, Nat.zero_le _, rfl, Lib.hid ?_, Lib.hid (World.ownsRow_nil _ _ _ _), Lib.hid (fun a h => by omega), Lib.hid (KT.refl _), HB⟩
        have e : (fun q => if q = j then Value.slice none 0 0 else fO q) = fO := by
          funext q; by_cases h : q = j
          · subst h; simp [HF.out q (by omega)]
          · simp [h]
        rw [e]; exact HO.out
      case round =>
        obtain ⟨u, v, gQ, hu, rfl, HOU, HRU, HQU, HKU, HBU⟩ := hrel
        by_cases hltu : u < N + 1
        · have iu0 : (0 : Int) ≤ (u : Int) := by omega
          have iu1 : (u : Int) < (N : Int) + 1 := by omega
          obtain ⟨r0, r1, r2⟩ := HC.out wr HBU.out
          obtain ⟨gr, hgr⟩ : ∃ g, g = wr.heap.size := ⟨_, rfl⟩
          obtain ⟨w8, hw8⟩ : ∃ W, W = wr.alloc (.cells (madeCells #[.bool false] (2 * K + 1)) 4) := ⟨_, rfl⟩
          have HR8 := Lib.hid (show Blk w8 gr 4 (parV N K last (m - j) j u 0 false) from by
            rw [hw8, hgr, parV_zero, ← toList_madeCells_one]; exact Blk.new wr 4 _)
          have HB8 := Lib.hid (show Below wr.heap.size wr w8 from by rw [hw8]; exact balR (Below.refl _ _) _)
          have HGR := Lib.hid hgr
          have HW8 := Lib.hid hw8
          have hmkR := HMR.out
          clear hgr hw8
          --@2
          go_upto_region 9 with fail
          rw [← HW8.out, ← HGR.out]
          clear hmkR r0 r1 r2
          obtain ⟨Wu, hWu⟩ : ∃ W, W = wr := ⟨_, rfl⟩
          rw [← hWu] at HOU HRU HQU HKU HBU HB8 HGR HW8
          clear hWu
          obtain ⟨r0, r1, r2⟩ := HC.out w8 (bstep HBU.out HB8.out)
          go_wp2_with fail
          clear r0 r1 r2
          go_loopw [9] (fun u9 wx => ∃ (t : Nat) (x : Int), t ≤ 2 * K + 1 ∧ u9 = .int .i64 x ∧ (-(K : Int) ≤ x ∧ x ≤ (K : Int) + 1) ∧ Hid (x = (t : Int) - K) ∧ Hid (Blk wx gr 4 (parV N K last (m - j) j u t false)) ∧ Hid (Below Wu.heap.size Wu wx)) (fun u _ => ((K : Int) + 1 - intOf u).toNat)
          case atStart => exact ⟨0, -(K : Int), Nat.zero_le _, rfl, ⟨by omega, by omega⟩, Lib.hid (by omega), HR8, HB8⟩
          case round =>
            obtain ⟨t, x, ht, rfl, hx, HX, HRX, HBX⟩ := hrel
            have HBX1 := Lib.hid (bstep HBU.out HBX.out)
            obtain ⟨r0, r1, r2⟩ := HC.out wr HBX1.out
            by_cases hxK : x ≤ (K : Int)
            · have tx : decide (x ≤ (K : Int)) = true := by simpa using hxK
              have htl : t < 2 * K + 1 := by have := HX.out; omega
              have q0 : (0 : Int) ≤ (t : Int) := by omega
              have q1 : (t : Int) < 2 * (K : Int) + 1 := by omega
              have q2 : IntKind.i64.wrap (x + (K : Int)) = (t : Int) := by rw [HX.out, IntKind.wrap_i64]; omega
              have q3 : x + (K : Int) = (t : Int) := by rw [HX.out]; omega
              have q4 : IntKind.i64.wrap (x + 1) = x + 1 := by rw [IntKind.wrap_i64]; omega
              have q5 : (t : Int) < ((2 * K + 1 : Nat) : Int) := by omega
              have HXN := Lib.hid (show x + 1 = ((t + 1 : Nat) : Int) - K from by rw [HX.out]; omega)
              have HEQ := Lib.hid (show ∀ b, b = canF N K last (m - j) j u x → parV N K last (m - j) j u t b = parV N K last (m - j) j u (t + 1) false from fun b hb => parV_next (by rw [← HX.out]; exact hb))
              have c0 := parV_cell HRX.out htl
              have f0 := HRX.out.frozen t
              have HGRW := Lib.hid (show Wu.heap.size ≤ gr from by rw [HGR.out]; exact Nat.le_refl _)
              by_cases hjm : j = m
              · have tjm : ((j : Int) == (m : Int)) = true := by simp [hjm]
                obtain ⟨b2, hb2⟩ : ∃ b, b = inL x last := ⟨_, rfl⟩
                have H72 := Lib.hid (fun W => keeps_val x last b2 hb2 (by omega) W)
                clear hjm
                have HJM := Lib.hid (show m - j = 0 from by have h := tjm; simp at h; omega)
                --@3
                by_cases hun : u = N
                · have HCV := Lib.hid (show b2 = canF N K last (m - j) j u x from by
                    rw [HJM.out, hb2, hun]; unfold canF; simp)
                  have z1 : ((u : Int) == (N : Int)) = true := by simp [hun]
                  clear hb2 hun
                  go_upto_region 13 with fail
                  have q0 : (0 : Int) ≤ (t : Int) := by omega
                  have q1 : (t : Int) < 2 * (K : Int) + 1 := by omega
                  have q3 : x + (K : Int) = (t : Int) := by rw [HX.out]; omega
                  have q2 : IntKind.i64.wrap (x + (K : Int)) = (t : Int) := by rw [q3, IntKind.wrap_i64]; omega
                  have q9 : IntKind.i64.wrap (t : Int) = (t : Int) := by rw [IntKind.wrap_i64]; omega
                  refine wp_region_noPanic ?_
                  refine wp_region_held_drew (S := (fun W => (W.cell? ⟨g2, 0, none⟩ = some (.int .i64 (N : Int)) ∧ W.cell? ⟨g2, 1, none⟩ = some (.int .i64 (K : Int)) ∧ W.cell? ⟨g2, 2, none⟩ = some (.int .i64 last)))) (by kernel_rfl) ?_ (fun hHeld => ?_)
                  · (try dsimp only); (exact HC.out _ (by repeat (with_reducible first | exact HBX1.out | refine Below.drew ?_ | refine bset ?_ (Nat.le_trans HBU.out.size HGRW.out) _ _)))
                  refine wpAnyH_takeD (i := 0) (v := ?_) (some 42) rfl rfl (by kernel_rfl) (by kernel_rfl) (by kernel_rfl) (fun _ _ _ h => h) (Or.inl ⟨by rfl, ?_⟩) (by assumption) ?_
                  rotate_left
                  · intro w hSw; (try dsimp only at hSw); go_simp; (try with_reducible rfl)
                  try simp only [Act.put, List.setIfInBounds_toArray, List.set_cons_zero, List.set_cons_succ]
                  refine wpAnyH_takeD (i := 1) (v := ?_) (some 43) rfl rfl (by kernel_rfl) (by kernel_rfl) (by kernel_rfl) (fun _ _ _ h => h) (Or.inl ⟨by rfl, ?_⟩) (by assumption) ?_
                  rotate_left
                  · intro w hSw; (try dsimp only at hSw); go_simp; (try with_reducible rfl)
                  try simp only [Act.put, List.setIfInBounds_toArray, List.set_cons_zero, List.set_cons_succ]
                  refine wpAnyH_takeD (i := 2) (v := ?_) (some 44) rfl rfl (by kernel_rfl) (by kernel_rfl) (by kernel_rfl) (fun _ _ _ h => h) (Or.inl ⟨by rfl, ?_⟩) (by assumption) ?_
                  rotate_left
                  · intro w hSw; (try dsimp only at hSw); go_simp; (try with_reducible rfl)
                  try simp only [Act.put, List.setIfInBounds_toArray, List.set_cons_zero, List.set_cons_succ]
                  refine wpAnyH_takeD (i := 3) (v := ?_) (some 45) rfl rfl (by kernel_rfl) (by kernel_rfl) (by kernel_rfl) (fun _ _ _ h => h) (Or.inl ⟨by rfl, ?_⟩) (by assumption) ?_
                  rotate_left
                  · intro w hSw; (try dsimp only at hSw); go_simp; (try with_reducible rfl)
                  try simp only [Act.put, List.setIfInBounds_toArray, List.set_cons_zero, List.set_cons_succ]
                  refine wpAnyH_takeD (i := 4) (v := .int .i64 (t : Int)) (some 46) rfl rfl (by kernel_rfl) (by kernel_rfl) (by kernel_rfl) (fun _ _ _ h => h) (Or.inl ⟨by rfl, ?_⟩) (by assumption) ?_
                  · intro w hSw; (try dsimp only at hSw); (go_simp; (try simp [q3, q9])); (try with_reducible rfl)
                  try simp only [Act.put, List.setIfInBounds_toArray, List.set_cons_zero, List.set_cons_succ]
                  refine wpAnyH_takeD (i := 5) (v := ?_) (some 47) rfl rfl (by kernel_rfl) (by kernel_rfl) (by kernel_rfl) (fun _ _ _ h => h) (Or.inl ⟨by rfl, ?_⟩) (by assumption) ?_
                  rotate_left
                  · intro w hSw; (try dsimp only at hSw); go_simp; (try with_reducible rfl)
                  try simp only [Act.put, List.setIfInBounds_toArray, List.set_cons_zero, List.set_cons_succ]
                  refine wpAnyH_takeD (i := 6) (v := ?_) (some 48) rfl rfl (by kernel_rfl) (by kernel_rfl) (by kernel_rfl) (fun _ _ _ h => h) (Or.inl ⟨by rfl, ?_⟩) (by assumption) ?_
                  rotate_left
                  · intro w hSw; (try dsimp only at hSw); go_simp; (try with_reducible rfl)
                  try simp only [Act.put, List.setIfInBounds_toArray, List.set_cons_zero, List.set_cons_succ]
                  refine wpAnyH_takeD (i := 7) (v := ?_) (some 49) rfl rfl (by kernel_rfl) (by kernel_rfl) (by kernel_rfl) (fun _ _ _ h => h) (Or.inl ⟨by rfl, ?_⟩) (by assumption) ?_
                  rotate_left
                  · intro w hSw; (try dsimp only at hSw); go_simp; (try with_reducible rfl)
                  try simp only [Act.put, List.setIfInBounds_toArray, List.set_cons_zero, List.set_cons_succ]
                  refine wpAnyH_takeD (i := 8) (v := .bool true) (some 50) rfl rfl (by kernel_rfl) (by kernel_rfl) (by kernel_rfl) (fun _ _ _ h => h) (Or.inl ⟨by rfl, ?_⟩) (by assumption) ?_
                  · intro w hSw; (try dsimp only at hSw); (go_simp; (try simp [z1])); (try with_reducible rfl)
                  try simp only [Act.put, List.setIfInBounds_toArray, List.set_cons_zero, List.set_cons_succ]
                  refine wpAnyH_takeD (i := 9) (v := ?_) (some 51) rfl rfl (by kernel_rfl) (by kernel_rfl) (by kernel_rfl) (fun _ _ _ h => h) (Or.inl ⟨by rfl, ?_⟩) (by assumption) ?_
                  rotate_left
                  · intro w hSw; (try dsimp only at hSw); go_simp; (try with_reducible rfl)
                  try simp only [Act.put, List.setIfInBounds_toArray, List.set_cons_zero, List.set_cons_succ]
                  refine wpAnyH_takeD (i := 10) (v := ?_) (some 52) rfl rfl (by kernel_rfl) (by kernel_rfl) (by kernel_rfl) (fun _ _ _ h => h) (Or.inl ⟨by rfl, ?_⟩) (by assumption) ?_
                  rotate_left
                  · intro w hSw; (try dsimp only at hSw); go_simp; (try with_reducible rfl)
                  try simp only [Act.put, List.setIfInBounds_toArray, List.set_cons_zero, List.set_cons_succ]
                  refine wpAnyH_takeD (i := 11) (v := ?_) (some 53) rfl rfl (by kernel_rfl) (by kernel_rfl) (by kernel_rfl) (fun _ _ _ h => h) (Or.inl ⟨by rfl, ?_⟩) (by assumption) ?_
                  rotate_left
                  · intro w hSw; (try dsimp only at hSw); go_simp; (try with_reducible rfl)
                  try simp only [Act.put, List.setIfInBounds_toArray, List.set_cons_zero, List.set_cons_succ]
                  refine wpAnyH_takeD (i := 12) (v := ?_) (some 54) rfl rfl (by kernel_rfl) (by kernel_rfl) (by kernel_rfl) (fun _ _ _ h => h) (Or.inl ⟨by rfl, ?_⟩) (by assumption) ?_
                  rotate_left
                  · intro w hSw; (try dsimp only at hSw); go_simp; (try with_reducible rfl)
                  try simp only [Act.put, List.setIfInBounds_toArray, List.set_cons_zero, List.set_cons_succ]
                  refine wpAnyH_ready (rs := [13]) (by kernel_rfl) (by simp) ?_
                  refine AllReadyH.cons rfl (fun K hK => ?_) AllReadyH.nil
                  (go_simp; go_at_call 72; with_reducible refine (H72.out _).mono ?_; rintro e wz ⟨rfl, rfl⟩; go_wp2_with fail)
                  refine hK.out _ _ ?_ (fun hHeld => ?_)
                  · (try dsimp only); (exact HC.out _ (by repeat (with_reducible first | exact HBX1.out | refine Below.drew ?_ | refine bset ?_ (Nat.le_trans HBU.out.size HGRW.out) _ _)))
                  clear hK K
                  try simp only [List.getElem_toArray, List.getElem_cons_succ, List.getElem_cons_zero]
                  try simp only [Act.put, List.setIfInBounds_toArray, List.set_cons_zero, List.set_cons_succ]
                  refine wpAnyH_ready (rs := [14]) (by kernel_rfl) (by simp) ?_
                  refine AllReadyH.cons rfl (fun K hK => ?_) AllReadyH.nil
                  go_simp
                  refine hK.out _ _ ?_ (fun hHeld => ?_)
                  · (try dsimp only); (exact HC.out _ (by repeat (with_reducible first | exact HBX1.out | refine Below.drew ?_ | refine bset ?_ (Nat.le_trans HBU.out.size HGRW.out) _ _)))
                  clear hK K
                  try simp only [List.getElem_toArray, List.getElem_cons_succ, List.getElem_cons_zero]
                  try simp only [Act.put, List.setIfInBounds_toArray, List.set_cons_zero, List.set_cons_succ]
                  refine wpAnyH_ready (rs := [15]) (by kernel_rfl) (by simp) ?_
                  refine AllReadyH.cons rfl (fun K hK => ?_) AllReadyH.nil
                  go_simp
                  refine hK.out _ _ ?_ (fun hHeld => ?_)
                  · (try dsimp only); (exact HC.out _ (by repeat (with_reducible first | exact HBX1.out | refine Below.drew ?_ | refine bset ?_ (Nat.le_trans HBU.out.size HGRW.out) _ _)))
                  clear hK K
                  try simp only [List.getElem_toArray, List.getElem_cons_succ, List.getElem_cons_zero]
                  try simp only [Act.put, List.setIfInBounds_toArray, List.set_cons_zero, List.set_cons_succ]
                  refine wpAnyH_ready (rs := [16]) (by kernel_rfl) (by simp) ?_
                  refine AllReadyH.cons rfl (fun K hK => ?_) AllReadyH.nil
                  go_simp
                  refine hK.out _ _ ?_ (fun hHeld => ?_)
                  · (try dsimp only); (exact HC.out _ (by repeat (with_reducible first | exact HBX1.out | refine Below.drew ?_ | refine bset ?_ (Nat.le_trans HBU.out.size HGRW.out) _ _)))
                  clear hK K
                  try simp only [List.getElem_toArray, List.getElem_cons_succ, List.getElem_cons_zero]
                  try simp only [Act.put, List.setIfInBounds_toArray, List.set_cons_zero, List.set_cons_succ]
                  refine wpAnyH_done (by kernel_rfl) ?_ _
                  refine NoPanic.normal ?_
                  all_goals
                    go_wp2_with fail
                    go_roundw
                    case rel => exact ⟨t + 1, x + 1, by omega, rfl, ⟨by omega, by omega⟩, HXN, Lib.hid (by rw [← HEQ.out _ HCV.out]; exact parV_set HRX.out _), Lib.hid (by first | exact (bset HBX.out HGRW.out _ _).drew | exact bset HBX.out HGRW.out _ _)⟩
                    case measure => simp [intOf]; omega
                · have HCV := Lib.hid (show false = canF N K last (m - j) j u x from by
                    rw [HJM.out]; unfold canF; rw [decide_eq_false (show ¬ (u : Int) = N by omega)]; rfl)
                  have z1 : ((u : Int) == (N : Int)) = false := by simp; omega
                  clear hb2
                  go_upto_region 13 with fail
                  have q0 : (0 : Int) ≤ (t : Int) := by omega
                  have q1 : (t : Int) < 2 * (K : Int) + 1 := by omega
                  have q3 : x + (K : Int) = (t : Int) := by rw [HX.out]; omega
                  have q2 : IntKind.i64.wrap (x + (K : Int)) = (t : Int) := by rw [q3, IntKind.wrap_i64]; omega
                  have q9 : IntKind.i64.wrap (t : Int) = (t : Int) := by rw [IntKind.wrap_i64]; omega
                  refine wp_region_noPanic ?_
                  refine wp_region_held_drew (S := (fun W => (W.cell? ⟨g2, 0, none⟩ = some (.int .i64 (N : Int)) ∧ W.cell? ⟨g2, 1, none⟩ = some (.int .i64 (K : Int)) ∧ W.cell? ⟨g2, 2, none⟩ = some (.int .i64 last)))) (by kernel_rfl) ?_ (fun hHeld => ?_)
                  · (try dsimp only); (exact HC.out _ (by repeat (with_reducible first | exact HBX1.out | refine Below.drew ?_ | refine bset ?_ (Nat.le_trans HBU.out.size HGRW.out) _ _)))
                  refine wpAnyH_takeD (i := 0) (v := ?_) (some 42) rfl rfl (by kernel_rfl) (by kernel_rfl) (by kernel_rfl) (fun _ _ _ h => h) (Or.inl ⟨by rfl, ?_⟩) (by assumption) ?_
                  rotate_left
                  · intro w hSw; (try dsimp only at hSw); go_simp; (try with_reducible rfl)
                  try simp only [Act.put, List.setIfInBounds_toArray, List.set_cons_zero, List.set_cons_succ]
                  refine wpAnyH_takeD (i := 1) (v := ?_) (some 43) rfl rfl (by kernel_rfl) (by kernel_rfl) (by kernel_rfl) (fun _ _ _ h => h) (Or.inl ⟨by rfl, ?_⟩) (by assumption) ?_
                  rotate_left
                  · intro w hSw; (try dsimp only at hSw); go_simp; (try with_reducible rfl)
                  try simp only [Act.put, List.setIfInBounds_toArray, List.set_cons_zero, List.set_cons_succ]
                  refine wpAnyH_takeD (i := 2) (v := ?_) (some 44) rfl rfl (by kernel_rfl) (by kernel_rfl) (by kernel_rfl) (fun _ _ _ h => h) (Or.inl ⟨by rfl, ?_⟩) (by assumption) ?_
                  rotate_left
                  · intro w hSw; (try dsimp only at hSw); go_simp; (try with_reducible rfl)
                  try simp only [Act.put, List.setIfInBounds_toArray, List.set_cons_zero, List.set_cons_succ]
                  refine wpAnyH_takeD (i := 3) (v := ?_) (some 45) rfl rfl (by kernel_rfl) (by kernel_rfl) (by kernel_rfl) (fun _ _ _ h => h) (Or.inl ⟨by rfl, ?_⟩) (by assumption) ?_
                  rotate_left
                  · intro w hSw; (try dsimp only at hSw); go_simp; (try with_reducible rfl)
                  try simp only [Act.put, List.setIfInBounds_toArray, List.set_cons_zero, List.set_cons_succ]
                  refine wpAnyH_takeD (i := 4) (v := .int .i64 (t : Int)) (some 46) rfl rfl (by kernel_rfl) (by kernel_rfl) (by kernel_rfl) (fun _ _ _ h => h) (Or.inl ⟨by rfl, ?_⟩) (by assumption) ?_
                  · intro w hSw; (try dsimp only at hSw); (go_simp; (try simp [q3, q9])); (try with_reducible rfl)
                  try simp only [Act.put, List.setIfInBounds_toArray, List.set_cons_zero, List.set_cons_succ]
                  refine wpAnyH_takeD (i := 5) (v := ?_) (some 47) rfl rfl (by kernel_rfl) (by kernel_rfl) (by kernel_rfl) (fun _ _ _ h => h) (Or.inl ⟨by rfl, ?_⟩) (by assumption) ?_
                  rotate_left
                  · intro w hSw; (try dsimp only at hSw); go_simp; (try with_reducible rfl)
                  try simp only [Act.put, List.setIfInBounds_toArray, List.set_cons_zero, List.set_cons_succ]
                  refine wpAnyH_takeD (i := 6) (v := ?_) (some 48) rfl rfl (by kernel_rfl) (by kernel_rfl) (by kernel_rfl) (fun _ _ _ h => h) (Or.inl ⟨by rfl, ?_⟩) (by assumption) ?_
                  rotate_left
                  · intro w hSw; (try dsimp only at hSw); go_simp; (try with_reducible rfl)
                  try simp only [Act.put, List.setIfInBounds_toArray, List.set_cons_zero, List.set_cons_succ]
                  refine wpAnyH_takeD (i := 7) (v := ?_) (some 49) rfl rfl (by kernel_rfl) (by kernel_rfl) (by kernel_rfl) (fun _ _ _ h => h) (Or.inl ⟨by rfl, ?_⟩) (by assumption) ?_
                  rotate_left
                  · intro w hSw; (try dsimp only at hSw); go_simp; (try with_reducible rfl)
                  try simp only [Act.put, List.setIfInBounds_toArray, List.set_cons_zero, List.set_cons_succ]
                  refine wpAnyH_takeD (i := 8) (v := .bool false) (some 50) rfl rfl (by kernel_rfl) (by kernel_rfl) (by kernel_rfl) (fun _ _ _ h => h) (Or.inl ⟨by rfl, ?_⟩) (by assumption) ?_
                  · intro w hSw; (try dsimp only at hSw); (go_simp; (try simp [z1])); (try with_reducible rfl)
                  try simp only [Act.put, List.setIfInBounds_toArray, List.set_cons_zero, List.set_cons_succ]
                  refine wpAnyH_takeD (i := 9) (v := ?_) (some 51) rfl rfl (by kernel_rfl) (by kernel_rfl) (by kernel_rfl) (fun _ _ _ h => h) (Or.inl ⟨by rfl, ?_⟩) (by assumption) ?_
                  rotate_left
                  · intro w hSw; (try dsimp only at hSw); go_simp; (try with_reducible rfl)
                  try simp only [Act.put, List.setIfInBounds_toArray, List.set_cons_zero, List.set_cons_succ]
                  refine wpAnyH_takeD (i := 10) (v := undef) (some 52) rfl rfl (by kernel_rfl) (by kernel_rfl) (by kernel_rfl) (fun _ _ _ h => h) (Or.inr ⟨by kernel_rfl, rfl⟩) (by assumption) ?_
                  try simp only [Act.put, List.setIfInBounds_toArray, List.set_cons_zero, List.set_cons_succ]
                  refine wpAnyH_takeD (i := 11) (v := undef) (some 53) rfl rfl (by kernel_rfl) (by kernel_rfl) (by kernel_rfl) (fun _ _ _ h => h) (Or.inr ⟨by kernel_rfl, rfl⟩) (by assumption) ?_
                  try simp only [Act.put, List.setIfInBounds_toArray, List.set_cons_zero, List.set_cons_succ]
                  refine wpAnyH_takeD (i := 12) (v := undef) (some 54) rfl rfl (by kernel_rfl) (by kernel_rfl) (by kernel_rfl) (fun _ _ _ h => h) (Or.inr ⟨by kernel_rfl, rfl⟩) (by assumption) ?_
                  try simp only [Act.put, List.setIfInBounds_toArray, List.set_cons_zero, List.set_cons_succ]
                  refine wpAnyH_takeD (i := 13) (v := undef) (some 55) rfl rfl (by kernel_rfl) (by kernel_rfl) (by kernel_rfl) (fun _ _ _ h => h) (Or.inr ⟨by kernel_rfl, rfl⟩) (by assumption) ?_
                  try simp only [Act.put, List.setIfInBounds_toArray, List.set_cons_zero, List.set_cons_succ]
                  refine wpAnyH_ready (rs := [14]) (by kernel_rfl) (by simp) ?_
                  refine AllReadyH.cons rfl (fun K hK => ?_) AllReadyH.nil
                  go_simp
                  refine hK.out _ _ ?_ (fun hHeld => ?_)
                  · (try dsimp only); (exact HC.out _ (by repeat (with_reducible first | exact HBX1.out | refine Below.drew ?_ | refine bset ?_ (Nat.le_trans HBU.out.size HGRW.out) _ _)))
                  clear hK K
                  try simp only [List.getElem_toArray, List.getElem_cons_succ, List.getElem_cons_zero]
                  try simp only [Act.put, List.setIfInBounds_toArray, List.set_cons_zero, List.set_cons_succ]
                  refine wpAnyH_ready (rs := [15]) (by kernel_rfl) (by simp) ?_
                  refine AllReadyH.cons rfl (fun K hK => ?_) AllReadyH.nil
                  go_simp
                  refine hK.out _ _ ?_ (fun hHeld => ?_)
                  · (try dsimp only); (exact HC.out _ (by repeat (with_reducible first | exact HBX1.out | refine Below.drew ?_ | refine bset ?_ (Nat.le_trans HBU.out.size HGRW.out) _ _)))
                  clear hK K
                  try simp only [List.getElem_toArray, List.getElem_cons_succ, List.getElem_cons_zero]
                  try simp only [Act.put, List.setIfInBounds_toArray, List.set_cons_zero, List.set_cons_succ]
                  refine wpAnyH_ready (rs := [16]) (by kernel_rfl) (by simp) ?_
                  refine AllReadyH.cons rfl (fun K hK => ?_) AllReadyH.nil
                  go_simp
                  refine hK.out _ _ ?_ (fun hHeld => ?_)
                  · (try dsimp only); (exact HC.out _ (by repeat (with_reducible first | exact HBX1.out | refine Below.drew ?_ | refine bset ?_ (Nat.le_trans HBU.out.size HGRW.out) _ _)))
                  clear hK K
                  try simp only [List.getElem_toArray, List.getElem_cons_succ, List.getElem_cons_zero]
                  try simp only [Act.put, List.setIfInBounds_toArray, List.set_cons_zero, List.set_cons_succ]
                  refine wpAnyH_done (by kernel_rfl) ?_ _
                  refine NoPanic.normal ?_
                  all_goals
                    go_wp2_with fail
                    go_roundw
                    case rel => exact ⟨t + 1, x + 1, by omega, rfl, ⟨by omega, by omega⟩, HXN, Lib.hid (by rw [← HEQ.out _ HCV.out]; exact parV_set HRX.out _), Lib.hid (by first | exact (bset HBX.out HGRW.out _ _).drew | exact bset HBX.out HGRW.out _ _)⟩
                    case measure => simp [intOf]; omega
                --@end
              · have tjm : ((j : Int) == (m : Int)) = false := by simp; omega
                --@4
                have hjm' : j < m := by omega
                have HFJ := Lib.hid (show m - j = (m - (j + 1)) + 1 from by omega)
                obtain ⟨f, hf⟩ : ∃ f, f = m - (j + 1) := ⟨_, rfl⟩
                rw [← hf] at HFJ
                obtain ⟨ga, ca, gR, hv, ⟨cs, hk1, hk2⟩, hk3⟩ := HT.out (j + 1) (Nat.le_refl _) (by omega)
                rw [← hf] at hk3
                have HTN := Lib.hid (show ∀ W, Below Wu.heap.size Wu W → W.cell? ⟨gO, j + 1, none⟩ = some (.slice (some ⟨ga, 0, none⟩) (N + 1) ca) ∧ (∀ a, a ≤ N → W.cell? ⟨ga, a, none⟩ = some (.slice (some ⟨gR a, 0, none⟩) (2 * K + 1) (2 * K + 1))) ∧ ∀ a y : Nat, a ≤ N → y < 2 * K + 1 → W.cell? ⟨gR a, y, none⟩ = some (.bool (canF N K last f (j + 1) (a : Int) ((y : Int) - K))) from fun W hW => by
                  have hkt := HKU.out.below hW
                  refine ⟨?_, fun a ha => ?_, fun a y ha hy => ?_⟩
                  · have h1 := outV_cell (HOU.out.below hW HOU.out.lt) (i := j + 1) (by omega)
                    simpa [hv] using h1
                  · rw [(hkt.2 _ _ _ (by decide) hk1).cell a]; exact hk2 a ha
                  · rw [(hkt.2 _ _ _ (by decide) (hk3 a ha)).cell y]
                    simp [rowV, hy])
                have HCF := Lib.hid (show canF N K last (m - j) j u x = canF N K last (f + 1) j u x from by rw [HFJ.out])
                have hx2 : -(K : Int) ≤ x ∧ x ≤ K := by omega
                clear hf hv hk1 hk2 hk3 c0 f0 hjm
                go_wp2_with fail
                clear r0 r1 r2
                go_loopw [10] (fun u10 wk => ∃ (k : Nat) (b : Bool), 1 ≤ k ∧ k ≤ N + 1 ∧ u10 = .int .i64 (k : Int) ∧ Hid (b = true → canF N K last (f + 1) j u x = true) ∧ Hid (b = false → ∀ i, i < k - 1 → (inL (leanS x ((i : Int) + 1) j) K && canF N K last f (j + 1) ((u : Int) + ((i : Int) + 1)) (leanS x ((i : Int) + 1) j)) = false) ∧ Hid (Blk wk gr 4 (parV N K last (m - j) j u t b)) ∧ Hid (Below Wu.heap.size Wu wk)) (fun u _ => N + 2 - (intOf u).toNat)
                case atStart => exact ⟨1, false, Nat.le_refl _, by omega, rfl, Lib.hid (fun h => by cases h), Lib.hid (fun _ i hi => by omega), HRX, HBX⟩
                case round =>
                  obtain ⟨k, b, hk1, hk, rfl, HBT, HBF, HRK, HBK⟩ := hrel
                  have HBK1 := Lib.hid (bstep HBU.out HBK.out)
                  obtain ⟨r0, r1, r2⟩ := HC.out wr HBK1.out
                  have c0 := parV_cell HRK.out htl
                  have f0 := HRK.out.frozen t
                  have p0 : IntKind.i64.wrap ((u : Int) + (k : Int)) = (u : Int) + (k : Int) := by rw [IntKind.wrap_i64]; omega
                  have HNX := Lib.hid (show b = canF N K last (m - j) j u x → Blk wr gr 4 (parV N K last (m - j) j u (t + 1) false) from fun h => by rw [← HEQ.out b h]; exact HRK.out)
                  by_cases huk : u + k ≤ N
                  · have t1 : decide ((u : Int) + (k : Int) ≤ (N : Int)) = true := by simp; omega
                    have t1n : decide (u + k ≤ N) = true := by simpa using huk
                    obtain ⟨x2, hx2e⟩ : ∃ y, y = leanS x (k : Int) j := ⟨_, rfl⟩
                    have hx2b : -1000 ≤ x2 ∧ x2 ≤ 1000 := by rw [hx2e]; unfold leanS; split <;> omega
                    have H71 := Lib.hid (show ∀ W, Calls Try.prog 71 #[.int .i64 x, .int .i64 (k : Int), .int .i64 (j : Int)] W fun e w' => e = .returned (.int .i64 x2) ∧ W = w' from fun W => by rw [hx2e]; exact lean_any x k j W (by omega) (by omega) (by omega))
                    obtain ⟨z, hz⟩ : ∃ z, z = inL x2 (K : Int) := ⟨_, rfl⟩
                    have H72 := Lib.hid (fun W => keeps_val x2 (K : Int) z hz (by omega) W)
                    have HX2 := Lib.hid hx2e
                    have HZ := Lib.hid hz
                    clear hx2e hz
                    cases z
                    · have HFIN := Lib.hid (HNX.out (by
                        rw [HCF.out]
                        cases b
                        · exact (can_stop hx2 hk1 (HBF.out rfl) (.inr (by rw [← HX2.out]; exact HZ.out.symm))).symm
                        · exact (HBT.out rfl).symm))
                      --@5
                      go_upto_region 15 with fail
                      have q0 : (0 : Int) ≤ (t : Int) := by omega
                      have q1 : (t : Int) < 2 * (K : Int) + 1 := by omega
                      have q3 : x + (K : Int) = (t : Int) := by rw [HX.out]; omega
                      have q9 : IntKind.i64.wrap (t : Int) = (t : Int) := by rw [IntKind.wrap_i64]; omega
                      have p0 : IntKind.i64.wrap ((u : Int) + (k : Int)) = (u : Int) + (k : Int) := by rw [IntKind.wrap_i64]; omega
                      have t1 : decide ((u : Int) + (k : Int) ≤ (N : Int)) = true := by simp; omega
                      have t1n : decide (u + k ≤ N) = true := by simp; omega
                      refine wp_region_noPanic ?_
                      refine wp_region_held_drew (S := (fun W => (W.cell? ⟨g2, 0, none⟩ = some (.int .i64 (N : Int)) ∧ W.cell? ⟨g2, 1, none⟩ = some (.int .i64 (K : Int)) ∧ W.cell? ⟨g2, 2, none⟩ = some (.int .i64 last)))) (by kernel_rfl) ?_ (fun hHeld => ?_)
                      · (try dsimp only); (exact HC.out _ (by repeat (with_reducible first | exact HBK1.out | refine Below.drew ?_)))
                      refine wpAnyH_takeD (i := 0) (v := ?_) (some 58) rfl rfl (by kernel_rfl) (by kernel_rfl) (by kernel_rfl) (fun _ _ _ h => h) (Or.inl ⟨by rfl, ?_⟩) (by assumption) ?_
                      rotate_left
                      · intro w hSw; (try dsimp only at hSw); go_simp; (try with_reducible rfl)
                      try simp only [Act.put, List.setIfInBounds_toArray, List.set_cons_zero, List.set_cons_succ]
                      refine wpAnyH_takeD (i := 1) (v := ?_) (some 59) rfl rfl (by kernel_rfl) (by kernel_rfl) (by kernel_rfl) (fun _ _ _ h => h) (Or.inl ⟨by rfl, ?_⟩) (by assumption) ?_
                      rotate_left
                      · intro w hSw; (try dsimp only at hSw); go_simp; (try with_reducible rfl)
                      try simp only [Act.put, List.setIfInBounds_toArray, List.set_cons_zero, List.set_cons_succ]
                      refine wpAnyH_takeD (i := 2) (v := ?_) (some 60) rfl rfl (by kernel_rfl) (by kernel_rfl) (by kernel_rfl) (fun _ _ _ h => h) (Or.inl ⟨by rfl, ?_⟩) (by assumption) ?_
                      rotate_left
                      · intro w hSw; (try dsimp only at hSw); go_simp; (try with_reducible rfl)
                      try simp only [Act.put, List.setIfInBounds_toArray, List.set_cons_zero, List.set_cons_succ]
                      refine wpAnyH_takeD (i := 3) (v := ?_) (some 61) rfl rfl (by kernel_rfl) (by kernel_rfl) (by kernel_rfl) (fun _ _ _ h => h) (Or.inl ⟨by rfl, ?_⟩) (by assumption) ?_
                      rotate_left
                      · intro w hSw; (try dsimp only at hSw); go_simp; (try with_reducible rfl)
                      try simp only [Act.put, List.setIfInBounds_toArray, List.set_cons_zero, List.set_cons_succ]
                      refine wpAnyH_takeD (i := 4) (v := ?_) (some 62) rfl rfl (by kernel_rfl) (by kernel_rfl) (by kernel_rfl) (fun _ _ _ h => h) (Or.inl ⟨by rfl, ?_⟩) (by assumption) ?_
                      rotate_left
                      · intro w hSw; (try dsimp only at hSw); go_simp; (try with_reducible rfl)
                      try simp only [Act.put, List.setIfInBounds_toArray, List.set_cons_zero, List.set_cons_succ]
                      refine wpAnyH_takeD (i := 5) (v := .bool true) (some 63) rfl rfl (by kernel_rfl) (by kernel_rfl) (by kernel_rfl) (fun _ _ _ h => h) (Or.inl ⟨by rfl, ?_⟩) (by assumption) ?_
                      · intro w hSw; (try dsimp only at hSw); (go_simp; (try simp [t1, t1n])); (try with_reducible rfl)
                      try simp only [Act.put, List.setIfInBounds_toArray, List.set_cons_zero, List.set_cons_succ]
                      refine wpAnyH_takeD (i := 6) (v := ?_) (some 64) rfl rfl (by kernel_rfl) (by kernel_rfl) (by kernel_rfl) (fun _ _ _ h => h) (Or.inl ⟨by rfl, ?_⟩) (by assumption) ?_
                      rotate_left
                      · intro w hSw; (try dsimp only at hSw); go_simp; (try with_reducible rfl)
                      try simp only [Act.put, List.setIfInBounds_toArray, List.set_cons_zero, List.set_cons_succ]
                      refine wpAnyH_takeD (i := 7) (v := ?_) (some 65) rfl rfl (by kernel_rfl) (by kernel_rfl) (by kernel_rfl) (fun _ _ _ h => h) (Or.inl ⟨by rfl, ?_⟩) (by assumption) ?_
                      rotate_left
                      · intro w hSw; (try dsimp only at hSw); go_simp; (try with_reducible rfl)
                      try simp only [Act.put, List.setIfInBounds_toArray, List.set_cons_zero, List.set_cons_succ]
                      refine wpAnyH_takeD (i := 8) (v := ?_) (some 66) rfl rfl (by kernel_rfl) (by kernel_rfl) (by kernel_rfl) (fun _ _ _ h => h) (Or.inl ⟨by rfl, ?_⟩) (by assumption) ?_
                      rotate_left
                      · intro w hSw; (try dsimp only at hSw); go_simp; (try with_reducible rfl)
                      try simp only [Act.put, List.setIfInBounds_toArray, List.set_cons_zero, List.set_cons_succ]
                      refine wpAnyH_takeD (i := 9) (v := ?_) (some 67) rfl rfl (by kernel_rfl) (by kernel_rfl) (by kernel_rfl) (fun _ _ _ h => h) (Or.inl ⟨by rfl, ?_⟩) (by assumption) ?_
                      rotate_left
                      · intro w hSw; (try dsimp only at hSw); go_simp; (try with_reducible rfl)
                      try simp only [Act.put, List.setIfInBounds_toArray, List.set_cons_zero, List.set_cons_succ]
                      refine wpAnyH_takeD (i := 11) (v := ?_) (some 69) rfl rfl (by kernel_rfl) (by kernel_rfl) (by kernel_rfl) (fun _ _ _ h => h) (Or.inl ⟨by rfl, ?_⟩) (by assumption) ?_
                      rotate_left
                      · intro w hSw; (try dsimp only at hSw); go_simp; (try with_reducible rfl)
                      try simp only [Act.put, List.setIfInBounds_toArray, List.set_cons_zero, List.set_cons_succ]
                      refine wpAnyH_takeD (i := 12) (v := ?_) (some 70) rfl rfl (by kernel_rfl) (by kernel_rfl) (by kernel_rfl) (fun _ _ _ h => h) (Or.inl ⟨by rfl, ?_⟩) (by assumption) ?_
                      rotate_left
                      · intro w hSw; (try dsimp only at hSw); go_simp; (try with_reducible rfl)
                      try simp only [Act.put, List.setIfInBounds_toArray, List.set_cons_zero, List.set_cons_succ]
                      refine wpAnyH_ready (rs := [10]) (by kernel_rfl) (by simp) ?_
                      refine AllReadyH.cons rfl (fun K hK => ?_) AllReadyH.nil
                      (go_simp; go_at_call 71; with_reducible refine (H71.out _).mono ?_; rintro e wz ⟨rfl, rfl⟩; go_wp2_with fail)
                      refine hK.out _ _ ?_ (fun hHeld => ?_)
                      · (try dsimp only); (exact HC.out _ (by repeat (with_reducible first | exact HBK1.out | refine Below.drew ?_)))
                      clear hK K
                      try simp only [List.getElem_toArray, List.getElem_cons_succ, List.getElem_cons_zero]
                      try simp only [Act.put, List.setIfInBounds_toArray, List.set_cons_zero, List.set_cons_succ]
                      refine wpAnyH_ready (rs := [13]) (by kernel_rfl) (by simp) ?_
                      refine AllReadyH.cons rfl (fun K hK => ?_) AllReadyH.nil
                      (go_simp; go_at_call 72; with_reducible refine (H72.out _).mono ?_; rintro e wz ⟨rfl, rfl⟩; go_wp2_with fail)
                      refine hK.out _ _ ?_ (fun hHeld => ?_)
                      · (try dsimp only); (exact HC.out _ (by repeat (with_reducible first | exact HBK1.out | refine Below.drew ?_)))
                      clear hK K
                      try simp only [List.getElem_toArray, List.getElem_cons_succ, List.getElem_cons_zero]
                      try simp only [Act.put, List.setIfInBounds_toArray, List.set_cons_zero, List.set_cons_succ]
                      refine wpAnyH_takeD (i := 14) (v := .bool false) (some 72) rfl rfl (by kernel_rfl) (by kernel_rfl) (by kernel_rfl) (fun _ _ _ h => h) (Or.inl ⟨by rfl, ?_⟩) (by assumption) ?_
                      · intro w hSw; (try dsimp only at hSw); go_simp; (try with_reducible rfl)
                      try simp only [Act.put, List.setIfInBounds_toArray, List.set_cons_zero, List.set_cons_succ]
                      refine wpAnyH_takeD (i := 15) (v := ?_) (some 73) rfl rfl (by kernel_rfl) (by kernel_rfl) (by kernel_rfl) (fun _ _ _ h => h) (Or.inl ⟨by rfl, ?_⟩) (by assumption) ?_
                      rotate_left
                      · intro w hSw; (try dsimp only at hSw); go_simp; (try with_reducible rfl)
                      try simp only [Act.put, List.setIfInBounds_toArray, List.set_cons_zero, List.set_cons_succ]
                      refine wpAnyH_takeD (i := 16) (v := undef) (some 74) rfl rfl (by kernel_rfl) (by kernel_rfl) (by kernel_rfl) (fun _ _ _ h => h) (Or.inr ⟨by kernel_rfl, rfl⟩) (by assumption) ?_
                      try simp only [Act.put, List.setIfInBounds_toArray, List.set_cons_zero, List.set_cons_succ]
                      refine wpAnyH_takeD (i := 17) (v := undef) (some 75) rfl rfl (by kernel_rfl) (by kernel_rfl) (by kernel_rfl) (fun _ _ _ h => h) (Or.inr ⟨by kernel_rfl, rfl⟩) (by assumption) ?_
                      try simp only [Act.put, List.setIfInBounds_toArray, List.set_cons_zero, List.set_cons_succ]
                      refine wpAnyH_takeD (i := 18) (v := undef) (some 76) rfl rfl (by kernel_rfl) (by kernel_rfl) (by kernel_rfl) (fun _ _ _ h => h) (Or.inr ⟨by kernel_rfl, rfl⟩) (by assumption) ?_
                      try simp only [Act.put, List.setIfInBounds_toArray, List.set_cons_zero, List.set_cons_succ]
                      refine wpAnyH_takeD (i := 19) (v := undef) (some 77) rfl rfl (by kernel_rfl) (by kernel_rfl) (by kernel_rfl) (fun _ _ _ h => h) (Or.inr ⟨by kernel_rfl, rfl⟩) (by assumption) ?_
                      try simp only [Act.put, List.setIfInBounds_toArray, List.set_cons_zero, List.set_cons_succ]
                      refine wpAnyH_takeD (i := 20) (v := undef) (some 78) rfl rfl (by kernel_rfl) (by kernel_rfl) (by kernel_rfl) (fun _ _ _ h => h) (Or.inr ⟨by kernel_rfl, rfl⟩) (by assumption) ?_
                      try simp only [Act.put, List.setIfInBounds_toArray, List.set_cons_zero, List.set_cons_succ]
                      refine wpAnyH_takeD (i := 21) (v := undef) (some 79) rfl rfl (by kernel_rfl) (by kernel_rfl) (by kernel_rfl) (fun _ _ _ h => h) (Or.inr ⟨by kernel_rfl, rfl⟩) (by assumption) ?_
                      try simp only [Act.put, List.setIfInBounds_toArray, List.set_cons_zero, List.set_cons_succ]
                      refine wpAnyH_takeD (i := 22) (v := undef) (some 80) rfl rfl (by kernel_rfl) (by kernel_rfl) (by kernel_rfl) (fun _ _ _ h => h) (Or.inr ⟨by kernel_rfl, rfl⟩) (by assumption) ?_
                      try simp only [Act.put, List.setIfInBounds_toArray, List.set_cons_zero, List.set_cons_succ]
                      refine wpAnyH_takeD (i := 23) (v := undef) (some 81) rfl rfl (by kernel_rfl) (by kernel_rfl) (by kernel_rfl) (fun _ _ _ h => h) (Or.inr ⟨by kernel_rfl, rfl⟩) (by assumption) ?_
                      try simp only [Act.put, List.setIfInBounds_toArray, List.set_cons_zero, List.set_cons_succ]
                      refine wpAnyH_takeD (i := 24) (v := ?_) (some 82) rfl rfl (by kernel_rfl) (by kernel_rfl) (by kernel_rfl) (fun _ _ _ h => h) (Or.inl ⟨by rfl, ?_⟩) (by assumption) ?_
                      rotate_left
                      · intro w hSw; (try dsimp only at hSw); go_simp; (try with_reducible rfl)
                      try simp only [Act.put, List.setIfInBounds_toArray, List.set_cons_zero, List.set_cons_succ]
                      refine wpAnyH_done (by kernel_rfl) ?_ _
                      refine NoPanic.normal ?_
                      all_goals
                        go_wp2_with fail
                        go_roundw
                        case rel => exact ⟨t + 1, x + 1, by omega, rfl, ⟨by omega, by omega⟩, HXN, HFIN, Lib.hid (HBK.out.drew)⟩
                        case measure => simp [intOf]; omega
                      --@end
                    · cases b
                      · obtain ⟨y, hy⟩ : ∃ y : Nat, (y : Int) = x2 + K := ⟨(x2 + K).toNat, by have := inL_iff.1 HZ.out.symm; omega⟩
                        have hyb : y < 2 * K + 1 := by have := inL_iff.1 HZ.out.symm; omega
                        obtain ⟨n1, n2, n3⟩ := HTN.out wr HBK.out
                        have n2 := n2 (u + k) huk
                        have n3 := n3 (u + k) y huk hyb
                        rw [show (((u + k : Nat)) : Int) = (u : Int) + k by omega, show (y : Int) - K = x2 by omega] at n3
                        obtain ⟨bb, hbb⟩ : ∃ bb, bb = canF N K last f (j + 1) ((u : Int) + (k : Int)) x2 := ⟨_, rfl⟩
                        rw [← hbb] at n3
                        have HBT2 := Lib.hid (show bb = true → canF N K last (f + 1) j u x = true from fun h => can_hit (k := k) hk1 (by omega) (by rw [← HX2.out]; exact HZ.out.symm) (by rw [← HX2.out, ← hbb]; exact h))
                        have HBF2 := Lib.hid (show bb = false → ∀ i, i < k + 1 - 1 → (inL (leanS x ((i : Int) + 1) j) K && canF N K last f (j + 1) ((u : Int) + ((i : Int) + 1)) (leanS x ((i : Int) + 1) j)) = false from fun h i hi => by
                          by_cases e : i = k - 1
                          · rw [show (i : Int) + 1 = k by omega, ← HX2.out, ← hbb, h, Bool.and_false]
                          · exact HBF.out rfl i (by omega))
                        have HS7 := Lib.hid (show ∀ W, Below Wu.heap.size Wu W → (W.cell? ⟨g2, 0, none⟩ = some (.int .i64 (N : Int)) ∧ W.cell? ⟨g2, 1, none⟩ = some (.int .i64 (K : Int)) ∧ W.cell? ⟨g2, 2, none⟩ = some (.int .i64 last)) ∧ W.cell? ⟨gO, j + 1, none⟩ = some (.slice (some ⟨ga, 0, none⟩) (N + 1) ca) ∧ W.cell? ⟨ga, u + k, none⟩ = some (.slice (some ⟨gR (u + k), 0, none⟩) (2 * K + 1) (2 * K + 1)) ∧ W.cell? ⟨gR (u + k), y, none⟩ = some (.bool bb) from fun W hW => by
                          obtain ⟨m1, m2, m3⟩ := HTN.out W hW
                          have m3 := m3 (u + k) y huk hyb
                          rw [show (((u + k : Nat)) : Int) = (u : Int) + k by omega, show (y : Int) - K = x2 by omega, ← hbb] at m3
                          exact ⟨HC.out W (bstep HBU.out hW), m1, m2 (u + k) huk, m3⟩)
                        have HYE := Lib.hid hy
                        clear hbb hy
                        --@6
                        go_upto_region 15 with fail
                        have q0 : (0 : Int) ≤ (t : Int) := by omega
                        have q1 : (t : Int) < 2 * (K : Int) + 1 := by omega
                        have q3 : x + (K : Int) = (t : Int) := by rw [HX.out]; omega
                        have q9 : IntKind.i64.wrap (t : Int) = (t : Int) := by rw [IntKind.wrap_i64]; omega
                        have p0 : IntKind.i64.wrap ((u : Int) + (k : Int)) = (u : Int) + (k : Int) := by rw [IntKind.wrap_i64]; omega
                        have t1 : decide ((u : Int) + (k : Int) ≤ (N : Int)) = true := by simp; omega
                        have t1n : decide (u + k ≤ N) = true := by simp; omega
                        refine wp_region_noPanic ?_
                        refine wp_region_held_drew (S := (fun W => (W.cell? ⟨g2, 0, none⟩ = some (.int .i64 (N : Int)) ∧ W.cell? ⟨g2, 1, none⟩ = some (.int .i64 (K : Int)) ∧ W.cell? ⟨g2, 2, none⟩ = some (.int .i64 last)) ∧ W.cell? ⟨gr, t, none⟩ = some (.bool false))) (by kernel_rfl) ?_ (fun hHeld => ?_)
                        · (try dsimp only); (refine ⟨HC.out _ (by repeat (with_reducible first | exact HBK1.out | refine Below.drew ?_)), c0⟩)
                        refine wpAnyH_takeD (i := 0) (v := ?_) (some 58) rfl rfl (by kernel_rfl) (by kernel_rfl) (by kernel_rfl) (fun _ _ _ h => h) (Or.inl ⟨by rfl, ?_⟩) (by assumption) ?_
                        rotate_left
                        · intro w hSw; (try dsimp only at hSw); go_simp; (try with_reducible rfl)
                        try simp only [Act.put, List.setIfInBounds_toArray, List.set_cons_zero, List.set_cons_succ]
                        refine wpAnyH_takeD (i := 1) (v := ?_) (some 59) rfl rfl (by kernel_rfl) (by kernel_rfl) (by kernel_rfl) (fun _ _ _ h => h) (Or.inl ⟨by rfl, ?_⟩) (by assumption) ?_
                        rotate_left
                        · intro w hSw; (try dsimp only at hSw); go_simp; (try with_reducible rfl)
                        try simp only [Act.put, List.setIfInBounds_toArray, List.set_cons_zero, List.set_cons_succ]
                        refine wpAnyH_takeD (i := 2) (v := ?_) (some 60) rfl rfl (by kernel_rfl) (by kernel_rfl) (by kernel_rfl) (fun _ _ _ h => h) (Or.inl ⟨by rfl, ?_⟩) (by assumption) ?_
                        rotate_left
                        · intro w hSw; (try dsimp only at hSw); go_simp; (try with_reducible rfl)
                        try simp only [Act.put, List.setIfInBounds_toArray, List.set_cons_zero, List.set_cons_succ]
                        refine wpAnyH_takeD (i := 3) (v := ?_) (some 61) rfl rfl (by kernel_rfl) (by kernel_rfl) (by kernel_rfl) (fun _ _ _ h => h) (Or.inl ⟨by rfl, ?_⟩) (by assumption) ?_
                        rotate_left
                        · intro w hSw; (try dsimp only at hSw); go_simp; (try with_reducible rfl)
                        try simp only [Act.put, List.setIfInBounds_toArray, List.set_cons_zero, List.set_cons_succ]
                        refine wpAnyH_takeD (i := 4) (v := ?_) (some 62) rfl rfl (by kernel_rfl) (by kernel_rfl) (by kernel_rfl) (fun _ _ _ h => h) (Or.inl ⟨by rfl, ?_⟩) (by assumption) ?_
                        rotate_left
                        · intro w hSw; (try dsimp only at hSw); go_simp; (try with_reducible rfl)
                        try simp only [Act.put, List.setIfInBounds_toArray, List.set_cons_zero, List.set_cons_succ]
                        refine wpAnyH_takeD (i := 5) (v := .bool true) (some 63) rfl rfl (by kernel_rfl) (by kernel_rfl) (by kernel_rfl) (fun _ _ _ h => h) (Or.inl ⟨by rfl, ?_⟩) (by assumption) ?_
                        · intro w hSw; (try dsimp only at hSw); (go_simp; (try simp [t1, t1n])); (try with_reducible rfl)
                        try simp only [Act.put, List.setIfInBounds_toArray, List.set_cons_zero, List.set_cons_succ]
                        refine wpAnyH_takeD (i := 6) (v := ?_) (some 64) rfl rfl (by kernel_rfl) (by kernel_rfl) (by kernel_rfl) (fun _ _ _ h => h) (Or.inl ⟨by rfl, ?_⟩) (by assumption) ?_
                        rotate_left
                        · intro w hSw; (try dsimp only at hSw); go_simp; (try with_reducible rfl)
                        try simp only [Act.put, List.setIfInBounds_toArray, List.set_cons_zero, List.set_cons_succ]
                        refine wpAnyH_takeD (i := 7) (v := ?_) (some 65) rfl rfl (by kernel_rfl) (by kernel_rfl) (by kernel_rfl) (fun _ _ _ h => h) (Or.inl ⟨by rfl, ?_⟩) (by assumption) ?_
                        rotate_left
                        · intro w hSw; (try dsimp only at hSw); go_simp; (try with_reducible rfl)
                        try simp only [Act.put, List.setIfInBounds_toArray, List.set_cons_zero, List.set_cons_succ]
                        refine wpAnyH_takeD (i := 8) (v := ?_) (some 66) rfl rfl (by kernel_rfl) (by kernel_rfl) (by kernel_rfl) (fun _ _ _ h => h) (Or.inl ⟨by rfl, ?_⟩) (by assumption) ?_
                        rotate_left
                        · intro w hSw; (try dsimp only at hSw); go_simp; (try with_reducible rfl)
                        try simp only [Act.put, List.setIfInBounds_toArray, List.set_cons_zero, List.set_cons_succ]
                        refine wpAnyH_takeD (i := 9) (v := ?_) (some 67) rfl rfl (by kernel_rfl) (by kernel_rfl) (by kernel_rfl) (fun _ _ _ h => h) (Or.inl ⟨by rfl, ?_⟩) (by assumption) ?_
                        rotate_left
                        · intro w hSw; (try dsimp only at hSw); go_simp; (try with_reducible rfl)
                        try simp only [Act.put, List.setIfInBounds_toArray, List.set_cons_zero, List.set_cons_succ]
                        refine wpAnyH_takeD (i := 11) (v := ?_) (some 69) rfl rfl (by kernel_rfl) (by kernel_rfl) (by kernel_rfl) (fun _ _ _ h => h) (Or.inl ⟨by rfl, ?_⟩) (by assumption) ?_
                        rotate_left
                        · intro w hSw; (try dsimp only at hSw); go_simp; (try with_reducible rfl)
                        try simp only [Act.put, List.setIfInBounds_toArray, List.set_cons_zero, List.set_cons_succ]
                        refine wpAnyH_takeD (i := 12) (v := ?_) (some 70) rfl rfl (by kernel_rfl) (by kernel_rfl) (by kernel_rfl) (fun _ _ _ h => h) (Or.inl ⟨by rfl, ?_⟩) (by assumption) ?_
                        rotate_left
                        · intro w hSw; (try dsimp only at hSw); go_simp; (try with_reducible rfl)
                        try simp only [Act.put, List.setIfInBounds_toArray, List.set_cons_zero, List.set_cons_succ]
                        refine wpAnyH_ready (rs := [10]) (by kernel_rfl) (by simp) ?_
                        refine AllReadyH.cons rfl (fun K hK => ?_) AllReadyH.nil
                        (go_simp; go_at_call 71; with_reducible refine (H71.out _).mono ?_; rintro e wz ⟨rfl, rfl⟩; go_wp2_with fail)
                        refine hK.out _ _ ?_ (fun hHeld => ?_)
                        · (try dsimp only); (refine ⟨HC.out _ (by repeat (with_reducible first | exact HBK1.out | refine Below.drew ?_)), c0⟩)
                        clear hK K
                        try simp only [List.getElem_toArray, List.getElem_cons_succ, List.getElem_cons_zero]
                        try simp only [Act.put, List.setIfInBounds_toArray, List.set_cons_zero, List.set_cons_succ]
                        refine wpAnyH_ready (rs := [13]) (by kernel_rfl) (by simp) ?_
                        refine AllReadyH.cons rfl (fun K hK => ?_) AllReadyH.nil
                        (go_simp; go_at_call 72; with_reducible refine (H72.out _).mono ?_; rintro e wz ⟨rfl, rfl⟩; go_wp2_with fail)
                        refine hK.out _ _ ?_ (fun hHeld => ?_)
                        · (try dsimp only); (refine ⟨HC.out _ (by repeat (with_reducible first | exact HBK1.out | refine Below.drew ?_)), c0⟩)
                        clear hK K
                        try simp only [List.getElem_toArray, List.getElem_cons_succ, List.getElem_cons_zero]
                        try simp only [Act.put, List.setIfInBounds_toArray, List.set_cons_zero, List.set_cons_succ]
                        refine wpAnyH_takeD (i := 14) (v := .bool true) (some 72) rfl rfl (by kernel_rfl) (by kernel_rfl) (by kernel_rfl) (fun _ _ _ h => h) (Or.inl ⟨by rfl, ?_⟩) (by assumption) ?_
                        · intro w hSw; (try dsimp only at hSw); go_simp; (try with_reducible rfl)
                        try simp only [Act.put, List.setIfInBounds_toArray, List.set_cons_zero, List.set_cons_succ]
                        refine wpAnyH_takeD (i := 15) (v := ?_) (some 73) rfl rfl (by kernel_rfl) (by kernel_rfl) (by kernel_rfl) (fun _ _ _ h => h) (Or.inl ⟨by rfl, ?_⟩) (by assumption) ?_
                        rotate_left
                        · intro w hSw; (try dsimp only at hSw); go_simp; (try with_reducible rfl)
                        try simp only [Act.put, List.setIfInBounds_toArray, List.set_cons_zero, List.set_cons_succ]
                        refine wpAnyH_takeD (i := 16) (v := ?_) (some 74) rfl rfl (by kernel_rfl) (by kernel_rfl) (by kernel_rfl) (fun _ _ _ h => h) (Or.inl ⟨by rfl, ?_⟩) (by assumption) ?_
                        rotate_left
                        · intro w hSw; (try dsimp only at hSw); go_simp; (try with_reducible rfl)
                        try simp only [Act.put, List.setIfInBounds_toArray, List.set_cons_zero, List.set_cons_succ]
                        refine wpAnyH_takeD (i := 17) (v := ?_) (some 75) rfl rfl (by kernel_rfl) (by kernel_rfl) (by kernel_rfl) (fun _ _ _ h => h) (Or.inl ⟨by rfl, ?_⟩) (by assumption) ?_
                        rotate_left
                        · intro w hSw; (try dsimp only at hSw); go_simp; (try with_reducible rfl)
                        try simp only [Act.put, List.setIfInBounds_toArray, List.set_cons_zero, List.set_cons_succ]
                        refine wpAnyH_takeD (i := 18) (v := ?_) (some 76) rfl rfl (by kernel_rfl) (by kernel_rfl) (by kernel_rfl) (fun _ _ _ h => h) (Or.inl ⟨by rfl, ?_⟩) (by assumption) ?_
                        rotate_left
                        · intro w hSw; (try dsimp only at hSw); go_simp; (try with_reducible rfl)
                        try simp only [Act.put, List.setIfInBounds_toArray, List.set_cons_zero, List.set_cons_succ]
                        refine wpAnyH_takeD (i := 19) (v := ?_) (some 77) rfl rfl (by kernel_rfl) (by kernel_rfl) (by kernel_rfl) (fun _ _ _ h => h) (Or.inl ⟨by rfl, ?_⟩) (by assumption) ?_
                        rotate_left
                        · intro w hSw; (try dsimp only at hSw); go_simp; (try with_reducible rfl)
                        try simp only [Act.put, List.setIfInBounds_toArray, List.set_cons_zero, List.set_cons_succ]
                        refine wpAnyH_takeD (i := 20) (v := .int .i64 (t : Int)) (some 78) rfl rfl (by kernel_rfl) (by kernel_rfl) (by kernel_rfl) (fun _ _ _ h => h) (Or.inl ⟨by rfl, ?_⟩) (by assumption) ?_
                        · intro w hSw; (try dsimp only at hSw); (go_simp; (try simp [q3, q9])); (try with_reducible rfl)
                        try simp only [Act.put, List.setIfInBounds_toArray, List.set_cons_zero, List.set_cons_succ]
                        refine wpAnyH_takeD (i := 21) (v := ?_) (some 79) rfl rfl (by kernel_rfl) (by kernel_rfl) (by kernel_rfl) (fun _ _ _ h => h) (Or.inl ⟨by rfl, ?_⟩) (by assumption) ?_
                        rotate_left
                        · intro w hSw; (try dsimp only at hSw); go_simp; (try with_reducible rfl)
                        try simp only [Act.put, List.setIfInBounds_toArray, List.set_cons_zero, List.set_cons_succ]
                        refine wpAnyH_takeD (i := 22) (v := ?_) (some 80) rfl rfl (by kernel_rfl) (by kernel_rfl) (by kernel_rfl) (fun _ _ _ h => h) (Or.inl ⟨by rfl, ?_⟩) (by assumption) ?_
                        rotate_left
                        · intro w hSw; (try dsimp only at hSw); go_simp; (try with_reducible rfl)
                        try simp only [Act.put, List.setIfInBounds_toArray, List.set_cons_zero, List.set_cons_succ]
                        refine wpAnyH_takeD (i := 23) (v := ?_) (some 81) rfl rfl (by kernel_rfl) (by kernel_rfl) (by kernel_rfl) (fun _ _ _ h => h) (Or.inl ⟨by rfl, ?_⟩) (by assumption) ?_
                        rotate_left
                        · intro w hSw; (try dsimp only at hSw); go_simp; (try with_reducible rfl)
                        try simp only [Act.put, List.setIfInBounds_toArray, List.set_cons_zero, List.set_cons_succ]
                        refine wpAnyH_takeD (i := 24) (v := ?_) (some 82) rfl rfl (by kernel_rfl) (by kernel_rfl) (by kernel_rfl) (fun _ _ _ h => h) (Or.inl ⟨by rfl, ?_⟩) (by assumption) ?_
                        rotate_left
                        · intro w hSw; (try dsimp only at hSw); go_simp; (try with_reducible rfl)
                        try simp only [Act.put, List.setIfInBounds_toArray, List.set_cons_zero, List.set_cons_succ]
                        refine wpAnyH_done (by kernel_rfl) ?_ _
                        refine NoPanic.normal ?_
                        all_goals
                          go_upto_region 17 with fail
                          have v1 : (0 : Int) ≤ (u : Int) + (k : Int) := by omega
                          have v2 : (u : Int) + (k : Int) < (N : Int) + 1 := by omega
                          have v3 : ((u : Int) + (k : Int)).toNat = u + k := by omega
                          have v4 : (0 : Int) ≤ (j : Int) + 1 := by omega
                          have v5 : (j : Int) + 1 < (m : Int) + 1 := by omega
                          have v6 : ((j : Int) + 1).toNat = j + 1 := by omega
                          have v7 : IntKind.i64.wrap ((j : Int) + 1) = (j : Int) + 1 := by rw [IntKind.wrap_i64]; omega
                          have v8 : IntKind.i64.wrap (x2 + (K : Int)) = (y : Int) := by rw [← HYE.out, IntKind.wrap_i64]; omega
                          have v9 : x2 + (K : Int) = (y : Int) := HYE.out.symm
                          have v10 : (y : Int) < 2 * (K : Int) + 1 := by omega
                          have v11 : (0 : Int) ≤ (y : Int) := by omega
                          have v12 : x + (K : Int) = (t : Int) := q3
                          have q0 : (0 : Int) ≤ (t : Int) := by omega
                          have q1 : (t : Int) < 2 * (K : Int) + 1 := by omega
                          have q3 : x + (K : Int) = (t : Int) := by rw [HX.out]; omega
                          have q9 : IntKind.i64.wrap (t : Int) = (t : Int) := by rw [IntKind.wrap_i64]; omega
                          have v13 : IntKind.i64.wrap (y : Int) = (y : Int) := by rw [IntKind.wrap_i64]; omega
                          have p0 : IntKind.i64.wrap ((u : Int) + (k : Int)) = (u : Int) + (k : Int) := by rw [IntKind.wrap_i64]; omega
                          refine wp_region_noPanic ?_
                          refine wp_region_held_drew (S := (fun W => (W.cell? ⟨g2, 0, none⟩ = some (.int .i64 (N : Int)) ∧ W.cell? ⟨g2, 1, none⟩ = some (.int .i64 (K : Int)) ∧ W.cell? ⟨g2, 2, none⟩ = some (.int .i64 last)) ∧ W.cell? ⟨gO, j + 1, none⟩ = some (.slice (some ⟨ga, 0, none⟩) (N + 1) ca) ∧ W.cell? ⟨ga, u + k, none⟩ = some (.slice (some ⟨gR (u + k), 0, none⟩) (2 * K + 1) (2 * K + 1)) ∧ W.cell? ⟨gR (u + k), y, none⟩ = some (.bool bb))) (by kernel_rfl) ?_ (fun hHeld => ?_)
                          · (try dsimp only); (exact HS7.out _ (by repeat (with_reducible first | exact HBK.out | refine Below.drew ?_ | refine bset ?_ HGRW.out _ _)))
                          refine wpAnyH_takeD (i := 0) (v := ?_) (some 85) rfl rfl (by kernel_rfl) (by kernel_rfl) (by kernel_rfl) (fun _ _ _ h => h) (Or.inl ⟨by rfl, ?_⟩) (by assumption) ?_
                          rotate_left
                          · intro w hSw; (try dsimp only at hSw); go_simp; (try with_reducible rfl)
                          try simp only [Act.put, List.setIfInBounds_toArray, List.set_cons_zero, List.set_cons_succ]
                          refine wpAnyH_takeD (i := 1) (v := ?_) (some 86) rfl rfl (by kernel_rfl) (by kernel_rfl) (by kernel_rfl) (fun _ _ _ h => h) (Or.inl ⟨by rfl, ?_⟩) (by assumption) ?_
                          rotate_left
                          · intro w hSw; (try dsimp only at hSw); go_simp; (try with_reducible rfl)
                          try simp only [Act.put, List.setIfInBounds_toArray, List.set_cons_zero, List.set_cons_succ]
                          refine wpAnyH_takeD (i := 2) (v := ?_) (some 87) rfl rfl (by kernel_rfl) (by kernel_rfl) (by kernel_rfl) (fun _ _ _ h => h) (Or.inl ⟨by rfl, ?_⟩) (by assumption) ?_
                          rotate_left
                          · intro w hSw; (try dsimp only at hSw); go_simp; (try with_reducible rfl)
                          try simp only [Act.put, List.setIfInBounds_toArray, List.set_cons_zero, List.set_cons_succ]
                          refine wpAnyH_takeD (i := 3) (v := ?_) (some 88) rfl rfl (by kernel_rfl) (by kernel_rfl) (by kernel_rfl) (fun _ _ _ h => h) (Or.inl ⟨by rfl, ?_⟩) (by assumption) ?_
                          rotate_left
                          · intro w hSw; (try dsimp only at hSw); go_simp; (try with_reducible rfl)
                          try simp only [Act.put, List.setIfInBounds_toArray, List.set_cons_zero, List.set_cons_succ]
                          refine wpAnyH_takeD (i := 4) (v := .int .i64 (t : Int)) (some 89) rfl rfl (by kernel_rfl) (by kernel_rfl) (by kernel_rfl) (fun _ _ _ h => h) (Or.inl ⟨by rfl, ?_⟩) (by assumption) ?_
                          · intro w hSw; (try dsimp only at hSw); (go_simp; (try simp [q3, q9])); (try with_reducible rfl)
                          try simp only [Act.put, List.setIfInBounds_toArray, List.set_cons_zero, List.set_cons_succ]
                          refine wpAnyH_takeD (i := 5) (v := ?_) (some 90) rfl rfl (by kernel_rfl) (by kernel_rfl) (by kernel_rfl) (fun _ _ _ h => h) (Or.inl ⟨by rfl, ?_⟩) (by assumption) ?_
                          rotate_left
                          · intro w hSw; (try dsimp only at hSw); go_simp; (try with_reducible rfl)
                          try simp only [Act.put, List.setIfInBounds_toArray, List.set_cons_zero, List.set_cons_succ]
                          refine wpAnyH_takeD (i := 6) (v := ?_) (some 91) rfl rfl (by kernel_rfl) (by kernel_rfl) (by kernel_rfl) (fun _ _ _ h => h) (Or.inl ⟨by rfl, ?_⟩) (by assumption) ?_
                          rotate_left
                          · intro w hSw; (try dsimp only at hSw); go_simp; (try with_reducible rfl)
                          try simp only [Act.put, List.setIfInBounds_toArray, List.set_cons_zero, List.set_cons_succ]
                          refine wpAnyH_takeD (i := 7) (v := ?_) (some 92) rfl rfl (by kernel_rfl) (by kernel_rfl) (by kernel_rfl) (fun _ _ _ h => h) (Or.inl ⟨by rfl, ?_⟩) (by assumption) ?_
                          rotate_left
                          · intro w hSw; (try dsimp only at hSw); go_simp; (try with_reducible rfl)
                          try simp only [Act.put, List.setIfInBounds_toArray, List.set_cons_zero, List.set_cons_succ]
                          refine wpAnyH_takeD (i := 8) (v := ?_) (some 93) rfl rfl (by kernel_rfl) (by kernel_rfl) (by kernel_rfl) (fun _ _ _ h => h) (Or.inl ⟨by rfl, ?_⟩) (by assumption) ?_
                          rotate_left
                          · intro w hSw; (try dsimp only at hSw); go_simp; (try with_reducible rfl)
                          try simp only [Act.put, List.setIfInBounds_toArray, List.set_cons_zero, List.set_cons_succ]
                          refine wpAnyH_takeD (i := 9) (v := ?_) (some 94) rfl rfl (by kernel_rfl) (by kernel_rfl) (by kernel_rfl) (fun _ _ _ h => h) (Or.inl ⟨by rfl, ?_⟩) (by assumption) ?_
                          rotate_left
                          · intro w hSw; (try dsimp only at hSw); go_simp; (try with_reducible rfl)
                          try simp only [Act.put, List.setIfInBounds_toArray, List.set_cons_zero, List.set_cons_succ]
                          refine wpAnyH_takeD (i := 10) (v := ?_) (some 95) rfl rfl (by kernel_rfl) (by kernel_rfl) (by kernel_rfl) (fun _ _ _ h => h) (Or.inl ⟨by rfl, ?_⟩) (by assumption) ?_
                          rotate_left
                          · intro w hSw; (try dsimp only at hSw); go_simp; (try with_reducible rfl)
                          try simp only [Act.put, List.setIfInBounds_toArray, List.set_cons_zero, List.set_cons_succ]
                          refine wpAnyH_takeD (i := 11) (v := ?_) (some 96) rfl rfl (by kernel_rfl) (by kernel_rfl) (by kernel_rfl) (fun _ _ _ h => h) (Or.inl ⟨by rfl, ?_⟩) (by assumption) ?_
                          rotate_left
                          · intro w hSw; (try dsimp only at hSw); go_simp; (try with_reducible rfl)
                          try simp only [Act.put, List.setIfInBounds_toArray, List.set_cons_zero, List.set_cons_succ]
                          refine wpAnyH_takeD (i := 12) (v := ?_) (some 97) rfl rfl (by kernel_rfl) (by kernel_rfl) (by kernel_rfl) (fun _ _ _ h => h) (Or.inl ⟨by rfl, ?_⟩) (by assumption) ?_
                          rotate_left
                          · intro w hSw; (try dsimp only at hSw); go_simp; (try with_reducible rfl)
                          try simp only [Act.put, List.setIfInBounds_toArray, List.set_cons_zero, List.set_cons_succ]
                          refine wpAnyH_takeD (i := 13) (v := ?_) (some 98) rfl rfl (by kernel_rfl) (by kernel_rfl) (by kernel_rfl) (fun _ _ _ h => h) (Or.inl ⟨by rfl, ?_⟩) (by assumption) ?_
                          rotate_left
                          · intro w hSw; (try dsimp only at hSw); go_simp; (try with_reducible rfl)
                          try simp only [Act.put, List.setIfInBounds_toArray, List.set_cons_zero, List.set_cons_succ]
                          refine wpAnyH_takeD (i := 14) (v := ?_) (some 99) rfl rfl (by kernel_rfl) (by kernel_rfl) (by kernel_rfl) (fun _ _ _ h => h) (Or.inl ⟨by rfl, ?_⟩) (by assumption) ?_
                          rotate_left
                          · intro w hSw; (try dsimp only at hSw); go_simp; (try with_reducible rfl)
                          try simp only [Act.put, List.setIfInBounds_toArray, List.set_cons_zero, List.set_cons_succ]
                          refine wpAnyH_takeD (i := 15) (v := ?_) (some 100) rfl rfl (by kernel_rfl) (by kernel_rfl) (by kernel_rfl) (fun _ _ _ h => h) (Or.inl ⟨by rfl, ?_⟩) (by assumption) ?_
                          rotate_left
                          · intro w hSw; (try dsimp only at hSw); go_simp; (try with_reducible rfl)
                          try simp only [Act.put, List.setIfInBounds_toArray, List.set_cons_zero, List.set_cons_succ]
                          refine wpAnyH_takeD (i := 16) (v := ?_) (some 101) rfl rfl (by kernel_rfl) (by kernel_rfl) (by kernel_rfl) (fun _ _ _ h => h) (Or.inl ⟨by rfl, ?_⟩) (by assumption) ?_
                          rotate_left
                          · intro w hSw; (try dsimp only at hSw); go_simp; (try with_reducible rfl)
                          try simp only [Act.put, List.setIfInBounds_toArray, List.set_cons_zero, List.set_cons_succ]
                          refine wpAnyH_takeD (i := 17) (v := ?_) (some 102) rfl rfl (by kernel_rfl) (by kernel_rfl) (by kernel_rfl) (fun _ _ _ h => h) (Or.inl ⟨by rfl, ?_⟩) (by assumption) ?_
                          rotate_left
                          · intro w hSw; (try dsimp only at hSw); go_simp; (try with_reducible rfl)
                          try simp only [Act.put, List.setIfInBounds_toArray, List.set_cons_zero, List.set_cons_succ]
                          refine wpAnyH_takeD (i := 19) (v := ?_) (some 104) rfl rfl (by kernel_rfl) (by kernel_rfl) (by kernel_rfl) (fun _ _ _ h => h) (Or.inl ⟨by rfl, ?_⟩) (by assumption) ?_
                          rotate_left
                          · intro w hSw; (try dsimp only at hSw); go_simp; (try with_reducible rfl)
                          try simp only [Act.put, List.setIfInBounds_toArray, List.set_cons_zero, List.set_cons_succ]
                          refine wpAnyH_takeD (i := 20) (v := ?_) (some 105) rfl rfl (by kernel_rfl) (by kernel_rfl) (by kernel_rfl) (fun _ _ _ h => h) (Or.inl ⟨by rfl, ?_⟩) (by assumption) ?_
                          rotate_left
                          · intro w hSw; (try dsimp only at hSw); go_simp; (try with_reducible rfl)
                          try simp only [Act.put, List.setIfInBounds_toArray, List.set_cons_zero, List.set_cons_succ]
                          refine wpAnyH_ready (rs := [18]) (by kernel_rfl) (by simp) ?_
                          refine AllReadyH.cons rfl (fun K hK => ?_) AllReadyH.nil
                          (go_simp; go_at_call 71; with_reducible refine (H71.out _).mono ?_; rintro e wz ⟨rfl, rfl⟩; go_wp2_with fail)
                          refine hK.out _ _ ?_ (fun hHeld => ?_)
                          · (try dsimp only); (exact HS7.out _ (by repeat (with_reducible first | exact HBK.out | refine Below.drew ?_ | refine bset ?_ HGRW.out _ _)))
                          clear hK K
                          try simp only [List.getElem_toArray, List.getElem_cons_succ, List.getElem_cons_zero]
                          try simp only [Act.put, List.setIfInBounds_toArray, List.set_cons_zero, List.set_cons_succ]
                          refine wpAnyH_takeD (i := 21) (v := .int .i64 (y : Int)) (some 106) rfl rfl (by kernel_rfl) (by kernel_rfl) (by kernel_rfl) (fun _ _ _ h => h) (Or.inl ⟨by rfl, ?_⟩) (by assumption) ?_
                          · intro w hSw; (try dsimp only at hSw); (go_simp; (try simp [v9, v13])); (try with_reducible rfl)
                          try simp only [Act.put, List.setIfInBounds_toArray, List.set_cons_zero, List.set_cons_succ]
                          refine wpAnyH_takeD (i := 22) (v := ?_) (some 107) rfl rfl (by kernel_rfl) (by kernel_rfl) (by kernel_rfl) (fun _ _ _ h => h) (Or.inl ⟨by rfl, ?_⟩) (by assumption) ?_
                          rotate_left
                          · intro w hSw; (try dsimp only at hSw); go_simp; (try with_reducible rfl)
                          try simp only [Act.put, List.setIfInBounds_toArray, List.set_cons_zero, List.set_cons_succ]
                          refine wpAnyH_takeD (i := 23) (v := ?_) (some 108) rfl rfl (by kernel_rfl) (by kernel_rfl) (by kernel_rfl) (fun _ _ _ h => h) (Or.inl ⟨by rfl, ?_⟩) (by assumption) ?_
                          rotate_left
                          · intro w hSw; (try dsimp only at hSw); go_simp; (try with_reducible rfl)
                          try simp only [Act.put, List.setIfInBounds_toArray, List.set_cons_zero, List.set_cons_succ]
                          refine wpAnyH_takeD (i := 24) (v := ?_) (some 109) rfl rfl (by kernel_rfl) (by kernel_rfl) (by kernel_rfl) (fun _ _ _ h => h) (Or.inl ⟨by rfl, ?_⟩) (by assumption) ?_
                          rotate_left
                          · intro w hSw; (try dsimp only at hSw); go_simp; (try with_reducible rfl)
                          try simp only [Act.put, List.setIfInBounds_toArray, List.set_cons_zero, List.set_cons_succ]
                          refine wpAnyH_ready (rs := [25]) (by kernel_rfl) (by simp) ?_
                          refine AllReadyH.cons rfl (fun K hK => ?_) AllReadyH.nil
                          go_simp
                          refine hK.out _ _ ?_ (fun hHeld => ?_)
                          · (try dsimp only); (exact HS7.out _ (by repeat (with_reducible first | exact HBK.out | refine Below.drew ?_ | refine bset ?_ HGRW.out _ _)))
                          clear hK K
                          try simp only [List.getElem_toArray, List.getElem_cons_succ, List.getElem_cons_zero]
                          try simp only [Act.put, List.setIfInBounds_toArray, List.set_cons_zero, List.set_cons_succ]
                          refine wpAnyH_done (by kernel_rfl) ?_ _
                          refine NoPanic.normal ?_
                          all_goals
                            go_wp2_with fail
                            go_roundw
                            case rel => exact ⟨k + 1, bb, by omega, by omega, by go_num, HBT2, HBF2, Lib.hid (parV_set HRK.out _), Lib.hid (by first | exact bset HBK.out HGRW.out _ _ | exact (bset HBK.out HGRW.out _ _).drew | exact (bset HBK.out.drew HGRW.out _ _) | exact (bset HBK.out.drew HGRW.out _ _).drew | exact (bset HBK.out.drew.drew HGRW.out _ _))⟩
                            case measure => simp [intOf]; omega
                        --@end
                      · have HFIN := Lib.hid (HNX.out (by rw [HCF.out]; exact (HBT.out rfl).symm))
                        --@7
                        go_upto_region 15 with fail
                        have q0 : (0 : Int) ≤ (t : Int) := by omega
                        have q1 : (t : Int) < 2 * (K : Int) + 1 := by omega
                        have q3 : x + (K : Int) = (t : Int) := by rw [HX.out]; omega
                        have q9 : IntKind.i64.wrap (t : Int) = (t : Int) := by rw [IntKind.wrap_i64]; omega
                        have p0 : IntKind.i64.wrap ((u : Int) + (k : Int)) = (u : Int) + (k : Int) := by rw [IntKind.wrap_i64]; omega
                        have t1 : decide ((u : Int) + (k : Int) ≤ (N : Int)) = true := by simp; omega
                        have t1n : decide (u + k ≤ N) = true := by simp; omega
                        refine wp_region_noPanic ?_
                        refine wp_region_held_drew (S := (fun W => (W.cell? ⟨g2, 0, none⟩ = some (.int .i64 (N : Int)) ∧ W.cell? ⟨g2, 1, none⟩ = some (.int .i64 (K : Int)) ∧ W.cell? ⟨g2, 2, none⟩ = some (.int .i64 last)) ∧ W.cell? ⟨gr, t, none⟩ = some (.bool true))) (by kernel_rfl) ?_ (fun hHeld => ?_)
                        · (try dsimp only); (refine ⟨HC.out _ (by repeat (with_reducible first | exact HBK1.out | refine Below.drew ?_)), c0⟩)
                        refine wpAnyH_takeD (i := 0) (v := ?_) (some 58) rfl rfl (by kernel_rfl) (by kernel_rfl) (by kernel_rfl) (fun _ _ _ h => h) (Or.inl ⟨by rfl, ?_⟩) (by assumption) ?_
                        rotate_left
                        · intro w hSw; (try dsimp only at hSw); go_simp; (try with_reducible rfl)
                        try simp only [Act.put, List.setIfInBounds_toArray, List.set_cons_zero, List.set_cons_succ]
                        refine wpAnyH_takeD (i := 1) (v := ?_) (some 59) rfl rfl (by kernel_rfl) (by kernel_rfl) (by kernel_rfl) (fun _ _ _ h => h) (Or.inl ⟨by rfl, ?_⟩) (by assumption) ?_
                        rotate_left
                        · intro w hSw; (try dsimp only at hSw); go_simp; (try with_reducible rfl)
                        try simp only [Act.put, List.setIfInBounds_toArray, List.set_cons_zero, List.set_cons_succ]
                        refine wpAnyH_takeD (i := 2) (v := ?_) (some 60) rfl rfl (by kernel_rfl) (by kernel_rfl) (by kernel_rfl) (fun _ _ _ h => h) (Or.inl ⟨by rfl, ?_⟩) (by assumption) ?_
                        rotate_left
                        · intro w hSw; (try dsimp only at hSw); go_simp; (try with_reducible rfl)
                        try simp only [Act.put, List.setIfInBounds_toArray, List.set_cons_zero, List.set_cons_succ]
                        refine wpAnyH_takeD (i := 3) (v := ?_) (some 61) rfl rfl (by kernel_rfl) (by kernel_rfl) (by kernel_rfl) (fun _ _ _ h => h) (Or.inl ⟨by rfl, ?_⟩) (by assumption) ?_
                        rotate_left
                        · intro w hSw; (try dsimp only at hSw); go_simp; (try with_reducible rfl)
                        try simp only [Act.put, List.setIfInBounds_toArray, List.set_cons_zero, List.set_cons_succ]
                        refine wpAnyH_takeD (i := 4) (v := ?_) (some 62) rfl rfl (by kernel_rfl) (by kernel_rfl) (by kernel_rfl) (fun _ _ _ h => h) (Or.inl ⟨by rfl, ?_⟩) (by assumption) ?_
                        rotate_left
                        · intro w hSw; (try dsimp only at hSw); go_simp; (try with_reducible rfl)
                        try simp only [Act.put, List.setIfInBounds_toArray, List.set_cons_zero, List.set_cons_succ]
                        refine wpAnyH_takeD (i := 5) (v := .bool true) (some 63) rfl rfl (by kernel_rfl) (by kernel_rfl) (by kernel_rfl) (fun _ _ _ h => h) (Or.inl ⟨by rfl, ?_⟩) (by assumption) ?_
                        · intro w hSw; (try dsimp only at hSw); (go_simp; (try simp [t1, t1n])); (try with_reducible rfl)
                        try simp only [Act.put, List.setIfInBounds_toArray, List.set_cons_zero, List.set_cons_succ]
                        refine wpAnyH_takeD (i := 6) (v := ?_) (some 64) rfl rfl (by kernel_rfl) (by kernel_rfl) (by kernel_rfl) (fun _ _ _ h => h) (Or.inl ⟨by rfl, ?_⟩) (by assumption) ?_
                        rotate_left
                        · intro w hSw; (try dsimp only at hSw); go_simp; (try with_reducible rfl)
                        try simp only [Act.put, List.setIfInBounds_toArray, List.set_cons_zero, List.set_cons_succ]
                        refine wpAnyH_takeD (i := 7) (v := ?_) (some 65) rfl rfl (by kernel_rfl) (by kernel_rfl) (by kernel_rfl) (fun _ _ _ h => h) (Or.inl ⟨by rfl, ?_⟩) (by assumption) ?_
                        rotate_left
                        · intro w hSw; (try dsimp only at hSw); go_simp; (try with_reducible rfl)
                        try simp only [Act.put, List.setIfInBounds_toArray, List.set_cons_zero, List.set_cons_succ]
                        refine wpAnyH_takeD (i := 8) (v := ?_) (some 66) rfl rfl (by kernel_rfl) (by kernel_rfl) (by kernel_rfl) (fun _ _ _ h => h) (Or.inl ⟨by rfl, ?_⟩) (by assumption) ?_
                        rotate_left
                        · intro w hSw; (try dsimp only at hSw); go_simp; (try with_reducible rfl)
                        try simp only [Act.put, List.setIfInBounds_toArray, List.set_cons_zero, List.set_cons_succ]
                        refine wpAnyH_takeD (i := 9) (v := ?_) (some 67) rfl rfl (by kernel_rfl) (by kernel_rfl) (by kernel_rfl) (fun _ _ _ h => h) (Or.inl ⟨by rfl, ?_⟩) (by assumption) ?_
                        rotate_left
                        · intro w hSw; (try dsimp only at hSw); go_simp; (try with_reducible rfl)
                        try simp only [Act.put, List.setIfInBounds_toArray, List.set_cons_zero, List.set_cons_succ]
                        refine wpAnyH_takeD (i := 11) (v := ?_) (some 69) rfl rfl (by kernel_rfl) (by kernel_rfl) (by kernel_rfl) (fun _ _ _ h => h) (Or.inl ⟨by rfl, ?_⟩) (by assumption) ?_
                        rotate_left
                        · intro w hSw; (try dsimp only at hSw); go_simp; (try with_reducible rfl)
                        try simp only [Act.put, List.setIfInBounds_toArray, List.set_cons_zero, List.set_cons_succ]
                        refine wpAnyH_takeD (i := 12) (v := ?_) (some 70) rfl rfl (by kernel_rfl) (by kernel_rfl) (by kernel_rfl) (fun _ _ _ h => h) (Or.inl ⟨by rfl, ?_⟩) (by assumption) ?_
                        rotate_left
                        · intro w hSw; (try dsimp only at hSw); go_simp; (try with_reducible rfl)
                        try simp only [Act.put, List.setIfInBounds_toArray, List.set_cons_zero, List.set_cons_succ]
                        refine wpAnyH_ready (rs := [10]) (by kernel_rfl) (by simp) ?_
                        refine AllReadyH.cons rfl (fun K hK => ?_) AllReadyH.nil
                        (go_simp; go_at_call 71; with_reducible refine (H71.out _).mono ?_; rintro e wz ⟨rfl, rfl⟩; go_wp2_with fail)
                        refine hK.out _ _ ?_ (fun hHeld => ?_)
                        · (try dsimp only); (refine ⟨HC.out _ (by repeat (with_reducible first | exact HBK1.out | refine Below.drew ?_)), c0⟩)
                        clear hK K
                        try simp only [List.getElem_toArray, List.getElem_cons_succ, List.getElem_cons_zero]
                        try simp only [Act.put, List.setIfInBounds_toArray, List.set_cons_zero, List.set_cons_succ]
                        refine wpAnyH_ready (rs := [13]) (by kernel_rfl) (by simp) ?_
                        refine AllReadyH.cons rfl (fun K hK => ?_) AllReadyH.nil
                        (go_simp; go_at_call 72; with_reducible refine (H72.out _).mono ?_; rintro e wz ⟨rfl, rfl⟩; go_wp2_with fail)
                        refine hK.out _ _ ?_ (fun hHeld => ?_)
                        · (try dsimp only); (refine ⟨HC.out _ (by repeat (with_reducible first | exact HBK1.out | refine Below.drew ?_)), c0⟩)
                        clear hK K
                        try simp only [List.getElem_toArray, List.getElem_cons_succ, List.getElem_cons_zero]
                        try simp only [Act.put, List.setIfInBounds_toArray, List.set_cons_zero, List.set_cons_succ]
                        refine wpAnyH_takeD (i := 14) (v := .bool true) (some 72) rfl rfl (by kernel_rfl) (by kernel_rfl) (by kernel_rfl) (fun _ _ _ h => h) (Or.inl ⟨by rfl, ?_⟩) (by assumption) ?_
                        · intro w hSw; (try dsimp only at hSw); go_simp; (try with_reducible rfl)
                        try simp only [Act.put, List.setIfInBounds_toArray, List.set_cons_zero, List.set_cons_succ]
                        refine wpAnyH_takeD (i := 15) (v := ?_) (some 73) rfl rfl (by kernel_rfl) (by kernel_rfl) (by kernel_rfl) (fun _ _ _ h => h) (Or.inl ⟨by rfl, ?_⟩) (by assumption) ?_
                        rotate_left
                        · intro w hSw; (try dsimp only at hSw); go_simp; (try with_reducible rfl)
                        try simp only [Act.put, List.setIfInBounds_toArray, List.set_cons_zero, List.set_cons_succ]
                        refine wpAnyH_takeD (i := 16) (v := ?_) (some 74) rfl rfl (by kernel_rfl) (by kernel_rfl) (by kernel_rfl) (fun _ _ _ h => h) (Or.inl ⟨by rfl, ?_⟩) (by assumption) ?_
                        rotate_left
                        · intro w hSw; (try dsimp only at hSw); go_simp; (try with_reducible rfl)
                        try simp only [Act.put, List.setIfInBounds_toArray, List.set_cons_zero, List.set_cons_succ]
                        refine wpAnyH_takeD (i := 17) (v := ?_) (some 75) rfl rfl (by kernel_rfl) (by kernel_rfl) (by kernel_rfl) (fun _ _ _ h => h) (Or.inl ⟨by rfl, ?_⟩) (by assumption) ?_
                        rotate_left
                        · intro w hSw; (try dsimp only at hSw); go_simp; (try with_reducible rfl)
                        try simp only [Act.put, List.setIfInBounds_toArray, List.set_cons_zero, List.set_cons_succ]
                        refine wpAnyH_takeD (i := 18) (v := ?_) (some 76) rfl rfl (by kernel_rfl) (by kernel_rfl) (by kernel_rfl) (fun _ _ _ h => h) (Or.inl ⟨by rfl, ?_⟩) (by assumption) ?_
                        rotate_left
                        · intro w hSw; (try dsimp only at hSw); go_simp; (try with_reducible rfl)
                        try simp only [Act.put, List.setIfInBounds_toArray, List.set_cons_zero, List.set_cons_succ]
                        refine wpAnyH_takeD (i := 19) (v := ?_) (some 77) rfl rfl (by kernel_rfl) (by kernel_rfl) (by kernel_rfl) (fun _ _ _ h => h) (Or.inl ⟨by rfl, ?_⟩) (by assumption) ?_
                        rotate_left
                        · intro w hSw; (try dsimp only at hSw); go_simp; (try with_reducible rfl)
                        try simp only [Act.put, List.setIfInBounds_toArray, List.set_cons_zero, List.set_cons_succ]
                        refine wpAnyH_takeD (i := 20) (v := .int .i64 (t : Int)) (some 78) rfl rfl (by kernel_rfl) (by kernel_rfl) (by kernel_rfl) (fun _ _ _ h => h) (Or.inl ⟨by rfl, ?_⟩) (by assumption) ?_
                        · intro w hSw; (try dsimp only at hSw); (go_simp; (try simp [q3, q9])); (try with_reducible rfl)
                        try simp only [Act.put, List.setIfInBounds_toArray, List.set_cons_zero, List.set_cons_succ]
                        refine wpAnyH_takeD (i := 21) (v := ?_) (some 79) rfl rfl (by kernel_rfl) (by kernel_rfl) (by kernel_rfl) (fun _ _ _ h => h) (Or.inl ⟨by rfl, ?_⟩) (by assumption) ?_
                        rotate_left
                        · intro w hSw; (try dsimp only at hSw); go_simp; (try with_reducible rfl)
                        try simp only [Act.put, List.setIfInBounds_toArray, List.set_cons_zero, List.set_cons_succ]
                        refine wpAnyH_takeD (i := 22) (v := ?_) (some 80) rfl rfl (by kernel_rfl) (by kernel_rfl) (by kernel_rfl) (fun _ _ _ h => h) (Or.inl ⟨by rfl, ?_⟩) (by assumption) ?_
                        rotate_left
                        · intro w hSw; (try dsimp only at hSw); go_simp; (try with_reducible rfl)
                        try simp only [Act.put, List.setIfInBounds_toArray, List.set_cons_zero, List.set_cons_succ]
                        refine wpAnyH_takeD (i := 23) (v := ?_) (some 81) rfl rfl (by kernel_rfl) (by kernel_rfl) (by kernel_rfl) (fun _ _ _ h => h) (Or.inl ⟨by rfl, ?_⟩) (by assumption) ?_
                        rotate_left
                        · intro w hSw; (try dsimp only at hSw); go_simp; (try with_reducible rfl)
                        try simp only [Act.put, List.setIfInBounds_toArray, List.set_cons_zero, List.set_cons_succ]
                        refine wpAnyH_takeD (i := 24) (v := ?_) (some 82) rfl rfl (by kernel_rfl) (by kernel_rfl) (by kernel_rfl) (fun _ _ _ h => h) (Or.inl ⟨by rfl, ?_⟩) (by assumption) ?_
                        rotate_left
                        · intro w hSw; (try dsimp only at hSw); go_simp; (try with_reducible rfl)
                        try simp only [Act.put, List.setIfInBounds_toArray, List.set_cons_zero, List.set_cons_succ]
                        refine wpAnyH_done (by kernel_rfl) ?_ _
                        refine NoPanic.normal ?_
                        all_goals
                          go_wp2_with fail
                          go_roundw
                          case rel => exact ⟨t + 1, x + 1, by omega, rfl, ⟨by omega, by omega⟩, HXN, HFIN, Lib.hid (HBK.out.drew)⟩
                          case measure => simp [intOf]; omega
                        --@end
                  · have t1 : decide ((u : Int) + (k : Int) ≤ (N : Int)) = false := by simp; omega
                    have t1n : decide (u + k ≤ N) = false := by simpa using huk
                    have HFIN := Lib.hid (HNX.out (by
                      rw [HCF.out]
                      cases b
                      · exact (can_stop hx2 hk1 (HBF.out rfl) (.inl (by omega))).symm
                      · exact (HBT.out rfl).symm))
                    --@8
                    go_upto_region 15 with fail
                    have q0 : (0 : Int) ≤ (t : Int) := by omega
                    have q1 : (t : Int) < 2 * (K : Int) + 1 := by omega
                    have q3 : x + (K : Int) = (t : Int) := by rw [HX.out]; omega
                    have q9 : IntKind.i64.wrap (t : Int) = (t : Int) := by rw [IntKind.wrap_i64]; omega
                    have p0 : IntKind.i64.wrap ((u : Int) + (k : Int)) = (u : Int) + (k : Int) := by rw [IntKind.wrap_i64]; omega
                    have t1 : decide ((u : Int) + (k : Int) ≤ (N : Int)) = false := by simp; omega
                    have t1n : decide (u + k ≤ N) = false := by simp; omega
                    refine wp_region_noPanic ?_
                    refine wp_region_held_drew (S := (fun W => (W.cell? ⟨g2, 0, none⟩ = some (.int .i64 (N : Int)) ∧ W.cell? ⟨g2, 1, none⟩ = some (.int .i64 (K : Int)) ∧ W.cell? ⟨g2, 2, none⟩ = some (.int .i64 last)))) (by kernel_rfl) ?_ (fun hHeld => ?_)
                    · (try dsimp only); (exact HC.out _ (by repeat (with_reducible first | exact HBK1.out | refine Below.drew ?_)))
                    refine wpAnyH_takeD (i := 0) (v := ?_) (some 58) rfl rfl (by kernel_rfl) (by kernel_rfl) (by kernel_rfl) (fun _ _ _ h => h) (Or.inl ⟨by rfl, ?_⟩) (by assumption) ?_
                    rotate_left
                    · intro w hSw; (try dsimp only at hSw); go_simp; (try with_reducible rfl)
                    try simp only [Act.put, List.setIfInBounds_toArray, List.set_cons_zero, List.set_cons_succ]
                    refine wpAnyH_takeD (i := 1) (v := ?_) (some 59) rfl rfl (by kernel_rfl) (by kernel_rfl) (by kernel_rfl) (fun _ _ _ h => h) (Or.inl ⟨by rfl, ?_⟩) (by assumption) ?_
                    rotate_left
                    · intro w hSw; (try dsimp only at hSw); go_simp; (try with_reducible rfl)
                    try simp only [Act.put, List.setIfInBounds_toArray, List.set_cons_zero, List.set_cons_succ]
                    refine wpAnyH_takeD (i := 2) (v := ?_) (some 60) rfl rfl (by kernel_rfl) (by kernel_rfl) (by kernel_rfl) (fun _ _ _ h => h) (Or.inl ⟨by rfl, ?_⟩) (by assumption) ?_
                    rotate_left
                    · intro w hSw; (try dsimp only at hSw); go_simp; (try with_reducible rfl)
                    try simp only [Act.put, List.setIfInBounds_toArray, List.set_cons_zero, List.set_cons_succ]
                    refine wpAnyH_takeD (i := 3) (v := ?_) (some 61) rfl rfl (by kernel_rfl) (by kernel_rfl) (by kernel_rfl) (fun _ _ _ h => h) (Or.inl ⟨by rfl, ?_⟩) (by assumption) ?_
                    rotate_left
                    · intro w hSw; (try dsimp only at hSw); go_simp; (try with_reducible rfl)
                    try simp only [Act.put, List.setIfInBounds_toArray, List.set_cons_zero, List.set_cons_succ]
                    refine wpAnyH_takeD (i := 4) (v := ?_) (some 62) rfl rfl (by kernel_rfl) (by kernel_rfl) (by kernel_rfl) (fun _ _ _ h => h) (Or.inl ⟨by rfl, ?_⟩) (by assumption) ?_
                    rotate_left
                    · intro w hSw; (try dsimp only at hSw); go_simp; (try with_reducible rfl)
                    try simp only [Act.put, List.setIfInBounds_toArray, List.set_cons_zero, List.set_cons_succ]
                    refine wpAnyH_takeD (i := 5) (v := .bool false) (some 63) rfl rfl (by kernel_rfl) (by kernel_rfl) (by kernel_rfl) (fun _ _ _ h => h) (Or.inl ⟨by rfl, ?_⟩) (by assumption) ?_
                    · intro w hSw; (try dsimp only at hSw); (go_simp; (try simp [t1, t1n])); (try with_reducible rfl)
                    try simp only [Act.put, List.setIfInBounds_toArray, List.set_cons_zero, List.set_cons_succ]
                    refine wpAnyH_takeD (i := 6) (v := ?_) (some 64) rfl rfl (by kernel_rfl) (by kernel_rfl) (by kernel_rfl) (fun _ _ _ h => h) (Or.inl ⟨by rfl, ?_⟩) (by assumption) ?_
                    rotate_left
                    · intro w hSw; (try dsimp only at hSw); go_simp; (try with_reducible rfl)
                    try simp only [Act.put, List.setIfInBounds_toArray, List.set_cons_zero, List.set_cons_succ]
                    refine wpAnyH_takeD (i := 7) (v := undef) (some 65) rfl rfl (by kernel_rfl) (by kernel_rfl) (by kernel_rfl) (fun _ _ _ h => h) (Or.inr ⟨by kernel_rfl, rfl⟩) (by assumption) ?_
                    try simp only [Act.put, List.setIfInBounds_toArray, List.set_cons_zero, List.set_cons_succ]
                    refine wpAnyH_takeD (i := 8) (v := undef) (some 66) rfl rfl (by kernel_rfl) (by kernel_rfl) (by kernel_rfl) (fun _ _ _ h => h) (Or.inr ⟨by kernel_rfl, rfl⟩) (by assumption) ?_
                    try simp only [Act.put, List.setIfInBounds_toArray, List.set_cons_zero, List.set_cons_succ]
                    refine wpAnyH_takeD (i := 9) (v := undef) (some 67) rfl rfl (by kernel_rfl) (by kernel_rfl) (by kernel_rfl) (fun _ _ _ h => h) (Or.inr ⟨by kernel_rfl, rfl⟩) (by assumption) ?_
                    try simp only [Act.put, List.setIfInBounds_toArray, List.set_cons_zero, List.set_cons_succ]
                    refine wpAnyH_takeD (i := 10) (v := undef) (some 68) rfl rfl (by kernel_rfl) (by kernel_rfl) (by kernel_rfl) (fun _ _ _ h => h) (Or.inr ⟨by kernel_rfl, rfl⟩) (by assumption) ?_
                    try simp only [Act.put, List.setIfInBounds_toArray, List.set_cons_zero, List.set_cons_succ]
                    refine wpAnyH_takeD (i := 11) (v := undef) (some 69) rfl rfl (by kernel_rfl) (by kernel_rfl) (by kernel_rfl) (fun _ _ _ h => h) (Or.inr ⟨by kernel_rfl, rfl⟩) (by assumption) ?_
                    try simp only [Act.put, List.setIfInBounds_toArray, List.set_cons_zero, List.set_cons_succ]
                    refine wpAnyH_takeD (i := 12) (v := undef) (some 70) rfl rfl (by kernel_rfl) (by kernel_rfl) (by kernel_rfl) (fun _ _ _ h => h) (Or.inr ⟨by kernel_rfl, rfl⟩) (by assumption) ?_
                    try simp only [Act.put, List.setIfInBounds_toArray, List.set_cons_zero, List.set_cons_succ]
                    refine wpAnyH_takeD (i := 13) (v := undef) (some 71) rfl rfl (by kernel_rfl) (by kernel_rfl) (by kernel_rfl) (fun _ _ _ h => h) (Or.inr ⟨by kernel_rfl, rfl⟩) (by assumption) ?_
                    try simp only [Act.put, List.setIfInBounds_toArray, List.set_cons_zero, List.set_cons_succ]
                    refine wpAnyH_takeD (i := 14) (v := .bool false) (some 72) rfl rfl (by kernel_rfl) (by kernel_rfl) (by kernel_rfl) (fun _ _ _ h => h) (Or.inl ⟨by rfl, ?_⟩) (by assumption) ?_
                    · intro w hSw; (try dsimp only at hSw); go_simp; (try with_reducible rfl)
                    try simp only [Act.put, List.setIfInBounds_toArray, List.set_cons_zero, List.set_cons_succ]
                    refine wpAnyH_takeD (i := 15) (v := ?_) (some 73) rfl rfl (by kernel_rfl) (by kernel_rfl) (by kernel_rfl) (fun _ _ _ h => h) (Or.inl ⟨by rfl, ?_⟩) (by assumption) ?_
                    rotate_left
                    · intro w hSw; (try dsimp only at hSw); go_simp; (try with_reducible rfl)
                    try simp only [Act.put, List.setIfInBounds_toArray, List.set_cons_zero, List.set_cons_succ]
                    refine wpAnyH_takeD (i := 16) (v := undef) (some 74) rfl rfl (by kernel_rfl) (by kernel_rfl) (by kernel_rfl) (fun _ _ _ h => h) (Or.inr ⟨by kernel_rfl, rfl⟩) (by assumption) ?_
                    try simp only [Act.put, List.setIfInBounds_toArray, List.set_cons_zero, List.set_cons_succ]
                    refine wpAnyH_takeD (i := 17) (v := undef) (some 75) rfl rfl (by kernel_rfl) (by kernel_rfl) (by kernel_rfl) (fun _ _ _ h => h) (Or.inr ⟨by kernel_rfl, rfl⟩) (by assumption) ?_
                    try simp only [Act.put, List.setIfInBounds_toArray, List.set_cons_zero, List.set_cons_succ]
                    refine wpAnyH_takeD (i := 18) (v := undef) (some 76) rfl rfl (by kernel_rfl) (by kernel_rfl) (by kernel_rfl) (fun _ _ _ h => h) (Or.inr ⟨by kernel_rfl, rfl⟩) (by assumption) ?_
                    try simp only [Act.put, List.setIfInBounds_toArray, List.set_cons_zero, List.set_cons_succ]
                    refine wpAnyH_takeD (i := 19) (v := undef) (some 77) rfl rfl (by kernel_rfl) (by kernel_rfl) (by kernel_rfl) (fun _ _ _ h => h) (Or.inr ⟨by kernel_rfl, rfl⟩) (by assumption) ?_
                    try simp only [Act.put, List.setIfInBounds_toArray, List.set_cons_zero, List.set_cons_succ]
                    refine wpAnyH_takeD (i := 20) (v := undef) (some 78) rfl rfl (by kernel_rfl) (by kernel_rfl) (by kernel_rfl) (fun _ _ _ h => h) (Or.inr ⟨by kernel_rfl, rfl⟩) (by assumption) ?_
                    try simp only [Act.put, List.setIfInBounds_toArray, List.set_cons_zero, List.set_cons_succ]
                    refine wpAnyH_takeD (i := 21) (v := undef) (some 79) rfl rfl (by kernel_rfl) (by kernel_rfl) (by kernel_rfl) (fun _ _ _ h => h) (Or.inr ⟨by kernel_rfl, rfl⟩) (by assumption) ?_
                    try simp only [Act.put, List.setIfInBounds_toArray, List.set_cons_zero, List.set_cons_succ]
                    refine wpAnyH_takeD (i := 22) (v := undef) (some 80) rfl rfl (by kernel_rfl) (by kernel_rfl) (by kernel_rfl) (fun _ _ _ h => h) (Or.inr ⟨by kernel_rfl, rfl⟩) (by assumption) ?_
                    try simp only [Act.put, List.setIfInBounds_toArray, List.set_cons_zero, List.set_cons_succ]
                    refine wpAnyH_takeD (i := 23) (v := undef) (some 81) rfl rfl (by kernel_rfl) (by kernel_rfl) (by kernel_rfl) (fun _ _ _ h => h) (Or.inr ⟨by kernel_rfl, rfl⟩) (by assumption) ?_
                    try simp only [Act.put, List.setIfInBounds_toArray, List.set_cons_zero, List.set_cons_succ]
                    refine wpAnyH_takeD (i := 24) (v := ?_) (some 82) rfl rfl (by kernel_rfl) (by kernel_rfl) (by kernel_rfl) (fun _ _ _ h => h) (Or.inl ⟨by rfl, ?_⟩) (by assumption) ?_
                    rotate_left
                    · intro w hSw; (try dsimp only at hSw); go_simp; (try with_reducible rfl)
                    try simp only [Act.put, List.setIfInBounds_toArray, List.set_cons_zero, List.set_cons_succ]
                    refine wpAnyH_done (by kernel_rfl) ?_ _
                    refine NoPanic.normal ?_
                    all_goals
                      go_wp2_with fail
                      go_roundw
                      case rel => exact ⟨t + 1, x + 1, by omega, rfl, ⟨by omega, by omega⟩, HXN, HFIN, Lib.hid (HBK.out.drew)⟩
                      case measure => simp [intOf]; omega
                    --@end
                --@end
            · obtain rfl : t = 2 * K + 1 := by have := HX.out; omega
              have tx : decide (x ≤ (K : Int)) = false := by simpa using hxK
              have HRF := Lib.hid (show Blk wr gr 4 (rowV N K last (m - j) j u) from by have := HRX.out; rw [parV_all] at this; exact this)
              have HOX := Lib.hid (HOU.out.below HBX.out HOU.out.lt)
              have HRUX := Lib.hid (own_belowV HRU.out HBX.out)
              have hcv := outV_cell HOX.out hj
              simp at hcv
              have hfz := HOX.out.frozen j
              have hn1 : u + 1 ≤ maxLen := by simp only [maxLen]; omega
              have hn2 : (u + 1) * 24 ≤ 140737488355328 := by omega
              have hszx := HBX.out.size
              have hkts := HKU.out.1
              --@9
              go_wp2_with (at_builtin; refine wpList_append_lies _ rfl (.tmp 115) (.tmp 117) 151 rfl Wj.heap.size 42 i4 _ 1 24 Try.underlying151 HI4.out xz0 xz1 xz2 rfl (by decide) v u ((List.range u).map fun a => Value.slice (some ⟨gQ a, 0, none⟩) (2 * K + 1) (2 * K + 1)) rfl (HRUX.out.alloc _) ⟨wr.heap.size, 0, none⟩ 1 1 [.slice (some ⟨gr, 0, none⟩) (2 * K + 1) (2 * K + 1)] rfl rfl (news_of1 wr 42 #[.slice (some ⟨gr, 0, none⟩) (2 * K + 1) (2 * K + 1)]) (by intro u hu; simp at hu; subst hu; rfl) (by decide) hn1 hn2 (by simp; omega) (wr.heap.size + 1) (by simp) ?_; intro g9 c9 w9 hown9 hg9 hat9 hlt9; have hoa := HOX.out.alloc (.cells #[.slice (some ⟨gr, 0, none⟩) (2 * K + 1) (2 * K + 1)] 42); have ho9 := hoa.grown hg9 (own_blk_ne HRUX.out HOX.out (by decide)); have HO9 := Lib.hid ho9; have hfz9 := ho9.frozen j; have hcv9 := outV_cell ho9 hj; simp at hcv9; have H9 := Lib.hid hown9; have HG9 := Lib.hid hg9; clear hown9 hg9 hat9 hlt9 hoa ho9)
              go_roundw
              case rel =>
                refine ⟨u + 1, .slice (some ⟨g9, 0, none⟩) (u + 1) c9, fun a => if a = u then gr else gQ a, by omega, by go_num, Lib.hid ?_, Lib.hid ?_, Lib.hid ?_, Lib.hid ?_, Lib.hid ?_⟩
                · have h := outV_set HO9.out j (.slice (some ⟨g9, 0, none⟩) (u + 1) c9)
                  have e : (fun q => if q = j then Value.slice (some ⟨g9, 0, none⟩) (u + 1) c9 else if q = j then v else fO q) = (fun q => if q = j then Value.slice (some ⟨g9, 0, none⟩) (u + 1) c9 else fO q) := by
                    funext q; by_cases h : q = j <;> simp [h]
                  rw [e] at h; exact h
                · have h := own_kept2 H9.out (gr_set w9 gO j (.slice (some ⟨g9, 0, none⟩) (u + 1) c9)) (.inr fun e => own_blk_ne H9.out HO9.out (by decide) e.symm)
                  rw [List.range_succ, List.map_append]
                  have e : (List.range u).map (fun a => Value.slice (some ⟨if a = u then gr else gQ a, 0, none⟩) (2 * K + 1) (2 * K + 1)) = (List.range u).map fun a => Value.slice (some ⟨gQ a, 0, none⟩) (2 * K + 1) (2 * K + 1) := by
                    apply List.map_congr_left
                    intro a ha
                    have := List.mem_range.1 ha
                    simp [show ¬ a = u by omega]
                  rw [e]
                  simpa using h
                · intro a ha
                  have far : ∀ q cs, Blk wr q 4 cs → Blk (w9.setCell ⟨gO, j, none⟩ (.slice (some ⟨g9, 0, none⟩) (u + 1) c9)) q 4 cs := fun q cs hq => by
                    have h1 := (hq.alloc (.cells #[.slice (some ⟨gr, 0, none⟩) (2 * K + 1) (2 * K + 1)] 42)).grown HG9.out (own_blk_ne HRUX.out hq (by decide))
                    exact h1.far (p := ⟨gO, j, none⟩) (Blk.ne_ h1 HO9.out (by decide)) _
                  dsimp only
                  by_cases e : a = u
                  · subst e; rw [if_pos rfl]; exact far _ _ HRF.out
                  · rw [if_neg e]; exact far _ _ ((HQU.out a (by omega)).below HBX.out (HQU.out a (by omega)).lt)
                · have h1 := (HKU.out.below HBX.out).below (balR (Below.refl wr.heap.size wr) (.cells #[.slice (some ⟨gr, 0, none⟩) (2 * K + 1) (2 * K + 1)] 42))
                  exact (h1.own HG9.out (fun q hq => (own_at HRUX.out hq).2)).set HO9.out j _
                · have h1 := balR (bstep HBU.out HBX.out) (.cells #[.slice (some ⟨gr, 0, none⟩) (2 * K + 1) (2 * K + 1)] 42)
                  have hjs := HB.out.size
                  exact bset (h1.grown HG9.out h1.size (fun q hq => Nat.le_trans hjs (own_at HRUX.out hq).2)) (by rw [HGO.out]; exact Nat.le_refl _) _ _
              case measure => simp [intOf]; omega
              --@end
          --@end
        · obtain rfl : u = N + 1 := by omega
          obtain ⟨ga, ca, hv⟩ : ∃ ga ca, v = .slice (some ⟨ga, 0, none⟩) (N + 1) ca := by
            rcases HRU.out.2 with ⟨h0, h1⟩ | ⟨g', cap', cur, hv, _⟩
            · omega
            · exact ⟨g', cap', hv⟩
          have HTJ := Lib.hid (show TabI N K m last wr j v from by
            refine ⟨ga, ca, gQ, hv, ?_, fun a ha => HQU.out a (by omega)⟩
            rcases HRU.out.2 with ⟨h0, h1⟩ | ⟨g', cap', cur, hv', _, hh, hle, _, hsz, htk⟩
            · omega
            · rw [hv] at hv'
              injection hv' with e1 e2 e3
              injection e1 with e1
              injection e1 with e1
              subst e1
              refine ⟨cur, hh, fun a ha => ?_⟩
              have h2 : (cur.toList.take ((N + 1) * 1))[a]? = some (.slice (some ⟨gQ a, 0, none⟩) (2 * K + 1) (2 * K + 1)) := by
                rw [htk]; simp [show a < N + 1 by omega]
              rw [List.getElem?_take] at h2
              split at h2
              · simpa using h2
              · cases h2)
          --@10
          go_wp2_with fail
          go_roundw
          case rel =>
            refine ⟨j, fun q => if q = j then v else fO q, by omega, ?_, HOU, Lib.hid ?_, Lib.hid ?_, HBU⟩
            · cases j with
              | zero => simp [bI]
              | succ j => simp [bI]
            · intro i h1 h2
              by_cases e : i = j
              · subst e; simp only [if_true]; exact HTJ.out
              · simp only [e, if_false]; exact (HT.out i (by omega) h2).keep HKU.out
            · intro i hi
              simp only [show ¬ i = j by omega, if_false]
              exact HF.out i (by omega)
          case measure => cases j <;> simp [intOf, bI] <;> omega
          --@end
      --@end
end Go.Proofs.Ytfejedmpplbmjaa
