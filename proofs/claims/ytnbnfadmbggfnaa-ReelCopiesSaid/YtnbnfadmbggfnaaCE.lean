/- Contracts of out, and of the search that ReelMargin makes; conditions: spans in memory. -/
import Derived.Test.YtnbnfadmbggfnaaCD
set_option linter.unusedSimpArgs false
set_option linter.unusedVariables false
namespace Go.Proofs.Ytnbnfadmbggfnaa
open Go.RowKit Go.Fh Go.Rl
set_option maxRecDepth 20000 in
set_option maxHeartbeats 2000000 in
theorem out46_cl (s : Int × Int) (kk : Int) (g : Nat) (w : World) (hg : Blk w g 3 #[.int .i64 kk]) :
    Calls Try.prog 46 #[.agg #[.int .i64 s.1, .int .i64 s.2], .pointer (some ⟨g, 0, none⟩)] w fun e w' => e = .returned (.bool ((fun s : Int × Int => decide (s.1 ≤ kk ∧ kk ≤ s.2)) s)) ∧ Hid (Below w.heap.size w w') := by
  obtain ⟨s1, s2⟩ := s
  obtain ⟨w1, hw1⟩ : ∃ W, W = w.alloc (.cells #[.int .i64 s1, .int .i64 s2] 43) := ⟨_, rfl⟩
  obtain ⟨g2, hg2⟩ : ∃ k, k = w.heap.size := ⟨_, rfl⟩
  have k2 : Blk w1 g2 43 #[.int .i64 s1, .int .i64 s2] := by rw [hw1, hg2]; exact Blk.new _ _ _
  have kg : Blk w1 g 3 #[.int .i64 kk] := by rw [hw1]; exact hg.alloc _
  have c0 := k2.cell 0
  have c1 := k2.cell 1
  have c2 := kg.cell 0
  simp at c0 c1 c2
  have HW1 := Lib.hid hw1
  have HG2 := Lib.hid hg2
  have HB := Lib.hid (show Below w.heap.size w w1 from by rw [hw1]; exact balR (Below.refl _ _) _)
  dsimp only
  clear hw1 hg2 k2 kg hg
  by_cases h1 : s1 ≤ kk
  · by_cases h2 : kk ≤ s2
    · have t : decide (s1 ≤ kk ∧ kk ≤ s2) = true := by simp; omega
      rw [t]
      clear t
      have t1 : decide (s1 ≤ kk) = true := by simpa using h1
      have t2 : decide (kk ≤ s2) = true := by simpa using h2
      go_enter Try.func46, Try.ntmps46
      go_upto_region 1 with fail
      rw [← HW1.out, ← HG2.out]
      go_wp2
      go_ret
      exact ⟨rfl, HB⟩
    · have t : decide (s1 ≤ kk ∧ kk ≤ s2) = false := by simp; omega
      rw [t]
      clear t
      have t1 : decide (s1 ≤ kk) = true := by simpa using h1
      have t2 : decide (kk ≤ s2) = false := by simpa using h2
      go_enter Try.func46, Try.ntmps46
      go_upto_region 1 with fail
      rw [← HW1.out, ← HG2.out]
      go_wp2
      go_ret
      exact ⟨rfl, HB⟩
  · have t : decide (s1 ≤ kk ∧ kk ≤ s2) = false := by simp; omega
    rw [t]
    clear t
    have t1 : decide (s1 ≤ kk) = false := by simpa using h1
    go_enter Try.func46, Try.ntmps46
    go_upto_region 1 with fail
    rw [← HW1.out, ← HG2.out]
    go_wp2
    go_ret
    exact ⟨rfl, HB⟩
set_option maxRecDepth 20000 in
set_option maxHeartbeats 2000000 in
theorem out46_idx (A : Option Addr) (c : Nat) (l : List (Int × Int)) (kk : Int) (g : Nat) (w : World) (hl : l.length ≤ 9223372036854775807) (hA : Sl enc2 2 w w.heap.size A l) (hg : Blk w g 3 #[.int .i64 kk]) (F : Int × Int → Bool) (hF : F = fun s : Int × Int => decide (s.1 ≤ kk ∧ kk ≤ s.2)) :
    Calls Try.prog 47 #[.slice A l.length c, .func (.func 46) #[] #[.pointer (some ⟨g, 0, none⟩)]] w fun e w' => e = .returned (.int .i64 (findI F l)) ∧ Below w.heap.size w w' := by
  have HA := Lib.hid hA
  have HCL := Lib.hid (show ∀ (s : Int × Int) (W : World), Below w.heap.size w W → Calls Try.prog 46 #[.agg #[.int .i64 s.1, .int .i64 s.2], .pointer (some ⟨g, 0, none⟩)] W fun e w' => e = .returned (.bool (F s)) ∧ Hid (Below W.heap.size W w') from fun s W hb => by rw [hF]; exact out46_cl s kk g W (hg.below hb hg.lt))
  clear hA hg hF
  go_enter Try.func47, Try.ntmps47
  go_wp2
  go_loopw [8] (fun i wr => ∃ k : Nat, k ≤ l.length ∧ i = .int .i64 k ∧ Hid (∀ x ∈ l.take k, F x = false) ∧ Hid (Below w.heap.size w wr)) (fun i _ => l.length - (intOf i).toNat)
  case atStart => exact ⟨0, Nat.zero_le _, rfl, by simp [Hid], Below.refl _ _⟩
  case round =>
    obtain ⟨k, hk, rfl, HN, HBL⟩ := hrel
    by_cases hlt : k < l.length
    · obtain ⟨b, off, hba, hb, c0, c1⟩ := (HA.out.below HBL.out).at2 hlt
      subst hba
      have HC := Lib.hid (HCL.out l[k] wr HBL.out)
      obtain ⟨bv, hbv⟩ : ∃ b, b = F l[k] := ⟨_, rfl⟩
      rw [← hbv] at HC
      obtain ⟨⟨x1, x2⟩, hx⟩ : ∃ x, x = l[k] := ⟨_, rfl⟩
      have HBV := Lib.hid hbv
      rw [← hx] at c0 c1 HC
      dsimp only at c0 c1 HC
      clear hx hbv
      cases bv
      · go_wp2_with (go_at_call 46; refine HC.out.mono ?_; rintro e w5 ⟨rfl, HB5⟩)
        go_roundw
        case rel =>
          refine ⟨k + 1, by omega, by go_num, ?_, Lib.hid (bstep HBL.out HB5.out)⟩
          intro x hx
          rw [List.take_succ_eq_append_getElem hlt, List.mem_append] at hx
          rcases hx with hx | hx
          · exact HN.out x hx
          · simp at hx; subst hx; exact HBV.out.symm
        case measure => simp [intOf]; omega
      · have HF := Lib.hid (findI_hit (p := F) hlt HN.out HBV.out.symm)
        go_wp2_with (go_at_call 46; refine HC.out.mono ?_; rintro e w5 ⟨rfl, HB5⟩)
        go_ret
        exact ⟨ret_int HF.out.symm, bstep HBL.out HB5.out⟩
    · go_wp2
      go_ret
      exact ⟨ret_int (findI_miss (fun x hx => HN.out x (by rw [List.take_of_length_le (by omega)]; exact hx))).symm, HBL.out⟩
theorem out46_any (A : Option Addr) (c : Nat) (l : List (Int × Int)) (kk : Int) (g : Nat) (w : World) (hl : l.length ≤ 9223372036854775807) (hA : Sl enc2 2 w w.heap.size A l) (hg : Blk w g 3 #[.int .i64 kk]) (F : Int × Int → Bool) (hF : F = fun s : Int × Int => decide (s.1 ≤ kk ∧ kk ≤ s.2)) :
    Calls Try.prog 19 #[.slice A l.length c, .func (.func 46) #[] #[.pointer (some ⟨g, 0, none⟩)]] w fun e w' => e = .returned (.bool (l.any F)) ∧ Hid (Below w.heap.size w w') := by
  have HFF := Lib.hid hF
  clear hF
  have hf := findI_any F l
  have HF := Lib.hid hf
  clear hf
  go_enter Try.func19, Try.ntmps19
  go_wp2_with (go_at_call 47; refine (out46_idx _ _ _ kk _ _ hl hA hg F HFF.out).mono ?_; rintro e w' ⟨rfl, hb⟩)
  go_ret
  exact ⟨ret_bool HF.out, hb⟩
set_option maxRecDepth 20000 in
set_option maxHeartbeats 2000000 in
theorem mar20_cl (s : Int × Int) (s0 : Int × Int) (g : Nat) (w : World) (hg : Blk w g 43 #[.int .i64 s0.1, .int .i64 s0.2]) :
    Calls Try.prog 20 #[.agg #[.int .i64 s.1, .int .i64 s.2], .pointer (some ⟨g, 0, none⟩)] w fun e w' => e = .returned (.bool ((fun x : Int × Int => decide (x.1 ≤ s0.1 ∧ s0.2 ≤ x.2)) s)) ∧ Hid (Below w.heap.size w w') := by
  obtain ⟨s1, s2⟩ := s
  obtain ⟨w1, hw1⟩ : ∃ W, W = w.alloc (.cells #[.int .i64 s1, .int .i64 s2] 43) := ⟨_, rfl⟩
  obtain ⟨g2, hg2⟩ : ∃ k, k = w.heap.size := ⟨_, rfl⟩
  have k2 : Blk w1 g2 43 #[.int .i64 s1, .int .i64 s2] := by rw [hw1, hg2]; exact Blk.new _ _ _
  have kg : Blk w1 g 43 #[.int .i64 s0.1, .int .i64 s0.2] := by rw [hw1]; exact hg.alloc _
  have c0 := k2.cell 0
  have c1 := k2.cell 1
  have c2 := kg.cell 0
  have c3 := kg.cell 1
  simp at c0 c1 c2 c3
  obtain ⟨y1, y2⟩ := s0
  dsimp only at c2 c3
  have HW1 := Lib.hid hw1
  have HG2 := Lib.hid hg2
  have HB := Lib.hid (show Below w.heap.size w w1 from by rw [hw1]; exact balR (Below.refl _ _) _)
  dsimp only
  clear hw1 hg2 k2 kg hg
  by_cases h1 : s1 ≤ y1
  · by_cases h2 : y2 ≤ s2
    · have t : decide (s1 ≤ y1 ∧ y2 ≤ s2) = true := by simp; omega
      rw [t]
      clear t
      have t1 : decide (s1 ≤ y1) = true := by simpa using h1
      have t2 : decide (y2 ≤ s2) = true := by simpa using h2
      go_enter Try.func20, Try.ntmps20
      go_upto_region 1 with fail
      rw [← HW1.out, ← HG2.out]
      go_wp2
      go_ret
      exact ⟨rfl, HB⟩
    · have t : decide (s1 ≤ y1 ∧ y2 ≤ s2) = false := by simp; omega
      rw [t]
      clear t
      have t1 : decide (s1 ≤ y1) = true := by simpa using h1
      have t2 : decide (y2 ≤ s2) = false := by simpa using h2
      go_enter Try.func20, Try.ntmps20
      go_upto_region 1 with fail
      rw [← HW1.out, ← HG2.out]
      go_wp2
      go_ret
      exact ⟨rfl, HB⟩
  · have t : decide (s1 ≤ y1 ∧ y2 ≤ s2) = false := by simp; omega
    rw [t]
    clear t
    have t1 : decide (s1 ≤ y1) = false := by simpa using h1
    go_enter Try.func20, Try.ntmps20
    go_upto_region 1 with fail
    rw [← HW1.out, ← HG2.out]
    go_wp2
    go_ret
    exact ⟨rfl, HB⟩
set_option maxRecDepth 20000 in
set_option maxHeartbeats 2000000 in
theorem mar20_idx (A : Option Addr) (c : Nat) (l : List (Int × Int)) (s0 : Int × Int) (g : Nat) (w : World) (hl : l.length ≤ 9223372036854775807) (hA : Sl enc2 2 w w.heap.size A l) (hg : Blk w g 43 #[.int .i64 s0.1, .int .i64 s0.2]) (F : Int × Int → Bool) (hF : F = fun x : Int × Int => decide (x.1 ≤ s0.1 ∧ s0.2 ≤ x.2)) :
    Calls Try.prog 47 #[.slice A l.length c, .func (.func 20) #[] #[.pointer (some ⟨g, 0, none⟩)]] w fun e w' => e = .returned (.int .i64 (findI F l)) ∧ Below w.heap.size w w' := by
  have HA := Lib.hid hA
  have HCL := Lib.hid (show ∀ (s : Int × Int) (W : World), Below w.heap.size w W → Calls Try.prog 20 #[.agg #[.int .i64 s.1, .int .i64 s.2], .pointer (some ⟨g, 0, none⟩)] W fun e w' => e = .returned (.bool (F s)) ∧ Hid (Below W.heap.size W w') from fun s W hb => by rw [hF]; exact mar20_cl s s0 g W (hg.below hb hg.lt))
  clear hA hg hF
  go_enter Try.func47, Try.ntmps47
  go_wp2
  go_loopw [8] (fun i wr => ∃ k : Nat, k ≤ l.length ∧ i = .int .i64 k ∧ Hid (∀ x ∈ l.take k, F x = false) ∧ Hid (Below w.heap.size w wr)) (fun i _ => l.length - (intOf i).toNat)
  case atStart => exact ⟨0, Nat.zero_le _, rfl, by simp [Hid], Below.refl _ _⟩
  case round =>
    obtain ⟨k, hk, rfl, HN, HBL⟩ := hrel
    by_cases hlt : k < l.length
    · obtain ⟨b, off, hba, hb, c0, c1⟩ := (HA.out.below HBL.out).at2 hlt
      subst hba
      have HC := Lib.hid (HCL.out l[k] wr HBL.out)
      obtain ⟨bv, hbv⟩ : ∃ b, b = F l[k] := ⟨_, rfl⟩
      rw [← hbv] at HC
      obtain ⟨⟨x1, x2⟩, hx⟩ : ∃ x, x = l[k] := ⟨_, rfl⟩
      have HBV := Lib.hid hbv
      rw [← hx] at c0 c1 HC
      dsimp only at c0 c1 HC
      clear hx hbv
      cases bv
      · go_wp2_with (go_at_call 20; refine HC.out.mono ?_; rintro e w5 ⟨rfl, HB5⟩)
        go_roundw
        case rel =>
          refine ⟨k + 1, by omega, by go_num, ?_, Lib.hid (bstep HBL.out HB5.out)⟩
          intro x hx
          rw [List.take_succ_eq_append_getElem hlt, List.mem_append] at hx
          rcases hx with hx | hx
          · exact HN.out x hx
          · simp at hx; subst hx; exact HBV.out.symm
        case measure => simp [intOf]; omega
      · have HF := Lib.hid (findI_hit (p := F) hlt HN.out HBV.out.symm)
        go_wp2_with (go_at_call 20; refine HC.out.mono ?_; rintro e w5 ⟨rfl, HB5⟩)
        go_ret
        exact ⟨ret_int HF.out.symm, bstep HBL.out HB5.out⟩
    · go_wp2
      go_ret
      exact ⟨ret_int (findI_miss (fun x hx => HN.out x (by rw [List.take_of_length_le (by omega)]; exact hx))).symm, HBL.out⟩
theorem mar20_any (A : Option Addr) (c : Nat) (l : List (Int × Int)) (s0 : Int × Int) (g : Nat) (w : World) (hl : l.length ≤ 9223372036854775807) (hA : Sl enc2 2 w w.heap.size A l) (hg : Blk w g 43 #[.int .i64 s0.1, .int .i64 s0.2]) (F : Int × Int → Bool) (hF : F = fun x : Int × Int => decide (x.1 ≤ s0.1 ∧ s0.2 ≤ x.2)) :
    Calls Try.prog 19 #[.slice A l.length c, .func (.func 20) #[] #[.pointer (some ⟨g, 0, none⟩)]] w fun e w' => e = .returned (.bool (l.any F)) ∧ Hid (Below w.heap.size w w') := by
  have HFF := Lib.hid hF
  clear hF
  have hf := findI_any F l
  have HF := Lib.hid hf
  clear hf
  go_enter Try.func19, Try.ntmps19
  go_wp2_with (go_at_call 47; refine (mar20_idx _ _ _ s0 _ _ hl hA hg F HFF.out).mono ?_; rintro e w' ⟨rfl, hb⟩)
  go_ret
  exact ⟨ret_bool HF.out, hb⟩
theorem out18_any (A : Option Addr) (c : Nat) (l : List (Int × Int)) (k : Int) (w : World) (hl : l.length ≤ 9223372036854775807) (hA : Sl enc2 2 w w.heap.size A l) :
    Calls Try.prog 18 #[.slice A l.length c, .int .i64 k] w fun e w' => e = .returned (.bool (outS l k)) ∧ Hid (Below w.heap.size w w') := by
  obtain ⟨w1, hw1⟩ : ∃ W, W = w.alloc (.cells #[.int .i64 k] 3) := ⟨_, rfl⟩
  obtain ⟨g3, hg3⟩ : ∃ g, g = w.heap.size := ⟨_, rfl⟩
  have k3 : Blk w1 g3 3 #[.int .i64 k] := by rw [hw1, hg3]; exact Blk.new _ _ _
  have hb1 : Below w.heap.size w w1 := by rw [hw1]; exact balR (Below.refl _ _) _
  obtain ⟨o, ho⟩ : ∃ o, o = outS l k := ⟨_, rfl⟩
  have HC := Lib.hid (show Calls Try.prog 19 #[.slice A l.length c, .func (.func 46) #[] #[.pointer (some ⟨g3, 0, none⟩)]] w1 fun e w' => e = .returned (.bool o) ∧ Hid (Below w1.heap.size w1 w') from by rw [ho]; exact out46_any A c l k g3 w1 hl ((hA.below hb1).mono hb1.size) k3 _ rfl)
  rw [← ho]
  clear ho
  have HW1 := Lib.hid hw1
  have HG3 := Lib.hid hg3
  have HB1 := Lib.hid hb1
  clear hw1 hg3 hb1 k3 hA
  go_enter Try.func18, Try.ntmps18
  go_upto_region 1 with fail
  rw [← HW1.out, ← HG3.out]
  go_wp2_with (go_at_call 19; refine HC.out.mono ?_; rintro e w2 ⟨rfl, HB2⟩)
  go_ret
  exact ⟨rfl, Lib.hid (bstep HB1.out HB2.out)⟩
end Go.Proofs.Ytnbnfadmbggfnaa
