/- Contracts of the reference's Gets and Copies; conditions: none. -/
import Derived.Test.YtgopdfbmddkpfaaV7
import Derived.Test.YtgopdfbmddkpfaaVA
set_option linter.unusedSimpArgs false
set_option linter.unusedVariables false
namespace Go.Proofs.Ytgopdfbmddkpfaa
open Go.RowKit Go.Fh Go.Ag
set_option maxRecDepth 20000 in
set_option maxHeartbeats 2000000 in
theorem rgetsR_any (s : SubD) (A : Option Addr) (c : Nat) (day : Int) (w : World) (hl : s.hol.length ≤ 9223372036854775807) (hA : Sl enc2 2 w w.heap.size A s.hol) :
    Calls Try.prog 86 #[.agg #[.int .i64 s.id, .int .i64 s.lo, .int .i64 s.hi, .int .i64 s.days, .slice A s.hol.length c], .int .i64 day] w fun e w' => e = .returned (.tuple #[.bool (getsR s day).1, .int .i64 (getsR s day).2]) ∧ Below w.heap.size w w' := by
  have hb0 : Below w.heap.size w (w.alloc (.cells #[.int .i64 s.id, .int .i64 s.lo, .int .i64 s.hi, .int .i64 s.days, .slice A s.hol.length c] 161)) := (Below.refl _ _).alloc (Nat.le_refl _) _
  have HK := Lib.hid (Blk.new w 161 #[.int .i64 s.id, .int .i64 s.lo, .int .i64 s.hi, .int .i64 s.days, .slice A s.hol.length c])
  have HA := Lib.hid hA
  have HW := Lib.hid (fine_any s A c _ hl ((hA.below hb0).mono hb0.size))
  have HBW := Lib.hid (fun w1 (hb1 : Below (w.alloc (.cells #[.int .i64 s.id, .int .i64 s.lo, .int .i64 s.hi, .int .i64 s.days, .slice A s.hol.length c] 161)).heap.size (w.alloc (.cells #[.int .i64 s.id, .int .i64 s.lo, .int .i64 s.hi, .int .i64 s.days, .slice A s.hol.length c] 161)) w1) => hb0.trans (hb1.mono hb0.size))
  clear hA hb0
  cases h1 : wrongS s
  · rw [h1] at HW
    have HOK := Lib.hid ((OkS_iff s).1 h1)
    cases h2 : inB day 0 20000
    · have HR := Lib.hid (show getsR s day = (false, 6) by simp [getsR, h1, h2])
      clear h1
      go_enter Try.func86, Try.ntmps86
      go_wp2_with (first | (go_at_call 120; refine HW.out.mono ?_; rintro e w1 ⟨rfl, hb1⟩) | (go_at_call 103; refine (rin_any _ _ _ _).mono ?_; rintro e w1 ⟨rfl, rfl⟩))
      go_ret2
      exact ⟨by rw [HR.out]; rfl, HBW.out _ hb1⟩
    · have HR := Lib.hid (show getsR s day = (getsB s day, 0) by simp [getsR, h1, h2])
      have hd := inB_iff.1 h2
      clear h1
      go_enter Try.func86, Try.ntmps86
      go_wp2_with fail
      refine HW.out.mono ?_
      rintro e w1 ⟨rfl, hb1⟩
      have kb := HK.out.below hb1 (by simp)
      have u0 := kb.cell 0
      have u1 := kb.cell 1
      have u2 := kb.cell 2
      have u3 := kb.cell 3
      have u4 := kb.cell 4
      simp at u0 u1 u2 u3 u4
      have HBW1 := Lib.hid (HBW.out _ hb1)
      have HG := Lib.hid (rgets_any s A c day w1 HOK.out.2.2.2.1.1 HOK.out.2.2.2.1.2 hd.1 hl ((HA.out.below HBW1.out).mono HBW1.out.size))
      clear kb hb1
      go_wp2_with (go_at_call 103; refine (rin_any _ _ _ _).mono ?_; rintro e w1 ⟨rfl, rfl⟩)
      refine HG.out.mono ?_
      rintro e w2 ⟨rfl, hb2⟩
      go_wp2_with fail
      go_ret2
      exact ⟨by rw [HR.out]; rfl, HBW1.out.trans (hb2.mono HBW1.out.size)⟩
  · rw [h1] at HW
    have HR := Lib.hid (show getsR s day = (false, 120) by simp [getsR, h1])
    clear h1
    go_enter Try.func86, Try.ntmps86
    go_wp2_with (go_at_call 120; refine HW.out.mono ?_; rintro e w1 ⟨rfl, hb1⟩)
    go_ret2
    exact ⟨by rw [HR.out]; rfl, HBW.out _ hb1⟩

set_option maxRecDepth 20000 in
set_option maxHeartbeats 2000000 in
theorem rcopiesR_any (s : SubD) (A : Option Addr) (c : Nat) (a b : Int) (w : World) (hl : s.hol.length ≤ 9223372036854775807) (hA : Sl enc2 2 w w.heap.size A s.hol) :
    Calls Try.prog 87 #[.agg #[.int .i64 s.id, .int .i64 s.lo, .int .i64 s.hi, .int .i64 s.days, .slice A s.hol.length c], .int .i64 a, .int .i64 b] w fun e w' => e = .returned (.tuple #[.int .i64 (copiesR s a b).1, .int .i64 (copiesR s a b).2]) ∧ Below w.heap.size w w' := by
  have hb0 : Below w.heap.size w (w.alloc (.cells #[.int .i64 s.id, .int .i64 s.lo, .int .i64 s.hi, .int .i64 s.days, .slice A s.hol.length c] 161)) := (Below.refl _ _).alloc (Nat.le_refl _) _
  have HK := Lib.hid (Blk.new w 161 #[.int .i64 s.id, .int .i64 s.lo, .int .i64 s.hi, .int .i64 s.days, .slice A s.hol.length c])
  have HA := Lib.hid hA
  have HW := Lib.hid (fine_any s A c _ hl ((hA.below hb0).mono hb0.size))
  have HBW := Lib.hid (fun w1 (hb1 : Below (w.alloc (.cells #[.int .i64 s.id, .int .i64 s.lo, .int .i64 s.hi, .int .i64 s.days, .slice A s.hol.length c] 161)).heap.size (w.alloc (.cells #[.int .i64 s.id, .int .i64 s.lo, .int .i64 s.hi, .int .i64 s.days, .slice A s.hol.length c] 161)) w1) => hb0.trans (hb1.mono hb0.size))
  clear hA hb0
  cases h1 : wrongS s
  · rw [h1] at HW
    have HOK := Lib.hid ((OkS_iff s).1 h1)
    by_cases hp : inB a 0 20000 = true ∧ inB b 0 20000 = true ∧ a ≤ b
    · obtain ⟨p1, p2, p3⟩ := hp
      have hb1' := inB_iff.1 p1
      have hb2' := inB_iff.1 p2
      have hpb : periodB a b = true := by unfold periodB; rw [p1, inB_iff.2 (by omega)]; rfl
      have HR := Lib.hid (show copiesR s a b = (copiesB s a b, 0) by simp [copiesR, h1, hpb])
      have t1 : decide (b < a) = false := by simp; omega
      clear h1 hpb
      go_enter Try.func87, Try.ntmps87
      go_wp2_with fail
      refine HW.out.mono ?_
      rintro e w1 ⟨rfl, hb1⟩
      have kb := HK.out.below hb1 (by simp)
      have u0 := kb.cell 0
      have u1 := kb.cell 1
      have u2 := kb.cell 2
      have u3 := kb.cell 3
      have u4 := kb.cell 4
      simp at u0 u1 u2 u3 u4
      have HBW1 := Lib.hid (HBW.out _ hb1)
      have HG := Lib.hid (rcopies_any s A c a b w1 HOK.out hb1'.1 p3 hb2'.2 ((HA.out.below HBW1.out).mono HBW1.out.size))
      clear kb hb1
      go_wp2_with (go_at_call 103; refine (rin_any _ _ _ _).mono ?_; rintro e w1 ⟨rfl, rfl⟩)
      refine HG.out.mono ?_
      rintro e w2 ⟨rfl, hb2⟩
      go_wp2_with fail
      go_ret2
      exact ⟨by rw [HR.out]; rfl, HBW1.out.trans (hb2.mono HBW1.out.size)⟩
    · have hpb : periodB a b = false := by
        cases hq : periodB a b
        · rfl
        · unfold periodB at hq
          rw [Bool.and_eq_true] at hq
          have e1 := inB_iff.1 hq.1
          have e2 := inB_iff.1 hq.2
          exact absurd ⟨hq.1, inB_iff.2 (by omega), by omega⟩ hp
      have HR := Lib.hid (show copiesR s a b = (0, 6) by simp [copiesR, h1, hpb])
      have hor : inB a 0 20000 = false ∨ (inB a 0 20000 = true ∧ inB b 0 20000 = false) ∨ (inB a 0 20000 = true ∧ inB b 0 20000 = true ∧ decide (b < a) = true) := by
        cases i1 : inB a 0 20000
        · exact .inl rfl
        · cases i2 : inB b 0 20000
          · exact .inr (.inl ⟨rfl, rfl⟩)
          · refine .inr (.inr ⟨rfl, rfl, decide_eq_true ?_⟩)
            by_cases h : b < a
            · exact h
            · exact absurd ⟨i1, i2, by omega⟩ hp
      clear h1 hpb hp
      rcases hor with c1 | ⟨c1, c2⟩ | ⟨c1, c2, c3⟩
      all_goals
        go_enter Try.func87, Try.ntmps87
        go_wp2_with (first | (go_at_call 120; refine HW.out.mono ?_; rintro e w1 ⟨rfl, hb1⟩) | (go_at_call 103; refine (rin_any _ _ _ _).mono ?_; rintro e w1 ⟨rfl, rfl⟩))
        go_ret2
        exact ⟨by rw [HR.out]; rfl, HBW.out _ hb1⟩
  · rw [h1] at HW
    have HR := Lib.hid (show copiesR s a b = (0, 120) by simp [copiesR, h1])
    clear h1
    go_enter Try.func87, Try.ntmps87
    go_wp2_with (go_at_call 120; refine HW.out.mono ?_; rintro e w1 ⟨rfl, hb1⟩)
    go_ret2
    exact ⟨by rw [HR.out]; rfl, HBW.out _ hb1⟩
end Go.Proofs.Ytgopdfbmddkpfaa
