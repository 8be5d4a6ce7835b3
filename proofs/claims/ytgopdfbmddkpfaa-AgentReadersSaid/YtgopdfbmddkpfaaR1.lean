/- Contracts of the reference's small functions; conditions: none. -/
import Derived.Test.YtgopdfbmddkpfaaA4
set_option linter.unusedSimpArgs false
set_option linter.unusedVariables false
namespace Go.Proofs.Ytgopdfbmddkpfaa
open Go.RowKit Go.Fh Go.Ag

theorem rin_any (n a b : Int) (w : World) :
    Calls Try.prog 103 #[.int .i64 n, .int .i64 a, .int .i64 b] w fun e w' => e = .returned (.bool (inB n a b)) ∧ w = w' := by
  by_cases h1 : a ≤ n
  · by_cases h2 : n ≤ b
    all_goals
      go_enter Try.func103, Try.ntmps103
      go_wp2
      go_ret
      exact ⟨by simp [inB]; try omega, rfl⟩
  · go_enter Try.func103, Try.ntmps103
    go_wp2
    go_ret
    exact ⟨by simp [inB]; omega, rfl⟩

theorem and_cases5 (a b c d e : Bool) : a = false ∨ (a = true ∧ b = false) ∨ (a = true ∧ b = true ∧ c = false) ∨ (a = true ∧ b = true ∧ c = true ∧ d = false) ∨ (a = true ∧ b = true ∧ c = true ∧ d = true ∧ e = false) ∨ (a = true ∧ b = true ∧ c = true ∧ d = true ∧ e = true) := by
  cases a <;> cases b <;> cases c <;> cases d <;> cases e <;> simp

theorem rright_any (s r : Int) (w : World) :
    Calls Try.prog 102 #[.agg #[.int .i64 s, .int .i64 r]] w fun e w' => e = .returned (.bool (!wrongDay (s, r))) ∧ Below w.heap.size w w' := by
  cases h1 : inB s 0 10000
  · go_enter Try.func102, Try.ntmps102
    go_wp2_with (go_at_call 103; refine (rin_any _ _ _ _).mono ?_; rintro e w' ⟨rfl, rfl⟩)
    go_ret
    exact ⟨ret_bool (by simp [wrongDay, h1]), (Below.refl _ _).alloc (Nat.le_refl _) _⟩
  · by_cases h2 : 0 ≤ r
    · by_cases h3 : r ≤ s
      all_goals
        go_enter Try.func102, Try.ntmps102
        go_wp2_with (go_at_call 103; refine (rin_any _ _ _ _).mono ?_; rintro e w' ⟨rfl, rfl⟩)
        go_ret
        exact ⟨ret_bool (by simp only [wrongDay, h1]; simp [inB]; omega), (Below.refl _ _).alloc (Nat.le_refl _) _⟩
    · go_enter Try.func102, Try.ntmps102
      go_wp2_with (go_at_call 103; refine (rin_any _ _ _ _).mono ?_; rintro e w' ⟨rfl, rfl⟩)
      go_ret
      exact ⟨ret_bool (by simp only [wrongDay, h1]; simp [inB]; omega), (Below.refl _ _).alloc (Nat.le_refl _) _⟩

theorem priced_any (t : TariffD) (w : World) :
    Calls Try.prog 98 #[.agg (tarV t)] w fun e w' => e = .returned (.bool (!wrongT t)) ∧ Below w.heap.size w w' := by
  obtain ⟨p, b, l, c, d⟩ := t
  unfold tarV
  dsimp only
  rcases and_cases5 (inB p 0 10000) (inB b 0 p) (inB l 0 p) (inB c 0 10000) (inB d 0 10000) with h1 | ⟨h1, h2⟩ | ⟨h1, h2, h3⟩ | ⟨h1, h2, h3, h4⟩ | ⟨h1, h2, h3, h4, h5⟩ | ⟨h1, h2, h3, h4, h5⟩
  all_goals
    have HW : Hid (_ = !wrongT ⟨p, b, l, c, d⟩) := (show (inB p 0 10000 && (inB b 0 p && (inB l 0 p && (inB c 0 10000 && inB d 0 10000)))) = !wrongT ⟨p, b, l, c, d⟩ by
      rw [Bool.eq_iff_iff]; simp [wrongT, badPrice, inB]; omega)
    go_enter Try.func98, Try.ntmps98
    go_wp2_with (go_at_call 103; refine (rin_any _ _ _ _).mono ?_; rintro e w' ⟨rfl, rfl⟩)
    go_ret
    exact ⟨ret_bool (by rw [← HW.out]; simp [*]), (Below.refl _ _).alloc (Nat.le_refl _) _⟩

set_option maxHeartbeats 1000000 in
theorem rcheck_any (A : Option Addr) (c : Nat) (l : List (Int × Int)) (w : World) (hl : l.length ≤ 9223372036854775807) (hA : Sl enc2 2 w w.heap.size A l) :
    Calls Try.prog 57 #[.slice A l.length c] w fun e w' => e = .returned (.int .i64 (checkH l)) ∧ Below w.heap.size w w' := by
  by_cases h1 : 400 < l.length
  · go_enter Try.func57, Try.ntmps57
    go_wp2
    go_ret
    exact ⟨ret_int (by simp [checkH, h1]), Below.refl _ _⟩
  · go_enter Try.func57, Try.ntmps57
    go_wp2
    go_loopw [3] (fun i wr => ∃ k : Nat, k ≤ l.length ∧ i = .int .i64 k ∧ (∀ x ∈ l.take k, wrongDay x = false) ∧ Below w.heap.size w wr) (fun i _ => l.length - (intOf i).toNat)
    case atStart => exact ⟨0, Nat.zero_le _, rfl, by simp, Below.refl _ _⟩
    case round =>
      obtain ⟨k, hk, rfl, hno, hB⟩ := hrel
      have HN := Lib.hid hno
      clear hno
      by_cases hlt : k < l.length
      · obtain ⟨b, off, rfl, hb, c0, c1⟩ := (hA.below hB).at2 hlt
        cases hw : wrongDay l[k]
        · have hw' : wrongDay (l[k].1, l[k].2) = false := hw
          go_wp2_with (go_at_call 102; refine (rright_any l[k].1 l[k].2 _).mono ?_; rintro e w' ⟨rfl, hb1⟩)
          go_roundw
          case rel =>
            refine ⟨k + 1, by omega, by go_num, fun x hx => ?_, hB.trans (hb1.mono hB.size)⟩
            rw [List.take_succ_eq_append_getElem hlt, List.mem_append] at hx
            rcases hx with hx | hx
            · exact HN.out x hx
            · simp at hx; subst hx; exact hw
          case measure => simp [intOf]; omega
        · have hw' : wrongDay (l[k].1, l[k].2) = true := hw
          go_wp2_with (go_at_call 102; refine (rright_any l[k].1 l[k].2 _).mono ?_; rintro e w' ⟨rfl, hb1⟩)
          go_ret
          refine ⟨ret_int ?_, hB.trans (hb1.mono hB.size)⟩
          rw [checkH, if_neg h1, if_pos (List.any_eq_true.2 ⟨l[k], List.getElem_mem hlt, hw⟩)]
      · go_wp2
        go_ret
        refine ⟨ret_int ?_, hB⟩
        have hall : l.any wrongDay = false := by
          rw [List.any_eq_false]; intro x hx
          have := HN.out x (by rw [List.take_of_length_le (by omega)]; exact hx)
          simp [this]
        rw [checkH, if_neg h1, hall]; rfl

theorem info120 : (Try.prog.info? 120).map (fun i => (i.zero, i.size, i.bytes)) = some (some (.agg #[.int .i64 0, .int .i64 0]), 2, 16) := by kernel_rfl

set_option maxHeartbeats 1000000 in
theorem days_any (A : Option Addr) (c : Nat) (l : List (Int × Int)) (w : World) (hl : l.length * 16 ≤ 140737488355328) (hA : Sl enc2 2 w w.heap.size A l) :
    Calls Try.prog 52 #[.slice A l.length c] w fun e w' => ∃ A' c', e = .returned (.slice A' l.length c') ∧ Sl enc2 2 w' w'.heap.size A' l ∧ Below w.heap.size w w' := by
  obtain ⟨i0, hi0, hz0, hz1, hz2⟩ := info_parts info120
  go_enter Try.func52, Try.ntmps52
  go_wp2
  go_loopw [3, 8] (fun v i wr => ∃ k : Nat, k ≤ l.length ∧ i = .int .i64 k ∧ (∃ A' c', v = .slice A' k c') ∧ wr.ownsRow w.heap.size 120 2 v k ((l.take k).flatMap enc2) ∧ Below w.heap.size w wr) (fun _ i _ => l.length - (intOf i).toNat)
  case atStart => exact ⟨0, Nat.zero_le _, rfl, ⟨none, 0, rfl⟩, World.ownsRow_nil _ _ _ _, Below.refl _ _⟩
  case round =>
    obtain ⟨k, hk, rfl, ⟨A1, cc, rfl⟩, hown, hB⟩ := hrel
    have HOWN := Lib.hid hown
    clear hown
    by_cases hlt : k < l.length
    · obtain ⟨b, off, rfl, hb, c0, c1⟩ := (hA.below hB).at2 hlt
      have hsz := hB.size
      obtain ⟨x, hx⟩ : ∃ x, x = l[k] := ⟨_, rfl⟩
      rw [← hx] at c0 c1
      have HX := Lib.hid hx
      clear hx
      have hown2 := (HOWN.out.alloc (.cells #[.int .i64 x.1, .int .i64 x.2] 33)).alloc (.cells #[.int .i64 x.1, .int .i64 x.2] 120)
      have HOWN2 := Lib.hid hown2
      have HNEWS := Lib.hid (news_of2 wr (.cells #[.int .i64 x.1, .int .i64 x.2] 33) 120 #[.int .i64 x.1, .int .i64 x.2])
      have hone : ∀ u ∈ enc2 x, u.oneCell' = true := by intro u hu; simp [enc2] at hu; rcases hu with rfl | rfl <;> rfl
      have hm1 : k + 1 ≤ maxLen := by simp only [maxLen]; omega
      have hm2 : (k + 1) * 16 ≤ 140737488355328 := by omega
      have hm3 : w.heap.size ≤ ((wr.alloc (.cells #[.int .i64 x.1, .int .i64 x.2] 33)).alloc (.cells #[.int .i64 x.1, .int .i64 x.2] 120)).heap.size := by simp; omega
      have HM3 := Lib.hid hm3
      have HONE := Lib.hid hone
      clear hown2 hm3 hone
      go_wp2_with (at_builtin; refine wpList_append_own _ rfl (.tmp 12) (.tmp 14) 112 rfl w.heap.size 120 i0 (.agg #[.int .i64 0, .int .i64 0]) 2 16 Try.underlying112 hi0 hz0 hz1 hz2 rfl (by decide) (.slice A1 k cc) k ((l.take k).flatMap enc2) rfl HOWN2.out ⟨wr.heap.size + 1, 0, none⟩ 1 1 (enc2 x) rfl rfl HNEWS.out HONE.out hm1 hm2 HM3.out ?_; intro v' w1 hown1 hg1 _)
      obtain ⟨A', c', rfl⟩ := own_shape hown1
      go_wp2
      go_roundw
      case rel =>
        refine ⟨k + 1, by omega, by go_num, ⟨A', c', rfl⟩, ?_, ?_⟩
        · rw [List.take_succ_eq_append_getElem hlt, List.flatMap_append, ← HX.out]; simpa using hown1
        · exact (((hB.alloc hB.size _).alloc (by simp; omega) _).grown hg1 (by simp; omega) (fun j hj => (HOWN.out.lt j hj).1))
      case measure => simp [intOf]; omega
    · obtain rfl : k = l.length := by omega
      go_wp2
      go_ret
      exact ⟨A1, cc, rfl, Sl.of_own (enc := enc2) (fun _ => rfl) (by simpa using HOWN.out), hB⟩
end Go.Proofs.Ytgopdfbmddkpfaa
