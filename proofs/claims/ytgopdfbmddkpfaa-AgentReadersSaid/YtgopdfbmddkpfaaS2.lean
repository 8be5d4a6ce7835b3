/- Contracts: a subscriber that is not allowed, Copies, Gets; conditions: none. -/
import Derived.Test.YtgopdfbmddkpfaaS1
set_option linter.unusedSimpArgs false
set_option linter.unusedVariables false
namespace Go.Proofs.Ytgopdfbmddkpfaa
open Go.RowKit Go.Fh Go.Ag

theorem and_cases6 (a b c d e : Bool) : a = false ∨ (a = true ∧ b = false) ∨ (a = true ∧ b = true ∧ c = false) ∨ (a = true ∧ b = true ∧ c = true ∧ d = false) ∨ (a = true ∧ b = true ∧ c = true ∧ d = true ∧ e = true) ∨ (a = true ∧ b = true ∧ c = true ∧ d = true ∧ e = false) := by
  cases a <;> cases b <;> cases c <;> cases d <;> cases e <;> simp

theorem badAt_get {l : List (Int × Int)} {k : Nat} (hk : k < l.length) : badAt l k = ((!inB l[k].1 0 20000 || !inB l[k].2 l[k].1 20000) || (decide (0 < k) && decide (l[k].1 ≤ (l.getD (k - 1) (0, 0)).2 + 1))) := by
  have : l.getD k (0, 0) = l[k] := by simp [hk]
  rw [badAt, this]

set_option maxHeartbeats 2000000 in
theorem wrongS_any (s : SubD) (A : Option Addr) (c : Nat) (w : World) (hl : s.hol.length ≤ 9223372036854775807) (hA : Sl enc2 2 w w.heap.size A s.hol) :
    Calls Try.prog 67 #[.agg (subV s A c)] w fun e w' => e = .returned (.bool (wrongS s)) ∧ Below w.heap.size w w' := by
  obtain ⟨id, lo, hi, days, hol⟩ := s
  unfold subV
  dsimp only at *
  have HA := Lib.hid hA
  clear hA
  rcases and_cases6 (inB id 0 1000000) (inB lo 0 20000) (inB hi lo 20000) (inB days 1 127) (decide (20 < hol.length)) with h1 | ⟨h1, h2⟩ | ⟨h1, h2, h3⟩ | ⟨h1, h2, h3, h4⟩ | ⟨h1, h2, h3, h4, h5⟩ | ⟨h1, h2, h3, h4, h5⟩
  iterate 4
    · go_enter Try.func67, Try.ntmps67
      go_wp2_with (go_at_call 48; refine (within_any _ _ _ _).mono ?_; rintro e w' ⟨rfl, rfl⟩)
      go_ret
      exact ⟨ret_bool (by simp [wrongS, *]), (Below.refl _ _).alloc (Nat.le_refl _) _⟩
  · have h5' : 20 < hol.length := by simpa using h5
    go_enter Try.func67, Try.ntmps67
    go_wp2_with (go_at_call 48; refine (within_any _ _ _ _).mono ?_; rintro e w' ⟨rfl, rfl⟩)
    go_ret
    exact ⟨ret_bool (by simp [wrongS, h5']), (Below.refl _ _).alloc (Nat.le_refl _) _⟩
  · have h5' : hol.length ≤ 20 := by simpa using h5
    have hb0 : Below w.heap.size w (w.alloc (.cells #[.int .i64 id, .int .i64 lo, .int .i64 hi, .int .i64 days, .slice A hol.length c] 63)) := (Below.refl _ _).alloc (Nat.le_refl _) _
    have hk := Blk.new w 63 #[.int .i64 id, .int .i64 lo, .int .i64 hi, .int .i64 days, .slice A hol.length c]
    have HK := Lib.hid hk
    have hbad : wrongS ⟨id, lo, hi, days, hol⟩ = (List.range hol.length).any (badAt hol) := by simp [wrongS, h1, h2, h3, h4]; intro h; omega
    have HBAD := Lib.hid hbad
    clear hk hbad h5
    go_enter Try.func67, Try.ntmps67
    go_wp2_with (go_at_call 48; refine (within_any _ _ _ _).mono ?_; rintro e w' ⟨rfl, rfl⟩)
    clear h1 h2 h3 h4
    go_loopw [38] (fun i wr => ∃ k : Nat, k ≤ hol.length ∧ i = .int .i64 k ∧ Hid (∀ j, j < k → badAt hol j = false) ∧ Below (w.alloc (.cells #[.int .i64 id, .int .i64 lo, .int .i64 hi, .int .i64 days, .slice A hol.length c] 63)).heap.size (w.alloc (.cells #[.int .i64 id, .int .i64 lo, .int .i64 hi, .int .i64 days, .slice A hol.length c] 63)) wr) (fun i _ => hol.length - (intOf i).toNat)
    case atStart => exact ⟨0, Nat.zero_le _, rfl, fun j hj => by omega, Below.refl _ _⟩
    case round =>
      obtain ⟨k, hk, rfl, HN, hW⟩ := hrel
      have hbr := hb0.trans (hW.mono hb0.size)
      have kb := HK.out.below hW (by simp)
      have u4 := kb.cell 4
      simp at u4
      have hsz : w.heap.size < wr.heap.size := kb.lt
      clear kb
      by_cases hlt : k < hol.length
      · obtain ⟨b, off, rfl, hb, c0, c1⟩ := (HA.out.below hbr).at2 hlt
        have hbb : b < wr.heap.size := by omega
        have hget := badAt_get hlt
        have HG := Lib.hid hget
        have hstop : badAt hol k = true → (List.range hol.length).any (badAt hol) = true := fun h => List.any_eq_true.2 ⟨k, List.mem_range.2 hlt, h⟩
        have HS := Lib.hid hstop
        have hgo : badAt hol k = false → ∀ j, j < k + 1 → badAt hol j = false := fun h j hj => by
          by_cases e : j = k
          · rw [e]; exact h
          · exact HN.out j (by omega)
        have HGO := Lib.hid hgo
        clear hget hstop hgo
        cases a1 : inB hol[k].1 0 20000
        · go_wp2_with fail
          go_quiet ((go_at_call 48; exact Calls.quiet_of_same ((within_any _ _ _ _).mono (fun e w' he => ⟨he.1, he.2.symm⟩))))
          go_wp2_with fail
          go_ret
          exact ⟨ret_bool (by rw [HBAD.out, HS.out (by rw [HG.out, a1]; simp)]), below_drewN (hbr.alloc hbr.size _) _⟩
        · cases a2 : inB hol[k].2 hol[k].1 20000
          · go_wp2_with fail
            go_quiet ((go_at_call 48; exact Calls.quiet_of_same ((within_any _ _ _ _).mono (fun e w' he => ⟨he.1, he.2.symm⟩))))
            go_wp2_with fail
            go_ret
            exact ⟨ret_bool (by rw [HBAD.out, HS.out (by rw [HG.out, a1, a2]; simp)]), below_drewN (hbr.alloc hbr.size _) _⟩
          · by_cases hpos : ¬ 0 < k
            · have hd0 : decide ((0 : Int) < (k : Int)) = false := decide_eq_false (by omega)
              go_wp2_with fail
              go_quiet ((go_at_call 48; exact Calls.quiet_of_same ((within_any _ _ _ _).mono (fun e w' he => ⟨he.1, he.2.symm⟩))))
              go_wp2_with fail
              go_roundw
              case rel => exact ⟨k + 1, by omega, by go_num, HGO.out (by rw [HG.out, a1, a2]; simp [hpos]), below_drewN (hW.alloc hW.size _) _⟩
              case measure => simp [intOf]; omega
            · obtain ⟨j, rfl⟩ : ∃ j, k = j + 1 := ⟨k - 1, by omega⟩
              have hprev := (badAt_false (HN.out j (by omega))).2.1
              have hprev0 := (badAt_false (HN.out j (by omega))).1
              have hgj : hol.getD j (0, 0) = hol[j] := by simp [show j < hol.length by omega]
              rw [hgj] at hprev hprev0
              obtain ⟨b', off', e, _, d0, d1⟩ := (HA.out.below hbr).at2 (k := j) (by omega)
              injection e with e; injection e with e1 e2 _; subst e1; subst e2
              have hget' : badAt hol (j + 1) = decide (hol[j + 1].1 ≤ hol[j].2 + 1) := by rw [HG.out, a1, a2]; simp [show j < hol.length by omega]
              have HG' := Lib.hid hget'
              have g1 := IntWalk.i64_in ((hol[j].2) + 1) (by omega)
              have g2 := IntWalk.i64_in ((j : Int) + 1 - 1) (by omega)
              have g3 : ((j : Int) < (hol.length : Int)) := by omega
              have g4 : (0 : Int) ≤ (j : Int) := by omega
              have hd0 : decide ((0 : Int) < (j : Int) + 1) = true := decide_eq_true (by omega)
              clear hget' hgj
              by_cases hc : hol[j + 1].1 ≤ hol[j].2 + 1
              · have hd : decide (hol[j + 1].1 ≤ hol[j].2 + 1) = true := by simp [hc]
                go_wp2_with fail
                go_quiet ((go_at_call 48; exact Calls.quiet_of_same ((within_any _ _ _ _).mono (fun e w' he => ⟨he.1, he.2.symm⟩))))
                go_wp2_with fail
                go_ret
                exact ⟨ret_bool (by rw [HBAD.out, HS.out (by rw [HG'.out, hd])]), below_drewN (hbr.alloc hbr.size _) _⟩
              · have hd : decide (hol[j + 1].1 ≤ hol[j].2 + 1) = false := by simpa using hc
                go_wp2_with fail
                go_quiet ((go_at_call 48; exact Calls.quiet_of_same ((within_any _ _ _ _).mono (fun e w' he => ⟨he.1, he.2.symm⟩))))
                go_wp2_with fail
                go_roundw
                case rel => exact ⟨j + 1 + 1, by omega, by go_num, HGO.out (by rw [HG'.out, hd]), below_drewN (hW.alloc hW.size _) _⟩
                case measure => simp [intOf]; omega
      · go_wp2_with fail
        go_ret
        have hall : (List.range hol.length).any (badAt hol) = false := by
          rw [List.any_eq_false]; intro j hj
          have := HN.out j (by have := List.mem_range.1 hj; omega)
          simp [this]
        exact ⟨ret_bool (by rw [HBAD.out, hall]), hbr⟩

set_option maxHeartbeats 1000000 in
theorem copiesR_any (s : SubD) (A : Option Addr) (c : Nat) (a b : Int) (w : World) (hl : s.hol.length ≤ 9223372036854775807) (hA : Sl enc2 2 w w.heap.size A s.hol) :
    Calls Try.prog 34 #[.agg (subV s A c), .int .i64 a, .int .i64 b] w fun e w' => e = .returned (.tuple #[.int .i64 (copiesR s a b).1, .int .i64 (copiesR s a b).2]) ∧ Below w.heap.size w w' := by
  have hb0 : Below w.heap.size w (w.alloc (.cells (subV s A c) 63)) := (Below.refl _ _).alloc (Nat.le_refl _) _
  have hk := Blk.new w 63 (subV s A c)
  have HK := Lib.hid hk
  have HA := Lib.hid hA
  have hW := wrongS_any s A c _ hl ((hA.below hb0).mono hb0.size)
  have HW := Lib.hid hW
  clear hW hA hk
  cases h1 : wrongS s
  · rw [h1] at HW
    have ok := (OkS_iff s).1 h1
    have HOK := Lib.hid ok
    clear ok
    cases h2 : periodB a b
    · have hr : copiesR s a b = (0, 6) := by simp [copiesR, h1, h2]
      have HR := Lib.hid hr
      clear hr
      unfold subV at *
      go_enter Try.func34, Try.ntmps34
      go_wp2_with (first | (go_at_call 67; refine HW.out.mono ?_; rintro e w1 ⟨rfl, hb1⟩) | (go_at_call 70; refine (period_any a b _).mono ?_; rintro e w1 ⟨rfl, rfl⟩))
      go_ret2
      exact ⟨by rw [HR.out]; rfl, hb0.trans (hb1.mono hb0.size)⟩
    · have hr : copiesR s a b = (copiesB s a b, 0) := by simp [copiesR, h1, h2]
      have HR := Lib.hid hr
      have hp : (0 ≤ a ∧ a ≤ 20000) ∧ (a ≤ b ∧ b ≤ 20000) := by simpa [periodB, inB] using h2
      obtain ⟨⟨p1, p2⟩, p3, p4⟩ := hp
      clear hr
      unfold subV at *
      go_enter Try.func34, Try.ntmps34
      go_wp2_with fail
      refine HW.out.mono ?_
      rintro e w1 ⟨rfl, hb1⟩
      have kb := HK.out.below hb1 (by simp)
      have u0 := kb.cell 0
      have u1 := kb.cell 1
      have u2 := kb.cell 2
      have u3 := kb.cell 3
      have u4 := kb.cell 4
      simp at u0 u1 u2 u3 u4
      have hbw := hb0.trans (hb1.mono hb0.size)
      clear kb
      go_wp2_with (go_at_call 70; refine (period_any a b _).mono ?_; rintro e w1 ⟨rfl, rfl⟩)
      refine (copies_any s A c a b w1 HOK.out p1 p2 p4 (by omega) ((HA.out.below hbw).mono hbw.size)).mono ?_
      rintro e w2 ⟨rfl, hb2⟩
      go_wp2_with fail
      go_ret2
      exact ⟨by rw [HR.out]; rfl, hbw.trans (hb2.mono hbw.size)⟩
  · rw [h1] at HW
    have hr : copiesR s a b = (0, 120) := by simp [copiesR, h1]
    have HR := Lib.hid hr
    clear hr
    unfold subV at *
    go_enter Try.func34, Try.ntmps34
    go_wp2_with (go_at_call 67; refine HW.out.mono ?_; rintro e w1 ⟨rfl, hb1⟩)
    go_ret2
    exact ⟨by rw [HR.out]; rfl, hb0.trans (hb1.mono hb0.size)⟩
end Go.Proofs.Ytgopdfbmddkpfaa
