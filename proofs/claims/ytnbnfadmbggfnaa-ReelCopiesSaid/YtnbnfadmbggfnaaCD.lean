/- Contracts of count, out and Equal of spans; conditions: spans in memory. -/
import Derived.Test.YtnbnfadmbggfnaaCC
set_option linter.unusedSimpArgs false
set_option linter.unusedVariables false
namespace Go.Rl
/-- some interval of the list holds k -/
def outS (l : List (Int × Int)) (k : Int) : Bool := l.any fun s => decide (s.1 ≤ k ∧ k ≤ s.2)
theorem outS_iff {l : List (Int × Int)} {k : Int} : outS l k = true ↔ cvS l k := by
  unfold outS cvS
  rw [List.any_eq_true]
  simp
/-- the first interval that holds k -/
def idxS (l : List (Int × Int)) (k : Int) : Nat → Int
  | 0 => -1
  | n + 1 => if (l[l.length - (n + 1)]?).map (fun s => decide (s.1 ≤ k ∧ k ≤ s.2)) = some true then (l.length - (n + 1) : Nat) else idxS l k n
end Go.Rl
namespace Go.Proofs.Ytnbnfadmbggfnaa
open Go.RowKit Go.Fh Go.Rl
set_option maxHeartbeats 1000000 in
theorem equalSpans_any (A B : Option Addr) (c d : Nat) (l m : List (Int × Int)) (w : World) (hl : l.length ≤ 9223372036854775807) (hm : m.length ≤ 9223372036854775807) (hA : Sl enc2 2 w w.heap.size A l) (hB : Sl enc2 2 w w.heap.size B m) :
    Calls Try.prog 45 #[.slice A l.length c, .slice B m.length d] w fun e w' => e = .returned (.bool (decide (l = m))) ∧ Below w.heap.size w w' := by
  by_cases hlen : l.length = m.length
  · have hb0 : ((l.length : Int) != (m.length : Int)) = false := by simp [hlen]
    have HL := Lib.hid hlen
    clear hlen
    go_enter Try.func45, Try.ntmps45
    go_wp2
    go_loopw [13] (fun i wr => ∃ k : Nat, k ≤ l.length ∧ i = .int .i64 k ∧ Hid (l.take k = m.take k) ∧ Below w.heap.size w wr) (fun i _ => l.length - (intOf i).toNat)
    case atStart => exact ⟨0, Nat.zero_le _, rfl, by simp [Hid], Below.refl _ _⟩
    case round =>
      obtain ⟨k, hk, rfl, HK, hW⟩ := hrel
      by_cases hlt : k < l.length
      · have hlt2 : k < m.length := by have := HL.out; omega
        obtain ⟨b, off, rfl, hb, c0, c1⟩ := (hA.below hW).at2 hlt
        obtain ⟨b2, off2, rfl, hb2, d0, d1⟩ := (hB.below hW).at2 hlt2
        obtain ⟨⟨x1, x2⟩, hx⟩ : ∃ x, x = l[k] := ⟨_, rfl⟩
        obtain ⟨⟨y1, y2⟩, hy⟩ : ∃ y, y = m[k] := ⟨_, rfl⟩
        rw [← hx] at c0 c1
        rw [← hy] at d0 d1
        dsimp only at c0 c1 d0 d1
        have HX := Lib.hid hx
        have HY := Lib.hid hy
        clear hx hy
        by_cases he : x1 = y1 ∧ x2 = y2
        · obtain ⟨rfl, rfl⟩ := he
          go_wp2
          go_quiet (fail)
          go_wp2
          go_roundw
          case rel => exact ⟨k + 1, by omega, by go_num, by unfold Hid; rw [List.take_succ_eq_append_getElem hlt, List.take_succ_eq_append_getElem hlt2, HK.out, ← HX.out, ← HY.out], below_drewN hW _⟩
          case measure => simp [intOf]; omega
        · have hlm : l ≠ m := by intro e; subst e; have := HX.out.trans HY.out.symm; injection this with h1 h2; exact he ⟨h1, h2⟩
          have HE := Lib.hid hlm
          have t1 : (x1 == y1 && x2 == y2) = false := by simp; omega
          by_cases h1 : x1 = y1
          · have h2 : ¬ x2 = y2 := fun h => he ⟨h1, h⟩
            subst h1
            have t2 : (x2 == y2) = false := by simpa using h2
            clear he hlm t1
            go_wp2
            go_quiet (fail)
            go_wp2
            go_ret
            exact ⟨ret_bool (by simp [HE.out]), below_drewN hW _⟩
          · have t2 : (x1 == y1) = false := by simpa using h1
            clear he hlm t1
            go_wp2
            go_quiet (fail)
            go_wp2
            go_ret
            exact ⟨ret_bool (by simp [HE.out]), below_drewN hW _⟩
      · go_wp2
        go_ret
        have e1 : l.take k = l := List.take_of_length_le (by omega)
        have e2 : m.take k = m := List.take_of_length_le (by have := HL.out; omega)
        exact ⟨ret_bool (by have := HK.out; rw [e1, e2] at this; simp [this]), hW⟩
  · have hb0 : ((l.length : Int) != (m.length : Int)) = true := by simp; omega
    have hlm : l ≠ m := by intro e; subst e; exact hlen rfl
    have HE := Lib.hid hlm
    clear hlen hlm
    go_enter Try.func45, Try.ntmps45
    go_wp2
    go_ret
    exact ⟨ret_bool (by simp [HE.out]), Below.refl _ _⟩
set_option maxHeartbeats 1000000 in
theorem count_any (A : Option Addr) (c : Nat) (l : List (Int × Int)) (w : World) (hl : l.length ≤ 1000000) (hb : ∀ s ∈ l, 0 ≤ s.1 ∧ s.1 ≤ s.2 ∧ s.2 ≤ 1000000000) (hA : Sl enc2 2 w w.heap.size A l) :
    Calls Try.prog 16 #[.slice A l.length c] w fun e w' => e = .returned (.int .i64 (cntS l)) ∧ Hid (Below w.heap.size w w') := by
  obtain ⟨M, hM⟩ : ∃ M, M = l.length := ⟨_, rfl⟩
  have HM := Lib.hid hM
  have HB := Lib.hid hb
  have HA := Lib.hid hA
  obtain ⟨N, hN⟩ : ∃ N, N = cntS l := ⟨_, rfl⟩
  have HN := Lib.hid hN
  rw [← hM] at hl ⊢
  rw [← hN]
  clear hM hN hb hA
  go_enter Try.func16, Try.ntmps16
  go_wp2_with fail
  go_loopw [3, 8] (fun u i wr => ∃ (k : Nat) (q : Int), k ≤ M ∧ i = .int .i64 (k : Int) ∧ u = .int .i64 q ∧ Hid (N = q + cntS (l.drop k)) ∧ Hid (0 ≤ q ∧ q ≤ 1000000001 * (k : Int)) ∧ Hid (Below w.heap.size w wr)) (fun _ i _ => M - (intOf i).toNat)
  case atStart => exact ⟨0, 0, Nat.zero_le _, rfl, rfl, Lib.hid (by rw [List.drop_zero, HN.out]; omega), Lib.hid (by omega), Below.refl _ _⟩
  case round =>
    obtain ⟨k, q, hk, rfl, rfl, HNK, HQ, HBL⟩ := hrel
    by_cases hlt : k < M
    · have hkl : k < l.length := by have := HM.out; omega
      obtain ⟨b, off, hba, hbb, c0, c1⟩ := Sl.at2 (HA.out.below HBL.out) hkl
      subst hba
      have hx := HB.out _ (List.getElem_mem hkl)
      have hdr := HNK.out
      rw [List.drop_eq_getElem_cons hkl] at hdr
      obtain ⟨x, hxx⟩ : ∃ x, x = l[k] := ⟨_, rfl⟩
      rw [← hxx] at c0 c1 hx hdr
      obtain ⟨x1, x2⟩ := x
      dsimp only at c0 c1 hx
      rw [cntS] at hdr
      dsimp only at hdr
      have hq := HQ.out
      obtain ⟨g9, hg9⟩ : ∃ g, g = wr.heap.size := ⟨_, rfl⟩
      obtain ⟨w5, hw5⟩ : ∃ W, W = wr.alloc (.cells #[.int .i64 x1, .int .i64 x2] 43) := ⟨_, rfl⟩
      have k9 : Blk w5 g9 43 #[.int .i64 x1, .int .i64 x2] := by rw [hw5, hg9]; exact Blk.new _ _ _
      have hb5 : Below wr.heap.size wr w5 := by rw [hw5]; exact balR (Below.refl _ _) _
      have y0 := k9.cell 0
      have y1 := k9.cell 1
      simp at y0 y1
      have HB5 := Lib.hid (HBL.out.trans (hb5.mono HBL.out.size))
      have HW5 := Lib.hid hw5
      have HG9 := Lib.hid hg9
      have i0 : (0 : Int) ≤ (k : Int) := by omega
      have i1 : (k : Int) < (M : Int) := by omega
      have s1 : IntKind.i64.wrap (x2 - x1) = x2 - x1 := by rw [IntKind.wrap_i64]; omega
      have s2 : IntKind.i64.wrap (x2 - x1 + 1) = x2 - x1 + 1 := by rw [IntKind.wrap_i64]; omega
      have s3 : IntKind.i64.wrap (q + (x2 - x1 + 1)) = q + (x2 - x1 + 1) := by rw [IntKind.wrap_i64]; omega
      have HNQ := Lib.hid (show N = q + (x2 - x1 + 1) + cntS (l.drop (k + 1)) from by omega)
      have HQ2 := Lib.hid (show 0 ≤ q + (x2 - x1 + 1) ∧ q + (x2 - x1 + 1) ≤ 1000000001 * ((k + 1 : Nat) : Int) from by omega)
      clear hxx hw5 hg9 k9 hb5 hdr
      go_upto_region 5 with fail
      rw [← HW5.out, ← HG9.out]
      clear c0 c1
      go_wp2_with fail
      go_roundw
      case rel => exact ⟨k + 1, q + (x2 - x1 + 1), by omega, by go_num, rfl, HNQ, HQ2, HB5⟩
      case measure => simp [intOf]; omega
    · have hkm : k = M := by omega
      subst hkm
      have HNQ := Lib.hid (show N = q from by have := HNK.out; rw [List.drop_of_length_le (by have := HM.out; omega)] at this; simpa [cntS] using this)
      go_wp2_with fail
      go_ret
      exact ⟨ret_int HNQ.out.symm, HBL⟩
end Go.Proofs.Ytnbnfadmbggfnaa
