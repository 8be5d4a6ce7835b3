/- The iterator of a method's days; conditions: none. -/
import Derived.RangeFuncBox
import Derived.RangeFuncLeaves
import Derived.RangeFuncFrom
import Derived.Shelf.Abstract
import Derived.WalkKit
import Derived.OwnWalkIn
import Derived.TacticsInMore
import Derived.LoopNIn
import Derived.LoopIn
import Derived.Test.YtgopdfbmddkpfaaSpec5
import Derived.Test.YtgopdfbmddkpfaaProg
import Derived.Lib.Hide
set_option linter.unusedSimpArgs false
set_option linter.unusedVariables false
namespace Go.Proofs.Ytgopdfbmddkpfaa
open Go.RowKit Go.Shelf Go.Ag
attribute [local go_sem] Oper.semAt_some

/-- blocks B1 and B2 hold what they held -/
def Kpt (B1 B2 : Nat) (A B : World) : Prop := (∀ i, B.cell? ⟨B1, i, none⟩ = A.cell? ⟨B1, i, none⟩) ∧ ∀ i, B.cell? ⟨B2, i, none⟩ = A.cell? ⟨B2, i, none⟩
theorem Kpt.refl (B1 B2 : Nat) (A : World) : Kpt B1 B2 A A := ⟨fun _ => rfl, fun _ => rfl⟩
theorem Kpt.trans {B1 B2 : Nat} {A B C : World} (h : Kpt B1 B2 A B) (k : Kpt B1 B2 B C) : Kpt B1 B2 A C := ⟨fun i => (k.1 i).trans (h.1 i), fun i => (k.2 i).trans (h.2 i)⟩
theorem Kpt.of_below {B1 B2 n : Nat} {A B : World} (h : Below n A B) (h1 : B1 < n) (h2 : B2 < n) : Kpt B1 B2 A B := ⟨fun i => h.cell (p := ⟨B1, i, none⟩) h1, fun i => h.cell (p := ⟨B2, i, none⟩) h2⟩
theorem kpt_b {B1 B2 : Nat} {w : World} (h1 : B1 < w.heap.size) (h2 : B2 < w.heap.size) (W : World) (l : Nat) (o o' : Obj) (hl : w.heap.size ≤ l) (h : W.heap[l]? = some o) (a : o.isCells = false) (b : o.isWalk = false) : Kpt B1 B2 W (W.putObj l o') :=
  Kpt.of_below (belowK_b (w := w) (Nat.le_refl _) W l o o' hl h a b) h1 h2

set_option maxRecDepth 100000 in
set_option maxHeartbeats 2000000 in
theorem iter_in (F : Fence) (n : Nat) (h7 : F.fn 138) (hro : F.round = none) (hn : 1 ≤ n) (l B1 B2 : Nat) (m : Int × Int) (day : Int) (hd0 : 0 ≤ day) (hd1 : day ≤ 100000) (hm0 : 0 ≤ m.2) (hm1 : m.2 ≤ 1000) (J Jx : List (DayI day) → World → Prop)
    (hY : ∀ pre x W, J pre W → pre.length < lookN m day → YieldAt F (n - 1) Try.prog l #[.int .i64 x.1] W fun e W' =>
      (e = .returned (.bool true) ∧ J (pre ++ [x]) W' ∧ Kpt B1 B2 W W') ∨ (e = .returned (.bool false) ∧ Jx (pre ++ [x]) W'))
    (W : World) (hk1 : W.cell? ⟨B1, 0, none⟩ = some (.int .i64 m.1)) (hk2 : W.cell? ⟨B1, 1, none⟩ = some (.int .i64 m.2)) (hk3 : W.cell? ⟨B2, 0, none⟩ = some (.int .i64 day)) (h0 : J [] W) :
    CallsIn F n Try.prog 138 #[.func (.yield l) #[] #[], .pointer (some ⟨B1, 0, none⟩), .pointer (some ⟨B2, 0, none⟩)] W fun e W' => (∃ v, e = .returned v) ∧
      ((∃ ys, ys = uptoF (fD m day) (lookN m day) ∧ J ys W') ∨ (∃ pre, (∃ k, k ≤ lookN m day ∧ pre = uptoF (fD m day) k) ∧ Jx pre W')) := by
  refine callsIn_of_wp Try.func138 rfl h7 ?_ hro
  simp only [Try.ntmps138, List.size_toArray, List.length_cons, List.length_nil, Nat.reduceAdd, Nat.reduceSub, Array.replicate_succ, Array.replicate_zero, List.push_toArray, List.append_toArray, List.nil_append, List.cons_append]
  by_cases h3 : m.1 = 3
  · have hs : stepM m = 7 := by simp [stepM, h3]
    have hlk := fun k => lookN_lt hd0 hm0 k
    simp only [hs] at hlk
    have hda : ∀ k, dayAt m day k = day - ((k : Int) + 1) * 7 := fun k => by simp [dayAt, hs]
    have HLK := Lib.hid hlk
    have HDA := Lib.hid hda
    clear hlk hda hs
    gi_wp2
    gi_loopw [5] (fun i wr => ∃ k : Nat, k ≤ lookN m day ∧ i = .int .i64 ((k : Int) + 1) ∧ J (uptoF (fD m day) k) wr ∧ Kpt B1 B2 W wr) (fun i _ => 1001 - (intOf i).toNat)
    case atStart => exact ⟨0, Nat.zero_le _, rfl, h0, Kpt.refl _ _ _⟩
    case round =>
      obtain ⟨k, hk, rfl, hJs, hnx⟩ := hrel
      have e1 : wr.cell? ⟨B1, 1, none⟩ = some (.int .i64 m.2) := (hnx.1 1).trans hk2
      have e3 : wr.cell? ⟨B2, 0, none⟩ = some (.int .i64 day) := (hnx.2 0).trans hk3
      by_cases hA : (k : Int) + 1 ≤ m.2
      · by_cases hB : 0 ≤ day - ((k : Int) + 1) * 7
        · have hlt : k < lookN m day := (HLK.out k).2 ⟨hA, hB⟩
          have hx : day ≤ 0 ∨ (0 ≤ day - ((k : Int) + 1) * 7 ∧ day - ((k : Int) + 1) * 7 < day) := .inr ⟨hB, by omega⟩
          have HFD := Lib.hid (fD_eq (m := m) (k := k) hx ⟨hB, by omega⟩ (HDA.out k))
          obtain ⟨fn, tmps, assign, body, hy, hR⟩ := hY _ ⟨day - ((k : Int) + 1) * 7, hx⟩ wr hJs (by rw [uptoF_length]; exact hlt)
          dsimp only at hy
          have hw1 := IntWalk.i64_in (((k : Int) + 1) * 7) (by omega)
          have hw2 := IntWalk.i64_in (day - ((k : Int) + 1) * 7) (by omega)
          gi_wp2
          refine hR.mono ?_
          rintro e W3 (⟨rfl, hJ3, hk3⟩ | ⟨rfl, hJx3⟩)
          · gi_wp2
            go_roundw
            case rel => exact ⟨k + 1, by omega, by simp, by rw [uptoF_succ, HFD.out]; exact hJ3, hnx.trans hk3⟩
            case measure => simp [intOf]; omega
          · gi_wp2
            refine bodyPost_ret (results_none rfl _ _ _) rfl ?_
            exact ⟨⟨_, rfl⟩, .inr ⟨_, ⟨k + 1, by omega, by rw [uptoF_succ, HFD.out]⟩, hJx3⟩⟩
        · obtain rfl : k = lookN m day := by have := (HLK.out k).1; omega
          gi_wp2
          go_end0
          exact ⟨⟨_, rfl⟩, .inl hJs⟩
      · obtain rfl : k = lookN m day := by have := (HLK.out k).1; omega
        gi_wp2
        go_end0
        exact ⟨⟨_, rfl⟩, .inl hJs⟩
  · have hs : stepM m = 1 := by simp [stepM, h3]
    have hlk := fun k => lookN_lt hd0 hm0 k
    simp only [hs, Int.mul_one] at hlk
    have hda : ∀ k, dayAt m day k = day - ((k : Int) + 1) := fun k => by simp [dayAt, hs]
    have HLK := Lib.hid hlk
    have HDA := Lib.hid hda
    clear hlk hda hs
    have h3b : (m.1 == 3) = false := by simpa using h3
    gi_wp2
    gi_loopw [5] (fun i wr => ∃ k : Nat, k ≤ lookN m day ∧ i = .int .i64 ((k : Int) + 1) ∧ J (uptoF (fD m day) k) wr ∧ Kpt B1 B2 W wr) (fun i _ => 1001 - (intOf i).toNat)
    case atStart => exact ⟨0, Nat.zero_le _, rfl, h0, Kpt.refl _ _ _⟩
    case round =>
      obtain ⟨k, hk, rfl, hJs, hnx⟩ := hrel
      have e1 : wr.cell? ⟨B1, 1, none⟩ = some (.int .i64 m.2) := (hnx.1 1).trans hk2
      have e3 : wr.cell? ⟨B2, 0, none⟩ = some (.int .i64 day) := (hnx.2 0).trans hk3
      by_cases hA : (k : Int) + 1 ≤ m.2
      · by_cases hB : 0 ≤ day - ((k : Int) + 1)
        · have hlt : k < lookN m day := (HLK.out k).2 ⟨hA, hB⟩
          have hx : day ≤ 0 ∨ (0 ≤ day - ((k : Int) + 1) ∧ day - ((k : Int) + 1) < day) := .inr ⟨hB, by omega⟩
          have HFD := Lib.hid (fD_eq (m := m) (k := k) hx ⟨hB, by omega⟩ (HDA.out k))
          obtain ⟨fn, tmps, assign, body, hy, hR⟩ := hY _ ⟨day - ((k : Int) + 1), hx⟩ wr hJs (by rw [uptoF_length]; exact hlt)
          dsimp only at hy
          have hw1 := IntWalk.i64_in ((k : Int) + 1) (by omega)
          have hw2 := IntWalk.i64_in (day - ((k : Int) + 1)) (by omega)
          gi_wp2
          refine hR.mono ?_
          rintro e W3 (⟨rfl, hJ3, hk3⟩ | ⟨rfl, hJx3⟩)
          · gi_wp2
            go_roundw
            case rel => exact ⟨k + 1, by omega, by simp, by rw [uptoF_succ, HFD.out]; exact hJ3, hnx.trans hk3⟩
            case measure => simp [intOf]; omega
          · gi_wp2
            refine bodyPost_ret (results_none rfl _ _ _) rfl ?_
            exact ⟨⟨_, rfl⟩, .inr ⟨_, ⟨k + 1, by omega, by rw [uptoF_succ, HFD.out]⟩, hJx3⟩⟩
        · obtain rfl : k = lookN m day := by have := (HLK.out k).1; omega
          gi_wp2
          go_end0
          exact ⟨⟨_, rfl⟩, .inl hJs⟩
      · obtain rfl : k = lookN m day := by have := (HLK.out k).1; omega
        gi_wp2
        go_end0
        exact ⟨⟨_, rfl⟩, .inl hJs⟩
end Go.Proofs.Ytgopdfbmddkpfaa
