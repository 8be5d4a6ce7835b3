/- Contracts: Best's closure, first; conditions: none. -/
import Derived.Test.YtgopdfbmddkpfaaA2
import Derived.Test.YtgopdfbmddkpfaaE2
import Derived.Test.YtgopdfbmddkpfaaShelf
import Derived.Deep.RegionHeld3
import Derived.Deep.DeepCutAuto
import Derived.Deep.DeepMust
import Derived.Lib.OwnBridge
set_option linter.unusedSimpArgs false
set_option linter.unusedVariables false
namespace Go.Ag
def firstK (v : Int → Int) (l : List Int) : Nat → Nat
  | 0 => 0
  | k + 1 => if v (l.getD k 0) < v (l.getD (firstK v l k) 0) then k else firstK v l k
theorem firstK_lt {v : Int → Int} {l : List Int} (h : 0 < l.length) {k : Nat} (hk : k ≤ l.length) : firstK v l k < l.length := by
  induction k with
  | zero => exact h
  | succ k ih =>
    unfold firstK
    split
    · omega
    · exact ih (by omega)
end Go.Ag
namespace Go.Proofs.Ytgopdfbmddkpfaa
open Go.RowKit Go.Fh Go.Ag

set_option maxRecDepth 20000 in
set_option maxHeartbeats 2000000 in
theorem first_any (A : Option Addr) (c : Nat) (l : List Int) (v : Int → Int) (p1 p2 p3 : Value) (w : World) (hl : l.length ≤ 9223372036854775807) (hA : Sl encInt 1 w w.heap.size A l)
    (hv : ∀ W x, x ∈ l → Below w.heap.size w W → Calls Try.prog 43 #[.int .i64 x, p1, p2, p3] W fun e w' => e = .returned (.int .i64 (v x)) ∧ Below W.heap.size W w') :
    Calls Try.prog 42 #[.slice A l.length c, .func (.func 43) #[] #[p1, p2, p3]] w fun e w' => e = .returned (.int .i64 (firstK v l l.length : Nat)) ∧ Below w.heap.size w w' := by
  have HA := Lib.hid hA
  have HV := Lib.hid hv
  clear hA hv
  go_enter Try.func42, Try.ntmps42
  go_wp2_with fail
  go_loopw [5, 9] (fun b i wr => ∃ k : Nat, k ≤ l.length ∧ i = .int .i64 k ∧ b = .int .i64 (firstK v l k : Nat) ∧ Below w.heap.size w wr) (fun _ i _ => l.length - (intOf i).toNat)
  case atStart => exact ⟨0, Nat.zero_le _, rfl, rfl, Below.refl _ _⟩
  case round =>
    obtain ⟨k, hk, rfl, rfl, hB⟩ := hrel
    by_cases hlt : k < l.length
    · have hbl := firstK_lt (v := v) (l := l) (by omega) hk
      have hst : firstK v l (k + 1) = if v (l.getD k 0) < v (l.getD (firstK v l k) 0) then k else firstK v l k := rfl
      generalize firstK v l k = bk at *
      obtain ⟨b, off, rfl, hb, c1⟩ := (HA.out.below hB).at1 hlt
      obtain ⟨b', off', e, _, c2⟩ := (HA.out.below hB).at1 hbl
      injection e with e; injection e with e1 e2 e3; subst e1; subst e2
      have HV1 := Lib.hid (fun W hW => HV.out W _ (List.getElem_mem hlt) hW)
      have HV2 := Lib.hid (fun W hW => HV.out W _ (List.getElem_mem hbl) hW)
      have e1 : l.getD k 0 = l[k] := by simp [hlt]
      have e2 : l.getD bk 0 = l[bk] := by simp [hbl]
      rw [e1, e2] at hst
      generalize l[k] = x1 at *
      generalize l[bk] = x2 at *
      have HST := Lib.hid hst
      have hz : b < wr.heap.size := by have := hB.size; omega
      have hbw := hB
      clear hst e1 e2 hB
      go_upto_region 5 with fail
      go_cut [24] (fun v24 wx => v24 = .bool (decide (v x1 < v x2)) ∧ Below w.heap.size w wx)
      case first =>
        go_region_with (first
          | (go_at_call 43; refine (HV1.out _ (by repeat (first | exact hbw | refine Below.drew ?_))).mono ?_; rintro e w5 ⟨rfl, hb5⟩; have c1 : w5.cell? ⟨b, off + k, none⟩ = some (.int .i64 x1) := ((bcell hb5).1 b _ hz).trans c1; have c2 : w5.cell? ⟨b, off + bk, none⟩ = some (.int .i64 x2) := ((bcell hb5).1 b _ hz).trans c2; have hbw : Below w.heap.size w w5 := Below.trans (by repeat (first | exact hbw | refine Below.drew ?_)) (hb5.mono hbw.size); have hz : b < w5.heap.size := (by have := hbw.size; omega))
          | (go_at_call 43; refine (HV2.out _ (by repeat (first | exact hbw | refine Below.drew ?_))).mono ?_; rintro e w5 ⟨rfl, hb5⟩; have c1 : w5.cell? ⟨b, off + k, none⟩ = some (.int .i64 x1) := ((bcell hb5).1 b _ hz).trans c1; have c2 : w5.cell? ⟨b, off + bk, none⟩ = some (.int .i64 x2) := ((bcell hb5).1 b _ hz).trans c2; have hbw : Below w.heap.size w w5 := Below.trans (by repeat (first | exact hbw | refine Below.drew ?_)) (hb5.mono hbw.size); have hz : b < w5.heap.size := (by have := hbw.size; omega)))
        all_goals go_wp2
        all_goals go_meet
        all_goals exact ⟨rfl, hbw⟩
      case rest =>
        obtain ⟨rfl, hbc⟩ := hcut
        by_cases hc : v x1 < v x2
        · have hst := HST.out
          rw [if_pos hc] at hst
          have HS := Lib.hid hst
          clear hst
          go_wp2_with fail
          go_roundw
          case rel => exact ⟨k + 1, by omega, by go_num, int_eq (by rw [HS.out]), hbc⟩
          case measure => simp [intOf]; omega
        · have hst := HST.out
          rw [if_neg hc] at hst
          have HS := Lib.hid hst
          clear hst
          go_wp2_with fail
          go_roundw
          case rel => exact ⟨k + 1, by omega, by go_num, int_eq (by rw [HS.out]), hbc⟩
          case measure => simp [intOf]; omega
    · obtain rfl : k = l.length := by omega
      go_wp2_with fail
      go_ret
      exact ⟨rfl, hB⟩
end Go.Proofs.Ytgopdfbmddkpfaa
