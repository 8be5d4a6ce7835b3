/- Walk of AgentShares: it returns true and turns nothing that was there; conditions: none. -/
import Derived.Test.YtgopdfbmddkpfaaJ5
set_option linter.unusedSimpArgs false
set_option linter.unusedVariables false
namespace Go.Proofs.Ytgopdfbmddkpfaa
open Go.RowKit Go.Fh Go.Ag
set_option maxRecDepth 20000 in
set_option maxHeartbeats 2000000 in
theorem agentShares_walk (haw : ∀ w, Calls Try.prog 15 #[] w fun e w' => e = .returned (.bool true) ∧ Below w.heap.size w w') (A : Option Addr) (c : Nat) (l : List Ord3) (copies : Int) (S : Option Addr) (cs : Nat) (sh : List Int) (w : World) (hl : l.length * 24 ≤ 140737488355328) (hc1 : copies ≤ 9223372036854775807) (hA : Sl enc3 3 w w.heap.size A l) (hS : Sl encInt 1 w w.heap.size S sh) :
    Calls Try.prog 7 #[.slice A l.length c, .int .i64 copies, .slice S sh.length cs] w fun e w' => e = .returned (.bool true) ∧ Below w.heap.size w w' := by
  have HA := Lib.hid hA
  have H50 := Lib.hid (fun (w1 : World) (hb : Below w.heap.size w w1) (h6 : l.length ≤ 60) (h1 : sh.length ≤ 100) => sharedL_any A c l copies S cs sh w1 h6 h1 hc1 ((hA.below hb).mono hb.size) ((hS.below hb).mono hb.size))
  clear hA hS
  go_enter Try.func7, Try.ntmps7
  go_wp2_with fail
  go_loopw [7, 12] (fun n i wr => ∃ (k : Nat) (m : Int), k ≤ l.length ∧ i = .int .i64 k ∧ n = .int .i64 m ∧ 0 ≤ m ∧ m ≤ 10000 * k ∧ Below w.heap.size w wr) (fun _ i _ => l.length - (intOf i).toNat)
  case atStart => exact ⟨0, 0, Nat.zero_le _, rfl, rfl, by omega, by omega, Below.refl _ _⟩
  case round =>
    obtain ⟨k, m, hk, rfl, rfl, hm1, hm2, hB⟩ := hrel
    by_cases hlt : k < l.length
    · obtain ⟨b, off, rfl, hb, c0, c1, c2⟩ := (HA.out.below hB).at3 hlt
      obtain ⟨x, hx⟩ : ∃ x, x = l[k] := ⟨_, rfl⟩
      rw [← hx] at c0 c1 c2
      have hsz := hB.size
      have hbw : b < wr.heap.size := by omega
      have hBn := hB.alloc hB.size (.cells #[.int .i64 x.1, .int .i64 x.2.1, .int .i64 x.2.2] 44)
      have HX := Lib.hid hx
      have HBN := Lib.hid hBn
      have f1 := IntWalk.i64_in (m + min (max x.2.1 0) 10000) (by omega)
      clear hx hBn
      go_wp2_with fail
      go_roundw
      case rel => exact ⟨k + 1, m + min (max x.2.1 0) 10000, by omega, by go_num, rfl, by omega, by omega, HBN.out⟩
      case measure => simp [intOf]; omega
    · obtain rfl : k = l.length := by omega
      have hor : decide ((60 : Int) < (l.length : Int)) = true ∨ (decide ((60 : Int) < (l.length : Int)) = false ∧ decide (30000 < m) = true) ∨ (decide ((60 : Int) < (l.length : Int)) = false ∧ decide (30000 < m) = false ∧ decide ((100 : Int) < (sh.length : Int)) = true) ∨ (decide ((60 : Int) < (l.length : Int)) = false ∧ decide (30000 < m) = false ∧ decide ((100 : Int) < (sh.length : Int)) = false ∧ l.length ≤ 60 ∧ sh.length ≤ 100) := by
        by_cases h1 : 60 < l.length
        · left; simp; omega
        · by_cases h2 : 30000 < m
          · right; left; exact ⟨by simp; omega, by simp; omega⟩
          · by_cases h3 : 100 < sh.length
            · right; right; left; exact ⟨by simp; omega, by simp; omega, by simp; omega⟩
            · right; right; right; exact ⟨by simp; omega, by simp; omega, by simp; omega, by omega, by omega⟩
      rcases hor with t1 | ⟨t1, t2⟩ | ⟨t1, t2, t3⟩ | ⟨t1, t2, t3, h6, h1⟩
      case inr.inr.inr =>
        go_wp2_with fail
        refine (H50.out _ hB h6 h1).mono ?_
        rintro e w2 ⟨rfl, hb2⟩
        have hbb2 := hB.trans (hb2.mono hB.size)
        go_wp2_with fail
        refine (haw _).mono ?_
        rintro e w3 ⟨rfl, hb3⟩
        have hbb3 := hbb2.trans (hb3.mono hbb2.size)
        go_wp2_with fail
        go_ret
        exact ⟨rfl, hbb3⟩
      all_goals
        go_wp2_with fail
        refine (haw _).mono ?_
        rintro e w3 ⟨rfl, hb3⟩
        have hbb3 := hB.trans (hb3.mono hB.size)
        go_wp2_with fail
        go_ret
        exact ⟨rfl, hbb3⟩
end Go.Proofs.Ytgopdfbmddkpfaa
