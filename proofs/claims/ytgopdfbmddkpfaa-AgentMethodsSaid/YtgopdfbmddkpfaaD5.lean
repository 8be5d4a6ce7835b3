/- Contracts of dear and demand; conditions: none. -/
import Derived.Test.YtgopdfbmddkpfaaD3
import Derived.Test.YtgopdfbmddkpfaaD4
import Derived.Test.YtgopdfbmddkpfaaE1
import Derived.Test.YtgopdfbmddkpfaaE2
set_option linter.unusedSimpArgs false
set_option linter.unusedVariables false
namespace Go.Proofs.Ytgopdfbmddkpfaa
open Go.RowKit Go.Fh Go.Ag

set_option maxRecDepth 20000 in
set_option maxHeartbeats 2000000 in
/-- dear returns some truth value -/
theorem dear_any (A : Option Addr) (c : Nat) (l : List (Int × Int)) (w : World) (hl : l.length * 16 ≤ 140737488355328) (hA : Sl enc2 2 w w.heap.size A l) :
    Calls Try.prog 21 #[.slice A l.length c] w fun e w' => (∃ b, e = .returned (.bool b)) ∧ Below w.heap.size w w' := by
  have HA := Lib.hid hA
  clear hA
  go_enter Try.func21, Try.ntmps21
  go_wp2_with fail
  go_loopw [3, 8] (fun n i wr => ∃ (k : Nat) (m : Int), k ≤ l.length ∧ 0 ≤ m ∧ m ≤ 10001 * k ∧ i = .int .i64 k ∧ n = .int .i64 m ∧ Below w.heap.size w wr) (fun _ i _ => l.length - (intOf i).toNat)
  case atStart => exact ⟨0, 0, Nat.zero_le _, by simp, by simp, rfl, rfl, Below.refl _ _⟩
  case round =>
    obtain ⟨k, m, hk, hm1, hm2, rfl, rfl, hB⟩ := hrel
    by_cases hlt : k < l.length
    · obtain ⟨b, off, rfl, hb, c0, c1⟩ := (HA.out.below hB).at2 hlt
      obtain ⟨x, hx⟩ : ∃ x, x = l[k] := ⟨_, rfl⟩
      rw [← hx] at c0 c1
      have HX := Lib.hid hx
      have hsz := hB.size
      have hbw : b < wr.heap.size := by omega
      have hBn := hB.alloc hB.size (.cells #[.int .i64 x.1, .int .i64 x.2] 33)
      clear hx
      by_cases h1 : x.1 < 0
      · have t1 : decide (x.1 < 0) = true := by simpa using h1
        go_wp2_with fail
        go_ret
        exact ⟨by first | exact ⟨_, rfl⟩ | exact ⟨false, rfl⟩ | rfl | simp, hBn⟩
      · have t1 : decide (x.1 < 0) = false := by simpa using h1
        by_cases h2 : 10000 < x.1
        · have t2 : decide (10000 < x.1) = true := by simpa using h2
          go_wp2_with fail
          go_ret
          exact ⟨by first | exact ⟨_, rfl⟩ | exact ⟨false, rfl⟩ | rfl | simp, hBn⟩
        · have t2 : decide (10000 < x.1) = false := by simpa using h2
          have f1 := IntWalk.i64_in (x.1 + 1) (by omega)
          have f2 := IntWalk.i64_in (m + (x.1 + 1)) (by omega)
          go_wp2_with fail
          go_roundw
          case rel => exact ⟨k + 1, m + (x.1 + 1), by omega, by omega, by omega, by go_num, rfl, hBn⟩
          case measure => simp [intOf]; omega
    · obtain rfl : k = l.length := by omega
      by_cases h3 : 500 < l.length
      · have t3 : decide ((500 : Int) < (l.length : Int)) = true := by simp; omega
        go_wp2_with fail
        go_ret
        exact ⟨⟨_, rfl⟩, hB⟩
      · have t3 : decide ((500 : Int) < (l.length : Int)) = false := by simp; omega
        go_wp2_with fail
        go_ret
        exact ⟨⟨_, rfl⟩, hB⟩

set_option maxRecDepth 20000 in
set_option maxHeartbeats 4000000 in
theorem demand_any (A : Option Addr) (c : Nat) (l : List (Int × Int)) (d : Int × Int) (q over under : Int) (w : World) (hl : l.length * 16 ≤ 140737488355328) (hA : Sl enc2 2 w w.heap.size A l) :
    Calls Try.prog 22 #[.slice A l.length c, .agg #[.int .i64 d.1, .int .i64 d.2], .int .i64 q, .int .i64 over, .int .i64 under] w fun e w' => e = .returned (.bool true) ∧ Below w.heap.size w w' := by
  have HA := Lib.hid hA
  have hb0 : Below w.heap.size w (w.alloc (.cells #[.int .i64 d.1, .int .i64 d.2] 33)) := (Below.refl _ _).alloc (Nat.le_refl _) _
  have hk0 : Blk (w.alloc (.cells #[.int .i64 d.1, .int .i64 d.2] 33)) w.heap.size 33 #[.int .i64 d.1, .int .i64 d.2] := Blk.new _ _ _
  have HB0 := Lib.hid hb0
  have HK0 := Lib.hid hk0
  have hz0 : w.heap.size + 1 = (w.alloc (.cells #[.int .i64 d.1, .int .i64 d.2] 33)).heap.size := by simp
  have hlen : l.length ≤ 9223372036854775807 := by omega
  clear hA hb0 hk0
  go_enter Try.func22, Try.ntmps22
  go_wp2_with fail
  refine (cloneDay_any A c l _ hl ((HA.out.below HB0.out).mono (by simp))).mono ?_
  rintro e w1 ⟨A1, c1, rfl, hs1, hb1⟩
  have HS1 := Lib.hid hs1
  have hbb1 := HB0.out.trans (hb1.mono (by simp))
  have hk1 := Blk.below HK0.out hb1 HK0.out.lt
  have HK1 := Lib.hid hk1
  clear hs1 hb1 hk1
  go_wp2_with fail
  refine (check_any A1 c1 l w1 hlen HS1.out).mono ?_
  rintro e w2 ⟨rfl, hb2⟩
  have hbb2 := hbb1.trans (hb2.mono hbb1.size)
  have h12 := Lib.hid hb2
  clear hb2
  go_wp2_with fail
  refine (days_any A c l w2 hl ((HA.out.below hbb2).mono hbb2.size)).mono ?_
  rintro e w3 ⟨A3, c3, rfl, hs3, hb3⟩
  have h13 := Lib.hid (h12.out.trans (hb3.mono h12.out.size))
  have hbb3 := hbb2.trans (hb3.mono hbb2.size)
  clear h12 hbb2 hb3
  go_wp2_with fail
  refine (rcheck_any A3 c3 l w3 hlen hs3).mono ?_
  rintro e w4 ⟨rfl, hb4⟩
  have h14 := Lib.hid (h13.out.trans (hb4.mono h13.out.size))
  have hbb4 := hbb3.trans (hb4.mono hbb3.size)
  clear hs3 h13 hbb3 hb4
  have hk4 := Blk.below HK1.out h14.out HK1.out.lt
  have HK4 := Lib.hid hk4
  have kc4 := hk4.cell 0
  have kd4 := hk4.cell 1
  simp at kc4 kd4
  clear hk4
  go_wp2_with fail
  refine (lossR_any d q over under w4).mono ?_
  rintro e w5 ⟨rfl, hb5⟩
  have h15 := Lib.hid (h14.out.trans (hb5.mono h14.out.size))
  have hbb5 := hbb4.trans (hb5.mono hbb4.size)
  have hk5 := Blk.below HK4.out hb5 HK4.out.lt
  have HK5 := Lib.hid hk5
  have kc5 := hk5.cell 0
  have kd5 := hk5.cell 1
  simp at kc5 kd5
  clear h14 hbb4 hb5 hk5 kc4 kd4
  go_wp2_with fail
  refine (rlossR_any d q over under w5).mono ?_
  rintro e w6 ⟨rfl, hb6⟩
  have h16 := Lib.hid (h15.out.trans (hb6.mono h15.out.size))
  have hbb6 := hbb5.trans (hb6.mono hbb5.size)
  clear h15 hbb5 hb6 kc5 kd5
  go_wp2_with fail
  refine (totalR_any A1 c1 l q over under w6 hlen ((HS1.out.below h16.out).mono h16.out.size)).mono ?_
  rintro e w7 ⟨rfl, hb7⟩
  have h17 := Lib.hid (h16.out.trans (hb7.mono h16.out.size))
  have hbb7 := hbb6.trans (hb7.mono hbb6.size)
  clear h16 hbb6 hb7
  go_wp2_with fail
  refine (days_any A c l w7 hl ((HA.out.below hbb7).mono hbb7.size)).mono ?_
  rintro e w8 ⟨A8, c8, rfl, hs8, hb8⟩
  have h18 := Lib.hid (h17.out.trans (hb8.mono h17.out.size))
  have hbb8 := hbb7.trans (hb8.mono hbb7.size)
  clear h17 hbb7 hb8
  go_wp2_with fail
  refine (rTotalR_any A8 c8 l q over under w8 hlen hs8).mono ?_
  rintro e w9 ⟨rfl, hb9⟩
  have h19 := Lib.hid (h18.out.trans (hb9.mono h18.out.size))
  have hbb9 := hbb8.trans (hb9.mono hbb8.size)
  clear hs8 h18 hbb8 hb9
  go_wp2_with fail
  refine (best_any A1 c1 l over under w9 hlen ((HS1.out.below h19.out).mono h19.out.size)).mono ?_
  rintro e wa ⟨rfl, hba⟩
  have h1a := Lib.hid (h19.out.trans (hba.mono h19.out.size))
  have hbba := hbb9.trans (hba.mono hbb9.size)
  clear h19 hbb9 hba
  go_wp2_with fail
  refine (days_any A c l wa hl ((HA.out.below hbba).mono hbba.size)).mono ?_
  rintro e wb ⟨Ab, cb, rfl, hsb, hbb⟩
  have h1b := Lib.hid (h1a.out.trans (hbb.mono h1a.out.size))
  have hbbb := hbba.trans (hbb.mono hbba.size)
  clear h1a hbba hbb
  go_wp2_with fail
  refine (rbest_any Ab cb l over under wb hlen hsb).mono ?_
  rintro e wc ⟨rfl, hbc⟩
  have h1c := Lib.hid (h1b.out.trans (hbc.mono h1b.out.size))
  have hbbc := hbbb.trans (hbc.mono hbbb.size)
  clear hsb h1b hbbb hbc
  go_wp2_with fail
  refine (equalDay_any A1 A c1 c l l wc hlen hlen ((HS1.out.below h1c.out).mono h1c.out.size) ((HA.out.below hbbc).mono hbbc.size)).mono ?_
  rintro e wd ⟨rfl, hbd⟩
  have hbbd := hbbc.trans (hbd.mono hbbc.size)
  go_wp2_with fail
  go_ret
  exact ⟨by simp, hbbd⟩
end Go.Proofs.Ytgopdfbmddkpfaa
