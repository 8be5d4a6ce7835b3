/- Contracts of the reference's total, Total, Loss; of Loss; conditions: none. -/
import Derived.Test.YtgopdfbmddkpfaaD1
set_option linter.unusedSimpArgs false
set_option linter.unusedVariables false
namespace Go.Proofs.Ytgopdfbmddkpfaa
open Go.RowKit Go.Fh Go.Ag

set_option maxHeartbeats 1000000 in
theorem rtotal_any (A : Option Addr) (c : Nat) (l : List (Int × Int)) (q over under : Int) (w : World) (hl : l.length ≤ 400) (hA : Sl enc2 2 w w.heap.size A l) (hd : ∀ d ∈ l, OkDay d)
   (h5 : 0 ≤ q) (h6 : q ≤ 10000) (h7 : 0 ≤ over) (h8 : over ≤ 1000) (h9 : 0 ≤ under) (h10 : under ≤ 1000) :
    Calls Try.prog 106 #[.slice A l.length c, .int .i64 q, .int .i64 over, .int .i64 under] w fun e w' => e = .returned (.int .i64 (totalOf q over under l)) ∧ Below w.heap.size w w' := by
  go_enter Try.func106, Try.ntmps106
  go_wp2
  go_loopw [9, 10] (fun n i wr => ∃ k : Nat, k ≤ l.length ∧ i = .int .i64 k ∧ n = .int .i64 (totalOf q over under (l.take k)) ∧ Below w.heap.size w wr) (fun _ i _ => l.length - (intOf i).toNat)
  case atStart => exact ⟨0, Nat.zero_le _, rfl, rfl, Below.refl _ _⟩
  case round =>
    obtain ⟨k, hk, rfl, rfl, hB⟩ := hrel
    by_cases hlt : k < l.length
    · have hsn := totalOf_snoc q over under (l.take k) l[k]
      rw [← List.take_succ_eq_append_getElem hlt] at hsn
      have HS := Lib.hid hsn
      clear hsn
      obtain ⟨b, off, rfl, hb, c0, c1⟩ := (hA.below hB).at2 hlt
      have hok := hd _ (List.getElem_mem hlt)
      have hbd := totalOf_bd (l := l.take k) (fun x hx => hd x (List.mem_of_mem_take hx)) h5 h6 h7 h8 h9 h10
      have hlb := lossOf_bd (s := l[k].1) (r := l[k].2) hok h5 h6 h7 h8 h9 h10
      have hlen : (l.take k).length ≤ 400 := by simp; omega
      go_wp2_with (go_at_call 105; refine (rloss_any l[k].1 l[k].2 q over under _ hok.1 hok.2.1 hok.2.2.1 hok.2.2.2 h5 h6 h7 h8 h9 h10).mono ?_; rintro e w' ⟨rfl, hb1⟩; obtain ⟨hc1, hf1⟩ := bcell hb1)
      go_roundw
      case rel => exact ⟨k + 1, by omega, by go_num, int_eq HS.out.symm, hB.trans (hb1.mono hB.size)⟩
      case measure => simp [intOf]; omega
    · go_wp2
      go_ret
      exact ⟨ret_int (by rw [List.take_of_length_le (by omega)]), hB⟩

set_option maxRecDepth 20000 in
set_option maxHeartbeats 2000000 in
theorem rTotalR_any (A : Option Addr) (c : Nat) (l : List (Int × Int)) (q over under : Int) (w : World) (hl : l.length ≤ 9223372036854775807) (hA : Sl enc2 2 w w.heap.size A l) :
    Calls Try.prog 59 #[.slice A l.length c, .int .i64 q, .int .i64 over, .int .i64 under] w fun e w' => e = .returned (.tuple #[.int .i64 (totalR l q over under).1, .int .i64 (totalR l q over under).2]) ∧ Below w.heap.size w w' := by
  have HA := Lib.hid hA
  have HC := Lib.hid (rcheck_any A c l w hl hA)
  clear hA
  by_cases hc : checkH l = 0
  · rw [hc] at HC
    obtain ⟨h400, hd⟩ := checkH_zero.1 hc
    have HD := Lib.hid hd
    have HCZ := Lib.hid hc
    clear hc hd
    cases hq : inB q 0 10000
    · have hs : totalR l q over under = (0, 6) := by simp [totalR, HCZ.out, hq]
      have HS := Lib.hid hs
      clear hs
      go_enter Try.func59, Try.ntmps59
      go_wp2_with (first
        | (go_at_call 57; refine HC.out.mono ?_; rintro e w1 ⟨rfl, hb1⟩)
        | (go_at_call 103; refine (rin_any _ _ _ _).mono ?_; rintro e w' ⟨rfl, rfl⟩))
      go_ret2
      exact ⟨by rw [HS.out]; rfl, hb1⟩
    · cases hk : costsB over under
      · have hs : totalR l q over under = (0, 1) := by simp [totalR, HCZ.out, hq, hk]
        have HS := Lib.hid hs
        clear hs
        go_enter Try.func59, Try.ntmps59
        go_wp2_with (first
          | (go_at_call 57; refine HC.out.mono ?_; rintro e w1 ⟨rfl, hb1⟩)
          | (go_at_call 103; refine (rin_any _ _ _ _).mono ?_; rintro e w' ⟨rfl, rfl⟩)
          | (go_at_call 104; refine (rcosts_any _ _ _).mono ?_; rintro e w' ⟨rfl, rfl⟩))
        go_ret2
        exact ⟨by rw [HS.out]; rfl, hb1⟩
      · have hs : totalR l q over under = (totalOf q over under l, 0) := by simp [totalR, HCZ.out, hq, hk]
        have HS := Lib.hid hs
        obtain ⟨q1, q2⟩ := inB_iff.1 hq
        obtain ⟨k1, k2, k3, k4⟩ := costsB_bd hk
        clear hs
        go_enter Try.func59, Try.ntmps59
        go_wp2_with (first
          | (go_at_call 57; refine HC.out.mono ?_; rintro e w1 ⟨rfl, hb1⟩)
          | (go_at_call 103; refine (rin_any _ _ _ _).mono ?_; rintro e w' ⟨rfl, rfl⟩)
          | (go_at_call 104; refine (rcosts_any _ _ _).mono ?_; rintro e w' ⟨rfl, rfl⟩)
          | (go_at_call 106; refine (rtotal_any A c l q over under w1 h400 ((HA.out.below hb1).mono hb1.size) HD.out q1 q2 k1 k2 k3 k4).mono ?_; rintro e w2 ⟨rfl, hb2⟩; have hbb2 := hb1.trans (hb2.mono hb1.size)))
        go_ret2
        exact ⟨by rw [HS.out]; rfl, hbb2⟩
  · have ht : (checkH l == 0) = false := by simpa using hc
    have hs : totalR l q over under = (0, checkH l) := by simp [totalR, hc]
    have HS := Lib.hid hs
    clear hs hc
    go_enter Try.func59, Try.ntmps59
    go_wp2_with (go_at_call 57; refine HC.out.mono ?_; rintro e w1 ⟨rfl, hb1⟩)
    go_ret2
    exact ⟨by rw [HS.out]; rfl, hb1⟩
end Go.Proofs.Ytgopdfbmddkpfaa
