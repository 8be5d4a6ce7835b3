/- Contract of Total; conditions: none. -/
import Derived.Test.YtgopdfbmddkpfaaA2
set_option linter.unusedSimpArgs false
set_option linter.unusedVariables false
namespace Go.Ag
def totalR (l : List (Int × Int)) (q over under : Int) : Int × Int :=
  if checkH l ≠ 0 then (0, checkH l) else if inB q 0 10000 = false then (0, 6) else if costsB over under = false then (0, 1) else (totalOf q over under l, 0)
theorem costsB_bd {over under : Int} (h : costsB over under = true) : 0 ≤ over ∧ over ≤ 1000 ∧ 0 ≤ under ∧ under ≤ 1000 := by
  simp [costsB, inB] at h; omega
end Go.Ag
namespace Go.Proofs.Ytgopdfbmddkpfaa
open Go.RowKit Go.Fh Go.Ag
set_option maxRecDepth 20000 in
set_option maxHeartbeats 2000000 in
theorem totalR_any (A : Option Addr) (c : Nat) (l : List (Int × Int)) (q over under : Int) (w : World) (hl : l.length ≤ 9223372036854775807) (hA : Sl enc2 2 w w.heap.size A l) :
    Calls Try.prog 16 #[.slice A l.length c, .int .i64 q, .int .i64 over, .int .i64 under] w fun e w' => e = .returned (.tuple #[.int .i64 (totalR l q over under).1, .int .i64 (totalR l q over under).2]) ∧ Below w.heap.size w w' := by
  have HA := Lib.hid hA
  have HC := Lib.hid (check_any A c l w hl hA)
  clear hA
  by_cases hc : checkH l = 0
  · rw [hc] at HC
    obtain ⟨h400, hd⟩ := checkH_zero.1 hc
    have HD := Lib.hid hd
    have HCZ := Lib.hid hc
    clear hc hd
    cases hq : inB q 0 10000
    · have hs : totalR l q over under = (0, 6) := by simp [totalR, HCZ.out, hq]
      have HS := Lib.hid hs
      clear hs
      go_enter Try.func16, Try.ntmps16
      go_wp2_with (first
        | (go_at_call 38; refine HC.out.mono ?_; rintro e w1 ⟨rfl, hb1⟩)
        | (go_at_call 48; refine (within_any _ _ _ _).mono ?_; rintro e w' ⟨rfl, rfl⟩))
      go_ret2
      exact ⟨by rw [HS.out]; rfl, hb1⟩
    · cases hk : costsB over under
      · have hs : totalR l q over under = (0, 1) := by simp [totalR, HCZ.out, hq, hk]
        have HS := Lib.hid hs
        clear hs
        go_enter Try.func16, Try.ntmps16
        go_wp2_with (first
          | (go_at_call 38; refine HC.out.mono ?_; rintro e w1 ⟨rfl, hb1⟩)
          | (go_at_call 48; refine (within_any _ _ _ _).mono ?_; rintro e w' ⟨rfl, rfl⟩)
          | (go_at_call 39; refine (costs_any _ _ _).mono ?_; rintro e w' ⟨rfl, rfl⟩))
        go_ret2
        exact ⟨by rw [HS.out]; rfl, hb1⟩
      · have hs : totalR l q over under = (totalOf q over under l, 0) := by simp [totalR, HCZ.out, hq, hk]
        have HS := Lib.hid hs
        obtain ⟨q1, q2⟩ := inB_iff.1 hq
        obtain ⟨k1, k2, k3, k4⟩ := costsB_bd hk
        clear hs
        go_enter Try.func16, Try.ntmps16
        go_wp2_with (first
          | (go_at_call 38; refine HC.out.mono ?_; rintro e w1 ⟨rfl, hb1⟩)
          | (go_at_call 48; refine (within_any _ _ _ _).mono ?_; rintro e w' ⟨rfl, rfl⟩)
          | (go_at_call 39; refine (costs_any _ _ _).mono ?_; rintro e w' ⟨rfl, rfl⟩)
          | (go_at_call 44; refine (total_any A c l q over under w1 h400 ((HA.out.below hb1).mono hb1.size) HD.out q1 q2 k1 k2 k3 k4).mono ?_; rintro e w2 ⟨rfl, hb2⟩; have hbb2 := hb1.trans (hb2.mono hb1.size)))
        go_ret2
        exact ⟨by rw [HS.out]; rfl, hbb2⟩
  · have ht : (checkH l == 0) = false := by simpa using hc
    have hs : totalR l q over under = (0, checkH l) := by simp [totalR, hc]
    have HS := Lib.hid hs
    clear hs hc
    go_enter Try.func16, Try.ntmps16
    go_wp2_with (go_at_call 38; refine HC.out.mono ?_; rintro e w1 ⟨rfl, hb1⟩)
    go_ret2
    exact ⟨by rw [HS.out]; rfl, hb1⟩
end Go.Proofs.Ytgopdfbmddkpfaa
