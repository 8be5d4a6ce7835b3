/- Contract of the reference's Best; conditions: none. -/
import Derived.Test.YtgopdfbmddkpfaaD2
import Derived.Test.YtgopdfbmddkpfaaO2
set_option linter.unusedSimpArgs false
set_option linter.unusedVariables false
namespace Go.Ag
def mostN : List (Int × Int) → Nat
  | [] => 0
  | d :: l => max d.1.toNat (mostN l)
theorem mostN_snoc (l : List (Int × Int)) (d : Int × Int) : mostN (l ++ [d]) = max (mostN l) d.1.toNat := by
  induction l with
  | nil => simp [mostN]
  | cons x l ih => simp only [List.cons_append, mostN, ih]; omega
theorem mostN_le {l : List (Int × Int)} (h : ∀ d ∈ l, OkDay d) : ∀ d ∈ l, d.1 ≤ mostN l := by
  induction l with
  | nil => simp
  | cons x l ih =>
    intro d hd
    have h1 := h x (by simp)
    unfold OkDay at h1
    simp only [mostN]
    rcases List.mem_cons.1 hd with rfl | hd
    · omega
    · have := ih (fun y hy => h y (by simp [hy])) d hd
      omega
theorem mostN_bd {l : List (Int × Int)} (h : ∀ d ∈ l, OkDay d) : mostN l ≤ 10000 := by
  induction l with
  | nil => simp [mostN]
  | cons x l ih =>
    have h1 := h x (by simp)
    have := ih (fun y hy => h y (by simp [hy]))
    unfold OkDay at h1
    simp only [mostN]
    omega
end Go.Ag
namespace Go.Proofs.Ytgopdfbmddkpfaa
open Go.RowKit Go.Fh Go.Ag

set_option maxRecDepth 20000 in
set_option maxHeartbeats 4000000 in
theorem rbest_any (A : Option Addr) (c : Nat) (l : List (Int × Int)) (over under : Int) (w : World) (hl : l.length ≤ 9223372036854775807) (hA : Sl enc2 2 w w.heap.size A l) :
    Calls Try.prog 60 #[.slice A l.length c, .int .i64 over, .int .i64 under] w fun e w' => e = .returned (.tuple #[.int .i64 (bestD l over under).1, .int .i64 (bestD l over under).2.1, .int .i64 (bestD l over under).2.2]) ∧ Below w.heap.size w w' := by
  have HA := Lib.hid hA
  have HC := Lib.hid (rcheck_any A c l w hl hA)
  clear hA
  by_cases hc : checkH l = 0
  · rw [hc] at HC
    obtain ⟨h400, hd⟩ := checkH_zero.1 hc
    have HD := Lib.hid hd
    have HCZ := Lib.hid hc
    clear hc hd
    cases hk : costsB over under
    · have hs : bestD l over under = (0, 0, 1) := by simp [bestD, HCZ.out, hk]
      have HS := Lib.hid hs
      clear hs
      go_enter Try.func60, Try.ntmps60
      go_wp2_with (first
        | (go_at_call 57; refine HC.out.mono ?_; rintro e w1 ⟨rfl, hb1⟩)
        | (go_at_call 104; refine (rcosts_any _ _ _).mono ?_; rintro e w' ⟨rfl, rfl⟩))
      refine bodyPost_ret (v := .tuple #[.int .i64 0, .int .i64 0, .int .i64 1]) ?_ rfl ⟨by rw [HS.out], hb1⟩
      simp [results, Try.results60, go_sem]
    · obtain ⟨k1, k2, k3, k4⟩ := costsB_bd hk
      by_cases hn : l = []
      · subst hn
        have hs : bestD [] over under = (0, 0, 4) := by simp [bestD, HCZ.out, hk]
        have HS := Lib.hid hs
        clear hs
        go_enter Try.func60, Try.ntmps60
        go_wp2_with (first
          | (go_at_call 57; refine HC.out.mono ?_; rintro e w1 ⟨rfl, hb1⟩)
          | (go_at_call 104; refine (rcosts_any _ _ _).mono ?_; rintro e w' ⟨rfl, rfl⟩))
        refine bodyPost_ret (v := .tuple #[.int .i64 0, .int .i64 0, .int .i64 4]) ?_ rfl ⟨by rw [HS.out], hb1⟩
        simp [results, Try.results60, go_sem]
      · have hlen : ((l.length : Int) == 0) = false := by simpa using hn
        have hs : bestD l over under = (bestQ l over under, totalOf (bestQ l over under) over under l, 0) := by simp [bestD, HCZ.out, hk, hn]
        have HS := Lib.hid hs
        have HN := Lib.hid hn
        clear hs hn
        go_enter Try.func60, Try.ntmps60
        go_wp2_with (first
          | (go_at_call 57; refine HC.out.mono ?_; rintro e w1 ⟨rfl, hb1⟩)
          | (go_at_call 104; refine (rcosts_any _ _ _).mono ?_; rintro e w' ⟨rfl, rfl⟩))
        go_loopw [10, 11] (fun n i wr => ∃ k : Nat, k ≤ l.length ∧ i = .int .i64 k ∧ n = .int .i64 (mostN (l.take k) : Nat) ∧ wr = w1) (fun _ i _ => l.length - (intOf i).toNat)
        case atStart => exact ⟨0, Nat.zero_le _, rfl, rfl, rfl⟩
        case round =>
          obtain ⟨k, hk', rfl, rfl, rfl⟩ := hrel
          by_cases hlt : k < l.length
          · obtain ⟨b, off, rfl, hb, c0, c1⟩ := (HA.out.below hb1).at2 hlt
            have hok := HD.out _ (List.getElem_mem hlt)
            have hsn := mostN_snoc (l.take k) l[k]
            rw [← List.take_succ_eq_append_getElem hlt] at hsn
            obtain ⟨x, hx⟩ : ∃ x, x = l[k] := ⟨_, rfl⟩
            rw [← hx] at c0 c1 hok hsn
            have HSN := Lib.hid hsn
            have HX := Lib.hid hx
            clear hsn hx
            obtain ⟨o1, o2, o3, o4⟩ := hok
            go_wp2_with fail
            go_roundw
            case rel => exact ⟨k + 1, by omega, by go_num, int_eq (by rw [HSN.out]; omega), trivial⟩
            case measure => simp [intOf]; omega
          · obtain rfl : k = l.length := by omega
            rw [List.take_length]
            have hm1 := mostN_bd HD.out
            have hsc := scan_best (h := l) (over := over) (under := under) k1 HD.out (mostN_le HD.out)
            have HSC := Lib.hid hsc
            clear hsc
            go_wp2_with fail
            go_loopw [12, 13] (fun b q wr => ∃ j : Nat, j ≤ mostN l ∧ q = .int .i64 ((j : Int) + 1) ∧ b = .int .i64 (scanQ (fun q => totalOf q over under l) j) ∧ Below w.heap.size w wr) (fun _ q _ => mostN l + 1 - (intOf q).toNat)
            case atStart => exact ⟨0, Nat.zero_le _, rfl, rfl, hb1⟩
            case round =>
              obtain ⟨j, hj, rfl, rfl, hB⟩ := hrel
              have hsb := scanQ_bd (fun q => totalOf q over under l) j
              by_cases hlt2 : j < mostN l
              · have t1 : decide ((j : Int) + 1 ≤ (mostN l : Int)) = true := by simp; omega
                have hst : scanQ (fun q => totalOf q over under l) (j + 1) = if totalOf ((j : Int) + 1) over under l < totalOf (scanQ (fun q => totalOf q over under l) j) over under l then (j : Int) + 1 else scanQ (fun q => totalOf q over under l) j := rfl
                have HST := Lib.hid hst
                have f1 := IntWalk.i64_in ((j : Int) + 1 + 1) (by omega)
                clear hst
                generalize scanQ (fun q => totalOf q over under l) j = sj at *
                have H1 := Lib.hid (rtotal_any A c l ((j : Int) + 1) over under wr h400 ((HA.out.below hB).mono hB.size) HD.out (by omega) (by omega) k1 k2 k3 k4)
                have H2 := Lib.hid (fun W (hW : Below w.heap.size w W) => rtotal_any A c l sj over under W h400 ((HA.out.below hW).mono hW.size) HD.out (by omega) (by omega) k1 k2 k3 k4)
                by_cases ht : totalOf ((j : Int) + 1) over under l < totalOf sj over under l
                · have t2 : decide (totalOf ((j : Int) + 1) over under l < totalOf sj over under l) = true := by simpa using ht
                  have HT := Lib.hid ht
                  clear ht
                  go_wp2_with fail
                  refine H1.out.mono ?_
                  rintro e w2 ⟨rfl, hb2⟩
                  have hbb2 := hB.trans (hb2.mono hB.size)
                  go_wp2_with fail
                  refine (H2.out _ hbb2).mono ?_
                  rintro e w3 ⟨rfl, hb3⟩
                  have hbb3 := hbb2.trans (hb3.mono hbb2.size)
                  go_wp2_with fail
                  go_roundw
                  case rel => exact ⟨j + 1, by omega, int_eq (by omega), int_eq (by rw [HST.out, if_pos HT.out]), hbb3⟩
                  case measure => simp [intOf]; omega
                · have t2 : decide (totalOf ((j : Int) + 1) over under l < totalOf sj over under l) = false := by simpa using ht
                  have HT := Lib.hid ht
                  clear ht
                  go_wp2_with fail
                  refine H1.out.mono ?_
                  rintro e w2 ⟨rfl, hb2⟩
                  have hbb2 := hB.trans (hb2.mono hB.size)
                  go_wp2_with fail
                  refine (H2.out _ hbb2).mono ?_
                  rintro e w3 ⟨rfl, hb3⟩
                  have hbb3 := hbb2.trans (hb3.mono hbb2.size)
                  go_wp2_with fail
                  go_roundw
                  case rel => exact ⟨j + 1, by omega, int_eq (by omega), int_eq (by rw [HST.out, if_neg (by have := HT.out; omega)]), hbb3⟩
                  case measure => simp [intOf]; omega
              · obtain rfl : j = mostN l := by omega
                have t1 : decide ((mostN l : Int) + 1 ≤ (mostN l : Int)) = false := by simp; omega
                rw [HSC.out] at hsb ⊢
                have H2 := Lib.hid (rtotal_any A c l (bestQ l over under) over under wr h400 ((HA.out.below hB).mono hB.size) HD.out hsb.1 (by omega) k1 k2 k3 k4)
                go_wp2_with fail
                refine H2.out.mono ?_
                rintro e w2 ⟨rfl, hb2⟩
                have hbb2 := hB.trans (hb2.mono hB.size)
                go_wp2_with fail
                refine bodyPost_ret (v := .tuple #[.int .i64 (bestQ l over under), .int .i64 (totalOf (bestQ l over under) over under l), .int .i64 0]) ?_ rfl ⟨by rw [HS.out], hbb2⟩
                simp [results, Try.results60, go_sem]
  · have ht : (checkH l == 0) = false := by simpa using hc
    have hs : bestD l over under = (0, 0, checkH l) := by simp [bestD, hc]
    have HS := Lib.hid hs
    clear hs hc
    go_enter Try.func60, Try.ntmps60
    go_wp2_with (go_at_call 57; refine HC.out.mono ?_; rintro e w1 ⟨rfl, hb1⟩)
    refine bodyPost_ret (v := .tuple #[.int .i64 0, .int .i64 0, .int .i64 (checkH l)]) ?_ rfl ⟨by rw [HS.out], hb1⟩
    simp [results, Try.results60, go_sem]
end Go.Proofs.Ytgopdfbmddkpfaa
