/- Contracts of subscribers; conditions: none. -/
import Derived.Test.YtgopdfbmddkpfaaI2
import Derived.Laws.BitsAllLaws
import Derived.Laws.BitsLemmas
import Derived.BigQuiet
import Derived.Deep.QuietTactic
set_option linter.unusedSimpArgs false
set_option linter.unusedVariables false
namespace Go.Proofs.Ytgopdfbmddkpfaa
open Go.RowKit Go.Fh Go.Ag

def subV (s : SubD) (A : Option Addr) (c : Nat) : Array Value := #[.int .i64 s.id, .int .i64 s.lo, .int .i64 s.hi, .int .i64 s.days, .slice A s.hol.length c]

theorem ofInt_i64 (a : Nat) (ha : a < 9223372036854775808) : (BitVec.ofInt 64 (a : Int)).toNat = a := by
  rw [BitVec.ofInt_natCast, BitVec.toNat_ofNat]; exact Nat.mod_eq_of_lt (by omega)
theorem bits_one (x : Int) (h0 : 0 ≤ x) (h1 : x ≤ 1000000) : bits .and .i64 x 1 = x % 2 := by
  obtain ⟨a, rfl⟩ := Int.eq_ofNat_of_zero_le h0
  show IntKind.i64.wrap ((BitVec.ofInt 64 (a : Int) &&& BitVec.ofInt 64 ((1 : Nat) : Int)).toNat : Int) = _
  rw [BitVec.toNat_and, ofInt_i64 a (by omega), ofInt_i64 1 (by omega), Nat.and_one_is_mod, IntKind.wrap_i64]
  omega

theorem shift_bd (days : Int) (n : Nat) (h3 : 1 ≤ days) (h4 : days ≤ 127) : 0 ≤ days / 2 ^ n ∧ days / 2 ^ n ≤ 127 := by
  have hp : (0 : Int) < 2 ^ n := Int.pow_pos (by omega)
  refine ⟨Int.ediv_nonneg (by omega) (by omega), ?_⟩
  exact Int.le_trans (Int.ediv_le_self _ (by omega)) h4

set_option maxHeartbeats 1000000 in
theorem gets_any (s : SubD) (A : Option Addr) (c : Nat) (day : Int) (w : World) (h1 : 0 ≤ s.lo) (h2 : s.hi ≤ 20000) (h3 : 1 ≤ s.days) (h4 : s.days ≤ 127) (hl : s.hol.length ≤ 9223372036854775807) (hA : Sl enc2 2 w w.heap.size A s.hol) :
    Calls Try.prog 68 #[.agg (subV s A c), .int .i64 day] w fun e w' => e = .returned (.bool (getsB s day)) ∧ Below w.heap.size w w' := by
  obtain ⟨id, lo, hi, days, hol⟩ := s
  unfold subV
  dsimp only at *
  have hb0 : Below w.heap.size w ((w.alloc (.cells #[.int .i64 id, .int .i64 lo, .int .i64 hi, .int .i64 days, .slice A hol.length c] 63)).alloc (.cells #[.int .i64 day] 3)) := ((Below.refl _ _).alloc (Nat.le_refl _) _).alloc (by simp) _
  cases hin : inB day lo hi
  · go_enter Try.func68, Try.ntmps68
    go_wp2_with (go_at_call 48; refine (within_any _ _ _ _).mono ?_; rintro e w' ⟨rfl, rfl⟩)
    go_ret
    exact ⟨ret_bool (by simp [getsB, hin]), hb0⟩
  · obtain ⟨h5, h6⟩ := inB_iff.1 hin
    have g1 : 0 ≤ day % 7 := by omega
    have g2 : day % 7 < 7 := by omega
    have hs := shift_bd days (day % 7).toNat h3 h4
    have hbits := bits_one (days / 2 ^ (day % 7).toNat) hs.1 (by omega)
    have hk : Blk ((w.alloc (.cells #[.int .i64 id, .int .i64 lo, .int .i64 hi, .int .i64 days, .slice A hol.length c] 63)).alloc (.cells #[.int .i64 day] 3)) (w.heap.size + 1) 3 #[.int .i64 day] := by
      have := Blk.new (w.alloc (.cells #[.int .i64 id, .int .i64 lo, .int .i64 hi, .int .i64 days, .slice A hol.length c] 63)) 3 #[.int .i64 day]
      rwa [World.size_alloc] at this
    have hc := anyHol_any day (w.heap.size + 1) A c hol _ hl ((hA.below hb0).mono hb0.size) (by simp) (by simp)
    have HC := Lib.hid hc
    have HB := Lib.hid hbits
    clear hc hbits hk hA
    by_cases hbit : days / 2 ^ (day % 7).toNat % 2 = 1
    · have hq : (bits .and .i64 (days / 2 ^ (day % 7).toNat) 1 == 1) = true := by rw [HB.out, hbit]; rfl
      have HBIT := Lib.hid hbit
      clear hbit hs
      cases hany : hol.any (inHol day)
      all_goals
        rw [hany] at HC
        go_enter Try.func68, Try.ntmps68
        go_wp2_with (first | (go_at_call 48; refine (within_any _ _ _ _).mono ?_; rintro e w' ⟨rfl, rfl⟩) | (go_at_call 111; refine HC.out.mono ?_; rintro e w' ⟨rfl, hb1⟩))
        go_ret
        exact ⟨ret_bool (by simp [getsB, bitB, hin, HBIT.out, hany]), hb0.trans (hb1.mono hb0.size)⟩
    · have hq : (bits .and .i64 (days / 2 ^ (day % 7).toNat) 1 == 1) = false := by rw [HB.out]; simpa using hbit
      have HBIT := Lib.hid hbit
      clear hbit hs
      go_enter Try.func68, Try.ntmps68
      go_wp2_with (go_at_call 48; refine (within_any _ _ _ _).mono ?_; rintro e w' ⟨rfl, rfl⟩)
      go_ret
      exact ⟨ret_bool (by have := HBIT.out; simp [getsB, bitB, hin, this]), hb0⟩

theorem period_any (a b : Int) (w : World) :
    Calls Try.prog 70 #[.int .i64 a, .int .i64 b] w fun e w' => e = .returned (.bool (periodB a b)) ∧ w = w' := by
  cases h1 : inB a 0 20000 <;> cases h2 : inB b a 20000
  all_goals
    go_enter Try.func70, Try.ntmps70
    go_wp2_with (go_at_call 48; refine (within_any _ _ _ _).mono ?_; rintro e w' ⟨rfl, rfl⟩)
    go_ret
    exact ⟨ret_bool (by simp [periodB, h1, h2]), rfl⟩

set_option maxHeartbeats 1000000 in
theorem copies_any (s : SubD) (A : Option Addr) (c : Nat) (a b : Int) (w : World) (hs : OkS s) (ha : 0 ≤ a) (ha2 : a ≤ 20000) (hb : b ≤ 20000) (hb2 : 0 ≤ b) (hA : Sl enc2 2 w w.heap.size A s.hol) :
    Calls Try.prog 71 #[.agg (subV s A c), .int .i64 a, .int .i64 b] w fun e w' => e = .returned (.int .i64 (copiesB s a b)) ∧ Below w.heap.size w w' := by
  obtain ⟨o1, o2, o3, o4, o5, o6⟩ := hs
  have hG := fun day W hW => gets_any s A c day W o2.1 o3.2 o4.1 o4.2 (by omega) hW
  have HG := Lib.hid hG
  have HA := Lib.hid hA
  clear hG hA o6
  obtain ⟨lo, hlo, hl1, hl2⟩ : ∃ lo, lo = max a s.lo ∧ 0 ≤ lo ∧ lo ≤ 20000 := ⟨_, rfl, by omega, by omega⟩
  obtain ⟨hi, hhi, hh1, hh2⟩ : ∃ hi, hi = min b s.hi ∧ 0 ≤ hi ∧ hi ≤ 20000 := ⟨_, rfl, by omega, by omega⟩
  have hfin : copiesB s a b = copiesN s lo (hi + 1 - lo).toNat := by rw [copiesB, hlo, hhi]
  have HF := Lib.hid hfin
  have hb0 : Below w.heap.size w (w.alloc (.cells #[.int .i64 s.id, .int .i64 s.lo, .int .i64 s.hi, .int .i64 s.days, .slice A s.hol.length c] 63)) := (Below.refl _ _).alloc (Nat.le_refl _) _
  have hk := Blk.new w 63 #[.int .i64 s.id, .int .i64 s.lo, .int .i64 s.hi, .int .i64 s.days, .slice A s.hol.length c]
  have HK := Lib.hid hk
  clear hfin hk
  unfold subV at *
  by_cases c1 : s.lo ≤ a
  · have e1 : lo = a := by omega
    have E1 := Lib.hid e1
    by_cases c2 : b ≤ s.hi
    · have e2 : hi = b := by omega
      have E2 := Lib.hid e2
      clear e1 e2 hlo hhi
      go_enter Try.func71, Try.ntmps71
      go_wp2_with fail
      go_loopw [7, 8] (fun n i wr => ∃ k : Nat, k ≤ (hi + 1 - lo).toNat ∧ i = .int .i64 (lo + k) ∧ n = .int .i64 (copiesN s lo k) ∧ Below (w.alloc (.cells #[.int .i64 s.id, .int .i64 s.lo, .int .i64 s.hi, .int .i64 s.days, .slice A s.hol.length c] 63)).heap.size (w.alloc (.cells #[.int .i64 s.id, .int .i64 s.lo, .int .i64 s.hi, .int .i64 s.days, .slice A s.hol.length c] 63)) wr) (fun _ i _ => (hi + 1 - intOf i).toNat)
      case atStart => exact ⟨0, Nat.zero_le _, int_eq (by rw [← E1.out]; simp), rfl, Below.refl _ _⟩
      case round =>
        obtain ⟨k, hk, rfl, rfl, hW⟩ := hrel
        have hbr := hb0.trans (hW.mono hb0.size)
        have kb := HK.out.below hW (by simp)
        have u0 := kb.cell 0
        have u1 := kb.cell 1
        have u2 := kb.cell 2
        have u3 := kb.cell 3
        have u4 := kb.cell 4
        simp at u0 u1 u2 u3 u4
        have hbd := copiesN_bd s lo k
        have hsz : w.heap.size < wr.heap.size := kb.lt
        clear kb
        by_cases hlt : lo + k ≤ hi
        · have hlt' := hlt
          rw [E2.out] at hlt'
          cases hg : getsB s (lo + k)
          all_goals
            have hst : copiesN s lo (k + 1) = copiesN s lo k + if getsB s (lo + k) then 1 else 0 := rfl
            rw [hg] at hst
            simp only [Bool.false_eq_true, if_false, if_true] at hst
            have HST := Lib.hid hst
            clear hst
            go_wp2_with (go_at_call 68; refine (HG.out _ _ ((HA.out.below hbr).mono hbr.size)).mono ?_; rintro e w' ⟨rfl, hb1⟩)
            go_roundw
            case rel => exact ⟨k + 1, by omega, int_eq (by omega), int_eq (by rw [HST.out]; try omega), hW.trans (hb1.mono hW.size)⟩
            case measure => simp [intOf]; omega
        · have hlt' := hlt
          rw [E2.out] at hlt'
          go_wp2_with fail
          go_ret
          exact ⟨ret_int (by rw [HF.out, show (hi + 1 - lo).toNat = k by omega]), hbr⟩
    · have e2 : hi = s.hi := by omega
      have E2 := Lib.hid e2
      clear e1 e2 hlo hhi
      go_enter Try.func71, Try.ntmps71
      go_wp2_with fail
      go_loopw [7, 8] (fun n i wr => ∃ k : Nat, k ≤ (hi + 1 - lo).toNat ∧ i = .int .i64 (lo + k) ∧ n = .int .i64 (copiesN s lo k) ∧ Below (w.alloc (.cells #[.int .i64 s.id, .int .i64 s.lo, .int .i64 s.hi, .int .i64 s.days, .slice A s.hol.length c] 63)).heap.size (w.alloc (.cells #[.int .i64 s.id, .int .i64 s.lo, .int .i64 s.hi, .int .i64 s.days, .slice A s.hol.length c] 63)) wr) (fun _ i _ => (hi + 1 - intOf i).toNat)
      case atStart => exact ⟨0, Nat.zero_le _, int_eq (by rw [← E1.out]; simp), rfl, Below.refl _ _⟩
      case round =>
        obtain ⟨k, hk, rfl, rfl, hW⟩ := hrel
        have hbr := hb0.trans (hW.mono hb0.size)
        have kb := HK.out.below hW (by simp)
        have u0 := kb.cell 0
        have u1 := kb.cell 1
        have u2 := kb.cell 2
        have u3 := kb.cell 3
        have u4 := kb.cell 4
        simp at u0 u1 u2 u3 u4
        have hbd := copiesN_bd s lo k
        have hsz : w.heap.size < wr.heap.size := kb.lt
        clear kb
        by_cases hlt : lo + k ≤ hi
        · have hlt' := hlt
          rw [E2.out] at hlt'
          cases hg : getsB s (lo + k)
          all_goals
            have hst : copiesN s lo (k + 1) = copiesN s lo k + if getsB s (lo + k) then 1 else 0 := rfl
            rw [hg] at hst
            simp only [Bool.false_eq_true, if_false, if_true] at hst
            have HST := Lib.hid hst
            clear hst
            go_wp2_with (go_at_call 68; refine (HG.out _ _ ((HA.out.below hbr).mono hbr.size)).mono ?_; rintro e w' ⟨rfl, hb1⟩)
            go_roundw
            case rel => exact ⟨k + 1, by omega, int_eq (by omega), int_eq (by rw [HST.out]; try omega), hW.trans (hb1.mono hW.size)⟩
            case measure => simp [intOf]; omega
        · have hlt' := hlt
          rw [E2.out] at hlt'
          go_wp2_with fail
          go_ret
          exact ⟨ret_int (by rw [HF.out, show (hi + 1 - lo).toNat = k by omega]), hbr⟩
  · have e1 : lo = s.lo := by omega
    have E1 := Lib.hid e1
    by_cases c2 : b ≤ s.hi
    · have e2 : hi = b := by omega
      have E2 := Lib.hid e2
      clear e1 e2 hlo hhi
      go_enter Try.func71, Try.ntmps71
      go_wp2_with fail
      go_loopw [7, 8] (fun n i wr => ∃ k : Nat, k ≤ (hi + 1 - lo).toNat ∧ i = .int .i64 (lo + k) ∧ n = .int .i64 (copiesN s lo k) ∧ Below (w.alloc (.cells #[.int .i64 s.id, .int .i64 s.lo, .int .i64 s.hi, .int .i64 s.days, .slice A s.hol.length c] 63)).heap.size (w.alloc (.cells #[.int .i64 s.id, .int .i64 s.lo, .int .i64 s.hi, .int .i64 s.days, .slice A s.hol.length c] 63)) wr) (fun _ i _ => (hi + 1 - intOf i).toNat)
      case atStart => exact ⟨0, Nat.zero_le _, int_eq (by rw [← E1.out]; simp), rfl, Below.refl _ _⟩
      case round =>
        obtain ⟨k, hk, rfl, rfl, hW⟩ := hrel
        have hbr := hb0.trans (hW.mono hb0.size)
        have kb := HK.out.below hW (by simp)
        have u0 := kb.cell 0
        have u1 := kb.cell 1
        have u2 := kb.cell 2
        have u3 := kb.cell 3
        have u4 := kb.cell 4
        simp at u0 u1 u2 u3 u4
        have hbd := copiesN_bd s lo k
        have hsz : w.heap.size < wr.heap.size := kb.lt
        clear kb
        by_cases hlt : lo + k ≤ hi
        · have hlt' := hlt
          rw [E2.out] at hlt'
          cases hg : getsB s (lo + k)
          all_goals
            have hst : copiesN s lo (k + 1) = copiesN s lo k + if getsB s (lo + k) then 1 else 0 := rfl
            rw [hg] at hst
            simp only [Bool.false_eq_true, if_false, if_true] at hst
            have HST := Lib.hid hst
            clear hst
            go_wp2_with (go_at_call 68; refine (HG.out _ _ ((HA.out.below hbr).mono hbr.size)).mono ?_; rintro e w' ⟨rfl, hb1⟩)
            go_roundw
            case rel => exact ⟨k + 1, by omega, int_eq (by omega), int_eq (by rw [HST.out]; try omega), hW.trans (hb1.mono hW.size)⟩
            case measure => simp [intOf]; omega
        · have hlt' := hlt
          rw [E2.out] at hlt'
          go_wp2_with fail
          go_ret
          exact ⟨ret_int (by rw [HF.out, show (hi + 1 - lo).toNat = k by omega]), hbr⟩
    · have e2 : hi = s.hi := by omega
      have E2 := Lib.hid e2
      clear e1 e2 hlo hhi
      go_enter Try.func71, Try.ntmps71
      go_wp2_with fail
      go_loopw [7, 8] (fun n i wr => ∃ k : Nat, k ≤ (hi + 1 - lo).toNat ∧ i = .int .i64 (lo + k) ∧ n = .int .i64 (copiesN s lo k) ∧ Below (w.alloc (.cells #[.int .i64 s.id, .int .i64 s.lo, .int .i64 s.hi, .int .i64 s.days, .slice A s.hol.length c] 63)).heap.size (w.alloc (.cells #[.int .i64 s.id, .int .i64 s.lo, .int .i64 s.hi, .int .i64 s.days, .slice A s.hol.length c] 63)) wr) (fun _ i _ => (hi + 1 - intOf i).toNat)
      case atStart => exact ⟨0, Nat.zero_le _, int_eq (by rw [← E1.out]; simp), rfl, Below.refl _ _⟩
      case round =>
        obtain ⟨k, hk, rfl, rfl, hW⟩ := hrel
        have hbr := hb0.trans (hW.mono hb0.size)
        have kb := HK.out.below hW (by simp)
        have u0 := kb.cell 0
        have u1 := kb.cell 1
        have u2 := kb.cell 2
        have u3 := kb.cell 3
        have u4 := kb.cell 4
        simp at u0 u1 u2 u3 u4
        have hbd := copiesN_bd s lo k
        have hsz : w.heap.size < wr.heap.size := kb.lt
        clear kb
        by_cases hlt : lo + k ≤ hi
        · have hlt' := hlt
          rw [E2.out] at hlt'
          cases hg : getsB s (lo + k)
          all_goals
            have hst : copiesN s lo (k + 1) = copiesN s lo k + if getsB s (lo + k) then 1 else 0 := rfl
            rw [hg] at hst
            simp only [Bool.false_eq_true, if_false, if_true] at hst
            have HST := Lib.hid hst
            clear hst
            go_wp2_with (go_at_call 68; refine (HG.out _ _ ((HA.out.below hbr).mono hbr.size)).mono ?_; rintro e w' ⟨rfl, hb1⟩)
            go_roundw
            case rel => exact ⟨k + 1, by omega, int_eq (by omega), int_eq (by rw [HST.out]; try omega), hW.trans (hb1.mono hW.size)⟩
            case measure => simp [intOf]; omega
        · have hlt' := hlt
          rw [E2.out] at hlt'
          go_wp2_with fail
          go_ret
          exact ⟨ret_int (by rw [HF.out, show (hi + 1 - lo).toNat = k by omega]), hbr⟩
end Go.Proofs.Ytgopdfbmddkpfaa
