/- Contracts of wrong, rising and climbing; conditions: lists in memory. -/
import Derived.Test.YtfejedmpplbmjaaM1
set_option linter.unusedSimpArgs false
set_option linter.unusedVariables false
namespace Go.Ml
open Go.Fh
def wrgB (size least : Int) : Bool := !inB size 1 200 || !inB least 1 ((size + 1) / 2)
theorem ris_at {most : Int} {l : List Int} {k : Nat} (hk : k < l.length) {y : Int} (hy : y = l[k]) : (inB (l.getD k 0) 0 most && (decide (k = 0) || decide (l.getD (k - 1) 0 < l.getD k 0))) = (inB y 0 most && (decide (k = 0) || decide (l.getD (k - 1) 0 < y))) := by
  rw [hy, show l.getD k 0 = l[k] from by simp [hk]]
theorem int_at {B : Nat} {w : Go.World} {A : Option Go.Addr} {l : List Int} (h : Sl encInt 1 w B A l) {k : Nat} (hk : k < l.length) {x : Int} (hx : l[k] = x) : ∃ b off, A = some ⟨b, off, none⟩ ∧ w.cell? ⟨b, off + k, none⟩ = some (.int .i64 x) := by
  obtain ⟨b, off, hA, hb, hc⟩ := h.at_ hk
  have := hc 0 _ rfl
  rw [hx] at this
  exact ⟨b, off, hA, by simpa using this⟩
end Go.Ml
namespace Go.Proofs.Ytfejedmpplbmjaa
open Go.RowKit Go.Fh Go.Ml
theorem within_val (n a b : Int) (v : Bool) (hv : v = inB n a b) (w : World) : Calls Try.prog 54 #[.int .i64 n, .int .i64 a, .int .i64 b] w fun e w' => e = .returned (.bool v) ∧ w = w' := by
  rw [hv]; exact within_any n a b w
set_option maxRecDepth 20000 in
set_option maxHeartbeats 4000000 in
theorem wrong_any (size least : Int) (z : Bool) (hz : z = wrgB size least) (w : World) :
    Calls Try.prog 84 #[.agg #[.int .i64 size, .int .i64 least]] w fun e w' => e = .returned (.bool z) ∧ Hid (Below w.heap.size w w') := by
  obtain ⟨b1, h1⟩ : ∃ b, b = inB size 1 200 := ⟨_, rfl⟩
  obtain ⟨b2, h2⟩ : ∃ b, b = inB least 1 ((size + 1) / 2) := ⟨_, rfl⟩
  have HZ := Lib.hid (show z = (!b1 || !b2) by rw [hz, h1, h2]; rfl)
  have H1 := Lib.hid (fun W => within_val _ _ _ b1 h1 W)
  cases b1
  · clear hz h1 h2
    go_enter Try.func84, Try.ntmps84
    go_wp2_with (go_at_call 54; with_reducible refine (H1.out _).mono ?_; rintro e wz ⟨rfl, rfl⟩)
    go_ret
    exact ⟨ret_bool (by rw [HZ.out]; rfl), Lib.hid (balR (Below.refl _ _) _)⟩
  · obtain ⟨s1, s2⟩ := inB_iff.1 h1.symm
    have e1 : IntKind.i64.wrap (size + 1) = size + 1 := by rw [IntKind.wrap_i64]; omega
    have e2 : (size + 1).tdiv 2 = (size + 1) / 2 := Int.tdiv_eq_ediv_of_nonneg (by omega)
    have e3 : IntKind.i64.wrap ((size + 1).tdiv 2) = (size + 1) / 2 := by rw [e2, IntKind.wrap_i64]; omega
    have e4 : IntKind.i64.wrap ((size + 1) / 2) = (size + 1) / 2 := by rw [IntKind.wrap_i64]; omega
    have s3 : 0 ≤ size + 1 := by omega
    have H2 := Lib.hid (fun W => within_val _ _ _ b2 h2 W)
    clear hz h1 h2
    cases b2
    all_goals
      go_enter Try.func84, Try.ntmps84
      go_wp2_with first
        | (go_at_call 54; with_reducible refine (H1.out _).mono ?_; rintro e wz ⟨rfl, rfl⟩)
        | (go_at_call 54; with_reducible refine (H2.out _).mono ?_; rintro e wz ⟨rfl, rfl⟩)
      go_ret
      exact ⟨ret_bool (by rw [HZ.out]; rfl), Lib.hid (balR (Below.refl _ _) _)⟩
set_option maxRecDepth 20000 in
set_option maxHeartbeats 4000000 in
theorem rising_any (A : Option Addr) (c N : Nat) (l : List Int) (most : Int) (w : World) (hN : N = l.length) (hN9 : N ≤ 9223372036854775807) (hA : Sl encInt 1 w w.heap.size A l) (z : Bool) (hz : z = risB most l) :
    Calls Try.prog 85 #[.slice A N c, .int .i64 most] w fun e w' => e = .returned (.bool z) ∧ Hid (Below w.heap.size w w') := by
  have HN := Lib.hid hN
  have HA := Lib.hid (fun W (hb : Below w.heap.size w W) => hA.below hb)
  have HZ := Lib.hid hz
  clear hN hA hz
  go_enter Try.func85, Try.ntmps85
  go_wp2_with fail
  go_loopw [9] (fun u wr => ∃ k : Nat, k ≤ N ∧ u = .int .i64 (k : Int) ∧ Hid (∀ i, i < k → (inB (l.getD i 0) 0 most && (decide (i = 0) || decide (l.getD (i - 1) 0 < l.getD i 0))) = true) ∧ Hid (Below w.heap.size w wr)) (fun u _ => N - (intOf u).toNat)
  case atStart => exact ⟨0, Nat.zero_le _, rfl, Lib.hid (fun i h => by omega), Below.refl _ _⟩
  case round =>
    obtain ⟨k, hk, rfl, HK, HB⟩ := hrel
    by_cases hlt : k < N
    · have hkl : k < l.length := by have := HN.out; omega
      obtain ⟨y, hy⟩ : ∃ y, y = l[k] := ⟨_, rfl⟩
      obtain ⟨b, off, hba, c0⟩ := int_at (HA.out _ HB.out) hkl hy.symm
      have hat := ris_at (most := most) hkl hy
      obtain ⟨b1, h1⟩ : ∃ b, b = inB y 0 most := ⟨_, rfl⟩
      rw [← h1] at hat
      have H1 := Lib.hid (fun W => within_val _ _ _ b1 h1 W)
      have i0 : (0 : Int) ≤ (k : Int) := by omega
      have i1 : (k : Int) < (N : Int) := by omega
      have HSTEP := Lib.hid (show (inB (l.getD k 0) 0 most && (decide (k = 0) || decide (l.getD (k - 1) 0 < l.getD k 0))) = true → ∀ i, i < k + 1 → (inB (l.getD i 0) 0 most && (decide (i = 0) || decide (l.getD (i - 1) 0 < l.getD i 0))) = true from fun h i hi => by
        by_cases e : i = k
        · subst e; exact h
        · exact HK.out i (by omega))
      have HSTOP := Lib.hid (show (inB (l.getD k 0) 0 most && (decide (k = 0) || decide (l.getD (k - 1) 0 < l.getD k 0))) = false → z = false from fun h => by
        rw [HZ.out]; exact all_false hkl h)
      cases b1
      · have hzf := HSTOP.out (by rw [hat]; rfl)
        subst hzf
        subst hba
        clear hy hat h1
        go_wp2_with (go_at_call 54; with_reducible refine (H1.out _).mono ?_; rintro e wz ⟨rfl, rfl⟩)
        go_ret
        exact ⟨rfl, HB⟩
      · by_cases hk0 : k = 0
        · have HS := Lib.hid (HSTEP.out (by rw [hat, hk0]; rfl))
          have t1 : decide ((k : Int) > 0) = false := by simp; omega
          have t2 : decide ((0 : Int) < (k : Int)) = false := by simp; omega
          have t3 : decide (0 < k) = false := by simp; omega
          subst hba
          clear hy hat h1 hk0
          go_wp2_with (go_at_call 54; with_reducible refine (H1.out _).mono ?_; rintro e wz ⟨rfl, rfl⟩)
          go_roundw
          case rel => exact ⟨k + 1, by omega, by go_num, HS, HB⟩
          case measure => simp [intOf]; omega
        · have t1 : decide ((k : Int) > 0) = true := by simp; omega
          have t2 : decide ((0 : Int) < (k : Int)) = true := by simp; omega
          have t3 : decide (0 < k) = true := by simp; omega
          obtain ⟨p, hp⟩ : ∃ p, p = l[k - 1]'(by omega) := ⟨_, rfl⟩
          obtain ⟨b', off', hba', c1⟩ := int_at (HA.out _ HB.out) (k := k - 1) (by omega) hp.symm
          rw [hba] at hba'
          injection hba' with e
          injection e with e1 e2
          subst e1 e2
          have hat := hat.trans (show _ = (true && (decide (k = 0) || decide (p < y))) from by rw [show l.getD (k - 1) 0 = p from by rw [hp]; simp [show k - 1 < l.length by omega]])
          subst hba
          have j0 : (0 : Int) ≤ (k : Int) - 1 := by omega
          have j1 : (k : Int) - 1 < (N : Int) := by omega
          have j2 : IntKind.i64.wrap ((k : Int) - 1) = (k : Int) - 1 := by rw [IntKind.wrap_i64]; omega
          have j3 : 1 ≤ k := by omega
          have j4 : (1 : Int) ≤ (k : Int) := by omega
          by_cases hyp : y ≤ p
          · have t4 : decide (y ≤ p) = true := by simpa using hyp
            have hzf := HSTOP.out (by rw [hat]; simp; exact ⟨by omega, hyp⟩)
            subst hzf
            clear hy hat h1 hk0 hp hyp
            go_wp2_with (go_at_call 54; with_reducible refine (H1.out _).mono ?_; rintro e wz ⟨rfl, rfl⟩)
            go_ret
            exact ⟨rfl, HB⟩
          · have t4 : decide (y ≤ p) = false := by simpa using hyp
            have HS := Lib.hid (HSTEP.out (by rw [hat]; simp; omega))
            clear hy hat h1 hk0 hp hyp
            go_wp2_with (go_at_call 54; with_reducible refine (H1.out _).mono ?_; rintro e wz ⟨rfl, rfl⟩)
            go_roundw
            case rel => exact ⟨k + 1, by omega, by go_num, HS, HB⟩
            case measure => simp [intOf]; omega
    · obtain rfl : k = N := by omega
      have HZ2 := Lib.hid (show z = true from by rw [HZ.out]; exact all_true (by rw [← HN.out]; exact HK.out))
      go_wp2_with fail
      go_ret
      exact ⟨ret_bool HZ2.out.symm, HB⟩
set_option maxRecDepth 20000 in
set_option maxHeartbeats 4000000 in
theorem climbing_any (A : Option Addr) (c N : Nat) (l : List Int) (w : World) (hN : N = l.length) (hN9 : N ≤ 1000000000) (hA : Sl encInt 1 w w.heap.size A l) (z : Bool) (hz : z = clmB l) :
    Calls Try.prog 86 #[.slice A N c] w fun e w' => e = .returned (.bool z) ∧ Hid (Below w.heap.size w w') := by
  have HN := Lib.hid hN
  have HA := Lib.hid (fun W (hb : Below w.heap.size w W) => hA.below hb)
  have HZ := Lib.hid hz
  clear hN hA hz
  go_enter Try.func86, Try.ntmps86
  go_wp2_with fail
  go_loopw [3] (fun u wr => ∃ k : Nat, 1 ≤ k ∧ k ≤ N + 1 ∧ u = .int .i64 (k : Int) ∧ Hid (∀ i, i < k → i < N → (decide (i = 0) || decide (l.getD (i - 1) 0 < l.getD i 0)) = true) ∧ Hid (Below w.heap.size w wr)) (fun u _ => N + 1 - (intOf u).toNat)
  case atStart => exact ⟨1, Nat.le_refl _, by omega, rfl, Lib.hid (fun i h _ => by rw [show i = 0 by omega]; rfl), Below.refl _ _⟩
  case round =>
    obtain ⟨k, hk1, hk, rfl, HK, HB⟩ := hrel
    by_cases hlt : k < N
    · have hkl : k < l.length := by have := HN.out; omega
      obtain ⟨y, hy⟩ : ∃ y, y = l[k] := ⟨_, rfl⟩
      obtain ⟨b, off, hba, c0⟩ := int_at (HA.out _ HB.out) hkl hy.symm
      obtain ⟨p, hp⟩ : ∃ p, p = l[k - 1]'(by omega) := ⟨_, rfl⟩
      obtain ⟨b', off', hba', c1⟩ := int_at (HA.out _ HB.out) (k := k - 1) (by omega) hp.symm
      rw [hba] at hba'
      injection hba' with e
      injection e with e1 e2
      subst e1 e2
      have hat : (decide (k = 0) || decide (l.getD (k - 1) 0 < l.getD k 0)) = decide (p < y) := by
        rw [show l.getD (k - 1) 0 = p from by rw [hp]; simp [show k - 1 < l.length by omega], show l.getD k 0 = y from by rw [hy]; simp [hkl]]
        rw [decide_eq_false (show ¬ k = 0 by omega)]; rfl
      subst hba
      have i0 : (0 : Int) ≤ (k : Int) := by omega
      have i1 : (k : Int) < (N : Int) := by omega
      have j0 : (0 : Int) ≤ (k : Int) - 1 := by omega
      have j1 : (k : Int) - 1 < (N : Int) := by omega
      have j2 : IntKind.i64.wrap ((k : Int) - 1) = (k : Int) - 1 := by rw [IntKind.wrap_i64]; omega
      have j4 : (1 : Int) ≤ (k : Int) := by omega
      by_cases hyp : y ≤ p
      · have t4 : decide (y ≤ p) = true := by simpa using hyp
        have hzf : z = false := by
          rw [HZ.out]
          exact all_false hkl (by rw [hat]; simpa using hyp)
        subst hzf
        clear hy hat hp hyp
        go_wp2_with fail
        go_quiet (fail)
        go_wp2_with fail
        go_ret
        exact ⟨rfl, Lib.hid (below_drewN HB.out _)⟩
      · have t4 : decide (y ≤ p) = false := by simpa using hyp
        have HS := Lib.hid (show ∀ i, i < k + 1 → i < N → (decide (i = 0) || decide (l.getD (i - 1) 0 < l.getD i 0)) = true from fun i hi hiN => by
          by_cases e : i = k
          · subst e; rw [hat]; simp; omega
          · exact HK.out i (by omega) hiN)
        clear hy hat hp hyp
        go_wp2_with fail
        go_quiet (fail)
        go_wp2_with fail
        go_roundw
        case rel => exact ⟨k + 1, by omega, by omega, by go_num, HS, Lib.hid (below_drewN HB.out _)⟩
        case measure => simp [intOf]; omega
    · have HZ2 := Lib.hid (show z = true from by
        rw [HZ.out]
        exact all_true (fun i hi => HK.out i (by have := HN.out; omega) (by have := HN.out; omega)))
      go_wp2_with fail
      go_ret
      exact ⟨ret_bool HZ2.out.symm, HB⟩
end Go.Proofs.Ytfejedmpplbmjaa
