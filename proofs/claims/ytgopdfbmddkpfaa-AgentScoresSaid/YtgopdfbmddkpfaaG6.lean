/- Contract of the reference's Says; conditions: none. -/
import Derived.Test.YtgopdfbmddkpfaaG3
import Derived.Test.YtgopdfbmddkpfaaR1
import Derived.Test.YtgopdfbmddkpfaaP2
set_option linter.unusedSimpArgs false
set_option linter.unusedVariables false
namespace Go.Ag
open Go.Proofs.Ytgopdfbmddkpfaa
theorem lookN_full {m : Int × Int} {day : Int} (hd : 0 ≤ day) (hm : 0 ≤ m.2) : (lookN m day : Int) < m.2 ↔ day < m.2 * stepM m := by
  unfold lookN stepM
  split <;> omega
theorem sayV_mean {k : Int} {l : List Int} (hk : k ≠ 4) (h1 : k = 1 → l.length = 1) : sayV k l = (sumI l + l.length - 1) / l.length := by
  unfold sayV
  split
  · rename_i e
    have := h1 e
    match l, this with
    | [x], _ => simp [sumI]
  · first
      | rw [if_neg hk]
      | rfl
theorem round_up {s n : Int} (hs : 0 ≤ s) (hn : 0 < n) : (s + n - 1) / n = if 0 < s % n then s / n + 1 else s / n := by
  have h : s % n + n * (s / n) = s := by have := Int.mul_ediv_add_emod s n; omega
  have h1 := Int.emod_nonneg s (show n ≠ 0 by omega)
  have h2 := Int.emod_lt_of_pos s hn
  generalize s % n = r at *
  generalize s / n = q at *
  subst h
  by_cases hr : 0 < r
  · rw [if_pos hr, show r + n * q + n - 1 = (r - 1) + n * (q + 1) by rw [Int.mul_add]; omega, Int.add_mul_ediv_left _ _ (by omega), Int.ediv_eq_zero_of_lt (by omega) (by omega)]
    omega
  · rw [if_neg hr, show r + n * q + n - 1 = (r + n - 1) + n * q by omega, Int.add_mul_ediv_left _ _ (by omega), Int.ediv_eq_zero_of_lt (by omega) (by omega)]
    omega
def most0 (l : List Int) : Int := l.foldl max 0
theorem most0_snoc (l : List Int) (x : Int) : most0 (l ++ [x]) = max (most0 l) x := by simp [most0]
theorem most0_bd {l : List Int} (h : ∀ x ∈ l, 0 ≤ x ∧ x ≤ 10000) : 0 ≤ most0 l ∧ most0 l ≤ 10000 := by
  have key : ∀ (l : List Int) (a : Int), 0 ≤ a → a ≤ 10000 → (∀ x ∈ l, 0 ≤ x ∧ x ≤ 10000) → 0 ≤ l.foldl max a ∧ l.foldl max a ≤ 10000 := by
    intro l
    induction l with
    | nil => intro a h1 h2 _; exact ⟨h1, h2⟩
    | cons x l ih =>
      intro a h1 h2 h3
      have hx := h3 x (by simp)
      exact ih (max a x) (by omega) (by omega) (fun y hy => h3 y (by simp [hy]))
  exact key l 0 (by omega) (by omega) h
theorem maxOf_most0 {l : List Int} (hp : 0 < l.length) (h : ∀ x ∈ l, 0 ≤ x ∧ x ≤ 10000) : Lib.maxOf l = most0 l := by
  cases l with
  | nil => simp at hp
  | cons x l =>
    have hx := h x (by simp)
    simp only [Lib.maxOf, most0, List.headD_cons, List.foldl_cons]
    rw [show max x x = x by omega, show max 0 x = x by omega]
/-- what was sold on the first k days that a method looks at -/
def soldK (m : Int × Int) (h : List (Int × Int)) (day : Int) (k : Nat) : List Int := (uptoF (dayAt m day) k).map (soldAt h)
theorem soldK_succ (m : Int × Int) (h : List (Int × Int)) (day : Int) (k : Nat) : soldK m h day (k + 1) = soldK m h day k ++ [soldAt h (dayAt m day k)] := by simp [soldK, uptoF_succ]
theorem soldK_len (m : Int × Int) (h : List (Int × Int)) (day : Int) (k : Nat) : (soldK m h day k).length = k := by simp [soldK, uptoF]
theorem soldK_bd {m : Int × Int} {h : List (Int × Int)} {day : Int} {k : Nat} (hd : ∀ d ∈ h, OkDay d) : ∀ x ∈ soldK m h day k, 0 ≤ x ∧ x ≤ 10000 := by
  intro x hx
  simp only [soldK, List.mem_map] at hx
  obtain ⟨y, _, rfl⟩ := hx
  exact soldAt_bd hd y
end Go.Ag
namespace Go.Proofs.Ytgopdfbmddkpfaa
open Go.RowKit Go.Fh Go.Ag

set_option maxRecDepth 20000 in
set_option maxHeartbeats 1000000 in
theorem rwrongM_any (m : Int × Int) (w : World) :
    Calls Try.prog 113 #[.agg #[.int .i64 m.1, .int .i64 m.2]] w fun e w' => e = .returned (.bool (wrongM m)) ∧ Below w.heap.size w w' := by
  have hb0 : Below w.heap.size w (w.alloc (.cells #[.int .i64 m.1, .int .i64 m.2] 143)) := (Below.refl _ _).alloc (Nat.le_refl _) _
  cases h1 : inB m.1 1 4
  · have hr : wrongM m = true := by simp [wrongM, h1]
    have HR := Lib.hid hr
    clear hr
    go_enter Try.func113, Try.ntmps113
    go_wp2_with (go_at_call 103; refine (rin_any _ _ _ _).mono ?_; rintro e w' ⟨rfl, rfl⟩)
    go_ret
    exact ⟨ret_bool HR.out.symm, hb0⟩
  · cases h2 : inB m.2 1 60
    · have hr : wrongM m = true := by simp [wrongM, h1, h2]
      have HR := Lib.hid hr
      clear hr
      go_enter Try.func113, Try.ntmps113
      go_wp2_with (go_at_call 103; refine (rin_any _ _ _ _).mono ?_; rintro e w' ⟨rfl, rfl⟩)
      go_ret
      exact ⟨ret_bool HR.out.symm, hb0⟩
    · obtain ⟨b1, b2⟩ := inB_iff.1 h2
      have hr : wrongM m = (decide (m.1 = 1) && decide (1 < m.2)) := by simp [wrongM, h1, h2]
      have HR := Lib.hid hr
      clear hr
      by_cases e1 : m.1 = 1
      · have t1 : (m.1 == 1) = true := by simpa using e1
        by_cases e2 : m.2 = 1
        · have t2 : (m.2 != 1) = false := by simp [e2]
          have E1 := Lib.hid e1
          have E2 := Lib.hid e2
          clear e1 e2
          go_enter Try.func113, Try.ntmps113
          go_wp2_with (go_at_call 103; refine (rin_any _ _ _ _).mono ?_; rintro e w' ⟨rfl, rfl⟩)
          go_ret
          exact ⟨ret_bool (by rw [HR.out, E1.out, E2.out]; rfl), hb0⟩
        · have t2 : (m.2 != 1) = true := by simpa using e2
          have E1 := Lib.hid e1
          have E2 := Lib.hid (show 1 < m.2 by omega)
          clear e1 e2
          go_enter Try.func113, Try.ntmps113
          go_wp2_with (go_at_call 103; refine (rin_any _ _ _ _).mono ?_; rintro e w' ⟨rfl, rfl⟩)
          go_ret
          exact ⟨ret_bool (by rw [HR.out, E1.out, decide_eq_true E2.out]; rfl), hb0⟩
      · have t1 : (m.1 == 1) = false := by simpa using e1
        have E1 := Lib.hid e1
        clear e1
        go_enter Try.func113, Try.ntmps113
        go_wp2_with (go_at_call 103; refine (rin_any _ _ _ _).mono ?_; rintro e w' ⟨rfl, rfl⟩)
        go_ret
        exact ⟨ret_bool (by rw [HR.out, decide_eq_false E1.out]; rfl), hb0⟩

set_option maxRecDepth 20000 in
set_option maxHeartbeats 4000000 in
theorem rsaysM_any (m : Int × Int) (A : Option Addr) (c : Nat) (h : List (Int × Int)) (day : Int) (w : World) (hl : h.length ≤ 400) (hA : Sl enc2 2 w w.heap.size A h) (hd : ∀ d ∈ h, OkDay d) (hw : wrongM m = false) (hd0 : 0 ≤ day) (hd1 : day ≤ h.length) :
    Calls Try.prog 114 #[.agg #[.int .i64 m.1, .int .i64 m.2], .slice A h.length c, .int .i64 day] w fun e w' => e = .returned (.tuple #[.int .i64 (saysM m h day).1, .bool (saysM m h day).2]) ∧ Below w.heap.size w w' := by
  have hm : (1 ≤ m.1 ∧ m.1 ≤ 4) ∧ (1 ≤ m.2 ∧ m.2 ≤ 60) ∧ (m.1 = 1 → m.2 = 1) := by simp [wrongM, inB] at hw; omega
  obtain ⟨⟨hm1, hm2⟩, ⟨hm3, hm4⟩, hm5⟩ := hm
  have hfull := lookN_full (m := m) hd0 (show 0 ≤ m.2 by omega)
  have hlk : ∀ k, k < lookN m day ↔ ((k : Int) + 1 ≤ m.2 ∧ 0 ≤ day - ((k : Int) + 1) * stepM m) := fun k => lookN_lt hd0 (by omega) k
  have hbd := fun k (hk : k < lookN m day) => dayAt_bd (m := m) hd0 (show 0 ≤ m.2 by omega) hk
  have hle : lookN m day ≤ m.2.toNat := by unfold lookN; split <;> omega
  obtain ⟨w0, hw0⟩ : ∃ w0, w0 = w.alloc (.cells #[.int .i64 m.1, .int .i64 m.2] 143) := ⟨_, rfl⟩
  have hb0 : Below w.heap.size w w0 := by rw [hw0]; exact (Below.refl _ _).alloc (Nat.le_refl _) _
  have hk0 : Blk w0 w.heap.size 143 #[.int .i64 m.1, .int .i64 m.2] := by rw [hw0]; exact Blk.new _ _ _
  obtain ⟨st, hst⟩ : ∃ st, st = stepM m := ⟨_, rfl⟩
  have hst2 : (st = 7 ∧ (m.1 == 3) = true) ∨ (st = 1 ∧ (m.1 == 3) = false) := by
    rw [hst]; unfold stepM
    by_cases e : m.1 = 3
    · exact .inl ⟨by rw [if_pos e], by simpa using e⟩
    · exact .inr ⟨by rw [if_neg e], by simpa using e⟩
  rw [← hst] at hfull hlk
  have HLK := Lib.hid hlk
  have HBD := Lib.hid hbd
  have HA := Lib.hid hA
  have HD := Lib.hid hd
  have HB0 := Lib.hid hb0
  have HK0 := Lib.hid hk0
  have HW0 := Lib.hid hw0
  have HST := Lib.hid hst
  have HM5 := Lib.hid hm5
  have HLE := Lib.hid hle
  clear hlk hbd hA hd hb0 hk0 hw hst hle hw0
  have gm := IntWalk.i64_in (m.2 * st) (by rcases hst2 with ⟨e, _⟩ | ⟨e, _⟩ <;> rw [e] <;> omega)
  by_cases hlt : day < m.2 * st
  · have hs : saysM m h day = (0, false) := by unfold saysM; rw [if_pos (hfull.2 hlt)]
    have HS := Lib.hid hs
    have tl : decide (day < m.2 * st) = true := by simpa using hlt
    clear hs hlt hfull hm5
    rcases hst2 with ⟨rfl, t3⟩ | ⟨rfl, t3⟩
    all_goals
      try simp only [Int.mul_one] at tl gm
      go_enter Try.func114, Try.ntmps114
      go_wp2_with fail
      go_ret2
      exact ⟨by rw [HS.out]; rfl, (Below.refl _ _).alloc (Nat.le_refl _) _⟩
  · have hnl : lookN m day = m.2.toNat := by have := HLE.out; have : ¬ (lookN m day : Int) < m.2 := fun e => hlt (hfull.1 e); omega
    have hs : saysM m h day = (sayV m.1 (soldL m h day), true) := by unfold saysM; rw [if_neg (fun e => hlt (hfull.1 e))]
    have hsk : soldL m h day = soldK m h day m.2.toNat := by unfold soldL soldK; rw [hnl]
    rw [hsk] at hs
    have HS := Lib.hid hs
    have HNL := Lib.hid hnl
    have tl : decide (day < m.2 * st) = false := by simpa using hlt
    clear hs hfull hm5 hnl hsk
    rcases hst2 with ⟨rfl, t3⟩ | ⟨rfl, t3⟩
    all_goals
      try simp only [Int.mul_one] at tl gm hlt
      go_enter Try.func114, Try.ntmps114
      go_wp2_with fail
      go_loopw [9, 10, 11] (fun u t i wr => ∃ k : Nat, k ≤ m.2.toNat ∧ i = .int .i64 ((k : Int) + 1) ∧ u = .int .i64 (sumI (soldK m h day k)) ∧ t = .int .i64 (most0 (soldK m h day k)) ∧ Blk wr w.heap.size 143 #[.int .i64 m.1, .int .i64 m.2] ∧ Below w.heap.size w wr) (fun _ _ i _ => 61 - (intOf i).toNat)
      case atStart => exact ⟨0, Nat.zero_le _, rfl, rfl, rfl, Blk.new _ _ _, (Below.refl _ _).alloc (Nat.le_refl _) _⟩
      case round =>
        obtain ⟨k, hk, rfl, rfl, rfl, hK, hB⟩ := hrel
        have kc := hK.cell 0
        have kd := hK.cell 1
        simp at kc kd
        have hel := soldK_bd (m := m) (day := day) (k := k) HD.out
        have hS := sumI_bd hel
        have hM := most0_bd hel
        have hlen := soldK_len m h day k
        rw [hlen] at hS
        have hsn := soldK_succ m h day k
        by_cases hlt2 : k < m.2.toNat
        · have t1 : decide ((k : Int) + 1 ≤ m.2) = true := by simp; omega
          have hkl : k < lookN m day := by rw [HNL.out]; exact hlt2
          obtain ⟨d1, d2⟩ := HBD.out k hkl
          obtain ⟨j, hj⟩ : ∃ j : Nat, dayAt m day k = j := ⟨(dayAt m day k).toNat, by omega⟩
          have hjl : j < h.length := by omega
          obtain ⟨b, off, rfl, hb, c0, c1⟩ := (HA.out.below hB).at2 hjl
          obtain ⟨o1, o2, o3, o4⟩ := HD.out _ (List.getElem_mem hjl)
          have hso : soldAt h (dayAt m day k) = h[j].1 - h[j].2 := by rw [hj]; simp [soldAt, hjl]
          rw [hso] at hsn
          obtain ⟨x, hx⟩ : ∃ x, x = h[j] := ⟨_, rfl⟩
          rw [← hx] at c0 c1 o1 o2 o3 o4 hsn
          have hda : dayAt m day k = day - ((k : Int) + 1) * stepM m := rfl
          have hjn : j = (day - ((k : Int) + 1) * stepM m).toNat := by omega
          have hz0 : 0 ≤ day - ((k : Int) + 1) * stepM m := by omega
          have hz1 : day - ((k : Int) + 1) * stepM m < (h.length : Int) := by omega
          rw [← HST.out] at hjn hz0 hz1
          try simp only [Int.mul_one] at hjn hz0 hz1
          rw [hjn] at c0 c1
          clear hda hjn
          have hsz := hB.size
          have hbw : b < wr.heap.size := by omega
          have g1 := IntWalk.i64_in (((k : Int) + 1) * 7) (by omega)
          have g2 := IntWalk.i64_in ((k : Int) + 1) (by omega)
          have g3 := IntWalk.i64_in (day - ((k : Int) + 1) * 7) (by omega)
          have g5 := IntWalk.i64_in (day - ((k : Int) + 1)) (by omega)
          have g4 := IntWalk.i64_in ((k : Int) + 1 + 1) (by omega)
          have HSN := Lib.hid hsn
          have HX := Lib.hid hx
          generalize soldK m h day k = L at *
          generalize hSg : sumI L = S at *
          generalize hMg : most0 L = M at *
          have HSG := Lib.hid hSg
          have HMG := Lib.hid hMg
          clear hel hsn hso hj hx hSg hMg d1 d2 hlen
          have f1 := IntWalk.i64_in (S + x.1) (by omega)
          have f2 := IntWalk.i64_in (S + x.1 - x.2) (by omega)
          have f3 := IntWalk.i64_in (x.1 - x.2) (by omega)
          have hKn := hK.alloc (.cells #[.int .i64 x.1, .int .i64 x.2] 120)
          have hBn := hB.alloc hB.size (.cells #[.int .i64 x.1, .int .i64 x.2] 120)
          go_wp2_with fail
          go_roundw
          case rel => exact ⟨k + 1, by omega, int_eq (by omega), int_eq (by rw [HSN.out, sumI_snoc, HSG.out]; omega), int_eq (by rw [HSN.out, most0_snoc, HMG.out]), hKn, hBn⟩
          case measure => simp [intOf]; omega
        · obtain rfl : k = m.2.toNat := by omega
          have t1 : decide (((m.2.toNat : Nat) : Int) + 1 ≤ m.2) = false := by simp; omega
          have hmn : ((m.2.toNat : Nat) : Int) = m.2 := by omega
          have hp : 0 < (soldK m h day m.2.toNat).length := by omega
          have hmx := maxOf_most0 hp hel
          have hmean := fun (e : m.1 ≠ 4) => sayV_mean (k := m.1) (l := soldK m h day m.2.toNat) e (fun e1 => by have := HM5.out e1; omega)
          rw [hlen, hmn] at hmean
          rw [hmn] at hS
          generalize soldK m h day m.2.toNat = L at *
          have hS0 := hS.1
          have hru := round_up hS.1 (show 0 < m.2 by omega)
          have hdv := Int.ediv_nonneg hS.1 (show 0 ≤ m.2 by omega)
          have hdl := Int.ediv_le_self m.2 hS.1
          have hS6 : sumI L ≤ 600000 := by omega
          generalize sumI L = S at *
          have hz : (m.2 == 0) = false := by simp; omega
          have hm0 : 0 ≤ m.2 := by omega
          have f1 := IntWalk.i64_in (S / m.2 + 1) (by omega)
          have f2 := IntWalk.i64_in (S / m.2) (by omega)
          by_cases h4 : m.1 = 4
          · have t4 : (m.1 == 4) = true := by simpa using h4
            have hv : saysM m h day = (most0 L, true) := by rw [HS.out, h4]; simp only [sayV, hmx]; rfl
            have HV := Lib.hid hv
            clear hel hS hM hlen hsn hp hmx hmean hru hv h4
            go_wp2_with fail
            go_ret2
            exact ⟨by rw [HV.out]; rfl, hB⟩
          · have t4 : (m.1 == 4) = false := by simpa using h4
            have hv : saysM m h day = (if 0 < S % m.2 then S / m.2 + 1 else S / m.2, true) := by rw [HS.out, hmean h4, hru]
            by_cases hr : 0 < S % m.2
            · have tr : decide (0 < S % m.2) = true := by simpa using hr
              rw [if_pos hr] at hv
              have HV := Lib.hid hv
              clear hel hS hM hlen hsn hp hmx hmean hru hv h4 hr
              go_wp2_with fail
              go_ret2
              exact ⟨by rw [HV.out]; rfl, hB⟩
            · have tr : decide (0 < S % m.2) = false := by simpa using hr
              rw [if_neg hr] at hv
              have HV := Lib.hid hv
              clear hel hS hM hlen hsn hp hmx hmean hru hv h4 hr
              go_wp2_with fail
              go_ret2
              exact ⟨by rw [HV.out]; rfl, hB⟩
end Go.Proofs.Ytgopdfbmddkpfaa
namespace Go.Proofs.Ytgopdfbmddkpfaa
open Go.RowKit Go.Fh Go.Ag

set_option maxRecDepth 20000 in
set_option maxHeartbeats 2000000 in
theorem rsaysD_any (m : Int × Int) (A : Option Addr) (c : Nat) (h : List (Int × Int)) (day : Int) (w : World) (hl : h.length ≤ 9223372036854775807) (hA : Sl enc2 2 w w.heap.size A h) :
    Calls Try.prog 73 #[.agg #[.int .i64 m.1, .int .i64 m.2], .slice A h.length c, .int .i64 day] w fun e w' => e = .returned (.tuple #[.int .i64 (saysD m h day).1, .bool (saysD m h day).2.1, .int .i64 (saysD m h day).2.2]) ∧ Below w.heap.size w w' := by
  have hb0 : Below w.heap.size w (w.alloc (.cells #[.int .i64 m.1, .int .i64 m.2] 143)) := (Below.refl _ _).alloc (Nat.le_refl _) _
  have hk0 : Blk (w.alloc (.cells #[.int .i64 m.1, .int .i64 m.2] 143)) w.heap.size 143 #[.int .i64 m.1, .int .i64 m.2] := Blk.new _ _ _
  have HA := Lib.hid hA
  have HC := Lib.hid (rcheck_any A c h (w.alloc (.cells #[.int .i64 m.1, .int .i64 m.2] 143)) hl ((hA.below hb0).mono (by simp)))
  clear hA
  by_cases hc : checkH h = 0
  · rw [hc] at HC
    obtain ⟨h400, hd⟩ := checkH_zero.1 hc
    have HD := Lib.hid hd
    have HCZ := Lib.hid hc
    clear hc hd
    cases hw : wrongM m
    · have HW := Lib.hid hw
      cases hr : inB day 0 h.length
      · have hs : saysD m h day = (0, false, 6) := by simp [saysD, HCZ.out, hw, hr]
        have HS := Lib.hid hs
        clear hs
        go_enter Try.func73, Try.ntmps73
        go_wp2_with fail
        refine HC.out.mono ?_
        rintro e w1 ⟨rfl, hb1⟩
        have k1 := Blk.below hk0 hb1 (by simp)
        have kc := k1.cell 0
        have kd := k1.cell 1
        simp at kc kd
        have hbb := hb0.trans (hb1.mono (by simp))
        go_wp2_with fail
        refine (rwrongM_any m w1).mono ?_
        rintro e w2 ⟨rfl, hb2⟩
        have k2 := Blk.below k1 hb2 k1.lt
        have kc2 := k2.cell 0
        have kd2 := k2.cell 1
        simp at kc2 kd2
        have hbb2 := hbb.trans (hb2.mono hbb.size)
        go_wp2_with (go_at_call 103; refine (rin_any _ _ _ _).mono ?_; rintro e w' ⟨rfl, rfl⟩)
        refine bodyPost_ret (v := .tuple #[.int .i64 0, .bool false, .int .i64 6]) ?_ rfl ⟨by rw [HS.out], hbb2⟩
        simp [results, Try.results73, go_sem]
      · have hs : saysD m h day = ((saysM m h day).1, (saysM m h day).2, 0) := by simp [saysD, HCZ.out, hw, hr]
        have HS := Lib.hid hs
        obtain ⟨hr1, hr2⟩ := inB_iff.1 hr
        clear hs
        go_enter Try.func73, Try.ntmps73
        go_wp2_with fail
        refine HC.out.mono ?_
        rintro e w1 ⟨rfl, hb1⟩
        have k1 := Blk.below hk0 hb1 (by simp)
        have kc := k1.cell 0
        have kd := k1.cell 1
        simp at kc kd
        have hbb := hb0.trans (hb1.mono (by simp))
        go_wp2_with fail
        refine (rwrongM_any m w1).mono ?_
        rintro e w2 ⟨rfl, hb2⟩
        have k2 := Blk.below k1 hb2 k1.lt
        have kc2 := k2.cell 0
        have kd2 := k2.cell 1
        simp at kc2 kd2
        have hbb2 := hbb.trans (hb2.mono hbb.size)
        have HM := Lib.hid (rsaysM_any m A c h day w2 h400 ((HA.out.below hbb2).mono hbb2.size) HD.out HW.out hr1 hr2)
        go_wp2_with (first
          | (go_at_call 103; refine (rin_any _ _ _ _).mono ?_; rintro e w' ⟨rfl, rfl⟩)
          | (go_at_call 114; refine HM.out.mono ?_; rintro e w3 ⟨rfl, hb3⟩; have hbb3 := hbb2.trans (hb3.mono hbb2.size)))
        refine bodyPost_ret (v := .tuple #[.int .i64 (saysM m h day).1, .bool (saysM m h day).2, .int .i64 0]) ?_ rfl ⟨by rw [HS.out], hbb3⟩
        simp [results, Try.results73, go_sem]
    · have hs : saysD m h day = (0, false, 1) := by simp [saysD, HCZ.out, hw]
      have HS := Lib.hid hs
      clear hs
      go_enter Try.func73, Try.ntmps73
      go_wp2_with fail
      refine HC.out.mono ?_
      rintro e w1 ⟨rfl, hb1⟩
      have k1 := Blk.below hk0 hb1 (by simp)
      have kc := k1.cell 0
      have kd := k1.cell 1
      simp at kc kd
      have hbb := hb0.trans (hb1.mono (by simp))
      go_wp2_with fail
      refine (rwrongM_any m w1).mono ?_
      rintro e w2 ⟨rfl, hb2⟩
      have k2 := Blk.below k1 hb2 k1.lt
      have kc2 := k2.cell 0
      have kd2 := k2.cell 1
      simp at kc2 kd2
      have hbb2 := hbb.trans (hb2.mono hbb.size)
      go_wp2_with fail
      refine bodyPost_ret (v := .tuple #[.int .i64 0, .bool false, .int .i64 1]) ?_ rfl ⟨by rw [HS.out], hbb2⟩
      simp [results, Try.results73, go_sem]
  · have ht : (checkH h == 0) = false := by simpa using hc
    have hs : saysD m h day = (0, false, checkH h) := by simp [saysD, hc]
    have HS := Lib.hid hs
    clear hs hc
    go_enter Try.func73, Try.ntmps73
    go_wp2_with fail
    refine HC.out.mono ?_
    rintro e w1 ⟨rfl, hb1⟩
    have hbb := hb0.trans (hb1.mono (by simp))
    go_wp2_with fail
    refine bodyPost_ret (v := .tuple #[.int .i64 0, .bool false, .int .i64 (checkH h)]) ?_ rfl ⟨by rw [HS.out], hbb⟩
    simp [results, Try.results73, go_sem]
end Go.Proofs.Ytgopdfbmddkpfaa
