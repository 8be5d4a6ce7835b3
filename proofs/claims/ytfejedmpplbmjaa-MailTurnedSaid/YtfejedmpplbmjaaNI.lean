/- Compare of lists of ints; conditions: lists within lengths. -/
import Derived.Test.YtfejedmpplbmjaaM8
set_option linter.unusedSimpArgs false
set_option linter.unusedVariables false
namespace Go.Ml
open Go.Fh
def cmpS (x y : Int) : Int := if x < y then -1 else if y < x then 1 else 0
def cmpL : List Int → List Int → Int
  | [], [] => 0
  | [], _ :: _ => -1
  | _ :: _, [] => 1
  | a :: l, b :: m => if a = b then cmpL l m else cmpS a b
theorem cmpL_le : ∀ (l m : List Int), l.length = m.length → lexS m l = false → cmpL l m ≤ 0 := by
  intro l
  induction l with
  | nil => intro m hl h; obtain rfl := List.eq_nil_of_length_eq_zero hl.symm; exact Int.le_refl _
  | cons a l ih =>
    intro m hl h
    match m, hl, h with
    | b :: m, hl, h =>
      unfold lexS at h
      simp only [Bool.or_eq_false_iff, decide_eq_false_iff_not, Bool.and_eq_false_iff] at h
      unfold cmpL
      split
      · rename_i e
        subst e
        exact ih m (by simpa using hl) (by simpa using h.2)
      · unfold cmpS
        split
        · omega
        · split <;> omega
end Go.Ml
namespace Go.Proofs.Ytfejedmpplbmjaa
open Go.RowKit Go.Fh Go.Ml
theorem nan_any (x : Int) (w : World) : Calls Try.prog 117 #[.int .i64 x] w fun e w' => e = .returned (.bool false) ∧ w = w' := by
  go_enter Try.func117, Try.ntmps117
  go_wp2
  go_ret
  exact ⟨by simp, rfl⟩
theorem cmp_any (x y : Int) (w : World) : Calls Try.prog 75 #[.int .i64 x, .int .i64 y] w fun e w' => e = .returned (.int .i64 (cmpS x y)) ∧ w = w' := by
  obtain ⟨r, hr⟩ : ∃ r, r = cmpS x y := ⟨_, rfl⟩
  have HR := Lib.hid hr
  rw [← hr]
  unfold cmpS at hr
  by_cases h1 : x < y
  · rw [if_pos h1] at hr
    subst hr
    have t1 : decide (x < y) = true := by simpa using h1
    clear h1
    go_enter Try.func75, Try.ntmps75
    go_wp2_with (go_at_call 117; refine (nan_any _ _).mono ?_; rintro e w' ⟨rfl, rfl⟩)
    go_ret
    exact ⟨rfl, rfl⟩
  · rw [if_neg h1] at hr
    have t1 : decide (x < y) = false := by simpa using h1
    by_cases h2 : y < x
    · rw [if_pos h2] at hr
      subst hr
      have t2 : decide (x > y) = true := by simpa using h2
      have t2' : decide (y < x) = true := by simpa using h2
      clear h1 h2
      go_enter Try.func75, Try.ntmps75
      go_wp2_with (go_at_call 117; refine (nan_any _ _).mono ?_; rintro e w' ⟨rfl, rfl⟩)
      go_ret
      exact ⟨rfl, rfl⟩
    · rw [if_neg h2] at hr
      subst hr
      have t2 : decide (x > y) = false := by simpa using h2
      have t2' : decide (y < x) = false := by simpa using h2
      clear h1 h2
      go_enter Try.func75, Try.ntmps75
      go_wp2_with (go_at_call 117; refine (nan_any _ _).mono ?_; rintro e w' ⟨rfl, rfl⟩)
      go_ret
      exact ⟨rfl, rfl⟩
set_option maxRecDepth 20000 in
set_option maxHeartbeats 4000000 in
theorem compare_any (A B : Option Addr) (c1 c2 N M : Nat) (l m : List Int) (w : World) (hN : N = l.length) (hM : M = m.length) (hN9 : N ≤ 1000000000) (hM9 : M ≤ 1000000000) (hA : Sl encInt 1 w w.heap.size A l) (hB : Sl encInt 1 w w.heap.size B m) (r : Int) (hr : r = cmpL l m) :
    Calls Try.prog 26 #[.slice A N c1, .slice B M c2] w fun e w' => e = .returned (.int .i64 r) ∧ Hid (Below w.heap.size w w') := by
  have HA := Lib.hid hA
  have HB := Lib.hid hB
  have HR := Lib.hid hr
  have HNL := Lib.hid hN
  have HML := Lib.hid hM
  clear hA hB hr hN hM
  go_enter Try.func26, Try.ntmps26
  go_upto_region 2 with fail
  go_loopw [11] (fun u wr => ∃ q : Nat, q ≤ N ∧ q ≤ M ∧ u = .int .i64 (q : Int) ∧ Hid (r = cmpL (l.drop q) (m.drop q)) ∧ Hid (Below w.heap.size w wr)) (fun i _ => N + 1 - (intOf i).toNat)
  case atStart => exact ⟨0, Nat.zero_le _, Nat.zero_le _, rfl, Lib.hid (by simpa using HR.out), Lib.hid (Below.refl _ _)⟩
  case round =>
    obtain ⟨q, hq, hq2, rfl, HC, HBW⟩ := hrel
    by_cases hlt : q < N
    · have t1 : decide ((q : Int) < (N : Int)) = true := decide_eq_true (by omega)
      have hql : q < l.length := by have := HNL.out; omega
      obtain ⟨x, hx⟩ : ∃ x, x = l[q] := ⟨_, rfl⟩
      obtain ⟨b1, o1, hA1, hb1, e1⟩ := (HA.out.below HBW.out).at1 hql
      rw [← hx] at e1
      subst hA1
      have hdl : l.drop q = x :: l.drop (q + 1) := by rw [hx]; exact List.drop_eq_getElem_cons hql
      by_cases hlm : q < M
      · have t2 : decide ((q : Int) ≥ (M : Int)) = false := by simp; omega
        have t2' : decide ((M : Int) ≤ (q : Int)) = false := by simp; omega
        have hqm : q < m.length := by have := HML.out; omega
        obtain ⟨y, hy⟩ : ∃ y, y = m[q] := ⟨_, rfl⟩
        obtain ⟨b2, o2, hB1, hb2, e2⟩ := (HB.out.below HBW.out).at1 hqm
        rw [← hy] at e2
        subst hB1
        have hdm : m.drop q = y :: m.drop (q + 1) := by rw [hy]; exact List.drop_eq_getElem_cons hqm
        have hst : r = if x = y then cmpL (l.drop (q + 1)) (m.drop (q + 1)) else cmpS x y := by rw [HC.out, hdl, hdm]; rfl
        obtain ⟨cv, hcv⟩ : ∃ v, v = cmpS x y := ⟨_, rfl⟩
        have H75 := Lib.hid (fun W => cmp_any x y W)
        rw [← hcv] at H75 hst
        have hz : cv = 0 ↔ x = y := by
          rw [hcv]; unfold cmpS
          constructor
          · intro h
            split at h
            · omega
            · split at h <;> omega
          · rintro rfl; simp
        have HST := Lib.hid hst
        have HCC := Lib.hid hz
        clear hx hy hdl hdm hst hcv hz hql hqm
        by_cases h0 : cv = 0
        · have HXY := Lib.hid (HCC.out.1 h0)
          subst h0
          go_wp2_with (go_at_call 75; refine (H75.out _).mono ?_; rintro e w' ⟨rfl, rfl⟩)
          go_roundw
          case rel => exact ⟨q + 1, by omega, by omega, by go_num, Lib.hid (by rw [HST.out, if_pos HXY.out]), HBW⟩
          case measure => simp [intOf]; omega
        · have hrv : r = cv := by rw [HST.out, if_neg (fun e => h0 (HCC.out.2 e))]
          subst hrv
          go_wp2_with (go_at_call 75; refine (H75.out _).mono ?_; rintro e w' ⟨rfl, rfl⟩)
          go_ret
          exact ⟨rfl, HBW⟩
      · obtain rfl : q = M := by omega
        have t2 : decide ((q : Int) ≥ (q : Int)) = true := by simp
        have t2' : decide ((q : Int) ≤ (q : Int)) = true := by simp
        have hrv : r = 1 := by
          have hm0 : m.drop q = [] := List.drop_eq_nil_of_le (by have := HML.out; omega)
          rw [HC.out, hdl, hm0]
          rfl
        subst hrv
        clear hx hdl hql
        go_wp2
        go_ret
        exact ⟨rfl, HBW⟩
    · obtain rfl : q = N := by omega
      have t1 : decide ((q : Int) < (q : Int)) = false := by simp
      by_cases hlm : q < M
      · have t2 : decide ((q : Int) < (M : Int)) = true := decide_eq_true (by omega)
        have hrv : r = -1 := by
          rw [HC.out, List.drop_eq_nil_of_le (by have := HNL.out; omega), List.drop_eq_getElem_cons (show q < m.length by have := HML.out; omega)]
          rfl
        subst hrv
        go_wp2
        go_ret
        exact ⟨rfl, HBW⟩
      · obtain rfl : q = M := by omega
        have hrv : r = 0 := by
          rw [HC.out, List.drop_eq_nil_of_le (by have := HNL.out; omega), List.drop_eq_nil_of_le (by have := HML.out; omega)]
          rfl
        subst hrv
        go_wp2
        go_ret
        exact ⟨rfl, HBW⟩
end Go.Proofs.Ytfejedmpplbmjaa
