/- Contracts of small functions of the mailroom; conditions: as each says. Printed by a program. -/
import Derived.Test.YtfejedmpplbmjaaChecked
import Derived.Test.YtfejedmpplbmjaaKit
import Derived.Test.YtfejedmpplbmjaaST
import Derived.BigQuiet
import Derived.Deep.QuietTactic
import Derived.Lib.Hide
import Derived.Shelf.Slices.Clone
import Derived.Deep.OwnRows
import Derived.Deep.RegionHeld3
import Derived.Deep.DeepCutAuto
import Derived.Deep.DeepMust
set_option linter.unusedSimpArgs false
set_option linter.unusedVariables false
namespace Go.Ml
def inB (n a b : Int) : Bool := decide (a ≤ n ∧ n ≤ b)
theorem inB_iff {n a b : Int} : inB n a b = true ↔ a ≤ n ∧ n ≤ b := by simp [inB]
theorem inB_inL {n a : Int} : inB n (-a) a = inL n a := rfl
def findI {α : Type} (p : α → Bool) : List α → Int
  | [] => -1
  | x :: l => if p x then 0 else if findI p l < 0 then -1 else findI p l + 1
theorem findI_hit {α : Type} {p : α → Bool} {l : List α} {k : Nat} (hk : k < l.length) (h0 : ∀ x ∈ l.take k, p x = false) (h1 : p l[k] = true) : findI p l = k := by
  induction l generalizing k with
  | nil => simp at hk
  | cons x l ih =>
    cases k with
    | zero => simp at h1; simp [findI, h1]
    | succ k =>
      have hx : p x = false := h0 x (by simp)
      have := ih (k := k) (by simpa using hk) (fun y hy => h0 y (by simp [hy])) (by simpa using h1)
      simp only [findI, hx, this]
      split
      · contradiction
      · split
        · omega
        · omega
theorem findI_miss {α : Type} {p : α → Bool} {l : List α} (h0 : ∀ x ∈ l, p x = false) : findI p l = -1 := by
  induction l with
  | nil => rfl
  | cons x l ih =>
    have hx : p x = false := h0 x (by simp)
    simp [findI, hx, ih (fun y hy => h0 y (by simp [hy]))]
theorem findI_any {α : Type} (p : α → Bool) (l : List α) : decide (0 ≤ findI p l) = l.any p := by
  induction l with
  | nil => simp [findI]
  | cons x l ih =>
    simp only [findI, List.any_cons]
    by_cases hx : p x = true
    · simp [hx]
    · have hx' : p x = false := by simpa using hx
      simp only [hx', Bool.false_eq_true, if_false, Bool.false_or, ← ih]
      by_cases h : findI p l < 0
      · simp only [if_pos h]; rw [decide_eq_false (by omega), decide_eq_false (by omega)]
      · simp only [if_neg h]; rw [decide_eq_true (by omega), decide_eq_true (by omega)]
/-- a list of numbers that rise, from 0 to a limit -/
def risB (most : Int) (l : List Int) : Bool := (List.range l.length).all fun i => inB (l.getD i 0) 0 most && (decide (i = 0) || decide (l.getD (i - 1) 0 < l.getD i 0))
def clmB (l : List Int) : Bool := (List.range l.length).all fun i => decide (i = 0) || decide (l.getD (i - 1) 0 < l.getD i 0)
theorem all_false {n k : Nat} {f : Nat → Bool} (hk : k < n) (h : f k = false) : (List.range n).all f = false := by
  rw [List.all_eq_false]
  exact ⟨k, List.mem_range.2 hk, by simp [h]⟩
theorem all_true {n : Nat} {f : Nat → Bool} (h : ∀ k, k < n → f k = true) : (List.range n).all f = true := by
  rw [List.all_eq_true]
  intro k hk
  exact h k (List.mem_range.1 hk)
/-- what Straight says of the first layers -/
def stF (limit : Int) : List Int → Nat → Int → Bool × Int
  | [], _, x => (true, x)
  | k :: l, j, x => if inL (leanS x k j) limit = true then stF limit l (j + 1) (leanS x k j) else (false, 0)
theorem stF_run {limit : Int} : ∀ (l : List Int) (j : Nat) (x : Int), runS limit l j x = if (stF limit l j x).1 = true then some (stF limit l j x).2 else none := by
  intro l
  induction l with
  | nil => intro j x; simp [runS, stF]
  | cons k l ih =>
    intro j x
    unfold runS stF
    split
    · exact ih _ _
    · simp
def straE (l : List Int) (limit last : Int) : Bool × Int :=
  if 200 < l.length then (false, 2) else if l = [] ∨ limit < 0 ∨ last < 0 ∨ l.any (fun n => !inB n 1 200) = true then (false, 1) else ((stF limit l 0 0).1 && inL (stF limit l 0 0).2 last, 0)
end Go.Ml
namespace Go.Proofs.Ytfejedmpplbmjaa
open Go.RowKit Go.Fh Go.Ml
theorem within_any (n a b : Int) (w : World) :
    Calls Try.prog 54 #[.int .i64 n, .int .i64 a, .int .i64 b] w fun e w' => e = .returned (.bool (inB n a b)) ∧ w = w' := by
  by_cases h1 : a ≤ n
  · by_cases h2 : n ≤ b
    all_goals
      go_enter Try.func54, Try.ntmps54
      go_wp2
      go_ret
      exact ⟨by simp [inB]; try omega, rfl⟩
  · go_enter Try.func54, Try.ntmps54
    go_wp2
    go_ret
    exact ⟨by simp [inB]; omega, rfl⟩
set_option maxHeartbeats 1000000 in
theorem equalInts_any (A B : Option Addr) (c d : Nat) (l m : List Int) (w : World) (hl : l.length ≤ 9223372036854775807) (hm : m.length ≤ 9223372036854775807) (hA : Sl encInt 1 w w.heap.size A l) (hB : Sl encInt 1 w w.heap.size B m) :
    Calls Try.prog 37 #[.slice A l.length c, .slice B m.length d] w fun e w' => e = .returned (.bool (decide (l = m))) ∧ Below w.heap.size w w' := by
  by_cases hlen : l.length = m.length
  · have hb0 : ((l.length : Int) != (m.length : Int)) = false := by simp [hlen]
    have HL := Lib.hid hlen
    clear hlen
    go_enter Try.func37, Try.ntmps37
    go_wp2
    go_loopw [13] (fun i wr => ∃ k : Nat, k ≤ l.length ∧ i = .int .i64 k ∧ Hid (l.take k = m.take k) ∧ Below w.heap.size w wr) (fun i _ => l.length - (intOf i).toNat)
    case atStart => exact ⟨0, Nat.zero_le _, rfl, by simp [Hid], Below.refl _ _⟩
    case round =>
      obtain ⟨k, hk, rfl, HK, hW⟩ := hrel
      by_cases hlt : k < l.length
      · have hlt2 : k < m.length := by have := HL.out; omega
        obtain ⟨b, off, rfl, hb, c0⟩ := (hA.below hW).at1 hlt
        obtain ⟨b2, off2, rfl, hb2, c2⟩ := (hB.below hW).at1 hlt2
        by_cases he : l[k] = m[k]
        · have hne : (l[k] != m[k]) = false := by simp [he]
          have HE := Lib.hid he
          clear he
          go_wp2
          go_quiet (fail)
          go_wp2
          go_roundw
          case rel => exact ⟨k + 1, by omega, by go_num, by unfold Hid; rw [List.take_succ_eq_append_getElem hlt, List.take_succ_eq_append_getElem hlt2, HK.out, HE.out], below_drewN hW _⟩
          case measure => simp [intOf]; omega
        · have hne : (l[k] != m[k]) = true := by simp [he]
          have hlm : l ≠ m := by intro e; subst e; exact he rfl
          have HE := Lib.hid hlm
          clear he hlm
          go_wp2
          go_quiet (fail)
          go_wp2
          go_ret
          exact ⟨ret_bool (by simp [HE.out]), below_drewN hW _⟩
      · go_wp2
        go_ret
        have e1 : l.take k = l := List.take_of_length_le (by omega)
        have e2 : m.take k = m := List.take_of_length_le (by have := HL.out; omega)
        exact ⟨ret_bool (by have := HK.out; rw [e1, e2] at this; simp [this]), hW⟩
  · have hb0 : ((l.length : Int) != (m.length : Int)) = true := by simp; omega
    have hlm : l ≠ m := by intro e; subst e; exact hlen rfl
    have HE := Lib.hid hlm
    clear hlen hlm
    go_enter Try.func37, Try.ntmps37
    go_wp2
    go_ret
    exact ⟨ret_bool (by simp [HE.out]), Below.refl _ _⟩
theorem infoInt : (Try.prog.info? 3).map (fun i => (i.zero, i.size, i.bytes)) = some (some (.int .i64 0), 1, 8) := by kernel_rfl
set_option maxHeartbeats 1000000 in
theorem cloneOwn_any (A : Option Addr) (c : Nat) (l : List Int) (w : World) (hl : l.length * 8 ≤ 140737488355328) (hA : Sl encInt 1 w w.heap.size A l) :
    Calls Try.prog 39 #[.slice A l.length c] w fun e w' => ∃ A' c', e = .returned (.slice A' l.length c') ∧ w'.ownsRow w.heap.size 3 1 (.slice A' l.length c') l.length (l.map (Value.int .i64)) ∧ Below w.heap.size w w' := by
  have hnil := fun w n c n' c' a => Lib.run_eql_slice_nil (P := Try.prog) w 22 3 a n c n' c' Try.underlying22
  obtain ⟨i0, hi0, hz0, hz1, hz2⟩ := info_parts infoInt
  rcases A with _ | ad
  · have h0 := hA.none_nil
    subst h0
    go_enter Try.func39, Try.ntmps39
    go_wp2
    go_ret
    exact ⟨none, 0, rfl, World.ownsRow_nil _ _ _ _, Below.refl _ _⟩
  · have hs2 : ∀ x : Int, (encInt x).length = 1 := fun _ => rfl
    have hfl := length_flat (enc := encInt) (size := 1) hs2 l
    have hne : ∀ u ∈ l.flatMap encInt, u.oneCell' = true := by
      intro u hu; obtain ⟨x, _, hx⟩ := List.mem_flatMap.1 hu; simp [encInt] at hx; subst hx; rfl
    have hcells : ∀ (W : World), Below w.heap.size w W → ∀ j u, (l.flatMap encInt)[j]? = some u → W.cell? (ad.add j) = some u := fun W hb => (hA.below hb).flat hs2
    have hmap : l.flatMap encInt = l.map (Value.int .i64) := by
      clear hfl hne hcells hl hA
      induction l with
      | nil => rfl
      | cons x l ih => rw [List.flatMap_cons, ih]; rfl
    obtain ⟨fl, hflat⟩ : ∃ fl, fl = l.flatMap encInt := ⟨_, rfl⟩
    rw [← hflat] at hfl hne hcells hmap
    have HF := Lib.hid hfl
    have HFL := Lib.hid hmap
    clear hfl hflat hmap
    have hb0 := (Below.refl w.heap.size w).alloc (Nat.le_refl _) (.cells #[] 3)
    have hown := World.ownsRow_made (base := w.heap.size) (e := 3) (size := 1) w #[] 0 (Nat.le_refl _) (by decide) rfl
    go_enter Try.func39, Try.ntmps39
    go_wp2_with (at_builtin; refine wpList_append_own _ rfl (.tmp 5) (.tmp 6) 22 rfl w.heap.size 3 i0 _ 1 8 Try.underlying22 hi0 hz0 hz1 hz2 rfl (by decide) _ _ _ rfl hown ad l.length c fl rfl HF.out (hcells _ hb0) hne (by simp only [maxLen]; omega) (by omega) (by simp) ?_; intro v' w1 hown1 hg1 _)
    go_ret
    obtain ⟨A', c', rfl⟩ := own_shape hown1
    simp only [Nat.zero_add, List.nil_append] at hown1 ⊢
    refine ⟨A', c', rfl, by rw [← HFL.out]; exact hown1, hb0.grown hg1 (by simp) (fun k hk => ?_)⟩
    cases hk; exact Nat.le_refl _
theorem keeps_any (x a : Int) (w : World) (ha : -9223372036854775807 ≤ a ∧ a ≤ 9223372036854775807) :
    Calls Try.prog 72 #[.int .i64 x, .int .i64 a] w fun e w' => e = .returned (.bool (inL x a)) ∧ w = w' := by
  obtain ⟨b, hb⟩ : ∃ b, b = inL x a := ⟨_, rfl⟩
  have hw : IntKind.i64.wrap (-a) = -a := by rw [IntKind.wrap_i64]; omega
  have H := Lib.hid (show ∀ W, Calls Try.prog 54 #[.int .i64 x, .int .i64 (-a), .int .i64 a] W fun e w' => e = .returned (.bool b) ∧ W = w' from fun W => by rw [hb]; exact within_any _ _ _ _)
  rw [← hb]
  clear hb
  go_enter Try.func72, Try.ntmps72
  go_wp2_with (go_at_call 54; with_reducible refine (H.out _).mono ?_; rintro e w' ⟨rfl, rfl⟩)
  go_ret
  exact ⟨rfl, rfl⟩
theorem lean_any (x k : Int) (j : Nat) (w : World) (hx : -1000000 ≤ x ∧ x ≤ 1000000) (hk : -1000000 ≤ k ∧ k ≤ 1000000) (hj : j ≤ 1000000) :
    Calls Try.prog 71 #[.int .i64 x, .int .i64 k, .int .i64 (j : Int)] w fun e w' => e = .returned (.int .i64 (leanS x k j)) ∧ w = w' := by
  have hm : ((j : Int).tmod 2) = ((j % 2 : Nat) : Int) := by rw [Int.tmod_eq_emod_of_nonneg (by omega)]; omega
  have hw1 : IntKind.i64.wrap (x - k) = x - k := by rw [IntKind.wrap_i64]; omega
  have hw2 : IntKind.i64.wrap (x + k) = x + k := by rw [IntKind.wrap_i64]; omega
  by_cases h : j % 2 = 1
  · have hw3 : IntKind.i64.wrap ((j : Int).tmod 2) = 1 := by rw [hm, h]; decide
    have HE := Lib.hid (show leanS x k j = x - k by unfold leanS; rw [if_pos h])
    have h2 : (j : Int) % 2 = 1 := by omega
    clear h hm
    go_enter Try.func71, Try.ntmps71
    go_wp2_with fail
    go_ret
    exact ⟨by rw [HE.out]; rfl, rfl⟩
  · have hw3 : IntKind.i64.wrap ((j : Int).tmod 2) = 0 := by rw [hm, show j % 2 = 0 by omega]; decide
    have HE := Lib.hid (show leanS x k j = x + k by unfold leanS; rw [if_neg h])
    have h2 : (j : Int) % 2 = 0 := by omega
    clear h hm
    go_enter Try.func71, Try.ntmps71
    go_wp2_with fail
    go_ret
    exact ⟨by rw [HE.out]; rfl, rfl⟩
set_option maxRecDepth 20000 in
set_option maxHeartbeats 2000000 in
theorem strC_any (v : Int) (w : World) :
    Calls Try.prog 70 #[.int .i64 v] w fun e w' => e = .returned (.bool (!inB v 1 200)) ∧ w = w' := by
  cases h : inB v 1 200
  all_goals
    go_enter Try.func70, Try.ntmps70
    go_wp2_with (go_at_call 54; refine (within_any _ _ _ _).mono ?_; rintro e w' ⟨rfl, rfl⟩)
    go_ret
    exact ⟨ret_bool (by simp [h]), rfl⟩

set_option maxRecDepth 20000 in
set_option maxHeartbeats 2000000 in
theorem strI_any (A : Option Addr) (c : Nat) (l : List Int) (w : World) (hl : l.length ≤ 9223372036854775807) (hA : Sl encInt 1 w w.heap.size A l) :
    Calls Try.prog 56 #[.slice A l.length c, .func (.func 70) #[] #[]] w fun e w' => e = .returned (.int .i64 (findI (fun v => !inB v 1 200) l)) ∧ Below w.heap.size w w' := by
  have HA := Lib.hid hA
  clear hA
  go_enter Try.func56, Try.ntmps56
  go_wp2
  go_loopw [8] (fun i wr => ∃ k : Nat, k ≤ l.length ∧ i = .int .i64 k ∧ Hid (∀ x ∈ l.take k, (!inB x 1 200) = false) ∧ Below w.heap.size w wr) (fun i _ => l.length - (intOf i).toNat)
  case atStart => exact ⟨0, Nat.zero_le _, rfl, by simp [Hid], Below.refl _ _⟩
  case round =>
    obtain ⟨k, hk, rfl, HN, hB⟩ := hrel
    by_cases hlt : k < l.length
    · obtain ⟨b, off, rfl, hb, c0⟩ := (HA.out.below hB).at1 hlt
      cases hw : (!inB l[k] 1 200)
      · have HW := Lib.hid hw
        go_wp2_with (go_at_call 70; refine (strC_any _ _).mono ?_; rintro e w' ⟨rfl, rfl⟩)
        go_roundw
        case rel =>
          refine ⟨k + 1, by omega, by go_num, ?_, hB⟩
          intro x hx
          rw [List.take_succ_eq_append_getElem hlt, List.mem_append] at hx
          rcases hx with hx | hx
          · exact HN.out x hx
          · simp at hx; subst hx; exact HW.out
        case measure => simp [intOf]; omega
      · have HF := Lib.hid (findI_hit (p := fun v => !inB v 1 200) hlt HN.out hw)
        go_wp2_with (go_at_call 70; refine (strC_any _ _).mono ?_; rintro e w' ⟨rfl, rfl⟩)
        go_ret
        exact ⟨ret_int HF.out.symm, hB⟩
    · go_wp2
      go_ret
      exact ⟨ret_int (findI_miss (fun x hx => HN.out x (by rw [List.take_of_length_le (by omega)]; exact hx))).symm, hB⟩

set_option maxRecDepth 20000 in
set_option maxHeartbeats 2000000 in
theorem str_any (A : Option Addr) (c : Nat) (l : List Int) (w : World) (hl : l.length ≤ 9223372036854775807) (hA : Sl encInt 1 w w.heap.size A l) :
    Calls Try.prog 20 #[.slice A l.length c, .func (.func 70) #[] #[]] w fun e w' => e = .returned (.bool (l.any fun v => !inB v 1 200)) ∧ Below w.heap.size w w' := by
  have hf := findI_any (fun v => !inB v 1 200) l
  have HF := Lib.hid hf
  clear hf
  go_enter Try.func20, Try.ntmps20
  go_wp2_with (go_at_call 56; refine (strI_any _ _ _ _ hl hA).mono ?_; rintro e w' ⟨rfl, hb⟩)
  go_ret
  exact ⟨ret_bool HF.out, hb⟩


set_option maxRecDepth 20000 in
set_option maxHeartbeats 4000000 in
theorem straight_any (A : Option Addr) (c N : Nat) (l : List Int) (limit last : Int) (w : World) (hN : N = l.length) (hN9 : N ≤ 9223372036854775807) (hl1 : -9223372036854775808 ≤ limit ∧ limit ≤ 9223372036854775807) (hl2 : -9223372036854775808 ≤ last ∧ last ≤ 9223372036854775807) (hA : Sl encInt 1 w w.heap.size A l) (b : Bool) (er : Int) (hr : (b, er) = straE l limit last) :
    Calls Try.prog 24 #[.slice A N c, .int .i64 limit, .int .i64 last] w fun e w' => e = .returned (.tuple #[.bool b, .int .i64 er]) ∧ Hid (Below w.heap.size w w') := by
  unfold straE at hr
  by_cases h1 : 200 < N
  · rw [if_pos (by omega)] at hr
    injection hr with hr1 hr2
    subst hr1 hr2
    have t1 : decide ((N : Int) > 200) = true := by simp; omega
    have t2 : decide ((200 : Int) < (N : Int)) = true := by simp; omega
    have t3 : decide (200 < N) = true := by simp; omega
    clear hN hA h1
    go_enter Try.func24, Try.ntmps24
    go_wp2_with fail
    go_ret2
    exact ⟨rfl, Below.refl _ _⟩
  rw [if_neg (by omega)] at hr
  have t1 : decide ((N : Int) > 200) = false := by simp; omega
  have t2 : decide ((200 : Int) < (N : Int)) = false := by simp; omega
  have t3 : decide (200 < N) = false := by simp; omega
  by_cases h2 : N = 0
  · have he : l = [] := List.eq_nil_of_length_eq_zero (by omega)
    rw [if_pos (.inl he)] at hr
    injection hr with hr1 hr2
    subst hr1 hr2
    have t4 : ((N : Int) == 0) = true := by simp; omega
    clear hN hA h1 h2 he
    go_enter Try.func24, Try.ntmps24
    go_wp2_with fail
    go_ret2
    exact ⟨rfl, Below.refl _ _⟩
  have hne : ¬ l = [] := by rintro rfl; simp at hN; omega
  have t4 : ((N : Int) == 0) = false := by simp; omega
  by_cases h3 : limit < 0
  · rw [if_pos (.inr (.inl h3))] at hr
    injection hr with hr1 hr2
    subst hr1 hr2
    have t5 : decide (limit < 0) = true := by simpa using h3
    clear hN hA h1 h2 hne h3
    go_enter Try.func24, Try.ntmps24
    go_wp2_with fail
    go_ret2
    exact ⟨rfl, Below.refl _ _⟩
  have t5 : decide (limit < 0) = false := by simpa using h3
  by_cases h4 : last < 0
  · rw [if_pos (.inr (.inr (.inl h4)))] at hr
    injection hr with hr1 hr2
    subst hr1 hr2
    have t6 : decide (last < 0) = true := by simpa using h4
    clear hN hA h1 h2 hne h3 h4
    go_enter Try.func24, Try.ntmps24
    go_wp2_with fail
    go_ret2
    exact ⟨rfl, Below.refl _ _⟩
  have t6 : decide (last < 0) = false := by simpa using h4
  obtain ⟨z, hz⟩ : ∃ z, z = l.any (fun n => !inB n 1 200) := ⟨_, rfl⟩
  have hS := str_any A c l w (by omega) hA
  rw [← hz, ← hN] at hS
  have HS := Lib.hid hS
  cases z
  · rw [if_neg (by rw [← hz]; simp [hne]; omega)] at hr
    have hpos := List.any_eq_false.1 hz.symm
    have HPOS := Lib.hid (show ∀ k (h : k < l.length), 1 ≤ l[k] ∧ l[k] ≤ 200 from fun k hk => by
      have := hpos l[k] (List.getElem_mem hk)
      exact inB_iff.1 (by simpa using this))
    have HA := Lib.hid (fun W (hb : Below w.heap.size w W) => hA.below hb)
    have HN := Lib.hid hN
    obtain ⟨q, hq⟩ : ∃ q, q = stF limit l 0 0 := ⟨_, rfl⟩
    have HR := Lib.hid (show (b, er) = ((stF limit (l.drop 0) 0 0).1 && inL (stF limit (l.drop 0) 0 0).2 last, 0) from by rw [List.drop_zero]; exact hr)
    have HK := Lib.hid (fun x W => keeps_any x limit W (by omega))
    have HK2 := Lib.hid (fun x W => keeps_any x last W (by omega))
    have hN2 : N ≤ 200 := by omega
    clear hN hA h1 h2 hne hz hS hpos hr hq h3 h4 hl1 hl2
    go_enter Try.func24, Try.ntmps24
    go_wp2_with (go_at_call 20; with_reducible refine HS.out.mono ?_; rintro e w2 ⟨rfl, hb2⟩; have HB2 := Lib.hid hb2; clear hb2)
    go_loopw [8, 31] (fun u i wr => ∃ (k : Nat) (x : Int), k ≤ N ∧ i = .int .i64 (k : Int) ∧ u = .int .i64 x ∧ (-200 * (k : Int) ≤ x ∧ x ≤ 200 * (k : Int)) ∧ Hid ((b, er) = ((stF limit (l.drop k) k x).1 && inL (stF limit (l.drop k) k x).2 last, 0)) ∧ Hid (Below w.heap.size w wr)) (fun _ i _ => N - (intOf i).toNat)
    case atStart => exact ⟨0, 0, Nat.zero_le _, rfl, rfl, ⟨by omega, by omega⟩, HR, HB2⟩
    case round =>
      clear HR
      obtain ⟨k, x, hk, rfl, rfl, hx, HR, HB⟩ := hrel
      by_cases hlt : k < N
      · have hkl : k < l.length := by have := HN.out; omega
        obtain ⟨bb, off, hba, hbb, c0⟩ := (HA.out _ HB.out).at1 hkl
        have hpk := HPOS.out k hkl
        have hdr := HR.out
        rw [List.drop_eq_getElem_cons hkl, stF] at hdr
        obtain ⟨y, hy⟩ : ∃ y, y = l[k] := ⟨_, rfl⟩
        rw [← hy] at c0 hpk hdr
        subst hba
        obtain ⟨x2, hx2⟩ : ∃ x2, x2 = leanS x y k := ⟨_, rfl⟩
        have hx2b : -200 * ((k + 1 : Nat) : Int) ≤ x2 ∧ x2 ≤ 200 * ((k + 1 : Nat) : Int) := by rw [hx2]; unfold leanS; split <;> omega
        have HL := Lib.hid (show ∀ W, Calls Try.prog 71 #[.int .i64 x, .int .i64 y, .int .i64 (k : Int)] W fun e w' => e = .returned (.int .i64 x2) ∧ W = w' from fun W => by rw [hx2]; exact lean_any x y k W (by omega) (by omega) (by omega))
        rw [← hx2] at hdr
        obtain ⟨z, hz⟩ : ∃ z, z = inL x2 limit := ⟨_, rfl⟩
        rw [← hz] at hdr
        have HKX := Lib.hid (show ∀ W, Calls Try.prog 72 #[.int .i64 x2, .int .i64 limit] W fun e w' => e = .returned (.bool z) ∧ W = w' from fun W => by rw [hz]; exact HK.out x2 W)
        have i0 : (0 : Int) ≤ (k : Int) := by omega
        have i1 : (k : Int) < (N : Int) := by omega
        have HDR := Lib.hid hdr
        clear hy hx2 hz hdr hbb
        cases z
        · have hbe := HDR.out
          simp at hbe
          obtain ⟨rfl, rfl⟩ := hbe
          go_wp2_with first
            | (go_at_call 71; with_reducible refine (HL.out _).mono ?_; rintro e wz ⟨rfl, rfl⟩)
            | (go_at_call 72; with_reducible refine (HKX.out _).mono ?_; rintro e wz ⟨rfl, rfl⟩)
          go_ret2
          exact ⟨rfl, HB⟩
        · have HD2 := Lib.hid (show (b, er) = ((stF limit (l.drop (k + 1)) (k + 1) x2).1 && inL (stF limit (l.drop (k + 1)) (k + 1) x2).2 last, 0) from by have := HDR.out; rw [if_pos rfl] at this; exact this)
          go_wp2_with first
            | (go_at_call 71; with_reducible refine (HL.out _).mono ?_; rintro e wz ⟨rfl, rfl⟩)
            | (go_at_call 72; with_reducible refine (HKX.out _).mono ?_; rintro e wz ⟨rfl, rfl⟩)
          go_roundw
          case rel => exact ⟨k + 1, x2, by omega, by go_num, rfl, hx2b, HD2, HB⟩
          case measure => simp [intOf]; omega
      · obtain rfl : k = N := by omega
        have hdr := HR.out
        rw [List.drop_of_length_le (by have := HN.out; omega), stF] at hdr
        injection hdr with h1 h2
        simp at h1
        subst h2
        have HKX := Lib.hid (show ∀ W, Calls Try.prog 72 #[.int .i64 x, .int .i64 last] W fun e w' => e = .returned (.bool b) ∧ W = w' from fun W => by rw [h1]; exact HK2.out x W)
        clear h1
        go_wp2_with (go_at_call 72; with_reducible refine (HKX.out _).mono ?_; rintro e wz ⟨rfl, rfl⟩)
        go_ret2
        exact ⟨rfl, HB⟩
  · rw [if_pos (.inr (.inr (.inr hz.symm)))] at hr
    injection hr with hr1 hr2
    subst hr1 hr2
    clear hN hA h1 h2 hne hz hS h3 h4 hl1 hl2
    go_enter Try.func24, Try.ntmps24
    go_wp2_with (go_at_call 20; with_reducible refine HS.out.mono ?_; rintro e w2 ⟨rfl, hb2⟩; have HB2 := Lib.hid hb2; clear hb2)
    go_ret2
    exact ⟨rfl, HB2⟩
end Go.Proofs.Ytfejedmpplbmjaa
