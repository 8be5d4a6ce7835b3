/- Contract of digits.next: the next number of a list; conditions: bytes. -/
import Derived.Test.YtnbnfadmbggfnaaC9
import Derived.Test.YtnbnfadmbggfnaaA1
set_option linter.unusedSimpArgs false
set_option linter.unusedVariables false
namespace Go.Rl
/-- the number at place i, below n -/
def dig (l : List Nat) (i n : Nat) : Int := ((l.getD i 0 % n : Nat) : Int)
theorem dig_bd (l : List Nat) (i : Nat) {n : Nat} (hn : 0 < n) : 0 ≤ dig l i n ∧ dig l i n ≤ n - 1 := by
  unfold dig
  have := Nat.mod_lt (l.getD i 0) hn
  omega
end Go.Rl
namespace Go.Proofs.Ytnbnfadmbggfnaa
open Go.RowKit Go.Fh Go.Rl
def encBn (n : Nat) : List Value := [.int .u8 n]
theorem Sl.atBn {B : Nat} {w : World} {A : Option Addr} {l : List Nat} (h : Sl encBn 1 w B A l) {k : Nat} (hk : k < l.length) :
    ∃ b off, A = some ⟨b, off, none⟩ ∧ b < B ∧ w.cell? ⟨b, off + k, none⟩ = some (.int .u8 ((l[k] : Nat) : Int)) := by
  obtain ⟨b, off, hA, hb, hc⟩ := h.at_ hk
  exact ⟨b, off, hA, hb, by simpa using hc 0 _ rfl⟩
/-- the numbers of a list, in memory: i of them are read -/
structure DigAt (w : World) (B : Nat) (A : Option Addr) (c : Nat) (l : List Nat) (g i : Nat) : Prop where
  k : Blk w g 74 #[.slice A l.length c, .int .i64 i]
  s : Sl encBn 1 w B A l
  lo : B ≤ g
  len : l.length ≤ 9223372036854775807
  bd : ∀ x ∈ l, x ≤ 255
set_option maxRecDepth 20000 in
set_option maxHeartbeats 2000000 in
theorem digit_any (w : World) (B : Nat) (A : Option Addr) (c : Nat) (l : List Nat) (g i n : Nat) (h : DigAt w B A c l g i) (hi : i ≤ 1000000000) (hn : 0 < n) (hn2 : n ≤ 1000) :
    Calls Try.prog 31 #[.pointer (some ⟨g, 0, none⟩), .int .i64 n] w fun e w' => e = .returned (.int .i64 (dig l i n)) ∧ DigAt w' B A c l g (i + 1) ∧ w.grownBy w' (some g) := by
  have c0 := h.k.cell 0
  have c1 := h.k.cell 1
  have z1 := h.k.frozen 1
  simp at c0 c1
  obtain ⟨w1, hw1⟩ : ∃ W, W = w.setCell ⟨g, 1, none⟩ (.int .i64 ((i : Int) + 1)) := ⟨_, rfl⟩
  have k1 : Blk w1 g 74 #[.slice A l.length c, .int .i64 ((i : Int) + 1)] := by rw [hw1]; simpa using h.k.set_ 1 (.int .i64 ((i : Int) + 1))
  have sm : w.grownBy w1 (some g) := by rw [hw1]; exact gr_set _ _ _ _
  have s1 : Sl encBn 1 w1 B A l := h.s.below (by rw [hw1]; exact (Below.refl _ _).setCell (by exact h.lo) _)
  have hl := h.len
  have hbd := h.bd
  have hlo := h.lo
  have fin : ∀ W, Below w1.heap.size w1 W → DigAt W B A c l g (i + 1) ∧ w.grownBy W (some g) := fun W hb => ⟨⟨by simpa using k1.below hb k1.lt, s1.keep fun p hp => hb.cell (by have := k1.lt; omega), hlo, hl, hbd⟩, gr_trans sm (gr_below hb _)⟩
  have hd0 : l.length ≤ i → dig l i n = 0 := fun h => by simp [dig, List.getD_eq_getElem?_getD, List.getElem?_eq_none h]
  have hd1 : ∀ h : i < l.length, dig l i n = ((l[i] % n : Nat) : Int) := fun h => by simp [dig, List.getD_eq_getElem?_getD, h]
  have FIN := Lib.hid fin
  have K1 := Lib.hid k1
  have S1 := Lib.hid s1
  have HW1 := Lib.hid hw1
  have HD0 := Lib.hid hd0
  have HD1 := Lib.hid hd1
  have HBD := Lib.hid hbd
  clear sm hd0 hd1 fin hbd k1 s1 hw1
  by_cases hlt : i < l.length
  · obtain ⟨b, off, rfl, hb, d0⟩ := Sl.atBn S1.out hlt
    have hb2 : b < w1.heap.size := by have := K1.out.lt; omega
    have hli := HBD.out _ (List.getElem_mem hlt)
    have SB := Lib.hid (show ∀ W, Below w1.heap.size w1 W → (W.cell? ⟨g, 0, none⟩ = some (.slice (some ⟨b, off, none⟩) l.length c) ∧ W.cell? ⟨g, 1, none⟩ = some (.int .i64 ((i : Int) + 1)) ∧ W.cell? ⟨b, off + i, none⟩ = some (.int .u8 ((l[i] : Nat) : Int))) from fun W hb => ⟨by rw [(K1.out.below hb K1.out.lt).cell]; simp, by rw [(K1.out.below hb K1.out.lt).cell]; simp, (hb.cell (p := ⟨b, _, none⟩) hb2).trans d0⟩)
    clear d0
    have hq0 : (0 : Int) ≤ (i : Int) := by omega
    have hq3 : (i : Int) < (l.length : Int) := by omega
    have hr1 : IntKind.i64.wrap ((i : Int) + 1) = (i : Int) + 1 := by rw [IntKind.wrap_i64]; omega
    have hr2 : IntKind.i64.wrap ((i : Int) + 1 - 1) = (i : Int) := by rw [IntKind.wrap_i64]; omega
    have hr3 : IntKind.i64.wrap (i : Int) = (i : Int) := by rw [IntKind.wrap_i64]; omega
    go_enter Try.func31, Try.ntmps31
    go_upto_region 2 with fail
    rw [← HW1.out]
    clear c0 c1 z1
    go_region_held3 (fun w' => w'.cell? ⟨g, 0, none⟩ = some (.slice (some ⟨b, off, none⟩) l.length c) ∧ w'.cell? ⟨g, 1, none⟩ = some (.int .i64 ((i : Int) + 1)) ∧ w'.cell? ⟨b, off + i, none⟩ = some (.int .u8 ((l[i] : Nat) : Int)))
      (exact SB.out _ (by repeat (first | exact Below.refl _ _ | refine Below.drew ?_ | refine below_drewN ?_ _)))
      (fail)
    all_goals
      go_upto_region 4 with fail
      obtain ⟨k0, k1, k2⟩ := SB.out w1 (Below.refl _ _)
      have hn0 : ((n : Int) == 0) = false := by simp; omega
      have hn1 : ¬ ((n : Int) = 0) := by omega
      have hn2 : n ≠ 0 := by omega
      go_quiet (fail)
    all_goals
      go_wp2_with fail
      go_ret
      refine ⟨by rw [HD1.out hlt]; simp, FIN.out _ (by repeat (first | exact Below.refl _ _ | refine Below.drew ?_ | refine below_drewN ?_ _))⟩
  · have hge : (l.length : Int) < (i : Int) + 1 := by omega
    have SB := Lib.hid (show ∀ W, Below w1.heap.size w1 W → (W.cell? ⟨g, 0, none⟩ = some (.slice A l.length c) ∧ W.cell? ⟨g, 1, none⟩ = some (.int .i64 ((i : Int) + 1))) from fun W hb => ⟨by rw [(K1.out.below hb K1.out.lt).cell]; simp, by rw [(K1.out.below hb K1.out.lt).cell]; simp⟩)
    have hr1 : IntKind.i64.wrap ((i : Int) + 1) = (i : Int) + 1 := by rw [IntKind.wrap_i64]; omega
    go_enter Try.func31, Try.ntmps31
    go_upto_region 2 with fail
    rw [← HW1.out]
    clear c0 c1 z1
    go_region_held3 (fun w' => w'.cell? ⟨g, 0, none⟩ = some (.slice A l.length c) ∧ w'.cell? ⟨g, 1, none⟩ = some (.int .i64 ((i : Int) + 1)))
      (exact SB.out _ (by repeat (first | exact Below.refl _ _ | refine Below.drew ?_ | refine below_drewN ?_ _)))
      (fail)
    all_goals
      go_wp2_with fail
      go_ret
      refine ⟨by rw [HD0.out (by omega)]; rfl, FIN.out _ (by repeat (first | exact Below.refl _ _ | refine Below.drew ?_ | refine below_drewN ?_ _))⟩
theorem DigAt.gr {w w' : World} {B : Nat} {A : Option Addr} {c : Nat} {l : List Nat} {g i : Nat} {r : Option Nat} (h : DigAt w B A c l g i) (hg : w.grownBy w' r) (hr : r ≠ some g) (hlo : ∀ j, r = some j → B ≤ j) : DigAt w' B A c l g i :=
  ⟨h.k.grown hg (fun e => hr e.symm), h.s.keep fun p hp => by
    have h1 := h.lo
    have h2 := h.k.lt
    exact hg.cell_far p (by omega) (fun e => by have := hlo _ e.symm; omega), h.lo, h.len, h.bd⟩
theorem digit_gm (w : World) (B : Nat) (A : Option Addr) (c : Nat) (l : List Nat) (g i n : Nat) (m : Int) (hm : m = (n : Int)) (h : DigAt w B A c l g i) (hi : i ≤ 1000000000) (hn : 0 < n) (hn2 : n ≤ 1000) :
    Calls Try.prog 31 #[.pointer (some ⟨g, 0, none⟩), .int .i64 m] w fun e w' => e = .returned (.int .i64 (dig l i n)) ∧ DigAt w' B A c l g (i + 1) ∧ w.grownBy w' (some g) := by
  subst hm; exact digit_any w B A c l g i n h hi hn hn2
end Go.Proofs.Ytnbnfadmbggfnaa
