/- Contracts of both CheckSupplys; conditions: a supply in memory. Printed by a program. -/
import Derived.Test.YtnbnfadmbggfnaaA1
set_option linter.unusedSimpArgs false
set_option linter.unusedVariables false
namespace Go.Rl
open Go.Fh Go.RowKit
def findI {α : Type} (p : α → Bool) : List α → Int
  | [] => -1
  | x :: l => if p x then 0 else if findI p l < 0 then -1 else findI p l + 1
theorem findI_hit {α : Type} {p : α → Bool} {l : List α} {k : Nat} (hk : k < l.length) (h0 : ∀ x ∈ l.take k, p x = false) (h1 : p l[k] = true) : findI p l = k := by
  induction l generalizing k with
  | nil => simp at hk
  | cons x l ih =>
    cases k with
    | zero => simp at h1; simp [findI, h1]
    | succ k =>
      have hx : p x = false := h0 x (by simp)
      have := ih (k := k) (by simpa using hk) (fun y hy => h0 y (by simp [hy])) (by simpa using h1)
      simp only [findI, hx, this]
      split
      · contradiction
      · split
        · omega
        · omega
theorem findI_miss {α : Type} {p : α → Bool} {l : List α} (h0 : ∀ x ∈ l, p x = false) : findI p l = -1 := by
  induction l with
  | nil => rfl
  | cons x l ih =>
    have hx : p x = false := h0 x (by simp)
    simp [findI, hx, ih (fun y hy => h0 y (by simp [hy]))]
theorem findI_any {α : Type} (p : α → Bool) (l : List α) : decide (0 ≤ findI p l) = l.any p := by
  induction l with
  | nil => simp [findI]
  | cons x l ih =>
    simp only [findI, List.any_cons]
    by_cases hx : p x = true
    · simp [hx]
    · have hx' : p x = false := by simpa using hx
      simp only [hx', Bool.false_eq_true, if_false, Bool.false_or, ← ih]
      by_cases h : findI p l < 0
      · simp only [if_pos h]; rw [decide_eq_false (by omega), decide_eq_false (by omega)]
      · simp only [if_neg h]; rw [decide_eq_true (by omega), decide_eq_true (by omega)]
/-- where a supply's lists lie -/
structure SA where
  a : Option Go.Addr
  ca : Nat
  b : Option Go.Addr
  cb : Nat
def supV (s : SupD) (x : SA) : Array Go.Value := #[.slice x.a s.need.length x.ca, .slice x.b s.order.length x.cb, .int .i64 s.keep, .int .i64 s.room]
structure SupAt (w : Go.World) (B : Nat) (s : SupD) (x : SA) : Prop where
  cN : Sl encInt 1 w B x.a s.need
  cO : Sl encInt 1 w B x.b s.order
theorem SupAt.below {w w' : Go.World} {B : Nat} {s : SupD} {x : SA} (h : SupAt w B s x) (hb : Below B w w') : SupAt w' B s x := ⟨h.cN.below hb, h.cO.below hb⟩
theorem SupAt.mono {w : Go.World} {B B' : Nat} {s : SupD} {x : SA} (h : SupAt w B s x) (hb : B ≤ B') : SupAt w B' s x := ⟨h.cN.mono hb, h.cO.mono hb⟩
theorem SupAt.step {w w' : Go.World} {s : SupD} {x : SA} (h : SupAt w w.heap.size s x) (hb : Below w.heap.size w w') : SupAt w' w'.heap.size s x := (h.below hb).mono hb.size
end Go.Rl
namespace Go.Proofs.Ytnbnfadmbggfnaa
open Go.RowKit Go.Fh Go.Rl
theorem sup_box (ty : TypeId) (s : SupD) (x : SA) (w : World) (hT : SupAt w w.heap.size s x) : ∃ w1 gT, Hid (w1 = w.alloc (.cells (supV s x) ty)) ∧ Hid (gT = w.heap.size) ∧ Hid (Below w.heap.size w w1) ∧ Hid (∀ W, Below w1.heap.size w1 W → SupAt W W.heap.size s x ∧ W.cell? ⟨gT, 0, none⟩ = some (.slice x.a s.need.length x.ca) ∧ W.cell? ⟨gT, 1, none⟩ = some (.slice x.b s.order.length x.cb) ∧ W.cell? ⟨gT, 2, none⟩ = some (.int .i64 s.keep) ∧ W.cell? ⟨gT, 3, none⟩ = some (.int .i64 s.room)) := by
  refine ⟨w.alloc (.cells (supV s x) ty), w.heap.size, rfl, rfl, (Below.refl _ _).alloc (Nat.le_refl _) _, Lib.hid fun W hb => ?_⟩
  have hb1 : Below w.heap.size w (w.alloc (.cells (supV s x) ty)) := (Below.refl _ _).alloc (Nat.le_refl _) _
  have kT : Blk (w.alloc (.cells (supV s x) ty)) w.heap.size ty (supV s x) := Blk.new _ _ _
  have hgl := kT.lt
  have r0 := (kT.below hb hgl).cell 0
  have r1 := (kT.below hb hgl).cell 1
  have r2 := (kT.below hb hgl).cell 2
  have r3 := (kT.below hb hgl).cell 3
  simp [supV] at r0 r1 r2 r3
  have hb2 := hb1.trans (hb.mono hb1.size)
  exact ⟨hT.step hb2, r0, r1, r2, r3⟩
set_option maxRecDepth 20000 in
set_option maxHeartbeats 2000000 in
theorem bNC_any (v : Int) (w : World) :
    Calls Try.prog 96 #[.int .i64 v] w fun e w' => e = .returned (.bool (!inB v 0 1000)) ∧ w = w' := by
  cases h : inB v 0 1000
  all_goals
    go_enter Try.func96, Try.ntmps96
    go_wp2_with (go_at_call 48; refine (within_any _ _ _ _).mono ?_; rintro e w' ⟨rfl, rfl⟩)
    go_ret
    exact ⟨ret_bool (by simp [h]), rfl⟩

set_option maxRecDepth 20000 in
set_option maxHeartbeats 2000000 in
theorem bNI_any (A : Option Addr) (c : Nat) (l : List Int) (w : World) (hl : l.length ≤ 9223372036854775807) (hA : Sl encInt 1 w w.heap.size A l) :
    Calls Try.prog 99 #[.slice A l.length c, .func (.func 96) #[] #[]] w fun e w' => e = .returned (.int .i64 (findI (fun v => !inB v 0 1000) l)) ∧ Below w.heap.size w w' := by
  have HA := Lib.hid hA
  clear hA
  go_enter Try.func99, Try.ntmps99
  go_wp2
  go_loopw [8] (fun i wr => ∃ k : Nat, k ≤ l.length ∧ i = .int .i64 k ∧ Hid (∀ x ∈ l.take k, (!inB x 0 1000) = false) ∧ Below w.heap.size w wr) (fun i _ => l.length - (intOf i).toNat)
  case atStart => exact ⟨0, Nat.zero_le _, rfl, by simp [Hid], Below.refl _ _⟩
  case round =>
    obtain ⟨k, hk, rfl, HN, hB⟩ := hrel
    by_cases hlt : k < l.length
    · obtain ⟨b, off, rfl, hb, c0⟩ := (HA.out.below hB).at1 hlt
      cases hw : (!inB l[k] 0 1000)
      · have HW := Lib.hid hw
        go_wp2_with (go_at_call 96; refine (bNC_any _ _).mono ?_; rintro e w' ⟨rfl, rfl⟩)
        go_roundw
        case rel =>
          refine ⟨k + 1, by omega, by go_num, ?_, hB⟩
          intro x hx
          rw [List.take_succ_eq_append_getElem hlt, List.mem_append] at hx
          rcases hx with hx | hx
          · exact HN.out x hx
          · simp at hx; subst hx; exact HW.out
        case measure => simp [intOf]; omega
      · have HF := Lib.hid (findI_hit (p := fun v => !inB v 0 1000) hlt HN.out hw)
        go_wp2_with (go_at_call 96; refine (bNC_any _ _).mono ?_; rintro e w' ⟨rfl, rfl⟩)
        go_ret
        exact ⟨ret_int HF.out.symm, hB⟩
    · go_wp2
      go_ret
      exact ⟨ret_int (findI_miss (fun x hx => HN.out x (by rw [List.take_of_length_le (by omega)]; exact hx))).symm, hB⟩

set_option maxRecDepth 20000 in
set_option maxHeartbeats 2000000 in
theorem bN_any (A : Option Addr) (c : Nat) (l : List Int) (w : World) (hl : l.length ≤ 9223372036854775807) (hA : Sl encInt 1 w w.heap.size A l) :
    Calls Try.prog 56 #[.slice A l.length c, .func (.func 96) #[] #[]] w fun e w' => e = .returned (.bool (l.any fun v => !inB v 0 1000)) ∧ Below w.heap.size w w' := by
  have hf := findI_any (fun v => !inB v 0 1000) l
  have HF := Lib.hid hf
  clear hf
  go_enter Try.func56, Try.ntmps56
  go_wp2_with (go_at_call 99; refine (bNI_any _ _ _ _ hl hA).mono ?_; rintro e w' ⟨rfl, hb⟩)
  go_ret
  exact ⟨ret_bool HF.out, hb⟩


set_option maxRecDepth 20000 in
set_option maxHeartbeats 2000000 in
theorem bOC_any (v : Int) (w : World) :
    Calls Try.prog 97 #[.int .i64 v] w fun e w' => e = .returned (.bool (!inB v 0 1000000)) ∧ w = w' := by
  cases h : inB v 0 1000000
  all_goals
    go_enter Try.func97, Try.ntmps97
    go_wp2_with (go_at_call 48; refine (within_any _ _ _ _).mono ?_; rintro e w' ⟨rfl, rfl⟩)
    go_ret
    exact ⟨ret_bool (by simp [h]), rfl⟩

set_option maxRecDepth 20000 in
set_option maxHeartbeats 2000000 in
theorem bOI_any (A : Option Addr) (c : Nat) (l : List Int) (w : World) (hl : l.length ≤ 9223372036854775807) (hA : Sl encInt 1 w w.heap.size A l) :
    Calls Try.prog 99 #[.slice A l.length c, .func (.func 97) #[] #[]] w fun e w' => e = .returned (.int .i64 (findI (fun v => !inB v 0 1000000) l)) ∧ Below w.heap.size w w' := by
  have HA := Lib.hid hA
  clear hA
  go_enter Try.func99, Try.ntmps99
  go_wp2
  go_loopw [8] (fun i wr => ∃ k : Nat, k ≤ l.length ∧ i = .int .i64 k ∧ Hid (∀ x ∈ l.take k, (!inB x 0 1000000) = false) ∧ Below w.heap.size w wr) (fun i _ => l.length - (intOf i).toNat)
  case atStart => exact ⟨0, Nat.zero_le _, rfl, by simp [Hid], Below.refl _ _⟩
  case round =>
    obtain ⟨k, hk, rfl, HN, hB⟩ := hrel
    by_cases hlt : k < l.length
    · obtain ⟨b, off, rfl, hb, c0⟩ := (HA.out.below hB).at1 hlt
      cases hw : (!inB l[k] 0 1000000)
      · have HW := Lib.hid hw
        go_wp2_with (go_at_call 97; refine (bOC_any _ _).mono ?_; rintro e w' ⟨rfl, rfl⟩)
        go_roundw
        case rel =>
          refine ⟨k + 1, by omega, by go_num, ?_, hB⟩
          intro x hx
          rw [List.take_succ_eq_append_getElem hlt, List.mem_append] at hx
          rcases hx with hx | hx
          · exact HN.out x hx
          · simp at hx; subst hx; exact HW.out
        case measure => simp [intOf]; omega
      · have HF := Lib.hid (findI_hit (p := fun v => !inB v 0 1000000) hlt HN.out hw)
        go_wp2_with (go_at_call 97; refine (bOC_any _ _).mono ?_; rintro e w' ⟨rfl, rfl⟩)
        go_ret
        exact ⟨ret_int HF.out.symm, hB⟩
    · go_wp2
      go_ret
      exact ⟨ret_int (findI_miss (fun x hx => HN.out x (by rw [List.take_of_length_le (by omega)]; exact hx))).symm, hB⟩

set_option maxRecDepth 20000 in
set_option maxHeartbeats 2000000 in
theorem bO_any (A : Option Addr) (c : Nat) (l : List Int) (w : World) (hl : l.length ≤ 9223372036854775807) (hA : Sl encInt 1 w w.heap.size A l) :
    Calls Try.prog 56 #[.slice A l.length c, .func (.func 97) #[] #[]] w fun e w' => e = .returned (.bool (l.any fun v => !inB v 0 1000000)) ∧ Below w.heap.size w w' := by
  have hf := findI_any (fun v => !inB v 0 1000000) l
  have HF := Lib.hid hf
  clear hf
  go_enter Try.func56, Try.ntmps56
  go_wp2_with (go_at_call 99; refine (bOI_any _ _ _ _ hl hA).mono ?_; rintro e w' ⟨rfl, hb⟩)
  go_ret
  exact ⟨ret_bool HF.out, hb⟩


set_option maxRecDepth 20000 in
set_option maxHeartbeats 2000000 in
theorem bPC_any (v : Int) (w : World) :
    Calls Try.prog 57 #[.int .i64 v] w fun e w' => e = .returned (.bool (!inB v (-1000000000000) 1000000000000)) ∧ w = w' := by
  cases h : inB v (-1000000000000) 1000000000000
  all_goals
    go_enter Try.func57, Try.ntmps57
    go_wp2_with (go_at_call 48; refine (within_any _ _ _ _).mono ?_; rintro e w' ⟨rfl, rfl⟩)
    go_ret
    exact ⟨ret_bool (by simp [h]), rfl⟩

set_option maxRecDepth 20000 in
set_option maxHeartbeats 2000000 in
theorem bPI_any (A : Option Addr) (c : Nat) (l : List Int) (w : World) (hl : l.length ≤ 9223372036854775807) (hA : Sl encInt 1 w w.heap.size A l) :
    Calls Try.prog 99 #[.slice A l.length c, .func (.func 57) #[] #[]] w fun e w' => e = .returned (.int .i64 (findI (fun v => !inB v (-1000000000000) 1000000000000) l)) ∧ Below w.heap.size w w' := by
  have HA := Lib.hid hA
  clear hA
  go_enter Try.func99, Try.ntmps99
  go_wp2
  go_loopw [8] (fun i wr => ∃ k : Nat, k ≤ l.length ∧ i = .int .i64 k ∧ Hid (∀ x ∈ l.take k, (!inB x (-1000000000000) 1000000000000) = false) ∧ Below w.heap.size w wr) (fun i _ => l.length - (intOf i).toNat)
  case atStart => exact ⟨0, Nat.zero_le _, rfl, by simp [Hid], Below.refl _ _⟩
  case round =>
    obtain ⟨k, hk, rfl, HN, hB⟩ := hrel
    by_cases hlt : k < l.length
    · obtain ⟨b, off, rfl, hb, c0⟩ := (HA.out.below hB).at1 hlt
      cases hw : (!inB l[k] (-1000000000000) 1000000000000)
      · have HW := Lib.hid hw
        go_wp2_with (go_at_call 57; refine (bPC_any _ _).mono ?_; rintro e w' ⟨rfl, rfl⟩)
        go_roundw
        case rel =>
          refine ⟨k + 1, by omega, by go_num, ?_, hB⟩
          intro x hx
          rw [List.take_succ_eq_append_getElem hlt, List.mem_append] at hx
          rcases hx with hx | hx
          · exact HN.out x hx
          · simp at hx; subst hx; exact HW.out
        case measure => simp [intOf]; omega
      · have HF := Lib.hid (findI_hit (p := fun v => !inB v (-1000000000000) 1000000000000) hlt HN.out hw)
        go_wp2_with (go_at_call 57; refine (bPC_any _ _).mono ?_; rintro e w' ⟨rfl, rfl⟩)
        go_ret
        exact ⟨ret_int HF.out.symm, hB⟩
    · go_wp2
      go_ret
      exact ⟨ret_int (findI_miss (fun x hx => HN.out x (by rw [List.take_of_length_le (by omega)]; exact hx))).symm, hB⟩

set_option maxRecDepth 20000 in
set_option maxHeartbeats 2000000 in
theorem bP_any (A : Option Addr) (c : Nat) (l : List Int) (w : World) (hl : l.length ≤ 9223372036854775807) (hA : Sl encInt 1 w w.heap.size A l) :
    Calls Try.prog 56 #[.slice A l.length c, .func (.func 57) #[] #[]] w fun e w' => e = .returned (.bool (l.any fun v => !inB v (-1000000000000) 1000000000000)) ∧ Below w.heap.size w w' := by
  have hf := findI_any (fun v => !inB v (-1000000000000) 1000000000000) l
  have HF := Lib.hid hf
  clear hf
  go_enter Try.func56, Try.ntmps56
  go_wp2_with (go_at_call 99; refine (bPI_any _ _ _ _ hl hA).mono ?_; rintro e w' ⟨rfl, hb⟩)
  go_ret
  exact ⟨ret_bool HF.out, hb⟩


set_option maxRecDepth 20000 in
set_option maxHeartbeats 4000000 in
theorem chkS_any (s : SupD) (x : SA) (w : World) (hl : s.need.length ≤ 1000000000 ∧ s.order.length ≤ 1000000000) (hT : SupAt w w.heap.size s x) :
    Calls Try.prog 52 #[.agg #[.slice x.a s.need.length x.ca, .slice x.b s.order.length x.cb, .int .i64 s.keep, .int .i64 s.room]] w fun e w' => e = .returned (.int .i64 (errS s)) ∧ Hid (Below w.heap.size w w') := by
  obtain ⟨w1, gT, HW1, HGT, HB1, HTB⟩ := sup_box 60 s x w hT
  obtain ⟨hT1, r0, r1, r2, r3⟩ := HTB.out w1 (Below.refl _ _)
  obtain ⟨b1, hb1⟩ : ∃ b, b = inB s.need.length 1 20 := ⟨_, rfl⟩
  obtain ⟨b2, hb2⟩ : ∃ b, b = decide (s.order.length ≠ s.need.length) := ⟨_, rfl⟩
  obtain ⟨b3, hb3⟩ : ∃ b, b = s.need.any (fun n => !inB n 0 1000) := ⟨_, rfl⟩
  obtain ⟨b4, hb4⟩ : ∃ b, b = s.order.any (fun n => !inB n 0 1000000) := ⟨_, rfl⟩
  obtain ⟨b5, hb5⟩ : ∃ b, b = inB s.keep 0 1000 := ⟨_, rfl⟩
  obtain ⟨b6, hb6⟩ : ∃ b, b = inB s.room 0 100000 := ⟨_, rfl⟩
  have he : errS s = if !b1 || b2 then 2 else if b3 || (b4 || (!b5 || !b6)) then 6 else 0 := by rw [hb1, hb2, hb3, hb4, hb5, hb6]; rfl
  have t2 : ((s.order.length : Int) != (s.need.length : Int)) = b2 := by rw [hb2]; by_cases h : s.order.length = s.need.length <;> simp [h] <;> omega
  have H1 := Lib.hid (show ∀ W, Calls Try.prog 48 #[.int .i64 (s.need.length : Int), .int .i64 1, .int .i64 20] W fun e w' => e = .returned (.bool b1) ∧ W = w' from fun W => by rw [hb1]; exact within_any _ _ _ _)
  have H5 := Lib.hid (show ∀ W, Calls Try.prog 48 #[.int .i64 s.keep, .int .i64 0, .int .i64 1000] W fun e w' => e = .returned (.bool b5) ∧ W = w' from fun W => by rw [hb5]; exact within_any _ _ _ _)
  have H6 := Lib.hid (show ∀ W, Calls Try.prog 48 #[.int .i64 s.room, .int .i64 0, .int .i64 100000] W fun e w' => e = .returned (.bool b6) ∧ W = w' from fun W => by rw [hb6]; exact within_any _ _ _ _)
  have H3 := Lib.hid (show ∀ W, Below w1.heap.size w1 W → Calls Try.prog 56 #[.slice x.a s.need.length x.ca, .func (.func 96) #[] #[]] W fun e w' => e = .returned (.bool b3) ∧ Below W.heap.size W w' from fun W hb => by rw [hb3]; exact bN_any x.a x.ca s.need W (by omega) (HTB.out W hb).1.cN)
  have H4 := Lib.hid (show ∀ W, Below w1.heap.size w1 W → Calls Try.prog 56 #[.slice x.b s.order.length x.cb, .func (.func 97) #[] #[]] W fun e w' => e = .returned (.bool b4) ∧ Below W.heap.size W w' from fun W hb => by rw [hb4]; exact bO_any x.b x.cb s.order W (by omega) (HTB.out W hb).1.cO)
  rw [he]
  have HBN := Lib.hid (Below.refl w1.heap.size w1)
  unfold supV at *
  clear hT hT1 hb1 hb2 hb3 hb4 hb5 hb6 he
  cases b1 <;> cases b2 <;> cases b3 <;> cases b4 <;> cases b5 <;> cases b6
  all_goals
    go_enter Try.func52, Try.ntmps52
    go_upto_region 1 with fail
    rw [← HW1.out, ← HGT.out]
    go_wp2_with first
      | (go_at_call 48; with_reducible refine (H1.out _).mono ?_; rintro e w2 ⟨rfl, rfl⟩)
      | (go_at_call 48; with_reducible refine (H5.out _).mono ?_; rintro e w2 ⟨rfl, rfl⟩)
      | (go_at_call 48; with_reducible refine (H6.out _).mono ?_; rintro e w2 ⟨rfl, rfl⟩)
      | (go_at_call 56; with_reducible refine (H3.out _ HBN.out).mono ?_; rintro e w2 ⟨rfl, hb2⟩; have HBN := Lib.hid (HBN.out.trans (hb2.mono HBN.out.size)); clear hb2; clear r0 r1 r2 r3; obtain ⟨-, r0, r1, r2, r3⟩ := HTB.out w2 HBN.out)
      | (go_at_call 56; with_reducible refine (H4.out _ HBN.out).mono ?_; rintro e w2 ⟨rfl, hb2⟩; have HBN := Lib.hid (HBN.out.trans (hb2.mono HBN.out.size)); clear hb2; clear r0 r1 r2 r3; obtain ⟨-, r0, r1, r2, r3⟩ := HTB.out w2 HBN.out)
    go_ret
    exact ⟨rfl, Lib.hid (HB1.out.trans (HBN.out.mono HB1.out.size))⟩
set_option maxRecDepth 20000 in
set_option maxHeartbeats 4000000 in
theorem rchkS_any (s : SupD) (x : SA) (w : World) (hl : s.need.length ≤ 1000000000 ∧ s.order.length ≤ 1000000000) (hT : SupAt w w.heap.size s x) :
    Calls Try.prog 59 #[.agg #[.slice x.a s.need.length x.ca, .slice x.b s.order.length x.cb, .int .i64 s.keep, .int .i64 s.room]] w fun e w' => e = .returned (.int .i64 (errS s)) ∧ Hid (Below w.heap.size w w') := by
  obtain ⟨w1, gT, HW1, HGT, HB1, HTB⟩ := sup_box 121 s x w hT
  obtain ⟨hT1, r0, r1, r2, r3⟩ := HTB.out w1 (Below.refl _ _)
  obtain ⟨b1, hb1⟩ : ∃ b, b = inB s.need.length 1 20 := ⟨_, rfl⟩
  obtain ⟨b2, hb2⟩ : ∃ b, b = decide (s.order.length ≠ s.need.length) := ⟨_, rfl⟩
  obtain ⟨b3, hb3⟩ : ∃ b, b = s.need.any (fun n => !inB n 0 1000) := ⟨_, rfl⟩
  obtain ⟨b4, hb4⟩ : ∃ b, b = s.order.any (fun n => !inB n 0 1000000) := ⟨_, rfl⟩
  obtain ⟨b5, hb5⟩ : ∃ b, b = inB s.keep 0 1000 := ⟨_, rfl⟩
  obtain ⟨b6, hb6⟩ : ∃ b, b = inB s.room 0 100000 := ⟨_, rfl⟩
  have he : errS s = if !b1 || b2 then 2 else if b3 || (b4 || (!b5 || !b6)) then 6 else 0 := by rw [hb1, hb2, hb3, hb4, hb5, hb6]; rfl
  have t2 : ((s.order.length : Int) != (s.need.length : Int)) = b2 := by rw [hb2]; by_cases h : s.order.length = s.need.length <;> simp [h] <;> omega
  have HLE := Lib.hid (show b2 = false → s.order.length = s.need.length from fun h => by rw [h] at hb2; simpa using hb2.symm)
  have H1 := Lib.hid (show ∀ W, Calls Try.prog 100 #[.int .i64 (s.need.length : Int), .int .i64 1, .int .i64 20] W fun e w' => e = .returned (.bool b1) ∧ W = w' from fun W => by rw [hb1]; exact rin_any _ _ _ _)
  have H5 := Lib.hid (show ∀ W, Calls Try.prog 100 #[.int .i64 s.keep, .int .i64 0, .int .i64 1000] W fun e w' => e = .returned (.bool b5) ∧ W = w' from fun W => by rw [hb5]; exact rin_any _ _ _ _)
  have H6 := Lib.hid (show ∀ W, Calls Try.prog 100 #[.int .i64 s.room, .int .i64 0, .int .i64 100000] W fun e w' => e = .returned (.bool b6) ∧ W = w' from fun W => by rw [hb6]; exact rin_any _ _ _ _)
  have HB3 := Lib.hid hb3
  have HB4 := Lib.hid hb4
  have HT1 := Lib.hid hT1
  rw [he]
  unfold supV at *
  clear hT hT1 hb1 hb2 hb3 hb4 hb5 hb6 he
  by_cases hok : b1 = true ∧ b2 = false
  · obtain ⟨rfl, rfl⟩ := hok
    have HLE2 := Lib.hid (HLE.out rfl)
    clear HLE
    go_enter Try.func59, Try.ntmps59
    go_upto_region 1 with fail
    rw [← HW1.out, ← HGT.out]
    go_wp2_with (go_at_call 100; with_reducible refine (H1.out _).mono ?_; rintro e w2 ⟨rfl, rfl⟩)
    go_loopw [4] (fun i wr => ∃ k : Nat, k ≤ s.need.length ∧ i = .int .i64 k ∧ Hid (∀ j, j < k → inB (nd s.need j) 0 1000 = true ∧ inB (nd s.order j) 0 1000000 = true) ∧ w1 = wr) (fun i _ => s.need.length - (intOf i).toNat)
    case atStart => exact ⟨0, Nat.zero_le _, rfl, Lib.hid (fun j h => by omega), rfl⟩
    case round =>
      obtain ⟨k, hk, rfl, HK, rfl⟩ := hrel
      by_cases hlt : k < s.need.length
      · have hlo : k < s.order.length := by have := HLE2.out; omega
        obtain ⟨pb, po, hpa, hpb, c0⟩ := HT1.out.cN.at1 hlt
        obtain ⟨qb, qo, hqa, hqb, c1⟩ := HT1.out.cO.at1 hlo
        rw [hpa] at r0
        rw [hqa] at r1
        have HV := Lib.hid (show ∀ j, j < k + 1 → inB s.need[k] 0 1000 = true → inB s.order[k] 0 1000000 = true → inB (nd s.need j) 0 1000 = true ∧ inB (nd s.order j) 0 1000000 = true from fun j hj h1 h2 => by
          by_cases e : j = k
          · subst e; rw [nd_get hlt, nd_get hlo]; exact ⟨h1, h2⟩
          · exact HK.out j (by omega))
        have HF3 := Lib.hid (show inB s.need[k] 0 1000 = false → b3 = true from fun h => by rw [HB3.out, List.any_eq_true]; exact ⟨_, List.getElem_mem hlt, by rw [h]; rfl⟩)
        have HF4 := Lib.hid (show inB s.order[k] 0 1000000 = false → b4 = true from fun h => by rw [HB4.out, List.any_eq_true]; exact ⟨_, List.getElem_mem hlo, by rw [h]; rfl⟩)
        obtain ⟨vn, hvn⟩ : ∃ v, v = s.need[k] := ⟨_, rfl⟩
        obtain ⟨vo, hvo⟩ : ∃ v, v = s.order[k] := ⟨_, rfl⟩
        rw [← hvn] at c0 HV HF3
        rw [← hvo] at c1 HV HF4
        obtain ⟨d1, hd1⟩ : ∃ b, b = inB vn 0 1000 := ⟨_, rfl⟩
        obtain ⟨d2, hd2⟩ : ∃ b, b = inB vo 0 1000000 := ⟨_, rfl⟩
        have D1 := Lib.hid (show ∀ W, Calls Try.prog 100 #[.int .i64 vn, .int .i64 0, .int .i64 1000] W fun e w' => e = .returned (.bool d1) ∧ W = w' from fun W => by rw [hd1]; exact rin_any _ _ _ _)
        have D2 := Lib.hid (show ∀ W, Calls Try.prog 100 #[.int .i64 vo, .int .i64 0, .int .i64 1000000] W fun e w' => e = .returned (.bool d2) ∧ W = w' from fun W => by rw [hd2]; exact rin_any _ _ _ _)
        rw [← hd1] at HV HF3
        rw [← hd2] at HV HF4
        have i0 : (0 : Int) ≤ (k : Int) := by omega
        have i1 : (k : Int) < (s.need.length : Int) := by omega
        have i2 : (k : Int) < (s.order.length : Int) := by omega
        have HPA := Lib.hid hpa
        have HQA := Lib.hid hqa
        clear hpa hqa hvn hvo hd1 hd2
        cases d1
        · have h3 := HF3.out rfl
          subst h3
          clear HB3
          go_wp2_with first
            | (go_at_call 100; with_reducible refine (D1.out _).mono ?_; rintro e w2 ⟨rfl, rfl⟩)
          go_ret
          exact ⟨by simp, Lib.hid HB1.out⟩
        · cases d2
          · have h4 := HF4.out rfl
            subst h4
            clear HB4
            go_wp2_with first
              | (go_at_call 100; with_reducible refine (D1.out _).mono ?_; rintro e w2 ⟨rfl, rfl⟩)
              | (go_at_call 100; with_reducible refine (D2.out _).mono ?_; rintro e w2 ⟨rfl, rfl⟩)
            go_ret
            exact ⟨by simp, Lib.hid HB1.out⟩
          · go_wp2_with first
              | (go_at_call 100; with_reducible refine (D1.out _).mono ?_; rintro e w2 ⟨rfl, rfl⟩)
              | (go_at_call 100; with_reducible refine (D2.out _).mono ?_; rintro e w2 ⟨rfl, rfl⟩)
            go_roundw
            case rel => exact ⟨k + 1, by omega, by go_num, Lib.hid (fun j hj => HV.out j hj (by trivial) (by trivial)), trivial⟩
            case measure => simp [intOf]; omega
      · obtain rfl : k = s.need.length := by omega
        have h3 : b3 = false := by
          rw [HB3.out, List.any_eq_false]
          intro v hv
          obtain ⟨a, ha, rfl⟩ := List.getElem_of_mem hv
          have := (HK.out a ha).1
          rw [nd_get ha] at this
          simp [this]
        have h4 : b4 = false := by
          rw [HB4.out, List.any_eq_false]
          intro v hv
          obtain ⟨a, ha, rfl⟩ := List.getElem_of_mem hv
          have := (HK.out a (by have := HLE2.out; omega)).2
          rw [nd_get ha] at this
          simp [this]
        subst h3 h4
        clear HB3 HB4 HK hlt hk
        cases b5 <;> cases b6
        all_goals
          go_wp2_with first
            | (go_at_call 100; with_reducible refine (H5.out _).mono ?_; rintro e w2 ⟨rfl, rfl⟩)
            | (go_at_call 100; with_reducible refine (H6.out _).mono ?_; rintro e w2 ⟨rfl, rfl⟩)
          go_ret
          exact ⟨rfl, Lib.hid HB1.out⟩
  · have hor : (!b1 || b2) = true := by cases b1 <;> cases b2 <;> simp_all
    rw [hor]
    clear hok
    cases b1
    all_goals
      cases b2
      all_goals
        first
        | (exfalso; revert hor; decide)
        | (go_enter Try.func59, Try.ntmps59
           go_upto_region 1 with fail
           rw [← HW1.out, ← HGT.out]
           go_wp2_with (go_at_call 100; with_reducible refine (H1.out _).mono ?_; rintro e w2 ⟨rfl, rfl⟩)
           go_ret
           exact ⟨rfl, Lib.hid HB1.out⟩)
end Go.Proofs.Ytnbnfadmbggfnaa
