/- Contracts of right and reels; conditions: reels in memory, a map of Ids. Printed by a program. -/
import Derived.Test.YtnbnfadmbggfnaaB1
import Derived.Test.YtnbnfadmbggfnaaMaps
set_option linter.unusedSimpArgs false
set_option linter.unusedVariables false
namespace Go.Rl
open Go.Fh Go.RowKit
/-- the first error of so many -/
def firstErr (f : Nat → Int) : Nat → Int
  | 0 => 0
  | n + 1 => if firstErr f n ≠ 0 then firstErr f n else f n
theorem firstErr_zero {f : Nat → Int} {n : Nat} (h : firstErr f n = 0) : ∀ i, i < n → f i = 0 := by
  induction n with
  | zero => intro i hi; omega
  | succ n ih =>
    simp only [firstErr] at h
    by_cases h0 : firstErr f n = 0
    · rw [if_neg (by simpa using h0)] at h
      intro i hi
      by_cases e : i = n
      · subst e; exact h
      · exact ih h0 i (by omega)
    · rw [if_pos h0] at h; exact absurd h h0
theorem firstErr_go {f : Nat → Int} {n : Nat} (h : firstErr f n = 0) (hf : f n = 0) : firstErr f (n + 1) = 0 := by simp [firstErr, h, hf]
theorem firstErr_stop {f : Nat → Int} {m k : Nat} (h : firstErr f k = 0) (hf : f k ≠ 0) (hk : k < m) : firstErr f m = f k := by
  induction m with
  | zero => omega
  | succ m ih =>
    simp only [firstErr]
    by_cases e : k = m
    · subst e; simp [h]
    · rw [ih (by omega), if_pos hf]
def rl1 (r : ReelD) : Bool := inB r.id 0 1000000
def rl2 (r : ReelD) : Bool := inB r.width 1 3000
def rl3 (r : ReelD) : Bool := inB r.len 0 20000000 && inB r.core 0 r.len
def rightB (r : ReelD) : Bool := rl1 r && (rl2 r && rl3 r)
theorem right_ok {r : ReelD} (h : rightB r = true) : ReelOk r := by
  unfold rightB rl1 rl3 at h
  simp only [Bool.and_eq_true] at h
  have a := inB_iff.1 h.1
  have b := inB_iff.1 h.2.2.1
  have c := inB_iff.1 h.2.2.2
  exact ⟨a.1, a.2, c.1, c.2, b.2⟩
def reel0 : ReelD := ⟨0, 0, 0, 0⟩
/-- the error of a reel behind the Ids that were met -/
def errA (l : List ReelD) (ids : List Int) (k : Nat) : Int := if rightB (l.getD k reel0) = false then 70 else if decide ((l.getD k reel0).id ∈ ids ++ (l.take k).map (·.id)) then 10 else 0
def erW (l : List ReelD) (ids : List Int) : Int := firstErr (errA l ids) l.length
theorem errA_at {l : List ReelD} {ids : List Int} {k : Nat} (h : k < l.length) {r : ReelD} (hr : r = l[k]) {b1 b2 : Bool} (h1 : b1 = rightB r) (h2 : b2 = decide (r.id ∈ ids ++ (l.take k).map (·.id))) : errA l ids k = if b1 = false then 70 else if b2 then 10 else 0 := by
  unfold errA
  have : l.getD k reel0 = l[k] := by simp [h]
  rw [this, ← hr, ← h1, ← h2]
abbrev eI : Int → Go.Value := fun n => .int .i64 n
abbrev eB : Bool → Go.Value := fun b => .bool b
/-- the map has just the Ids that were met -/
def MetIs (m : List (Int × Bool)) (ids : List Int) : Prop := ∀ x, (mget m x).getD false = decide (x ∈ ids)
theorem MetIs.nil : MetIs [] [] := fun x => by simp [mget]
theorem MetIs.push {m : List (Int × Bool)} {ids : List Int} (h : MetIs m ids) (x : Int) : MetIs (mset m x true) (ids ++ [x]) := fun y => by
  rw [mget_mset]
  by_cases e : y = x
  · subst e; simp
  · rw [if_neg e, h y]; simp [e]
end Go.Rl
namespace Go.Proofs.Ytnbnfadmbggfnaa
open Go.RowKit Go.Fh Go.Rl
theorem getD_bool (o : Option Bool) : (o.map Value.bool).getD (.bool false) = .bool (o.getD false) := by cases o <;> rfl
theorem zero4 : ∀ w, (zeroValue 4).run Try.prog w = .ok (.bool false) w := fun w => by kernel_rfl
set_option maxRecDepth 20000 in
set_option maxHeartbeats 4000000 in
theorem rl1_any (r : ReelD) (w : World) : Calls Try.prog 148 #[.agg #[.int .i64 r.id, .int .i64 r.width, .int .i64 r.len, .int .i64 r.core]] w fun e w' => e = .returned (.bool (rl1 r)) ∧ Hid (Below w.heap.size w w') := by
  obtain ⟨b, hb⟩ : ∃ b, b = rl1 r := ⟨_, rfl⟩
  have H := Lib.hid (show ∀ W, Calls Try.prog 48 #[.int .i64 r.id, .int .i64 0, .int .i64 1000000] W fun e w' => e = .returned (.bool b) ∧ W = w' from fun W => by rw [hb]; exact within_any _ _ _ _)
  rw [← hb]
  clear hb
  go_enter Try.func148, Try.ntmps148
  go_wp2_with (go_at_call 48; with_reducible refine (H.out _).mono ?_; rintro e w' ⟨rfl, rfl⟩)
  go_ret
  exact ⟨rfl, Lib.hid (balR (Below.refl _ _) _)⟩
set_option maxRecDepth 20000 in
set_option maxHeartbeats 4000000 in
theorem rl2_any (r : ReelD) (w : World) : Calls Try.prog 149 #[.agg #[.int .i64 r.id, .int .i64 r.width, .int .i64 r.len, .int .i64 r.core]] w fun e w' => e = .returned (.bool (rl2 r)) ∧ Hid (Below w.heap.size w w') := by
  obtain ⟨b, hb⟩ : ∃ b, b = rl2 r := ⟨_, rfl⟩
  have H := Lib.hid (show ∀ W, Calls Try.prog 48 #[.int .i64 r.width, .int .i64 1, .int .i64 3000] W fun e w' => e = .returned (.bool b) ∧ W = w' from fun W => by rw [hb]; exact within_any _ _ _ _)
  rw [← hb]
  clear hb
  go_enter Try.func149, Try.ntmps149
  go_wp2_with (go_at_call 48; with_reducible refine (H.out _).mono ?_; rintro e w' ⟨rfl, rfl⟩)
  go_ret
  exact ⟨rfl, Lib.hid (balR (Below.refl _ _) _)⟩
set_option maxRecDepth 20000 in
set_option maxHeartbeats 4000000 in
theorem rl3_any (r : ReelD) (w : World) : Calls Try.prog 150 #[.agg #[.int .i64 r.id, .int .i64 r.width, .int .i64 r.len, .int .i64 r.core]] w fun e w' => e = .returned (.bool (rl3 r)) ∧ Hid (Below w.heap.size w w') := by
  obtain ⟨b, hb⟩ : ∃ b, b = inB r.len 0 20000000 := ⟨_, rfl⟩
  obtain ⟨b2, hb2⟩ : ∃ b, b = inB r.core 0 r.len := ⟨_, rfl⟩
  have he : rl3 r = (b && b2) := by rw [hb, hb2]; rfl
  have H := Lib.hid (show ∀ W, Calls Try.prog 48 #[.int .i64 r.len, .int .i64 0, .int .i64 20000000] W fun e w' => e = .returned (.bool b) ∧ W = w' from fun W => by rw [hb]; exact within_any _ _ _ _)
  have H2 := Lib.hid (show ∀ W, Calls Try.prog 48 #[.int .i64 r.core, .int .i64 0, .int .i64 r.len] W fun e w' => e = .returned (.bool b2) ∧ W = w' from fun W => by rw [hb2]; exact within_any _ _ _ _)
  rw [he]
  clear hb hb2 he
  cases b <;> cases b2
  all_goals
    go_enter Try.func150, Try.ntmps150
    go_wp2_with first
      | (go_at_call 48; with_reducible refine (H.out _).mono ?_; rintro e w' ⟨rfl, rfl⟩)
      | (go_at_call 48; with_reducible refine (H2.out _).mono ?_; rintro e w' ⟨rfl, rfl⟩)
    go_ret
    exact ⟨rfl, Lib.hid (balR (Below.refl _ _) _)⟩
set_option maxRecDepth 20000 in
set_option maxHeartbeats 4000000 in
theorem clrl1_any (r : ReelD) (gT : Nat) (w : World) (kT : Blk w gT 54 #[.int .i64 r.id, .int .i64 r.width, .int .i64 r.len, .int .i64 r.core]) : Calls Try.prog 140 #[.agg #[.func (.func 148) #[] #[]], .pointer (some ⟨gT, 0, none⟩)] w fun e w' => e = .returned (.bool (!rl1 r)) ∧ Hid (Below w.heap.size w w') := by
  obtain ⟨b, hb⟩ : ∃ b, b = rl1 r := ⟨_, rfl⟩
  have H := Lib.hid (show ∀ W, Calls Try.prog 148 #[.agg #[.int .i64 r.id, .int .i64 r.width, .int .i64 r.len, .int .i64 r.core]] W fun e w' => e = .returned (.bool b) ∧ Hid (Below W.heap.size W w') from fun W => by rw [hb]; exact rl1_any r W)
  rw [← hb]
  have r0 := kT.cell 0
  have r1 := kT.cell 1
  have r2 := kT.cell 2
  have r3 := kT.cell 3
  simp at r0 r1 r2 r3
  have hl := kT.lt
  clear hb kT
  cases b
  all_goals
    go_enter Try.func140, Try.ntmps140
    go_wp2_with (go_at_call 148; with_reducible refine (H.out _).mono ?_; rintro e w' ⟨rfl, hb⟩)
    go_ret
    exact ⟨rfl, Lib.hid ((balR (Below.refl _ _) _).trans (hb.out.mono (by simp)))⟩
set_option maxRecDepth 20000 in
set_option maxHeartbeats 4000000 in
theorem clrl2_any (r : ReelD) (gT : Nat) (w : World) (kT : Blk w gT 54 #[.int .i64 r.id, .int .i64 r.width, .int .i64 r.len, .int .i64 r.core]) : Calls Try.prog 140 #[.agg #[.func (.func 149) #[] #[]], .pointer (some ⟨gT, 0, none⟩)] w fun e w' => e = .returned (.bool (!rl2 r)) ∧ Hid (Below w.heap.size w w') := by
  obtain ⟨b, hb⟩ : ∃ b, b = rl2 r := ⟨_, rfl⟩
  have H := Lib.hid (show ∀ W, Calls Try.prog 149 #[.agg #[.int .i64 r.id, .int .i64 r.width, .int .i64 r.len, .int .i64 r.core]] W fun e w' => e = .returned (.bool b) ∧ Hid (Below W.heap.size W w') from fun W => by rw [hb]; exact rl2_any r W)
  rw [← hb]
  have r0 := kT.cell 0
  have r1 := kT.cell 1
  have r2 := kT.cell 2
  have r3 := kT.cell 3
  simp at r0 r1 r2 r3
  have hl := kT.lt
  clear hb kT
  cases b
  all_goals
    go_enter Try.func140, Try.ntmps140
    go_wp2_with (go_at_call 149; with_reducible refine (H.out _).mono ?_; rintro e w' ⟨rfl, hb⟩)
    go_ret
    exact ⟨rfl, Lib.hid ((balR (Below.refl _ _) _).trans (hb.out.mono (by simp)))⟩
set_option maxRecDepth 20000 in
set_option maxHeartbeats 4000000 in
theorem clrl3_any (r : ReelD) (gT : Nat) (w : World) (kT : Blk w gT 54 #[.int .i64 r.id, .int .i64 r.width, .int .i64 r.len, .int .i64 r.core]) : Calls Try.prog 140 #[.agg #[.func (.func 150) #[] #[]], .pointer (some ⟨gT, 0, none⟩)] w fun e w' => e = .returned (.bool (!rl3 r)) ∧ Hid (Below w.heap.size w w') := by
  obtain ⟨b, hb⟩ : ∃ b, b = rl3 r := ⟨_, rfl⟩
  have H := Lib.hid (show ∀ W, Calls Try.prog 150 #[.agg #[.int .i64 r.id, .int .i64 r.width, .int .i64 r.len, .int .i64 r.core]] W fun e w' => e = .returned (.bool b) ∧ Hid (Below W.heap.size W w') from fun W => by rw [hb]; exact rl3_any r W)
  rw [← hb]
  have r0 := kT.cell 0
  have r1 := kT.cell 1
  have r2 := kT.cell 2
  have r3 := kT.cell 3
  simp at r0 r1 r2 r3
  have hl := kT.lt
  clear hb kT
  cases b
  all_goals
    go_enter Try.func140, Try.ntmps140
    go_wp2_with (go_at_call 150; with_reducible refine (H.out _).mono ?_; rintro e w' ⟨rfl, hb⟩)
    go_ret
    exact ⟨rfl, Lib.hid ((balR (Below.refl _ _) _).trans (hb.out.mono (by simp)))⟩
end Go.Proofs.Ytnbnfadmbggfnaa
