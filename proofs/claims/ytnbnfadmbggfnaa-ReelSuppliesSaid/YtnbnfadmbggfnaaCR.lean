/- Memory words for the reference's best: a row of lists; conditions: none. -/
import Derived.Test.YtnbnfadmbggfnaaCQ
set_option linter.unusedSimpArgs false
set_option linter.unusedVariables false
namespace Go.Rl
theorem schV_len {s : SupD} (h : SupOk s) {n : Nat} (hn : n ≤ 20) : ∀ d i, i + d = n → (schV s n i).length ≤ d := by
  intro d
  induction d using Nat.strongRecOn with
  | _ d ih =>
    intro i hi
    by_cases e : i = n
    · subst e; rw [schV_n]; simp
    · have hlt : i < n := by omega
      rw [schV_s h hn hlt]
      split
      · simp; omega
      · obtain ⟨q1, q2, _, _⟩ := nxt_ok h hn hlt
        have := ih (n - nxt s n i) (by omega) (nxt s n i) (by omega)
        simp; omega
/-- the lists and costs while one week is under way -/
def lsG (s : SupD) (n i : Nat) (so : Option (List Nat × Int)) (j : Nat) : List Nat :=
  if i < j then schV s n j else if j = i then (match so with | none => [] | some b => b.1) else []
def csG (s : SupD) (n i : Nat) (so : Option (List Nat × Int)) (j : Nat) : Int :=
  if i < j then resV s n j else if j = i then (match so with | none => 0 | some b => b.2) else 0
def lsO (s : SupD) (n p j : Nat) : List Nat := if p ≤ j then schV s n j else []
def csO (s : SupD) (n p j : Nat) : Int := if p ≤ j then resV s n j else 0
theorem lsG_0 (s : SupD) (n i j : Nat) : lsG s n i none j = lsO s n (i + 1) j := by
  unfold lsG lsO
  by_cases h : i < j
  · rw [if_pos h, if_pos (by omega)]
  · have h2 : ¬ (i + 1 ≤ j) := by omega
    rw [if_neg h, if_neg h2]; split <;> rfl
theorem csG_0 (s : SupD) (n i j : Nat) : csG s n i none j = csO s n (i + 1) j := by
  unfold csG csO
  by_cases h : i < j
  · rw [if_pos h, if_pos (by omega)]
  · have h2 : ¬ (i + 1 ≤ j) := by omega
    rw [if_neg h, if_neg h2]; split <;> rfl
theorem lsG_end {s : SupD} (h : SupOk s) {n i : Nat} (hn : n ≤ 20) (hi : i < n) (j : Nat) : lsG s n i (selK s n i (n - i)) j = lsO s n i j := by
  rw [selK_end h hn hi]
  unfold lsG lsO
  by_cases h1 : i < j
  · rw [if_pos h1, if_pos (by omega)]
  · rw [if_neg h1]
    by_cases h2 : j = i
    · subst h2; rw [if_pos rfl, if_pos (Nat.le_refl _)]
    · rw [if_neg h2, if_neg (by omega)]
theorem csG_end {s : SupD} (h : SupOk s) {n i : Nat} (hn : n ≤ 20) (hi : i < n) (j : Nat) : csG s n i (selK s n i (n - i)) j = csO s n i j := by
  rw [selK_end h hn hi]
  unfold csG csO
  by_cases h1 : i < j
  · rw [if_pos h1, if_pos (by omega)]
  · rw [if_neg h1]
    by_cases h2 : j = i
    · subst h2; rw [if_pos rfl, if_pos (Nat.le_refl _)]
    · rw [if_neg h2, if_neg (by omega)]
theorem lsO_n (s : SupD) (n j : Nat) (hj : j ≤ n) : lsO s n n j = [] := by
  unfold lsO
  split
  · obtain rfl : j = n := by omega
    exact schV_n s j
  · rfl
theorem csO_n (s : SupD) (n j : Nat) (hj : j ≤ n) : csO s n n j = 0 := by
  unfold csO
  split
  · obtain rfl : j = n := by omega
    exact resV_n s j
  · rfl
theorem selA {s : SupD} {n i m : Nat} (h : cov s i (i + 1 + m) = none) : selK s n i (m + 1) = selK s n i m := by simp only [selK, h]
theorem selB {s : SupD} {n i m : Nat} {c : Int} (h : cov s i (i + 1 + m) = some c) (h2 : selK s n i m = none) : selK s n i (m + 1) = some (i :: schV s n (i + 1 + m), c + resV s n (i + 1 + m)) := by simp only [selK, h, h2]
theorem selC {s : SupD} {n i m : Nat} {c : Int} {b : List Nat × Int} (h : cov s i (i + 1 + m) = some c) (h2 : selK s n i m = some b) (ht : c + resV s n (i + 1 + m) < b.2 ∨ (c + resV s n (i + 1 + m) = b.2 ∧ lessL (casts (i :: schV s n (i + 1 + m))) (casts b.1) = true)) : selK s n i (m + 1) = some (i :: schV s n (i + 1 + m), c + resV s n (i + 1 + m)) := by
  simp only [selK, h, h2]; rw [if_pos ht]
theorem selD {s : SupD} {n i m : Nat} {c : Int} {b : List Nat × Int} (h : cov s i (i + 1 + m) = some c) (h2 : selK s n i m = some b) (ht : ¬ (c + resV s n (i + 1 + m) < b.2 ∨ (c + resV s n (i + 1 + m) = b.2 ∧ lessL (casts (i :: schV s n (i + 1 + m))) (casts b.1) = true))) : selK s n i (m + 1) = some b := by
  simp only [selK, h, h2]; rw [if_neg ht]
theorem sel_bd {s : SupD} (h : SupOk s) {n i : Nat} (hn : n ≤ 20) : ∀ m, i + m ≤ n → ∀ b, selK s n i m = some b → 0 ≤ b.2 ∧ b.2 ≤ 1000000000 ∧ b.1.length ≤ n ∧ b.1 ≠ [] := by
  intro m
  cases m with
  | zero => intro _ b hb; simp [selK] at hb
  | succ m =>
    intro hm b hb
    obtain ⟨b', hb', hx⟩ := selK_ok h hn (i := i) (m + 1) (by omega) hm
    rw [hb] at hb'
    injection hb' with hb'
    subst hb'
    obtain ⟨k, k1, k2, ⟨c, hc, e2⟩, e1, _⟩ := hx.ex
    have hcb := cov_bd h (by omega) hc
    have h1 := resV_nn h hn k (by omega)
    have h2 := resV_le h hn (i := k) (by omega)
    have h3 := schV_len h hn (n - k) k (by omega)
    rw [e1, e2]
    refine ⟨by omega, by omega, ?_, by simp⟩
    simp; omega
def soL : Option (List Nat × Int) → List Nat
  | none => []
  | some b => b.1
def soC : Option (List Nat × Int) → Int
  | none => 0
  | some b => b.2
theorem lsG_i (s : SupD) (n i : Nat) (so : Option (List Nat × Int)) : lsG s n i so i = soL so := by
  unfold lsG; rw [if_neg (by omega), if_pos rfl]; rfl
theorem csG_i (s : SupD) (n i : Nat) (so : Option (List Nat × Int)) : csG s n i so i = soC so := by
  unfold csG; rw [if_neg (by omega), if_pos rfl]; rfl
theorem lsG_put (s : SupD) (n i : Nat) (so : Option (List Nat × Int)) (b : List Nat × Int) (j : Nat) : (if j = i then b.1 else lsG s n i so j) = lsG s n i (some b) j := by
  unfold lsG
  by_cases h : j = i
  · subst h; simp
  · simp [h]
theorem csG_put (s : SupD) (n i : Nat) (so : Option (List Nat × Int)) (b : List Nat × Int) (j : Nat) : (if j = i then b.2 else csG s n i so j) = csG s n i (some b) j := by
  unfold csG
  by_cases h : j = i
  · subst h; simp
  · simp [h]
end Go.Rl
namespace Go.Fh
open Go.RowKit Go.Rl
def castV (l : List Nat) : List Value := (casts l).map (Value.int .i64)
theorem casts_len (l : List Nat) : (casts l).length = l.length := by simp [casts]
theorem castV_len (l : List Nat) : (castV l).length = l.length := by simp [castV, casts]
theorem castV_one (l : List Nat) : ∀ u ∈ castV l, u.oneCell' = true := by
  intro u hu
  unfold castV at hu
  obtain ⟨x, _, rfl⟩ := List.mem_map.1 hu
  rfl
structure LstA (W : World) (base gL gC : Nat) (f : Nat → List Nat) (c : Nat → Int) (n : Nat) (vs : List Value) : Prop where
  len : vs.length = n + 1
  blk : Blk W gL 47 vs.toArray
  own : ∀ j, j ≤ n → W.ownsRow base 3 1 (vs.getD j undef) (f j).length (castV (f j)) ∧ (f j = [] → vs.getD j undef = .slice none 0 0)
  row : RowF W gC c (n + 1)
  gl : gL < base ∧ gC < base ∧ gL ≠ gC
def LstQ (W : World) (base gL gC : Nat) (f : Nat → List Nat) (c : Nat → Int) (n : Nat) : Prop := ∃ vs, LstA W base gL gC f c n vs
section
variable {W W' : World} {base gL gC n : Nat} {f f' : Nat → List Nat} {c c' : Nat → Int} {vs : List Value}
theorem LstA.cell (h : LstA W base gL gC f c n vs) {j : Nat} (hj : j ≤ n) : W.cell? ⟨gL, j, none⟩ = some (vs.getD j undef) := by
  rw [h.blk.cell j]
  have := h.len
  simp
  rw [List.getElem?_eq_getElem (by omega)]
  rfl
theorem LstA.below (h : LstA W base gL gC f c n vs) (hb : Below W.heap.size W W') : LstA W' base gL gC f c n vs :=
  ⟨h.len, h.blk.below hb h.blk.lt, fun j hj => ⟨own_belowV (h.own j hj).1 hb, (h.own j hj).2⟩, h.row.below hb, h.gl⟩
theorem LstQ.below (h : LstQ W base gL gC f c n) (hb : Below W.heap.size W W') : LstQ W' base gL gC f c n := by
  obtain ⟨vs, h⟩ := h
  exact ⟨vs, h.below hb⟩
theorem LstA.grown {r : Option Nat} (h : LstA W base gL gC f c n vs) (hg : W.grownBy W' r) (h1 : ∀ g, r = some g → W.heap.size ≤ g) : LstA W' base gL gC f c n vs :=
  h.below ⟨hg.os, hg.tape, hg.output, hg.size, fun j hj => hg.block j hj (fun e => by have := h1 j e.symm; omega)⟩
theorem LstQ.congr (h : LstQ W base gL gC f c n) (e1 : ∀ j, j ≤ n → f j = f' j) (e2 : ∀ j, j ≤ n → c j = c' j) : LstQ W base gL gC f' c' n := by
  obtain ⟨vs, h⟩ := h
  exact ⟨vs, h.len, h.blk, fun j hj => by rw [← e1 j hj]; exact h.own j hj, h.row.congr fun j hj => e2 j (by omega), h.gl⟩
theorem LstA.put (h : LstA W base gL gC f c n vs) {i : Nat} (hi : i ≤ n) {v : Value} {l : List Nat} {a : Int} (hv : W.ownsRow base 3 1 v l.length (castV l)) (hne : l ≠ []) :
    LstQ ((W.setCell ⟨gL, i, none⟩ v).setCell ⟨gC, i, none⟩ (.int .i64 a)) base gL gC (fun j => if j = i then l else f j) (fun j => if j = i then a else c j) n := by
  have hfar : ∀ {u : Value} {m : Nat} {xs : List Value}, W.ownsRow base 3 1 u m xs → ((W.setCell ⟨gL, i, none⟩ v).setCell ⟨gC, i, none⟩ (.int .i64 a)).ownsRow base 3 1 u m xs := fun {u m xs} ho => by
    have h1 := own_far (p := ⟨gL, i, none⟩) ho (fun e => by have := (ho.lt gL e.symm).1; have := h.gl.1; omega) v
    exact own_far (p := ⟨gC, i, none⟩) h1 (fun e => by have := (ho.lt gC e.symm).1; have := h.gl.2.1; omega) _
  refine ⟨vs.set i v, by rw [List.length_set]; exact h.len, ?_, fun j hj => ?_, ?_, h.gl⟩
  · have h1 := (h.blk.set_ i v).far (p := ⟨gC, i, none⟩) h.gl.2.2 (.int .i64 a)
    rw [show vs.toArray.setIfInBounds i v = (vs.set i v).toArray by simp] at h1
    exact h1
  · have hl := h.len
    by_cases e : j = i
    · subst e
      rw [if_pos rfl, List.getD_eq_getElem?_getD, List.getElem?_set_self (by omega)]
      exact ⟨hfar hv, fun e => absurd e hne⟩
    · rw [if_neg e, List.getD_eq_getElem?_getD, List.getElem?_set_ne (fun h => e h.symm), ← List.getD_eq_getElem?_getD]
      exact ⟨hfar (h.own j hj).1, (h.own j hj).2⟩
  · exact (h.row.far (p := ⟨gL, i, none⟩) (fun e => h.gl.2.2 e.symm) v).set_ i a
theorem LstA.new (hL : Blk W gL 47 (List.replicate (n + 1) (Value.slice none 0 0)).toArray) (hC : RowF W gC (fun _ => 0) (n + 1)) (hg : gL < base ∧ gC < base ∧ gL ≠ gC) : LstQ W base gL gC (fun _ => []) (fun _ => 0) n := by
  refine ⟨_, by simp, hL, fun j hj => ?_, hC, hg⟩
  have : (List.replicate (n + 1) (Value.slice none 0 0)).getD j undef = .slice none 0 0 := by
    rw [List.getD_eq_getElem?_getD, List.getElem?_replicate, if_pos (by omega)]; rfl
  rw [this]
  exact ⟨World.ownsRow_nil _ _ _ _, fun _ => rfl⟩
theorem LstQ.put (h : LstQ W base gL gC f c n) {i : Nat} (hi : i ≤ n) {v : Value} {l : List Nat} {a : Int} (hv : W.ownsRow base 3 1 v l.length (castV l)) (hne : l ≠ []) :
    LstQ ((W.setCell ⟨gL, i, none⟩ v).setCell ⟨gC, i, none⟩ (.int .i64 a)) base gL gC (fun j => if j = i then l else f j) (fun j => if j = i then a else c j) n := by
  obtain ⟨vs, h⟩ := h
  exact h.put hi hv hne
theorem LstQ.base_lt (h : LstQ W base gL gC f c n) : gL < base ∧ gC < base ∧ gL ≠ gC := by obtain ⟨vs, h⟩ := h; exact h.gl
/-- a list's cell -/
theorem LstQ.at_ (h : LstQ W base gL gC f c n) {j : Nat} (hj : j ≤ n) : ∃ v, W.cell? ⟨gL, j, none⟩ = some v ∧ W.frozen? ⟨gL, j, none⟩ = false ∧ W.ownsRow base 3 1 v (f j).length (castV (f j)) ∧ (f j = [] → v = .slice none 0 0) ∧ W.cell? ⟨gC, j, none⟩ = some (.int .i64 (c j)) ∧ W.frozen? ⟨gC, j, none⟩ = false := by
  obtain ⟨vs, h⟩ := h
  exact ⟨_, h.cell hj, h.blk.frozen j, (h.own j hj).1, (h.own j hj).2, h.row.cell (by omega), h.row.frozen j⟩
theorem LstQ.mid (h : LstQ W base gL gC f c n) (i k : Nat) (hk : k ≤ n) (v : Value) : (W.setCell ⟨gL, i, none⟩ v).cell? ⟨gC, k, none⟩ = some (.int .i64 (c k)) ∧ (W.setCell ⟨gL, i, none⟩ v).frozen? ⟨gC, k, none⟩ = false := by
  obtain ⟨vs, h⟩ := h
  have h1 := h.row.far (p := ⟨gL, i, none⟩) (fun e => h.gl.2.2 e.symm) v
  exact ⟨h1.cell (by omega), h1.frozen k⟩
theorem own_blk {v : Value} {l : List Nat} (h : W.ownsRow base 3 1 v l.length (castV l)) (hne : l ≠ []) : ∃ g cap, v = .slice (some ⟨g, 0, none⟩) l.length cap ∧ base ≤ g ∧ g < W.heap.size := by
  obtain ⟨g, cap, hv, h1, h2⟩ := h.form (by cases l with | nil => exact absurd rfl hne | cons a l => simp)
  exact ⟨g, cap, hv, h1, h2⟩
theorem own_slc {A : Option Addr} {c : Nat} {l : List Nat} (h : W.ownsRow base 3 1 (.slice A l.length c) l.length (castV l)) : Sl encInt 1 W W.heap.size A (casts l) := by
  have hl : (casts l).length = l.length := by simp [casts]
  unfold castV at h
  rw [← hl] at h
  exact own_sl h
theorem best_new1 (w1 : World) (n : Nat) : LstQ (((w1.alloc (.cells (madeCells #[Value.slice none 0 0] (n + 1)) 47)).alloc (.cells (madeCells #[Value.int .i64 0] (n + 1)) 3)).drew) (w1.heap.size + 2) w1.heap.size (w1.heap.size + 1) (fun _ => []) (fun _ => 0) n := by
  refine LstA.new ?_ ?_ ⟨by omega, by omega, by omega⟩
  · have h := (Blk.new w1 47 (madeCells #[Value.slice none 0 0] (n + 1))).alloc (.cells (madeCells #[Value.int .i64 0] (n + 1)) 3)
    rw [← toList_madeCells_one]; exact h
  · have h := Blk.new (w1.alloc (.cells (madeCells #[Value.slice none 0 0] (n + 1)) 47)) 3 (madeCells #[Value.int .i64 0] (n + 1))
    rw [World.size_alloc] at h
    exact rowF_repl (by rw [← toList_madeCells_one]; exact h)
theorem best_new2 (w1 : World) (n : Nat) : LstQ (((w1.alloc (.cells (madeCells #[Value.int .i64 0] (n + 1)) 3)).alloc (.cells (madeCells #[Value.slice none 0 0] (n + 1)) 47)).drew) (w1.heap.size + 2) (w1.heap.size + 1) w1.heap.size (fun _ => []) (fun _ => 0) n := by
  refine LstA.new ?_ ?_ ⟨by omega, by omega, by omega⟩
  · have h := Blk.new (w1.alloc (.cells (madeCells #[Value.int .i64 0] (n + 1)) 3)) 47 (madeCells #[Value.slice none 0 0] (n + 1))
    rw [World.size_alloc] at h
    rw [← toList_madeCells_one]; exact h
  · have h := (Blk.new w1 3 (madeCells #[Value.int .i64 0] (n + 1))).alloc (.cells (madeCells #[Value.slice none 0 0] (n + 1)) 47)
    exact rowF_repl (by rw [← toList_madeCells_one]; exact h)
end
end Go.Fh
namespace Go.Proofs.Ytnbnfadmbggfnaa
open Go.RowKit Go.Fh Go.Rl
theorem infoSl47T : (Try.prog.info? 47).map (fun i => (i.zero, i.size, i.bytes)) = some (some (.slice none 0 0), 1, 24) := by kernel_rfl
/-- the state in a week's round -/
structure BstI (s : SupD) (n i m base gL gC : Nat) (w1 : World) (u : Value) (W : World) : Prop where
  out : ∃ so, u = .bool so.isSome ∧ Hid (so = selK s n i m) ∧ Hid (LstQ W base gL gC (lsG s n i so) (csG s n i so) n) ∧ Hid (Below w1.heap.size w1 W) ∧ Hid (base ≤ W.heap.size)
end Go.Proofs.Ytnbnfadmbggfnaa
