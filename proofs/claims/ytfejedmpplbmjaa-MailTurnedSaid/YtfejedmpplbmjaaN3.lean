/- The plain answer of open; Contains; the closure of open; a run in memory; conditions: as each says. Printed by a program. -/
import Derived.Test.YtfejedmpplbmjaaN2
import Derived.Test.YtfejedmpplbmjaaMpB
import Derived.Test.YtfejedmpplbmjaaC1
import Derived.Test.YtfejedmpplbmjaaC3
import Derived.Test.YtfejedmpplbmjaaQT
set_option linter.unusedSimpArgs false
set_option linter.unusedVariables false
namespace Go.Ml
open Go.RowKit Go.Fh
/-- the first error of so many -/
def firstErr (f : Nat → Int) : Nat → Int
  | 0 => 0
  | n + 1 => if firstErr f n ≠ 0 then firstErr f n else f n
theorem firstErr_zero {f : Nat → Int} {n : Nat} (h : firstErr f n = 0) : ∀ i, i < n → f i = 0 := by
  induction n with
  | zero => intro i hi; omega
  | succ n ih =>
    simp only [firstErr] at h
    by_cases h0 : firstErr f n = 0
    · rw [if_neg (by simpa using h0)] at h
      intro i hi
      by_cases e : i = n
      · subst e; exact h
      · exact ih h0 i (by omega)
    · rw [if_pos h0] at h; exact absurd h h0
theorem firstErr_go {f : Nat → Int} {n : Nat} (h : firstErr f n = 0) (hf : f n = 0) : firstErr f (n + 1) = 0 := by simp [firstErr, h, hf]
theorem firstErr_stop {f : Nat → Int} {m k : Nat} (h : firstErr f k = 0) (hf : f k ≠ 0) (hk : k < m) : firstErr f m = f k := by
  induction m with
  | zero => omega
  | succ m ih =>
    simp only [firstErr]
    by_cases e : k = m
    · subst e; simp [h]
    · rw [ih (by omega), if_pos hf]
theorem firstErr_all {f : Nat → Int} : ∀ n, (∀ i, i < n → f i = 0) → firstErr f n = 0
  | 0, _ => rfl
  | n + 1, h => firstErr_go (firstErr_all n fun i hi => h i (by omega)) (h n (by omega))
def encF (f : Int × Int × Bool) : List Go.Value := [.int .i64 f.1, .int .i64 f.2.1, .bool f.2.2]
def fV (f : Int × Int × Bool) : Go.Value := .agg #[.int .i64 f.1, .int .i64 f.2.1, .bool f.2.2]
/-- the hoppers that feed a zone -/
def fdsS (d : LnD) (z : Int) : List Int := (d.zones.getD z.toNat []).map (fdS d.hops)
def zAt (zs : List Int) (k : Int) : Int := zs.getD k.toNat 0
def fltAt (fs : List (Int × Int × Bool)) (i : Nat) : Int × Int × Bool := fs.getD i (0, 0, false)
/-- what open says of a fault -/
def fE (d : LnD) (zs : List Int) (fs : List (Int × Int × Bool)) (i : Nat) : Int :=
  if !inB (fltAt fs i).1 0 ((zs.length : Int) - 1) || !((fdsS d (zAt zs (fltAt fs i).1)).any fun h => (fltAt fs i).2.1 == h) then 1 else
  if (fs.take i).any fun g => decide (g.1 = (fltAt fs i).1 ∧ g.2.1 = (fltAt fs i).2.1) then 10 else 0
def openE (d : LnD) (zs : List Int) (fs : List (Int × Int × Bool)) : Int :=
  if chkL d ≠ 0 then chkL d else if 5000 < zs.length ∨ 5000 < fs.length then 2 else if zs.any (fun z => !inB z 0 ((d.zones.length : Int) - 1)) then 6 else firstErr (fE d zs fs) fs.length
theorem chk_ok {d : LnD} (h : chkL d = 0) : (1 ≤ d.hops.length ∧ d.hops.length ≤ 8) ∧ (1 ≤ d.zones.length ∧ d.zones.length ≤ 12) ∧ (1 ≤ d.batch ∧ d.batch ≤ 1000) ∧ d.hops.any hopW = false ∧ risB 15 d.rep = true ∧ ∀ z, z ∈ d.zones → znW d.hops z = false := by
  unfold chkL at h
  by_cases h1 : (!inB d.hops.length 1 8 || !inB d.zones.length 1 12) = true
  · rw [if_pos h1] at h; cases h
  rw [if_neg h1] at h
  by_cases h2 : (!inB d.batch 1 1000) = true
  · rw [if_pos h2] at h; cases h
  rw [if_neg h2] at h
  by_cases h3 : (d.hops.any hopW || !risB 15 d.rep) = true
  · rw [if_pos h3] at h; cases h
  rw [if_neg h3] at h
  by_cases h4 : (d.zones.any (znW d.hops)) = true
  · rw [if_pos h4] at h; cases h
  simp only [Bool.or_eq_true, Bool.not_eq_true', not_or, Bool.not_eq_false, Bool.not_eq_true] at h1 h2 h3 h4
  have a := inB_iff.1 h1.1
  have b := inB_iff.1 h1.2
  have c := inB_iff.1 h2
  refine ⟨by omega, by omega, c, h3.1, h3.2, fun z hz => ?_⟩
  have := List.any_eq_false.1 h4 z hz
  simpa using this
theorem ris_len {most : Int} {l : List Int} (h : risB most l = true) (h0 : 0 ≤ most) : (l.length : Int) ≤ most + 1 := by
  unfold risB at h
  rw [List.all_eq_true] at h
  have key : ∀ k, k < l.length → (k : Int) ≤ l.getD k 0 := by
    intro k
    induction k with
    | zero =>
      intro hk
      have := h 0 (List.mem_range.2 hk)
      simp only [Bool.and_eq_true] at this
      exact (inB_iff.1 this.1).1
    | succ k ih =>
      intro hk
      have h1 := ih (by omega)
      have := h (k + 1) (List.mem_range.2 hk)
      simp only [Bool.and_eq_true, Bool.or_eq_true, decide_eq_true_eq, Nat.add_sub_cancel] at this
      rcases this.2 with h2 | h2
      · omega
      · omega
  by_cases h1 : l.length = 0
  · omega
  · have h2 := key (l.length - 1) (by omega)
    have h3 := h (l.length - 1) (List.mem_range.2 (by omega))
    simp only [Bool.and_eq_true] at h3
    have := (inB_iff.1 h3.1).2
    omega
/-- parts of a valid line's zones are few -/
theorem zn_len {d : LnD} (h : chkL d = 0) {z : List Int} (hz : z ∈ d.zones) : z.length ≤ 16 := by
  have h1 := (chk_ok h).2.2.2.2.2 z hz
  unfold znW at h1
  simp only [Bool.or_eq_false_iff, Bool.not_eq_false'] at h1
  have := ris_len h1.1 (by omega)
  omega
theorem getD_mem {l : List (List Int)} {k : Nat} (hk : k < l.length) : l.getD k [] ∈ l := by
  rw [List.getD_eq_getElem?_getD, List.getElem?_eq_getElem hk]; exact List.getElem_mem hk
end Go.Ml
namespace Go.Proofs.Ytfejedmpplbmjaa
open Go.RowKit Go.Fh Go.Ml
theorem keyLaw192 : KeyLaw Try.prog 192 (fun x : ArrK 2 => arrV .i64 x.1) := by
  obtain ⟨i, hi⟩ : ∃ i, Try.prog.info? 3 = some i := by
    have h0 : (Try.prog.info? 3).map (fun i => i.size) = some 1 := by kernel_rfl
    cases h : Try.prog.info? 3 with
    | some i => exact ⟨i, rfl⟩
    | none => rw [h] at h0; cases h0
  exact keyLaw_arr Try.underlying192 hi (by kernel_rfl) Try.underlying3
theorem zero47 : ∀ w, (zeroValue 47).run Try.prog w = .ok (fV (0, 0, false)) w := fun w => by kernel_rfl
theorem wp_world {P : Program} {c : Code} {Q : Exit → Act → World → Prop} {a : Act} {w : World} (S : World → Prop) (hS : S w) (h : ∀ W, S W → c.wp P Q a W) : c.wp P Q a w := h w hS
/-- a map's turn, as one operation -/
theorem step_update {P : Program} {κ ν : Type} [DecidableEq κ] {ek : κ → Value} {ev : ν → Value} {w : World} {g : Nat} {m : List (κ × ν)} {o : Oper} {a : Act} {K : Act → World → Prop} {Q : Exit → Act → World → Prop} (mx kx vx : Operand) (T : TypeId)
    (ho : o.op = .mapUpdate T mx kx vx) {Kt E : TypeId} (hT : P.underlying T = some (.map Kt E)) (L : KeyLaw P Kt ek)
    (h : MapIs ek ev w g m) (x : κ) (v : ν) (hm : a.eval mx = .map (some g)) (hx : a.eval kx = ek x) (hv : a.eval vx = ev v)
    (hK : ∀ w', MapIs ek ev w' g (mset m x v) → w.grownBy w' (some g) → w'.heap.size = w.heap.size → K (a.put o.dst undef) w') : Oper.wp P o a w K Q := by
  obtain ⟨w', hr, h1, h2, h3⟩ := h.update hT L x v
  unfold Oper.wp
  simp only [execOp, ho, hm, hx, hv, Sem.run_bind, hr, Result.andThen_ok, Sem.run_pure, Oper.upon_skip]
  exact hK w' h1 h2 h3
abbrev FMap := List (ArrK 2 × (Int × Int × Bool))
abbrev ekF : ArrK 2 → Value := fun x => arrV .i64 x.1
/-- what the map of faults holds -/
def MapsF (m : FMap) (fs : List (Int × Int × Bool)) : Prop := ∀ k h : Int, mget m ⟨[k, h], rfl⟩ = fs.find? (fun f => decide (f.1 = k ∧ f.2.1 = h))
theorem MapsF.add {m : FMap} {fs : List (Int × Int × Bool)} (h : MapsF m fs) (f : Int × Int × Bool) (hn : fs.any (fun g => decide (g.1 = f.1 ∧ g.2.1 = f.2.1)) = false) : MapsF (mset m ⟨[f.1, f.2.1], rfl⟩ f) (fs ++ [f]) := by
  intro k q
  rw [mget_mset, h k q, List.find?_append]
  by_cases e : (⟨[k, q], rfl⟩ : ArrK 2) = ⟨[f.1, f.2.1], rfl⟩
  · rw [if_pos e]
    simp only [Subtype.mk.injEq, List.cons.injEq, and_true] at e
    obtain ⟨rfl, rfl⟩ := e
    have : fs.find? (fun g => decide (g.1 = f.1 ∧ g.2.1 = f.2.1)) = none := List.find?_eq_none.2 fun x hx => by
      have := List.any_eq_false.1 hn x hx
      simpa using this
    rw [this]
    simp
  · rw [if_neg e]
    have e2 : ¬ (f.1 = k ∧ f.2.1 = q) := fun ⟨h1, h2⟩ => e (by simp [h1, h2])
    simp [e2]
theorem MapsF.has {m : FMap} {fs : List (Int × Int × Bool)} (h : MapsF m fs) (k q : Int) : (mget m ⟨[k, q], rfl⟩).isSome = fs.any (fun g => decide (g.1 = k ∧ g.2.1 = q)) := by
  rw [h k q, List.isSome_find?]
/-- a run in memory -/
def RunM (d : LnD) (x : LA) (zs : List Int) (zA : Option Addr) (zc : Nat) (fs : List (Int × Int × Bool)) (g : Nat) (w : World) : Prop :=
  g < w.heap.size ∧ ∃ (gM : Nat) (m : FMap), MapsF m fs ∧ ∀ W, Below w.heap.size w W → LnAt W W.heap.size d x ∧ Sl encInt 1 W W.heap.size zA zs ∧
    (W.cell? ⟨g, 0, none⟩ = some (.slice x.a d.hops.length x.ca) ∧ W.cell? ⟨g, 1, none⟩ = some (.slice x.b d.rep.length x.cb) ∧ W.cell? ⟨g, 2, none⟩ = some (.int .i64 d.batch) ∧ W.cell? ⟨g, 3, none⟩ = some (.slice x.z d.zones.length x.cz) ∧ W.cell? ⟨g, 4, none⟩ = some (.slice zA zs.length zc) ∧ W.cell? ⟨g, 5, none⟩ = some (.map (some gM))) ∧ MapIs ekF fV W gM m
theorem RunM.below {d : LnD} {x : LA} {zs : List Int} {zA : Option Addr} {zc : Nat} {fs : List (Int × Int × Bool)} {g : Nat} {w W : World} (h : RunM d x zs zA zc fs g w) (hb : Below w.heap.size w W) : RunM d x zs zA zc fs g W := by
  obtain ⟨h1, gM, m, h2, h3⟩ := h
  exact ⟨Nat.lt_of_lt_of_le h1 hb.size, gM, m, h2, fun X hX => h3 X (bstep hb hX)⟩
set_option maxHeartbeats 1000000 in
theorem index_any (A : Option Addr) (c : Nat) (l : List Int) (v : Int) (w : World) (hl : l.length ≤ 9223372036854775807) (hA : Sl encInt 1 w w.heap.size A l) :
    Calls Try.prog 52 #[.slice A l.length c, .int .i64 v] w fun e w' => e = .returned (.int .i64 (findI (fun x => v == x) l)) ∧ Below w.heap.size w w' := by
  have HA := Lib.hid hA
  clear hA
  go_enter Try.func52, Try.ntmps52
  go_wp2
  go_loopw [8] (fun i wr => ∃ k : Nat, k ≤ l.length ∧ i = .int .i64 k ∧ Hid (∀ x ∈ l.take k, (v == x) = false) ∧ Below w.heap.size w wr) (fun i _ => l.length - (intOf i).toNat)
  case atStart => exact ⟨0, Nat.zero_le _, rfl, by simp [Hid], Below.refl _ _⟩
  case round =>
    obtain ⟨k, hk, rfl, HN, hB⟩ := hrel
    by_cases hlt : k < l.length
    · obtain ⟨b, off, rfl, hb, c0⟩ := (HA.out.below hB).at1 hlt
      cases hw : (v == l[k])
      · have HW := Lib.hid hw
        go_wp2_with fail
        go_roundw
        case rel =>
          refine ⟨k + 1, by omega, by go_num, ?_, hB⟩
          intro x hx
          rw [List.take_succ_eq_append_getElem hlt, List.mem_append] at hx
          rcases hx with hx | hx
          · exact HN.out x hx
          · simp at hx; subst hx; exact HW.out
        case measure => simp [intOf]; omega
      · have HF := Lib.hid (findI_hit (p := fun x => v == x) hlt HN.out hw)
        go_wp2_with fail
        go_ret
        exact ⟨ret_int HF.out.symm, hB⟩
    · go_wp2
      go_ret
      exact ⟨ret_int (findI_miss (fun x hx => HN.out x (by rw [List.take_of_length_le (by omega)]; exact hx))).symm, hB⟩

theorem contains_any (A : Option Addr) (c : Nat) (l : List Int) (v : Int) (w : World) (hl : l.length ≤ 9223372036854775807) (hA : Sl encInt 1 w w.heap.size A l) :
    Calls Try.prog 17 #[.slice A l.length c, .int .i64 v] w fun e w' => e = .returned (.bool (l.any fun x => v == x)) ∧ Below w.heap.size w w' := by
  have hf := findI_any (fun x => v == x) l
  have HF := Lib.hid hf
  clear hf
  go_enter Try.func17, Try.ntmps17
  go_wp2_with (go_at_call 52; refine (index_any _ _ _ _ _ hl hA).mono ?_; rintro e w' ⟨rfl, hb⟩)
  go_ret
  exact ⟨ret_bool HF.out, hb⟩
theorem contains_val (A : Option Addr) (c N : Nat) (l : List Int) (v : Int) (w : World) (hN : N = l.length) (hl : N ≤ 9223372036854775807) (hA : Sl encInt 1 w w.heap.size A l) (b : Bool) (hb : b = l.any fun x => v == x) :
    Calls Try.prog 17 #[.slice A N c, .int .i64 v] w fun e w' => e = .returned (.bool b) ∧ Hid (Below w.heap.size w w') := by
  subst hN
  refine (contains_any A c l v w hl hA).mono ?_
  rintro e w' ⟨rfl, h⟩
  exact ⟨by rw [hb], Lib.hid h⟩
set_option maxRecDepth 20000 in
set_option maxHeartbeats 2000000 in
theorem clo97 (d : LnD) (x : LA) (g : Nat) (z : Int) (W : World) (hB : LBox d x g W) (hl : d.zones.length ≤ 1000000000) :
    Calls Try.prog 97 #[.int .i64 z, .pointer (some ⟨g, 0, none⟩)] W fun e w' => e = .returned (.bool (!inB z 0 ((d.zones.length : Int) - 1))) ∧ Hid (Below W.heap.size W w') := by
  obtain ⟨hA, r0, r1, r2, r3⟩ := hB.2 W (Below.refl _ _)
  obtain ⟨b, hb⟩ : ∃ b, b = inB z 0 ((d.zones.length : Int) - 1) := ⟨_, rfl⟩
  have H1 := Lib.hid (within_val z 0 ((d.zones.length : Int) - 1) b hb W)
  have q0 : IntKind.i64.wrap ((d.zones.length : Int) - 1) = (d.zones.length : Int) - 1 := by rw [IntKind.wrap_i64]; omega
  rw [← hb]
  clear hA hB hb
  go_enter Try.func97, Try.ntmps97
  go_wp2_with (go_at_call 54; with_reducible refine H1.out.mono ?_; rintro e w5 ⟨rfl, rfl⟩)
  go_ret
  exact ⟨rfl, Lib.hid (Below.refl _ _)⟩
end Go.Proofs.Ytfejedmpplbmjaa
