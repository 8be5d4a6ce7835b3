/- The line of the mailroom: its memory words, searches by closures, feeder and feeds; conditions: as each says. Printed by a program. -/
import Derived.Test.YtfejedmpplbmjaaM4
set_option linter.unusedSimpArgs false
set_option linter.unusedVariables false
namespace Go.Ml
open Go.RowKit Go.Fh
structure LnD where
  hops : List (Int × Int)
  rep : List Int
  batch : Int
  zones : List (List Int)
structure LA where
  a : Option Addr
  ca : Nat
  b : Option Addr
  cb : Nat
  z : Option Addr
  cz : Nat
  rows : List (Option Addr × Nat × List Int)
/-- a slice of numbers as a cell -/
def encR (r : Option Addr × Nat × List Int) : List Go.Value := [.slice r.1 r.2.2.length r.2.1]
def lineV (d : LnD) (x : LA) : Go.Value := .agg #[.slice x.a d.hops.length x.ca, .slice x.b d.rep.length x.cb, .int .i64 d.batch, .slice x.z d.zones.length x.cz]
/-- where a line's lists lie -/
structure LnAt (w : World) (B : Nat) (d : LnD) (x : LA) : Prop where
  hH : Sl enc2 2 w B x.a d.hops
  hR : Sl encInt 1 w B x.b d.rep
  hZ : Sl encR 1 w B x.z x.rows
  hE : x.rows.map (fun r => r.2.2) = d.zones
  hI : ∀ r, r ∈ x.rows → Sl encInt 1 w B r.1 r.2.2
theorem LnAt.below {w W : World} {B : Nat} {d : LnD} {x : LA} (h : LnAt w B d x) (hb : Below B w W) : LnAt W B d x := ⟨h.hH.below hb, h.hR.below hb, h.hZ.below hb, h.hE, fun r hr => (h.hI r hr).below hb⟩
theorem LnAt.mono {w : World} {B B' : Nat} {d : LnD} {x : LA} (h : LnAt w B d x) (hb : B ≤ B') : LnAt w B' d x := ⟨h.hH.mono hb, h.hR.mono hb, h.hZ.mono hb, h.hE, fun r hr => (h.hI r hr).mono hb⟩
theorem LnAt.len {w : World} {B : Nat} {d : LnD} {x : LA} (h : LnAt w B d x) : x.rows.length = d.zones.length := by rw [← h.hE]; simp
theorem LnAt.row {w : World} {B : Nat} {d : LnD} {x : LA} (h : LnAt w B d x) {z : Nat} (hz : z < d.zones.length) : ∃ b off A c, x.z = some ⟨b, off, none⟩ ∧ b < B ∧ w.cell? ⟨b, off + z, none⟩ = some (.slice A d.zones[z].length c) ∧ Sl encInt 1 w B A d.zones[z] := by
  have hl := h.len
  have hz2 : z < x.rows.length := by omega
  obtain ⟨b, off, h1, h2, h3⟩ := h.hZ.at_ hz2
  have he : x.rows[z].2.2 = d.zones[z] := by
    have : (x.rows.map (fun r => r.2.2))[z]? = d.zones[z]? := by rw [h.hE]
    rw [List.getElem?_map, List.getElem?_eq_getElem hz2, List.getElem?_eq_getElem hz] at this
    simpa using this
  have h4 := h.hI _ (List.getElem_mem hz2)
  rw [he] at h4
  refine ⟨b, off, x.rows[z].1, x.rows[z].2.1, h1, h2, ?_, h4⟩
  have := h3 0 (.slice x.rows[z].1 x.rows[z].2.2.length x.rows[z].2.1) rfl
  rw [he] at this
  simpa using this
/-- the hopper of a part -/
def fdS (h : List (Int × Int)) (p : Int) : Int := findI (fun x => decide (x.1 = p)) h
theorem fdS_bd (h : List (Int × Int)) (p : Int) : -1 ≤ fdS h p ∧ fdS h p < (h.length : Int) := by
  unfold fdS
  induction h with
  | nil => simp [findI]
  | cons x l ih =>
    simp only [findI, List.length_cons]
    split
    · omega
    · split <;> omega
end Go.Ml
namespace Go.Proofs.Ytfejedmpplbmjaa
open Go.RowKit Go.Fh Go.Ml
theorem own_at2 {X : World} {e : TypeId} {s n : Nat} {v : Value} {xs : List Value} {B : Nat} (h : X.ownsRow B e s v n xs) {q : Nat} (hq : v.ownBlock = some q) : B ≤ q := (own_at h hq).2
theorem own_low {X : World} {e : TypeId} {s n : Nat} {v : Value} {xs : List Value} {B B' : Nat} (h : X.ownsRow B e s v n xs) (hb : B' ≤ B) : X.ownsRow B' e s v n xs := by
  refine ⟨h.1, ?_⟩
  rcases h.2 with h | ⟨g, cap, cur, h1, h2, h3⟩
  · exact .inl h
  · exact .inr ⟨g, cap, cur, h1, Nat.le_trans hb h2, h3⟩
theorem ln_box (ty : TypeId) (d : LnD) (x : LA) (w : World) (h : LnAt w w.heap.size d x) : ∃ (w1 : World) (g : Nat), Hid (w1 = w.alloc (.cells #[.slice x.a d.hops.length x.ca, .slice x.b d.rep.length x.cb, .int .i64 d.batch, .slice x.z d.zones.length x.cz] ty)) ∧ Hid (g = w.heap.size) ∧ Hid (Below w.heap.size w w1) ∧
    Hid (∀ W, Below w1.heap.size w1 W → LnAt W W.heap.size d x ∧ W.cell? ⟨g, 0, none⟩ = some (.slice x.a d.hops.length x.ca) ∧ W.cell? ⟨g, 1, none⟩ = some (.slice x.b d.rep.length x.cb) ∧ W.cell? ⟨g, 2, none⟩ = some (.int .i64 d.batch) ∧ W.cell? ⟨g, 3, none⟩ = some (.slice x.z d.zones.length x.cz)) := by
  obtain ⟨w1, hw1⟩ : ∃ W, W = w.alloc (.cells #[.slice x.a d.hops.length x.ca, .slice x.b d.rep.length x.cb, .int .i64 d.batch, .slice x.z d.zones.length x.cz] ty) := ⟨_, rfl⟩
  have hb1 : Below w.heap.size w w1 := by rw [hw1]; exact balR (Below.refl _ _) _
  have k1 : Blk w1 w.heap.size ty #[.slice x.a d.hops.length x.ca, .slice x.b d.rep.length x.cb, .int .i64 d.batch, .slice x.z d.zones.length x.cz] := by rw [hw1]; exact Blk.new _ _ _
  refine ⟨w1, _, Lib.hid hw1, Lib.hid rfl, Lib.hid hb1, Lib.hid fun W hb => ?_⟩
  have k := k1.below hb k1.lt
  have a0 := k.cell 0
  have a1 := k.cell 1
  have a2 := k.cell 2
  have a3 := k.cell 3
  simp at a0 a1 a2 a3
  exact ⟨(h.below (hb1.trans (hb.mono hb1.size))).mono (Nat.le_trans hb1.size hb.size), a0, a1, a2, a3⟩

set_option maxRecDepth 20000 in
set_option maxHeartbeats 2000000 in
theorem idx44_130 (A : Option Addr) (c N : Nat) (g0 : Nat) (p : Int × Int → Bool) (l : List (Int × Int)) (w : World) (hN : N = l.length) (hl : N ≤ 9223372036854775807) (hA : Sl enc2 2 w w.heap.size A l) (hC : ∀ x, x ∈ l → ∀ W, Below w.heap.size w W → Calls Try.prog 130 #[.agg #[.int .i64 x.1, .int .i64 x.2], .pointer (some ⟨g0, 0, none⟩)] W fun e w' => e = .returned (.bool (p x)) ∧ Hid (Below W.heap.size W w')) :
    Calls Try.prog 44 #[.slice A N c, .func (.func 130) #[] #[.pointer (some ⟨g0, 0, none⟩)]] w fun e w' => e = .returned (.int .i64 (findI p l)) ∧ Hid (Below w.heap.size w w') := by
  subst hN
  have HA := Lib.hid hA
  have HC := Lib.hid hC
  clear hA hC
  go_enter Try.func44, Try.ntmps44
  go_wp2
  go_loopw [8] (fun i wr => ∃ k : Nat, k ≤ l.length ∧ i = .int .i64 k ∧ Hid (∀ x ∈ l.take k, p x = false) ∧ Hid (Below w.heap.size w wr)) (fun i _ => l.length - (intOf i).toNat)
  case atStart => exact ⟨0, Nat.zero_le _, rfl, by simp [Hid], Lib.hid (Below.refl _ _)⟩
  case round =>
    obtain ⟨k, hk, rfl, HN, HB⟩ := hrel
    by_cases hlt : k < l.length
    · have hB := HB.out
      obtain ⟨b, off, rfl, hb, c0, c1⟩ := (HA.out.below hB).at2 hlt
      have H1 := Lib.hid (HC.out l[k] (List.getElem_mem hlt) wr HB.out)
      clear hB
      cases hw : p l[k]
      · have HW := Lib.hid hw
        rw [hw] at H1
        go_wp2_with (go_at_call 130; with_reducible refine H1.out.mono ?_; rintro e w5 ⟨rfl, hb5⟩; have HB5 := Lib.hid (bstep HB.out hb5.out); clear hb5)
        go_roundw
        case rel =>
          refine ⟨k + 1, by omega, by go_num, Lib.hid ?_, HB5⟩
          intro x hx
          rw [List.take_succ_eq_append_getElem hlt, List.mem_append] at hx
          rcases hx with hx | hx
          · exact HN.out x hx
          · simp at hx; subst hx; exact HW.out
        case measure => simp [intOf]; omega
      · have HF := Lib.hid (findI_hit (p := p) hlt HN.out hw)
        rw [hw] at H1
        go_wp2_with (go_at_call 130; with_reducible refine H1.out.mono ?_; rintro e w5 ⟨rfl, hb5⟩; have HB5 := Lib.hid (bstep HB.out hb5.out); clear hb5)
        go_ret
        exact ⟨ret_int HF.out.symm, HB5⟩
    · go_wp2
      go_ret
      exact ⟨ret_int (findI_miss (fun x hx => HN.out x (by rw [List.take_of_length_le (by omega)]; exact hx))).symm, HB⟩

set_option maxRecDepth 20000 in
set_option maxHeartbeats 2000000 in
theorem idx44_101 (A : Option Addr) (c N : Nat) (p : Int × Int → Bool) (l : List (Int × Int)) (w : World) (hN : N = l.length) (hl : N ≤ 9223372036854775807) (hA : Sl enc2 2 w w.heap.size A l) (hC : ∀ x, x ∈ l → ∀ W, Below w.heap.size w W → Calls Try.prog 101 #[.agg #[.int .i64 x.1, .int .i64 x.2]] W fun e w' => e = .returned (.bool (p x)) ∧ Hid (Below W.heap.size W w')) :
    Calls Try.prog 44 #[.slice A N c, .func (.func 101) #[] #[]] w fun e w' => e = .returned (.int .i64 (findI p l)) ∧ Hid (Below w.heap.size w w') := by
  subst hN
  have HA := Lib.hid hA
  have HC := Lib.hid hC
  clear hA hC
  go_enter Try.func44, Try.ntmps44
  go_wp2
  go_loopw [8] (fun i wr => ∃ k : Nat, k ≤ l.length ∧ i = .int .i64 k ∧ Hid (∀ x ∈ l.take k, p x = false) ∧ Hid (Below w.heap.size w wr)) (fun i _ => l.length - (intOf i).toNat)
  case atStart => exact ⟨0, Nat.zero_le _, rfl, by simp [Hid], Lib.hid (Below.refl _ _)⟩
  case round =>
    obtain ⟨k, hk, rfl, HN, HB⟩ := hrel
    by_cases hlt : k < l.length
    · have hB := HB.out
      obtain ⟨b, off, rfl, hb, c0, c1⟩ := (HA.out.below hB).at2 hlt
      have H1 := Lib.hid (HC.out l[k] (List.getElem_mem hlt) wr HB.out)
      clear hB
      cases hw : p l[k]
      · have HW := Lib.hid hw
        rw [hw] at H1
        go_wp2_with (go_at_call 101; with_reducible refine H1.out.mono ?_; rintro e w5 ⟨rfl, hb5⟩; have HB5 := Lib.hid (bstep HB.out hb5.out); clear hb5)
        go_roundw
        case rel =>
          refine ⟨k + 1, by omega, by go_num, Lib.hid ?_, HB5⟩
          intro x hx
          rw [List.take_succ_eq_append_getElem hlt, List.mem_append] at hx
          rcases hx with hx | hx
          · exact HN.out x hx
          · simp at hx; subst hx; exact HW.out
        case measure => simp [intOf]; omega
      · have HF := Lib.hid (findI_hit (p := p) hlt HN.out hw)
        rw [hw] at H1
        go_wp2_with (go_at_call 101; with_reducible refine H1.out.mono ?_; rintro e w5 ⟨rfl, hb5⟩; have HB5 := Lib.hid (bstep HB.out hb5.out); clear hb5)
        go_ret
        exact ⟨ret_int HF.out.symm, HB5⟩
    · go_wp2
      go_ret
      exact ⟨ret_int (findI_miss (fun x hx => HN.out x (by rw [List.take_of_length_le (by omega)]; exact hx))).symm, HB⟩
set_option maxHeartbeats 2000000 in
theorem con100_101 (A : Option Addr) (c N : Nat) (p : Int × Int → Bool) (l : List (Int × Int)) (w : World) (hN : N = l.length) (hl : N ≤ 9223372036854775807) (hA : Sl enc2 2 w w.heap.size A l) (b : Bool) (hb : b = l.any p) (hC : ∀ x, x ∈ l → ∀ W, Below w.heap.size w W → Calls Try.prog 101 #[.agg #[.int .i64 x.1, .int .i64 x.2]] W fun e w' => e = .returned (.bool (p x)) ∧ Hid (Below W.heap.size W w')) :
    Calls Try.prog 100 #[.slice A N c, .func (.func 101) #[] #[]] w fun e w' => e = .returned (.bool b) ∧ Hid (Below w.heap.size w w') := by
  have hf := findI_any p l
  rw [← hb] at hf
  have HF := Lib.hid hf
  have HI := Lib.hid (idx44_101 A c N p l w hN hl hA hC)
  clear hf hb hC hA hN hl
  go_enter Try.func100, Try.ntmps100
  go_wp2_with (go_at_call 44; with_reducible refine HI.out.mono ?_; rintro e w' ⟨rfl, hb⟩)
  go_ret
  exact ⟨ret_bool HF.out, hb⟩

set_option maxRecDepth 20000 in
set_option maxHeartbeats 2000000 in
theorem idx56_103 (A : Option Addr) (c N : Nat) (g0 : Nat) (p : Int → Bool) (l : List (Int)) (w : World) (hN : N = l.length) (hl : N ≤ 9223372036854775807) (hA : Sl encInt 1 w w.heap.size A l) (hC : ∀ x, x ∈ l → ∀ W, Below w.heap.size w W → Calls Try.prog 103 #[.int .i64 x, .pointer (some ⟨g0, 0, none⟩)] W fun e w' => e = .returned (.bool (p x)) ∧ Hid (Below W.heap.size W w')) :
    Calls Try.prog 56 #[.slice A N c, .func (.func 103) #[] #[.pointer (some ⟨g0, 0, none⟩)]] w fun e w' => e = .returned (.int .i64 (findI p l)) ∧ Hid (Below w.heap.size w w') := by
  subst hN
  have HA := Lib.hid hA
  have HC := Lib.hid hC
  clear hA hC
  go_enter Try.func56, Try.ntmps56
  go_wp2
  go_loopw [8] (fun i wr => ∃ k : Nat, k ≤ l.length ∧ i = .int .i64 k ∧ Hid (∀ x ∈ l.take k, p x = false) ∧ Hid (Below w.heap.size w wr)) (fun i _ => l.length - (intOf i).toNat)
  case atStart => exact ⟨0, Nat.zero_le _, rfl, by simp [Hid], Lib.hid (Below.refl _ _)⟩
  case round =>
    obtain ⟨k, hk, rfl, HN, HB⟩ := hrel
    by_cases hlt : k < l.length
    · have hB := HB.out
      obtain ⟨b, off, rfl, hb, c0⟩ := (HA.out.below hB).at1 hlt
      have H1 := Lib.hid (HC.out l[k] (List.getElem_mem hlt) wr HB.out)
      clear hB
      cases hw : p l[k]
      · have HW := Lib.hid hw
        rw [hw] at H1
        go_wp2_with (go_at_call 103; with_reducible refine H1.out.mono ?_; rintro e w5 ⟨rfl, hb5⟩; have HB5 := Lib.hid (bstep HB.out hb5.out); clear hb5)
        go_roundw
        case rel =>
          refine ⟨k + 1, by omega, by go_num, Lib.hid ?_, HB5⟩
          intro x hx
          rw [List.take_succ_eq_append_getElem hlt, List.mem_append] at hx
          rcases hx with hx | hx
          · exact HN.out x hx
          · simp at hx; subst hx; exact HW.out
        case measure => simp [intOf]; omega
      · have HF := Lib.hid (findI_hit (p := p) hlt HN.out hw)
        rw [hw] at H1
        go_wp2_with (go_at_call 103; with_reducible refine H1.out.mono ?_; rintro e w5 ⟨rfl, hb5⟩; have HB5 := Lib.hid (bstep HB.out hb5.out); clear hb5)
        go_ret
        exact ⟨ret_int HF.out.symm, HB5⟩
    · go_wp2
      go_ret
      exact ⟨ret_int (findI_miss (fun x hx => HN.out x (by rw [List.take_of_length_le (by omega)]; exact hx))).symm, HB⟩
set_option maxHeartbeats 2000000 in
theorem con20_103 (A : Option Addr) (c N : Nat) (g0 : Nat) (p : Int → Bool) (l : List (Int)) (w : World) (hN : N = l.length) (hl : N ≤ 9223372036854775807) (hA : Sl encInt 1 w w.heap.size A l) (b : Bool) (hb : b = l.any p) (hC : ∀ x, x ∈ l → ∀ W, Below w.heap.size w W → Calls Try.prog 103 #[.int .i64 x, .pointer (some ⟨g0, 0, none⟩)] W fun e w' => e = .returned (.bool (p x)) ∧ Hid (Below W.heap.size W w')) :
    Calls Try.prog 20 #[.slice A N c, .func (.func 103) #[] #[.pointer (some ⟨g0, 0, none⟩)]] w fun e w' => e = .returned (.bool b) ∧ Hid (Below w.heap.size w w') := by
  have hf := findI_any p l
  rw [← hb] at hf
  have HF := Lib.hid hf
  have HI := Lib.hid (idx56_103 A c N g0 p l w hN hl hA hC)
  clear hf hb hC hA hN hl
  go_enter Try.func20, Try.ntmps20
  go_wp2_with (go_at_call 56; with_reducible refine HI.out.mono ?_; rintro e w' ⟨rfl, hb⟩)
  go_ret
  exact ⟨ret_bool HF.out, hb⟩

set_option maxRecDepth 20000 in
set_option maxHeartbeats 2000000 in
theorem idx56_97 (A : Option Addr) (c N : Nat) (g0 : Nat) (p : Int → Bool) (l : List (Int)) (w : World) (hN : N = l.length) (hl : N ≤ 9223372036854775807) (hA : Sl encInt 1 w w.heap.size A l) (hC : ∀ x, x ∈ l → ∀ W, Below w.heap.size w W → Calls Try.prog 97 #[.int .i64 x, .pointer (some ⟨g0, 0, none⟩)] W fun e w' => e = .returned (.bool (p x)) ∧ Hid (Below W.heap.size W w')) :
    Calls Try.prog 56 #[.slice A N c, .func (.func 97) #[] #[.pointer (some ⟨g0, 0, none⟩)]] w fun e w' => e = .returned (.int .i64 (findI p l)) ∧ Hid (Below w.heap.size w w') := by
  subst hN
  have HA := Lib.hid hA
  have HC := Lib.hid hC
  clear hA hC
  go_enter Try.func56, Try.ntmps56
  go_wp2
  go_loopw [8] (fun i wr => ∃ k : Nat, k ≤ l.length ∧ i = .int .i64 k ∧ Hid (∀ x ∈ l.take k, p x = false) ∧ Hid (Below w.heap.size w wr)) (fun i _ => l.length - (intOf i).toNat)
  case atStart => exact ⟨0, Nat.zero_le _, rfl, by simp [Hid], Lib.hid (Below.refl _ _)⟩
  case round =>
    obtain ⟨k, hk, rfl, HN, HB⟩ := hrel
    by_cases hlt : k < l.length
    · have hB := HB.out
      obtain ⟨b, off, rfl, hb, c0⟩ := (HA.out.below hB).at1 hlt
      have H1 := Lib.hid (HC.out l[k] (List.getElem_mem hlt) wr HB.out)
      clear hB
      cases hw : p l[k]
      · have HW := Lib.hid hw
        rw [hw] at H1
        go_wp2_with (go_at_call 97; with_reducible refine H1.out.mono ?_; rintro e w5 ⟨rfl, hb5⟩; have HB5 := Lib.hid (bstep HB.out hb5.out); clear hb5)
        go_roundw
        case rel =>
          refine ⟨k + 1, by omega, by go_num, Lib.hid ?_, HB5⟩
          intro x hx
          rw [List.take_succ_eq_append_getElem hlt, List.mem_append] at hx
          rcases hx with hx | hx
          · exact HN.out x hx
          · simp at hx; subst hx; exact HW.out
        case measure => simp [intOf]; omega
      · have HF := Lib.hid (findI_hit (p := p) hlt HN.out hw)
        rw [hw] at H1
        go_wp2_with (go_at_call 97; with_reducible refine H1.out.mono ?_; rintro e w5 ⟨rfl, hb5⟩; have HB5 := Lib.hid (bstep HB.out hb5.out); clear hb5)
        go_ret
        exact ⟨ret_int HF.out.symm, HB5⟩
    · go_wp2
      go_ret
      exact ⟨ret_int (findI_miss (fun x hx => HN.out x (by rw [List.take_of_length_le (by omega)]; exact hx))).symm, HB⟩
set_option maxHeartbeats 2000000 in
theorem con20_97 (A : Option Addr) (c N : Nat) (g0 : Nat) (p : Int → Bool) (l : List (Int)) (w : World) (hN : N = l.length) (hl : N ≤ 9223372036854775807) (hA : Sl encInt 1 w w.heap.size A l) (b : Bool) (hb : b = l.any p) (hC : ∀ x, x ∈ l → ∀ W, Below w.heap.size w W → Calls Try.prog 97 #[.int .i64 x, .pointer (some ⟨g0, 0, none⟩)] W fun e w' => e = .returned (.bool (p x)) ∧ Hid (Below W.heap.size W w')) :
    Calls Try.prog 20 #[.slice A N c, .func (.func 97) #[] #[.pointer (some ⟨g0, 0, none⟩)]] w fun e w' => e = .returned (.bool b) ∧ Hid (Below w.heap.size w w') := by
  have hf := findI_any p l
  rw [← hb] at hf
  have HF := Lib.hid hf
  have HI := Lib.hid (idx56_97 A c N g0 p l w hN hl hA hC)
  clear hf hb hC hA hN hl
  go_enter Try.func20, Try.ntmps20
  go_wp2_with (go_at_call 56; with_reducible refine HI.out.mono ?_; rintro e w' ⟨rfl, hb⟩)
  go_ret
  exact ⟨ret_bool HF.out, hb⟩

set_option maxRecDepth 20000 in
set_option maxHeartbeats 2000000 in
theorem idx56_88 (A : Option Addr) (c N : Nat) (g0 : Nat) (g1 : Nat) (p : Int → Bool) (l : List (Int)) (w : World) (hN : N = l.length) (hl : N ≤ 9223372036854775807) (hA : Sl encInt 1 w w.heap.size A l) (hC : ∀ x, x ∈ l → ∀ W, Below w.heap.size w W → Calls Try.prog 88 #[.int .i64 x, .pointer (some ⟨g0, 0, none⟩), .pointer (some ⟨g1, 0, none⟩)] W fun e w' => e = .returned (.bool (p x)) ∧ Hid (Below W.heap.size W w')) :
    Calls Try.prog 56 #[.slice A N c, .func (.func 88) #[] #[.pointer (some ⟨g0, 0, none⟩), .pointer (some ⟨g1, 0, none⟩)]] w fun e w' => e = .returned (.int .i64 (findI p l)) ∧ Hid (Below w.heap.size w w') := by
  subst hN
  have HA := Lib.hid hA
  have HC := Lib.hid hC
  clear hA hC
  go_enter Try.func56, Try.ntmps56
  go_wp2
  go_loopw [8] (fun i wr => ∃ k : Nat, k ≤ l.length ∧ i = .int .i64 k ∧ Hid (∀ x ∈ l.take k, p x = false) ∧ Hid (Below w.heap.size w wr)) (fun i _ => l.length - (intOf i).toNat)
  case atStart => exact ⟨0, Nat.zero_le _, rfl, by simp [Hid], Lib.hid (Below.refl _ _)⟩
  case round =>
    obtain ⟨k, hk, rfl, HN, HB⟩ := hrel
    by_cases hlt : k < l.length
    · have hB := HB.out
      obtain ⟨b, off, rfl, hb, c0⟩ := (HA.out.below hB).at1 hlt
      have H1 := Lib.hid (HC.out l[k] (List.getElem_mem hlt) wr HB.out)
      clear hB
      cases hw : p l[k]
      · have HW := Lib.hid hw
        rw [hw] at H1
        go_wp2_with (go_at_call 88; with_reducible refine H1.out.mono ?_; rintro e w5 ⟨rfl, hb5⟩; have HB5 := Lib.hid (bstep HB.out hb5.out); clear hb5)
        go_roundw
        case rel =>
          refine ⟨k + 1, by omega, by go_num, Lib.hid ?_, HB5⟩
          intro x hx
          rw [List.take_succ_eq_append_getElem hlt, List.mem_append] at hx
          rcases hx with hx | hx
          · exact HN.out x hx
          · simp at hx; subst hx; exact HW.out
        case measure => simp [intOf]; omega
      · have HF := Lib.hid (findI_hit (p := p) hlt HN.out hw)
        rw [hw] at H1
        go_wp2_with (go_at_call 88; with_reducible refine H1.out.mono ?_; rintro e w5 ⟨rfl, hb5⟩; have HB5 := Lib.hid (bstep HB.out hb5.out); clear hb5)
        go_ret
        exact ⟨ret_int HF.out.symm, HB5⟩
    · go_wp2
      go_ret
      exact ⟨ret_int (findI_miss (fun x hx => HN.out x (by rw [List.take_of_length_le (by omega)]; exact hx))).symm, HB⟩
set_option maxHeartbeats 2000000 in
theorem con20_88 (A : Option Addr) (c N : Nat) (g0 : Nat) (g1 : Nat) (p : Int → Bool) (l : List (Int)) (w : World) (hN : N = l.length) (hl : N ≤ 9223372036854775807) (hA : Sl encInt 1 w w.heap.size A l) (b : Bool) (hb : b = l.any p) (hC : ∀ x, x ∈ l → ∀ W, Below w.heap.size w W → Calls Try.prog 88 #[.int .i64 x, .pointer (some ⟨g0, 0, none⟩), .pointer (some ⟨g1, 0, none⟩)] W fun e w' => e = .returned (.bool (p x)) ∧ Hid (Below W.heap.size W w')) :
    Calls Try.prog 20 #[.slice A N c, .func (.func 88) #[] #[.pointer (some ⟨g0, 0, none⟩), .pointer (some ⟨g1, 0, none⟩)]] w fun e w' => e = .returned (.bool b) ∧ Hid (Below w.heap.size w w') := by
  have hf := findI_any p l
  rw [← hb] at hf
  have HF := Lib.hid hf
  have HI := Lib.hid (idx56_88 A c N g0 g1 p l w hN hl hA hC)
  clear hf hb hC hA hN hl
  go_enter Try.func20, Try.ntmps20
  go_wp2_with (go_at_call 56; with_reducible refine HI.out.mono ?_; rintro e w' ⟨rfl, hb⟩)
  go_ret
  exact ⟨ret_bool HF.out, hb⟩

set_option maxRecDepth 20000 in
set_option maxHeartbeats 2000000 in
theorem idx105_102 (A : Option Addr) (c N : Nat) (g0 : Nat) (p : Option Addr × Nat × List Int → Bool) (l : List (Option Addr × Nat × List Int)) (w : World) (hN : N = l.length) (hl : N ≤ 9223372036854775807) (hA : Sl encR 1 w w.heap.size A l) (hC : ∀ x, x ∈ l → ∀ W, Below w.heap.size w W → Calls Try.prog 102 #[.slice x.1 x.2.2.length x.2.1, .pointer (some ⟨g0, 0, none⟩)] W fun e w' => e = .returned (.bool (p x)) ∧ Hid (Below W.heap.size W w')) :
    Calls Try.prog 105 #[.slice A N c, .func (.func 102) #[] #[.pointer (some ⟨g0, 0, none⟩)]] w fun e w' => e = .returned (.int .i64 (findI p l)) ∧ Hid (Below w.heap.size w w') := by
  subst hN
  have HA := Lib.hid hA
  have HC := Lib.hid hC
  clear hA hC
  go_enter Try.func105, Try.ntmps105
  go_wp2
  go_loopw [8] (fun i wr => ∃ k : Nat, k ≤ l.length ∧ i = .int .i64 k ∧ Hid (∀ x ∈ l.take k, p x = false) ∧ Hid (Below w.heap.size w wr)) (fun i _ => l.length - (intOf i).toNat)
  case atStart => exact ⟨0, Nat.zero_le _, rfl, by simp [Hid], Lib.hid (Below.refl _ _)⟩
  case round =>
    obtain ⟨k, hk, rfl, HN, HB⟩ := hrel
    by_cases hlt : k < l.length
    · have hB := HB.out
      obtain ⟨b, off, rfl, hb, hc⟩ := (HA.out.below hB).at_ hlt
      have c0 := hc 0 _ rfl
      simp only [Nat.mul_one, Nat.add_zero] at c0
      clear hc
      have H1 := Lib.hid (HC.out l[k] (List.getElem_mem hlt) wr HB.out)
      clear hB
      cases hw : p l[k]
      · have HW := Lib.hid hw
        rw [hw] at H1
        go_wp2_with (go_at_call 102; with_reducible refine H1.out.mono ?_; rintro e w5 ⟨rfl, hb5⟩; have HB5 := Lib.hid (bstep HB.out hb5.out); clear hb5)
        go_roundw
        case rel =>
          refine ⟨k + 1, by omega, by go_num, Lib.hid ?_, HB5⟩
          intro x hx
          rw [List.take_succ_eq_append_getElem hlt, List.mem_append] at hx
          rcases hx with hx | hx
          · exact HN.out x hx
          · simp at hx; subst hx; exact HW.out
        case measure => simp [intOf]; omega
      · have HF := Lib.hid (findI_hit (p := p) hlt HN.out hw)
        rw [hw] at H1
        go_wp2_with (go_at_call 102; with_reducible refine H1.out.mono ?_; rintro e w5 ⟨rfl, hb5⟩; have HB5 := Lib.hid (bstep HB.out hb5.out); clear hb5)
        go_ret
        exact ⟨ret_int HF.out.symm, HB5⟩
    · go_wp2
      go_ret
      exact ⟨ret_int (findI_miss (fun x hx => HN.out x (by rw [List.take_of_length_le (by omega)]; exact hx))).symm, HB⟩
set_option maxHeartbeats 2000000 in
theorem con57_102 (A : Option Addr) (c N : Nat) (g0 : Nat) (p : Option Addr × Nat × List Int → Bool) (l : List (Option Addr × Nat × List Int)) (w : World) (hN : N = l.length) (hl : N ≤ 9223372036854775807) (hA : Sl encR 1 w w.heap.size A l) (b : Bool) (hb : b = l.any p) (hC : ∀ x, x ∈ l → ∀ W, Below w.heap.size w W → Calls Try.prog 102 #[.slice x.1 x.2.2.length x.2.1, .pointer (some ⟨g0, 0, none⟩)] W fun e w' => e = .returned (.bool (p x)) ∧ Hid (Below W.heap.size W w')) :
    Calls Try.prog 57 #[.slice A N c, .func (.func 102) #[] #[.pointer (some ⟨g0, 0, none⟩)]] w fun e w' => e = .returned (.bool b) ∧ Hid (Below w.heap.size w w') := by
  have hf := findI_any p l
  rw [← hb] at hf
  have HF := Lib.hid hf
  have HI := Lib.hid (idx105_102 A c N g0 p l w hN hl hA hC)
  clear hf hb hC hA hN hl
  go_enter Try.func57, Try.ntmps57
  go_wp2_with (go_at_call 105; with_reducible refine HI.out.mono ?_; rintro e w' ⟨rfl, hb⟩)
  go_ret
  exact ⟨ret_bool HF.out, hb⟩

set_option maxRecDepth 20000 in
set_option maxHeartbeats 2000000 in
theorem clo130 (h : Int × Int) (p : Int) (g : Nat) (W : World) (hgl : g < W.heap.size) (hg : W.cell? ⟨g, 0, none⟩ = some (.int .i64 p)) :
    Calls Try.prog 130 #[.agg #[.int .i64 h.1, .int .i64 h.2], .pointer (some ⟨g, 0, none⟩)] W fun e w' => e = .returned (.bool (decide (h.1 = p))) ∧ Hid (Below W.heap.size W w') := by
  obtain ⟨a, b⟩ := h
  dsimp only
  obtain ⟨t, ht⟩ : ∃ t, t = decide (a = p) := ⟨_, rfl⟩
  have t1 : (a == p) = t := by rw [ht]; rfl
  rw [← ht]
  obtain ⟨w1, hw1⟩ : ∃ X, X = W.alloc (.cells #[.int .i64 a, .int .i64 b] 49) := ⟨_, rfl⟩
  have k1 : Blk w1 W.heap.size 49 #[.int .i64 a, .int .i64 b] := by rw [hw1]; exact Blk.new _ _ _
  have r0 := k1.cell 0
  have r1 := k1.cell 1
  simp at r0 r1
  have HB1 := Lib.hid (show Below W.heap.size W w1 from by rw [hw1]; exact balR (Below.refl _ _) _)
  have rg : w1.cell? ⟨g, 0, none⟩ = some (.int .i64 p) := ((bcell HB1.out).1 g 0 hgl).trans hg
  have HW1 := Lib.hid hw1
  clear k1 hw1 hg ht
  go_enter Try.func130, Try.ntmps130
  go_upto_region 1 with fail
  rw [← HW1.out]
  go_wp2_with fail
  go_ret
  exact ⟨rfl, HB1⟩
set_option maxRecDepth 20000 in
set_option maxHeartbeats 2000000 in
theorem feeder_any (d : LnD) (x : LA) (p : Int) (w : World) (h : LnAt w w.heap.size d x) (hl : d.hops.length ≤ 1000000000) (f : Int) (hf : f = fdS d.hops p) :
    Calls Try.prog 104 #[lineV d x, .int .i64 p] w fun e w' => e = .returned (.int .i64 f) ∧ Hid (Below w.heap.size w w') := by
  obtain ⟨w1, g1, HW1, HG1, HB1, HT1⟩ := ln_box 29 d x w h
  obtain ⟨w2, hw2⟩ : ∃ X, X = w1.alloc (.cells #[.int .i64 p] 3) := ⟨_, rfl⟩
  obtain ⟨g2, hg2⟩ : ∃ g, g = w.heap.size + 1 := ⟨_, rfl⟩
  have hsz1 : w1.heap.size = w.heap.size + 1 := by rw [HW1.out]; simp
  have hb2 : Below w1.heap.size w1 w2 := by rw [hw2]; exact balR (Below.refl _ _) _
  have k2 : Blk w2 g2 3 #[.int .i64 p] := by rw [hw2, hg2, ← hsz1]; exact Blk.new _ _ _
  obtain ⟨hL, r0, r1, r2, r3⟩ := HT1.out w2 hb2
  have HI := Lib.hid (idx44_130 x.a x.ca d.hops.length g2 (fun h => decide (h.1 = p)) d.hops w2 rfl (by omega) hL.hH (fun y hy W hW => clo130 y p g2 W (Nat.lt_of_lt_of_le k2.lt hW.size) (by have := (k2.below hW k2.lt).cell 0; simpa using this)))
  have HB2 := Lib.hid (HB1.out.trans (hb2.mono HB1.out.size))
  have HW2 := Lib.hid hw2
  have HG2 := Lib.hid hg2
  have HF := Lib.hid (show findI (fun h => decide (h.1 = p)) d.hops = f from hf.symm)
  unfold lineV
  clear h hw2 hg2 hb2 k2 hL hf hsz1
  go_enter Try.func104, Try.ntmps104
  go_upto_region 1 with fail
  rw [← HW1.out, ← HW2.out, ← HG2.out, ← HG1.out]
  go_wp2_with (go_at_call 44; with_reducible refine HI.out.mono ?_; rintro e w3 ⟨rfl, hb3⟩)
  go_ret
  exact ⟨ret_int HF.out, Lib.hid (HB2.out.trans (hb3.out.mono HB2.out.size))⟩
set_option maxRecDepth 20000 in
set_option maxHeartbeats 4000000 in
theorem feeds_any (d : LnD) (x : LA) (z : Nat) (w : World) (h : LnAt w w.heap.size d x) (hz : z < d.zones.length) (hz9 : d.zones.length ≤ 1000000000) (hl : d.hops.length ≤ 1000000000) (l L : List Int) (hll : l = d.zones[z]) (hp : l.length ≤ 1000000) (hL : L = l.map (fdS d.hops)) :
    Calls Try.prog 55 #[lineV d x, .int .i64 (z : Int)] w fun e w' => ∃ A c, e = .returned (.slice A L.length c) ∧ Hid (w'.ownsRow w.heap.size 3 1 (.slice A L.length c) L.length (L.map (Value.int .i64))) ∧ Hid (Below w.heap.size w w') := by
  obtain ⟨w1, g1, HW1, HG1, HB1, HT1⟩ := ln_box 29 d x w h
  obtain ⟨hA1, r0, r1, r2, r3⟩ := HT1.out w1 (Below.refl _ _)
  obtain ⟨b, off, A, c, hx, hbb, hc, hs⟩ := hA1.row hz
  rw [← hll] at hc hs
  have HS := Lib.hid (fun W (hW : Below w1.heap.size w1 W) => hs.below hW)
  have H104 := Lib.hid (fun (p : Int) (W : World) (hW : Below w1.heap.size w1 W) => feeder_any d x p W (HT1.out W hW).1 hl _ rfl)
  have hLl : L.length = l.length := by rw [hL]; simp
  have HL := Lib.hid hL
  have HLL := Lib.hid hLl
  have q0 : (0 : Int) ≤ (z : Int) := by omega
  have q1 : (z : Int) < (d.zones.length : Int) := by omega
  obtain ⟨iT, hi, hz0, hz1, hz2⟩ := info_parts infoInt
  have HI := Lib.hid hi
  rw [hLl]
  unfold lineV at *
  clear h hA1 hs hll hL hi hLl
  obtain ⟨xa, xca, xb, xcb, xz, xcz, xr⟩ := x
  dsimp only at *
  subst hx
  go_enter Try.func55, Try.ntmps55
  go_upto_region 1 with fail
  rw [← HW1.out, ← HG1.out]
  go_wp2_with fail
  go_loopw [5, 14] (fun u5 u14 wr => ∃ (k : Nat) (A' : Option Addr) (c' : Nat), k ≤ l.length ∧ u5 = .slice A' k c' ∧ u14 = .int .i64 (k : Int) ∧ Hid (wr.ownsRow w1.heap.size 3 1 (.slice A' k c') k ((L.take k).map (Value.int .i64))) ∧ Hid (Below w1.heap.size w1 wr)) (fun _ i _ => l.length - (intOf i).toNat)
  case atStart => exact ⟨0, none, 0, Nat.zero_le _, rfl, rfl, Lib.hid (by simpa using World.ownsRow_nil _ _ _ _), Lib.hid (Below.refl _ _)⟩
  case round =>
    obtain ⟨k, A', c', hk, rfl, rfl, HO, HB⟩ := hrel
    by_cases hlt : k < l.length
    · obtain ⟨b2, o2, rfl, hb2, c0⟩ := (HS.out wr HB.out).at1 hlt
      obtain ⟨f, hf⟩ : ∃ f, f = fdS d.hops l[k] := ⟨_, rfl⟩
      have H1 := Lib.hid (show Calls Try.prog 104 #[lineV d ⟨xa, xca, xb, xcb, some ⟨b, off, none⟩, xcz, xr⟩, .int .i64 l[k]] wr fun e w' => e = .returned (.int .i64 f) ∧ Hid (Below wr.heap.size wr w') from by rw [hf]; exact H104.out _ wr HB.out)
      unfold lineV at H1
      dsimp only at H1
      have HF := Lib.hid (show L.take (k + 1) = L.take k ++ [f] from by
        rw [List.take_succ_eq_append_getElem (by rw [HLL.out]; exact hlt), hf]
        congr 2
        simp only [HL.out, List.getElem_map])
      clear r0 r1 r2 r3 hf
      obtain ⟨-, r0, r1, r2, r3⟩ := HT1.out wr HB.out
      try dsimp only at r0 r1 r2 r3
      have hn1 : k + 1 ≤ maxLen := by simp only [maxLen]; omega
      have hn2 : (k + 1) * 8 ≤ 140737488355328 := by omega
      --@1
      go_wp2_with first
        | (go_at_call 104; with_reducible refine H1.out.mono ?_; rintro e w5 ⟨rfl, hb5⟩; have HBX := hb5; clear hb5; have HO5 := Lib.hid (own_belowV HO.out HBX.out); have hsz := HBX.out.size)
        | (at_builtin; refine wpList_append_lies _ rfl (.tmp 18) (.tmp 22) 22 rfl w1.heap.size 3 iT _ 1 8 Try.underlying22 HI.out hz0 hz1 hz2 rfl (by decide) (.slice A' k c') k ((L.take k).map (Value.int .i64)) rfl (HO5.out.alloc _) ⟨w5.heap.size, 0, none⟩ 1 1 [.int .i64 f] rfl rfl (news_of1 w5 3 #[.int .i64 f]) (by intro u hu; simp at hu; subst hu; rfl) (by decide) hn1 hn2 (by have := HB.out.size; simp; omega) (w5.heap.size + 1) (by simp) ?_; intro g9 c9 w9 hown9 hg9 hat9 hlt9; have H9 := Lib.hid hown9; have HG9 := Lib.hid hg9; clear hown9 hg9 hat9 hlt9)
      go_roundw
      case rel =>
        refine ⟨k + 1, some ⟨g9, 0, none⟩, c9, by omega, rfl, by go_num, Lib.hid ?_, Lib.hid ?_⟩
        · have := H9.out
          rw [HF.out, List.map_append]
          exact this
        · have h1 := balR (bstep HB.out HBX.out) (.cells #[.int .i64 f] 3)
          exact h1.grown HG9.out h1.size (fun q hq => own_at2 HO.out hq)
      case measure => simp [intOf]; omega
      --@end
    · obtain rfl : k = l.length := by omega
      --@2
      go_wp2_with fail
      go_ret
      refine ⟨A', c', rfl, Lib.hid ?_, Lib.hid (HB1.out.trans (HB.out.mono HB1.out.size))⟩
      have := own_low HO.out HB1.out.size
      rw [List.take_of_length_le (by rw [HLL.out]; exact Nat.le_refl _)] at this
      exact this
      --@end
end Go.Proofs.Ytfejedmpplbmjaa
