/- Contracts: the reference's sum, comparing accounts; conditions: none. -/
import Derived.Test.YtgopdfbmddkpfaaR1
import Derived.BigRegion
set_option linter.unusedSimpArgs false
set_option linter.unusedVariables false
namespace Go.Proofs.Ytgopdfbmddkpfaa
open Go.RowKit Go.Fh Go.Ag

theorem sumLines_snoc (l : List (Int × Int × Int)) (x : Int × Int × Int) : sumLines (l ++ [x]) = sumLines l + x.2.2 := by
  induction l with
  | nil => simp [sumLines]
  | cons y l ih => simp only [List.cons_append, sumLines, ih]; omega
theorem sumLines_bd {l : List (Int × Int × Int)} (h : ∀ x ∈ l, -1000000000000 ≤ x.2.2 ∧ x.2.2 ≤ 1000000000000) : -1000000000000 * l.length ≤ sumLines l ∧ sumLines l ≤ 1000000000000 * l.length := by
  induction l with
  | nil => simp [sumLines]
  | cons x l ih =>
    have := ih (fun y hy => h y (by simp [hy]))
    have := h x (by simp)
    simp only [sumLines, List.length_cons]
    omega

set_option maxHeartbeats 1000000 in
theorem rsum_any (A : Option Addr) (c : Nat) (l : List (Int × Int × Int)) (w : World) (hl : l.length ≤ 1000) (hA : Sl enc3 3 w w.heap.size A l) (hbd : ∀ x ∈ l, -1000000000000 ≤ x.2.2 ∧ x.2.2 ≤ 1000000000000) :
    Calls Try.prog 99 #[.slice A l.length c] w fun e w' => e = .returned (.agg #[.slice A l.length c, .int .i64 (sumLines l)]) ∧ Below w.heap.size w w' := by
  have HA := Lib.hid hA
  clear hA
  go_enter Try.func99, Try.ntmps99
  go_wp2
  have hk0 : Blk ((w.alloc (.cells #[.slice none 0 0, .int .i64 0] 108)).alloc (.cells #[.slice A l.length c, .int .i64 0] 108)) (w.heap.size + 1) 108 #[.slice A l.length c, .int .i64 0] := by
    have := Blk.new (w.alloc (.cells #[.slice none 0 0, .int .i64 0] 108)) 108 #[.slice A l.length c, .int .i64 0]
    rwa [World.size_alloc] at this
  have hk1 : Blk ((w.alloc (.cells #[.slice none 0 0, .int .i64 0] 108)).alloc (.cells #[.slice A l.length c, .int .i64 0] 108)) w.heap.size 108 #[.slice none 0 0, .int .i64 0] := (Blk.new w 108 _).alloc _
  go_loopw [4] (fun i wr => ∃ k : Nat, k ≤ l.length ∧ i = .int .i64 k ∧ Hid (Blk wr (w.heap.size + 1) 108 #[.slice A l.length c, .int .i64 (sumLines (l.take k))]) ∧ Hid (Blk wr w.heap.size 108 #[.slice none 0 0, .int .i64 0]) ∧ Below w.heap.size w wr) (fun i _ => l.length - (intOf i).toNat)
  case atStart => exact ⟨0, Nat.zero_le _, rfl, by simpa [Hid, sumLines] using hk0, hk1, ((Below.refl _ _).alloc (Nat.le_refl _) _).alloc (by simp) _⟩
  case round =>
    obtain ⟨k, hk, rfl, K0, K1, hB⟩ := hrel
    have k0 := K0.out.cell 0
    have k1 := K0.out.cell 1
    have f1 := K0.out.frozen 1
    simp at k0 k1
    have hsz := K0.out.lt
    by_cases hlt : k < l.length
    · have hsn := sumLines_snoc (l.take k) l[k]
      rw [← List.take_succ_eq_append_getElem hlt] at hsn
      have HS := Lib.hid hsn
      clear hsn
      obtain ⟨b, off, rfl, hb, c0, c1, c2⟩ := (HA.out.below hB).at3 hlt
      have b1 := sumLines_bd (l := l.take k) (fun x hx => hbd x (List.mem_of_mem_take hx))
      have b2 := hbd _ (List.getElem_mem hlt)
      have b3 : (l.take k).length ≤ 1000 := by simp; omega
      have g1 := IntWalk.i64_in (sumLines (l.take k) + l[k].2.2) (by omega)
      go_wp2
      go_region
      all_goals go_wp2
      all_goals
        go_roundw
        case rel =>
          refine ⟨k + 1, by omega, by go_num, ?_, K1.out.far (by simp) _, ?_⟩
          · have := (K0.out.set_ 1 (.int .i64 (sumLines (l.take k) + l[k].2.2))).drew
            unfold Hid; rw [HS.out]; simpa using this
          · exact (hB.drew).setCell (by simp) _
        case measure => simp [intOf]; omega
    · obtain rfl : k = l.length := by omega
      have m0 := K1.out.cell 0
      have m1 := K1.out.cell 1
      have m2 := K1.out.frozen 0
      have m3 := K1.out.frozen 1
      simp at m0 m1
      have hsz0 := K1.out.lt
      go_wp2
      have kf := (K1.out.set_ 0 (.slice A l.length c)).set_ 1 (.int .i64 (sumLines (l.take l.length)))
      refine bodyPost_ret (v := .agg #[.slice A l.length c, .int .i64 (sumLines l)]) ?_ rfl ⟨rfl, (hB.setCell (by simp) _).setCell (by simp) _⟩
      have z1 : World.cell? _ ⟨w.heap.size, 0, none⟩ = some (Value.slice A l.length c) := kf.cell 0
      have z2 : World.cell? _ ⟨w.heap.size, 1, none⟩ = some (Value.int .i64 (sumLines (l.take l.length))) := kf.cell 1
      simp only [List.take_length] at z1 z2 ⊢
      generalize World.setCell _ _ _ = W at z1 z2 ⊢
      simp [results, Try.results99, go_sem, z1, z2]

theorem eqLine (x y : Int × Int × Int) (w : World) : (binOp .eql 182 (.agg #[.int .i64 x.1, .int .i64 x.2.1, .int .i64 x.2.2]) (.agg #[.int .i64 y.1, .int .i64 y.2.1, .int .i64 y.2.2])).run Try.prog w = .ok (.bool (decide (x = y))) w := by
  have u3 := Try.underlying3
  have hS : Try.prog.underlying 182 = some (.struct (Try.prog.fieldsOf 182)) := by kernel_rfl
  have hp : Try.prog.stoodInHeld 182 = false := by kernel_rfl
  rw [run_eql_struct, show (10000 : Nat) = 9999 + 1 from rfl, run_equalIn_agg w 9999 182 _ _ hS hp]
  simp only [Program.fieldsOf, Try.underlying182]
  go_simp
  have hxy : x = y ↔ x.1 = y.1 ∧ x.2.1 = y.2.1 ∧ x.2.2 = y.2.2 := by constructor; (intro e; subst e; simp); (intro e; exact Prod.ext e.1 (Prod.ext e.2.1 e.2.2))
  by_cases h0 : x.1 = y.1 <;> by_cases h1 : x.2.1 = y.2.1 <;> by_cases h2 : x.2.2 = y.2.2 <;> simp [hxy, h0, h1, h2]

theorem sameLine_any (x y : Int × Int × Int) (w : World) :
    Calls Try.prog 101 #[.agg #[.int .i64 x.1, .int .i64 x.2.1, .int .i64 x.2.2], .agg #[.int .i64 y.1, .int .i64 y.2.1, .int .i64 y.2.2]] w fun e w' => e = .returned (.bool (decide (x = y))) ∧ Below w.heap.size w w' := by
  have hgt : Try.prog.eqGuardType Try.prog.depth 182 = false := by kernel_rfl
  have hq := fun w => eqLine x y w
  generalize decide (x = y) = r at hq ⊢
  go_enter Try.func101, Try.ntmps101
  go_wp2
  go_ret
  exact ⟨rfl, ((Below.refl _ _).alloc (Nat.le_refl _) _).alloc (by simp) _⟩

set_option maxHeartbeats 1000000 in
theorem sameLines_any (A B : Option Addr) (c d : Nat) (l m : List (Int × Int × Int)) (w : World) (hl : l.length ≤ 9223372036854775807) (hm : m.length ≤ 9223372036854775807) (hA : Sl enc3 3 w w.heap.size A l) (hB : Sl enc3 3 w w.heap.size B m) :
    Calls Try.prog 100 #[.slice A l.length c, .slice B m.length d, .func (.func 101) #[] #[]] w fun e w' => e = .returned (.bool (decide (l = m))) ∧ Below w.heap.size w w' := by
  by_cases hlen : l.length = m.length
  · have hb0 : ((l.length : Int) != (m.length : Int)) = false := by simp [hlen]
    have HL := Lib.hid hlen
    clear hlen
    go_enter Try.func100, Try.ntmps100
    go_wp2
    go_loopw [17] (fun i wr => ∃ k : Nat, k ≤ l.length ∧ i = .int .i64 k ∧ Hid (l.take k = m.take k) ∧ Below w.heap.size w wr) (fun i _ => l.length - (intOf i).toNat)
    case atStart => exact ⟨0, Nat.zero_le _, rfl, by simp [Hid], Below.refl _ _⟩
    case round =>
      obtain ⟨k, hk, rfl, HK, hW⟩ := hrel
      by_cases hlt : k < l.length
      · have hlt2 : k < m.length := by have := HL.out; omega
        obtain ⟨b, off, rfl, hb, c0, c1, c2⟩ := (hA.below hW).at3 hlt
        obtain ⟨b2, off2, rfl, hb2, e0, e1, e2⟩ := (hB.below hW).at3 hlt2
        have hsz := hW.size
        have hbb : b < wr.heap.size := by omega
        have hbb2 : b2 < wr.heap.size := by omega
        have hc := sameLine_any l[k] m[k]
        have HC := Lib.hid hc
        clear hc
        by_cases he : l[k] = m[k]
        · have hdec : decide (l[k] = m[k]) = true := by simp [he]
          have HE := Lib.hid he
          clear he
          go_wp2_with (go_at_call 101; refine (HC.out _).mono ?_; rintro e w' ⟨rfl, hb1⟩)
          go_roundw
          case rel => exact ⟨k + 1, by omega, by go_num, by unfold Hid; rw [List.take_succ_eq_append_getElem hlt, List.take_succ_eq_append_getElem hlt2, HK.out, HE.out], ((hW.alloc hsz _).alloc (by simp; omega) _).trans (hb1.mono (by simp; omega))⟩
          case measure => simp [intOf]; omega
        · have hdec : decide (l[k] = m[k]) = false := by simp [he]
          have hlm : l ≠ m := by intro e; subst e; exact he rfl
          have HE := Lib.hid hlm
          clear he hlm
          go_wp2_with (go_at_call 101; refine (HC.out _).mono ?_; rintro e w' ⟨rfl, hb1⟩)
          go_ret
          exact ⟨ret_bool (by simp [HE.out]), ((hW.alloc hsz _).alloc (by simp; omega) _).trans (hb1.mono (by simp; omega))⟩
      · go_wp2
        go_ret
        have e1 : l.take k = l := List.take_of_length_le (by omega)
        have e2 : m.take k = m := List.take_of_length_le (by have := HL.out; omega)
        exact ⟨ret_bool (by have := HK.out; rw [e1, e2] at this; simp [this]), hW⟩
  · have hb0 : ((l.length : Int) != (m.length : Int)) = true := by simp; omega
    have hlm : l ≠ m := by intro e; subst e; exact hlen rfl
    have HE := Lib.hid hlm
    clear hlen hlm
    go_enter Try.func100, Try.ntmps100
    go_wp2
    go_ret
    exact ⟨ret_bool (by simp [HE.out]), Below.refl _ _⟩

/-- law's account, at equal accounts: true -/
theorem sameAccount_any (A B : Option Addr) (c d : Nat) (l : List (Int × Int × Int)) (s : Int) (w : World) (hl : l.length ≤ 9223372036854775807) (hA : Sl enc3 3 w w.heap.size A l) (hB : Sl enc3 3 w w.heap.size B l) :
    Calls Try.prog 53 #[.agg #[.slice A l.length c, .int .i64 s], .agg #[.slice B l.length d, .int .i64 s]] w fun e w' => e = .returned (.bool true) ∧ Below w.heap.size w w' := by
  have hbl : Below w.heap.size w ((w.alloc (.cells #[.slice A l.length c, .int .i64 s] 53)).alloc (.cells #[.slice B l.length d, .int .i64 s] 108)) := ((Below.refl _ _).alloc (Nat.le_refl _) _).alloc (by simp) _
  have hc := sameLines_any A B c d l l _ hl hl ((hA.below hbl).mono hbl.size) ((hB.below hbl).mono hbl.size)
  have hd : decide (l = l) = true := by simp
  rw [hd] at hc
  clear hd
  have HC := Lib.hid hc
  clear hc
  go_enter Try.func53, Try.ntmps53
  go_wp2_with (go_at_call 100; refine HC.out.mono ?_; rintro e w' ⟨rfl, hb1⟩)
  go_ret
  exact ⟨rfl, hbl.trans (hb1.mono hbl.size)⟩
end Go.Proofs.Ytgopdfbmddkpfaa
