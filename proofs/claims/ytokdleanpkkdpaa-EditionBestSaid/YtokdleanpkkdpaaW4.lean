/- Contract of awake: the chapter's examples hold; conditions: none. -/
import Derived.Test.YtokdleanpkkdpaaS5
import Derived.Test.YtokdleanpkkdpaaR3
import Derived.BigQuiet
import Derived.Deep.QuietTactic
import Derived.WalkSpells
import Derived.Test.YtokdleanpkkdpaaE4
set_option linter.unusedSimpArgs false
set_option linter.unusedVariables false
namespace Go.Ed
/-- the title of the chapter's examples -/
def exT (due : Int) : TitD := ⟨[4, 1, 1, 4], [1], [⟨600, 86400, [0, 0, 0, 0]⟩, ⟨300, 86400, [0, 1, 0, 0]⟩, ⟨900, 86400, [0, 0, 0, 0]⟩, ⟨60, due, [1, 1, 1, 0]⟩], [], 0, 60, 30, 10⟩
end Go.Ed
namespace Go.Proofs.Ytokdleanpkkdpaa
open Go.RowKit Go.Fh Go.Ed
theorem le4_ : 4 ≤ maxLen := by decide
theorem le1_ : 1 ≤ maxLen := by decide
set_option maxRecDepth 20000 in
set_option maxHeartbeats 4000000 in
theorem example_any (due : Int) (w : World) :
    Calls Try.prog 53 #[.int .i64 due] w fun e w' => ∃ x zs, e = .returned (.agg (titV (exT due) x)) ∧ TitAt w' w'.heap.size (exT due) x zs ∧ Below w.heap.size w w' := by
  go_enter Try.func53, Try.ntmps53
  go_wp2_with fail
  generalize hWa : World.alloc (World.alloc (World.alloc (World.alloc (World.alloc (World.alloc (World.alloc (World.alloc w _) _) _) _) _) _) _) _ = Wa
  have k0 : Blk Wa (w.heap.size) 26 #[.slice (some ⟨w.heap.size + 1, 0, none⟩) 4 4, .slice (some ⟨w.heap.size + 1 + 1, 0, none⟩) 1 1, .slice (some ⟨w.heap.size + 1 + 1 + 1 + 1 + 1 + 1 + 1, 0, none⟩) 4 4, .slice none 0 0, .int .i64 0, .int .i64 60, .int .i64 30, .int .i64 10] := by rw [← hWa]; exact (((((((blk_at (by simp) 26 _).alloc _).alloc _).alloc _).alloc _).alloc _).alloc _).alloc _
  have k1 : Blk Wa (w.heap.size + 1) 3 #[.int .i64 4, .int .i64 1, .int .i64 1, .int .i64 4] := by rw [← hWa]; exact ((((((blk_at (by simp) 3 _).alloc _).alloc _).alloc _).alloc _).alloc _).alloc _
  have k2 : Blk Wa (w.heap.size + 1 + 1) 3 #[.int .i64 1] := by rw [← hWa]; exact (((((blk_at (by simp) 3 _).alloc _).alloc _).alloc _).alloc _).alloc _
  have k3 : Blk Wa (w.heap.size + 1 + 1 + 1) 3 #[.int .i64 0, .int .i64 0, .int .i64 0, .int .i64 0] := by rw [← hWa]; exact ((((blk_at (by simp) 3 _).alloc _).alloc _).alloc _).alloc _
  have k4 : Blk Wa (w.heap.size + 1 + 1 + 1 + 1) 3 #[.int .i64 0, .int .i64 1, .int .i64 0, .int .i64 0] := by rw [← hWa]; exact (((blk_at (by simp) 3 _).alloc _).alloc _).alloc _
  have k5 : Blk Wa (w.heap.size + 1 + 1 + 1 + 1 + 1) 3 #[.int .i64 0, .int .i64 0, .int .i64 0, .int .i64 0] := by rw [← hWa]; exact ((blk_at (by simp) 3 _).alloc _).alloc _
  have k6 : Blk Wa (w.heap.size + 1 + 1 + 1 + 1 + 1 + 1) 3 #[.int .i64 1, .int .i64 1, .int .i64 1, .int .i64 0] := by rw [← hWa]; exact (blk_at (by simp) 3 _).alloc _
  have k7 : Blk Wa (w.heap.size + 1 + 1 + 1 + 1 + 1 + 1 + 1) 47 #[.int .i64 600, .int .i64 86400, .slice (some ⟨w.heap.size + 1 + 1 + 1, 0, none⟩) 4 4, .int .i64 300, .int .i64 86400, .slice (some ⟨w.heap.size + 1 + 1 + 1 + 1, 0, none⟩) 4 4, .int .i64 900, .int .i64 86400, .slice (some ⟨w.heap.size + 1 + 1 + 1 + 1 + 1, 0, none⟩) 4 4, .int .i64 60, .int .i64 due, .slice (some ⟨w.heap.size + 1 + 1 + 1 + 1 + 1 + 1, 0, none⟩) 4 4] := by rw [← hWa]; exact blk_at (by simp) 47 _
  have hb : Below w.heap.size w Wa := by
    rw [← hWa]
    exact (((((((((Below.refl _ _).alloc (by simp) _).alloc (by simp) _).alloc (by simp; omega) _).alloc (by simp; omega) _).alloc (by simp; omega) _).alloc (by simp; omega) _).alloc (by simp; omega) _).alloc (by simp; omega) _)
  have c0 := k0.cell 0
  have c1 := k0.cell 1
  have c2 := k0.cell 2
  have c3 := k0.cell 3
  have c4 := k0.cell 4
  have c5 := k0.cell 5
  have c6 := k0.cell 6
  have c7 := k0.cell 7
  simp at c0 c1 c2 c3 c4 c5 c6 c7
  clear hWa
  refine bodyPost_ret (v := .agg (titV (exT due) ⟨some ⟨w.heap.size + 1, 0, none⟩, 4, some ⟨w.heap.size + 1 + 1, 0, none⟩, 1, some ⟨w.heap.size + 1 + 1 + 1 + 1 + 1 + 1 + 1, 0, none⟩, 4, none, 0⟩)) ?_ rfl ⟨_, [(⟨600, 86400, [0, 0, 0, 0]⟩, (some ⟨w.heap.size + 1 + 1 + 1, 0, none⟩, 4)), (⟨300, 86400, [0, 1, 0, 0]⟩, (some ⟨w.heap.size + 1 + 1 + 1 + 1, 0, none⟩, 4)), (⟨900, 86400, [0, 0, 0, 0]⟩, (some ⟨w.heap.size + 1 + 1 + 1 + 1 + 1, 0, none⟩, 4)), (⟨60, due, [1, 1, 1, 0]⟩, (some ⟨w.heap.size + 1 + 1 + 1 + 1 + 1 + 1, 0, none⟩, 4))], rfl, ⟨rfl, ?_, ?_, ?_, ?_, Sl.nil⟩, hb⟩
  · simp [results, Try.results53, go_sem, c0, c1, c2, c3, c4, c5, c6, c7, titV, exT]
  · exact Sl.of_blk (fun _ => rfl) le4_ k1 rfl
  · exact Sl.of_blk (fun _ => rfl) le1_ k2 rfl
  · exact Sl.of_blk (fun _ => rfl) (by simp only [maxLen, List.length_cons, List.length_nil]; omega) k7 rfl
  · intro i hi
    rcases (show i = 0 ∨ i = 1 ∨ i = 2 ∨ i = 3 by simp at hi; omega) with rfl | rfl | rfl | rfl
    · exact Sl.of_blk (fun _ => rfl) le4_ k3 rfl
    · exact Sl.of_blk (fun _ => rfl) le4_ k4 rfl
    · exact Sl.of_blk (fun _ => rfl) le4_ k5 rfl
    · exact Sl.of_blk (fun _ => rfl) le4_ k6 rfl
end Go.Proofs.Ytokdleanpkkdpaa
namespace Go.Proofs.Ytokdleanpkkdpaa
open Go.RowKit Go.Fh Go.Ed
abbrev T4 := Int × Int × Int × Int
def encT4 (x : T4) : List Value := [.int .i64 x.1, .int .i64 x.2.1, .int .i64 x.2.2.1, .int .i64 x.2.2.2]
def tupS (s : SloD) : T4 := (s.edition, s.plates, s.beg, s.fin)
theorem flat_tup (l : List SloD) : (l.map tupS).flatMap encT4 = l.flatMap encSlo := by
  induction l with
  | nil => rfl
  | cons x l ih => rw [List.map_cons, List.flatMap_cons, List.flatMap_cons, ih]; rfl
theorem Sl.atT4 {B : Nat} {w : World} {A : Option Addr} {l : List T4} (h : Sl encT4 4 w B A l) {k : Nat} (hk : k < l.length) :
    ∃ b off, A = some ⟨b, off, none⟩ ∧ b < B ∧ w.cell? ⟨b, off + k * 4, none⟩ = some (.int .i64 l[k].1) ∧ w.cell? ⟨b, off + k * 4 + 1, none⟩ = some (.int .i64 l[k].2.1) ∧ w.cell? ⟨b, off + k * 4 + 2, none⟩ = some (.int .i64 l[k].2.2.1) ∧ w.cell? ⟨b, off + k * 4 + 3, none⟩ = some (.int .i64 l[k].2.2.2) := by
  obtain ⟨b, off, hA, hb, hc⟩ := h.at_ hk
  exact ⟨b, off, hA, hb, hc 0 _ rfl, hc 1 _ rfl, hc 2 _ rfl, hc 3 _ rfl⟩
theorem neqSlot (x y : T4) (w : World) : (binOp .neq 63 (.agg #[.int .i64 x.1, .int .i64 x.2.1, .int .i64 x.2.2.1, .int .i64 x.2.2.2]) (.agg #[.int .i64 y.1, .int .i64 y.2.1, .int .i64 y.2.2.1, .int .i64 y.2.2.2])).run Try.prog w = .ok (.bool (decide (x ≠ y))) w := by
  have u3 := Try.underlying3
  have hS : Try.prog.underlying 63 = some (.struct (Try.prog.fieldsOf 63)) := by kernel_rfl
  have hp : Try.prog.stoodInHeld 63 = false := by kernel_rfl
  rw [run_neq_struct, show (10000 : Nat) = 9999 + 1 from rfl, run_equalIn_agg w 9999 63 _ _ hS hp]
  simp only [Program.fieldsOf, Try.underlying63]
  go_simp
  have hxy : x = y ↔ x.1 = y.1 ∧ x.2.1 = y.2.1 ∧ x.2.2.1 = y.2.2.1 ∧ x.2.2.2 = y.2.2.2 := by
    constructor
    · intro e; subst e; simp
    · intro e; exact Prod.ext e.1 (Prod.ext e.2.1 (Prod.ext e.2.2.1 e.2.2.2))
  by_cases h0 : x.1 = y.1 <;> by_cases h1 : x.2.1 = y.2.1 <;> by_cases h2 : x.2.2.1 = y.2.2.1 <;> by_cases h3 : x.2.2.2 = y.2.2.2 <;> simp [hxy, h0, h1, h2, h3]

set_option maxHeartbeats 1000000 in
theorem equalSlots_any (A B : Option Addr) (c d : Nat) (l m : List T4) (w : World) (hl : l.length ≤ 9223372036854775807) (hm : m.length ≤ 9223372036854775807) (hA : Sl encT4 4 w w.heap.size A l) (hB : Sl encT4 4 w w.heap.size B m) :
    Calls Try.prog 54 #[.slice A l.length c, .slice B m.length d] w fun e w' => e = .returned (.bool (decide (l = m))) ∧ Below w.heap.size w w' := by
  have hgt : Try.prog.eqGuardType Try.prog.depth 63 = false := by kernel_rfl
  by_cases hlen : l.length = m.length
  · have hb0 : ((l.length : Int) != (m.length : Int)) = false := by simp [hlen]
    have HL := Lib.hid hlen
    clear hlen
    go_enter Try.func54, Try.ntmps54
    go_wp2
    go_loopw [13] (fun i wr => ∃ k : Nat, k ≤ l.length ∧ i = .int .i64 k ∧ Hid (l.take k = m.take k) ∧ Below w.heap.size w wr) (fun i _ => l.length - (intOf i).toNat)
    case atStart => exact ⟨0, Nat.zero_le _, rfl, by simp [Hid], Below.refl _ _⟩
    case round =>
      obtain ⟨k, hk, rfl, HK, hW⟩ := hrel
      by_cases hlt : k < l.length
      · have hlt2 : k < m.length := by have := HL.out; omega
        obtain ⟨b, off, rfl, hb, c0, c1, c2, c3⟩ := Sl.atT4 (hA.below hW) hlt
        obtain ⟨b2, off2, rfl, hb2, e0, e1, e2, e3⟩ := Sl.atT4 (hB.below hW) hlt2
        have hq := fun w => neqSlot l[k] m[k] w
        by_cases he : l[k] = m[k]
        · have hq2 : ∀ w, (binOp .neq 63 (.agg #[.int .i64 l[k].1, .int .i64 l[k].2.1, .int .i64 l[k].2.2.1, .int .i64 l[k].2.2.2]) (.agg #[.int .i64 m[k].1, .int .i64 m[k].2.1, .int .i64 m[k].2.2.1, .int .i64 m[k].2.2.2])).run Try.prog w = .ok (.bool false) w := fun w => by rw [hq]; simp [he]
          have HE := Lib.hid he
          clear he hq
          go_wp2
          go_quiet (fail)
          go_wp2
          go_roundw
          case rel => exact ⟨k + 1, by omega, by go_num, by unfold Hid; rw [List.take_succ_eq_append_getElem hlt, List.take_succ_eq_append_getElem hlt2, HK.out, HE.out], below_drewN hW _⟩
          case measure => simp [intOf]; omega
        · have hq2 : ∀ w, (binOp .neq 63 (.agg #[.int .i64 l[k].1, .int .i64 l[k].2.1, .int .i64 l[k].2.2.1, .int .i64 l[k].2.2.2]) (.agg #[.int .i64 m[k].1, .int .i64 m[k].2.1, .int .i64 m[k].2.2.1, .int .i64 m[k].2.2.2])).run Try.prog w = .ok (.bool true) w := fun w => by rw [hq]; simp [he]
          have hlm : l ≠ m := by intro e; subst e; exact he rfl
          have HE := Lib.hid hlm
          clear he hlm hq
          go_wp2
          go_quiet (fail)
          go_wp2
          go_ret
          exact ⟨ret_bool (by simp [HE.out]), below_drewN hW _⟩
      · go_wp2
        go_ret
        have e1 : l.take k = l := List.take_of_length_le (by omega)
        have e2 : m.take k = m := List.take_of_length_le (by have := HL.out; omega)
        exact ⟨ret_bool (by have := HK.out; rw [e1, e2] at this; simp [this]), hW⟩
  · have hb0 : ((l.length : Int) != (m.length : Int)) = true := by simp; omega
    have hlm : l ≠ m := by intro e; subst e; exact hlen rfl
    have HE := Lib.hid hlm
    clear hlen hlm
    go_enter Try.func54, Try.ntmps54
    go_wp2
    go_ret
    exact ⟨ret_bool (by simp [HE.out]), Below.refl _ _⟩

end Go.Proofs.Ytokdleanpkkdpaa
namespace Go.Ed
open Go.Fh Go.RowKit Go.Proofs.Ytokdleanpkkdpaa
theorem ex_chk1 : checkT (exT 86400) = 0 := by decide +kernel
theorem ex_chk2 : checkT (exT 100) = 0 := by decide +kernel
theorem ex_best1 : (bestR (exT 86400) true).map (fun y => (y.1, y.2.1)) = some ([0, 1, 2], 15) := by decide +kernel
theorem ex_best2 : (bestR (exT 100) true).map (fun y => (y.1, y.2.1)) = some ([2, 0, 1], 15) := by decide +kernel
theorem ex_ord : ordersB (edsR (exT 86400)).length ([0, 1, 2].map fun (e : Nat) => (e : Int)) = true := by decide +kernel
theorem ex_slots : (slotsD (exT 86400) (edsR (exT 86400)) [0, 1, 2]).map tupS = [(0, 9, 0, 1500), (1, 1, 1540, 1840), (2, 5, 1920, 1980)] := by decide +kernel
theorem ex_which : whichE (exT 86400) (edsR (exT 86400)) [0, 1, 2] 700 = (2, 0, 0) := by decide +kernel
theorem ex_sizes (d : Int) : Sizes (exT d) := ⟨by simp [exT], by simp [exT], by simp [exT], by simp [exT], by simp [exT]⟩
#print axioms ex_best1
end Go.Ed
namespace Go.Proofs.Ytokdleanpkkdpaa
open Go.RowKit Go.Fh Go.Ed
theorem ex_any (d : Int) (w : World) : Calls Try.prog 53 #[.int .i64 d] w fun e w' => ∃ x zs, e = .returned (.agg (titV (exT d) x)) ∧ Hid (TitAt w' w'.heap.size (exT d) x zs) ∧ Hid (Below w.heap.size w w') :=
  (example_any d w).mono (by rintro e w' ⟨x, zs, h1, h2, h3⟩; exact ⟨x, zs, h1, h2, h3⟩)
theorem ex_Best1 (x : TA) (zs : List ZonM) (w : World) (hT : TitAt w w.heap.size (exT 86400) x zs) :
    Calls Try.prog 33 #[.agg (titV (exT 86400) x)] w fun e w' => ∃ A' c', e = .returned (.tuple #[.slice A' 3 c', .int .i64 15, .int .i64 0]) ∧ Hid (∀ W, Below w'.heap.size w' W → Sl encInt 1 W W.heap.size A' [0, 1, 2]) ∧ Hid (Below w.heap.size w w') := by
  obtain ⟨⟨ob, p, f⟩, hb, he⟩ := Option.map_eq_some_iff.1 ex_best1
  injection he with h1 h2
  dsimp only at h1 h2
  subst h1 h2
  refine (best_some (exT 86400) x zs w (ex_sizes _) hT ex_chk1 _ _ _ hb).mono ?_
  rintro e w' ⟨A', c', rfl, ho, _, hb'⟩
  exact ⟨A', c', rfl, fun W hb => ((own_sl (l := [0, 1, 2]) (c := c') ho).below hb).mono hb.size, hb'⟩
theorem ex_Best2 (x : TA) (zs : List ZonM) (w : World) (hT : TitAt w w.heap.size (exT 100) x zs) :
    Calls Try.prog 33 #[.agg (titV (exT 100) x)] w fun e w' => ∃ A' c', e = .returned (.tuple #[.slice A' 3 c', .int .i64 15, .int .i64 0]) ∧ Hid (∀ W, Below w'.heap.size w' W → Sl encInt 1 W W.heap.size A' [2, 0, 1]) ∧ Hid (Below w.heap.size w w') := by
  obtain ⟨⟨ob, p, f⟩, hb, he⟩ := Option.map_eq_some_iff.1 ex_best2
  injection he with h1 h2
  dsimp only at h1 h2
  subst h1 h2
  refine (best_some (exT 100) x zs w (ex_sizes _) hT ex_chk2 _ _ _ hb).mono ?_
  rintro e w' ⟨A', c', rfl, ho, _, hb'⟩
  exact ⟨A', c', rfl, fun W hb => ((own_sl (l := [2, 0, 1]) (c := c') ho).below hb).mono hb.size, hb'⟩
theorem ex_Slots (x : TA) (zs : List ZonM) (A : Option Addr) (c : Nat) (w : World) (hT : TitAt w w.heap.size (exT 86400) x zs) (hA : Sl encInt 1 w w.heap.size A [0, 1, 2]) :
    Calls Try.prog 24 #[.agg (titV (exT 86400) x), .slice A 3 c] w fun e w' => ∃ A' c', e = .returned (.tuple #[.slice A' 3 c', .int .i64 0]) ∧ Hid (∀ W, Below w'.heap.size w' W → Sl encT4 4 W W.heap.size A' [(0, 9, 0, 1500), (1, 1, 1540, 1840), (2, 5, 1920, 1980)]) ∧ Hid (Below w.heap.size w w') := by
  refine (Slots_ok (exT 86400) x zs w (ex_sizes _) hT A c [0, 1, 2] (by decide) hA ex_chk1 ex_ord).mono ?_
  rintro e w' ⟨A', c', rfl, ho, hb'⟩
  have hl : (slotsD (exT 86400) (edsR (exT 86400)) [0, 1, 2]).length = 3 := upF_len _ _
  rw [hl] at ho
  rw [← flat_tup, ex_slots] at ho
  exact ⟨A', c', by rw [hl], fun W hb => ((Sl.of_own (enc := encT4) (l := [(0, 9, 0, 1500), (1, 1, 1540, 1840), (2, 5, 1920, 1980)]) (fun _ => rfl) ho).below hb).mono hb.size, hb'⟩
theorem ex_Which (x : TA) (zs : List ZonM) (A : Option Addr) (c : Nat) (w : World) (hT : TitAt w w.heap.size (exT 86400) x zs) (hA : Sl encInt 1 w w.heap.size A [0, 1, 2]) :
    Calls Try.prog 18 #[.agg (titV (exT 86400) x), .slice A 3 c, .int .i64 700] w fun e w' => e = .returned (.tuple #[.int .i64 2, .int .i64 0, .int .i64 0]) ∧ Hid (Below w.heap.size w w') := by
  refine (Which_ok (exT 86400) x zs w (ex_sizes _) hT A c [0, 1, 2] 700 (by decide) hA ex_chk1 ex_ord).mono ?_
  rintro e w' ⟨rfl, hb'⟩
  exact ⟨by rw [ex_which], hb'⟩
theorem sl3 (w : World) (a b c : Int) : Sl encInt 1 (w.alloc (.cells #[.int .i64 a, .int .i64 b, .int .i64 c] 3)) (w.alloc (.cells #[.int .i64 a, .int .i64 b, .int .i64 c] 3)).heap.size (some ⟨w.heap.size, 0, none⟩) [a, b, c] :=
  Sl.of_blk (fun _ => rfl) (show 3 ≤ maxLen by decide) (Blk.new w 3 _) rfl
theorem eq3_any (l : List Int) (h3 : l.length = 3) (A B : Option Addr) (c d : Nat) (w : World) (hA : Sl encInt 1 w w.heap.size A l) (hB : Sl encInt 1 w w.heap.size B l) :
    Calls Try.prog 19 #[.slice A 3 c, .slice B 3 d] w fun e w' => e = .returned (.bool true) ∧ Hid (Below w.heap.size w w') := by
  have h0 := equalInts_any A B c d l l w (by omega) (by omega) hA hB
  rw [h3] at h0
  exact h0.mono (by rintro e w' ⟨rfl, hb⟩; exact ⟨by simp, hb⟩)
theorem eqS_any (l : List T4) (h3 : l.length = 3) (A B : Option Addr) (c d : Nat) (w : World) (hA : Sl encT4 4 w w.heap.size A l) (hB : Sl encT4 4 w w.heap.size B l) :
    Calls Try.prog 54 #[.slice A 3 c, .slice B 3 d] w fun e w' => e = .returned (.bool true) ∧ Hid (Below w.heap.size w w') := by
  have h0 := equalSlots_any A B c d l l w (by omega) (by omega) hA hB
  rw [h3] at h0
  exact h0.mono (by rintro e w' ⟨rfl, hb⟩; exact ⟨by simp, hb⟩)
theorem slS (w : World) (a b c : T4) : Sl encT4 4 (w.alloc (.cells #[.int .i64 a.1, .int .i64 a.2.1, .int .i64 a.2.2.1, .int .i64 a.2.2.2, .int .i64 b.1, .int .i64 b.2.1, .int .i64 b.2.2.1, .int .i64 b.2.2.2, .int .i64 c.1, .int .i64 c.2.1, .int .i64 c.2.2.1, .int .i64 c.2.2.2] 63)) (w.alloc (.cells #[.int .i64 a.1, .int .i64 a.2.1, .int .i64 a.2.2.1, .int .i64 a.2.2.2, .int .i64 b.1, .int .i64 b.2.1, .int .i64 b.2.2.1, .int .i64 b.2.2.2, .int .i64 c.1, .int .i64 c.2.1, .int .i64 c.2.2.1, .int .i64 c.2.2.2] 63)).heap.size (some ⟨w.heap.size, 0, none⟩) [a, b, c] :=
  Sl.of_blk (fun _ => rfl) (show 3 ≤ maxLen by decide) (Blk.new w 63 _) rfl
set_option maxRecDepth 20000 in
set_option maxHeartbeats 8000000 in
theorem awake_any (w : World) : Calls Try.prog 12 #[] w fun e w' => e = .returned (.bool true) ∧ Below w.heap.size w w' := by
  go_enter Try.func12, Try.ntmps12
  go_upto_region 2 with first
    | (go_at_call 53; refine (ex_any 86400 _).mono ?_; rintro e wa ⟨xa, za, rfl, HTa, HBa⟩)
    | (go_at_call 33; refine (ex_Best1 xa za _ HTa.out).mono ?_; rintro e wb ⟨A1, c1, rfl, HS1, HBb⟩)
  go_upto_region 3 with first
    | (go_at_call 53; refine (ex_any 100 _).mono ?_; rintro e wc ⟨xc, zc, rfl, HTc, HBc⟩)
    | (go_at_call 33; refine (ex_Best2 xc zc _ HTc.out).mono ?_; rintro e wd ⟨A2, c2, rfl, HS2, HBd⟩)
  go_upto_region 4 with first
    | (go_at_call 53; refine (ex_any 86400 _).mono ?_; rintro e we ⟨xe, ze, rfl, HTe, HBe⟩)
    | (go_at_call 24; refine (ex_Slots xe ze _ _ _ ((HTe.out.below ((Below.refl _ _).alloc (Nat.le_refl _) _)).mono (by simp)) (sl3 _ _ _ _)).mono ?_; rintro e wf ⟨A3, c3, rfl, HS3, HBf⟩)
  go_upto_region 5 with first
    | (go_at_call 53; refine (ex_any 86400 _).mono ?_; rintro e wg ⟨xg, zg, rfl, HTg, HBg⟩)
    | (go_at_call 18; refine (ex_Which xg zg _ _ _ ((HTg.out.below ((Below.refl _ _).alloc (Nat.le_refl _) _)).mono (by simp)) (sl3 _ _ _ _)).mono ?_; rintro e wh ⟨rfl, HBh⟩)
  have h1 : Below w.heap.size w wb := HBa.out.trans (HBb.out.mono HBa.out.size)
  have h2 : Below w.heap.size w wd := h1.trans ((HBc.out.trans (HBd.out.mono HBc.out.size)).mono h1.size)
  have h3 : Below wd.heap.size wd wf := HBe.out.trans ((((Below.refl we.heap.size we).alloc (Nat.le_refl _) _).trans (HBf.out.mono (by simp))).mono HBe.out.size)
  have h4 : Below wf.heap.size wf wh := HBg.out.trans ((((Below.refl wg.heap.size wg).alloc (Nat.le_refl _) _).trans (HBh.out.mono (by simp))).mono HBg.out.size)
  have h24 : Below w.heap.size w wh := h2.trans ((h3.trans (h4.mono h3.size)).mono h2.size)
  have H1 := Lib.hid (HBc.out.trans ((HBd.out.trans ((h3.trans (h4.mono h3.size)).mono HBd.out.size)).mono HBc.out.size))
  have H2 := Lib.hid (h3.trans (h4.mono h3.size))
  have H3 := Lib.hid h4
  have H4 := Lib.hid h24
  clear h1 h2 h3 h4 h24
  go_wp2_with first
    | (go_at_call 19; first
        | (with_reducible refine (eq3_any [0, 1, 2] rfl A1 _ c1 _ _ (HS1.out _ (H1.out.alloc H1.out.size _)) (sl3 _ _ _ _)).mono ?_; rintro e wi ⟨rfl, HBi⟩; have HWi := Lib.hid (Below.trans (show Below wh.heap.size wh _ from (Below.refl _ _).alloc (Nat.le_refl _) _) (HBi.out.mono (by simp))))
        | (with_reducible refine (eq3_any [2, 0, 1] rfl A2 _ c2 _ _ (HS2.out _ ((H2.out.trans (HWi.out.mono H2.out.size)).alloc (H2.out.trans (HWi.out.mono H2.out.size)).size _)) (sl3 _ _ _ _)).mono ?_; rintro e wj ⟨rfl, HBj⟩; have HWj := Lib.hid (HWi.out.trans (Below.mono (Below.trans (show Below wi.heap.size wi _ from (Below.refl _ _).alloc (Nat.le_refl _) _) (HBj.out.mono (by simp))) HWi.out.size))))
    | (go_at_call 54; refine (eqS_any [(0, 9, 0, 1500), (1, 1, 1540, 1840), (2, 5, 1920, 1980)] rfl A3 _ c3 _ _ (HS3.out _ ((H3.out.trans (HWj.out.mono H3.out.size)).alloc (H3.out.trans (HWj.out.mono H3.out.size)).size _)) (slS _ (0, 9, 0, 1500) (1, 1, 1540, 1840) (2, 5, 1920, 1980))).mono ?_; rintro e wk ⟨rfl, HBk⟩; have HWk := Lib.hid (HWj.out.trans (Below.mono (Below.trans (show Below wj.heap.size wj _ from (Below.refl _ _).alloc (Nat.le_refl _) _) (HBk.out.mono (by simp))) HWj.out.size)))
  go_ret
  exact ⟨rfl, H4.out.trans (HWk.out.mono H4.out.size)⟩
end Go.Proofs.Ytokdleanpkkdpaa
