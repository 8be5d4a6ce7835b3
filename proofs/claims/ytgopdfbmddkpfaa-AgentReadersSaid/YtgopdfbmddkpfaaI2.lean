/- Contracts of IndexFunc and ContainsFunc of spans, printed by gen11.py; conditions: none. -/
import Derived.Test.YtgopdfbmddkpfaaA1
import Derived.Test.YtgopdfbmddkpfaaSpec2
import Derived.BigQuiet
import Derived.Deep.QuietTactic
import Derived.WalkSpells
set_option linter.unusedSimpArgs false
set_option linter.unusedVariables false
namespace Go.Proofs.Ytgopdfbmddkpfaa
open Go.RowKit Go.Fh Go.Ag

theorem inHol_any (a b day : Int) (g : Nat) (w : World) (hg : g < w.heap.size) (hday : w.cell? ⟨g, 0, none⟩ = some (.int .i64 day)) :
    Calls Try.prog 112 #[.agg #[.int .i64 a, .int .i64 b], .pointer (some ⟨g, 0, none⟩)] w fun e w' => e = .returned (.bool (inHol day (a, b))) ∧ Below w.heap.size w w' := by
  go_enter Try.func112, Try.ntmps112
  go_wp2_with (go_at_call 48; refine (within_any _ _ _ _).mono ?_; rintro e w' ⟨rfl, rfl⟩)
  go_ret
  exact ⟨rfl, (Below.refl _ _).alloc (Nat.le_refl _) _⟩

set_option maxHeartbeats 1000000 in
theorem indexHol_any (day : Int) (g : Nat) (A : Option Addr) (c : Nat) (l : List (Int × Int)) (w : World) (hl : l.length ≤ 9223372036854775807) (hA : Sl enc2 2 w w.heap.size A l) (hg : g < w.heap.size) (hday : w.cell? ⟨g, 0, none⟩ = some (.int .i64 day)) :
    Calls Try.prog 137 #[.slice A l.length c, .func (.func 112) #[] #[.pointer (some ⟨g, 0, none⟩)]] w fun e w' => e = .returned (.int .i64 (findI (inHol day) l)) ∧ Below w.heap.size w w' := by
  go_enter Try.func137, Try.ntmps137
  go_wp2
  go_loopw [8] (fun i wr => ∃ k : Nat, k ≤ l.length ∧ i = .int .i64 k ∧ (∀ x ∈ l.take k, (inHol day) x = false) ∧ Below w.heap.size w wr) (fun i _ => l.length - (intOf i).toNat)
  case atStart => exact ⟨0, Nat.zero_le _, rfl, by simp, Below.refl _ _⟩
  case round =>
    obtain ⟨k, hk, rfl, hno, hB⟩ := hrel
    have HN := Lib.hid hno
    clear hno
    by_cases hlt : k < l.length
    · obtain ⟨b, off, rfl, hb, c0, c1⟩ := (hA.below hB).at2 hlt
      have hday1 : wr.cell? ⟨g, 0, none⟩ = some (.int .i64 day) := (hB.cell (p := ⟨g, 0, none⟩) hg).trans hday
      cases hw : (inHol day) l[k]
      · have hc : Calls Try.prog _ _ wr _ := inHol_any l[k].1 l[k].2 day g _ (by have := hB.size; omega) hday1
        go_wp2_with (go_at_call 112; refine hc.mono ?_; clear hc; rintro e w' ⟨rfl, hb1⟩)
        go_roundw
        case rel =>
          refine ⟨k + 1, by omega, by go_num, fun x hx => ?_, hB.trans (hb1.mono hB.size)⟩
          rw [List.take_succ_eq_append_getElem hlt, List.mem_append] at hx
          rcases hx with hx | hx
          · exact HN.out x hx
          · simp at hx; subst hx; exact hw
        case measure => simp [intOf]; omega
      · have hc : Calls Try.prog _ _ wr _ := inHol_any l[k].1 l[k].2 day g _ (by have := hB.size; omega) hday1
        go_wp2_with (go_at_call 112; refine hc.mono ?_; clear hc; rintro e w' ⟨rfl, hb1⟩)
        go_ret
        exact ⟨ret_int (findI_hit hlt HN.out hw).symm, hB.trans (hb1.mono hB.size)⟩
    · go_wp2
      go_ret
      exact ⟨ret_int (findI_miss (fun x hx => HN.out x (by rw [List.take_of_length_le (by omega)]; exact hx))).symm, hB⟩
theorem anyHol_any (day : Int) (g : Nat) (A : Option Addr) (c : Nat) (l : List (Int × Int)) (w : World) (hl : l.length ≤ 9223372036854775807) (hA : Sl enc2 2 w w.heap.size A l) (hg : g < w.heap.size) (hday : w.cell? ⟨g, 0, none⟩ = some (.int .i64 day)) :
    Calls Try.prog 111 #[.slice A l.length c, .func (.func 112) #[] #[.pointer (some ⟨g, 0, none⟩)]] w fun e w' => e = .returned (.bool (l.any (inHol day))) ∧ Below w.heap.size w w' := by
  have hf := findI_any (inHol day) l
  have HF := Lib.hid hf
  clear hf
  have hc := indexHol_any day g A c l w hl hA hg hday
  go_enter Try.func111, Try.ntmps111
  go_wp2_with (go_at_call 137; refine hc.mono ?_; clear hc; rintro e w' ⟨rfl, hb⟩)
  go_ret
  exact ⟨ret_bool HF.out, hb⟩

end Go.Proofs.Ytgopdfbmddkpfaa
