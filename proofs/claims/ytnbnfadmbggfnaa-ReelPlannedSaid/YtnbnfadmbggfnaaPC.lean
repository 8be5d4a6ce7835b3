/- Contract of CheckStore at a right store; conditions: a right store in memory. -/
import Derived.Test.YtnbnfadmbggfnaaPB
import Derived.Test.YtnbnfadmbggfnaaB4
import Derived.Test.YtnbnfadmbggfnaaC9
set_option linter.unusedSimpArgs false
set_option linter.unusedVariables false
namespace Go.Rl
open Go.Fh Go.RowKit
structure StoOk (st : List ReelD) (ns : List (Int × Int)) : Prop where
  n : st.length ≤ 10
  m1 : 1 ≤ ns.length
  m2 : ns.length ≤ 3
  er : erW st [] = 0
  nb : ∀ x ∈ ns, 1 ≤ x.1 ∧ x.1 ≤ 3000 ∧ 1 ≤ x.2 ∧ x.2 ≤ 1000000000
end Go.Rl
namespace Go.Proofs.Ytnbnfadmbggfnaa
open Go.RowKit Go.Fh Go.Rl
set_option maxRecDepth 20000 in
set_option maxHeartbeats 4000000 in
theorem chk76_ok (st : List ReelD) (ns : List (Int × Int)) (h : StoOk st ns) (A An : Option Addr) (c cn N m : Nat) (w : World) (hN : st.length = N) (hm : ns.length = m) (hA : Sl encReel 4 w w.heap.size A st) (hB : Sl enc2 2 w w.heap.size An ns) :
    Calls Try.prog 76 #[.slice A N c, .slice An m cn] w fun e w' => e = .returned (.int .i64 0) ∧ Hid (Below w.heap.size w w') := by
  have hmm := @run_makeMap Try.prog
  have hb1 : Below w.heap.size w (w.alloc (.map #[] 0)) := balR (Below.refl _ _) _
  have H48 := Lib.hid (show ∀ (a b d : Int) W, inB a b d = true → Calls Try.prog 48 #[.int .i64 a, .int .i64 b, .int .i64 d] W fun e w' => e = .returned (.bool true) ∧ W = w' from fun a b d W hh => by
    have := within_any a b d W
    rw [hh] at this
    exact this)
  have hn := h.n
  have h1 := h.m1
  have h2 := h.m2
  rw [hN] at hn
  rw [hm] at h1 h2
  have H87 := Lib.hid (show Calls Try.prog 87 #[.slice A N c, .map (some w.heap.size)] (w.alloc (.map #[] 0)) fun e w' => e = .returned (.int .i64 0) ∧ Hid ((w.alloc (.map #[] 0)).grownBy w' (some w.heap.size)) from by
    have := reels_any st A c w.heap.size w.heap.size [] [] (w.alloc (.map #[] 0)) (by omega) (hA.below hb1) (Nat.le_refl _) hb1.size (MapIs.new _ _ _) MetIs.nil
    rw [hN, h.er] at this
    exact this.mono (by rintro e w' ⟨rfl, -, h3⟩; exact ⟨rfl, h3⟩))
  have HNB := Lib.hid h.nb
  have HBB := Lib.hid hB
  have HB1 := Lib.hid hb1
  have HM := Lib.hid hm
  clear hb1 hA hB h hN hm
  have t1 : inB (m : Int) 1 3 = true := inB_iff.2 (by omega)
  have T1 := Lib.hid t1
  have t0 : ¬ (10 : Int) < (N : Int) := by omega
  clear t1
  go_enter Try.func76, Try.ntmps76
  go_upto_region 4 with first
    | (go_at_call 48; with_reducible refine (H48.out _ _ _ _ T1.out).mono ?_; rintro e w2 ⟨rfl, rfl⟩)
    | (go_at_call 87; with_reducible refine H87.out.mono ?_; rintro e w3 ⟨rfl, HG3⟩)
  have HB3 := Lib.hid (show Below w.heap.size w w3 from HB1.out.grown HG3.out HB1.out.size (fun j e => by injection e with e; omega))
  clear HG3 HB1 H87
  go_wp2_with fail
  go_loopw [25] (fun u wr => ∃ k : Nat, k ≤ m ∧ u = .int .i64 k ∧ Hid (Below w.heap.size w wr)) (fun u _ => m - (intOf u).toNat)
  case atStart => exact ⟨0, Nat.zero_le _, rfl, HB3⟩
  case round =>
    obtain ⟨k, hk, rfl, HB⟩ := hrel
    by_cases hlt : k < m
    · have hk2 : k < ns.length := by have := HM.out; omega
      obtain ⟨b, off, rfl, hbb, d0, d1⟩ := Sl.at2 (HBB.out.below HB.out) hk2
      have hx := HNB.out _ (List.getElem_mem hk2)
      have q1 := Lib.hid (show inB ns[k].1 1 3000 = true from inB_iff.2 ⟨hx.1, hx.2.1⟩)
      have q2 := Lib.hid (show inB ns[k].2 1 1000000000 = true from inB_iff.2 hx.2.2)
      generalize ns[k].1 = nw at *
      generalize ns[k].2 = nl at *
      have i0 : (0 : Int) ≤ (k : Int) := by omega
      have i1 : (k : Int) < (m : Int) := by omega
      clear hx
      go_upto_region 9 with fail
      obtain ⟨g7, hg7⟩ : ∃ g, g = wr.heap.size := ⟨_, rfl⟩
      obtain ⟨w5, hw5⟩ : ∃ W, W = wr.alloc (.cells #[.int .i64 nw, .int .i64 nl] 77) := ⟨_, rfl⟩
      rw [← hw5, ← hg7]
      have k5 : Blk w5 g7 77 #[.int .i64 nw, .int .i64 nl] := by rw [hw5, hg7]; exact Blk.new _ _ _
      have e0 := k5.cell 0
      have e1 := k5.cell 1
      simp at e0 e1
      have HB5 := Lib.hid (show Below w.heap.size w w5 from by rw [hw5]; exact balR HB.out _)
      clear hw5 hg7 k5 d0 d1
      go_wp2_with first
        | (go_at_call 48; with_reducible refine (H48.out _ _ _ _ q1.out).mono ?_; rintro e w2 ⟨rfl, rfl⟩)
        | (go_at_call 48; with_reducible refine (H48.out _ _ _ _ q2.out).mono ?_; rintro e w2 ⟨rfl, rfl⟩)
      go_roundw
      case rel => exact ⟨k + 1, by omega, by go_num, HB5⟩
      case measure => simp [intOf]; omega
    · obtain rfl : k = m := by omega
      go_wp2_with fail
      go_ret
      exact ⟨rfl, HB⟩
end Go.Proofs.Ytnbnfadmbggfnaa
