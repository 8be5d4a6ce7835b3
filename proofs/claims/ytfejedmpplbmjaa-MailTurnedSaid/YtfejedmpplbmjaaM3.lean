/- Contract of Repeat; conditions: one number. Turned from chapter 6 by a program. -/
import Derived.Test.YtfejedmpplbmjaaM2
import Derived.Laws.Bits64b
import Derived.WalkKit
import Derived.WalkLawsBesides
import Derived.Laws.CopyOwn
import Derived.Laws.OwnMore
import Derived.Deep.RegionLaw
import Derived.Deep.AppendLies
set_option linter.unusedSimpArgs false
set_option linter.unusedVariables false
namespace Go.Ml
def upF {α : Type} (f : Nat → α) (k : Nat) : List α := (List.range k).map f
theorem upF_succ {α : Type} (f : Nat → α) (k : Nat) : upF f (k + 1) = upF f k ++ [f k] := by simp [upF, List.range_succ]
theorem upF_len {α : Type} (f : Nat → α) (k : Nat) : (upF f k).length = k := by simp [upF]
theorem upF_get {α : Type} (f : Nat → α) (k i : Nat) (h : i < (upF f k).length) : (upF f k)[i] = f i := by simp [upF]
end Go.Ml
namespace Go.Fh
open Go.RowKit Go.Ml
/-- a block of numbers by their places -/
def RowF (W : World) (g : Nat) (f : Nat → Int) (m : Nat) : Prop := Blk W g 3 (((List.range m).map fun i => Value.int .i64 (f i)).toArray)
section
variable {W W' : World} {g m : Nat} {f : Nat → Int}
theorem RowF.lt (h : RowF W g f m) : g < W.heap.size := Blk.lt h
theorem RowF.cell (h : RowF W g f m) {i : Nat} (hi : i < m) : W.cell? ⟨g, i, none⟩ = some (.int .i64 (f i)) := by
  have := Blk.cell h i
  rw [this]; simp [hi]
theorem RowF.frozen (h : RowF W g f m) (i : Nat) : W.frozen? ⟨g, i, none⟩ = false := Blk.frozen h i
theorem RowF.congr (h : RowF W g f m) {f' : Nat → Int} (e : ∀ i, i < m → f i = f' i) : RowF W g f' m := by
  unfold RowF at *
  have : (List.range m).map (fun i => Value.int .i64 (f i)) = (List.range m).map (fun i => Value.int .i64 (f' i)) := List.map_congr_left fun i hi => by rw [e i (List.mem_range.1 hi)]
  rw [← this]; exact h
theorem RowF.set_ (h : RowF W g f m) (i : Nat) (v : Int) : RowF (W.setCell ⟨g, i, none⟩ (.int .i64 v)) g (fun j => if j = i then v else f j) m := by
  have k := Blk.set_ h i (.int .i64 v)
  unfold RowF
  have e : (((List.range m).map fun i => Value.int .i64 (f i)).toArray).setIfInBounds i (.int .i64 v) = ((List.range m).map fun j => Value.int .i64 (if j = i then v else f j)).toArray := by
    apply Array.ext
    · simp
    · intro j h1 h2
      simp at h1 h2 ⊢
      by_cases q : j = i
      · subst q; simp
      · rw [List.getElem_set_ne (fun e => q e.symm)]
        simp [q]
  rw [← e]; exact k
theorem RowF.far (h : RowF W g f m) {p : Addr} (hp : g ≠ p.block) (u : Value) : RowF (W.setCell p u) g f m := Blk.far h hp u
theorem RowF.below (h : RowF W g f m) (hb : Below W.heap.size W W') : RowF W' g f m := Blk.below h hb (Blk.lt h)
theorem RowF.drewN (h : RowF W g f m) (n : Nat) : RowF (W.drewN n) g f m := h
theorem RowF.drew (h : RowF W g f m) : RowF W.drew g f m := h
theorem RowF.sl (h : RowF W g f m) : Sl encInt 1 W W.heap.size (some ⟨g, 0, none⟩) (upF f m) := fun hn => by
  refine ⟨g, 0, rfl, h.lt, fun k x hx j u hu => ?_⟩
  have hk : k < m := by have := (List.getElem?_eq_some_iff.1 hx).1; rwa [upF_len] at this
  have : j = 0 ∧ u = .int .i64 x := by
    cases j with
    | zero => simp [encInt] at hu; exact ⟨rfl, hu.symm⟩
    | succ j => simp [encInt] at hu
  obtain ⟨rfl, rfl⟩ := this
  have hx2 : x = f k := by
    rw [List.getElem?_eq_getElem (by rw [upF_len]; exact hk), upF_get] at hx
    injection hx with hx; exact hx.symm
  rw [hx2]
  have := h.cell hk
  simpa using this
end
theorem rowF_repl {W : World} {g N : Nat} {u : Int} (h : Blk W g 3 (List.replicate N (Value.int .i64 u)).toArray) : RowF W g (fun _ => u) N := by
  unfold RowF
  have : (List.range N).map (fun i => Value.int .i64 u) = List.replicate N (Value.int .i64 u) := by
    refine List.ext_getElem (by simp) fun i h1 h2 => by simp
  rw [this]; exact h
end Go.Fh
namespace Go.Ml
theorem upF_congr {α : Type} {f g : Nat → α} {m : Nat} (h : ∀ i, i < m → f i = g i) : upF f m = upF g m := by
  unfold upF; exact List.map_congr_left fun i hi => h i (List.mem_range.1 hi)
def bI : Nat → Int
  | 0 => -1
  | b + 1 => (b : Int)
end Go.Ml
namespace Go.Proofs.Ytfejedmpplbmjaa
open Go.RowKit Go.Fh
open Go.Lib hiding intOf
theorem maskN (a : Nat) (ha : a < 4294967296) : bits .and .u64 (a : Int) 4294967295 = (a : Int) := by
  have h := bits_and_u64_nat a 4294967295 (by omega) (by omega)
  have e : a &&& 4294967295 = a % 4294967296 := Nat.and_two_pow_sub_one_eq_mod a 32
  rw [e, Nat.mod_eq_of_lt ha] at h
  exact h
theorem mul131_any (y : Nat) (hy : y ≤ 1000000) (w : World) : Calls Try.prog 140 #[.int .u64 1, .int .u64 y] w fun e w' => e = .returned (.tuple #[.int .u64 0, .int .u64 (y : Int)]) ∧ w = w' := by
  have h1 := maskN 1 (by omega)
  have h2 := maskN y (by omega)
  have HH1 : bits .and .u64 1 4294967295 = 1 := h1
  have h3 : (y : Int) / 4294967296 = 0 := by omega
  have h4 : IntKind.u64.wrap (y : Int) = (y : Int) := by rw [IntKind.wrap_u64]; omega
  go_enter Try.func140, Try.ntmps140
  go_wp2
  go_ret2
  exact ⟨by have h0 := maskN 0 (by omega); have HH0 : bits .and .u64 0 4294967295 = 0 := h0; simp [HH1, h2, h3, h4, HH0, IntKind.wrap_u64], rfl⟩
theorem mul128_any (y : Nat) (hy : y ≤ 1000000) (w : World) : Calls Try.prog 127 #[.int .u64 1, .int .u64 y] w fun e w' => e = .returned (.tuple #[.int .u64 0, .int .u64 (y : Int)]) ∧ w = w' := by
  go_enter Try.func127, Try.ntmps127
  go_wp2_with (go_at_call 140; refine (mul131_any y hy _).mono ?_; rintro e w' ⟨rfl, rfl⟩)
  go_ret2
  exact ⟨rfl, rfl⟩
theorem repl_splice (k m : Nat) (a b : Value) (j : Nat) (hj : j ≤ m) : splice (List.replicate k a ++ List.replicate m b) k (List.replicate j a) = List.replicate (k + j) a ++ List.replicate (m - j) b := by
  unfold splice
  rw [List.take_left' (by simp), List.length_replicate, List.drop_append, List.drop_eq_nil_of_le (by simp), List.nil_append, List.length_replicate, show k + j - k = j by omega, List.drop_replicate, ← List.append_assoc, List.replicate_append_replicate]
theorem repl_get (k m : Nat) (a b : Value) {j : Nat} {v : Value} (h : (List.replicate j a)[0]? = (List.replicate j a)[0]?) (i : Nat) (hj : j ≤ k) (hv : (List.replicate j a)[i]? = some v) : (List.replicate k a ++ List.replicate m b)[i]? = some v := by
  have hi : i < j := by
    rcases Nat.lt_or_ge i j with h | h
    · exact h
    · rw [List.getElem?_eq_none (by simpa using h)] at hv; cases hv
  rw [List.getElem?_append_left (by simp; omega), List.getElem?_eq_getElem (by simp; omega)]
  rw [List.getElem?_eq_getElem (by simpa using hi)] at hv
  simpa using hv
theorem infoIntT : (Try.prog.info? 3).map (fun i => (i.zero, i.size, i.bytes)) = some (some (.int .i64 0), 1, 8) := by kernel_rfl
theorem infoIntS : (Try.prog.info? 3).map (·.size) = some 1 := by kernel_rfl
set_option maxRecDepth 20000 in
set_option maxHeartbeats 2000000 in
theorem repeat_any (A : Option Addr) (c : Nat) (u : Int) (N : Nat) (w : World) (hN0 : 1 ≤ N) (hN : N ≤ 1000000) (hA : Sl encInt 1 w w.heap.size A [u]) :
    Calls Try.prog 83 #[.slice A 1 c, .int .i64 N] w fun e w' => ∃ g, e = .returned (.slice (some ⟨g, 0, none⟩) N N) ∧ w.heap.size ≤ g ∧ Blk w' g 3 (List.replicate N (Value.int .i64 u)).toArray ∧ Below w.heap.size w w' := by
  obtain ⟨b, off, rfl, hb, d0⟩ := hA.at1 (k := 0) (by simp)
  simp at d0
  have hmk := run_make_row' (P := Try.prog) 22 3 (.int .i64 0) 8 Try.underlying22 infoIntT rfl .i64 .i64 N (by omega) (by omega) w
  obtain ⟨w1, hw1⟩ : ∃ W, W = w.alloc (.cells (madeCells #[.int .i64 0] N) 3) := ⟨_, rfl⟩
  rw [← hw1] at hmk
  obtain ⟨g, hg⟩ : ∃ g, g = w.heap.size := ⟨_, rfl⟩
  have k1 : Blk w1 g 3 (List.replicate N (Value.int .i64 0)).toArray := by
    rw [hw1, hg, ← toList_madeCells_one]
    exact Blk.new w 3 _
  have hb1 : Below w.heap.size w w1 := by rw [hw1]; exact (Below.refl _ _).alloc (Nat.le_refl _) _
  rw [← hg] at hmk
  have hgs : w.heap.size ≤ g := by omega
  have d1 := (hb1.cell (p := ⟨b, off, none⟩) hb).trans d0
  have n1 : decide ((N : Int) < 0) = false := by simp
  have n2 : IntKind.u64.wrap (N : Int) = (N : Int) := by rw [IntKind.wrap_u64]; omega
  have n3 : IntKind.i64.wrap (N : Int) = (N : Int) := by rw [IntKind.wrap_i64]; omega
  have K1 := Lib.hid (show w1.heap[g]? = some (.cells (List.replicate N (Value.int .i64 0)).toArray 3 (0, 0)) from k1)
  have HB1 := Lib.hid hb1
  have N2 := Lib.hid n2
  have N3 := Lib.hid n3
  have D1 := Lib.hid d1
  clear k1 hb1 hg hw1 d0 hA n2 n3 d1
  go_enter Try.func83, Try.ntmps83
  go_upto_region 6 with (go_at_call 127; refine (mul128_any N hN _).mono ?_; rintro e w' ⟨rfl, rfl⟩)
  have hlen1 : (List.replicate N (Value.int .i64 0)).length = N := by simp
  have HM1 := Lib.hid (show ([Value.int .i64 u] : List Value).length = Nat.min 1 N by show 1 = min 1 N; omega)
  have HM2 := Lib.hid (show 0 < ([Value.int .i64 u] : List Value).length → (some ⟨g, 0, none⟩ : Option Addr) = some ⟨g, 0, none⟩ ∧ ∃ ad, (some ⟨b, off, none⟩ : Option Addr) = some ad ∧ ∀ j v, [Value.int .i64 u][j]? = some v → w1.cell? (ad.add j) = some v from fun _ => ⟨rfl, _, rfl, fun j v hj => by
    match j, hj with
    | 0, hj => simp at hj; subst hj; simpa [Addr.add] using D1.out
    | j + 1, hj => simp at hj⟩)
  have HM3 := Lib.hid (show 0 + ([Value.int .i64 u] : List Value).length ≤ (List.replicate N (Value.int .i64 0)).length by simp; omega)
  have HM4 := Lib.hid (show ∀ v ∈ [Value.int .i64 u], v.oneCell' = true from by intro v hv; simp at hv; subst hv; rfl)
  have HSP := Lib.hid (show splice (List.replicate N (Value.int .i64 0)) 0 [Value.int .i64 u] = List.replicate 1 (Value.int .i64 u) ++ List.replicate (N - 1) (Value.int .i64 0) from by
    have := repl_splice 0 N (Value.int .i64 u) (Value.int .i64 0) 1 (by omega)
    simpa using this)
  go_upto_region 7 with fail
  clear hlen1
  go_wp2_with (with_reducible refine wpList_copy_splice rfl (.tmp 31) (.tmp 32) 22 22 rfl 3 Try.underlying22 infoIntS (some ⟨g, 0, none⟩) (some ⟨b, off, none⟩) N N 1 c rfl rfl g 0 (List.replicate N (.int .i64 0)) 3 K1.out [.int .i64 u] HM1.out HM2.out HM3.out HM4.out w.heap.size w HB1.out hgs ?_; intro w2 hg2 hb2; have HB2 := Lib.hid hb2; clear hb2)
  have h2 := hg2.out
  rw [HSP.out] at h2
  have H2 := Lib.hid h2
  clear h2 hg2
  go_loopw [8] (fun n wr => ∃ k : Nat, 1 ≤ k ∧ k ≤ N ∧ n = .int .i64 k ∧ Hid (wr.heap[g]? = some (.cells (List.replicate k (Value.int .i64 u) ++ List.replicate (N - k) (Value.int .i64 0)).toArray 3 (0, 0))) ∧ Hid (Below w.heap.size w wr)) (fun n _ => N - (intOf n).toNat)
  case atStart => exact ⟨1, Nat.le_refl _, hN0, rfl, H2, HB2⟩
  case round =>
    obtain ⟨k, hk1, hk2, rfl, HC, HB⟩ := hrel
    by_cases hlt : k < N
    · obtain ⟨j, hj⟩ : ∃ j, j = min k (N - k) := ⟨_, rfl⟩
      have HJ := Lib.hid (show (List.replicate j (Value.int .i64 u)).length = Nat.min k (N - k) by rw [List.length_replicate]; exact hj)
      have hj1 : 1 ≤ j ∧ j ≤ k ∧ k + j ≤ N := by omega
      have HFIT := Lib.hid (show k + (List.replicate j (Value.int .i64 u)).length ≤ (List.replicate k (Value.int .i64 u) ++ List.replicate (N - k) (Value.int .i64 0)).length by simp; omega)
      have HONE := Lib.hid (show ∀ v ∈ List.replicate j (Value.int .i64 u), v.oneCell' = true from fun v hv => by rw [(List.mem_replicate.1 hv).2]; rfl)
      have HSRC := Lib.hid (show ∀ W : World, W.heap[g]? = some (.cells (List.replicate k (Value.int .i64 u) ++ List.replicate (N - k) (Value.int .i64 0)).toArray 3 (0, 0)) → ∀ i v, (List.replicate j (Value.int .i64 u))[i]? = some v → W.cell? ((⟨g, 0, none⟩ : Addr).add i) = some v from fun W hW i v hv =>
        World.news_of_block (cs := (List.replicate k (Value.int .i64 u) ++ List.replicate (N - k) (Value.int .i64 0)).toArray) hW i v (by
          have := repl_get k (N - k) (Value.int .i64 u) (Value.int .i64 0) (j := j) rfl i (by omega) hv
          simpa using this))
      have HSP2 := Lib.hid (repl_splice k (N - k) (Value.int .i64 u) (Value.int .i64 0) j (by omega))
      have HCD := Lib.hid (show wr.drew.heap[g]? = some (.cells (List.replicate k (Value.int .i64 u) ++ List.replicate (N - k) (Value.int .i64 0)).toArray 3 (0, 0)) from HC.out)
      have HBD := Lib.hid (show Below w.heap.size w wr.drew from HB.out.drew)
      have i0 : (0 : Int) ≤ (k : Int) := by omega
      have i1 : (k : Int) ≤ (N : Int) := by omega
      obtain ⟨hj2, hj3, hj4⟩ := hj1
      have hne : ¬ (N = k) := by omega
      clear hj
      go_upto_region 9 with fail
      go_region_law ((refine step_copy_splice rfl (.tmp 41) (.tmp 44) 22 22 rfl 3 Try.underlying22 infoIntS (some ⟨g, k, none⟩) (some ⟨g, 0, none⟩) (N - k) (N - k) k N (by simp [go_sem]) (by simp [go_sem]) g k (List.replicate k (Value.int .i64 u) ++ List.replicate (N - k) (Value.int .i64 0)) 3 HCD.out (List.replicate j (Value.int .i64 u)) HJ.out (fun _ => ⟨rfl, _, rfl, HSRC.out _ HCD.out⟩) HFIT.out HONE.out w.heap.size w HBD.out hgs ?_; intro w4 hg4 hb4))
      all_goals
        have h4 := hg4.out
        rw [HSP2.out, show N - k - j = N - (k + j) by omega] at h4
        have H4 := Lib.hid h4
        have HB4 := Lib.hid hb4
        clear h4 hg4 hb4
        simp only [List.getElem_toArray, List.getElem_cons_succ, List.getElem_cons_zero]
        simp only [Act.put, List.setIfInBounds_toArray, List.set_cons_succ, List.set_cons_zero]
        rw [show IntKind.i64.wrap ((k : Int) + (j : Int)) = ((k + j : Nat) : Int) from by rw [IntKind.wrap_i64]; omega]
        go_roundw
        case rel => exact ⟨_, _, _, _, _, _, _, _, _, _, _, _, _, _, ⟨k + j, by omega, by omega, rfl, H4, HB4⟩, rfl⟩
        case measure => simp [intOf]; omega
    · obtain rfl : k = N := by omega
      go_wp2_with fail
      go_ret
      have h4 := HC.out
      rw [Nat.sub_self, List.replicate_zero, List.append_nil] at h4
      exact ⟨g, rfl, hgs, h4, HB.out⟩
end Go.Proofs.Ytfejedmpplbmjaa
namespace Go.Proofs.Ytfejedmpplbmjaa
open Go.RowKit Go.Fh Go.Ml
theorem repeat_c (N : Nat) (u : Int) (hN0 : 1 ≤ N) (hN : N ≤ 1000000) (W : World) : Calls Try.prog 83 #[.slice (some ⟨W.heap.size, 0, none⟩) 1 1, .int .i64 (N : Int)] (W.alloc (.cells #[.int .i64 u] 3)) fun e w' => ∃ g, e = .returned (.slice (some ⟨g, 0, none⟩) N N) ∧ W.heap.size < g ∧ Hid (RowF w' g (fun _ => u) N) ∧ Hid (Below W.heap.size W w') := by
  have k : Blk (W.alloc (.cells #[.int .i64 u] 3)) W.heap.size 3 #[.int .i64 u] := Blk.new _ _ _
  refine (repeat_any (some ⟨W.heap.size, 0, none⟩) 1 u N (W.alloc (.cells #[.int .i64 u] 3)) hN0 hN (Sl.of_blk (enc := encInt) (fun _ => rfl) (by simp [maxLen]) k rfl)).mono ?_
  rintro e w' ⟨g, rfl, hg, hk, hb⟩
  refine ⟨g, rfl, by simp at hg; omega, Lib.hid (rowF_repl hk), Lib.hid ?_⟩
  exact (balR (Below.refl _ _) _).trans (hb.mono (by simp))
end Go.Proofs.Ytfejedmpplbmjaa
