/- Contract of prices; conditions: an allowed supply in memory. Printed by a program. -/
import Derived.Test.YtnbnfadmbggfnaaA3
import Derived.Laws.Bits64b
import Derived.WalkKit
import Derived.WalkLawsBesides
import Derived.Laws.CopyOwn
import Derived.Laws.OwnMore
import Derived.Deep.RegionLaw
import Derived.Deep.AppendLies
set_option linter.unusedSimpArgs false
set_option linter.unusedVariables false
namespace Go.Fh
open Go.RowKit Go.Rl
/-- a block of numbers by their places -/
def RowF (W : World) (g : Nat) (f : Nat → Int) (m : Nat) : Prop := Blk W g 3 (((List.range m).map fun i => Value.int .i64 (f i)).toArray)
section
variable {W W' : World} {g m : Nat} {f : Nat → Int}
theorem RowF.lt (h : RowF W g f m) : g < W.heap.size := Blk.lt h
theorem RowF.cell (h : RowF W g f m) {i : Nat} (hi : i < m) : W.cell? ⟨g, i, none⟩ = some (.int .i64 (f i)) := by
  have := Blk.cell h i
  rw [this]; simp [hi]
theorem RowF.frozen (h : RowF W g f m) (i : Nat) : W.frozen? ⟨g, i, none⟩ = false := Blk.frozen h i
theorem RowF.congr (h : RowF W g f m) {f' : Nat → Int} (e : ∀ i, i < m → f i = f' i) : RowF W g f' m := by
  unfold RowF at *
  have : (List.range m).map (fun i => Value.int .i64 (f i)) = (List.range m).map (fun i => Value.int .i64 (f' i)) := List.map_congr_left fun i hi => by rw [e i (List.mem_range.1 hi)]
  rw [← this]; exact h
theorem RowF.set_ (h : RowF W g f m) (i : Nat) (v : Int) : RowF (W.setCell ⟨g, i, none⟩ (.int .i64 v)) g (fun j => if j = i then v else f j) m := by
  have k := Blk.set_ h i (.int .i64 v)
  unfold RowF
  have e : (((List.range m).map fun i => Value.int .i64 (f i)).toArray).setIfInBounds i (.int .i64 v) = ((List.range m).map fun j => Value.int .i64 (if j = i then v else f j)).toArray := by
    apply Array.ext
    · simp
    · intro j h1 h2
      simp at h1 h2 ⊢
      by_cases q : j = i
      · subst q; simp
      · rw [List.getElem_set_ne (fun e => q e.symm)]
        simp [q]
  rw [← e]; exact k
theorem RowF.far (h : RowF W g f m) {p : Addr} (hp : g ≠ p.block) (u : Value) : RowF (W.setCell p u) g f m := Blk.far h hp u
theorem RowF.below (h : RowF W g f m) (hb : Below W.heap.size W W') : RowF W' g f m := Blk.below h hb (Blk.lt h)
theorem RowF.drewN (h : RowF W g f m) (n : Nat) : RowF (W.drewN n) g f m := h
theorem RowF.drew (h : RowF W g f m) : RowF W.drew g f m := h
theorem RowF.sl (h : RowF W g f m) : Sl encInt 1 W W.heap.size (some ⟨g, 0, none⟩) (upF f m) := fun hn => by
  refine ⟨g, 0, rfl, h.lt, fun k x hx j u hu => ?_⟩
  have hk : k < m := by have := (List.getElem?_eq_some_iff.1 hx).1; rwa [upF_len] at this
  have : j = 0 ∧ u = .int .i64 x := by
    cases j with
    | zero => simp [encInt] at hu; exact ⟨rfl, hu.symm⟩
    | succ j => simp [encInt] at hu
  obtain ⟨rfl, rfl⟩ := this
  have hx2 : x = f k := by
    rw [List.getElem?_eq_getElem (by rw [upF_len]; exact hk), upF_get] at hx
    injection hx with hx; exact hx.symm
  rw [hx2]
  have := h.cell hk
  simpa using this
end
theorem rowF_repl {W : World} {g N : Nat} {u : Int} (h : Blk W g 3 (List.replicate N (Value.int .i64 u)).toArray) : RowF W g (fun _ => u) N := by
  unfold RowF
  have : (List.range N).map (fun i => Value.int .i64 u) = List.replicate N (Value.int .i64 u) := by
    refine List.ext_getElem (by simp) fun i h1 h2 => by simp
  rw [this]; exact h
end Go.Fh
namespace Go.Rl
theorem upF_congr {α : Type} {f g : Nat → α} {m : Nat} (h : ∀ i, i < m → f i = g i) : upF f m = upF g m := by
  unfold upF; exact List.map_congr_left fun i hi => h i (List.mem_range.1 hi)
def bI : Nat → Int
  | 0 => -1
  | b + 1 => (b : Int)
/-- least costs under way -/
def flV (s : SupD) (k i j : Nat) : Int := if j < k then leaV s j else if j = k then minW (fun i' => cov s i' k) (leaV s) i else -1
theorem flV_at (s : SupD) (k i : Nat) : flV s k i k = minW (fun i' => cov s i' k) (leaV s) i := by unfold flV; simp
theorem flV_lt (s : SupD) {k i j : Nat} (h : j < k) : flV s k i j = leaV s j := by unfold flV; rw [if_pos h]
theorem flV_0 (s : SupD) (j : Nat) : flV s 1 0 j = if j = 0 then 0 else -1 := by
  unfold flV
  by_cases h : j = 0
  · subst h; rfl
  · rw [if_neg (by omega), if_neg h]; split <;> rfl
theorem flV_up (s : SupD) {k : Nat} (h : 1 ≤ k) (j : Nat) : flV s k k j = flV s (k + 1) 0 j := by
  obtain ⟨q, rfl⟩ : ∃ q, k = q + 1 := ⟨k - 1, by omega⟩
  unfold flV
  by_cases h1 : j < q + 1
  · rw [if_pos h1, if_pos (by omega)]
  · rw [if_neg h1]
    by_cases h2 : j = q + 1
    · subst h2; rw [if_pos rfl, if_pos (by omega), leaV_s]
    · rw [if_neg h2, if_neg (by omega)]
      split <;> rfl
theorem flV_no (s : SupD) {k i : Nat} (h : covB s i k = false) (j : Nat) : flV s k (i + 1) j = flV s k i j := by
  unfold flV
  split
  · rfl
  · split
    · rw [minW, cov_none h]; rfl
    · rfl
theorem flV_yes (s : SupD) {k i : Nat} (h : covB s i k = true) {v c : Int} (hv : v = flV s k i k) (hc : c = covC s i k) (j : Nat) : flV s k (i + 1) j = if j = k then (if v < 0 ∨ leaV s i + c < v then leaV s i + c else v) else flV s k i j := by
  rw [hv, flV_at, hc]
  by_cases e : j = k
  · subst e; rw [if_pos rfl, flV_at, minW, cov_some h]; rfl
  · rw [if_neg e]; unfold flV
    split
    · rfl
    · first | rfl | simp [e]
theorem flV_all (s : SupD) (n : Nat) : ∀ j, j < n + 1 → flV s (n + 1) 0 j = leaV s j := fun j hj => flV_lt s hj
/-- rests under way -/
def frV (s : SupD) (n p m j : Nat) : Int := if p ≤ j then resV s n j else if j + 1 = p then minW (fun m' => cov s j (j + 1 + m')) (fun m' => resV s n (j + 1 + m')) m else -1
theorem frV_at (s : SupD) (n i m : Nat) : frV s n (i + 1) m i = minW (fun m' => cov s i (i + 1 + m')) (fun m' => resV s n (i + 1 + m')) m := by unfold frV; rw [if_neg (by omega), if_pos rfl]
theorem frV_ge (s : SupD) {n p m j : Nat} (h : p ≤ j) : frV s n p m j = resV s n j := by unfold frV; rw [if_pos h]
theorem frV_0 (s : SupD) {n j : Nat} (h : j < n + 1) : frV s n n 0 j = if j = n then 0 else -1 := by
  unfold frV
  by_cases e : j = n
  · subst e; simp [resV_n]
  · rw [if_neg (by omega), if_neg e]; split <;> rfl
theorem frV_dn (s : SupD) {n i : Nat} (h : i < n) (j : Nat) : frV s n (i + 1) (n - i) j = frV s n i 0 j := by
  unfold frV
  by_cases h1 : i + 1 ≤ j
  · rw [if_pos h1, if_pos (by omega)]
  · rw [if_neg h1]
    by_cases h2 : j = i
    · subst h2; rw [if_pos rfl, if_pos (Nat.le_refl _), resV_s s h]
    · rw [if_neg (by omega), if_neg (by omega)]
      split <;> rfl
theorem frV_no (s : SupD) {n i m : Nat} (h : covB s i (i + 1 + m) = false) (j : Nat) : frV s n (i + 1) (m + 1) j = frV s n (i + 1) m j := by
  unfold frV
  split
  · rfl
  · split
    · rename_i e; obtain rfl : j = i := by omega
      rw [minW, cov_none h]; rfl
    · rfl
theorem frV_yes (s : SupD) {n i m : Nat} (h : covB s i (i + 1 + m) = true) {v c r : Int} (hv : v = frV s n (i + 1) m i) (hc : c = covC s i (i + 1 + m)) (hr : r = resV s n (i + 1 + m)) (j : Nat) : frV s n (i + 1) (m + 1) j = if j = i then (if v < 0 ∨ c + r < v then c + r else v) else frV s n (i + 1) m j := by
  rw [hv, frV_at, hc, hr]
  by_cases e : j = i
  · subst e
    rw [if_pos rfl, frV_at, minW, cov_some h]
    simp only [stepM]
    rw [Int.add_comm]
  · rw [if_neg e]; unfold frV
    split
    · rfl
    · rw [if_neg (by omega), if_neg (by omega)]
theorem frV_all (s : SupD) (n : Nat) (j : Nat) : frV s n 0 0 j = resV s n j := frV_ge s (Nat.zero_le _)
end Go.Rl
namespace Go.Proofs.Ytnbnfadmbggfnaa
open Go.RowKit Go.Fh
open Go.Lib hiding intOf
theorem maskN (a : Nat) (ha : a < 4294967296) : bits .and .u64 (a : Int) 4294967295 = (a : Int) := by
  have h := bits_and_u64_nat a 4294967295 (by omega) (by omega)
  have e : a &&& 4294967295 = a % 4294967296 := Nat.and_two_pow_sub_one_eq_mod a 32
  rw [e, Nat.mod_eq_of_lt ha] at h
  exact h
theorem mul131_any (y : Nat) (hy : y ≤ 1000000) (w : World) : Calls Try.prog 144 #[.int .u64 1, .int .u64 y] w fun e w' => e = .returned (.tuple #[.int .u64 0, .int .u64 (y : Int)]) ∧ w = w' := by
  have h1 := maskN 1 (by omega)
  have h2 := maskN y (by omega)
  have HH1 : bits .and .u64 1 4294967295 = 1 := h1
  have h3 : (y : Int) / 4294967296 = 0 := by omega
  have h4 : IntKind.u64.wrap (y : Int) = (y : Int) := by rw [IntKind.wrap_u64]; omega
  go_enter Try.func144, Try.ntmps144
  go_wp2
  go_ret2
  exact ⟨by have h0 := maskN 0 (by omega); have HH0 : bits .and .u64 0 4294967295 = 0 := h0; simp [HH1, h2, h3, h4, HH0, IntKind.wrap_u64], rfl⟩
theorem mul128_any (y : Nat) (hy : y ≤ 1000000) (w : World) : Calls Try.prog 128 #[.int .u64 1, .int .u64 y] w fun e w' => e = .returned (.tuple #[.int .u64 0, .int .u64 (y : Int)]) ∧ w = w' := by
  go_enter Try.func128, Try.ntmps128
  go_wp2_with (go_at_call 144; refine (mul131_any y hy _).mono ?_; rintro e w' ⟨rfl, rfl⟩)
  go_ret2
  exact ⟨rfl, rfl⟩
theorem repl_splice (k m : Nat) (a b : Value) (j : Nat) (hj : j ≤ m) : splice (List.replicate k a ++ List.replicate m b) k (List.replicate j a) = List.replicate (k + j) a ++ List.replicate (m - j) b := by
  unfold splice
  rw [List.take_left' (by simp), List.length_replicate, List.drop_append, List.drop_eq_nil_of_le (by simp), List.nil_append, List.length_replicate, show k + j - k = j by omega, List.drop_replicate, ← List.append_assoc, List.replicate_append_replicate]
theorem repl_get (k m : Nat) (a b : Value) {j : Nat} {v : Value} (h : (List.replicate j a)[0]? = (List.replicate j a)[0]?) (i : Nat) (hj : j ≤ k) (hv : (List.replicate j a)[i]? = some v) : (List.replicate k a ++ List.replicate m b)[i]? = some v := by
  have hi : i < j := by
    rcases Nat.lt_or_ge i j with h | h
    · exact h
    · rw [List.getElem?_eq_none (by simpa using h)] at hv; cases hv
  rw [List.getElem?_append_left (by simp; omega), List.getElem?_eq_getElem (by simp; omega)]
  rw [List.getElem?_eq_getElem (by simpa using hi)] at hv
  simpa using hv
theorem infoIntT : (Try.prog.info? 3).map (fun i => (i.zero, i.size, i.bytes)) = some (some (.int .i64 0), 1, 8) := by kernel_rfl
theorem infoIntS : (Try.prog.info? 3).map (·.size) = some 1 := by kernel_rfl
set_option maxRecDepth 20000 in
set_option maxHeartbeats 2000000 in
theorem repeat_any (A : Option Addr) (c : Nat) (u : Int) (N : Nat) (w : World) (hN0 : 1 ≤ N) (hN : N ≤ 1000000) (hA : Sl encInt 1 w w.heap.size A [u]) :
    Calls Try.prog 98 #[.slice A 1 c, .int .i64 N] w fun e w' => ∃ g, e = .returned (.slice (some ⟨g, 0, none⟩) N N) ∧ w.heap.size ≤ g ∧ Blk w' g 3 (List.replicate N (Value.int .i64 u)).toArray ∧ Below w.heap.size w w' := by
  obtain ⟨b, off, rfl, hb, d0⟩ := hA.at1 (k := 0) (by simp)
  simp at d0
  have hmk := run_make_row' (P := Try.prog) 47 3 (.int .i64 0) 8 Try.underlying47 infoIntT rfl .i64 .i64 N (by omega) (by omega) w
  obtain ⟨w1, hw1⟩ : ∃ W, W = w.alloc (.cells (madeCells #[.int .i64 0] N) 3) := ⟨_, rfl⟩
  rw [← hw1] at hmk
  obtain ⟨g, hg⟩ : ∃ g, g = w.heap.size := ⟨_, rfl⟩
  have k1 : Blk w1 g 3 (List.replicate N (Value.int .i64 0)).toArray := by
    rw [hw1, hg, ← toList_madeCells_one]
    exact Blk.new w 3 _
  have hb1 : Below w.heap.size w w1 := by rw [hw1]; exact (Below.refl _ _).alloc (Nat.le_refl _) _
  rw [← hg] at hmk
  have hgs : w.heap.size ≤ g := by omega
  have d1 := (hb1.cell (p := ⟨b, off, none⟩) hb).trans d0
  have n1 : decide ((N : Int) < 0) = false := by simp
  have n2 : IntKind.u64.wrap (N : Int) = (N : Int) := by rw [IntKind.wrap_u64]; omega
  have n3 : IntKind.i64.wrap (N : Int) = (N : Int) := by rw [IntKind.wrap_i64]; omega
  have K1 := Lib.hid (show w1.heap[g]? = some (.cells (List.replicate N (Value.int .i64 0)).toArray 3 (0, 0)) from k1)
  have HB1 := Lib.hid hb1
  have N2 := Lib.hid n2
  have N3 := Lib.hid n3
  have D1 := Lib.hid d1
  clear k1 hb1 hg hw1 d0 hA n2 n3 d1
  go_enter Try.func98, Try.ntmps98
  go_upto_region 6 with (go_at_call 128; refine (mul128_any N hN _).mono ?_; rintro e w' ⟨rfl, rfl⟩)
  have hlen1 : (List.replicate N (Value.int .i64 0)).length = N := by simp
  have HM1 := Lib.hid (show ([Value.int .i64 u] : List Value).length = Nat.min 1 N by show 1 = min 1 N; omega)
  have HM2 := Lib.hid (show 0 < ([Value.int .i64 u] : List Value).length → (some ⟨g, 0, none⟩ : Option Addr) = some ⟨g, 0, none⟩ ∧ ∃ ad, (some ⟨b, off, none⟩ : Option Addr) = some ad ∧ ∀ j v, [Value.int .i64 u][j]? = some v → w1.cell? (ad.add j) = some v from fun _ => ⟨rfl, _, rfl, fun j v hj => by
    match j, hj with
    | 0, hj => simp at hj; subst hj; simpa [Addr.add] using D1.out
    | j + 1, hj => simp at hj⟩)
  have HM3 := Lib.hid (show 0 + ([Value.int .i64 u] : List Value).length ≤ (List.replicate N (Value.int .i64 0)).length by simp; omega)
  have HM4 := Lib.hid (show ∀ v ∈ [Value.int .i64 u], v.oneCell' = true from by intro v hv; simp at hv; subst hv; rfl)
  have HSP := Lib.hid (show splice (List.replicate N (Value.int .i64 0)) 0 [Value.int .i64 u] = List.replicate 1 (Value.int .i64 u) ++ List.replicate (N - 1) (Value.int .i64 0) from by
    have := repl_splice 0 N (Value.int .i64 u) (Value.int .i64 0) 1 (by omega)
    simpa using this)
  go_upto_region 7 with fail
  clear hlen1
  go_wp2_with (with_reducible refine wpList_copy_splice rfl (.tmp 31) (.tmp 32) 47 47 rfl 3 Try.underlying47 infoIntS (some ⟨g, 0, none⟩) (some ⟨b, off, none⟩) N N 1 c rfl rfl g 0 (List.replicate N (.int .i64 0)) 3 K1.out [.int .i64 u] HM1.out HM2.out HM3.out HM4.out w.heap.size w HB1.out hgs ?_; intro w2 hg2 hb2; have HB2 := Lib.hid hb2; clear hb2)
  have h2 := hg2.out
  rw [HSP.out] at h2
  have H2 := Lib.hid h2
  clear h2 hg2
  go_loopw [8] (fun n wr => ∃ k : Nat, 1 ≤ k ∧ k ≤ N ∧ n = .int .i64 k ∧ Hid (wr.heap[g]? = some (.cells (List.replicate k (Value.int .i64 u) ++ List.replicate (N - k) (Value.int .i64 0)).toArray 3 (0, 0))) ∧ Hid (Below w.heap.size w wr)) (fun n _ => N - (intOf n).toNat)
  case atStart => exact ⟨1, Nat.le_refl _, hN0, rfl, H2, HB2⟩
  case round =>
    obtain ⟨k, hk1, hk2, rfl, HC, HB⟩ := hrel
    by_cases hlt : k < N
    · obtain ⟨j, hj⟩ : ∃ j, j = min k (N - k) := ⟨_, rfl⟩
      have HJ := Lib.hid (show (List.replicate j (Value.int .i64 u)).length = Nat.min k (N - k) by rw [List.length_replicate]; exact hj)
      have hj1 : 1 ≤ j ∧ j ≤ k ∧ k + j ≤ N := by omega
      have HFIT := Lib.hid (show k + (List.replicate j (Value.int .i64 u)).length ≤ (List.replicate k (Value.int .i64 u) ++ List.replicate (N - k) (Value.int .i64 0)).length by simp; omega)
      have HONE := Lib.hid (show ∀ v ∈ List.replicate j (Value.int .i64 u), v.oneCell' = true from fun v hv => by rw [(List.mem_replicate.1 hv).2]; rfl)
      have HSRC := Lib.hid (show ∀ W : World, W.heap[g]? = some (.cells (List.replicate k (Value.int .i64 u) ++ List.replicate (N - k) (Value.int .i64 0)).toArray 3 (0, 0)) → ∀ i v, (List.replicate j (Value.int .i64 u))[i]? = some v → W.cell? ((⟨g, 0, none⟩ : Addr).add i) = some v from fun W hW i v hv =>
        World.news_of_block (cs := (List.replicate k (Value.int .i64 u) ++ List.replicate (N - k) (Value.int .i64 0)).toArray) hW i v (by
          have := repl_get k (N - k) (Value.int .i64 u) (Value.int .i64 0) (j := j) rfl i (by omega) hv
          simpa using this))
      have HSP2 := Lib.hid (repl_splice k (N - k) (Value.int .i64 u) (Value.int .i64 0) j (by omega))
      have HCD := Lib.hid (show wr.drew.heap[g]? = some (.cells (List.replicate k (Value.int .i64 u) ++ List.replicate (N - k) (Value.int .i64 0)).toArray 3 (0, 0)) from HC.out)
      have HBD := Lib.hid (show Below w.heap.size w wr.drew from HB.out.drew)
      have i0 : (0 : Int) ≤ (k : Int) := by omega
      have i1 : (k : Int) ≤ (N : Int) := by omega
      obtain ⟨hj2, hj3, hj4⟩ := hj1
      have hne : ¬ (N = k) := by omega
      clear hj
      go_upto_region 9 with fail
      go_region_law ((refine step_copy_splice rfl (.tmp 41) (.tmp 44) 47 47 rfl 3 Try.underlying47 infoIntS (some ⟨g, k, none⟩) (some ⟨g, 0, none⟩) (N - k) (N - k) k N (by simp [go_sem]) (by simp [go_sem]) g k (List.replicate k (Value.int .i64 u) ++ List.replicate (N - k) (Value.int .i64 0)) 3 HCD.out (List.replicate j (Value.int .i64 u)) HJ.out (fun _ => ⟨rfl, _, rfl, HSRC.out _ HCD.out⟩) HFIT.out HONE.out w.heap.size w HBD.out hgs ?_; intro w4 hg4 hb4))
      all_goals
        have h4 := hg4.out
        rw [HSP2.out, show N - k - j = N - (k + j) by omega] at h4
        have H4 := Lib.hid h4
        have HB4 := Lib.hid hb4
        clear h4 hg4 hb4
        simp only [List.getElem_toArray, List.getElem_cons_succ, List.getElem_cons_zero]
        simp only [Act.put, List.setIfInBounds_toArray, List.set_cons_succ, List.set_cons_zero]
        rw [show IntKind.i64.wrap ((k : Int) + (j : Int)) = ((k + j : Nat) : Int) from by rw [IntKind.wrap_i64]; omega]
        go_roundw
        case rel => exact ⟨_, _, _, _, _, _, _, _, _, _, _, _, _, _, ⟨k + j, by omega, by omega, rfl, H4, HB4⟩, rfl⟩
        case measure => simp [intOf]; omega
    · obtain rfl : k = N := by omega
      go_wp2_with fail
      go_ret
      have h4 := HC.out
      rw [Nat.sub_self, List.replicate_zero, List.append_nil] at h4
      exact ⟨g, rfl, hgs, h4, HB.out⟩
end Go.Proofs.Ytnbnfadmbggfnaa
namespace Go.Proofs.Ytnbnfadmbggfnaa
open Go.RowKit Go.Fh Go.Rl
theorem repeat_c (N : Nat) (u : Int) (hN0 : 1 ≤ N) (hN : N ≤ 1000000) (W : World) : Calls Try.prog 98 #[.slice (some ⟨W.heap.size, 0, none⟩) 1 1, .int .i64 (N : Int)] (W.alloc (.cells #[.int .i64 u] 3)) fun e w' => ∃ g, e = .returned (.slice (some ⟨g, 0, none⟩) N N) ∧ W.heap.size < g ∧ Hid (RowF w' g (fun _ => u) N) ∧ Hid (Below W.heap.size W w') := by
  have k : Blk (W.alloc (.cells #[.int .i64 u] 3)) W.heap.size 3 #[.int .i64 u] := Blk.new _ _ _
  refine (repeat_any (some ⟨W.heap.size, 0, none⟩) 1 u N (W.alloc (.cells #[.int .i64 u] 3)) hN0 hN (Sl.of_blk (enc := encInt) (fun _ => rfl) (by simp [maxLen]) k rfl)).mono ?_
  rintro e w' ⟨g, rfl, hg, hk, hb⟩
  refine ⟨g, rfl, by simp at hg; omega, Lib.hid (rowF_repl hk), Lib.hid ?_⟩
  exact (balR (Below.refl _ _) _).trans (hb.mono (by simp))
set_option maxRecDepth 20000 in
set_option maxHeartbeats 8000000 in
theorem prices_any (s : SupD) (x : SA) (w : World) (hs : SupOk s) (hT : SupAt w w.heap.size s x) (n : Nat) (hn : n = s.need.length) :
    Calls Try.prog 53 #[.agg #[.slice x.a s.need.length x.ca, .slice x.b s.order.length x.cb, .int .i64 s.keep, .int .i64 s.room]] w fun e w' => ∃ g1 g2 : Nat, e = .returned (.tuple #[.slice (some ⟨g1, 0, none⟩) (n + 1) (n + 1), .slice (some ⟨g2, 0, none⟩) (n + 1) (n + 1)]) ∧ Hid (w.heap.size ≤ g1 ∧ w.heap.size ≤ g2 ∧ g1 ≠ g2) ∧ Hid (RowF w' g1 (leaV s) (n + 1)) ∧ Hid (RowF w' g2 (resV s n) (n + 1)) ∧ Hid (Below w.heap.size w w') := by
  obtain ⟨w1, gT, HW1, HGT, HB1, HTB⟩ := sup_box 60 s x w hT
  obtain ⟨hT1, r0, r1, r2, r3⟩ := HTB.out w1 (Below.refl _ _)
  have hn20 := hs.n1
  have hn1 := hs.n0
  rw [← hn] at hn20 hn1
  have HCV := Lib.hid (fun W (hb : Below w1.heap.size w1 W) (fr tp : Nat) (h1 : fr < tp) (h2 : tp ≤ n) => covers_any s x W hs (HTB.out W hb).1 fr tp h1 (by rw [← hn]; exact h2))
  have REP := Lib.hid (show ∀ W, Calls Try.prog 98 #[.slice (some ⟨W.heap.size, 0, none⟩) 1 1, .int .i64 ((n : Int) + 1)] (W.alloc (.cells #[.int .i64 (-1)] 3)) fun e w' => ∃ g, e = .returned (.slice (some ⟨g, 0, none⟩) (n + 1) (n + 1)) ∧ W.heap.size < g ∧ Hid (RowF w' g (fun _ => -1) (n + 1)) ∧ Hid (Below W.heap.size W w') from fun W => repeat_c (n + 1) (-1) (by omega) (by omega) W)
  have HS := Lib.hid hs
  unfold supV at *
  rw [← hn] at r0 HTB HW1 HCV ⊢
  have HN := Lib.hid hn
  clear hT hT1 hs hn
  go_enter Try.func53, Try.ntmps53
  go_upto_region 1 with fail
  rw [← HW1.out, ← HGT.out]
  have N1 : IntKind.i64.wrap ((n : Int) + 1) = (n : Int) + 1 := by rw [IntKind.wrap_i64]; omega
  go_upto_region 3 with first
    | (go_at_call 98; with_reducible refine (REP.out w1).mono ?_; rintro e w2 ⟨g1, rfl, hg1, HF1, HB2⟩; have hg1l := HF1.out.lt)
    | (go_at_call 98; with_reducible refine (REP.out w2).mono ?_; rintro e w3 ⟨g2, rfl, hg2, HF2, hb3⟩; have HF1 := Lib.hid (HF1.out.below hb3.out); have HB3 := Lib.hid (HB2.out.trans (hb3.out.mono HB2.out.size)); have hs2 := HB2.out.size; clear hb3)
  have hg12 : g1 ≠ g2 := by omega
  obtain ⟨-, r0, r1, r2, r3⟩ := HTB.out w3 HB3.out
  have hl1 := HF1.out.lt
  have hl2 := HF2.out.lt
  have n0 : (0 : Int) ≤ (n : Int) := by omega
  have n9 : (n : Int) < (n : Int) + 1 := by omega
  have c1 := HF1.out.cell (i := 0) (by omega)
  have f1 := HF1.out.frozen 0
  have c2 := HF2.out.cell (i := n) (by omega)
  have f2 := HF2.out.frozen n
  have n8 : (0 : Int) < (n : Int) + 1 := by omega
  go_upto_region 4 with fail
  obtain ⟨w4, hw4⟩ : ∃ W, W = (w3.setCell ⟨g1, 0, none⟩ (.int .i64 0)).setCell ⟨g2, n, none⟩ (.int .i64 0) := ⟨_, rfl⟩
  rw [← hw4]
  have HR1 := Lib.hid (show RowF w4 g1 (flV s 1 0) (n + 1) from by
    rw [hw4]
    exact ((HF1.out.set_ 0 0).far (p := ⟨g2, n, none⟩) hg12 _).congr fun j hj => (flV_0 s j).symm)
  have HR2 := Lib.hid (show RowF w4 g2 (frV s n n 0) (n + 1) from by
    rw [hw4]
    exact ((HF2.out.far (p := ⟨g1, 0, none⟩) (fun e => hg12 e.symm) _).set_ n 0).congr fun j hj => (frV_0 s hj).symm)
  have hgs : w1.heap.size ≤ g1 ∧ w1.heap.size ≤ g2 := by have := HB2.out.size; omega
  have HB4 := Lib.hid (show Below w1.heap.size w1 w4 from by rw [hw4]; exact (HB3.out.setCell (p := ⟨g1, 0, none⟩) hgs.1 _).setCell (p := ⟨g2, n, none⟩) hgs.2 _)
  have HG := Lib.hid hgs
  clear hw4 r0 r1 r2 r3 c1 c2 f1 f2 hl1 hl2 hgs hs2 HF1 HF2
  go_wp2_with fail
  go_loopw [7] (fun u wr => ∃ k : Nat, 1 ≤ k ∧ k ≤ n + 1 ∧ u = .int .i64 k ∧ Hid (RowF wr g1 (flV s k 0) (n + 1)) ∧ Hid (RowF wr g2 (frV s n n 0) (n + 1)) ∧ Hid (Below w1.heap.size w1 wr)) (fun u _ => n + 1 - (intOf u).toNat)
  case atStart => exact ⟨1, Nat.le_refl _, by omega, rfl, HR1, HR2, HB4⟩
  case round =>
    obtain ⟨k, hk1, hkn, rfl, HR1, HR2, HB⟩ := hrel
    by_cases hlt : k ≤ n
    · skip
      have k0 : (0 : Int) ≤ (k : Int) := by omega
      have k1 : (k : Int) < (n : Int) + 1 := by omega
      have k2 : (k : Int) ≤ (n : Int) := by omega
      obtain ⟨wo, rfl⟩ : ∃ W, W = wr := ⟨_, rfl⟩
      go_wp2_with fail
      go_loopw [37] (fun u wr => ∃ i : Nat, i ≤ k ∧ u = .int .i64 i ∧ Hid (RowF wr g1 (flV s k i) (n + 1)) ∧ Hid (RowF wr g2 (frV s n n 0) (n + 1)) ∧ Hid (Below w1.heap.size w1 wr)) (fun u _ => k - (intOf u).toNat)
      case atStart => exact ⟨0, Nat.zero_le _, rfl, HR1, HR2, HB⟩
      case round =>
        obtain ⟨i, hik, rfl, HR1, HR2, HB⟩ := hrel
        by_cases hli : i < k
        · skip
          have i0 : (0 : Int) ≤ (i : Int) := by omega
          have i1 : (i : Int) < (n : Int) + 1 := by omega
          have i2 : (i : Int) < (k : Int) := by omega
          obtain ⟨-, r0, r1, r2, r3⟩ := HTB.out wr HB.out
          have H55 := Lib.hid (HCV.out wr HB.out i k hli hlt)
          have hcb := covC_bd HS.out (fr := i) (tp := k) (by omega)
          have hlb := leaV_bd HS.out i (by omega)
          have hl0 := leaV_nn HS.out i (by omega)
          have HYES := Lib.hid (fun h v c hv hc j => flV_yes s (k := k) (i := i) h (v := v) (c := c) hv hc j)
          have HNO := Lib.hid (fun h j => flV_no s (k := k) (i := i) h j)
          obtain ⟨ok, hok⟩ : ∃ b, b = covB s i k := ⟨_, rfl⟩
          obtain ⟨cc, hcc⟩ : ∃ b, b = covC s i k := ⟨_, rfl⟩
          rw [← hok] at H55 HYES HNO
          rw [← hcc] at H55 hcb
          have HCC := Lib.hid hcc
          obtain ⟨vk, hvk⟩ : ∃ v, v = flV s k i k := ⟨_, rfl⟩
          obtain ⟨vi, hvi⟩ : ∃ v, v = leaV s i := ⟨_, rfl⟩
          rw [← hvi] at hlb hl0
          have HVK := Lib.hid hvk
          have HVI := Lib.hid hvi
          have hfi : flV s k i i = vi := by rw [flV_lt s hli, hvi]
          have HFI := Lib.hid hfi
          clear hok hcc hvk hvi hfi
          cases ok
          · go_wp2_with (go_at_call 55; with_reducible refine H55.out.mono ?_; rintro e w5 ⟨rfl, hb5⟩; have HR1 := Lib.hid (HR1.out.below hb5.out); have HR2 := Lib.hid (HR2.out.below hb5.out); have HB5 := Lib.hid (HB.out.trans (hb5.out.mono HB.out.size)); clear hb5)
            go_quiet (fail)
            go_wp2_with fail
            go_roundw
            case rel => exact ⟨i + 1, by omega, by go_num, Lib.hid ((HR1.out.drewN _).congr fun j _ => (HNO.out (by trivial) j).symm), Lib.hid (HR2.out.drewN _), Lib.hid (below_drewN HB5.out _)⟩
            case measure => simp [intOf]; omega
          · have sw : IntKind.i64.wrap (vi + cc) = vi + cc := by rw [IntKind.wrap_i64]; omega
            obtain ⟨t1, ht1⟩ : ∃ b, b = decide (vk < 0) := ⟨_, rfl⟩
            obtain ⟨t2, ht2⟩ : ∃ b, b = decide (vi + cc < vk) := ⟨_, rfl⟩
            have ht1' := ht1.symm
            have ht2' := ht2.symm
            have HOR := Lib.hid (show (t1 || t2) = true ↔ (vk < 0 ∨ vi + cc < vk) by rw [ht1, ht2]; simp)
            clear ht1 ht2
            go_upto_region 11 with (go_at_call 55; with_reducible refine H55.out.mono ?_; rintro e w5 ⟨rfl, hb5⟩; have HR1 := Lib.hid (HR1.out.below hb5.out); have HR2 := Lib.hid (HR2.out.below hb5.out); have HB5 := Lib.hid (HB.out.trans (hb5.out.mono HB.out.size)); clear hb5)
            have c1 := HR1.out.cell (i := k) (by omega)
            have c2 := HR1.out.cell (i := i) (by omega)
            rw [← HVK.out] at c1
            rw [HFI.out] at c2
            have f1 := HR1.out.frozen k
            have hl1 := HR1.out.lt
            have HSET := Lib.hid (show (vk < 0 ∨ vi + cc < vk) → ∀ j, flV s k (i + 1) j = if j = k then vi + cc else flV s k i j from fun h j => by rw [HYES.out (by trivial) vk cc HVK.out HCC.out j, ← HVI.out, if_pos h])
            have HSTAY := Lib.hid (show ¬ (vk < 0 ∨ vi + cc < vk) → ∀ j, flV s k (i + 1) j = flV s k i j from fun h j => by
              rw [HYES.out (by trivial) vk cc HVK.out HCC.out j, ← HVI.out, if_neg h]
              by_cases e : j = k
              · rw [if_pos e, e, HVK.out]
              · rw [if_neg e])
            cases t1
            · cases t2
              · go_quiet (fail)
                go_wp2_with fail
                go_roundw
                case rel => exact ⟨i + 1, by omega, by go_num, Lib.hid ((HR1.out.drewN _).congr fun j _ => (HSTAY.out (fun h => by have := HOR.out.2 h; simp at this) j).symm), Lib.hid (HR2.out.drewN _), Lib.hid (below_drewN HB5.out _)⟩
                case measure => simp [intOf]; omega
              · go_quiet (fail)
                go_wp2_with fail
                go_roundw
                case rel => exact ⟨i + 1, by omega, by go_num, Lib.hid (((HR1.out.drewN _).set_ k (vi + cc)).congr fun j _ => (HSET.out (HOR.out.1 (by simp)) j).symm), Lib.hid ((HR2.out.drewN _).far (p := ⟨g1, k, none⟩) (fun e => hg12 e.symm) _), Lib.hid ((below_drewN HB5.out _).setCell (p := ⟨g1, k, none⟩) HG.out.1 _)⟩
                case measure => simp [intOf]; omega
            · clear ht2'
              go_quiet (fail)
              go_wp2_with fail
              go_roundw
              case rel => exact ⟨i + 1, by omega, by go_num, Lib.hid (((HR1.out.drewN _).set_ k (vi + cc)).congr fun j _ => (HSET.out (HOR.out.1 (by simp)) j).symm), Lib.hid ((HR2.out.drewN _).far (p := ⟨g1, k, none⟩) (fun e => hg12 e.symm) _), Lib.hid ((below_drewN HB5.out _).setCell (p := ⟨g1, k, none⟩) HG.out.1 _)⟩
              case measure => simp [intOf]; omega
        · skip
          obtain rfl : i = k := by omega
          go_wp2_with fail
          go_roundw
          case rel => exact ⟨i + 1, by omega, by omega, by go_num, Lib.hid (HR1.out.congr fun j _ => flV_up s hk1 j), HR2, HB⟩
          case measure => simp [intOf]; omega
    · skip
      obtain rfl : k = n + 1 := by omega
      have HL := Lib.hid (HR1.out.congr (flV_all s n))
      rw [show (((n + 1 : Nat) : Int)) = (n : Int) + 1 by omega]
      have p1 : IntKind.i64.wrap ((n : Int) - 1) = (n : Int) - 1 := by rw [IntKind.wrap_i64]; omega
      clear HR1
      obtain ⟨wo, rfl⟩ : ∃ W, W = wr := ⟨_, rfl⟩
      go_wp2_with fail
      go_loopw [11] (fun u wr => ∃ p : Nat, p ≤ n ∧ u = .int .i64 (bI p) ∧ Hid (RowF wr g1 (leaV s) (n + 1)) ∧ Hid (RowF wr g2 (frV s n p 0) (n + 1)) ∧ Hid (Below w1.heap.size w1 wr)) (fun u _ => (intOf u + 1).toNat)
      case atStart => exact ⟨n, Nat.le_refl _, by obtain ⟨q, rfl⟩ : ∃ q, n = q + 1 := ⟨n - 1, by omega⟩; simp [bI], HL, HR2, HB⟩
      case round =>
        obtain ⟨p, hpn, rfl, HR1, HR2, HB⟩ := hrel
        cases p with
        | zero =>
          skip
          rw [show bI 0 = -1 from rfl]
          go_wp2_with fail
          go_ret2
          have h := HG.out
          have hb := HB1.out.size
          exact ⟨g1, g2, rfl, Lib.hid ⟨by omega, by omega, hg12⟩, HR1, Lib.hid (HR2.out.congr fun j _ => frV_all s n j), Lib.hid (HB1.out.trans (HB.out.mono HB1.out.size))⟩
        | succ i =>
          skip
          rw [show bI (i + 1) = (i : Int) from rfl]
          have i0 : (0 : Int) ≤ (i : Int) := by omega
          have i1 : (i : Int) < (n : Int) + 1 := by omega
          have i2 : IntKind.i64.wrap ((i : Int) + 1) = (i : Int) + 1 := by rw [IntKind.wrap_i64]; omega
          have i3 : IntKind.i64.wrap ((i : Int) - 1) = (i : Int) - 1 := by rw [IntKind.wrap_i64]; omega
          obtain ⟨wo, rfl⟩ : ∃ W, W = wr := ⟨_, rfl⟩
          go_wp2_with fail
          go_loopw [12] (fun u wr => ∃ (m k : Nat), k = i + 1 + m ∧ k ≤ n + 1 ∧ u = .int .i64 k ∧ Hid (RowF wr g1 (leaV s) (n + 1)) ∧ Hid (RowF wr g2 (frV s n (i + 1) m) (n + 1)) ∧ Hid (Below w1.heap.size w1 wr)) (fun u _ => n + 1 - (intOf u).toNat)
          case atStart => exact ⟨0, i + 1, by omega, by omega, by go_num, HR1, HR2, HB⟩
          case round =>
            obtain ⟨m, k, hkm, hkn, rfl, HR1, HR2, HB⟩ := hrel
            by_cases hlk : k ≤ n
            · skip
              have k0 : (0 : Int) ≤ (k : Int) := by omega
              have k1 : (k : Int) < (n : Int) + 1 := by omega
              have k2 : (k : Int) ≤ (n : Int) := by omega
              obtain ⟨-, r0, r1, r2, r3⟩ := HTB.out wr HB.out
              have H55 := Lib.hid (HCV.out wr HB.out i k (by omega) hlk)
              have hcb := covC_bd HS.out (fr := i) (tp := k) (by omega)
              have hlb := resV_le HS.out (n := n) (i := k) hn20 hlk
              have hl0 := resV_nn HS.out (n := n) hn20 k hlk
              have HYES := Lib.hid (fun h v c r hv hc hr j => frV_yes s (n := n) (i := i) (m := m) h (v := v) (c := c) (r := r) hv hc hr j)
              have HNO := Lib.hid (fun h j => frV_no s (n := n) (i := i) (m := m) h j)
              have hfk : frV s n (i + 1) m k = resV s n k := frV_ge s (by omega)
              rw [← hkm] at HYES HNO
              obtain ⟨ok, hok⟩ : ∃ b, b = covB s i k := ⟨_, rfl⟩
              obtain ⟨cc, hcc⟩ : ∃ b, b = covC s i k := ⟨_, rfl⟩
              rw [← hok] at H55 HYES HNO
              rw [← hcc] at H55 hcb
              have HCC := Lib.hid hcc
              obtain ⟨vi, hvi⟩ : ∃ v, v = frV s n (i + 1) m i := ⟨_, rfl⟩
              obtain ⟨vk, hvk⟩ : ∃ v, v = resV s n k := ⟨_, rfl⟩
              rw [← hvk] at hlb hl0 hfk
              have HVK := Lib.hid hvk
              have HVI := Lib.hid hvi
              have HFK := Lib.hid hfk
              have HKM := Lib.hid hkm
              clear hok hcc hvk hvi hfk hkm
              cases ok
              · go_wp2_with (go_at_call 55; with_reducible refine H55.out.mono ?_; rintro e w5 ⟨rfl, hb5⟩; have HR1 := Lib.hid (HR1.out.below hb5.out); have HR2 := Lib.hid (HR2.out.below hb5.out); have HB5 := Lib.hid (HB.out.trans (hb5.out.mono HB.out.size)); clear hb5)
                go_quiet (fail)
                go_wp2_with fail
                go_roundw
                case rel => exact ⟨m + 1, k + 1, by have := HKM.out; omega, by omega, by go_num, Lib.hid (HR1.out.drewN _), Lib.hid ((HR2.out.drewN _).congr fun j _ => (HNO.out (by trivial) j).symm), Lib.hid (below_drewN HB5.out _)⟩
                case measure => simp [intOf]; omega
              · have sw : IntKind.i64.wrap (cc + vk) = cc + vk := by rw [IntKind.wrap_i64]; omega
                obtain ⟨t1, ht1⟩ : ∃ b, b = decide (vi < 0) := ⟨_, rfl⟩
                obtain ⟨t2, ht2⟩ : ∃ b, b = decide (cc + vk < vi) := ⟨_, rfl⟩
                have ht1' := ht1.symm
                have ht2' := ht2.symm
                have HOR := Lib.hid (show (t1 || t2) = true ↔ (vi < 0 ∨ cc + vk < vi) by rw [ht1, ht2]; simp)
                clear ht1 ht2
                go_upto_region 21 with (go_at_call 55; with_reducible refine H55.out.mono ?_; rintro e w5 ⟨rfl, hb5⟩; have HR1 := Lib.hid (HR1.out.below hb5.out); have HR2 := Lib.hid (HR2.out.below hb5.out); have HB5 := Lib.hid (HB.out.trans (hb5.out.mono HB.out.size)); clear hb5)
                have c1 := HR2.out.cell (i := i) (by omega)
                have c2 := HR2.out.cell (i := k) (by omega)
                rw [← HVI.out] at c1
                rw [HFK.out] at c2
                have f1 := HR2.out.frozen i
                have hl1 := HR2.out.lt
                have HSET := Lib.hid (show (vi < 0 ∨ cc + vk < vi) → ∀ j, frV s n (i + 1) (m + 1) j = if j = i then cc + vk else frV s n (i + 1) m j from fun h j => by rw [HYES.out (by trivial) vi cc vk HVI.out HCC.out HVK.out j, if_pos h])
                have HSTAY := Lib.hid (show ¬ (vi < 0 ∨ cc + vk < vi) → ∀ j, frV s n (i + 1) (m + 1) j = frV s n (i + 1) m j from fun h j => by
                  rw [HYES.out (by trivial) vi cc vk HVI.out HCC.out HVK.out j, if_neg h]
                  by_cases e : j = i
                  · rw [if_pos e, e, HVI.out]
                  · rw [if_neg e])
                cases t1
                · cases t2
                  · go_quiet (fail)
                    go_wp2_with fail
                    go_roundw
                    case rel => exact ⟨m + 1, k + 1, by have := HKM.out; omega, by omega, by go_num, Lib.hid (HR1.out.drewN _), Lib.hid ((HR2.out.drewN _).congr fun j _ => (HSTAY.out (fun h => by have := HOR.out.2 h; simp at this) j).symm), Lib.hid (below_drewN HB5.out _)⟩
                    case measure => simp [intOf]; omega
                  · go_quiet (fail)
                    go_wp2_with fail
                    go_roundw
                    case rel => exact ⟨m + 1, k + 1, by have := HKM.out; omega, by omega, by go_num, Lib.hid ((HR1.out.drewN _).far (p := ⟨g2, i, none⟩) hg12 _), Lib.hid (((HR2.out.drewN _).set_ i (cc + vk)).congr fun j _ => (HSET.out (HOR.out.1 (by simp)) j).symm), Lib.hid ((below_drewN HB5.out _).setCell (p := ⟨g2, i, none⟩) HG.out.2 _)⟩
                    case measure => simp [intOf]; omega
                · clear ht2'
                  go_quiet (fail)
                  go_wp2_with fail
                  go_roundw
                  case rel => exact ⟨m + 1, k + 1, by have := HKM.out; omega, by omega, by go_num, Lib.hid ((HR1.out.drewN _).far (p := ⟨g2, i, none⟩) hg12 _), Lib.hid (((HR2.out.drewN _).set_ i (cc + vk)).congr fun j _ => (HSET.out (HOR.out.1 (by simp)) j).symm), Lib.hid ((below_drewN HB5.out _).setCell (p := ⟨g2, i, none⟩) HG.out.2 _)⟩
                  case measure => simp [intOf]; omega
            · skip
              obtain rfl : m = n - i := by omega
              clear hkm hkn
              go_wp2_with fail
              go_roundw
              case rel => exact ⟨i, by omega, by cases i with
                | zero => rfl
                | succ q => simp [bI], HR1, Lib.hid (HR2.out.congr fun j _ => frV_dn s (by omega) j), HB⟩
              case measure => simp [intOf, bI] <;> (cases i <;> simp [bI] <;> omega)
end Go.Proofs.Ytnbnfadmbggfnaa
