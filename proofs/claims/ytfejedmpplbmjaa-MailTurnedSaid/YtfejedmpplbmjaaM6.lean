/- The table of stacks: memory words and the contract of can; conditions: numbers that fit. -/
import Derived.Test.YtfejedmpplbmjaaM5
set_option linter.unusedSimpArgs false
set_option linter.unusedVariables false
namespace Go.Ml
open Go.Fh Go Go.RowKit
/-- a row of truths: which leans are good -/
def rowV (N K : Nat) (last : Int) (f j u : Nat) : Array Value := ((List.range (2 * K + 1)).map fun y : Nat => Value.bool (canF N K last f j u ((y : Int) - K))).toArray
/-- the rows behind the first layers lie in memory -/
def TabI (N K m : Nat) (last : Int) (W : World) (i : Nat) (v : Value) : Prop :=
  ∃ (ga ca : Nat) (gR : Nat → Nat), v = .slice (some ⟨ga, 0, none⟩) (N + 1) ca ∧ (∃ cs, Blk W ga 42 cs ∧ ∀ u, u ≤ N → cs[u]? = some (.slice (some ⟨gR u, 0, none⟩) (2 * K + 1) (2 * K + 1))) ∧ ∀ u, u ≤ N → Blk W (gR u) 4 (rowV N K last (m - i) i u)
theorem bset {w W : World} {b : Nat} (h : Below w.heap.size w W) (hb : w.heap.size ≤ b) (o : Nat) (u : Value) : Below w.heap.size w (W.setCell ⟨b, o, none⟩ u) :=
  h.grown (gr_set W b o u) h.size (fun j hj => by injection hj with hj; omega)
/-- all blocks stay but those of slices of tables -/
def KT (W W' : World) : Prop := W.heap.size ≤ W'.heap.size ∧ ∀ q t cs, t ≠ 151 → Blk W q t cs → Blk W' q t cs
theorem KT.refl (W : World) : KT W W := ⟨Nat.le_refl _, fun _ _ _ _ h => h⟩
theorem KT.below {W X Y : World} (h : KT W X) (hb : Below X.heap.size X Y) : KT W Y := ⟨Nat.le_trans h.1 hb.size, fun q t cs ht hk => (h.2 q t cs ht hk).below hb (h.2 q t cs ht hk).lt⟩
theorem KT.set {W X : World} (h : KT W X) {g : Nat} {cs : Array Value} (hg : Blk X g 151 cs) (o : Nat) (u : Value) : KT W (X.setCell ⟨g, o, none⟩ u) :=
  ⟨by simpa [World.setCell] using h.1, fun q t ds ht hk => (h.2 q t ds ht hk).far (p := ⟨g, o, none⟩) (Blk.ne_ (h.2 q t ds ht hk) hg ht) u⟩
theorem KT.own {W X Y : World} (h : KT W X) {v : Value} (hg : X.grownBy Y v.ownBlock) (ho : ∀ j, v.ownBlock = some j → W.heap.size ≤ j) : KT W Y :=
  ⟨Nat.le_trans h.1 hg.size, fun q t cs ht hk => (h.2 q t cs ht hk).grown hg fun e => by have h1 := ho q e.symm; have h2 := hk.lt; omega⟩
theorem TabI.keep {N K m : Nat} {last : Int} {W W' : World} {i : Nat} {v : Value} (h : TabI N K m last W i v) (k : KT W W') : TabI N K m last W' i v := by
  obtain ⟨ga, ca, gR, hv, ⟨cs, h1, h2⟩, h3⟩ := h
  exact ⟨ga, ca, gR, hv, ⟨cs, k.2 _ _ _ (by decide) h1, h2⟩, fun u hu => k.2 _ _ _ (by decide) (h3 u hu)⟩
theorem TabI.below {N K m : Nat} {last : Int} {W W' : World} {i : Nat} {v : Value} (h : TabI N K m last W i v) (hb : Below W.heap.size W W') : TabI N K m last W' i v := h.keep ((KT.refl W).below hb)
def outV (m : Nat) (f : Nat → Value) : Array Value := ((List.range (m + 1)).map f).toArray
theorem outV_cell {W : World} {g m : Nat} {f : Nat → Value} (h : Blk W g 151 (outV m f)) {i : Nat} (hi : i ≤ m) : W.cell? ⟨g, i, none⟩ = some (f i) := by
  rw [h.cell i]
  simp [outV, show i < m + 1 by omega]
theorem outV_set {W : World} {g m : Nat} {f : Nat → Value} (h : Blk W g 151 (outV m f)) (i : Nat) (u : Value) : Blk (W.setCell ⟨g, i, none⟩ u) g 151 (outV m fun q => if q = i then u else f q) := by
  have := h.set_ i u
  have e : (outV m f).setIfInBounds i u = outV m (fun q => if q = i then u else f q) := by
    apply Array.ext
    · simp [outV]
    · intro q h1 h2
      simp [outV, Array.getElem_setIfInBounds]
      by_cases hq : q = i
      · subst hq; simp
      · simp [hq, Ne.symm hq]
  rw [e] at this
  exact this
/-- a row under way: up to place t, with b at place t -/
def parV (N K : Nat) (last : Int) (f j u t : Nat) (b : Bool) : Array Value := ((List.range (2 * K + 1)).map fun y : Nat => Value.bool (if y < t then canF N K last f j u ((y : Int) - K) else if y = t then b else false)).toArray
theorem parV_cell {W : World} {g N K f j u t : Nat} {last : Int} {b : Bool} (h : Blk W g 4 (parV N K last f j u t b)) (ht : t < 2 * K + 1) : W.cell? ⟨g, t, none⟩ = some (.bool b) := by
  rw [h.cell t]
  simp [parV, ht]
theorem parV_set {W : World} {g N K f j u t : Nat} {last : Int} {b : Bool} (h : Blk W g 4 (parV N K last f j u t b)) (c : Bool) : Blk (W.setCell ⟨g, t, none⟩ (.bool c)) g 4 (parV N K last f j u t c) := by
  have := h.set_ t (.bool c)
  have e : (parV N K last f j u t b).setIfInBounds t (.bool c) = parV N K last f j u t c := by
    apply Array.ext
    · simp [parV]
    · intro q h1 h2
      simp [parV, Array.getElem_setIfInBounds]
      by_cases hq : q = t
      · subst hq; simp
      · simp [hq, Ne.symm hq]
  rw [e] at this
  exact this
theorem parV_next {N K f j u t : Nat} {last : Int} {b : Bool} (hb : b = canF N K last f j u ((t : Int) - K)) : parV N K last f j u t b = parV N K last f j u (t + 1) false := by
  unfold parV
  congr 1
  apply List.map_congr_left
  intro y _
  by_cases h1 : y < t
  · simp [h1, show y < t + 1 by omega]
  · by_cases h2 : y = t
    · subst h2; simp [hb]
    · simp [h1, h2, show ¬ y < t + 1 by omega]
theorem parV_all {N K f j u : Nat} {last : Int} {b : Bool} : parV N K last f j u (2 * K + 1) b = rowV N K last f j u := by
  unfold parV rowV
  congr 1
  apply List.map_congr_left
  intro y hy
  simp [List.mem_range.1 hy]
theorem parV_zero {N K f j u : Nat} {last : Int} : parV N K last f j u 0 false = (List.replicate (2 * K + 1) (Value.bool false)).toArray := by
  unfold parV
  congr 1
  refine List.ext_getElem (by simp) fun i h1 h2 => by simp
/-- what is left of a search once a lean is too much -/
theorem can_stop {N K f j u : Nat} {last x : Int} {k : Nat} (hx : -(K : Int) ≤ x ∧ x ≤ K) (hk : 1 ≤ k) (h0 : ∀ i, i < k - 1 → (inL (leanS x ((i : Int) + 1) j) K && canF N K last f (j + 1) ((u : Int) + ((i : Int) + 1)) (leanS x ((i : Int) + 1) j)) = false)
    (h : (N : Int) < u + k ∨ inL (leanS x (k : Int) j) K = false) : canF N K last (f + 1) j u x = false := by
  cases hc : canF N K last (f + 1) j u x with
  | false => rfl
  | true =>
    unfold canF at hc
    obtain ⟨i, hi, hh⟩ := List.any_eq_true.1 hc
    have hi2 := List.mem_range.1 hi
    rcases Nat.lt_or_ge i (k - 1) with h1 | h1
    · rw [h0 i h1] at hh; cases hh
    · rcases h with h | h
      · omega
      · rw [Bool.and_eq_true] at hh
        have hb := inL_iff.1 hh.1
        have hn : ¬ (-(K : Int) ≤ leanS x (k : Int) j ∧ leanS x (k : Int) j ≤ K) := fun hc => by rw [inL_iff.2 hc] at h; cases h
        unfold leanS at hb hn
        split at hb <;> omega
theorem can_hit {N K f j u : Nat} {last x : Int} {k : Nat} (hk : 1 ≤ k) (hu : (u : Int) + k ≤ N) (h1 : inL (leanS x (k : Int) j) K = true) (h2 : canF N K last f (j + 1) ((u : Int) + k) (leanS x (k : Int) j) = true) : canF N K last (f + 1) j u x = true := by
  unfold canF
  refine List.any_eq_true.2 ⟨k - 1, List.mem_range.2 (by omega), ?_⟩
  rw [show ((k - 1 : Nat) : Int) + 1 = k by omega, h1, h2]
  rfl
end Go.Ml
