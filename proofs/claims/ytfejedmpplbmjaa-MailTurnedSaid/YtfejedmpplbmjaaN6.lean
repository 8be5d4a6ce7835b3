/- Plain words for counts, and memory words for two rows in the making; conditions: as each says. -/
import Derived.Test.YtfejedmpplbmjaaN5
import Derived.Test.YtfejedmpplbmjaaQT
set_option linter.unusedSimpArgs false
set_option linter.unusedVariables false
namespace Go.Ml
open Go.RowKit Go.Fh
/-- a number more at a place -/
def stepF (c : Int → Int) (f : Nat → Int) (h : Int) : Nat → Int := fun q => if (q : Int) = h then f q + c h else f q
def cntL (c : Int → Int) (L : List Int) (f : Nat → Int) : Nat → Int := L.foldl (stepF c) f
/-- what hoppers count over the copies ks -/
def cntS (d : LnD) (zs : List Int) (c : Int → Int → Int) (ks : List Int) : Nat → Int := ks.foldl (fun f k => cntL (c k) (fdsS d (zAt zs k)) f) (fun _ => 0)
theorem cntL_app (c : Int → Int) (L : List Int) (h : Int) (f : Nat → Int) : cntL c (L ++ [h]) f = stepF c (cntL c L f) h := by simp [cntL]
theorem cntS_app (d : LnD) (zs : List Int) (c : Int → Int → Int) (ks : List Int) (k : Int) : cntS d zs c (ks ++ [k]) = cntL (c k) (fdsS d (zAt zs k)) (cntS d zs c ks) := by simp [cntS]
theorem cntL_bd {c : Int → Int} (hc : ∀ h, 0 ≤ c h ∧ c h ≤ 2) : ∀ (L : List Int) (f : Nat → Int) (q : Nat), f q ≤ cntL c L f q ∧ cntL c L f q ≤ f q + 2 * (L.length : Int) := by
  intro L
  induction L with
  | nil => intro f q; simp [cntL]
  | cons h L ih =>
    intro f q
    have h1 := ih (stepF c f h) q
    have h2 : f q ≤ stepF c f h q ∧ stepF c f h q ≤ f q + 2 := by
      have := hc h
      unfold stepF
      split <;> omega
    have h3 : cntL c (h :: L) f = cntL c L (stepF c f h) := rfl
    rw [h3, List.length_cons]
    omega
theorem cntS_go {d : LnD} {zs : List Int} {c : Int → Int → Int} (hc : ∀ k h, 0 ≤ c k h ∧ c k h ≤ 2) (hL : ∀ z, (fdsS d z).length ≤ 16) : ∀ (ks : List Int) (f : Nat → Int) (q : Nat), f q ≤ ks.foldl (fun f k => cntL (c k) (fdsS d (zAt zs k)) f) f q ∧ ks.foldl (fun f k => cntL (c k) (fdsS d (zAt zs k)) f) f q ≤ f q + 32 * (ks.length : Int) := by
  intro ks
  induction ks with
  | nil => intro f q; simp
  | cons k ks ih =>
    intro f q
    have h1 := ih (cntL (c k) (fdsS d (zAt zs k)) f) q
    have h2 := cntL_bd (hc k) (fdsS d (zAt zs k)) f q
    have h3 := hL (zAt zs k)
    rw [List.foldl_cons, List.length_cons]
    omega
theorem cntS_bd {d : LnD} {zs : List Int} {c : Int → Int → Int} (hc : ∀ k h, 0 ≤ c k h ∧ c k h ≤ 2) (hL : ∀ z, (fdsS d z).length ≤ 16) (ks : List Int) (q : Nat) : 0 ≤ cntS d zs c ks q ∧ cntS d zs c ks q ≤ 32 * (ks.length : Int) := by
  have := cntS_go (zs := zs) hc hL ks (fun _ => 0) q
  unfold cntS
  omega
theorem fds_len {d : LnD} (h : chkL d = 0) (z : Int) : (fdsS d z).length ≤ 16 := by
  unfold fdsS
  rw [List.length_map]
  rcases Nat.lt_or_ge z.toNat d.zones.length with hz | hz
  · exact zn_len h (getD_mem hz)
  · rw [List.getD_eq_getElem?_getD, List.getElem?_eq_none hz]; simp
theorem fds_mem {d : LnD} (h : chkL d = 0) (z : Int) : ∀ q ∈ fdsS d z, 0 ≤ q ∧ q < (d.hops.length : Int) := by
  intro q hq
  unfold fdsS at hq
  obtain ⟨p, hp, rfl⟩ := List.mem_map.1 hq
  refine ⟨?_, (fdS_bd _ _).2⟩
  rcases Nat.lt_or_ge z.toNat d.zones.length with hz | hz
  · have h1 := (chk_ok h).2.2.2.2.2 _ (getD_mem hz)
    unfold znW at h1
    rw [Bool.or_eq_false_iff] at h1
    have h2 := List.any_eq_false.1 h1.2 p hp
    simp at h2
    exact h2
  · rw [List.getD_eq_getElem?_getD, List.getElem?_eq_none hz] at hp; cases hp
theorem bat_mem {bt n b : Nat} {x : Int} (h : x ∈ batS bt n b) : ∃ k : Nat, x = (k : Int) ∧ k < n := by
  unfold batS upF at h
  obtain ⟨i, hi, rfl⟩ := List.mem_map.1 h
  refine ⟨_, rfl, ?_⟩
  have := List.mem_range.1 hi
  omega
theorem bat_len {bt n b : Nat} : (batS bt n b).length ≤ bt := by
  unfold batS upF
  rw [List.length_map, List.length_range, Nat.add_mul, Nat.one_mul]
  omega
/-- but for two blocks, and for growth, the world is the same -/
def Off2 (lo p q : Nat) (A B : World) : Prop := lo ≤ A.heap.size ∧ Below lo A B ∧ ∀ j, j < A.heap.size → j ≠ p → j ≠ q → B.heap[j]? = A.heap[j]?
section
variable {lo p q : Nat} {A B C : World}
theorem Off2.refl (h : lo ≤ A.heap.size) : Off2 lo p q A A := ⟨h, Below.refl _ _, fun _ _ _ _ => rfl⟩
theorem Off2.below (h : Off2 lo p q A B) (hb : Below B.heap.size B C) : Off2 lo p q A C := ⟨h.1, h.2.1.trans (hb.mono (Nat.le_trans h.1 h.2.1.size)), fun j hj h1 h2 => (hb.block j (Nat.lt_of_lt_of_le hj h.2.1.size)).trans (h.2.2 j hj h1 h2)⟩
theorem Off2.drew (h : Off2 lo p q A B) : Off2 lo p q A B.drew := h.below (Below.refl _ _).drew
theorem Off2.setP (h : Off2 lo p q A B) (hp : lo ≤ p) (i : Nat) (v : Value) : Off2 lo p q A (B.setCell ⟨p, i, none⟩ v) :=
  ⟨h.1, h.2.1.setCell (p := ⟨p, i, none⟩) hp v, fun j hj h1 h2 => (Below.heap_setCell B ⟨p, i, none⟩ v j h1).trans (h.2.2 j hj h1 h2)⟩
theorem Off2.setQ (h : Off2 lo p q A B) (hq : lo ≤ q) (i : Nat) (v : Value) : Off2 lo p q A (B.setCell ⟨q, i, none⟩ v) :=
  ⟨h.1, h.2.1.setCell (p := ⟨q, i, none⟩) hq v, fun j hj h1 h2 => (Below.heap_setCell B ⟨q, i, none⟩ v j h2).trans (h.2.2 j hj h1 h2)⟩
theorem Off2.blk {g t : Nat} {cs : Array Value} (h : Off2 lo p q A B) (k : Blk A g t cs) (h1 : g ≠ p) (h2 : g ≠ q) : Blk B g t cs := (h.2.2 g k.lt h1 h2).trans k
theorem Off2.size (h : Off2 lo p q A B) : A.heap.size ≤ B.heap.size := h.2.1.size
end
end Go.Ml
namespace Go.Fh
open Go.RowKit
theorem region_round_T {P : Program} {l n id : Nat} {ops : Array Oper} {Q : Exit → Act → World → Prop} {a : Act} {w : World} {S T : World → Prop} (st : Nat) (hm : P.follows .mixedOrders = true) (hd : noDefer ops = true) (hS : S w.drew ∧ T w.drew)
    (h : S w.drew → T w.drew → wpAnyT P .any ops (Calm Q) S T st ops.size (Array.replicate ops.size false) a w.drew) : (Code.region id ops true).wpIn (Fence.wide.inRound l) n P Q a w :=
  region_round hm hd (wpAny_of_T _ _ _ _ (h hS.1 hS.2))
end Go.Fh
