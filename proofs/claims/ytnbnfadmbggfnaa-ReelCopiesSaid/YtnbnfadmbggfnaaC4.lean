/- The spans that the splices of a press throw out, before they are joined; words for the memory of their walk; conditions: a right press. -/
import Derived.Test.YtnbnfadmbggfnaaC2
import Derived.Test.YtnbnfadmbggfnaaC3
import Derived.Test.YtnbnfadmbggfnaaB5
import Derived.Maps.OwnIn
import Derived.RangeFuncNested
set_option linter.unusedSimpArgs false
set_option linter.unusedVariables false
namespace Go.Rl
open Go.Fh Go.RowKit
def loS (p : PrsD) (v : WebD) (x : Int) : Int := max ((x - v.bef - v.off) / p.cut - p.margin) 0
def hiS (p : PrsD) (v : WebD) (n x : Int) : Int := min ((x + v.aft - 1 - v.off) / p.cut + p.margin) (n - 1)
def spnS (p : PrsD) (n : Int) (v : WebD) (x : Int) : List (Int × Int) := if v.bef + v.aft = 0 then [] else if loS p v x ≤ hiS p v n x then [(loS p v x, hiS p v n x)] else []
def rawW (p : PrsD) (n : Int) (v : WebD) : List (Int × Int) := (plcs v.reels).flatMap (spnS p n v)
def rawK (p : PrsD) (n : Int) (k : Nat) : List (Int × Int) := (p.webs.take k).flatMap (rawW p n)
theorem spnS_len (p : PrsD) (n : Int) (v : WebD) (x : Int) : (spnS p n v x).length ≤ 1 := by
  unfold spnS; split
  · simp
  · split <;> simp
theorem flat1_len {α β : Type} (f : α → List β) (h : ∀ x, (f x).length ≤ 1) : ∀ l : List α, (l.flatMap f).length ≤ l.length := by
  intro l
  induction l with
  | nil => simp
  | cons x l ih => rw [List.flatMap_cons, List.length_append, List.length_cons]; have := h x; omega
theorem spns_len (p : PrsD) (n : Int) (v : WebD) (l : List Int) : (l.flatMap (spnS p n v)).length ≤ l.length := flat1_len _ (spnS_len p n v) l
theorem rawW_len (p : PrsD) (n : Int) {v : WebD} (h : v.reels.length ≤ 20) : (rawW p n v).length ≤ 20 := by
  have := spns_len p n v (plcs v.reels)
  unfold rawW
  have h2 : (plcs v.reels).length = v.reels.length - 1 := by unfold plcs; exact upF_len _ _
  omega
theorem rawK_s {p : PrsD} (n : Int) {k : Nat} (h : k < p.webs.length) : rawK p n (k + 1) = rawK p n k ++ rawW p n p.webs[k] := by
  unfold rawK
  rw [List.take_add_one, List.flatMap_append]
  simp [h]
theorem rawK_len {p : PrsD} (n : Int) (hp : ∀ v ∈ p.webs, v.reels.length ≤ 20) : ∀ k, (rawK p n k).length ≤ 20 * k := by
  intro k
  induction k with
  | zero => simp [rawK]
  | succ k ih =>
    by_cases hk : k < p.webs.length
    · rw [rawK_s n hk, List.length_append]
      have := rawW_len p n (hp _ (List.getElem_mem hk))
      omega
    · have : rawK p n (k + 1) = rawK p n k := by unfold rawK; rw [List.take_of_length_le (by omega), List.take_of_length_le (by omega)]
      rw [this]; omega
theorem spnS_bd {p : PrsD} {n : Int} {v : WebD} {x : Int} {s : Int × Int} (h : s ∈ spnS p n v x) : 0 ≤ s.1 ∧ s.1 ≤ s.2 ∧ s.2 ≤ n - 1 := by
  unfold spnS at h
  split at h
  · simp at h
  · split at h
    · rename_i h2
      simp at h
      subst h
      refine ⟨?_, h2, ?_⟩
      · unfold loS; dsimp only; omega
      · unfold hiS; dsimp only; omega
    · simp at h
theorem rawK_bd {p : PrsD} {n : Int} {k : Nat} {s : Int × Int} (h : s ∈ rawK p n k) : 0 ≤ s.1 ∧ s.1 ≤ s.2 ∧ s.2 ≤ n - 1 := by
  unfold rawK at h
  obtain ⟨v, _, h⟩ := List.mem_flatMap.1 h
  unfold rawW at h
  obtain ⟨x, _, h⟩ := List.mem_flatMap.1 h
  exact spnS_bd h
theorem div_bd {a b : Int} (hb : 0 < b) (ha : -1000000000000 ≤ a) (ha2 : a ≤ 1000000000000) : -1000000000000 ≤ a / b ∧ a / b ≤ 1000000000000 := by
  constructor
  · exact Int.le_ediv_of_mul_le hb (by have : -1000000000000 * b ≤ -1000000000000 * 1 := Int.mul_le_mul_of_nonpos_left (by omega) (by omega); omega)
  · by_cases h : 0 ≤ a
    · exact Int.le_trans (Int.ediv_le_self _ h) ha2
    · have := Int.ediv_neg_of_neg_of_pos (show a < 0 by omega) hb; omega
/-- these blocks hold these objects -/
def Cov (Bs : List (Nat × Go.Obj)) (W : Go.World) : Prop := ∀ b ∈ Bs, W.heap[b.1]? = some b.2
/-- all blocks stay but one, and the block of a row -/
structure Keeps (W W' : Go.World) (g : Nat) (v : Go.Value) : Prop where
  os : W'.os = W.os
  tape : W'.tape = W.tape
  output : W'.output = W.output
  size : W.heap.size ≤ W'.heap.size
  block : ∀ j, j < W.heap.size → j ≠ g → v.ownBlock ≠ some j → W'.heap[j]? = W.heap[j]?
theorem Keeps.refl (W : Go.World) (g : Nat) (v : Go.Value) : Keeps W W g v := ⟨rfl, rfl, rfl, Nat.le_refl _, fun _ _ _ _ => rfl⟩
theorem Keeps.of_below {W W' : Go.World} {g : Nat} {v : Go.Value} (h : Below W.heap.size W W') : Keeps W W' g v := ⟨h.os, h.tape, h.output, h.size, fun j hj _ _ => h.block j hj⟩
theorem own_at {w : Go.World} {b : Nat} {e : Go.TypeId} {s n : Nat} {v : Go.Value} {xs : List Go.Value} (h : w.ownsRow b e s v n xs) {g : Nat} (hg : v.ownBlock = some g) : (∃ cs, w.heap[g]? = some (.cells cs e (0, 0))) ∧ b ≤ g := by
  rcases h.2 with ⟨rfl, _⟩ | ⟨g', cap, cur, rfl, h1, h2, _⟩
  · simp [Go.Value.ownBlock] at hg
  · simp [Go.Value.ownBlock] at hg
    subst hg
    exact ⟨⟨_, h2⟩, h1⟩
/-- a mark of deferred calls that were collected -/
def mark (r : Nat) : Go.Deferred := { target := .collected r, args := #[] }
end Go.Rl
namespace Go.Rl
open Go.Fh Go.RowKit
/-- a function's end, with marks among its deferred calls -/
theorem leaves_marks {F : Go.Fence} {n : Nat} {P : Go.Program} {fn : Go.Func} {tmps : Array Go.Value} {R : Go.Ending → Go.World → Prop} (J : Go.World → Prop) (lo : Nat)
    (hJ : ∀ r W, lo ≤ r → J W → W.heap[r]? = some (.deferred (some [])) → J (W.putObj r (.deferred none))) (hend : ∀ W, J W → Go.LeavesIn F n P fn tmps R [] .returning W) :
    ∀ (rs : List Nat), rs.Nodup → ∀ W, J W → (∀ r ∈ rs, lo ≤ r ∧ W.heap[r]? = some (.deferred (some []))) → Go.LeavesInM F n P fn tmps R (rs.map mark) .returning W := by
  intro rs
  induction rs with
  | nil => exact fun _ W h _ => hend W h
  | cons r rs ih =>
    intro hn W h hd
    refine ⟨by simp, .inl ⟨r, _, rfl, Go.run_takeDeferred (hd r (by simp)).2, ?_⟩⟩
    refine ih (List.nodup_cons.1 hn).2 _ (hJ r W (hd r (by simp)).1 h (hd r (by simp)).2) fun q hq => ?_
    have hne : q ≠ r := fun e => (List.nodup_cons.1 hn).1 (e ▸ hq)
    exact ⟨(hd q (by simp [hq])).1, (Go.World.putObj_heap_other hne).trans (hd q (by simp [hq])).2⟩
/-- a round's end: W as the round began, W2 as its body began -/
theorem rnd_end {lo d g w : Nat} {W W2 W' : Go.World} {v : Go.Value} {xs : List Go.Value} {n : Nat} {Bs : List (Nat × Go.Obj)} (hg2 : W.grownBy W2 (some (d + 1))) (hk : Keeps W2 W' g v) (hrow : W2.ownsRow w 43 2 v n xs) (hd : ∀ r, d ≤ r → r ≤ d + 2 → v.ownBlock ≠ some r)
    (hlo : lo ≤ w) (hw : w ≤ g) (hgd : g < d) (hg43 : ∀ cs fr, W2.heap[g]? ≠ some (.cells cs 43 fr)) (hsz : d + 2 < W.heap.size) (hc : Cov Bs W) (hB : ∀ b ∈ Bs, b.1 < d ∧ b.1 ≠ g ∧ ∀ cs fr, b.2 ≠ .cells cs 43 fr) :
    Two d W2 W' ∧ KpI lo (d + 2) W W' ∧ Cov Bs W' ∧ Below w W W' := by
  have hs2 := hg2.size
  have hown : ∀ j, v.ownBlock = some j → w ≤ j := fun j e => (own_at hrow e).2
  have htyp : ∀ j o, W2.heap[j]? = some o → (∀ cs fr, o ≠ .cells cs 43 fr) → v.ownBlock ≠ some j := by
    intro j o ho hne e
    obtain ⟨⟨cs, hcs⟩, _⟩ := own_at hrow e
    rw [ho] at hcs
    injection hcs with hcs
    exact hne _ _ hcs
  have hbl : Below w W W' := by
    refine ⟨hk.os.trans hg2.os, hk.tape.trans hg2.tape, hk.output.trans hg2.output, Nat.le_trans hs2 hk.size, fun j hj => ?_⟩
    rw [hk.block j (by omega) (by omega) (fun e => by have := hown j e; omega), hg2.block j (by omega) (fun e => by injection e with e; omega)]
  refine ⟨⟨hk.block d (by omega) (by omega) (hd _ (by omega) (by omega)), hk.block (d + 1) (by omega) (by omega) (hd _ (by omega) (by omega))⟩, ⟨hbl.mono hlo, fun j cs hj hcs => ?_⟩, fun b hb => ?_, hbl⟩
  · have hjl : j < W.heap.size := hcs.lt
    have h2 : W2.heap[j]? = some (.cells cs 54 (0, 0)) := (hg2.block j hjl (fun e => by injection e with e; omega)).trans hcs
    exact (hk.block j (by omega) (by omega) (htyp j _ h2 (by intro cs fr e; injection e with _ e _; exact absurd e (by decide)))).trans h2
  · obtain ⟨h1, h2, h3⟩ := hB b hb
    have h4 : W2.heap[b.1]? = some b.2 := (hg2.block b.1 (by omega) (fun e => by injection e with e; omega)).trans (hc b hb)
    exact (hk.block b.1 (by omega) h2 (htyp _ _ h4 h3)).trans h4
end Go.Rl
