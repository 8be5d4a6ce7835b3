/- A flow in the making: memory words; conditions: as each says. Printed by a program. -/
import Derived.Test.YtfejedmpplbmjaaNA
set_option linter.unusedSimpArgs false
set_option linter.unusedVariables false
namespace Go.Ml
open Go.RowKit Go.Fh Go.Proofs.Ytfejedmpplbmjaa
/-- a copy, and where its parts lie -/
structure CpR where
  num : Int
  zone : Int
  a : Option Addr
  c : Nat
  parts : List Int
  right : Bool
def encC (r : CpR) : List Value := [.int .i64 r.num, .int .i64 r.zone, .slice r.a r.parts.length r.c, .bool r.right]
def CpR.bare (r : CpR) : Int × Int × List Int × Bool := (r.num, r.zone, r.parts, r.right)
theorem cell_eq {W W' : World} {b o : Nat} (h : W'.heap[b]? = W.heap[b]?) : W'.cell? ⟨b, o, none⟩ = W.cell? ⟨b, o, none⟩ := by simp [World.cell?, h]
theorem sl_turn {α : Type} {enc : α → List Value} {size N N' : Nat} {W W' : World} {A : Option Addr} {l : List α} (h : Sl enc size W N A l) (hN : N ≤ N') (hk : ∀ b o, A = some ⟨b, o, none⟩ → b < N → W'.heap[b]? = W.heap[b]?) : Sl enc size W' N' A l := fun hn => by
  obtain ⟨b, off, hA, hb, hc⟩ := h hn
  exact ⟨b, off, hA, Nat.lt_of_lt_of_le hb hN, fun k x hx j u hu => (cell_eq (hk b off hA hb)).trans (hc k x hx j u hu)⟩
theorem own_turn {W W' : World} {base B t n s : Nat} {e : TypeId} {v : Value} {xs : List Value} {cs : Array Value} {row : Option Nat} (h : W.ownsRow base e s v n xs) (kB : Blk W B t cs) (he : e ≠ t) (hk : ∀ j, j < W.heap.size → j ≠ B → some j ≠ row → W'.heap[j]? = W.heap[j]?) (hr : ∀ b, v.ownBlock = some b → some b ≠ row) : W'.ownsRow base e s v n xs :=
  own_heap h fun g cs2 hg hc => hk g (lt_of_heap hc) (fun e2 => by
    subst e2
    unfold Blk at kB
    rw [hc] at kB
    injection kB with kB
    injection kB with _ e3 _
    exact he e3) (hr g hg)
theorem own_set {W : World} {base B t n s i : Nat} {e : TypeId} {v u : Value} {xs : List Value} {cs : Array Value} (h : W.ownsRow base e s v n xs) (kB : Blk W B t cs) (he : e ≠ t) : (W.setCell ⟨B, i, none⟩ u).ownsRow base e s v n xs :=
  own_turn (row := none) h kB he (fun j _ h1 _ => Below.heap_setCell W ⟨B, i, none⟩ u j h1) (fun b hv => by simp)
/-- a flow in the making: its box, its four rows -/
structure FlM (W : World) (base B : Nat) (rows : List CpR) (l1 l2 l3 : List Int) (vC v1 v2 v3 : Value) : Prop where
  kB : Blk W B 36 #[vC, v1, v2, v3]
  rC : W.ownsRow base 44 4 vC rows.length (rows.flatMap encC)
  r1 : W.ownsRow base 3 1 v1 l1.length (l1.map (Value.int .i64))
  r2 : W.ownsRow base 3 1 v2 l2.length (l2.map (Value.int .i64))
  r3 : W.ownsRow base 3 1 v3 l3.length (l3.map (Value.int .i64))
  n12 : ∀ b, v1.ownBlock = some b → v2.ownBlock ≠ some b
  n13 : ∀ b, v1.ownBlock = some b → v3.ownBlock ≠ some b
  n23 : ∀ b, v2.ownBlock = some b → v3.ownBlock ≠ some b
  pP : ∀ r ∈ rows, Sl encInt 1 W W.heap.size r.a r.parts ∧ ∀ b o, r.a = some ⟨b, o, none⟩ → vC.ownBlock ≠ some b ∧ v1.ownBlock ≠ some b ∧ v2.ownBlock ≠ some b ∧ v3.ownBlock ≠ some b
  pB : ∀ r ∈ rows, ∀ b o, r.a = some ⟨b, o, none⟩ → (base ≤ b ∧ b < W.heap.size) ∧ b ≠ B
  hb : base ≤ W.heap.size
  hB : base ≤ B
theorem FlM.nB {W : World} {base B : Nat} {rows : List CpR} {l1 l2 l3 : List Int} {vC v1 v2 v3 : Value} (h : FlM W base B rows l1 l2 l3 vC v1 v2 v3) (r : CpR) (hr : r ∈ rows) (b o : Nat) (hA : r.a = some ⟨b, o, none⟩) : b ≠ B := (h.pB r hr b o hA).2
theorem FlM.pL {W : World} {base B : Nat} {rows : List CpR} {l1 l2 l3 : List Int} {vC v1 v2 v3 : Value} (h : FlM W base B rows l1 l2 l3 vC v1 v2 v3) (r : CpR) (hr : r ∈ rows) (b o : Nat) (hA : r.a = some ⟨b, o, none⟩) : b < W.heap.size := (h.pB r hr b o hA).1.2
theorem FlM.below {W W' : World} {base B : Nat} {rows : List CpR} {l1 l2 l3 : List Int} {vC v1 v2 v3 : Value} (h : FlM W base B rows l1 l2 l3 vC v1 v2 v3) (hb : Below W.heap.size W W') : FlM W' base B rows l1 l2 l3 vC v1 v2 v3 :=
  ⟨h.kB.below hb h.kB.lt, own_belowV h.rC hb, own_belowV h.r1 hb, own_belowV h.r2 hb, own_belowV h.r3 hb, h.n12, h.n13, h.n23, fun r hr => ⟨((h.pP r hr).1.below hb).mono hb.size, (h.pP r hr).2⟩, fun r hr b o hA => ⟨⟨(h.pB r hr b o hA).1.1, Nat.lt_of_lt_of_le (h.pB r hr b o hA).1.2 hb.size⟩, (h.pB r hr b o hA).2⟩, Nat.le_trans h.hb hb.size, h.hB⟩
theorem FlM.app1 {W W2 W9 : World} {base B : Nat} {rows : List CpR} {l1 l2 l3 : List Int} {vC v1 v2 v3 v9 : Value} {x : Int} (h : FlM W base B rows l1 l2 l3 vC v1 v2 v3) (hb : Below W.heap.size W W2) (hg : W2.grownBy W9 v1.ownBlock)
    (ho : W9.ownsRow base 3 1 v9 (l1 ++ [x]).length ((l1 ++ [x]).map (Value.int .i64))) (hat : v1.ownBlock = v9.ownBlock ∨ v9.ownBlock = some W2.heap.size) : FlM (W9.setCell ⟨B, 1, none⟩ v9) base B rows (l1 ++ [x]) l2 l3 vC v9 v2 v3 := by
  have h2 := h.below hb
  have a2 := (fun b hv => h2.n12 b hv)
  have a3 := (fun b hv => h2.n13 b hv)
  have kB9 : Blk W9 B 36 #[vC, v1, v2, v3] := h2.kB.grown hg (fun e => by
    obtain ⟨⟨cs, hc⟩, _⟩ := own_at h2.r1 e.symm
    have := h2.kB
    unfold Blk at this
    rw [hc] at this
    injection this with this
    injection this with _ e2 _
    cases e2)
  have hk : ∀ j, j < W2.heap.size → j ≠ B → some j ≠ v1.ownBlock → (W9.setCell ⟨B, 1, none⟩ v9).heap[j]? = W2.heap[j]? := fun j hj h1 h3 => (Below.heap_setCell W9 ⟨B, 1, none⟩ v9 j h1).trans (hg.block j hj h3)
  have hs : W2.heap.size ≤ (W9.setCell ⟨B, 1, none⟩ v9).heap.size := by have := hg.size; simpa [World.setCell] using this
  have hC : ∀ b, vC.ownBlock = some b → some b ≠ v1.ownBlock := fun b hv e => by
    rcases own_own_ne h2.rC h2.r1 (by decide) with q | q
    · rw [q] at hv; cases hv
    · exact q (hv.trans e)
  refine ⟨by simpa using kB9.set_ 1 v9, own_turn h2.rC h2.kB (by decide) hk hC, own_set ho kB9 (by decide), own_turn h2.r2 h2.kB (by decide) hk (fun b hv e => a2 b e.symm hv), own_turn h2.r3 h2.kB (by decide) hk (fun b hv e => a3 b e.symm hv), fun b hv e => by
    rcases hat with ht | ht
    · exact a2 b (ht.trans hv) e
    · rw [ht] at hv
      injection hv with hv
      obtain ⟨⟨cs, hc⟩, _⟩ := own_at h2.r2 e
      have := lt_of_heap hc
      omega, fun b hv e => by
    rcases hat with ht | ht
    · exact a3 b (ht.trans hv) e
    · rw [ht] at hv
      injection hv with hv
      obtain ⟨⟨cs, hc⟩, _⟩ := own_at h2.r3 e
      have := lt_of_heap hc
      omega, h2.n23, fun r hr => ?_, fun r hr b o hA => ⟨⟨(h2.pB r hr b o hA).1.1, Nat.lt_of_lt_of_le (h2.pL r hr b o hA) hs⟩, h2.nB r hr b o hA⟩, Nat.le_trans h2.hb hs, h2.hB⟩
  obtain ⟨p1, p2⟩ := h2.pP r hr
  refine ⟨sl_turn p1 hs (fun b o hA hl => hk b hl (fun e => ?_) (fun e => (p2 b o hA).2.1 e.symm)), fun b o hA => ?_⟩
  · subst e
    exact (h2.nB r hr b o hA) rfl
  · obtain ⟨q0, q1, q2, q3⟩ := p2 b o hA
    have q9 : v9.ownBlock ≠ some b := fun e => by
      rcases hat with ht | ht
      · exact q1 (ht.trans e)
      · rw [ht] at e
        injection e with e
        have := h2.pL r hr b o hA
        omega
    exact ⟨q0, q9, q2, q3⟩
theorem FlM.app2 {W W2 W9 : World} {base B : Nat} {rows : List CpR} {l1 l2 l3 : List Int} {vC v1 v2 v3 v9 : Value} {x : Int} (h : FlM W base B rows l1 l2 l3 vC v1 v2 v3) (hb : Below W.heap.size W W2) (hg : W2.grownBy W9 v2.ownBlock)
    (ho : W9.ownsRow base 3 1 v9 (l2 ++ [x]).length ((l2 ++ [x]).map (Value.int .i64))) (hat : v2.ownBlock = v9.ownBlock ∨ v9.ownBlock = some W2.heap.size) : FlM (W9.setCell ⟨B, 2, none⟩ v9) base B rows l1 (l2 ++ [x]) l3 vC v1 v9 v3 := by
  have h2 := h.below hb
  have a1 := (fun b hv e => h2.n12 b e hv)
  have a3 := (fun b hv => h2.n23 b hv)
  have kB9 : Blk W9 B 36 #[vC, v1, v2, v3] := h2.kB.grown hg (fun e => by
    obtain ⟨⟨cs, hc⟩, _⟩ := own_at h2.r2 e.symm
    have := h2.kB
    unfold Blk at this
    rw [hc] at this
    injection this with this
    injection this with _ e2 _
    cases e2)
  have hk : ∀ j, j < W2.heap.size → j ≠ B → some j ≠ v2.ownBlock → (W9.setCell ⟨B, 2, none⟩ v9).heap[j]? = W2.heap[j]? := fun j hj h1 h3 => (Below.heap_setCell W9 ⟨B, 2, none⟩ v9 j h1).trans (hg.block j hj h3)
  have hs : W2.heap.size ≤ (W9.setCell ⟨B, 2, none⟩ v9).heap.size := by have := hg.size; simpa [World.setCell] using this
  have hC : ∀ b, vC.ownBlock = some b → some b ≠ v2.ownBlock := fun b hv e => by
    rcases own_own_ne h2.rC h2.r2 (by decide) with q | q
    · rw [q] at hv; cases hv
    · exact q (hv.trans e)
  refine ⟨by simpa using kB9.set_ 2 v9, own_turn h2.rC h2.kB (by decide) hk hC, own_turn h2.r1 h2.kB (by decide) hk (fun b hv e => a1 b e.symm hv), own_set ho kB9 (by decide), own_turn h2.r3 h2.kB (by decide) hk (fun b hv e => a3 b e.symm hv), fun b e hv => by
    rcases hat with ht | ht
    · exact a1 b (ht.trans hv) e
    · rw [ht] at hv
      injection hv with hv
      obtain ⟨⟨cs, hc⟩, _⟩ := own_at h2.r1 e
      have := lt_of_heap hc
      omega, h2.n13, fun b hv e => by
    rcases hat with ht | ht
    · exact a3 b (ht.trans hv) e
    · rw [ht] at hv
      injection hv with hv
      obtain ⟨⟨cs, hc⟩, _⟩ := own_at h2.r3 e
      have := lt_of_heap hc
      omega, fun r hr => ?_, fun r hr b o hA => ⟨⟨(h2.pB r hr b o hA).1.1, Nat.lt_of_lt_of_le (h2.pL r hr b o hA) hs⟩, h2.nB r hr b o hA⟩, Nat.le_trans h2.hb hs, h2.hB⟩
  obtain ⟨p1, p2⟩ := h2.pP r hr
  refine ⟨sl_turn p1 hs (fun b o hA hl => hk b hl (fun e => ?_) (fun e => (p2 b o hA).2.2.1 e.symm)), fun b o hA => ?_⟩
  · subst e
    exact (h2.nB r hr b o hA) rfl
  · obtain ⟨q0, q1, q2, q3⟩ := p2 b o hA
    have q9 : v9.ownBlock ≠ some b := fun e => by
      rcases hat with ht | ht
      · exact q2 (ht.trans e)
      · rw [ht] at e
        injection e with e
        have := h2.pL r hr b o hA
        omega
    exact ⟨q0, q1, q9, q3⟩
theorem FlM.app3 {W W2 W9 : World} {base B : Nat} {rows : List CpR} {l1 l2 l3 : List Int} {vC v1 v2 v3 v9 : Value} {x : Int} (h : FlM W base B rows l1 l2 l3 vC v1 v2 v3) (hb : Below W.heap.size W W2) (hg : W2.grownBy W9 v3.ownBlock)
    (ho : W9.ownsRow base 3 1 v9 (l3 ++ [x]).length ((l3 ++ [x]).map (Value.int .i64))) (hat : v3.ownBlock = v9.ownBlock ∨ v9.ownBlock = some W2.heap.size) : FlM (W9.setCell ⟨B, 3, none⟩ v9) base B rows l1 l2 (l3 ++ [x]) vC v1 v2 v9 := by
  have h2 := h.below hb
  have a1 := (fun b hv e => h2.n13 b e hv)
  have a2 := (fun b hv e => h2.n23 b e hv)
  have kB9 : Blk W9 B 36 #[vC, v1, v2, v3] := h2.kB.grown hg (fun e => by
    obtain ⟨⟨cs, hc⟩, _⟩ := own_at h2.r3 e.symm
    have := h2.kB
    unfold Blk at this
    rw [hc] at this
    injection this with this
    injection this with _ e2 _
    cases e2)
  have hk : ∀ j, j < W2.heap.size → j ≠ B → some j ≠ v3.ownBlock → (W9.setCell ⟨B, 3, none⟩ v9).heap[j]? = W2.heap[j]? := fun j hj h1 h3 => (Below.heap_setCell W9 ⟨B, 3, none⟩ v9 j h1).trans (hg.block j hj h3)
  have hs : W2.heap.size ≤ (W9.setCell ⟨B, 3, none⟩ v9).heap.size := by have := hg.size; simpa [World.setCell] using this
  have hC : ∀ b, vC.ownBlock = some b → some b ≠ v3.ownBlock := fun b hv e => by
    rcases own_own_ne h2.rC h2.r3 (by decide) with q | q
    · rw [q] at hv; cases hv
    · exact q (hv.trans e)
  refine ⟨by simpa using kB9.set_ 3 v9, own_turn h2.rC h2.kB (by decide) hk hC, own_turn h2.r1 h2.kB (by decide) hk (fun b hv e => a1 b e.symm hv), own_turn h2.r2 h2.kB (by decide) hk (fun b hv e => a2 b e.symm hv), own_set ho kB9 (by decide), h2.n12, fun b e hv => by
    rcases hat with ht | ht
    · exact a1 b (ht.trans hv) e
    · rw [ht] at hv
      injection hv with hv
      obtain ⟨⟨cs, hc⟩, _⟩ := own_at h2.r1 e
      have := lt_of_heap hc
      omega, fun b e hv => by
    rcases hat with ht | ht
    · exact a2 b (ht.trans hv) e
    · rw [ht] at hv
      injection hv with hv
      obtain ⟨⟨cs, hc⟩, _⟩ := own_at h2.r2 e
      have := lt_of_heap hc
      omega, fun r hr => ?_, fun r hr b o hA => ⟨⟨(h2.pB r hr b o hA).1.1, Nat.lt_of_lt_of_le (h2.pL r hr b o hA) hs⟩, h2.nB r hr b o hA⟩, Nat.le_trans h2.hb hs, h2.hB⟩
  obtain ⟨p1, p2⟩ := h2.pP r hr
  refine ⟨sl_turn p1 hs (fun b o hA hl => hk b hl (fun e => ?_) (fun e => (p2 b o hA).2.2.2 e.symm)), fun b o hA => ?_⟩
  · subst e
    exact (h2.nB r hr b o hA) rfl
  · obtain ⟨q0, q1, q2, q3⟩ := p2 b o hA
    have q9 : v9.ownBlock ≠ some b := fun e => by
      rcases hat with ht | ht
      · exact q3 (ht.trans e)
      · rw [ht] at e
        injection e with e
        have := h2.pL r hr b o hA
        omega
    exact ⟨q0, q1, q2, q9⟩
theorem FlM.appC {W W2 W9 : World} {base B : Nat} {rows : List CpR} {l1 l2 l3 : List Int} {vC v1 v2 v3 v9 : Value} {x : CpR} (h : FlM W base B rows l1 l2 l3 vC v1 v2 v3) (hb : Below W.heap.size W W2) (hg : W2.grownBy W9 vC.ownBlock)
    (ho : W9.ownsRow base 44 4 v9 (rows ++ [x]).length ((rows ++ [x]).flatMap encC)) (hat : vC.ownBlock = v9.ownBlock ∨ v9.ownBlock = some W2.heap.size)
    (hx : W2.ownsRow base 3 1 (.slice x.a x.parts.length x.c) x.parts.length (x.parts.map (Value.int .i64))) (hxd : ∀ b o, x.a = some ⟨b, o, none⟩ → b ≠ B ∧ vC.ownBlock ≠ some b ∧ v1.ownBlock ≠ some b ∧ v2.ownBlock ≠ some b ∧ v3.ownBlock ≠ some b) :
    FlM (W9.setCell ⟨B, 0, none⟩ v9) base B (rows ++ [x]) l1 l2 l3 v9 v1 v2 v3 := by
  have h2 := h.below hb
  have kB9 : Blk W9 B 36 #[vC, v1, v2, v3] := h2.kB.grown hg (fun e => by
    obtain ⟨⟨cs, hc⟩, _⟩ := own_at h2.rC e.symm
    have := h2.kB
    unfold Blk at this
    rw [hc] at this
    injection this with this
    injection this with _ e2 _
    cases e2)
  have hk : ∀ j, j < W2.heap.size → j ≠ B → some j ≠ vC.ownBlock → (W9.setCell ⟨B, 0, none⟩ v9).heap[j]? = W2.heap[j]? := fun j hj h1 h3 => (Below.heap_setCell W9 ⟨B, 0, none⟩ v9 j h1).trans (hg.block j hj h3)
  have hs : W2.heap.size ≤ (W9.setCell ⟨B, 0, none⟩ v9).heap.size := by have := hg.size; simpa [World.setCell] using this
  have hI : ∀ (v : Value) (l : List Int), W2.ownsRow base 3 1 v l.length (l.map (Value.int .i64)) → ∀ b, v.ownBlock = some b → some b ≠ vC.ownBlock := fun v l ho b hv e => by
    rcases own_own_ne ho h2.rC (by decide) with q | q
    · rw [q] at hv; cases hv
    · exact q (hv.trans e)
  have hXn : ∀ b, (Value.slice x.a x.parts.length x.c).ownBlock = some b → some b ≠ vC.ownBlock := fun b hv e => by
    rcases own_own_ne hx h2.rC (by decide) with q | q
    · rw [q] at hv; cases hv
    · exact q (hv.trans e)
  refine ⟨by simpa using kB9.set_ 0 v9, own_set ho kB9 (by decide), own_turn h2.r1 h2.kB (by decide) hk (hI _ _ h2.r1), own_turn h2.r2 h2.kB (by decide) hk (hI _ _ h2.r2), own_turn h2.r3 h2.kB (by decide) hk (hI _ _ h2.r3), h2.n12, h2.n13, h2.n23, fun r hr => ?_, fun r hr b o hA => ?_, Nat.le_trans h2.hb hs, h2.hB⟩
  · rcases List.mem_append.1 hr with hr | hr
    · obtain ⟨p1, p2⟩ := h2.pP r hr
      refine ⟨sl_turn p1 hs (fun b o hA hl => hk b hl (fun e => (h2.nB r hr b o hA) e) (fun e => (p2 b o hA).1 e.symm)), fun b o hA => ?_⟩
      obtain ⟨q0, q1, q2, q3⟩ := p2 b o hA
      refine ⟨fun e => ?_, q1, q2, q3⟩
      rcases hat with ht | ht
      · exact q0 (ht.trans e)
      · rw [ht] at e
        injection e with e
        have := h2.pL r hr b o hA
        omega
    · obtain rfl : r = x := by simpa using hr
      refine ⟨sl_turn (own_sl hx) hs (fun b o hA hl => hk b hl (hxd b o hA).1 (fun e => (hxd b o hA).2.1 e.symm)), fun b o hA => ?_⟩
      have hob : (Value.slice r.a r.parts.length r.c).ownBlock = some b := by rw [hA]; rfl
      obtain ⟨q0, q1, q2, q3, q4⟩ := hxd b o hA
      refine ⟨fun e => ?_, q2, q3, q4⟩
      rcases hat with ht | ht
      · exact q1 (ht.trans e)
      · rw [ht] at e
        injection e with e
        obtain ⟨⟨cs, hc⟩, _⟩ := own_at hx hob
        have := lt_of_heap hc
        omega
  · rcases List.mem_append.1 hr with hr | hr
    · exact ⟨⟨(h2.pB r hr b o hA).1.1, Nat.lt_of_lt_of_le (h2.pL r hr b o hA) hs⟩, h2.nB r hr b o hA⟩
    · obtain rfl : r = x := by simpa using hr
      have hob : (Value.slice r.a r.parts.length r.c).ownBlock = some b := by rw [hA]; rfl
      obtain ⟨⟨cs, hc⟩, h5⟩ := own_at hx hob
      have := lt_of_heap hc
      exact ⟨⟨h5, by omega⟩, (hxd b o hA).1⟩
/-- a store below all of it -/
theorem FlM.low {W : World} {base B : Nat} {rows : List CpR} {l1 l2 l3 : List Int} {vC v1 v2 v3 : Value} (h : FlM W base B rows l1 l2 l3 vC v1 v2 v3) {g i : Nat} (hg : g < base) (u : Value) : FlM (W.setCell ⟨g, i, none⟩ u) base B rows l1 l2 l3 vC v1 v2 v3 := by
  have hs : (W.setCell ⟨g, i, none⟩ u).heap.size = W.heap.size := by simp [World.setCell]
  exact ⟨h.kB.far (by have := h.hB; dsimp only; omega) _, ownsRow_setCell_below h.rC (a := ⟨g, i, none⟩) hg _, ownsRow_setCell_below h.r1 (a := ⟨g, i, none⟩) hg _, ownsRow_setCell_below h.r2 (a := ⟨g, i, none⟩) hg _, ownsRow_setCell_below h.r3 (a := ⟨g, i, none⟩) hg _, h.n12, h.n13, h.n23,
    fun r hr => ⟨sl_turn (h.pP r hr).1 (Nat.le_of_eq hs.symm) (fun b o hA _ => Below.heap_setCell W ⟨g, i, none⟩ u b (by have := (h.pB r hr b o hA).1.1; dsimp only; omega)), (h.pP r hr).2⟩, fun r hr b o hA => by rw [hs]; exact h.pB r hr b o hA, by rw [hs]; exact h.hb, h.hB⟩
theorem kt_grown {W W9 : World} {B n s base t : Nat} {e : TypeId} {cs : Array Value} {v : Value} {xs : List Value} (h : W.ownsRow base e s v n xs) (kB : Blk W B t cs) (he : e ≠ t) (hg : W.grownBy W9 v.ownBlock) : Blk W9 B t cs := kB.grown hg (fun e1 => by
  obtain ⟨⟨cs2, hc⟩, _⟩ := own_at h e1.symm
  unfold Blk at kB
  rw [hc] at kB
  injection kB with kB
  injection kB with _ e2 _
  exact he e2)
theorem own_apart {W : World} {b0 n : Nat} {e : TypeId} {s c : Nat} {A : Option Addr} {xs : List Value} {v : Value} (h : W.ownsRow b0 e s (.slice A n c) n xs) (hd : ∀ b o, A = some ⟨b, o, none⟩ → v.ownBlock ≠ some b) : (Value.slice A n c).ownBlock = none ∨ (Value.slice A n c).ownBlock ≠ v.ownBlock := by
  rcases h.2 with ⟨h1, _⟩ | ⟨g, cap, cur, h1, _⟩
  · injection h1 with h1
    subst h1
    exact .inl rfl
  · injection h1 with h1
    subst h1
    exact .inr fun e => hd g 0 rfl e.symm
theorem at_next {v : Value} {g n m c : Nat} {W : World} {o : Obj} (h : v.ownBlock = some g ∨ g = n + 1) (hn : n = W.heap.size) : v.ownBlock = (Value.slice (some ⟨g, 0, none⟩) m c).ownBlock ∨ (Value.slice (some ⟨g, 0, none⟩) m c).ownBlock = some (W.alloc o).heap.size := by
  rcases h with h | h
  · exact .inl h
  · right
    simp [Value.ownBlock, h, hn]
theorem next_apart {v : Value} {g n m c b : Nat} (h : v.ownBlock = some g ∨ g = n + 1) (hv : v.ownBlock ≠ some b) (hb : b < n) : (Value.slice (some ⟨g, 0, none⟩) m c).ownBlock ≠ some b := by
  intro e
  simp [Value.ownBlock] at e
  rcases h with h | h
  · rw [e] at h; exact hv h
  · omega
theorem kb_grown {W W9 : World} {B n s base : Nat} {e : TypeId} {cs : Array Value} {v : Value} {xs : List Value} (h : W.ownsRow base e s v n xs) (kB : Blk W B 36 cs) (he : e ≠ 36) (hg : W.grownBy W9 v.ownBlock) : Blk W9 B 36 cs := kB.grown hg (fun e1 => by
  obtain ⟨⟨cs2, hc⟩, _⟩ := own_at h e1.symm
  unfold Blk at kB
  rw [hc] at kB
  injection kB with kB
  injection kB with _ e2 _
  exact he e2)
end Go.Ml
