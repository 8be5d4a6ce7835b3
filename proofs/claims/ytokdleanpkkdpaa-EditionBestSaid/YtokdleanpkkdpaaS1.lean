/- The search: its state in memory, its bounds; conditions: a right title. -/
import Derived.Test.YtokdleanpkkdpaaR2
import Derived.RangeFuncBox
set_option linter.unusedSimpArgs false
set_option linter.unusedVariables false
namespace Go.Ed
open Go.Fh Go.RowKit Go.Proofs.Ytokdleanpkkdpaa
theorem changeB_bd' {t : TitD} (h : ChkOk t) (a b : EdD) : 0 ≤ changeB t a b ∧ changeB t a b ≤ 256 := changeB_bd h.ok a b
theorem allB_bd {t : TitD} (h : ChkOk t) : 0 ≤ allB t ∧ allB t ≤ 256 := by
  have := platesB_bd (good_of_paired h.ok.pair) h.ok.c4 (fun _ => true)
  have h := h.ok.c1
  unfold allB
  omega
theorem slotE_bd {t : TitD} (h : ChkOk t) {l : Option SloD} {e : Nat} (he : e < (edsR t).length) {K : Int} (hK : 0 ≤ K) (hl : ∀ s, l = some s → 0 ≤ s.fin ∧ s.fin ≤ K) :
    0 ≤ (slotE t (edsR t) l e).plates ∧ (slotE t (edsR t) l e).plates ≤ 256 ∧ 0 ≤ (slotE t (edsR t) l e).fin ∧ (slotE t (edsR t) l e).fin ≤ K + 722000000 := by
  have hok := edsR_ok h (getD_mem he)
  have r0 := hok.r0
  have r1 := hok.r1
  cases l with
  | none =>
    have h1 := allB_bd h
    have h2 := endOf_bd h.ok hok (max t.start ((edsR t).getD e ed0).ready)
    have := h.ok.start0
    have := h.ok.start1
    show 0 ≤ allB t ∧ allB t ≤ 256 ∧ 0 ≤ endOf _ _ _ ∧ endOf _ _ _ ≤ _
    omega
  | some s =>
    have hs := hl s rfl
    have hcb := changeB_bd h.ok ((edsR t).getD s.edition.toNat ed0) ((edsR t).getD e ed0)
    show 0 ≤ changeB t _ _ ∧ changeB t _ _ ≤ 256 ∧ 0 ≤ endOf t ((edsR t).getD e ed0) (max s.fin ((edsR t).getD e ed0).ready + t.stop + changeB t ((edsR t).getD s.edition.toNat ed0) ((edsR t).getD e ed0) * t.hang) ∧ endOf t ((edsR t).getD e ed0) (max s.fin ((edsR t).getD e ed0).ready + t.stop + changeB t ((edsR t).getD s.edition.toNat ed0) ((edsR t).getD e ed0) * t.hang) ≤ _
    generalize changeB t ((edsR t).getD s.edition.toNat ed0) ((edsR t).getD e ed0) = ch at *
    have hmul : 0 ≤ ch * t.hang ∧ ch * t.hang ≤ 256 * 3600 := ⟨Int.mul_nonneg (by omega) h.ok.hang0, Int.mul_le_mul hcb.2 h.ok.hang1 h.ok.hang0 (by omega)⟩
    have h2 := endOf_bd h.ok hok (max s.fin ((edsR t).getD e ed0).ready + t.stop + ch * t.hang)
    have := h.ok.stop0
    have := h.ok.stop1
    generalize ch * t.hang = m at *
    omega
/-- one edition tried -/
def dstep (t : TitD) (es : List EdD) (time : Bool) (fuel : Nat) (o : List Nat) (p : Int) (l : Option SloD) (b : Best) (e : Nat) : Best :=
  if o.contains e then b
  else if (time && lateB es (slotE t es l e)) || more b (p + (slotE t es l e).plates) then b
  else dfs t es time fuel (o ++ [e]) (p + (slotE t es l e).plates) (some (slotE t es l e)) b
theorem dfs_full {t : TitD} {es : List EdD} {time : Bool} {fuel : Nat} {o : List Nat} {p : Int} {l : Option SloD} {b : Best} (h : o.length = es.length) :
    dfs t es time (fuel + 1) o p l b = if better time b p ((l.map SloD.fin).getD 0) then some (o, p, (l.map SloD.fin).getD 0) else b := by
  conv => lhs; unfold dfs
  rw [if_pos h]
theorem dfs_more {t : TitD} {es : List EdD} {time : Bool} {fuel : Nat} {o : List Nat} {p : Int} {l : Option SloD} {b : Best} (h : o.length ≠ es.length) :
    dfs t es time (fuel + 1) o p l b = (List.range es.length).foldl (dstep t es time fuel o p l) b := by
  conv => lhs; unfold dfs
  rw [if_neg h]
  rfl
/-- whatever there is, but for two blocks and a row, lies as it lay -/
structure Same (gO gB : Nat) (r : Option Nat) (A C : Go.World) : Prop where
  os : C.os = A.os
  tape : C.tape = A.tape
  output : C.output = A.output
  size : A.heap.size ≤ C.heap.size
  block : ∀ j, j < A.heap.size → j ≠ gO → j ≠ gB → some j ≠ r → C.heap[j]? = A.heap[j]?
/-- a row is the same one, or a later one -/
def Lat (r : Option Nat) (A : Go.World) (r' : Option Nat) : Prop := r' = r ∨ ∀ j, r' = some j → A.heap.size ≤ j
theorem Lat.refl (r : Option Nat) (A : Go.World) : Lat r A r := .inl rfl
theorem Lat.trans {r r' r'' : Option Nat} {A C : Go.World} (h : Lat r A r') (k : Lat r' C r'') (hs : A.heap.size ≤ C.heap.size) : Lat r A r'' := by
  rcases k with k | k
  · rw [k]; exact h
  · exact .inr fun j e => Nat.le_trans hs (k j e)
theorem Same.refl (gO gB : Nat) (r : Option Nat) (A : Go.World) : Same gO gB r A A := ⟨rfl, rfl, rfl, Nat.le_refl _, fun _ _ _ _ _ => rfl⟩
theorem Same.trans {gO gB : Nat} {r r' : Option Nat} {A C D : Go.World} (h : Same gO gB r A C) (k : Same gO gB r' C D) (hr : Lat r A r') : Same gO gB r A D :=
  ⟨k.os.trans h.os, k.tape.trans h.tape, k.output.trans h.output, Nat.le_trans h.size k.size, fun j a b c d => (k.block j (Nat.lt_of_lt_of_le a h.size) b c (fun e => by
    rcases hr with q | q
    · exact d (e.trans q)
    · have := q j e.symm; omega)).trans (h.block j a b c d)⟩
theorem Same.of_below {gO gB : Nat} {r : Option Nat} {A C : Go.World} (h : Below A.heap.size A C) : Same gO gB r A C := ⟨h.os, h.tape, h.output, h.size, fun j hj _ _ _ => h.block j hj⟩
theorem Same.grown {gO gB : Nat} {r r' : Option Nat} {A C D : Go.World} (h : Same gO gB r A C) (hg : C.grownBy D r') (hr : ∀ j, r' = some j → A.heap.size ≤ j ∨ j = gO ∨ j = gB ∨ r' = r) : Same gO gB r A D :=
  ⟨hg.os.trans h.os, hg.tape.trans h.tape, hg.output.trans h.output, Nat.le_trans h.size hg.size, fun j a b c d => (hg.block j (Nat.lt_of_lt_of_le a h.size) (fun e => by
    rcases hr j e.symm with q | q | q | q
    · omega
    · exact b q
    · exact c q
    · exact d (e.trans q))).trans (h.block j a b c d)⟩
theorem Same.below {g0 gO gB : Nat} {r : Option Nat} {w A C : Go.World} (h : Same gO gB r A C) (hb : Below g0 w A) (h0 : g0 ≤ A.heap.size) (h2 : g0 ≤ gO) (h3 : g0 ≤ gB) (hr : ∀ j, r = some j → g0 ≤ j) : Below g0 w C :=
  ⟨h.os.trans hb.os, h.tape.trans hb.tape, h.output.trans hb.output, Nat.le_trans hb.size h.size, fun j hj => (h.block j (by omega) (by omega) (by omega) (fun e => by have := hr j e.symm; omega)).trans (hb.block j hj)⟩
theorem Same.blk {gO gB : Nat} {r : Option Nat} {A C : Go.World} (h : Same gO gB r A C) {g : Nat} {ty : Go.TypeId} {cs : Array Go.Value} (hk : Blk A g ty cs) (h2 : g ≠ gO) (h3 : g ≠ gB) (hr : some g ≠ r) : Blk C g ty cs := (h.block g hk.lt h2 h3 hr).trans hk
def intsV (o : List Nat) : List Go.Value := (o.map fun (e : Nat) => (e : Int)).map (Go.Value.int .i64)
/-- the order and the best order lie in memory -/
structure SrB (B gO gB : Nat) (o : List Nat) (b : Best) (v bo : Go.Value) (bp bf : Int) (W : Go.World) : Prop where
  box : Blk W gO 22 #[v]
  row : W.ownsRow B 3 1 v o.length (intsV o)
  best : Blk W gB 151 #[bo, .int .i64 bp, .int .i64 bf]
  none_ : b = none → bo = .slice none 0 0
  some_ : ∀ ob p f, b = some (ob, p, f) → 0 < ob.length ∧ W.ownsRow B 3 1 bo ob.length (intsV ob) ∧ bp = p ∧ bf = f ∧ v.ownBlock ≠ bo.ownBlock
theorem SrB.below {B gO gB : Nat} {o : List Nat} {b : Best} {v bo : Go.Value} {bp bf : Int} {W W' : Go.World} (h : SrB B gO gB o b v bo bp bf W) (hb : Below W.heap.size W W') : SrB B gO gB o b v bo bp bf W' :=
  ⟨h.box.below hb h.box.lt, own_belowV h.row hb, h.best.below hb h.best.lt, h.none_, fun ob p f e => by
    obtain ⟨h1, h2, h3⟩ := h.some_ ob p f e
    exact ⟨h1, own_belowV h2 hb, h3⟩⟩
end Go.Ed
