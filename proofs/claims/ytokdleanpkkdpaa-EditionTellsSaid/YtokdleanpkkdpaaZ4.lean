/- Contract of Latest; conditions: a title, an order, a page and a variant that are right. -/
import Derived.Test.YtokdleanpkkdpaaZ2
import Derived.Deep.RegionHeld3
import Derived.Deep.AppendLies
import Derived.Deep.DeepCutAuto
import Derived.Deep.CutBlock
set_option linter.unusedSimpArgs false
set_option linter.unusedVariables false
namespace Go.Ed
open Go.Fh Go.RowKit Go.Proofs.Ytokdleanpkkdpaa
theorem late_take (t : TitD) (es : List EdD) (o : List Nat) : ∀ k, k ≤ o.length → ((runE t es (o.take k)).2.2 = false ↔ ∀ i, i < k → lateAt t es o i = false) := by
  intro k
  induction k with
  | zero => intro _; simp [runE]
  | succ k ih =>
    intro hk
    have h1 := runE_last t es o (show k < o.length by omega)
    have h2 : lateAt t es o k = lateB es (slotE t es (runE t es (o.take k)).2.1 o[k]) := by
      unfold lateAt slotAt
      rw [h1]; rfl
    rw [List.take_succ_eq_append_getElem (by omega), runE_snoc]
    show ((runE t es (o.take k)).2.2 || lateB es (slotE t es (runE t es (o.take k)).2.1 o[k])) = false ↔ _
    rw [← h2, Bool.or_eq_false_iff, ih (by omega)]
    constructor
    · rintro ⟨a, b⟩ i hi
      by_cases e : i = k
      · subst e; exact b
      · exact a i (by omega)
    · intro a; exact ⟨fun i hi => a i (by omega), a k (by omega)⟩
theorem late_run (t : TitD) (es : List EdD) (o : List Nat) : (runE t es o).2.2 = false ↔ noLate t es o := by
  have := late_take t es o o.length (Nat.le_refl _)
  rw [List.take_length] at this
  exact this
theorem inTW_iff (t : TitD) (o : List Nat) (p v a : Int) : inTW t o p v a = true ↔ noLate (withT t p v a) (edsR (withT t p v a)) o := by
  rw [← late_run, runE_with]
  unfold inTW
  simp
theorem inTW_late {t : TitD} {o : List Nat} {p v a : Int} {i : Nat} (h : firstLate (withT t p v a) (edsR (withT t p v a)) o i) : inTW t o p v a = false := by
  cases hb : inTW t o p v a
  · rfl
  · have := (inTW_iff t o p v a).1 hb i h.1
    rw [h.2.1] at this; cases this
end Go.Ed
namespace Go.Ed
open Go.Fh Go.RowKit Go.Proofs.Ytokdleanpkkdpaa
/-- a title with other seconds -/
def setR (t : TitD) (rd : List (Int × Int × Int)) : TitD := ⟨t.colours, t.pairs, t.zones, rd, t.start, t.rate, t.stop, t.hang⟩
def setX (x : TA) (r : Option Go.Addr) (c : Nat) : TA := ⟨x.a, x.ca, x.b, x.cb, x.z, x.cz, r, c⟩
def setE (k : Wk) (t : TitD) : Wk := ⟨k.es.map (withR t), k.rows, k.E, k.cE, k.C, k.cC, k.g⟩
theorem chgL_vars (t : TitD) {es es' : List EdD} (h : es.map EdD.variants = es'.map EdD.variants) (i : Nat) : chgL t es i = chgL t es' i := by
  have e0 : ∀ (es : List EdD), chgL t es i = (es.map EdD.variants).map fun v => platesB t fun p => decide (((es.map EdD.variants).getD i []).getD p (-1) ≠ v.getD p (-1)) := by
    intro es
    unfold chgL
    rw [List.map_map]
    apply List.map_congr_left
    intro b _
    show platesB t _ = platesB t _
    have : (es.getD i ed0).variants = (es.map EdD.variants).getD i [] := by
      rw [List.getD_eq_getElem?_getD, List.getD_eq_getElem?_getD, List.getElem?_map]
      cases es[i]? <;> rfl
    rw [this]
  rw [e0, e0, h]
theorem withR_vars (t : TitD) (es : List EdM) : ((es.map (withR t)).map (·.1)).map EdD.variants = (es.map (·.1)).map EdD.variants := by
  rw [List.map_map, List.map_map, List.map_map]; rfl
/-- a search for the latest second at work -/
structure LatAt (W : Go.World) (B B0 : Nat) (t : TitD) (x : TA) (rd : List (Int × Int × Int)) (r : Option Go.Addr) (cr : Nat) (k : Wk) (gP gT gG gV gO : Nat) (p v : Int) (A : Option Go.Addr) (c : Nat) (o : List Nat) : Prop where
  wk : WorkAt W B (setR t rd) (setX x r cr) k
  cP : Blk W gP 124 #[.pointer (some ⟨k.g, 0, none⟩)]
  cT : Blk W gT 26 (titV t x)
  cG : Blk W gG 3 #[.int .i64 p]
  cV : Blk W gV 3 #[.int .i64 v]
  cO : Blk W gO 22 #[.slice A o.length c]
  rT : Sl enc3 3 W B0 x.r t.ready
  oA : Sl encInt 1 W B0 A (o.map fun (e : Nat) => (e : Int))
theorem same_below {gO gB : Nat} {w W W' : Go.World} (h : Same gO gB none w W) (hb : Below W.heap.size W W') : Same gO gB none w W' := h.trans (Same.of_below hb) (.inl rfl)
theorem same_drew {gO gB : Nat} {w W : Go.World} (h : Same gO gB none w W) : Same gO gB none w W.drew := same_below h (Below.drew (Below.refl _ _))
theorem same_alloc {gO gB : Nat} {w W : Go.World} (h : Same gO gB none w W) (o : Go.Obj) : Same gO gB none w (W.alloc o) := same_below h ((Below.refl _ _).alloc (Nat.le_refl _) _)
theorem same_sl {α : Type} {enc : α → List Go.Value} {size : Nat} {gO gB : Nat} {w W : Go.World} (h : Same gO gB none w W) {B0 : Nat} {A : Option Go.Addr} {l : List α} (hs : Sl enc size w B0 A l) (h1 : B0 ≤ gO) (h2 : B0 ≤ gB) (h3 : B0 ≤ w.heap.size) : Sl enc size W B0 A l :=
  hs.keep fun q hq => by
    obtain ⟨qb, qo, qn⟩ := q
    have := h.block qb (by have : qb < B0 := hq; omega) (by have : qb < B0 := hq; omega) (by have : qb < B0 := hq; omega) (by simp)
    simp only [Go.World.cell?, this]
end Go.Ed
namespace Go.Proofs.Ytokdleanpkkdpaa
open Go.RowKit Go.Fh Go.Ed Go.Shelf
attribute [local go_sem] Oper.semAt_some
theorem same_put {gO gB i : Nat} {w W : World} (h : Same gO gB none w W) (hi : w.heap.size ≤ i) (o : Obj) : Same gO gB none w (W.putObj i o) :=
  ⟨h.os, h.tape, h.output, by have := h.size; simp [World.putObj]; exact this, fun j a b c d => (World.putObj_heap_other (by omega)).trans (h.block j a b c d)⟩
/-- a work lies as it lay where a block of another kind turns -/
theorem workAt_same {w w' : World} {B : Nat} {t : TitD} {x : TA} {k : Wk} {g : Nat} {ty : TypeId} {cs : Array Value} (h : WorkAt w B t x k) (hs : Same g g none w w') (hb : Blk w g ty cs) (h3 : ty ≠ 3) (h22 : ty ≠ 22) (h52 : ty ≠ 52) (h129 : ty ≠ 129) : WorkAt w' B t x k :=
  have key : ∀ {b : Nat} {e : TypeId} {s n : Nat} {v : Value} {xs : List Value}, w.ownsRow b e s v n xs → e ≠ ty → w'.ownsRow b e s v n xs := fun ho he => same_own hs ho (own_blk_ne ho hb he) (own_blk_ne ho hb he)
  ⟨h.eds, ⟨key h.ed.row (fun e => h52 e.symm), fun i hi => key (h.ed.zon i hi) (fun e => h3 e.symm), fun i hi => key (h.ed.var i hi) (fun e => h3 e.symm), h.ed.sep⟩,
    hs.blk h.hk (h.hk.ne_ hb (fun e => h129 e.symm)) (h.hk.ne_ hb (fun e => h129 e.symm)) (by simp), h.hg, h.hrl, key h.oC (fun e => h22 e.symm), fun i hi => key (h.oR i hi) (fun e => h3 e.symm)⟩
theorem same_to {g gO gB : Nat} {A C D : World} (h : Same gO gB none A C) (k : Same g g none C D) (hg : A.heap.size ≤ g) : Same gO gB none A D :=
  ⟨k.os.trans h.os, k.tape.trans h.tape, k.output.trans h.output, Nat.le_trans h.size k.size, fun j a b c d => (k.block j (Nat.lt_of_lt_of_le a h.size) (by omega) (by omega) (by simp)).trans (h.block j a b c d)⟩
/-- what a cell holds -/
def cellV (w : World) (g i : Nat) : Value := (w.cell? ⟨g, i, none⟩).getD (.bool false)
theorem cellV_eq {w : World} {g i : Nat} {u : Value} (h : w.cell? ⟨g, i, none⟩ = some u) : cellV w g i = u := by unfold cellV; rw [h]; rfl
theorem cellV_some {w : World} {g i : Nat} {u : Value} (h : w.cell? ⟨g, i, none⟩ = some u) : w.cell? ⟨g, i, none⟩ = some (cellV w g i) := by rw [cellV_eq h, h]
theorem bal {w W : World} (h : Below w.heap.size w W) (o : Obj) : Below w.heap.size w (W.alloc o) := h.alloc h.size o
set_option maxRecDepth 100000 in
set_option maxHeartbeats 8000000 in
theorem inTime77_any (t : TitD) (x : TA) (k : Wk) (rd : List (Int × Int × Int)) (r : Option Addr) (cr : Nat) (B B0 gP gT gG gV gO : Nat) (p v a : Int) (A : Option Addr) (c : Nat) (o : List Nat) (W : World) (hc : checkT t = 0)
    (hp : 0 ≤ p ∧ p ≤ (t.colours.length : Int) - 1) (hv : 0 ≤ v ∧ v ≤ 9) (ha : 0 ≤ a ∧ a ≤ 86400) (hol : o.length ≤ 100) (hoe : ∀ e ∈ o, e < (edsR t).length) (hB : B0 ≤ B) (hBW : B ≤ W.heap.size) (h : LatAt W B B0 t x rd r cr k gP gT gG gV gO p v A c o) :
    Calls Try.prog 77 #[.int .i64 a, .pointer (some ⟨gT, 0, none⟩), .pointer (some ⟨gG, 0, none⟩), .pointer (some ⟨gV, 0, none⟩), .pointer (some ⟨gP, 0, none⟩), .pointer (some ⟨gO, 0, none⟩)] W fun e W' => e = .returned (.bool (inTW t o p v a)) ∧
      ∃ r' cr' g1, Hid (LatAt W' B B0 t x (rdyW t.ready p v a) r' cr' (setE k (withT t p v a)) gP gT gG gV gO p v A c o) ∧ Hid (Same k.g g1 none W W' ∧ B ≤ g1) := by
  have hch := chk_ok hc
  have hrl : t.ready.length ≤ 200 := chk_ready hc
  have hch2 := with_ok hc hp hv ha
  have hen : k.es.length = (edsR t).length := by rw [h.wk.len, edsR_len, edsR_len, edsN_zones_only (t := setR t rd) (t' := t) rfl]; rfl
  have h7 := (eds_le hc)
  obtain ⟨gW, hgW⟩ : ∃ g, g = k.g := ⟨_, rfl⟩
  obtain ⟨g1, c1, hE, hBg, hg1s⟩ := h.wk.ed.row.form (by omega)
  have hgB := h.wk.hg
  obtain ⟨fl, hfl⟩ : ∃ l, l = t.ready.filter (fun r => !hitR p v r) := ⟨_, rfl⟩
  have hfl1 : fl.length ≤ t.ready.length := by rw [hfl]; exact List.length_filter_le _ _
  have hrdy : rdyW t.ready p v a = fl ++ [(p, v, a)] := by rw [hfl]; rfl
  obtain ⟨w0, hw0⟩ : ∃ w, w = W.alloc (.cells #[.bool false] 4) := ⟨_, rfl⟩
  obtain ⟨gR, hgR⟩ : ∃ g, g = W.heap.size := ⟨_, rfl⟩
  have kR : Blk w0 gR 4 #[.bool false] := by rw [hw0, hgR]; exact Blk.new W 4 _
  have hS0 : Same gW g1 none W w0 := by rw [hw0]; exact same_alloc (Same.refl _ _ _ _) _
  have nP : gP ≠ gW ∧ gP ≠ g1 := by rw [hgW]; exact ⟨h.cP.ne_ h.wk.hk (by decide), fun e => own_blk_ne h.wk.ed.row h.cP (by decide) (by rw [e, hE]; rfl)⟩
  have nT : gT ≠ gW ∧ gT ≠ g1 := by rw [hgW]; exact ⟨h.cT.ne_ h.wk.hk (by decide), fun e => own_blk_ne h.wk.ed.row h.cT (by decide) (by rw [e, hE]; rfl)⟩
  have nG : gG ≠ gW ∧ gG ≠ g1 := by rw [hgW]; exact ⟨h.cG.ne_ h.wk.hk (by decide), fun e => own_blk_ne h.wk.ed.row h.cG (by decide) (by rw [e, hE]; rfl)⟩
  have nV : gV ≠ gW ∧ gV ≠ g1 := by rw [hgW]; exact ⟨h.cV.ne_ h.wk.hk (by decide), fun e => own_blk_ne h.wk.ed.row h.cV (by decide) (by rw [e, hE]; rfl)⟩
  have nO : gO ≠ gW ∧ gO ≠ g1 := by rw [hgW]; exact ⟨h.cO.ne_ h.wk.hk (by decide), fun e => own_blk_ne h.wk.ed.row h.cO (by decide) (by rw [e, hE]; rfl)⟩
  have nW1 : gW ≠ g1 := by rw [hgW]; exact fun e => own_blk_ne h.wk.ed.row h.wk.hk (by decide) (by rw [e, hE]; rfl)
  have hlt : gP < W.heap.size ∧ gT < W.heap.size ∧ gG < W.heap.size ∧ gV < W.heap.size ∧ gO < W.heap.size ∧ gW < W.heap.size := ⟨h.cP.lt, h.cT.lt, h.cG.lt, h.cV.lt, h.cO.lt, by rw [hgW]; exact h.wk.hk.lt⟩
  obtain ⟨lP, lT, lG, lV, lO, lW⟩ := hlt
  obtain ⟨al, hal⟩ : ∃ z, z = allB t := ⟨_, rfl⟩
  have kW : Blk W gW 129 (workV (setR t rd) (setX x r cr) (some ⟨g1, 0, none⟩) k.es.length c1 k.C k.cC al) := by
    have := h.wk.hk
    have e1 : k.E = some ⟨g1, 0, none⟩ ∧ k.cE = c1 := by injection hE with q1 q2 q3; exact ⟨q1, q3⟩
    rw [e1.1, e1.2] at this
    rw [hal, hgW]; exact this
  -- what a region may read
  have hb0 : Below W.heap.size W w0 := by rw [hw0]; exact bal (Below.refl _ _) _
  have low : ∀ w', Below w0.heap.size w0 w' → Below W.heap.size W w' := fun w' hs => hb0.trans (hs.mono hb0.size)
  have SB := Lib.hid (show ∀ w', Below w0.heap.size w0 w' → w'.cell? ⟨gP, 0, none⟩ = some (.pointer (some ⟨gW, 0, none⟩)) ∧ w'.cell? ⟨gT, 3, none⟩ = some (.slice x.r t.ready.length x.cr) ∧ w'.cell? ⟨gG, 0, none⟩ = some (.int .i64 p) ∧ w'.cell? ⟨gV, 0, none⟩ = some (.int .i64 v) from fun w' hs =>
    ⟨by rw [(h.cP.below (low w' hs) h.cP.lt).cell, hgW]; rfl, by rw [(h.cT.below (low w' hs) h.cT.lt).cell]; rfl, by rw [(h.cG.below (low w' hs) h.cG.lt).cell]; rfl, by rw [(h.cV.below (low w' hs) h.cV.lt).cell]; rfl⟩)
  have SB2 := Lib.hid (show ∀ w' u, Below w0.heap.size w0 w' → (w'.setCell ⟨gW, 3, none⟩ u).cell? ⟨gP, 0, none⟩ = some (.pointer (some ⟨gW, 0, none⟩)) ∧ (w'.setCell ⟨gW, 3, none⟩ u).cell? ⟨gT, 3, none⟩ = some (.slice x.r t.ready.length x.cr) ∧ (w'.setCell ⟨gW, 3, none⟩ u).cell? ⟨gG, 0, none⟩ = some (.int .i64 p) ∧ (w'.setCell ⟨gW, 3, none⟩ u).cell? ⟨gV, 0, none⟩ = some (.int .i64 v) from fun w' u hs =>
    ⟨by rw [((h.cP.below (low w' hs) h.cP.lt).far (by exact nP.1) u).cell, hgW]; rfl, by rw [((h.cT.below (low w' hs) h.cT.lt).far (by exact nT.1) u).cell]; rfl, by rw [((h.cG.below (low w' hs) h.cG.lt).far (by exact nG.1) u).cell]; rfl, by rw [((h.cV.below (low w' hs) h.cV.lt).far (by exact nV.1) u).cell]; rfl⟩)
  have HRT := Lib.hid (show ∀ w', Below w0.heap.size w0 w' → Sl enc3 3 w' w'.heap.size x.r t.ready from fun w' hs => (h.rT.below ((low w' hs).mono (by omega))).mono (by have := (low w' hs).size; omega))
  have HDF := Lib.hid (show ∀ A5 c5 w', Below w0.heap.size w0 w' → w'.ownsRow w0.heap.size 69 3 (.slice A5 t.ready.length c5) t.ready.length (t.ready.flatMap enc3) →
      Calls Try.prog 28 #[.slice A5 t.ready.length c5, .func (.func 78) #[] #[.pointer (some ⟨gG, 0, none⟩), .pointer (some ⟨gV, 0, none⟩)]] w' fun e w'' => e = .returned (.slice A5 fl.length c5) ∧ w''.ownsRow w0.heap.size 69 3 (.slice A5 fl.length c5) fl.length (fl.flatMap enc3) ∧ w'.grownBy w'' (Value.slice A5 t.ready.length c5).ownBlock from fun A5 c5 w' hb ho => by
    have hz0 := hb0.size
    have := deleteFunc78_any gG gV A5 c5 t.ready p v w' w0.heap.size (by omega) hb.size ho (SB.out w' hb).2.2.1 (SB.out w' hb).2.2.2 (fun e => by have := (ho.lt gG e).1; omega) (fun e => by have := (ho.lt gV e).1; omega)
    rw [← hfl] at this
    exact this)
  have LOW := Lib.hid low
  have HKW := Lib.hid kW
  have H := Lib.hid h
  have HF := Lib.hid (And.intro hfl hrdy)
  have HS0 := Lib.hid hS0
  have HCH := Lib.hid (And.intro hch hch2)
  have HGW := Lib.hid (And.intro hgW (And.intro hE hal))
  have HEN := Lib.hid hen
  have HOE := Lib.hid hoe
  have KR := Lib.hid kR
  have HW0 := Lib.hid (And.intro hw0 hgR)
  have hgRs : gR = W.heap.size := hgR
  have HGR := Lib.hid hgR
  have hs0 : w0.heap.size = W.heap.size + 1 := by rw [hw0]; simp
  have NN := Lib.hid (And.intro nP (And.intro nT (And.intro nG (And.intro nV (And.intro nO nW1)))))
  obtain ⟨i69, hi69, xz0, xz1, xz2⟩ := info_parts infoRdyZ
  have HI69 := Lib.hid hi69
  have hrl24 : t.ready.length * 24 ≤ 140737488355328 := by omega
  have hfm1 : fl.length + 1 ≤ maxLen := by simp only [maxLen]; omega
  have hfm2 : (fl.length + 1) * 24 ≤ 140737488355328 := by omega
  have HHS := Lib.hid hs0
  have lW0 : gW < w0.heap.size := by omega
  have hBw0 : B ≤ w0.heap.size := by omega
  have hWw0 : W.heap.size ≤ w0.heap.size := by omega
  have hRw0 : gR < w0.heap.size := by omega
  have hRW : W.heap.size ≤ gR := by omega
  clear hfl hrdy hen hE hal hgW hgR hw0 kW h hch hch2 hS0 kR hs0 hgRs nP nT nG nV nO nW1 hi69 hoe hc
  refine (callsIn_wide (n := 3)).1 ?_
  refine callsIn_of_wp_marks Try.func77 rfl trivial ?_ rfl
  simp only [Try.ntmps77, List.size_toArray, List.length_cons, List.length_nil, Nat.reduceAdd, Nat.reduceSub, Array.replicate_succ, Array.replicate_zero, List.push_toArray, List.append_toArray, List.nil_append, List.cons_append]
  refine wpIn_wide.2 ?_
  go_upto_region 1 with fail
  rw [← HW0.out.1, ← HW0.out.2]
  have HB0 := Lib.hid (Below.refl w0.heap.size w0)
  have HFW := Lib.hid (show ∀ w', Below w0.heap.size w0 w' → w'.frozen? ⟨gW, 3, none⟩ = false ∧ gW < w'.heap.size ∧ ∃ u, w'.cell? ⟨gW, 3, none⟩ = some u from fun w' hb => ⟨(HKW.out.below (LOW.out w' hb) lW).frozen 3, (HKW.out.below (LOW.out w' hb) lW).lt, _, by rw [(HKW.out.below (LOW.out w' hb) lW).cell]; rfl⟩)
  go_cut [] from 11 to 25 (fun wx => ∃ (g9 cap9 : Nat) (w9 : World), Hid (Below w0.heap.size w0 w9) ∧ Hid (w9.ownsRow w0.heap.size 69 3 (.slice (some ⟨g9, 0, none⟩) (fl.length + 1) cap9) (fl.length + 1) ((fl ++ [(p, v, a)]).flatMap enc3)) ∧ Hid (wx = w9.setCell ⟨gW, 3, none⟩ (.slice (some ⟨g9, 0, none⟩) (fl.length + 1) cap9)))
  case first =>
    go_region_held3 (fun w' => w'.cell? ⟨gP, 0, none⟩ = some (.pointer (some ⟨gW, 0, none⟩)) ∧ w'.cell? ⟨gT, 3, none⟩ = some (.slice x.r t.ready.length x.cr) ∧ w'.cell? ⟨gG, 0, none⟩ = some (.int .i64 p) ∧ w'.cell? ⟨gV, 0, none⟩ = some (.int .i64 v))
      (first | exact SB2.out _ _ HB9.out | (refine SB.out _ ?_; (repeat (first | exact HB0.out | exact HB5.out | exact HB6.out | exact HB9.out | refine Below.drew ?_ | refine bal ?_ _)); done))
      (first
        | (go_at_call 29; refine (cloneRdy_any x.r x.cr t.ready _ hrl24 (HRT.out _ (by repeat (first | exact HB0.out | refine Below.drew ?_ | refine bal ?_ _)))).mono ?_; rintro e w5 ⟨A5, c5, rfl, ho5, hb5⟩
           have HB5 := Lib.hid (show Below w0.heap.size w0 w5 from Below.trans (by repeat (first | exact HB0.out | refine Below.drew ?_ | refine bal ?_ _)) (hb5.mono (by first | exact Nat.le_refl _ | simp)))
           have HO5 := Lib.hid (show w5.ownsRow w0.heap.size 69 3 (.slice A5 t.ready.length c5) t.ready.length (t.ready.flatMap enc3) from World.ownsRow.mono ho5 (by first | exact Nat.le_refl _ | simp))
           have HK5 := Lib.hid (fun g' t' cs' (h : Blk _ g' t' cs') => Blk.below h hb5 h.lt)
           have hz5 := hb5.size
           have HN5 := Lib.hid (show ∀ j, (Value.slice A5 t.ready.length c5).ownBlock = some j → _ ≤ j ∧ j < w5.heap.size from ho5.lt)
           clear ho5 hb5)
        | (go_at_call 28; refine (HDF.out A5 c5 _ (by repeat (first | exact HB5.out | refine Below.drew ?_ | refine bal ?_ _)) (by first | exact HO5.out | exact HO5.out.alloc _)).mono ?_; rintro e w6 ⟨rfl, ho6, hg6⟩
           have HB6 := Lib.hid (show Below w0.heap.size w0 w6 from Below.grown (by repeat (first | exact HB5.out | refine Below.drew ?_ | refine bal ?_ _)) hg6 (by first | exact HB5.out.size | (simp; have := HB5.out.size; omega)) (fun j e => (HO5.out.lt j e).1))
           have HO6 := Lib.hid ho6
           have HK6 := Lib.hid (fun g' t' cs' (h : Blk _ g' t' cs') (hn : some g' ≠ (Value.slice A5 t.ready.length c5).ownBlock) => Blk.grown h hg6 hn)
           have hz6 := hg6.size
           clear ho6 hg6)
        | (refine step_append_lies _ rfl (.tmp 16) (.tmp 21) 24 rfl w0.heap.size 69 i69 _ 3 24 Try.underlying24 HI69.out xz0 xz1 xz2 rfl (by decide) (.slice A5 fl.length c5) fl.length (fl.flatMap enc3) (by rfl) (by first | exact HO6.out | exact HO6.out.alloc _) _ 1 1 [.int .i64 p, .int .i64 v, .int .i64 a] (by rfl) rfl
             (World.news_of_block (cs := #[.int .i64 p, .int .i64 v, .int .i64 a]) (t := 69) (fr := (0, 0)) (by
               show Blk _ _ 69 #[.int .i64 p, .int .i64 v, .int .i64 a]
               first
                 | exact Blk.new _ _ _
                 | exact HK6.out _ _ _ (Blk.new _ _ _) (fun e => by have := (HN5.out _ e.symm).2; omega)
                 | exact HK6.out _ _ _ (HK5.out _ _ _ (Blk.new _ _ _)) (fun e => by have := (HN5.out _ e.symm).1; simp at this; omega)))
             (by intro u hu; simp at hu; rcases hu with rfl | rfl | rfl <;> rfl) (by decide) hfm1 hfm2 (by first | exact HB6.out.size | (simp; have := HB6.out.size; omega)) _ rfl ?_
           intro g9 cap9 w9 hown9 hgrow9 hat9 hlt9
           have HB9 := Lib.hid (show Below w0.heap.size w0 w9 from Below.grown (by repeat (first | exact HB6.out | refine Below.drew ?_ | refine bal ?_ _)) hgrow9 (by first | exact HB6.out.size | (simp; have := HB6.out.size; omega)) (fun j e => (HO6.out.lt j e).1))
           have HO9 := Lib.hid hown9
           have hz9 := HFW.out w9 HB9.out
           obtain ⟨f9, l9, u9, c9⟩ := hz9
           clear hown9 hgrow9 hat9))
    all_goals go_wp2
    all_goals go_meet
    all_goals
      refine ⟨g9, cap9, w9, HB9, ?_, Lib.hid rfl⟩
      have := HO9.out
      rw [show fl.flatMap enc3 ++ [.int .i64 p, .int .i64 v, .int .i64 a] = (fl ++ [(p, v, a)]).flatMap enc3 by simp [enc3]] at this
      exact this
  case rest =>
    obtain ⟨g9, cap9, w9, HB9, HO9, HWX⟩ := hcut
    obtain ⟨n, hn⟩ : ∃ n, n = k.es.length := ⟨_, rfl⟩
    obtain ⟨t2, ht2⟩ : ∃ z, z = withT t p v a := ⟨_, rfl⟩
    obtain ⟨x2, hx2⟩ : ∃ z, z = setX x (some ⟨g9, 0, none⟩) cap9 := ⟨_, rfl⟩
    have hlow := LOW.out w9 HB9.out
    have hgWk := HGW.out.1
    have hE := HGW.out.2.1
    have NNo := NN.out
    obtain ⟨⟨nP1, nP2⟩, ⟨nT1, nT2⟩, ⟨nG1, nG2⟩, ⟨nV1, nV2⟩, ⟨nO1, nO2⟩, nW1⟩ := NNo
    have kP : Blk wc gP 124 #[.pointer (some ⟨gW, 0, none⟩)] := by rw [HWX.out, hgWk]; exact (H.out.cP.below hlow lP).far (by rw [← hgWk]; exact nP1) _
    have hrl2 : t2.ready.length = fl.length + 1 := by rw [ht2]; show (rdyW t.ready p v a).length = _; rw [HF.out.2]; simp
    have kW : Blk wc gW 129 (workC t2 x2 (.slice (some ⟨g1, 0, none⟩) n c1) (.slice k.C n k.cC) al) := by
      have := (HKW.out.below hlow lW).set_ 3 (.slice (some ⟨g9, 0, none⟩) (fl.length + 1) cap9)
      rw [← HWX.out] at this
      rw [← hrl2, ht2, ← hn] at this
      rw [ht2, hx2]
      exact this
    have hSx : Same gW g1 none W wc := by
      rw [HWX.out]
      exact same_gr (same_below (Same.refl _ _ _ _) hlow) (gr_set _ gW 3 _) (fun j e => .inr (.inl (by injection e with e; exact e.symm)))
    have eD : EdsAt wc B (.slice (some ⟨g1, 0, none⟩) n c1) k.es := by
      have h1 := (H.out.wk.ed.below hlow).set_ (HKW.out.below hlow lW) (by decide) (by decide) 3 (.slice (some ⟨g9, 0, none⟩) (fl.length + 1) cap9)
      rw [← HWX.out, hE, ← hn] at h1
      exact h1
    have oR : wc.ownsRow w0.heap.size 69 3 (.slice x2.r t2.ready.length x2.cr) t2.ready.length (t2.ready.flatMap enc3) := by
      have h1 := own_far HO9.out (p := ⟨gW, 3, none⟩) (by exact own_blk_ne HO9.out (HKW.out.below hlow lW) (by decide)) (.slice (some ⟨g9, 0, none⟩) (fl.length + 1) cap9)
      rw [← HWX.out] at h1
      have e2 : t2.ready = fl ++ [(p, v, a)] := by rw [ht2]; exact HF.out.2
      rw [hrl2, hx2, e2]
      exact h1
    have hn7 : 1 ≤ n ∧ n ≤ 7 := by rw [hn, HEN.out]; exact h7
    have hbd : ∀ i (h : i < k.es.length), k.es[i].1.variants.length = t.colours.length := fun i hi => by
      have hm : k.es[i].1 ∈ edsR (setR t rd) := by rw [← H.out.wk.eds]; exact List.mem_map.2 ⟨_, List.getElem_mem hi, rfl⟩
      obtain ⟨e0, h0, he0⟩ := List.mem_map.1 hm
      rw [← he0]
      rw [edsN_zones_only (t := setR t rd) (t' := t) rfl] at h0
      exact (edsN_bd HCH.out.1 _ (Nat.le_refl _) e0 h0).vn
    have hrp : ∀ r ∈ t2.ready, 0 ≤ r.1 ∧ r.1 < (t.colours.length : Int) := fun r hr => by
      rw [ht2] at hr
      obtain ⟨i, hi, rfl⟩ := List.getElem_of_mem hr
      have := (errR_iff hi).1 (HCH.out.2.er i hi)
      have h1 : (withT t p v a).colours.length = t.colours.length := rfl
      rw [h1] at this
      omega
    have hrl3 : t2.ready.length ≤ 1000000000 := by omega
    have y0 := kP.cell 0
    have y8 := kW.cell 8
    have hgc : gP < wc.heap.size ∧ gW < wc.heap.size := ⟨kP.lt, kW.lt⟩
    obtain ⟨hgc1, hgc2⟩ := hgc
    simp [workC] at y0 y8
    have HN := Lib.hid hn
    have HT2 := Lib.hid ht2
    have HX2 := Lib.hid hx2
    have KP := Lib.hid kP
    have KW := Lib.hid kW
    have HSC := Lib.hid hSx
    have ED := Lib.hid eD
    have OR := Lib.hid oR
    have HBD := Lib.hid hbd
    have HRP := Lib.hid hrp
    have HLW := Lib.hid hlow
    have HR2 := Lib.hid hrl2
    clear hn ht2 hx2 kP kW hSx eD oR hbd hrp hlow hrl2 hgWk hE
    obtain ⟨hn1, hn2⟩ := hn7
    go_wp2_with fail
    clear y0 y8
    go_loopw [31] (fun i wr => ∃ j : Nat, j ≤ n ∧ i = .int .i64 j ∧ Hid (EdsAt wr B (.slice (some ⟨g1, 0, none⟩) n c1) (rdyL t2 k.es j)) ∧ Hid (Blk wr gW 129 (workC t2 x2 (.slice (some ⟨g1, 0, none⟩) n c1) (.slice k.C n k.cC) al)) ∧ Hid (Same gW g1 none wc wr)) (fun i _ => n - (intOf i).toNat)
    case atStart => exact ⟨0, Nat.zero_le _, rfl, by simpa [rdyL] using ED, KW, Lib.hid (Same.refl _ _ _ _)⟩
    case round =>
      obtain ⟨j, hj, rfl, HE, HK, HS⟩ := hrel
      by_cases hlj : j < n
      · have hle : j < k.es.length := by rw [← HN.out]; exact hlj
        have hjl : j < (rdyL t2 k.es j).length := by rw [rdyL_len]; exact hle
        have hgj := rdyL_get (t := t2) hle
        obtain ⟨⟨ed, ad⟩, hed⟩ : ∃ e, e = k.es[j] := ⟨_, rfl⟩
        have hel : n = (rdyL t2 k.es j).length := by rw [rdyL_len, HN.out]
        have a0 := HE.out.atm hel hjl 0 (by omega)
        have a1 := HE.out.atm hel hjl 1 (by omega)
        have a2 := HE.out.atm hel hjl 2 (by omega)
        have a3 := HE.out.atm hel hjl 3 (by omega)
        have a4 := HE.out.atm hel hjl 4 (by omega)
        rw [hgj, ← hed] at a0 a1 a2 a3 a4
        simp [encEd] at a0 a1 a2 a3 a4
        have hva := HE.out.var j hjl
        rw [hgj, ← hed] at hva
        have hbd := HBD.out j hle
        rw [← hed] at hbd
        dsimp only at hbd
        have kPr := HS.out.blk KP.out nP1 nP2 (by simp)
        have oRr := same_own HS.out OR.out (fun e => own_blk_ne OR.out KW.out (by decide) e) (fun e => by
          have := (OR.out.lt g1 e.symm).1
          have := HLW.out.size
          omega)
        have sRr : Sl enc3 3 wr wr.heap.size x2.r t2.ready := Sl.of_own (fun _ => rfl) oRr
        have hg12 := (HE.out.row.lt g1 rfl).2
        have hrd := fun W' (hb : Below wr.heap.size wr W') => ready_any t2 x2 (.slice (some ⟨g1, 0, none⟩) n c1) (.slice k.C n k.cC) gW al ed ⟨ad.z, ad.cz, ad.v, ad.cv⟩ W' hrl3 (HK.out.below hb HK.out.lt) ((sRr.below hb).mono hb.size) (((own_sl hva).below hb).mono hb.size) (fun r hr => by have := HRP.out r hr; omega)
        have HRD := Lib.hid hrd
        obtain ⟨rn, hrn⟩ : ∃ r, r = readyN t2.ready ed.variants t2.ready.length := ⟨_, rfl⟩
        obtain ⟨p0, -⟩ := a0
        obtain ⟨p1, -⟩ := a1
        obtain ⟨p2, f2⟩ := a2
        obtain ⟨p3, -⟩ := a3
        obtain ⟨p4, -⟩ := a4
        have HRN := Lib.hid hrn
        have HED := Lib.hid hed
        have HGJ := Lib.hid hgj
        have HEL := Lib.hid hel
        have hgw2 := HK.out.lt
        have kPr0 := kPr.lt
        have HCV := Lib.hid (cellV_eq p2)
        have HP2 := Lib.hid p2
        have ST := Lib.hid (show ∀ W', Below wr.heap.size wr W' → (W'.cell? ⟨gP, 0, none⟩ = some (.pointer (some ⟨gW, 0, none⟩)) ∧ W'.cell? ⟨gW, 8, none⟩ = some (.slice (some ⟨g1, 0, none⟩) n c1) ∧ W'.cell? ⟨g1, j * 5, none⟩ = some (.slice ad.z ed.zones.length ad.cz) ∧ W'.cell? ⟨g1, j * 5 + 1, none⟩ = some (.int .i64 ed.copies) ∧ W'.cell? ⟨g1, j * 5 + 2, none⟩ = some (cellV W' g1 (j * 5 + 2)) ∧ W'.cell? ⟨g1, j * 5 + 3, none⟩ = some (.int .i64 ed.due) ∧ W'.cell? ⟨g1, j * 5 + 4, none⟩ = some (.slice ad.v ed.variants.length ad.cv)) from fun W' hb =>
          ⟨by rw [(kPr.below hb kPr0).cell]; rfl, by rw [(HK.out.below hb hgw2).cell]; rfl, (hb.cell (p := ⟨g1, j * 5, none⟩) hg12).trans p0, (hb.cell (p := ⟨g1, j * 5 + 1, none⟩) hg12).trans p1, cellV_some ((hb.cell (p := ⟨g1, j * 5 + 2, none⟩) hg12).trans p2), (hb.cell (p := ⟨g1, j * 5 + 3, none⟩) hg12).trans p3, (hb.cell (p := ⟨g1, j * 5 + 4, none⟩) hg12).trans p4⟩)
        have HEE := Lib.hid (show ∀ W', Below wr.heap.size wr W' → EdsAt (W'.setCell ⟨g1, j * 5 + 2, none⟩ (.int .i64 rn)) B (.slice (some ⟨g1, 0, none⟩) n c1) (rdyL t2 k.es (j + 1)) from fun W' hb => by
          have := (HE.out.below (hb.mono (Nat.le_refl _))).putm hel hjl (withR t2 k.es[j]) 2 (.int .i64 rn) (by omega) (by rw [hgj, ← hed, hrn]; simp [encEd, withR]) (by rw [hgj]; simp [withR])
          rw [← rdyL_succ hle] at this
          exact this)
        have ST2 := Lib.hid (show ∀ W', Below wr.heap.size wr W' → ((W'.setCell ⟨g1, j * 5 + 2, none⟩ (.int .i64 rn)).cell? ⟨gP, 0, none⟩ = some (.pointer (some ⟨gW, 0, none⟩)) ∧ (W'.setCell ⟨g1, j * 5 + 2, none⟩ (.int .i64 rn)).cell? ⟨gW, 8, none⟩ = some (.slice (some ⟨g1, 0, none⟩) n c1) ∧ (W'.setCell ⟨g1, j * 5 + 2, none⟩ (.int .i64 rn)).cell? ⟨g1, j * 5, none⟩ = some (.slice ad.z ed.zones.length ad.cz) ∧ (W'.setCell ⟨g1, j * 5 + 2, none⟩ (.int .i64 rn)).cell? ⟨g1, j * 5 + 1, none⟩ = some (.int .i64 ed.copies) ∧ (W'.setCell ⟨g1, j * 5 + 2, none⟩ (.int .i64 rn)).cell? ⟨g1, j * 5 + 2, none⟩ = some (cellV (W'.setCell ⟨g1, j * 5 + 2, none⟩ (.int .i64 rn)) g1 (j * 5 + 2)) ∧ (W'.setCell ⟨g1, j * 5 + 2, none⟩ (.int .i64 rn)).cell? ⟨g1, j * 5 + 3, none⟩ = some (.int .i64 ed.due) ∧ (W'.setCell ⟨g1, j * 5 + 2, none⟩ (.int .i64 rn)).cell? ⟨g1, j * 5 + 4, none⟩ = some (.slice ad.v ed.variants.length ad.cv)) from fun W' hb => by
          have hjl2 : j < (rdyL t2 k.es (j + 1)).length := by rw [rdyL_len]; exact hle
          have hel2 : n = (rdyL t2 k.es (j + 1)).length := by rw [rdyL_len, HN.out]
          have hg2 : (rdyL t2 k.es (j + 1))[j] = withR t2 (ed, ad) := by
            have e1 := rdyL_succ (t := t2) hle
            have e2 : (rdyL t2 k.es (j + 1))[j]? = some (withR t2 (ed, ad)) := by rw [e1, List.getElem?_set_self (by rw [rdyL_len]; exact hle), hed]
            rw [List.getElem?_eq_getElem hjl2] at e2
            injection e2
          have b0 := (HEE.out W' hb).atm hel2 hjl2 0 (by omega)
          have b1 := (HEE.out W' hb).atm hel2 hjl2 1 (by omega)
          have b2 := (HEE.out W' hb).atm hel2 hjl2 2 (by omega)
          have b3 := (HEE.out W' hb).atm hel2 hjl2 3 (by omega)
          have b4 := (HEE.out W' hb).atm hel2 hjl2 4 (by omega)
          rw [hg2] at b0 b1 b2 b3 b4
          simp [encEd, withR] at b0 b1 b2 b3 b4
          exact ⟨by rw [((kPr.below hb kPr0).far (by exact nP2) _).cell]; rfl, by rw [((HK.out.below hb hgw2).far (by exact nW1) _).cell]; rfl, b0.1, b1.1, cellV_some b2.1, b3.1, b4.1⟩)
        have HF2 := Lib.hid (show ∀ W', Below wr.heap.size wr W' → W'.frozen? ⟨g1, j * 5 + 2, none⟩ = false from fun W' hb => (hb.frozen (p := ⟨g1, j * 5 + 2, none⟩) hg12).trans f2)
        have HBr := Lib.hid (Below.refl wr.heap.size wr)
        have i0 : (0 : Int) ≤ (j : Int) := by omega
        have i1 : (j : Int) < (n : Int) := by omega
        have sc0 := (ST.out wr HBr.out).1
        have sc8 := (ST.out wr HBr.out).2.1
        clear p0 p1 p2 p3 p4 f2 hgj hed hva hbd hrd hrn kPr oRr sRr hel
        go_upto_region 5 with fail
        clear sc0 sc8
        obtain ⟨-, -, p0, p1, -, p3, p4⟩ := ST.out wr HBr.out
        have p2 := HP2.out
        refine wp_region_noPanic ?_
        refine wp_region_held_drew (S := (fun W' => W'.cell? ⟨gP, 0, none⟩ = some (.pointer (some ⟨gW, 0, none⟩)) ∧ W'.cell? ⟨gW, 8, none⟩ = some (.slice (some ⟨g1, 0, none⟩) n c1))) (by kernel_rfl) ?_ (fun hHeld => ?_)
        · (try dsimp only); ((have hs := ST.out wr HBr.out); exact ⟨hs.1, hs.2.1⟩)
        refine wpAnyH_take (i := 0) (v := ?_) rfl (by kernel_rfl) (by kernel_rfl) (by kernel_rfl) (fun _ _ _ h => h) (Or.inl ⟨by rfl, ?_⟩) (by assumption) ?_
        rotate_left
        · intro w hSw; (try dsimp only at hSw); go_simp; (try with_reducible rfl)
        try simp only [Act.put, List.setIfInBounds_toArray, List.set_cons_zero, List.set_cons_succ]
        refine wpAnyH_take (i := 1) (v := ?_) rfl (by kernel_rfl) (by kernel_rfl) (by kernel_rfl) (fun _ _ _ h => h) (Or.inl ⟨by rfl, ?_⟩) (by assumption) ?_
        rotate_left
        · intro w hSw; (try dsimp only at hSw); go_simp; (try with_reducible rfl)
        try simp only [Act.put, List.setIfInBounds_toArray, List.set_cons_zero, List.set_cons_succ]
        refine wpAnyH_take (i := 2) (v := ?_) rfl (by kernel_rfl) (by kernel_rfl) (by kernel_rfl) (fun _ _ _ h => h) (Or.inl ⟨by rfl, ?_⟩) (by assumption) ?_
        rotate_left
        · intro w hSw; (try dsimp only at hSw); go_simp; (try with_reducible rfl)
        try simp only [Act.put, List.setIfInBounds_toArray, List.set_cons_zero, List.set_cons_succ]
        refine wpAnyH_take (i := 3) (v := ?_) rfl (by kernel_rfl) (by kernel_rfl) (by kernel_rfl) (fun _ _ _ h => h) (Or.inl ⟨by rfl, ?_⟩) (by assumption) ?_
        rotate_left
        · intro w hSw; (try dsimp only at hSw); go_simp; (try with_reducible rfl)
        try simp only [Act.put, List.setIfInBounds_toArray, List.set_cons_zero, List.set_cons_succ]
        refine wpAnyH_take (i := 4) (v := ?_) rfl (by kernel_rfl) (by kernel_rfl) (by kernel_rfl) (fun _ _ _ h => h) (Or.inl ⟨by rfl, ?_⟩) (by assumption) ?_
        rotate_left
        · intro w hSw; (try dsimp only at hSw); go_simp; (try with_reducible rfl)
        try simp only [Act.put, List.setIfInBounds_toArray, List.set_cons_zero, List.set_cons_succ]
        refine wpAnyH_take (i := 5) (v := ?_) rfl (by kernel_rfl) (by kernel_rfl) (by kernel_rfl) (fun _ _ _ h => h) (Or.inl ⟨by rfl, ?_⟩) (by assumption) ?_
        rotate_left
        · intro w hSw; (try dsimp only at hSw); go_simp; (try with_reducible rfl)
        try simp only [Act.put, List.setIfInBounds_toArray, List.set_cons_zero, List.set_cons_succ]
        refine wpAnyH_take (i := 6) (v := ?_) rfl (by kernel_rfl) (by kernel_rfl) (by kernel_rfl) (fun _ _ _ h => h) (Or.inl ⟨by rfl, ?_⟩) (by assumption) ?_
        rotate_left
        · intro w hSw; (try dsimp only at hSw); go_simp; (try with_reducible rfl)
        try simp only [Act.put, List.setIfInBounds_toArray, List.set_cons_zero, List.set_cons_succ]
        refine wpAnyH_take (i := 7) (v := ?_) rfl (by kernel_rfl) (by kernel_rfl) (by kernel_rfl) (fun _ _ _ h => h) (Or.inl ⟨by rfl, ?_⟩) (by assumption) ?_
        rotate_left
        · intro w hSw; (try dsimp only at hSw); go_simp; (try with_reducible rfl)
        try simp only [Act.put, List.setIfInBounds_toArray, List.set_cons_zero, List.set_cons_succ]
        refine wpAnyH_take (i := 8) (v := ?_) rfl (by kernel_rfl) (by kernel_rfl) (by kernel_rfl) (fun _ _ _ h => h) (Or.inl ⟨by rfl, ?_⟩) (by assumption) ?_
        rotate_left
        · intro w hSw; (try dsimp only at hSw); go_simp; (try with_reducible rfl)
        try simp only [Act.put, List.setIfInBounds_toArray, List.set_cons_zero, List.set_cons_succ]
        refine wpAnyH_take (i := 9) (v := ?_) rfl (by kernel_rfl) (by kernel_rfl) (by kernel_rfl) (fun _ _ _ h => h) (Or.inl ⟨by rfl, ?_⟩) (by assumption) ?_
        rotate_left
        · intro w hSw; (try dsimp only at hSw); go_simp; (try with_reducible rfl)
        try simp only [Act.put, List.setIfInBounds_toArray, List.set_cons_zero, List.set_cons_succ]
        refine wpAnyH_take (i := 10) (v := ?_) rfl (by kernel_rfl) (by kernel_rfl) (by kernel_rfl) (fun _ _ _ h => h) (Or.inl ⟨by rfl, ?_⟩) (by assumption) ?_
        rotate_left
        · intro w hSw; (try dsimp only at hSw); go_simp; (try with_reducible rfl)
        try simp only [Act.put, List.setIfInBounds_toArray, List.set_cons_zero, List.set_cons_succ]
        refine wpAnyH_take (i := 11) (v := ?_) rfl (by kernel_rfl) (by kernel_rfl) (by kernel_rfl) (fun _ _ _ h => h) (Or.inl ⟨by rfl, ?_⟩) (by assumption) ?_
        rotate_left
        · intro w hSw; (try dsimp only at hSw); go_simp; (try with_reducible rfl)
        try simp only [Act.put, List.setIfInBounds_toArray, List.set_cons_zero, List.set_cons_succ]
        refine wpAnyH_ready (rs := [12]) (by kernel_rfl) (by simp) ?_
        refine AllReadyH.cons rfl (fun K hK => ?_) AllReadyH.nil
        go_simp
        refine hK.out _ _ ?_ (fun hHeld => ?_)
        · (try dsimp only); ((have hs := ST.out wr HBr.out); exact ⟨hs.1, hs.2.1⟩)
        clear hK K
        try simp only [Act.put, List.setIfInBounds_toArray, List.set_cons_zero, List.set_cons_succ]
        refine wpAnyH_ready (rs := [13]) (by kernel_rfl) (by simp) ?_
        refine AllReadyH.cons rfl (fun K hK => ?_) AllReadyH.nil
        (go_simp; go_at_call 79; refine (HRD.out _ (by repeat (first | exact HBr.out | refine Below.drew ?_))).mono ?_; rintro e w6 ⟨rfl, hb6⟩; rw [← HRN.out]; have HB6 := Lib.hid (show Below wr.heap.size wr w6 from (HBr.out.drew).trans hb6); have f6 := HF2.out w6 HB6.out; have p6 := (ST.out w6 HB6.out).2.2.2.2.1; have l6 := Nat.lt_of_lt_of_le hg12 HB6.out.size; clear hb6; go_wp2_with fail)
        refine hK.out _ _ ?_ (fun hHeld => ?_)
        · (try dsimp only); ((have hs := ST.out w6 HB6.out); exact ⟨hs.1, hs.2.1⟩)
        clear hK K
        try simp only [Act.put, List.setIfInBounds_toArray, List.set_cons_zero, List.set_cons_succ]
        refine wpAnyH_take (i := 14) (v := ?_) rfl (by kernel_rfl) (by kernel_rfl) (by kernel_rfl) (fun _ _ _ h => h) (Or.inl ⟨by rfl, ?_⟩) (by assumption) ?_
        rotate_left
        · intro w hSw; (try dsimp only at hSw); go_simp; (try with_reducible rfl)
        try simp only [Act.put, List.setIfInBounds_toArray, List.set_cons_zero, List.set_cons_succ]
        refine wpAnyH_take (i := 15) (v := ?_) rfl (by kernel_rfl) (by kernel_rfl) (by kernel_rfl) (fun _ _ _ h => h) (Or.inl ⟨by rfl, ?_⟩) (by assumption) ?_
        rotate_left
        · intro w hSw; (try dsimp only at hSw); go_simp; (try with_reducible rfl)
        try simp only [Act.put, List.setIfInBounds_toArray, List.set_cons_zero, List.set_cons_succ]
        refine wpAnyH_ready (rs := [16]) (by kernel_rfl) (by simp) ?_
        refine AllReadyH.cons rfl (fun K hK => ?_) AllReadyH.nil
        go_simp
        refine hK.out _ _ ?_ (fun hHeld => ?_)
        · (try dsimp only); ((have hs := ST2.out w6 HB6.out); exact ⟨hs.1, hs.2.1⟩)
        clear hK K
        try simp only [Act.put, List.setIfInBounds_toArray, List.set_cons_zero, List.set_cons_succ]
        refine wpAnyH_done (by kernel_rfl) ?_ _
        refine NoPanic.normal ?_
        all_goals
          have HEF := Lib.hid (HEE.out w6 HB6.out)
          have HKF := Lib.hid ((HK.out.below HB6.out hgw2).far (p := ⟨g1, j * 5 + 2, none⟩) (by exact nW1) (.int .i64 rn))
          have HSF := Lib.hid (same_gr (same_below HS.out HB6.out) (gr_set w6 g1 (j * 5 + 2) (.int .i64 rn)) (fun q e => .inr (.inr (by injection e with e; exact e.symm))))
          clear f6 p6
          go_wp2_with fail
          go_roundw
          case rel => exact ⟨j + 1, by omega, by go_num, HEF, HKF, HSF⟩
          case measure => simp [intOf]; omega
      · obtain rfl : j = n := by omega
        have hes : k.es.length = j := HN.out.symm
        have hE2 := HE.out
        rw [show rdyL t2 k.es j = k.es.map (withR t2) by rw [← hes]; exact rdyL_all _ _] at hE2
        have hSW : Same gW g1 none W wr := HSC.out.trans HS.out (.inl rfl)
        have ek : (setE k t2).g = gW := HGW.out.1.symm
        have hwk : WorkAt wr B t2 x2 (setE k t2) := by
          have hw := H.out.wk
          have eE : (Value.slice k.E k.es.length k.cE) = .slice (some ⟨g1, 0, none⟩) k.es.length c1 := HGW.out.2.1
          have e1 : k.E = some ⟨g1, 0, none⟩ ∧ k.cE = c1 := by injection eE with q1 q2 q3; exact ⟨q1, q3⟩
          have hl2 : (setE k t2).es.length = k.es.length := by simp [setE]
          have ne1 : ∀ {b : Nat} {e : TypeId} {s n : Nat} {v : Value} {xs : List Value}, W.ownsRow b e s v n xs → e ≠ 129 → e ≠ 52 → wr.ownsRow b e s v n xs := fun ho he he2 => same_own hSW ho (by rw [HGW.out.1]; exact own_blk_ne ho hw.hk he) (fun e => by
            rcases own_own_ne ho hw.ed.row he2 with q | q
            · rw [q] at e; cases e
            · exact q (by rw [← e, HGW.out.2.1]; rfl))
          have hch : ∀ i, chgL t2 ((setE k t2).es.map (·.1)) i = chgL (setR t rd) (k.es.map (·.1)) i := fun i => by
            have := chgL_vars t2 (withR_vars t2 k.es) i
            rw [show (setE k t2).es = k.es.map (withR t2) from rfl, this, HT2.out]
            rfl
          refine ⟨?_, ?_, ?_, ?_, ?_, ?_, fun i hi => ?_⟩
          · exact (edsR_again (t := setR t rd) (t' := t2) (by rw [HT2.out]; rfl) k.es hw.eds)
          · show EdsAt wr B (.slice k.E (setE k t2).es.length k.cE) (k.es.map (withR t2))
            rw [hl2, e1.1, e1.2, hes]
            exact hE2
          · show Blk wr k.g 129 (workV t2 x2 k.E (setE k t2).es.length k.cE k.C k.cC (allB t2))
            rw [hl2, e1.1, e1.2, hes, workV_eq, ← HGW.out.1]
            have ea : allB t2 = al := by rw [HGW.out.2.2, HT2.out]; rfl
            rw [ea]
            exact HK.out
          · exact hw.hg
          · rw [hl2]; exact hw.hrl
          · rw [hl2]; exact ne1 hw.oC (by decide) (by decide)
          · rw [hch i]; exact ne1 (hw.oR i hi) (by decide) (by decide)
        have nR : gR ≠ gW ∧ gR ≠ g1 := by omega
        have kRr : Blk wr gR 4 #[.bool false] := HS.out.blk (by rw [HWX.out]; exact (KR.out.below HB9.out hRw0).far (by exact nR.1) _) nR.1 nR.2 (by simp)
        have kPr : Blk wr gP 124 #[.pointer (some ⟨gW, 0, none⟩)] := HS.out.blk KP.out nP1 nP2 (by simp)
        have kOr : Blk wr gO 22 #[.slice A o.length c] := hSW.blk H.out.cO nO1 nO2 (by simp)
        have hB0W : B0 ≤ gW := by rw [HGW.out.1]; omega
        have sAr : Sl encInt 1 wr wr.heap.size A (o.map fun (e : Nat) => (e : Int)) := (same_sl hSW H.out.oA hB0W (by omega) (by omega)).mono (by have := hSW.size; omega)
        have hlen2 : (edsR t2).length = (edsR t).length := by rw [edsR_len, edsR_len, edsN_zones_only (t := t2) (t' := t) (by rw [HT2.out]; rfl), HT2.out]; rfl
        have hoe2 : ∀ e ∈ o, e < (edsR t2).length := fun e he => by rw [hlen2]; exact HOE.out e he
        have hc2 : ChkOk t2 := by rw [HT2.out]; exact HCH.out.2
        have FIN := Lib.hid (show ∀ Wf, Same gR gR none wr Wf → LatAt Wf B B0 t x (rdyW t.ready p v a) (some ⟨g9, 0, none⟩) cap9 (setE k (withT t p v a)) gP gT gG gV gO p v A c o ∧ Same gW g1 none W Wf from fun Wf hf => by
          have hWf := same_to hSW hf (by omega)
          refine ⟨⟨?_, ?_, ?_, ?_, ?_, ?_, ?_, ?_⟩, hWf⟩
          · have := workAt_same hwk hf kRr (by decide) (by decide) (by decide) (by decide)
            rw [HX2.out, HT2.out] at this
            exact this
          · have := hWf.blk H.out.cP nP1 nP2 (by simp)
            exact this
          · exact hWf.blk H.out.cT nT1 nT2 (by simp)
          · exact hWf.blk H.out.cG nG1 nG2 (by simp)
          · exact hWf.blk H.out.cV nV1 nV2 (by simp)
          · exact hWf.blk H.out.cO nO1 nO2 (by simp)
          · exact same_sl hWf H.out.rT hB0W (by omega) (by omega)
          · exact same_sl hWf H.out.oA hB0W (by omega) (by omega))
        have HINT := Lib.hid (inTW_iff t o p v a)
        have HLATE := Lib.hid (fun i => inTW_late (t := t) (o := o) (p := p) (v := v) (a := a) (i := i))
        have HWK := Lib.hid hwk
        have KRr := Lib.hid kRr
        have KPr := Lib.hid kPr
        have KOr := Lib.hid kOr
        have SAr := Lib.hid sAr
        have HOE2 := Lib.hid hoe2
        have HC2 := Lib.hid hc2
        have EK := Lib.hid ek
        have c0 := kPr.cell 0
        have c1' := kOr.cell 0
        simp at c0 c1'
        have lPr := kPr.lt
        have lOr := kOr.lt
        have lRr := kRr.lt
        clear hE2 hSW hwk kRr kPr kOr sAr hlen2 hoe2 hc2 ek hes HE HK HS KW KP ED OR HSC HN
        go_upto_region 7 with fail
        go_wp2_with (go_at_call 70; refine (slots70_any _ _ _ _ _).mono ?_; rintro e w3 ⟨rfl, hw3⟩; have HW3 := Lib.hid hw3; clear hw3)
        obtain ⟨gQ', hgQ⟩ : ∃ g, g = wr.heap.size := ⟨_, rfl⟩
        obtain ⟨gO', hgO⟩ : ∃ g, g = wr.heap.size + 1 := ⟨_, rfl⟩
        rw [← hgO, ← hgQ]
        have hw3 := HW3.out
        have kQ : Blk w3 gQ' 124 #[.pointer (some ⟨(setE k t2).g, 0, none⟩)] := by rw [hw3, hgQ, EK.out]; exact (blkAt rfl 124 _).alloc _
        have kO : Blk w3 gO' 22 #[.slice A o.length c] := by rw [hw3, hgO]; exact blkAt (by simp) 22 _
        have hb23 : Below wr.heap.size wr w3 := by rw [hw3]; exact ((Below.refl _ _).alloc (Nat.le_refl _) _).alloc (by simp) _
        have hs3 : w3.heap.size = wr.heap.size + 2 := by rw [hw3]; simp
        have HB23 := Lib.hid hb23
        have KQ := Lib.hid kQ
        have KO := Lib.hid kO
        have j1 : wr.heap.size ≤ w3.heap.size ∧ gQ' < w3.heap.size ∧ gO' < w3.heap.size ∧ wr.heap.size ≤ gQ' ∧ wr.heap.size ≤ gO' := by omega
        obtain ⟨j11, j12, j13, j14, j15⟩ := j1
        clear hw3 kQ kO hb23 HW3 hgQ hgO c0 c1'
        refine (wpIn_wide (n := 3)).1 ?_
        refine range_cell rfl (by omega) (gf := 114) (lb := #[.pointer (some ⟨gO', 0, none⟩), .pointer (some ⟨gQ', 0, none⟩)]) rfl trivial (enters_of Try.func114 (by kernel_rfl) rfl)
          (slots_in 2 (by omega) t2 x2 (setE k t2) B gO' gQ' A c o wr w3 HC2.out HWK.out hol HOE2.out SAr.out HB23.out KO.out KQ.out (fun q => ∃ e : Nat, e < (edsR t2).length ∧ q.2.edition = (e : Int)) (fun i hi => ⟨o[i], HOE2.out _ (List.getElem_mem hi), slotAt_ed _ _ _ hi⟩)) (Below.refl _ _) (fun _ => rfl) ?kl
          (fun pre X => (∀ y ∈ pre, lateB (edsR t2) y.2 = false) ∧ Below wr.heap.size wr X)
          (fun cd pre X => cd = Code.ret ∧ ∃ (pre' : List (Nat × SloD)) (y : Nat × SloD), pre = pre' ++ [y] ∧ lateB (edsR t2) y.2 = true ∧ (∀ z ∈ pre', lateB (edsR t2) z.2 = false) ∧ Blk X gR 4 #[.bool false] ∧ Same gR gR none wr X)
          ?hI ?hIx ⟨fun y hy => absurd hy (by simp), HB23.out⟩ ?round ?done ?stop
        case kl =>
          rintro X Y Z hsz ⟨h1, h2, h3, h4⟩ hg
          have key : ∀ j, j ≠ w3.heap.size + 1 → Kept j X Y → Kept j X Z := fun j hj h o ho => by
            have := h o ho
            exact (hg.block j (Array.getElem?_eq_some_iff.1 this).1 (fun e => hj (by injection e))).trans this
          exact ⟨h1.grown hg (by have := h1.size; omega) (fun j hj => by injection hj with hj; omega), key gO' (by omega) h2, key gQ' (by omega) h3, key _ (by omega) h4⟩
        case hI =>
          rintro s X Y r h1 h2 ⟨q3, q4⟩ hg
          exact ⟨q3, q4.grown hg q4.size (fun j hj => by injection hj with hj; omega)⟩
        case hIx =>
          rintro cd s X Y r h1 h2 ⟨q0, pre', y, q1, q2, q3, q4, q5⟩ hg
          exact ⟨q0, pre', y, q1, q2, q3, q4.grown hg (fun e => by injection e with e; omega), same_gr q5 hg (fun j hj => .inl (by injection hj with hj; omega))⟩
        case round =>
          rintro l pre ⟨qi, sl⟩ X ⟨en, hen, hse⟩ ⟨q3, q4⟩ hlen hsz
          dsimp only at hse
          dsimp only [encsS, slV]
          gi_wp2
          obtain ⟨gX, hgX⟩ : ∃ g, g = X.heap.size := ⟨_, rfl⟩
          have hq4 := q4.size
          refine ⟨⟨Below.heap_alloc X _ _ (by omega), Below.heap_alloc X _ _ (by omega)⟩, fun W2 hg2 hs2 => ?_⟩
          have kX : Blk W2 gX 63 #[.int .i64 (en : Int), .int .i64 sl.plates, .int .i64 sl.beg, .int .i64 sl.fin] := by
            rw [hgX]; exact (Blk.new X 63 _).grown hg2 (fun e => by injection e with e; omega)
          have hs2' : W2.heap.size = X.heap.size + 1 := by rw [hs2]; simp
          have hbW : Below wr.heap.size wr W2 := (q4.alloc hq4 _).grown hg2 (by simp; omega) (fun j hj => by injection hj with hj; omega)
          have hold : ∀ j, j < X.heap.size → j ≠ w3.heap.size + 1 → W2.heap[j]? = X.heap[j]? := fun j h1 h2 => by
            rw [hg2.block j (by simp; omega) (fun e => h2 (by injection e)), Below.heap_alloc X _ j h1]
          have hkw := HWK.out.below hbW
          have hes : en < (setE k t2).es.length := by rw [hkw.len]; exact hen
          have hlt := late_any t2 x2 (setE k t2).es (setE k t2).E (setE k t2).C (setE k t2).cE (setE k t2).cC (setE k t2).g (allB t2) en sl.plates sl.beg sl.fin W2 (by rw [hkw.len]; have := (HC2.out).n1; rw [edsR_len]; omega) hes hkw.hk hkw.hE
          have hlb : decide ((setE k t2).es[en].1.due < sl.fin) = lateB (edsR t2) sl := by
            unfold lateB
            rw [hse, Int.toNat_natCast, ← hkw.eds]
            simp [hes]
          rw [hlb, EK.out] at hlt
          have kP2 := KPr.out.below hbW lPr
          have kR2 := KRr.out.below hbW lRr
          have p0 := kP2.cell 0
          have x0 := kX.cell 0
          have x1 := kX.cell 1
          have x2' := kX.cell 2
          have x3 := kX.cell 3
          simp at p0 x0 x1 x2' x3
          rw [← hgX]
          have HLT := Lib.hid hlt
          have HXl := kX.lt
          have KX := Lib.hid kX
          have KR2 := Lib.hid kR2
          have HBW := Lib.hid hbW
          have HOLD := Lib.hid hold
          have HQ3 := Lib.hid q3
          have HQ4 := Lib.hid q4
          have HGX := Lib.hid hgX
          have HG2 := Lib.hid hg2
          have HS2 := Lib.hid hs2'
          clear q3 q4 kX kP2 kR2 hbW hold hkw hlt hlb hgX hg2 hs2 hs2' hse
          cases hl : lateB (edsR t2) sl
          · rw [hl] at HLT
            have HL := Lib.hid hl
            clear hl
            gi_wp2_with (refine ⟨trivial, ?_⟩; gi_at_call 80; refine (callsIn_wide.2 HLT.out).mono ?_; rintro e w4 ⟨rfl, hb4⟩; have HB4 := Lib.hid hb4; clear hb4)
            have hs2 := HS2.out
            have hEh : ∀ j, j < W2.heap.size → w4.heap[j]? = W2.heap[j]? := fun j h1 => HB4.out.block j h1
            have hWW2 : Below wr.heap.size X W2 := ((Below.refl wr.heap.size X).alloc hq4 _).grown HG2.out (by simp; omega) (fun j hj => by injection hj with hj; omega)
            have hWW : Below wr.heap.size X w4 := hWW2.trans (HB4.out.mono (by omega))
            have kp : ∀ j, j < X.heap.size → j ≠ w3.heap.size + 1 → Kept j X w4 := fun j h1 h3 o' ho => by
              rw [hEh j (by omega), HOLD.out j h1 h3]; exact ho
            refine ⟨⟨hEh _ (by omega), hEh _ (by omega)⟩, ⟨hWW, kp gO' (by omega) (by omega), kp gQ' (by omega) (by omega), kp _ (by omega) (by omega)⟩, ?_, HQ4.out.trans hWW⟩
            intro y hy
            rcases List.mem_append.1 hy with h | h
            · exact HQ3.out y h
            · simp at h; subst h; exact HL.out
          · rw [hl] at HLT
            have HL := Lib.hid hl
            clear hl
            gi_wp2_with (refine ⟨trivial, ?_⟩; gi_at_call 80; refine (callsIn_wide.2 HLT.out).mono ?_; rintro e w4 ⟨rfl, hb4⟩; have HB4 := Lib.hid hb4; have a0' := (KR2.out.below hb4 KR2.out.lt).cell 0; have a1' := (KR2.out.below hb4 KR2.out.lt).frozen 0; have a2' := (KR2.out.below hb4 KR2.out.lt).lt; simp at a0'; clear hb4)
            have hs2 := HS2.out
            have hEh : ∀ j, j < W2.heap.size → j ≠ gR → (w4.setCell ⟨gR, 0, none⟩ (.bool false)).heap[j]? = W2.heap[j]? := fun j h1 h2 => by
              rw [Below.heap_setCell _ _ _ j (by exact h2), HB4.out.block j h1]
            refine ⟨⟨hEh _ (by omega) (by omega), hEh _ (by omega) (by omega)⟩, rfl, pre, (qi, sl), rfl, HL.out, HQ3.out, ?_, ?_⟩
            · have := (KR2.out.below HB4.out KR2.out.lt).set_ 0 (.bool false)
              simpa using this
            · exact same_gr (same_below (Same.refl _ _ _ _) (HBW.out.trans (HB4.out.mono HBW.out.size))) (gr_set w4 gR 0 _) (fun j e => .inr (.inl (by injection e with e; exact e.symm)))
        case done =>
          rintro xs X rfl ⟨q3, q4⟩ hK
          have kR2 := KRr.out.below q4 lRr
          have a0 := kR2.cell 0
          have a1 := kR2.frozen 0
          have al' := kR2.lt
          simp at a0
          have hnl : noLate t2 (edsR t2) o := fun i hi => q3 (itF t2 (edsR t2) o i) (List.mem_map.2 ⟨i, List.mem_range.2 hi, rfl⟩)
          have hres : inTW t o p v a = true := HINT.out.2 (by rw [← HT2.out]; exact hnl)
          have HRES := Lib.hid hres
          have Q4 := Lib.hid q4
          have KR2 := Lib.hid kR2
          have HKD := Lib.hid hK
          clear q3 q4 kR2 hnl hres hK
          go_wp2
          have z1b : Blk (X.setCell ⟨gR, 0, none⟩ (.bool true)) gR 4 #[.bool true] := by
            have := KR2.out.set_ 0 (.bool true)
            simpa using this
          have hsf := same_gr (same_below (Same.refl gR gR none wr) Q4.out) (gr_set X gR 0 (.bool true)) (fun j e => .inr (.inl (by injection e with e; exact e.symm)))
          have hK' : (X.setCell ⟨gR, 0, none⟩ (.bool true)).heap[w3.heap.size]? = some (.deferred (some [])) := by
            rw [Below.heap_setCell _ _ _ w3.heap.size (by show w3.heap.size ≠ gR; omega)]; exact HKD.out
          generalize World.setCell _ _ _ = W9 at z1b hsf hK' ⊢
          have y1 : Blk (W9.putObj w3.heap.size (.deferred none)) gR 4 #[.bool true] := (World.putObj_heap_other (by omega)).trans z1b
          have z1 := y1.cell 0
          simp at z1
          obtain ⟨hL, hS2⟩ := FIN.out _ (same_put hsf (i := w3.heap.size) (by omega) (.deferred none))
          refine ⟨by simp, .inl ⟨_, _, rfl, run_takeDeferred hK', ?_⟩⟩
          refine ⟨.bool true, by simp [results, Try.f77, go_sem, z1], ⟨by rw [HRES.out], _, _, g1, hL, ?_, hBg⟩⟩
          rw [← HGW.out.1]; exact hS2
        case stop =>
          rintro cd pre X ⟨i, hi, rfl⟩ ⟨rfl, pre', y, q1, q2, q3, q4, q5⟩ hK
          have hxs : pre' = upF (itF t2 (edsR t2) o) i ∧ y = itF t2 (edsR t2) o i := by
            rw [upF_succ] at q1
            have := List.append_inj' q1 rfl
            exact ⟨this.1.symm, by simpa using this.2.symm⟩
          obtain ⟨rfl, rfl⟩ := hxs
          have hfl : firstLate t2 (edsR t2) o i := ⟨hi, q2, fun j hj => q3 (itF t2 (edsR t2) o j) (List.mem_map.2 ⟨j, List.mem_range.2 hj, rfl⟩)⟩
          have hres : inTW t o p v a = false := HLATE.out i (by rw [← HT2.out]; exact hfl)
          have HRES := Lib.hid hres
          have Q4 := Lib.hid q4
          have Q5 := Lib.hid q5
          have HKD := Lib.hid hK
          clear q1 q2 q3 q4 q5 hfl hres hK
          refine wpIn_wide.2 ?_
          go_wp2
          have y1 : Blk (X.putObj w3.heap.size (.deferred none)) gR 4 #[.bool false] := (World.putObj_heap_other (by omega)).trans Q4.out
          have z1 := y1.cell 0
          simp at z1
          obtain ⟨hL, hS2⟩ := FIN.out _ (same_put Q5.out (i := w3.heap.size) (by omega) (.deferred none))
          refine ⟨by simp, .inl ⟨_, _, rfl, run_takeDeferred HKD.out, ?_⟩⟩
          refine ⟨.bool false, by simp [results, Try.f77, go_sem, z1], ⟨by rw [HRES.out], _, _, g1, hL, ?_, hBg⟩⟩
          rw [← HGW.out.1]; exact hS2
end Go.Proofs.Ytokdleanpkkdpaa
namespace Go.Ed
open Go.Fh Go.RowKit Go.Proofs.Ytokdleanpkkdpaa
theorem check_of {t : TitD} (h : ChkOk t) (hl : t.ready.length ≤ 200) : checkT t = 0 := by
  have her := firstErr_of h.er
  have hz : firstErr (fun k => errZ t (t.zones.getD k ⟨0, 0, []⟩)) t.zones.length = 0 := firstErr_of h.ez
  have hn0 := h.n0
  have hn1 := h.n1
  unfold checkT
  rw [hz, her]
  have e1 : inB (t.colours.length : Int) 1 64 = true := inB_iff.2 ⟨by have := h.c0; omega, by have := h.ok.c1; omega⟩
  have e2 : inB (t.zones.length : Int) 1 12 = true := inB_iff.2 ⟨by have := h.z0; omega, by have := h.z1; omega⟩
  have e3 : inB t.start 0 86400 = true := inB_iff.2 ⟨h.ok.start0, h.ok.start1⟩
  have e4 : inB t.rate 1 3000 = true := inB_iff.2 ⟨h.ok.rate0, h.ok.rate1⟩
  have e5 : inB t.stop 0 3600 = true := inB_iff.2 ⟨h.ok.stop0, h.ok.stop1⟩
  have e6 : inB t.hang 0 3600 = true := inB_iff.2 ⟨h.ok.hang0, h.ok.hang1⟩
  have e7 : (t.colours.any fun c => !inB c 1 4) = false := by
    rw [List.any_eq_false]
    intro c hcm
    simp [inB_iff.2 (h.ok.c4 c hcm)]
  have e8 : pairedB t = true := h.ok.pair
  have e9 : decide (200 < t.ready.length) = false := by simp; omega
  rw [e8, e9, e1, e2, e3, e4, e5, e6, e7]
  simp only [Bool.not_true, Bool.or_self, Bool.false_eq_true, if_false, ne_eq, not_true_eq_false]
  rw [if_neg (by omega), if_neg (by omega)]
/-- a second made earlier -/
def earl (at_ : Int) (r : Int × Int × Int) : Int × Int × Int := (r.1, r.2.1, r.2.2 - at_ % (r.2.2 + 1))
def quickT (t : TitD) (at_ fa : Int) : TitD := ⟨t.colours, t.pairs, t.zones, t.ready.map (earl at_), t.start, t.rate + fa, t.stop, t.hang⟩
theorem earl_bd {at_ : Int} {r : Int × Int × Int} (h0 : 0 ≤ r.2.2) : 0 ≤ (earl at_ r).2.2 ∧ (earl at_ r).2.2 ≤ r.2.2 := by
  have a := Int.emod_nonneg at_ (show r.2.2 + 1 ≠ 0 by omega)
  have b := Int.emod_lt_of_pos at_ (show 0 < r.2.2 + 1 by omega)
  show 0 ≤ r.2.2 - at_ % (r.2.2 + 1) ∧ r.2.2 - at_ % (r.2.2 + 1) ≤ r.2.2
  omega
theorem quick_ok {t : TitD} (h : ChkOk t) {at_ fa : Int} (hf0 : 0 ≤ fa) (hf : t.rate + fa ≤ 3000) : ChkOk (quickT t at_ fa) := by
  have hpw := ready_pw h.er
  have hz : ∀ k, edsN (quickT t at_ fa) k = edsN t k := edsN_zones_only (t := quickT t at_ fa) (t' := t) rfl
  refine ⟨⟨h.ok.c1, h.ok.c4, h.ok.start0, h.ok.start1, by have := h.ok.rate0; show 1 ≤ t.rate + fa; omega, hf, h.ok.stop0, h.ok.stop1, h.ok.hang0, h.ok.hang1, h.ok.pair⟩, h.c0, h.z0, h.z1, by show (t.ready.map (earl at_)).length ≤ 300; rw [List.length_map]; exact h.r1, h.ez, ?_, by rw [hz]; exact h.n0, by rw [hz]; exact h.n1⟩
  refine errR_of (t := quickT t at_ fa) (fun r hr => ?_) ?_
  · obtain ⟨r0, h0, rfl⟩ := List.mem_map.1 (show r ∈ t.ready.map (earl at_) from hr)
    obtain ⟨i, hi, rfl⟩ := List.getElem_of_mem h0
    have := (errR_iff hi).1 (h.er i hi)
    have b := earl_bd (at_ := at_) (r := t.ready[i]) this.2.2.1.1
    exact ⟨this.1, this.2.1, b.1, by omega⟩
  · show (t.ready.map (earl at_)).Pairwise _
    exact List.Pairwise.map _ (fun a b hab => hab) hpw
theorem readyN_le (f : Int × Int × Int → Int × Int × Int) (l : List (Int × Int × Int)) (hf : ∀ r ∈ l, (f r).1 = r.1 ∧ (f r).2.1 = r.2.1 ∧ (f r).2.2 ≤ r.2.2) (v : List Int) : ∀ k, k ≤ l.length → readyN (l.map f) v k ≤ readyN l v k := by
  intro k
  induction k with
  | zero => intro _; exact Int.le_refl _
  | succ k ih =>
    intro hk
    have ih := ih (by omega)
    have e1 : (l.map f).getD k (0, 0, 0) = f l[k] := by simp [show k < l.length by omega]
    have e2 : l.getD k (0, 0, 0) = l[k] := by simp [show k < l.length by omega]
    have h := hf _ (List.getElem_mem (show k < l.length by omega))
    simp only [readyN]
    rw [e1, e2, h.1, h.2.1]
    split <;> omega
theorem quick_quick {t : TitD} (h : ChkOk t) {at_ fa : Int} (hf0 : 0 ≤ fa) : Quick t (quickT t at_ fa) := ⟨rfl, rfl, rfl, rfl, rfl, h.ok.rate0, by show t.rate ≤ t.rate + fa; omega⟩
theorem quick_later {t : TitD} (h : ChkOk t) {at_ fa : Int} : Later (edsR (quickT t at_ fa)) (edsR t) := by
  refine later_of_ready (t := quickT t at_ fa) (t' := t) rfl fun v => ?_
  show readyN (t.ready.map (earl at_)) v (t.ready.map (earl at_)).length ≤ _
  rw [List.length_map]
  refine readyN_le _ _ (fun r hr => ?_) v _ (Nat.le_refl _)
  obtain ⟨i, hi, rfl⟩ := List.getElem_of_mem hr
  have := (errR_iff hi).1 (h.er i hi)
  exact ⟨rfl, rfl, (earl_bd this.2.2.1.1).2⟩
/-- with a faster press and earlier seconds no slot ends later -/
theorem quick_slots {t : TitD} (h : ChkOk t) {at_ fa : Int} (hf0 : 0 ≤ fa) (o : List Nat) {i : Nat} (hi : i < o.length) :
    (slotAt (quickT t at_ fa) (edsR (quickT t at_ fa)) o i).fin ≤ (slotAt t (edsR t) o i).fin ∧ (slotAt (quickT t at_ fa) (edsR (quickT t at_ fa)) o i).plates = (slotAt t (edsR t) o i).plates := by
  have hc : ∀ e, 0 ≤ ((edsR t).getD e ed0).copies := fun e => by
    by_cases he : e < (edsR t).length
    · have := (edsR_ok h (getD_mem he)).c0
      omega
    · rw [List.getD_eq_getElem?_getD, List.getElem?_eq_none (by omega)]; exact Int.le_refl 0
  have hq := quick_run (quick_quick (at_ := at_) h hf0) (quick_later h (at_ := at_) (fa := fa)) hc (o.take (i + 1))
  have e1 := runE_last t (edsR t) o hi
  unfold slotAt
  rcases hq with ⟨q, _⟩ | ⟨s, s', q1, q2, _, q4, q5⟩
  · rw [e1] at q; cases q
  · rw [q1, q2]
    exact ⟨q4, q5⟩
theorem made_rate (l : List Nat) : (madeT l).rate ≤ 219 := by
  have := dig_bd l 0 (n := 200) (by decide)
  show 20 + dig l 0 200 ≤ 219
  omega
/-- the seconds, the first ones made earlier -/
def earlL (at_ : Int) (l : List (Int × Int × Int)) (k : Nat) : List (Int × Int × Int) := (l.take k).map (earl at_) ++ l.drop k
theorem earlL_len (at_ : Int) (l : List (Int × Int × Int)) (k : Nat) : (earlL at_ l k).length = l.length := by simp [earlL]; omega
theorem earlL_get {at_ : Int} {l : List (Int × Int × Int)} {k : Nat} (h : k < l.length) : (earlL at_ l k)[k]'(by rw [earlL_len]; exact h) = l[k] := by
  unfold earlL
  rw [List.getElem_append_right (by simp; omega)]
  simp only [List.getElem_drop]
  congr 1
  simp; omega
theorem earlL_succ {at_ : Int} {l : List (Int × Int × Int)} {k : Nat} (h : k < l.length) : earlL at_ l (k + 1) = (earlL at_ l k).set k (earl at_ l[k]) := by
  unfold earlL
  rw [List.take_succ_eq_append_getElem h, List.map_append, List.append_assoc, List.set_append_right _ _ (by simp; omega)]
  simp [show k - min k l.length = 0 by omega]
  rw [List.drop_eq_getElem_cons h]; rfl
theorem earlL_all (at_ : Int) (l : List (Int × Int × Int)) : earlL at_ l l.length = l.map (earl at_) := by simp [earlL]
theorem flat3_set2 : ∀ (l : List (Int × Int × Int)) (n : Nat) (x : Int × Int × Int) (h : n < l.length), x.1 = l[n].1 → x.2.1 = l[n].2.1 → (l.set n x).flatMap enc3 = (l.flatMap enc3).set (n * 3 + 2) (.int .i64 x.2.2)
  | [], n, x, h, _, _ => by simp at h
  | y :: l, 0, x, h, h1, h2 => by
    simp only [List.getElem_cons_zero] at h1 h2
    simp only [List.set_cons_zero, List.flatMap_cons]
    rw [List.set_append_left _ _ (by simp [enc3])]
    simp [enc3, h1, h2]
  | y :: l, n + 1, x, h, h1, h2 => by
    have ih := flat3_set2 l n x (by simpa using h) (by simpa using h1) (by simpa using h2)
    simp only [List.set_cons_succ, List.flatMap_cons, ih]
    rw [List.set_append_right _ _ (by simp [enc3]; omega)]
    congr 2
    simp [enc3]; omega
end Go.Ed
namespace Go.Proofs.Ytokdleanpkkdpaa
open Go.RowKit Go.Fh Go.Ed Go.Shelf
/-- what Latest returns -/
def LatRes (t : TitD) (o : List Nat) (p v : Int) (e : Ending) : Prop := (inTW t o p v 0 = false ∧ e = .returned (.tuple #[.int .i64 0, .int .i64 4])) ∨ ∃ n, LatI t o p v n ∧ e = .returned (.tuple #[.int .i64 n, .int .i64 0])
set_option maxRecDepth 100000 in
set_option maxHeartbeats 4000000 in
theorem Latest_ok (t : TitD) (x : TA) (zs : List ZonM) (w : World) (hs : Sizes t) (hT : TitAt w w.heap.size t x zs) (A : Option Addr) (c : Nat) (o : List Nat) (p v : Int) (hl : o.length ≤ 100) (hA : Sl encInt 1 w w.heap.size A (o.map fun (e : Nat) => (e : Int))) (hc : checkT t = 0) (ho : ordersB (edsR t).length (o.map fun (e : Nat) => (e : Int)) = true)
    (hp : 0 ≤ p ∧ p ≤ (t.colours.length : Int) - 1) (hv : 0 ≤ v ∧ v ≤ 9) :
    Calls Try.prog 27 #[.agg (titV t x), .slice A o.length c, .int .i64 p, .int .i64 v] w fun e w' => LatRes t o p v e ∧ Below w.heap.size w w' := by
  obtain ⟨w1, hw1⟩ : ∃ W, W = (((w.alloc (.cells (titV t x) 26)).alloc (.cells #[.slice A o.length c] 22)).alloc (.cells #[.int .i64 p] 3)).alloc (.cells #[.int .i64 v] 3) := ⟨_, rfl⟩
  have hb1 : Below w.heap.size w w1 := by rw [hw1]; exact bal (bal (bal (bal (Below.refl _ _) _) _) _) _
  obtain ⟨gT, hgT⟩ : ∃ g, g = w.heap.size := ⟨_, rfl⟩
  obtain ⟨gO, hgO⟩ : ∃ g, g = w.heap.size + 1 := ⟨_, rfl⟩
  obtain ⟨gG, hgG⟩ : ∃ g, g = w.heap.size + 1 + 1 := ⟨_, rfl⟩
  obtain ⟨gV, hgV⟩ : ∃ g, g = w.heap.size + 1 + 1 + 1 := ⟨_, rfl⟩
  have kT : Blk w1 gT 26 (titV t x) := by rw [hw1, hgT]; exact (((blkAt rfl 26 _).alloc _).alloc _).alloc _
  have kO : Blk w1 gO 22 #[.slice A o.length c] := by rw [hw1, hgO]; exact ((blkAt (by simp) 22 _).alloc _).alloc _
  have kG : Blk w1 gG 3 #[.int .i64 p] := by rw [hw1, hgG]; exact (blkAt (by simp) 3 _).alloc _
  have kV : Blk w1 gV 3 #[.int .i64 v] := by rw [hw1, hgV]; exact blkAt (by simp) 3 _
  have r0 := kT.cell 0
  have r1 := kT.cell 1
  have r2 := kT.cell 2
  have r3 := kT.cell 3
  have r4 := kT.cell 4
  have r5 := kT.cell 5
  have r6 := kT.cell 6
  have r7 := kT.cell 7
  have rO := kO.cell 0
  simp [titV] at r0 r1 r2 r3 r4 r5 r6 r7 rO
  have hlo : (o.map fun (e : Nat) => (e : Int)).length = o.length := by simp
  have HCK := Lib.hid (ask_ok t x zs w1 hs ((hT.below hb1).mono hb1.size) A c (o.map fun (e : Nat) => (e : Int)) (by rw [hlo]; omega) ((hA.below hb1).mono hb1.size) hc)
  rw [hlo, ho] at HCK
  simp only [if_true] at HCK
  have hoe : ∀ e ∈ o, e < (edsR t).length := by
    intro e he
    unfold ordersB at ho
    simp only [Bool.and_eq_true] at ho
    have := inB_iff.1 (List.all_eq_true.1 ho.1.2 (e : Int) (List.mem_map.2 ⟨e, he, rfl⟩))
    omega
  have hcl : 1 ≤ t.colours.length := (chk_ok hc).c0
  have hcu : t.colours.length ≤ 64 := (chk_ok hc).ok.c1
  have HIN := Lib.hid (fun (k : Wk) (rd : List (Int × Int × Int)) (r : Option Addr) (cr : Nat) (gP : Nat) (a : Int) (W : World) (ha : 0 ≤ a ∧ a ≤ 86400) (hBW : w1.heap.size ≤ W.heap.size) (h : LatAt W w1.heap.size w.heap.size t x rd r cr k gP gT gG gV gO p v A c o) =>
    inTime77_any t x k rd r cr w1.heap.size w.heap.size gP gT gG gV gO p v a A c o W hc hp hv ha hl hoe hb1.size hBW h)
  have HB1 := Lib.hid hb1
  have HW1 := Lib.hid hw1
  have HGG := Lib.hid (And.intro hgT (And.intro hgO (And.intro hgG hgV)))
  have KT := Lib.hid kT
  have KO := Lib.hid kO
  have KG := Lib.hid kG
  have KV := Lib.hid kV
  have HRT := Lib.hid hT.cR
  have HOA := Lib.hid hA
  obtain ⟨hp0, hp1⟩ := hp
  obtain ⟨hv0, hv1⟩ := hv
  have q1 : inB p 0 ((t.colours.length : Int) - 1) = true := inB_iff.2 ⟨hp0, hp1⟩
  have q2 : inB v 0 9 = true := inB_iff.2 ⟨hv0, hv1⟩
  clear hb1 hw1 hgT hgO hgG hgV kT kO kG kV hT hs hc hA ho hoe hlo
  unfold titV at *
  go_enter Try.func27, Try.ntmps27
  go_upto_region 1 with fail
  rw [← HW1.out, ← HGG.out.2.2.2, ← HGG.out.2.2.1, ← HGG.out.2.1, ← HGG.out.1]
  go_upto_region 4 with (go_at_call 63; refine HCK.out.mono ?_; rintro e w2 ⟨k, rfl, hk, hb2⟩; have HB2 := Lib.hid hb2; have HK := Lib.hid hk; clear hb2 hk)
  obtain ⟨gP, hgP⟩ : ∃ g, g = w2.heap.size := ⟨_, rfl⟩
  obtain ⟨w3, hw3⟩ : ∃ W, W = w2.alloc (.cells #[.pointer (some ⟨k.g, 0, none⟩)] 124) := ⟨_, rfl⟩
  rw [← hw3, ← hgP]
  have hb23 : Below w2.heap.size w2 w3 := by rw [hw3]; exact bal (Below.refl _ _) _
  have hb13 : Below w1.heap.size w1 w3 := HB2.out.trans (hb23.mono HB2.out.size)
  have hLA : LatAt w3 w1.heap.size w.heap.size t x t.ready x.r x.cr k gP gT gG gV gO p v A c o :=
    ⟨HK.out.below hb23, by rw [hw3, hgP]; exact blkAt rfl 124 _, KT.out.below hb13 KT.out.lt, KG.out.below hb13 KG.out.lt, KV.out.below hb13 KV.out.lt, KO.out.below hb13 KO.out.lt, HRT.out.below (HB1.out.trans (hb13.mono HB1.out.size)), HOA.out.below (HB1.out.trans (hb13.mono HB1.out.size))⟩
  have HLA := Lib.hid hLA
  have HB13 := Lib.hid hb13
  have HBG := Lib.hid (show ∀ (W W' : World) (rd : List (Int × Int × Int)) (r : Option Addr) (cr : Nat) (k : Wk) (g1 : Nat), Below w.heap.size w W → LatAt W w1.heap.size w.heap.size t x rd r cr k gP gT gG gV gO p v A c o → Same k.g g1 none W W' → w1.heap.size ≤ g1 → Below w.heap.size w W' from fun W W' rd r cr k g1 hb h hs hg =>
    hs.below hb hb.size (Nat.le_trans HB1.out.size h.wk.hg) (Nat.le_trans HB1.out.size hg) (fun j e => by cases e))
  have s3 := hb13.size
  have pT := (KT.out.below hb13 KT.out.lt).cell 0
  have pG := (KG.out.below hb13 KG.out.lt).cell 0
  have pV := (KV.out.below hb13 KV.out.lt).cell 0
  simp [titV] at pT pG pV
  clear hw3 hgP hb23 hb13 hLA
  go_upto_region 7 with (go_at_call 65; refine (within_any _ _ _ _).mono ?_; rintro e w' ⟨rfl, rfl⟩)
  clear pT pG pV r0 r1 r2 r3 r4 r5 r6 r7 rO q1 q2
  have HB3 := Lib.hid (HB1.out.trans (HB13.out.mono HB1.out.size))
  have HC0 := Lib.hid (HIN.out k t.ready x.r x.cr gP 0 w3 ⟨by omega, by omega⟩ s3 HLA.out)
  cases h0 : inTW t o p v 0
  · rw [h0] at HC0
    have H0 := Lib.hid h0
    clear h0
    go_wp2_with (go_at_call 77; refine HC0.out.mono ?_; rintro e w4 ⟨rfl, ra, ca, g1, HL, HS⟩)
    go_ret2
    exact ⟨.inl ⟨H0.out, rfl⟩, HBG.out _ _ _ _ _ _ _ HB3.out HLA.out HS.out.1 HS.out.2⟩
  · rw [h0] at HC0
    have H0 := Lib.hid h0
    clear h0
    go_wp2_with (go_at_call 77; refine HC0.out.mono ?_; rintro e w4 ⟨rfl, ra, ca, g1, HL, HS⟩)
    have HB4 := Lib.hid (HBG.out _ _ _ _ _ _ _ HB3.out HLA.out HS.out.1 HS.out.2)
    have s4 := Nat.le_trans s3 HS.out.1.size
    go_loopw [13, 14] (fun lo hi wr => ∃ (a b : Int) (k' : Wk) (rd : List (Int × Int × Int)) (r' : Option Addr) (c' : Nat), lo = .int .i64 a ∧ hi = .int .i64 b ∧ 0 ≤ a ∧ a ≤ b ∧ b ≤ 86400 ∧ Hid (inTW t o p v a = true) ∧ Hid (∀ m, b < m → m ≤ 86400 → inTW t o p v m = false) ∧ Hid (LatAt wr w1.heap.size w.heap.size t x rd r' c' k' gP gT gG gV gO p v A c o) ∧ Hid (Below w.heap.size w wr) ∧ w1.heap.size ≤ wr.heap.size) (fun lo hi _ => (intOf hi - intOf lo).toNat)
    case atStart => exact ⟨0, 86400, _, _, ra, ca, rfl, rfl, by omega, by omega, by omega, H0, Lib.hid (fun m h1 h2 => by omega), HL, HB4, s4⟩
    case round =>
      obtain ⟨a, b, k', rd, r', c', rfl, rfl, ha0, hab, hb0, HA, HH, HLr, HBr, hsr⟩ := hrel
      by_cases hlt : a < b
      · obtain ⟨md, hmd⟩ : ∃ m, m = (a + b + 1) / 2 := ⟨_, rfl⟩
        have hm1 : a < md ∧ md ≤ b := by omega
        obtain ⟨hm1, hm2⟩ := hm1
        have HMD := Lib.hid hmd
        have HCm := Lib.hid (HIN.out k' rd r' c' gP md wr ⟨by omega, by omega⟩ hsr HLr.out)
        clear hmd
        go_upto_region 12 with fail
        rw [← HMD.out]
        cases hi : inTW t o p v md
        · rw [hi] at HCm
          have HI := Lib.hid hi
          clear hi
          go_wp2_with (go_at_call 77; refine HCm.out.mono ?_; rintro e w5 ⟨rfl, rb, cb, g2, HL5, HS5⟩)
          go_roundw
          case rel => exact ⟨a, md - 1, _, _, rb, cb, rfl, rfl, ha0, by omega, by omega, HA, Lib.hid (fun m h1 h2 => by
            exact inTW_anti (show md ≤ m by omega) HI.out), HL5, Lib.hid (HBG.out _ _ _ _ _ _ _ HBr.out HLr.out HS5.out.1 HS5.out.2), Nat.le_trans hsr HS5.out.1.size⟩
          case measure => simp [intOf]; omega
        · rw [hi] at HCm
          have HI := Lib.hid hi
          clear hi
          go_wp2_with (go_at_call 77; refine HCm.out.mono ?_; rintro e w5 ⟨rfl, rb, cb, g2, HL5, HS5⟩)
          go_roundw
          case rel => exact ⟨md, b, _, _, rb, cb, rfl, rfl, by omega, by omega, hb0, HI, HH, HL5, Lib.hid (HBG.out _ _ _ _ _ _ _ HBr.out HLr.out HS5.out.1 HS5.out.2), Nat.le_trans hsr HS5.out.1.size⟩
          case measure => simp [intOf]; omega
      · obtain rfl : a = b := by omega
        go_wp2_with fail
        go_ret2
        exact ⟨.inr ⟨a, ⟨ha0, hb0, HA.out, HH.out⟩, rfl⟩, HBr.out⟩
end Go.Proofs.Ytokdleanpkkdpaa
