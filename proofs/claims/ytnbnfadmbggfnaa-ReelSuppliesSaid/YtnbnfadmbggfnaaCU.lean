/- Contract of the law's supplies; conditions: a supply and two lists in memory. Printed by a program. -/
import Derived.Test.YtnbnfadmbggfnaaCT
import Derived.Test.YtnbnfadmbggfnaaCN
import Derived.Test.YtnbnfadmbggfnaaCO
import Derived.Test.YtnbnfadmbggfnaaA6
import Derived.Test.YtnbnfadmbggfnaaA7
import Derived.Deep.DeepCutAuto
import Derived.Deep.RegionHeld3
set_option linter.unusedSimpArgs false
set_option linter.unusedVariables false
namespace Go.Proofs.Ytnbnfadmbggfnaa
open Go.RowKit Go.Fh Go.Rl
theorem bset {B : Nat} {w v : World} (h : Below B w v) (p : Addr) (u : Value) (hp : B ≤ p.block) : Below B w (v.setCell p u) := h.setCell hp u
theorem blk4x {w : World} {g : Nat} {e : TypeId} {a0 a1 a2 a3 : Value} (h : Blk w g e #[a0, a1, a2, a3]) (v0 v1 v2 v3 : Value) :
    Blk ((((w.setCell ⟨g, 0, none⟩ v0).setCell ⟨g, 1, none⟩ v1).setCell ⟨g, 2, none⟩ v2).setCell ⟨g, 3, none⟩ v3) g e #[v0, v1, v2, v3] := by
  have := (((h.set_ 0 v0).set_ 1 v1).set_ 2 v2).set_ 3 v3
  simpa using this
theorem own_type {W : World} {g : Nat} {e e' : TypeId} {b s n : Nat} {v : Value} {xs : List Value} {cs : Array Value} (ho : W.ownsRow b e' s v n xs) (hk : Blk W g e cs) (he : e' ≠ e) (i : Nat) (u : Value) : (W.setCell ⟨g, i, none⟩ u).ownsRow b e' s v n xs := by
  refine own_heap ho fun g' cs' hv hg => ?_
  exact Below.heap_setCell W ⟨g, i, none⟩ u g' (Blk.ne_ (t := e') (cs := cs') hg hk he)
theorem own_set4 {W : World} {b : Nat} {e e' : TypeId} {s n g : Nat} {v : Value} {xs : List Value} {cs : Array Value} (ho : W.ownsRow b e' s v n xs) (hk : Blk W g e cs) (he : e' ≠ e) (v0 v1 v2 v3 : Value) :
    ((((W.setCell ⟨g, 0, none⟩ v0).setCell ⟨g, 1, none⟩ v1).setCell ⟨g, 2, none⟩ v2).setCell ⟨g, 3, none⟩ v3).ownsRow b e' s v n xs :=
  own_type (own_type (own_type (own_type ho hk he 0 v0) (hk.set_ 0 v0) he 1 v1) ((hk.set_ 0 v0).set_ 1 v1) he 2 v2) (((hk.set_ 0 v0).set_ 1 v1).set_ 2 v2) he 3 v3
theorem own_sz {W : World} {b : Nat} {e : TypeId} {s n : Nat} {v : Value} {xs : List Value} (h : W.ownsRow b e s v n xs) {b' : Nat} (hb : b' ≤ b) : W.ownsRow b' e s v n xs := World.ownsRow.mono h hb
theorem cells4 {w W : World} {g : Nat} {e : TypeId} {a0 a1 a2 a3 : Value} (h : Blk w g e #[a0, a1, a2, a3]) (hb : Below w.heap.size w W) : W.cell? ⟨g, 0, none⟩ = some a0 ∧ W.cell? ⟨g, 1, none⟩ = some a1 ∧ W.cell? ⟨g, 2, none⟩ = some a2 ∧ W.cell? ⟨g, 3, none⟩ = some a3 := by
  have k := h.below hb h.lt
  have r0 := k.cell 0
  have r1 := k.cell 1
  have r2 := k.cell 2
  have r3 := k.cell 3
  simp at r0 r1 r2 r3
  exact ⟨r0, r1, r2, r3⟩
theorem cells2 {w W : World} {g : Nat} {e : TypeId} {a0 a1 : Value} (h : Blk w g e #[a0, a1]) (hb : Below w.heap.size w W) : W.cell? ⟨g, 0, none⟩ = some a0 ∧ W.cell? ⟨g, 1, none⟩ = some a1 := by
  have k := h.below hb h.lt
  have r0 := k.cell 0
  have r1 := k.cell 1
  simp at r0 r1
  exact ⟨r0, r1⟩
theorem eqT_any (A B : Option Addr) (c d n : Nat) (l : List Int) (w : World) (hn : l.length = n) (hl : n ≤ 1000000000) (hA : Sl encInt 1 w w.heap.size A l) (hB : Sl encInt 1 w w.heap.size B l) :
    Calls Try.prog 34 #[.slice A n c, .slice B n d] w fun e w' => e = .returned (.bool true) ∧ Hid (Below w.heap.size w w') := by
  subst hn
  have h := equalInts_any A B c d l l w (by omega) (by omega) hA hB
  have h2 : Calls Try.prog 34 #[.slice A l.length c, .slice B l.length d] w fun e w' => e = .returned (.bool true) ∧ Below w.heap.size w w' := by simpa using h
  exact h2
theorem cloneE (A : Option Addr) (c n : Nat) (l : List Int) (w : World) (hn : l.length = n) (hl : n ≤ 1000000000) (hA : Sl encInt 1 w w.heap.size A l) :
    Calls Try.prog 58 #[.slice A n c] w fun e w' => ∃ A' c', e = .returned (.slice A' n c') ∧ Hid (Sl encInt 1 w' w'.heap.size A' l) ∧ Hid (Below w.heap.size w w') := by
  subst hn
  exact (cloneOwn_any A c l w (by omega) hA).mono (by rintro e w' ⟨A', c', rfl, ho, hb⟩; exact ⟨A', c', rfl, Lib.hid (own_sl ho), Lib.hid hb⟩)
set_option maxRecDepth 20000 in
set_option maxHeartbeats 4000000 in
theorem supplies_any (s : SupD) (x : SA) (w : World) (hl : s.need.length ≤ 1000000000 ∧ s.order.length ≤ 1000000000) (hT : SupAt w w.heap.size s x) (A : Option Addr) (c m : Nat) (ws : List Int) (hm : ws.length = m) (hm9 : m ≤ 1000000000) (hA : Sl encInt 1 w w.heap.size A ws) (P : Option Addr) (cp k : Nat) (ps : List Int) (hk : ps.length = k) (hk9 : k ≤ 1000000000) (hP : Sl encInt 1 w w.heap.size P ps) :
    Calls Try.prog 27 #[.agg #[.slice x.a s.need.length x.ca, .slice x.b s.order.length x.cb, .int .i64 s.keep, .int .i64 s.room], .slice A m c, .slice P k cp] w fun e w' => e = .returned (.bool true) ∧ Hid (Below w.heap.size w w') := by
  obtain ⟨w1, gT, HW1, HGT, HB1, HTB⟩ := sup_box 60 s x w hT
  obtain ⟨-, r0, r1, r2, r3⟩ := HTB.out w1 (Below.refl _ _)
  have hgl : gT < w1.heap.size := by have := HW1.out; have := HGT.out; subst w1 gT; simp
  have HCLA := Lib.hid (show ∀ W, Below w1.heap.size w1 W → Calls Try.prog 58 #[.slice x.a s.need.length x.ca] W fun e w' => ∃ A' c', e = .returned (.slice A' s.need.length c') ∧ w'.ownsRow W.heap.size 3 1 (.slice A' s.need.length c') s.need.length (s.need.map (Value.int .i64)) ∧ Below W.heap.size W w' from fun W hb => cloneOwn_any x.a x.ca s.need W (by omega) (HTB.out W hb).1.cN)
  have HCLB := Lib.hid (show ∀ W, Below w1.heap.size w1 W → Calls Try.prog 58 #[.slice x.b s.order.length x.cb] W fun e w' => ∃ A' c', e = .returned (.slice A' s.order.length c') ∧ w'.ownsRow W.heap.size 3 1 (.slice A' s.order.length c') s.order.length (s.order.map (Value.int .i64)) ∧ Below W.heap.size W w' from fun W hb => cloneOwn_any x.b x.cb s.order W (by omega) (HTB.out W hb).1.cO)
  have SB := Lib.hid (show ∀ W, Below w1.heap.size w1 W → W.cell? ⟨gT, 0, none⟩ = some (.slice x.a s.need.length x.ca) ∧ W.cell? ⟨gT, 1, none⟩ = some (.slice x.b s.order.length x.cb) ∧ W.cell? ⟨gT, 2, none⟩ = some (.int .i64 s.keep) ∧ W.cell? ⟨gT, 3, none⟩ = some (.int .i64 s.room) from fun W hb => (HTB.out W hb).2)
  have HWS1 := Lib.hid hA
  have HPS1 := Lib.hid hP
  have HM := Lib.hid (And.intro hm hm9)
  have HK := Lib.hid (And.intro hk hk9)
  have HL := Lib.hid hl
  unfold supV at *
  clear hA hP hT hm hm9 hk hk9 hl
  go_enter Try.func27, Try.ntmps27
  go_upto_region 1 with fail
  rw [← HW1.out, ← HGT.out]
  go_cut [7] (fun p wx => ∃ (g4 : Nat) (AA : Option Addr) (cA : Nat) (AB : Option Addr) (cB : Nat), p = .pointer (some ⟨g4, 0, none⟩) ∧ Hid (Blk wx g4 60 #[.slice AA s.need.length cA, .slice AB s.order.length cB, .int .i64 s.keep, .int .i64 s.room]) ∧ Hid (wx.ownsRow w1.heap.size 3 1 (.slice AA s.need.length cA) s.need.length (s.need.map (Value.int .i64))) ∧ Hid (wx.ownsRow w1.heap.size 3 1 (.slice AB s.order.length cB) s.order.length (s.order.map (Value.int .i64))) ∧ Hid (w1.heap.size ≤ g4) ∧ Hid (Below w1.heap.size w1 wx))
  case first =>
    skip
    clear r0 r1 r2 r3
    go_region_held3 (fun W => W.cell? ⟨gT, 0, none⟩ = some (.slice x.a s.need.length x.ca) ∧ W.cell? ⟨gT, 1, none⟩ = some (.slice x.b s.order.length x.cb) ∧ W.cell? ⟨gT, 2, none⟩ = some (.int .i64 s.keep) ∧ W.cell? ⟨gT, 3, none⟩ = some (.int .i64 s.room))
      (exact SB.out _ (by (repeat (with_reducible first | exact Below.refl _ _ | exact HBA.out | exact HBB.out | refine Below.drew ?_ | refine balR ?_ _ | refine bset ?_ _ _ (by first | exact Nat.le_refl _ | exact HBA.out.size | exact HBB.out.size)))))
      (first
        | (go_at_call 58; with_reducible refine (HCLA.out _ (by (repeat (with_reducible first | exact Below.refl _ _ | exact HBA.out | exact HBB.out | refine Below.drew ?_ | refine balR ?_ _ | refine bset ?_ _ _ (by first | exact Nat.le_refl _ | exact HBA.out.size | exact HBB.out.size))))).mono ?_; rintro r vA ⟨AA, cA, rfl, ho, hb⟩; (first | (have kS := blkA hb; have KS := Lib.hid kS; have e0 := kS.cell 0; have f0 := kS.frozen 0; have e1 := kS.cell 1; have f1 := kS.frozen 1; have e2 := kS.cell 2; have f2 := kS.frozen 2; have e3 := kS.cell 3; have f3 := kS.frozen 3; simp at e0 e1 e2 e3; clear kS) | (have kS := blkA' hb; have KS := Lib.hid kS; have e0 := kS.cell 0; have f0 := kS.frozen 0; have e1 := kS.cell 1; have f1 := kS.frozen 1; have e2 := kS.cell 2; have f2 := kS.frozen 2; have e3 := kS.cell 3; have f3 := kS.frozen 3; simp at e0 e1 e2 e3; clear kS) | (have kS := KS.out.below (by exact hb) KS.out.lt; have KS := Lib.hid kS; clear e0 e1 e2 e3 f0 f1 f2 f3; have e0 := kS.cell 0; have f0 := kS.frozen 0; have e1 := kS.cell 1; have f1 := kS.frozen 1; have e2 := kS.cell 2; have f2 := kS.frozen 2; have e3 := kS.cell 3; have f3 := kS.frozen 3; simp at e0 e1 e2 e3; clear kS) | skip); have HBA := Lib.hid (bstep (show Below w1.heap.size w1 _ from by (repeat (with_reducible first | exact Below.refl _ _ | exact HBA.out | exact HBB.out | refine Below.drew ?_ | refine balR ?_ _ | refine bset ?_ _ _ (by first | exact Nat.le_refl _ | exact HBA.out.size | exact HBB.out.size)))) hb); have HCA := Lib.hid hb; have HPA := Lib.hid (own_sz ho (Below.size (show Below w1.heap.size w1 _ from by (repeat (with_reducible first | exact Below.refl _ _ | exact HBA.out | exact HBB.out | refine Below.drew ?_ | refine balR ?_ _ | refine bset ?_ _ _ (by first | exact Nat.le_refl _ | exact HBA.out.size | exact HBB.out.size)))))); clear ho hb)
        | (go_at_call 58; with_reducible refine (HCLB.out _ (by (repeat (with_reducible first | exact Below.refl _ _ | exact HBA.out | exact HBB.out | refine Below.drew ?_ | refine balR ?_ _ | refine bset ?_ _ _ (by first | exact Nat.le_refl _ | exact HBA.out.size | exact HBB.out.size))))).mono ?_; rintro r vB ⟨AB, cB, rfl, ho, hb⟩; (first | (have kS := blkA hb; have KS := Lib.hid kS; have e0 := kS.cell 0; have f0 := kS.frozen 0; have e1 := kS.cell 1; have f1 := kS.frozen 1; have e2 := kS.cell 2; have f2 := kS.frozen 2; have e3 := kS.cell 3; have f3 := kS.frozen 3; simp at e0 e1 e2 e3; clear kS) | (have kS := blkA' hb; have KS := Lib.hid kS; have e0 := kS.cell 0; have f0 := kS.frozen 0; have e1 := kS.cell 1; have f1 := kS.frozen 1; have e2 := kS.cell 2; have f2 := kS.frozen 2; have e3 := kS.cell 3; have f3 := kS.frozen 3; simp at e0 e1 e2 e3; clear kS) | (have kS := KS.out.below (by exact hb) KS.out.lt; have KS := Lib.hid kS; clear e0 e1 e2 e3 f0 f1 f2 f3; have e0 := kS.cell 0; have f0 := kS.frozen 0; have e1 := kS.cell 1; have f1 := kS.frozen 1; have e2 := kS.cell 2; have f2 := kS.frozen 2; have e3 := kS.cell 3; have f3 := kS.frozen 3; simp at e0 e1 e2 e3; clear kS) | skip); have HBB := Lib.hid (bstep (show Below w1.heap.size w1 _ from by (repeat (with_reducible first | exact Below.refl _ _ | exact HBA.out | exact HBB.out | refine Below.drew ?_ | refine balR ?_ _ | refine bset ?_ _ _ (by first | exact Nat.le_refl _ | exact HBA.out.size | exact HBB.out.size)))) hb); have HCB := Lib.hid hb; have HPB := Lib.hid (own_sz ho (Below.size (show Below w1.heap.size w1 _ from by (repeat (with_reducible first | exact Below.refl _ _ | exact HBA.out | exact HBB.out | refine Below.drew ?_ | refine balR ?_ _ | refine bset ?_ _ _ (by first | exact Nat.le_refl _ | exact HBA.out.size | exact HBB.out.size)))))); clear ho hb))
    all_goals go_wp2
    all_goals go_meet
    all_goals
      refine ⟨_, AA, cA, AB, cB, rfl, ?_, ?_, ?_, ?_, ?_⟩
      · first
          | (with_reducible exact Lib.hid (blk4x KS.out _ _ _ _))
          | (with_reducible exact Lib.hid (Blk.new _ _ _))
      · first
          | (with_reducible exact Lib.hid (own_set4 (own_belowV HPA.out (by (repeat (with_reducible first | exact Below.refl _ _ | refine bstep ?_ HCA.out | refine bstep ?_ HCB.out | refine Below.drew ?_ | refine balR ?_ _)))) KS.out (by decide) _ _ _ _))
          | (with_reducible exact Lib.hid (own_belowV HPA.out (by (repeat (with_reducible first | exact Below.refl _ _ | refine bstep ?_ HCA.out | refine bstep ?_ HCB.out | refine Below.drew ?_ | refine balR ?_ _)))))
      · first
          | (with_reducible exact Lib.hid (own_set4 (own_belowV HPB.out (by (repeat (with_reducible first | exact Below.refl _ _ | refine bstep ?_ HCA.out | refine bstep ?_ HCB.out | refine Below.drew ?_ | refine balR ?_ _)))) KS.out (by decide) _ _ _ _))
          | (with_reducible exact Lib.hid (own_belowV HPB.out (by (repeat (with_reducible first | exact Below.refl _ _ | refine bstep ?_ HCA.out | refine bstep ?_ HCB.out | refine Below.drew ?_ | refine balR ?_ _)))))
      · first
          | (with_reducible exact Lib.hid (Nat.le_refl _))
          | (with_reducible exact Lib.hid HBA.out.size)
          | (with_reducible exact Lib.hid HBB.out.size)
      · exact Lib.hid (by (repeat (with_reducible first | exact Below.refl _ _ | exact HBA.out | exact HBB.out | refine Below.drew ?_ | refine balR ?_ _ | refine bset ?_ _ _ (by first | exact Nat.le_refl _ | exact HBA.out.size | exact HBB.out.size))))

  case rest =>
    obtain ⟨g4, AA, cA, AB, cB, rfl, HK4, HPA, HPB, HG4, HB4⟩ := hcut
    obtain ⟨w4, hw4⟩ : ∃ W, W = wc := ⟨_, rfl⟩
    rw [← hw4] at HK4 HPA HPB HB4 ⊢
    clear hw4 r0 r1 r2 r3
    have HCLA4 := Lib.hid (fun W (hb : Below w4.heap.size w4 W) => HCLA.out W (HB4.out.trans (hb.mono HB4.out.size)))
    have HCLB4 := Lib.hid (fun W (hb : Below w4.heap.size w4 W) => HCLB.out W (HB4.out.trans (hb.mono HB4.out.size)))
    have SB4 := Lib.hid (fun W (hb : Below w4.heap.size w4 W) => SB.out W (HB4.out.trans (hb.mono HB4.out.size)))
    have hgl4 : gT < w4.heap.size := Nat.lt_of_lt_of_le hgl HB4.out.size
    obtain ⟨r0, r1, r2, r3⟩ := SB4.out _ (Below.refl _ _)
    go_upto_region 2 with fail
    go_cut [8] (fun p wx => ∃ (g5 : Nat) (AC : Option Addr) (cC : Nat) (AD : Option Addr) (cD : Nat), p = .pointer (some ⟨g5, 0, none⟩) ∧ Hid (Blk wx g5 121 #[.slice AC s.need.length cC, .slice AD s.order.length cD, .int .i64 s.keep, .int .i64 s.room]) ∧ Hid (wx.ownsRow w4.heap.size 3 1 (.slice AC s.need.length cC) s.need.length (s.need.map (Value.int .i64))) ∧ Hid (wx.ownsRow w4.heap.size 3 1 (.slice AD s.order.length cD) s.order.length (s.order.map (Value.int .i64))) ∧ Hid (w4.heap.size ≤ g5) ∧ Hid (Below w4.heap.size w4 wx))
    case first =>
      skip
      clear r0 r1 r2 r3
      clear HPA HPB
      go_region_held3 (fun W => W.cell? ⟨gT, 0, none⟩ = some (.slice x.a s.need.length x.ca) ∧ W.cell? ⟨gT, 1, none⟩ = some (.slice x.b s.order.length x.cb) ∧ W.cell? ⟨gT, 2, none⟩ = some (.int .i64 s.keep) ∧ W.cell? ⟨gT, 3, none⟩ = some (.int .i64 s.room))
        (exact SB4.out _ (by (repeat (with_reducible first | exact Below.refl _ _ | exact HBC.out | exact HBD.out | refine Below.drew ?_ | refine balR ?_ _ | refine bset ?_ _ _ (by first | exact Nat.le_refl _ | exact HBC.out.size | exact HBD.out.size)))))
        (first
          | (go_at_call 58; with_reducible refine (HCLA4.out _ (by (repeat (with_reducible first | exact Below.refl _ _ | exact HBC.out | exact HBD.out | refine Below.drew ?_ | refine balR ?_ _ | refine bset ?_ _ _ (by first | exact Nat.le_refl _ | exact HBC.out.size | exact HBD.out.size))))).mono ?_; rintro r vC ⟨AC, cC, rfl, ho, hb⟩; (first | (have kS := blkA hb; have KS := Lib.hid kS; have e0 := kS.cell 0; have f0 := kS.frozen 0; have e1 := kS.cell 1; have f1 := kS.frozen 1; have e2 := kS.cell 2; have f2 := kS.frozen 2; have e3 := kS.cell 3; have f3 := kS.frozen 3; simp at e0 e1 e2 e3; clear kS) | (have kS := blkA' hb; have KS := Lib.hid kS; have e0 := kS.cell 0; have f0 := kS.frozen 0; have e1 := kS.cell 1; have f1 := kS.frozen 1; have e2 := kS.cell 2; have f2 := kS.frozen 2; have e3 := kS.cell 3; have f3 := kS.frozen 3; simp at e0 e1 e2 e3; clear kS) | (have kS := KS.out.below (by exact hb) KS.out.lt; have KS := Lib.hid kS; clear e0 e1 e2 e3 f0 f1 f2 f3; have e0 := kS.cell 0; have f0 := kS.frozen 0; have e1 := kS.cell 1; have f1 := kS.frozen 1; have e2 := kS.cell 2; have f2 := kS.frozen 2; have e3 := kS.cell 3; have f3 := kS.frozen 3; simp at e0 e1 e2 e3; clear kS) | skip); have HBC := Lib.hid (bstep (show Below w4.heap.size w4 _ from by (repeat (with_reducible first | exact Below.refl _ _ | exact HBC.out | exact HBD.out | refine Below.drew ?_ | refine balR ?_ _ | refine bset ?_ _ _ (by first | exact Nat.le_refl _ | exact HBC.out.size | exact HBD.out.size)))) hb); have HCC := Lib.hid hb; have HPC := Lib.hid (own_sz ho (Below.size (show Below w4.heap.size w4 _ from by (repeat (with_reducible first | exact Below.refl _ _ | exact HBC.out | exact HBD.out | refine Below.drew ?_ | refine balR ?_ _ | refine bset ?_ _ _ (by first | exact Nat.le_refl _ | exact HBC.out.size | exact HBD.out.size)))))); clear ho hb)
          | (go_at_call 58; with_reducible refine (HCLB4.out _ (by (repeat (with_reducible first | exact Below.refl _ _ | exact HBC.out | exact HBD.out | refine Below.drew ?_ | refine balR ?_ _ | refine bset ?_ _ _ (by first | exact Nat.le_refl _ | exact HBC.out.size | exact HBD.out.size))))).mono ?_; rintro r vD ⟨AD, cD, rfl, ho, hb⟩; (first | (have kS := blkA hb; have KS := Lib.hid kS; have e0 := kS.cell 0; have f0 := kS.frozen 0; have e1 := kS.cell 1; have f1 := kS.frozen 1; have e2 := kS.cell 2; have f2 := kS.frozen 2; have e3 := kS.cell 3; have f3 := kS.frozen 3; simp at e0 e1 e2 e3; clear kS) | (have kS := blkA' hb; have KS := Lib.hid kS; have e0 := kS.cell 0; have f0 := kS.frozen 0; have e1 := kS.cell 1; have f1 := kS.frozen 1; have e2 := kS.cell 2; have f2 := kS.frozen 2; have e3 := kS.cell 3; have f3 := kS.frozen 3; simp at e0 e1 e2 e3; clear kS) | (have kS := KS.out.below (by exact hb) KS.out.lt; have KS := Lib.hid kS; clear e0 e1 e2 e3 f0 f1 f2 f3; have e0 := kS.cell 0; have f0 := kS.frozen 0; have e1 := kS.cell 1; have f1 := kS.frozen 1; have e2 := kS.cell 2; have f2 := kS.frozen 2; have e3 := kS.cell 3; have f3 := kS.frozen 3; simp at e0 e1 e2 e3; clear kS) | skip); have HBD := Lib.hid (bstep (show Below w4.heap.size w4 _ from by (repeat (with_reducible first | exact Below.refl _ _ | exact HBC.out | exact HBD.out | refine Below.drew ?_ | refine balR ?_ _ | refine bset ?_ _ _ (by first | exact Nat.le_refl _ | exact HBC.out.size | exact HBD.out.size)))) hb); have HCD := Lib.hid hb; have HPD := Lib.hid (own_sz ho (Below.size (show Below w4.heap.size w4 _ from by (repeat (with_reducible first | exact Below.refl _ _ | exact HBC.out | exact HBD.out | refine Below.drew ?_ | refine balR ?_ _ | refine bset ?_ _ _ (by first | exact Nat.le_refl _ | exact HBC.out.size | exact HBD.out.size)))))); clear ho hb))
      all_goals go_wp2
      all_goals go_meet
      all_goals
        refine ⟨_, AC, cC, AD, cD, rfl, ?_, ?_, ?_, ?_, ?_⟩
        · first
            | (with_reducible exact Lib.hid (blk4x KS.out _ _ _ _))
            | (with_reducible exact Lib.hid (Blk.new _ _ _))
        · first
            | (with_reducible exact Lib.hid (own_set4 (own_belowV HPC.out (by (repeat (with_reducible first | exact Below.refl _ _ | refine bstep ?_ HCC.out | refine bstep ?_ HCD.out | refine Below.drew ?_ | refine balR ?_ _)))) KS.out (by decide) _ _ _ _))
            | (with_reducible exact Lib.hid (own_belowV HPC.out (by (repeat (with_reducible first | exact Below.refl _ _ | refine bstep ?_ HCC.out | refine bstep ?_ HCD.out | refine Below.drew ?_ | refine balR ?_ _)))))
        · first
            | (with_reducible exact Lib.hid (own_set4 (own_belowV HPD.out (by (repeat (with_reducible first | exact Below.refl _ _ | refine bstep ?_ HCC.out | refine bstep ?_ HCD.out | refine Below.drew ?_ | refine balR ?_ _)))) KS.out (by decide) _ _ _ _))
            | (with_reducible exact Lib.hid (own_belowV HPD.out (by (repeat (with_reducible first | exact Below.refl _ _ | refine bstep ?_ HCC.out | refine bstep ?_ HCD.out | refine Below.drew ?_ | refine balR ?_ _)))))
        · first
            | (with_reducible exact Lib.hid (Nat.le_refl _))
            | (with_reducible exact Lib.hid HBC.out.size)
            | (with_reducible exact Lib.hid HBD.out.size)
        · exact Lib.hid (by (repeat (with_reducible first | exact Below.refl _ _ | exact HBC.out | exact HBD.out | refine Below.drew ?_ | refine balR ?_ _ | refine bset ?_ _ _ (by first | exact Nat.le_refl _ | exact HBC.out.size | exact HBD.out.size))))

    case rest =>
      obtain ⟨g5, AC, cC, AD, cD, rfl, HK5, HPC, HPD, HG5, HB5⟩ := hcut
      obtain ⟨w5, hw5⟩ : ∃ W, W = wc := ⟨_, rfl⟩
      rw [← hw5] at HK5 HPC HPD HB5 ⊢
      clear hw5 r0 r1 r2 r3 HCLA HCLB HCLA4 HCLB4 hgl4
      have HB15 := Lib.hid (HB1.out.trans ((HB4.out.trans (HB5.out.mono HB4.out.size)).mono HB1.out.size))
      have HST := Lib.hid (fun W (hb : Below w5.heap.size w5 W) => HB15.out.trans (hb.mono HB15.out.size))
      obtain ⟨y1, hy1⟩ : ∃ y, y = (⟨AA, cA, AB, cB⟩ : SA) := ⟨_, rfl⟩
      obtain ⟨y2, hy2⟩ : ∃ y, y = (⟨AC, cC, AD, cD⟩ : SA) := ⟨_, rfl⟩
      have HTX := Lib.hid (fun W (hb : Below w5.heap.size w5 W) => (HTB.out W (HB4.out.trans ((HB5.out.trans (hb.mono HB5.out.size)).mono HB4.out.size))).1)
      have HR5 := Lib.hid (fun W (hb : Below w5.heap.size w5 W) => (HTB.out W (HB4.out.trans ((HB5.out.trans (hb.mono HB5.out.size)).mono HB4.out.size))).2)
      have HTA := Lib.hid (show ∀ W, Below w5.heap.size w5 W → SupAt W W.heap.size s y1 from fun W hb => by rw [hy1]; exact ⟨own_sl (own_belowV (own_belowV HPA.out HB5.out) hb), own_sl (own_belowV (own_belowV HPB.out HB5.out) hb)⟩)
      have HTC := Lib.hid (show ∀ W, Below w5.heap.size w5 W → SupAt W W.heap.size s y2 from fun W hb => by rw [hy2]; exact ⟨own_sl (own_belowV HPC.out hb), own_sl (own_belowV HPD.out hb)⟩)
      have HA5 := Lib.hid (show ∀ W, Below w5.heap.size w5 W → W.cell? ⟨g4, 0, none⟩ = some (.slice y1.a s.need.length y1.ca) ∧ W.cell? ⟨g4, 1, none⟩ = some (.slice y1.b s.order.length y1.cb) ∧ W.cell? ⟨g4, 2, none⟩ = some (.int .i64 s.keep) ∧ W.cell? ⟨g4, 3, none⟩ = some (.int .i64 s.room) from fun W hb => by rw [hy1]; exact cells4 (HK4.out.below HB5.out HK4.out.lt) hb)
      have HC5 := Lib.hid (show ∀ W, Below w5.heap.size w5 W → W.cell? ⟨g5, 0, none⟩ = some (.slice y2.a s.need.length y2.ca) ∧ W.cell? ⟨g5, 1, none⟩ = some (.slice y2.b s.order.length y2.cb) ∧ W.cell? ⟨g5, 2, none⟩ = some (.int .i64 s.keep) ∧ W.cell? ⟨g5, 3, none⟩ = some (.int .i64 s.room) from fun W hb => by rw [hy2]; exact cells4 HK5.out hb)
      have HWS := Lib.hid (fun W (hb : Below w5.heap.size w5 W) => (HWS1.out.below (HST.out W hb)).mono (HST.out W hb).size)
      have HPS := Lib.hid (fun W (hb : Below w5.heap.size w5 W) => (HPS1.out.below (HST.out W hb)).mono (HST.out W hb).size)
      clear hy1 hy2 HK4 HK5 HPA HPB HPC HPD HWS1 HPS1 SB SB4 hgl HB4 HB5 HTB HG4 HG5 HGT HW1
      obtain ⟨er, her⟩ : ∃ e, e = errS s := ⟨_, rfl⟩
      have H52 := Lib.hid (fun W hb => chkS_any s y1 W HL.out (HTA.out W hb))
      have H59 := Lib.hid (fun W hb => rchkS_any s y2 W HL.out (HTC.out W hb))
      rw [← her] at H52 H59
      have hsl := schP_len s
      obtain ⟨⟨ls, nS, eS⟩, hsr⟩ : ∃ r, r = schP s := ⟨_, rfl⟩
      rw [← hsr] at hsl
      have hpl := prcP_len s
      obtain ⟨⟨lp, eP⟩, hpr⟩ : ∃ r, r = prcP s := ⟨_, rfl⟩
      rw [← hpr] at hpl
      dsimp only at hsl hpl
      obtain ⟨nl, hnl⟩ : ∃ n, n = ls.length := ⟨_, rfl⟩
      obtain ⟨np, hnp⟩ : ∃ n, n = lp.length := ⟨_, rfl⟩
      rw [← hnl] at hsl
      rw [← hnp] at hpl
      have HNL := Lib.hid (show ls.length = nl ∧ nl ≤ 1000000000 from ⟨hnl.symm, by omega⟩)
      have HNP := Lib.hid (show lp.length = np ∧ np ≤ 1000000000 from ⟨hnp.symm, by omega⟩)
      have H23 := Lib.hid (show ∀ W, Below w5.heap.size w5 W → Calls Try.prog 23 #[.agg #[.slice y1.a s.need.length y1.ca, .slice y1.b s.order.length y1.cb, .int .i64 s.keep, .int .i64 s.room]] W fun e w' => ∃ (A6 : Option Addr) (c6 : Nat), e = .returned (.tuple #[.slice A6 nl c6, .int .i64 nS, .int .i64 eS]) ∧ Hid (Sl encInt 1 w' w'.heap.size A6 ls) ∧ Hid (Below W.heap.size W w') from fun W hb => by rw [hnl]; exact sched_c 23 (.inl rfl) s y1 W HL.out (HTA.out W hb) (ls, nS, eS) hsr)
      have H60 := Lib.hid (show ∀ W, Below w5.heap.size w5 W → Calls Try.prog 60 #[.agg #[.slice y2.a s.need.length y2.ca, .slice y2.b s.order.length y2.cb, .int .i64 s.keep, .int .i64 s.room]] W fun e w' => ∃ (A6 : Option Addr) (c6 : Nat), e = .returned (.tuple #[.slice A6 nl c6, .int .i64 nS, .int .i64 eS]) ∧ Hid (Sl encInt 1 w' w'.heap.size A6 ls) ∧ Hid (Below W.heap.size W w') from fun W hb => by rw [hnl]; exact sched_c 60 (.inr rfl) s y2 W HL.out (HTC.out W hb) (ls, nS, eS) hsr)
      have H24 := Lib.hid (show ∀ W, Below w5.heap.size w5 W → Calls Try.prog 24 #[.agg #[.slice y1.a s.need.length y1.ca, .slice y1.b s.order.length y1.cb, .int .i64 s.keep, .int .i64 s.room]] W fun e w' => ∃ (A6 : Option Addr) (c6 : Nat), e = .returned (.tuple #[.slice A6 np c6, .int .i64 eP]) ∧ Hid (Sl encInt 1 w' w'.heap.size A6 lp) ∧ Hid (Below W.heap.size W w') from fun W hb => by rw [hnp]; exact prices_c 24 (.inl rfl) s y1 W HL.out (HTA.out W hb) (lp, eP) hpr)
      have H62 := Lib.hid (show ∀ W, Below w5.heap.size w5 W → Calls Try.prog 62 #[.agg #[.slice y2.a s.need.length y2.ca, .slice y2.b s.order.length y2.cb, .int .i64 s.keep, .int .i64 s.room]] W fun e w' => ∃ (A6 : Option Addr) (c6 : Nat), e = .returned (.tuple #[.slice A6 np c6, .int .i64 eP]) ∧ Hid (Sl encInt 1 w' w'.heap.size A6 lp) ∧ Hid (Below W.heap.size W w') from fun W hb => by rw [hnp]; exact prices_c 62 (.inr rfl) s y2 W HL.out (HTC.out W hb) (lp, eP) hpr)
      have H26 := Lib.hid (show ∀ (A7 : Option Addr) (c7 n7 : Nat) (l : List Int) W, Below w5.heap.size w5 W → (l.length = n7 ∧ n7 ≤ 1000000000) → Sl encInt 1 W W.heap.size A7 l → Calls Try.prog 26 #[.agg #[.slice y1.a s.need.length y1.ca, .slice y1.b s.order.length y1.cb, .int .i64 s.keep, .int .i64 s.room], .slice A7 n7 c7] W fun e w' => ∃ r1 r2 : Int, e = .returned (.tuple #[.int .i64 r1, .int .i64 r2]) ∧ Hid ((r1, r2) = cstP s l) ∧ Hid (Below W.heap.size W w') from fun A7 c7 n7 l W hb hn hs => (cost_c s y1 W HL.out (HTA.out W hb) A7 c7 n7 l hn.1 hn.2 hs (cstP s l) rfl).mono (by rintro e w' ⟨rfl, hb⟩; exact ⟨_, _, rfl, Lib.hid rfl, hb⟩))
      have H61 := Lib.hid (show ∀ (A7 : Option Addr) (c7 n7 : Nat) (l : List Int) W, Below w5.heap.size w5 W → (l.length = n7 ∧ n7 ≤ 1000000000) → Sl encInt 1 W W.heap.size A7 l → Calls Try.prog 61 #[.agg #[.slice y2.a s.need.length y2.ca, .slice y2.b s.order.length y2.cb, .int .i64 s.keep, .int .i64 s.room], .slice A7 n7 c7] W fun e w' => ∃ r1 r2 : Int, e = .returned (.tuple #[.int .i64 r1, .int .i64 r2]) ∧ Hid ((r1, r2) = cstP s l) ∧ Hid (Below W.heap.size W w') from fun A7 c7 n7 l W hb hn hs => (rcost_c s y2 W HL.out (HTC.out W hb) A7 c7 n7 l hn.1 hn.2 hs (cstP s l) rfl).mono (by rintro e w' ⟨rfl, hb⟩; exact ⟨_, _, rfl, Lib.hid rfl, hb⟩))
      have H25 := Lib.hid (show ∀ (A7 : Option Addr) (c7 n7 : Nat) (l : List Int) W, Below w5.heap.size w5 W → (l.length = n7 ∧ n7 ≤ 1000000000) → Sl encInt 1 W W.heap.size A7 l → Calls Try.prog 25 #[.agg #[.slice y1.a s.need.length y1.ca, .slice y1.b s.order.length y1.cb, .int .i64 s.keep, .int .i64 s.room], .slice A7 n7 c7] W fun e w' => ∃ v e9 : Int, e = .returned (.tuple #[.int .i64 v, .int .i64 e9]) ∧ Hid (PrvP s l v e9) ∧ Hid (Below W.heap.size W w') from fun A7 c7 n7 l W hb hn hs => proves_c s y1 W HL.out (HTA.out W hb) A7 c7 n7 l hn.1 hn.2 hs)
      have H63 := Lib.hid (show ∀ (A7 : Option Addr) (c7 n7 : Nat) (l : List Int) W, Below w5.heap.size w5 W → (l.length = n7 ∧ n7 ≤ 1000000000) → Sl encInt 1 W W.heap.size A7 l → Calls Try.prog 63 #[.agg #[.slice y2.a s.need.length y2.ca, .slice y2.b s.order.length y2.cb, .int .i64 s.keep, .int .i64 s.room], .slice A7 n7 c7] W fun e w' => ∃ v e9 : Int, e = .returned (.tuple #[.int .i64 v, .int .i64 e9]) ∧ Hid (PrvP s l v e9) ∧ Hid (Below W.heap.size W w') from fun A7 c7 n7 l W hb hn hs => rproves_c s y2 W HL.out (HTC.out W hb) A7 c7 n7 l hn.1 hn.2 hs)
      have H58 := Lib.hid (fun (A7 : Option Addr) (c7 n7 : Nat) (l : List Int) (W : World) h0 h1 => cloneE A7 c7 n7 l W (And.left h0) (And.right h0) h1)
      have HEQ := Lib.hid (fun (A6 A7 : Option Addr) (c6 c7 n : Nat) (l : List Int) W h0 h1 h2 => eqT_any A6 A7 c6 c7 n l W (And.left h0) (And.right h0) h1 h2)
      clear her hsr hpr hnl hnp hsl hpl
      have HBN := Lib.hid (Below.refl w5.heap.size w5)
      obtain ⟨a0, a1, a2, a3⟩ := HA5.out _ (Below.refl _ _)
      obtain ⟨b0, b1, b2, b3⟩ := HC5.out _ (Below.refl _ _)
      go_upto_region 3 with fail
      go_cut [57] (fun q wx => q = .bool false ∧ Hid (Below w5.heap.size w5 wx))
      case first =>
        skip
        clear a0 a1 a2 a3 b0 b1 b2 b3 HBN
        go_region_held3 (fun W => (W.cell? ⟨g4, 0, none⟩ = some (.slice y1.a s.need.length y1.ca) ∧ W.cell? ⟨g4, 1, none⟩ = some (.slice y1.b s.order.length y1.cb) ∧ W.cell? ⟨g4, 2, none⟩ = some (.int .i64 s.keep) ∧ W.cell? ⟨g4, 3, none⟩ = some (.int .i64 s.room)) ∧ W.cell? ⟨g5, 0, none⟩ = some (.slice y2.a s.need.length y2.ca) ∧ W.cell? ⟨g5, 1, none⟩ = some (.slice y2.b s.order.length y2.cb) ∧ W.cell? ⟨g5, 2, none⟩ = some (.int .i64 s.keep) ∧ W.cell? ⟨g5, 3, none⟩ = some (.int .i64 s.room))
          (exact ⟨HA5.out _ (by (repeat (with_reducible first | exact Below.refl _ _ | exact HBa.out | exact HBb.out | refine Below.drew ?_ | refine balR ?_ _ | refine bset ?_ _ _ (by first | exact Nat.le_refl _ | exact HBa.out.size | exact HBb.out.size)))), HC5.out _ (by (repeat (with_reducible first | exact Below.refl _ _ | exact HBa.out | exact HBb.out | refine Below.drew ?_ | refine balR ?_ _ | refine bset ?_ _ _ (by first | exact Nat.le_refl _ | exact HBa.out.size | exact HBb.out.size))))⟩)
          (first
            | (go_at_call 52; with_reducible refine (H52.out _ (by (repeat (with_reducible first | exact Below.refl _ _ | exact HBa.out | exact HBb.out | refine Below.drew ?_ | refine balR ?_ _ | refine bset ?_ _ _ (by first | exact Nat.le_refl _ | exact HBa.out.size | exact HBb.out.size))))).mono ?_; rintro r wA ⟨rfl, hb⟩; have HBa := Lib.hid (bstep (show Below w5.heap.size w5 _ from by (repeat (with_reducible first | exact Below.refl _ _ | exact HBa.out | exact HBb.out | refine Below.drew ?_ | refine balR ?_ _ | refine bset ?_ _ _ (by first | exact Nat.le_refl _ | exact HBa.out.size | exact HBb.out.size)))) hb.out); clear hb)
            | (go_at_call 59; with_reducible refine (H59.out _ (by (repeat (with_reducible first | exact Below.refl _ _ | exact HBa.out | exact HBb.out | refine Below.drew ?_ | refine balR ?_ _ | refine bset ?_ _ _ (by first | exact Nat.le_refl _ | exact HBa.out.size | exact HBb.out.size))))).mono ?_; rintro r wB ⟨rfl, hb⟩; have HBb := Lib.hid (bstep (show Below w5.heap.size w5 _ from by (repeat (with_reducible first | exact Below.refl _ _ | exact HBa.out | exact HBb.out | refine Below.drew ?_ | refine balR ?_ _ | refine bset ?_ _ _ (by first | exact Nat.le_refl _ | exact HBa.out.size | exact HBb.out.size)))) hb.out); clear hb))
        all_goals go_wp2
        all_goals go_meet
        all_goals exact ⟨by simp, Lib.hid (by (repeat (with_reducible first | exact Below.refl _ _ | exact HBa.out | exact HBb.out | refine Below.drew ?_ | refine balR ?_ _ | refine bset ?_ _ _ (by first | exact Nat.le_refl _ | exact HBa.out.size | exact HBb.out.size))))⟩
      case rest =>
        clear HBN
        obtain ⟨rfl, HBN⟩ := hcut
        obtain ⟨w6, hw6⟩ : ∃ W, W = wc := ⟨_, rfl⟩
        rw [← hw6] at HBN ⊢
        clear hw6
        clear a0 a1 a2 a3 b0 b1 b2 b3
        obtain ⟨a0, a1, a2, a3⟩ := HA5.out _ HBN.out
        obtain ⟨b0, b1, b2, b3⟩ := HC5.out _ HBN.out
        go_upto_region 9 with first
          | (go_at_call 23; with_reducible refine (H23.out _ HBN.out).mono ?_; rintro e wk ⟨A6, c6, rfl, HL6, hbk⟩; have HBN := Lib.hid (bstep HBN.out hbk.out); clear hbk; clear a0 a1 a2 a3 b0 b1 b2 b3; obtain ⟨a0, a1, a2, a3⟩ := HA5.out _ HBN.out; obtain ⟨b0, b1, b2, b3⟩ := HC5.out _ HBN.out)
          | (go_at_call 60; with_reducible refine (H60.out _ HBN.out).mono ?_; rintro e wk ⟨A7, c7, rfl, HL7, hbk⟩; have HBN := Lib.hid (bstep HBN.out hbk.out); have HL6 := Lib.hid ((HL6.out.below hbk.out).mono hbk.out.size); clear hbk; clear a0 a1 a2 a3 b0 b1 b2 b3; obtain ⟨a0, a1, a2, a3⟩ := HA5.out _ HBN.out; obtain ⟨b0, b1, b2, b3⟩ := HC5.out _ HBN.out)
          | (go_at_call 34; with_reducible refine (HEQ.out A6 A7 c6 c7 nl ls _ HNL.out HL6.out HL7.out).mono ?_; rintro e wk ⟨rfl, hbk⟩; have HBN := Lib.hid (bstep HBN.out hbk.out); have HL6 := Lib.hid ((HL6.out.below hbk.out).mono hbk.out.size); clear hbk; clear a0 a1 a2 a3 b0 b1 b2 b3; obtain ⟨a0, a1, a2, a3⟩ := HA5.out _ HBN.out; obtain ⟨b0, b1, b2, b3⟩ := HC5.out _ HBN.out)
        obtain ⟨w8, hw8⟩ : ∃ W, W = wk := ⟨_, rfl⟩
        rw [← hw8] at HBN HL6 a0 a1 a2 a3 b0 b1 b2 b3 ⊢
        clear hw8
        obtain ⟨g9, hg9⟩ : ∃ g, g = w8.heap.size := ⟨_, rfl⟩
        go_wp2_with fail
        rw [← hg9]
        obtain ⟨w9, hw9⟩ : ∃ W, W = w8.alloc (.cells #[.slice A m c, .slice A6 nl c6] 47) := ⟨_, rfl⟩
        rw [← hw9]
        have hb89 : Below w8.heap.size w8 w9 := by rw [hw9]; exact balR (Below.refl _ _) _
        have k9 : Blk w9 g9 47 #[.slice A m c, .slice A6 nl c6] := by rw [hw9, hg9]; exact Blk.new _ _ _
        have HB59 := Lib.hid (bstep HBN.out hb89)
        have HSEL := Lib.hid (show ∀ j, j < 2 → ∃ (Ak : Option Addr) (nk ck : Nat) (lk : List Int), (lk.length = nk ∧ nk ≤ 1000000000) ∧ ∀ W, Below w9.heap.size w9 W → W.cell? ⟨g9, j, none⟩ = some (.slice Ak nk ck) ∧ Sl encInt 1 W W.heap.size Ak lk from fun j hj => by
          rcases (by omega : j = 0 ∨ j = 1) with rfl | rfl
          · exact ⟨A, m, c, ws, HM.out, fun W hb => ⟨(cells2 k9 hb).1, HWS.out W (bstep HB59.out hb)⟩⟩
          · exact ⟨A6, nl, c6, ls, HNL.out, fun W hb => ⟨(cells2 k9 hb).2, (HL6.out.below (bstep hb89 hb)).mono (bstep hb89 hb).size⟩⟩)
        clear hw9 hg9 k9 hb89 HL6 a0 a1 a2 a3 b0 b1 b2 b3 HBN
        go_loopw [88] (fun u wr => ∃ j : Nat, j ≤ 2 ∧ u = .int .i64 j ∧ Hid (Below w9.heap.size w9 wr)) (fun u _ => 2 - (intOf u).toNat)
        case atStart => exact ⟨0, by omega, rfl, Lib.hid (Below.refl _ _)⟩
        case round =>
          obtain ⟨j, hj2, rfl, HB9⟩ := hrel
          have HBN := Lib.hid (bstep HB59.out HB9.out)
          obtain ⟨a0, a1, a2, a3⟩ := HA5.out _ HBN.out
          obtain ⟨b0, b1, b2, b3⟩ := HC5.out _ HBN.out
          by_cases hlt : j < 2
          · obtain ⟨Ak, nk, ck, lk, hnk, hfk⟩ := HSEL.out j hlt
            have HNK := Lib.hid hnk
            obtain ⟨q0, hlk⟩ := hfk _ HB9.out
            have HLK := Lib.hid hlk
            have i0 : (0 : Int) ≤ (j : Int) := by omega
            have i1 : (j : Int) < 2 := by omega
            clear hnk hfk hlk
            go_wp2_with first
              | (go_at_call 58; with_reducible refine (H58.out Ak ck nk lk _ HNK.out HLK.out).mono ?_; rintro e wk ⟨A8, c8, rfl, HL8, hbk⟩; have HBN := Lib.hid (bstep HBN.out hbk.out); have HB9 := Lib.hid (bstep HB9.out hbk.out); have HLK := Lib.hid ((HLK.out.below hbk.out).mono hbk.out.size); clear hbk; clear a0 a1 a2 a3 b0 b1 b2 b3; obtain ⟨a0, a1, a2, a3⟩ := HA5.out _ HBN.out; obtain ⟨b0, b1, b2, b3⟩ := HC5.out _ HBN.out)
              | (go_at_call 26; with_reducible refine (H26.out A8 c8 nk lk _ HBN.out HNK.out HL8.out).mono ?_; rintro e wk ⟨v1, e1, rfl, HR1, hbk⟩; have HBN := Lib.hid (bstep HBN.out hbk.out); have HB9 := Lib.hid (bstep HB9.out hbk.out); have HLK := Lib.hid ((HLK.out.below hbk.out).mono hbk.out.size); have HL8 := Lib.hid ((HL8.out.below hbk.out).mono hbk.out.size); clear hbk; clear a0 a1 a2 a3 b0 b1 b2 b3; obtain ⟨a0, a1, a2, a3⟩ := HA5.out _ HBN.out; obtain ⟨b0, b1, b2, b3⟩ := HC5.out _ HBN.out)
              | (go_at_call 61; with_reducible refine (H61.out Ak ck nk lk _ HBN.out HNK.out HLK.out).mono ?_; rintro e wk ⟨v2, e2, rfl, HR2, hbk⟩; have HBN := Lib.hid (bstep HBN.out hbk.out); have HB9 := Lib.hid (bstep HB9.out hbk.out); have HLK := Lib.hid ((HLK.out.below hbk.out).mono hbk.out.size); have HL8 := Lib.hid ((HL8.out.below hbk.out).mono hbk.out.size); obtain ⟨rfl, rfl⟩ := Prod.mk.inj (HR2.out.trans HR1.out.symm); clear hbk; clear a0 a1 a2 a3 b0 b1 b2 b3; obtain ⟨a0, a1, a2, a3⟩ := HA5.out _ HBN.out; obtain ⟨b0, b1, b2, b3⟩ := HC5.out _ HBN.out)
              | (go_at_call 34; with_reducible refine (HEQ.out Ak A8 ck c8 nk lk _ HNK.out HLK.out HL8.out).mono ?_; rintro e wk ⟨rfl, hbk⟩; have HBN := Lib.hid (bstep HBN.out hbk.out); have HB9 := Lib.hid (bstep HB9.out hbk.out); clear hbk; clear a0 a1 a2 a3 b0 b1 b2 b3; obtain ⟨a0, a1, a2, a3⟩ := HA5.out _ HBN.out; obtain ⟨b0, b1, b2, b3⟩ := HC5.out _ HBN.out)
            go_roundw
            case rel => exact ⟨j + 1, by omega, by go_num, HB9⟩
            case measure => simp [intOf]; omega
          · obtain rfl : j = 2 := by omega
            clear hj2 hlt HSEL
            go_upto_region 22 with first
              | (go_at_call 24; with_reducible refine (H24.out _ HBN.out).mono ?_; rintro e wk ⟨A6, c6, rfl, HL6, hbk⟩; have HBN := Lib.hid (bstep HBN.out hbk.out); clear hbk; clear a0 a1 a2 a3 b0 b1 b2 b3; obtain ⟨a0, a1, a2, a3⟩ := HA5.out _ HBN.out; obtain ⟨b0, b1, b2, b3⟩ := HC5.out _ HBN.out)
              | (go_at_call 62; with_reducible refine (H62.out _ HBN.out).mono ?_; rintro e wk ⟨A7, c7, rfl, HL7, hbk⟩; have HBN := Lib.hid (bstep HBN.out hbk.out); have HL6 := Lib.hid ((HL6.out.below hbk.out).mono hbk.out.size); clear hbk; clear a0 a1 a2 a3 b0 b1 b2 b3; obtain ⟨a0, a1, a2, a3⟩ := HA5.out _ HBN.out; obtain ⟨b0, b1, b2, b3⟩ := HC5.out _ HBN.out)
              | (go_at_call 34; with_reducible refine (HEQ.out A6 A7 c6 c7 np lp _ HNP.out HL6.out HL7.out).mono ?_; rintro e wk ⟨rfl, hbk⟩; have HBN := Lib.hid (bstep HBN.out hbk.out); have HL6 := Lib.hid ((HL6.out.below hbk.out).mono hbk.out.size); clear hbk; clear a0 a1 a2 a3 b0 b1 b2 b3; obtain ⟨a0, a1, a2, a3⟩ := HA5.out _ HBN.out; obtain ⟨b0, b1, b2, b3⟩ := HC5.out _ HBN.out)
            obtain ⟨w13, hw8⟩ : ∃ W, W = wk := ⟨_, rfl⟩
            rw [← hw8] at HBN HL6 a0 a1 a2 a3 b0 b1 b2 b3 ⊢
            clear hw8
            obtain ⟨g14, hg9⟩ : ∃ g, g = w13.heap.size := ⟨_, rfl⟩
            go_wp2_with fail
            rw [← hg9]
            obtain ⟨w14, hw9⟩ : ∃ W, W = w13.alloc (.cells #[.slice P k cp, .slice A6 np c6] 47) := ⟨_, rfl⟩
            rw [← hw9]
            have hb89 : Below w13.heap.size w13 w14 := by rw [hw9]; exact balR (Below.refl _ _) _
            have k9 : Blk w14 g14 47 #[.slice P k cp, .slice A6 np c6] := by rw [hw9, hg9]; exact Blk.new _ _ _
            have HB14 := Lib.hid (bstep HBN.out hb89)
            have HSEL2 := Lib.hid (show ∀ j, j < 2 → ∃ (Ak : Option Addr) (nk ck : Nat) (lk : List Int), (lk.length = nk ∧ nk ≤ 1000000000) ∧ ∀ W, Below w14.heap.size w14 W → W.cell? ⟨g14, j, none⟩ = some (.slice Ak nk ck) ∧ Sl encInt 1 W W.heap.size Ak lk from fun j hj => by
              rcases (by omega : j = 0 ∨ j = 1) with rfl | rfl
              · exact ⟨P, k, cp, ps, HK.out, fun W hb => ⟨(cells2 k9 hb).1, HPS.out W (bstep HB14.out hb)⟩⟩
              · exact ⟨A6, np, c6, lp, HNP.out, fun W hb => ⟨(cells2 k9 hb).2, (HL6.out.below (bstep hb89 hb)).mono (bstep hb89 hb).size⟩⟩)
            clear hw9 hg9 k9 hb89 HL6 a0 a1 a2 a3 b0 b1 b2 b3 HBN
            go_loopw [144] (fun u wr => ∃ j : Nat, j ≤ 2 ∧ u = .int .i64 j ∧ Hid (Below w14.heap.size w14 wr)) (fun u _ => 2 - (intOf u).toNat)
            case atStart => exact ⟨0, by omega, rfl, Lib.hid (Below.refl _ _)⟩
            case round =>
              obtain ⟨j, hj2, rfl, HB9⟩ := hrel
              have HBN := Lib.hid (bstep HB14.out HB9.out)
              obtain ⟨a0, a1, a2, a3⟩ := HA5.out _ HBN.out
              obtain ⟨b0, b1, b2, b3⟩ := HC5.out _ HBN.out
              by_cases hlt : j < 2
              · obtain ⟨Ak, nk, ck, lk, hnk, hfk⟩ := HSEL2.out j hlt
                have HNK := Lib.hid hnk
                obtain ⟨q0, hlk⟩ := hfk _ HB9.out
                have HLK := Lib.hid hlk
                have i0 : (0 : Int) ≤ (j : Int) := by omega
                have i1 : (j : Int) < 2 := by omega
                clear hnk hfk hlk
                go_wp2_with first
                  | (go_at_call 58; with_reducible refine (H58.out Ak ck nk lk _ HNK.out HLK.out).mono ?_; rintro e wk ⟨A8, c8, rfl, HL8, hbk⟩; have HBN := Lib.hid (bstep HBN.out hbk.out); have HB9 := Lib.hid (bstep HB9.out hbk.out); have HLK := Lib.hid ((HLK.out.below hbk.out).mono hbk.out.size); clear hbk; clear a0 a1 a2 a3 b0 b1 b2 b3; obtain ⟨a0, a1, a2, a3⟩ := HA5.out _ HBN.out; obtain ⟨b0, b1, b2, b3⟩ := HC5.out _ HBN.out)
                  | (go_at_call 25; with_reducible refine (H25.out A8 c8 nk lk _ HBN.out HNK.out HL8.out).mono ?_; rintro e wk ⟨v1, e1, rfl, HR1, hbk⟩; have HBN := Lib.hid (bstep HBN.out hbk.out); have HB9 := Lib.hid (bstep HB9.out hbk.out); have HLK := Lib.hid ((HLK.out.below hbk.out).mono hbk.out.size); have HL8 := Lib.hid ((HL8.out.below hbk.out).mono hbk.out.size); clear hbk; clear a0 a1 a2 a3 b0 b1 b2 b3; obtain ⟨a0, a1, a2, a3⟩ := HA5.out _ HBN.out; obtain ⟨b0, b1, b2, b3⟩ := HC5.out _ HBN.out)
                  | (go_at_call 63; with_reducible refine (H63.out Ak ck nk lk _ HBN.out HNK.out HLK.out).mono ?_; rintro e wk ⟨v2, e2, rfl, HR2, hbk⟩; have HBN := Lib.hid (bstep HBN.out hbk.out); have HB9 := Lib.hid (bstep HB9.out hbk.out); have HLK := Lib.hid ((HLK.out.below hbk.out).mono hbk.out.size); have HL8 := Lib.hid ((HL8.out.below hbk.out).mono hbk.out.size); obtain ⟨rfl, rfl⟩ := prvP_uniq HR2.out HR1.out; clear hbk; clear a0 a1 a2 a3 b0 b1 b2 b3; obtain ⟨a0, a1, a2, a3⟩ := HA5.out _ HBN.out; obtain ⟨b0, b1, b2, b3⟩ := HC5.out _ HBN.out)
                  | (go_at_call 34; with_reducible refine (HEQ.out Ak A8 ck c8 nk lk _ HNK.out HLK.out HL8.out).mono ?_; rintro e wk ⟨rfl, hbk⟩; have HBN := Lib.hid (bstep HBN.out hbk.out); have HB9 := Lib.hid (bstep HB9.out hbk.out); clear hbk; clear a0 a1 a2 a3 b0 b1 b2 b3; obtain ⟨a0, a1, a2, a3⟩ := HA5.out _ HBN.out; obtain ⟨b0, b1, b2, b3⟩ := HC5.out _ HBN.out)
                go_roundw
                case rel => exact ⟨j + 1, by omega, by go_num, HB9⟩
                case measure => simp [intOf]; omega
              · obtain rfl : j = 2 := by omega
                clear hj2 hlt HSEL2
                obtain ⟨r0, r1, r2, r3⟩ := HR5.out _ HBN.out
                clear b0 b1 b2 b3
                go_wp2_with first
                  | (go_at_call 34; with_reducible refine (HEQ.out y1.a x.a y1.ca x.ca s.need.length s.need _ ⟨rfl, HL.out.1⟩ (HTA.out _ HBN.out).cN (HTX.out _ HBN.out).cN).mono ?_; rintro e wk ⟨rfl, hbk⟩; have HBN := Lib.hid (bstep HBN.out hbk.out); clear hbk; clear a0 a1 a2 a3 r0 r1 r2 r3; obtain ⟨a0, a1, a2, a3⟩ := HA5.out _ HBN.out; obtain ⟨r0, r1, r2, r3⟩ := HR5.out _ HBN.out)
                  | (go_at_call 34; with_reducible refine (HEQ.out y1.b x.b y1.cb x.cb s.order.length s.order _ ⟨rfl, HL.out.2⟩ (HTA.out _ HBN.out).cO (HTX.out _ HBN.out).cO).mono ?_; rintro e wk ⟨rfl, hbk⟩; have HBN := Lib.hid (bstep HBN.out hbk.out); clear hbk; clear a0 a1 a2 a3 r0 r1 r2 r3; obtain ⟨a0, a1, a2, a3⟩ := HA5.out _ HBN.out; obtain ⟨r0, r1, r2, r3⟩ := HR5.out _ HBN.out)
                go_ret
                exact ⟨rfl, Lib.hid (HB15.out.trans (HBN.out.mono HB15.out.size))⟩
end Go.Proofs.Ytnbnfadmbggfnaa
