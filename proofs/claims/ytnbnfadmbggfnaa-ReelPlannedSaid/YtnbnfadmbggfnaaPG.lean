/- Contract of the search for a plan; conditions: a right store in memory. Printed by a program. -/
import Derived.Test.YtnbnfadmbggfnaaPF
set_option linter.unusedSimpArgs false
set_option linter.unusedVariables false
namespace Go.Rl
open Go.Fh Go.RowKit
structure LeaM (w : Go.World) (m g4 gB gF gN gR gL gS gD : Nat) (sS sD : Go.Value) (F : Nat → Int) (W : Go.World) : Prop where
  low : Below w.heap.size w W
  k4 : Blk W g4 148 #[.slice none 0 0, .int .i64 0, .int .i64 0]
  kB : Blk W gB 148 #[.slice none 0 0, .int .i64 0, .int .i64 0]
  kF : Blk W gF 4 #[.bool false]
  kN : Blk W gN 148 #[.slice none 0 0, .int .i64 0, .int .i64 0]
  left : RowF W gR F m
  kL : Blk W gL 47 #[.slice (some ⟨gR, 0, none⟩) m m]
  kS : Blk W gS 39 #[sS]
  kD : Blk W gD 69 #[sD]
section
variable {w W X : Go.World} {m g4 gB gF gN gR gL gS gD : Nat} {sS sD : Go.Value} {F : Nat → Int}
theorem LeaM.below (h : LeaM w m g4 gB gF gN gR gL gS gD sS sD F W) (hb : Below W.heap.size W X) : LeaM w m g4 gB gF gN gR gL gS gD sS sD F X :=
  ⟨bstep h.low hb, h.k4.below hb h.k4.lt, h.kB.below hb h.kB.lt, h.kF.below hb h.kF.lt, h.kN.below hb h.kN.lt, h.left.below hb, h.kL.below hb h.kL.lt, h.kS.below hb h.kS.lt, h.kD.below hb h.kD.lt⟩
theorem LeaM.setL (h : LeaM w m g4 gB gF gN gR gL gS gD sS sD F W) (hw : w.heap.size ≤ gR) (i : Nat) (x : Int) : LeaM w m g4 gB gF gN gR gL gS gD sS sD (fun j => if j = i then x else F j) (W.setCell ⟨gR, i, none⟩ (.int .i64 x)) :=
  ⟨h.low.setCell (by exact hw) _, h.k4.far (p := ⟨gR, i, none⟩) (Blk.ne_ (t' := 3) h.k4 h.left (by decide)) _, h.kB.far (p := ⟨gR, i, none⟩) (Blk.ne_ (t' := 3) h.kB h.left (by decide)) _, h.kF.far (p := ⟨gR, i, none⟩) (Blk.ne_ (t' := 3) h.kF h.left (by decide)) _, h.kN.far (p := ⟨gR, i, none⟩) (Blk.ne_ (t' := 3) h.kN h.left (by decide)) _, h.left.set_ i x,
    h.kL.far (p := ⟨gR, i, none⟩) (Blk.ne_ (t' := 3) h.kL h.left (by decide)) _, h.kS.far (p := ⟨gR, i, none⟩) (Blk.ne_ (t' := 3) h.kS h.left (by decide)) _, h.kD.far (p := ⟨gR, i, none⟩) (Blk.ne_ (t' := 3) h.kD h.left (by decide)) _⟩
end
/-- what a needs' row is before a stand is looked at -/
def nlF (ns : List (Int × Int)) (k s : Nat) : Int := if s < k then (ns.getD s (0, 0)).2 else 0
theorem nlF_s (ns : List (Int × Int)) (k : Nat) : (fun j => if j = k then (ns.getD k (0, 0)).2 else nlF ns k j) = nlF ns (k + 1) := by
  funext j
  unfold nlF
  by_cases e : j = k
  · subst e; rw [if_pos rfl, if_pos (by omega)]
  · rw [if_neg e]
    by_cases h : j < k
    · rw [if_pos h, if_pos (by omega)]
    · rw [if_neg h, if_neg (by omega)]
end Go.Rl
namespace Go.Proofs.Ytnbnfadmbggfnaa
open Go.RowKit Go.Fh Go.Rl
theorem run_store_fn (P : Program) (w : World) (a : Addr) (m : Mode) (f : Fn) (x y : Array Value) : (store a (.func f x y) m).run P w = stored P w a (.func f x y) m := run_store P w a _ m rfl
theorem run_store_nilFn (P : Program) (w : World) (a : Addr) (m : Mode) : (store a .nilFunc m).run P w = stored P w a .nilFunc m := run_store P w a _ m rfl
attribute [local go_sem] run_store_fn run_store_nilFn
set_option maxRecDepth 20000 in
set_option maxHeartbeats 8000000 in
theorem least_any (st : List ReelD) (ns : List (Int × Int)) (h : StoOk st ns) (A An : Option Addr) (c cn N m : Nat) (w : World) (hN : st.length = N) (hm : ns.length = m) (hA : Sl encReel 4 w w.heap.size A st) (hB : Sl enc2 2 w w.heap.size An ns) :
    Calls Try.prog 77 #[.slice A N c, .slice An m cn] w fun e w' => ∃ (Ab : Option Addr) (nb cb : Nat) (ub bb : Int), e = .returned (.tuple #[.agg #[.slice Ab nb cb, .int .i64 ub, .int .i64 bb], .bool (bestPl st ns).isSome]) ∧
      Hid (∀ z, bestPl st ns = some z → nb = z.1.length ∧ Sl encInt 1 w' w'.heap.size Ab z.1 ∧ ub = z.2.1 ∧ bb = z.2.2) ∧ Hid (Below w.heap.size w w') := by
  have hm3 : m ≤ 3 := by rw [← hm]; exact h.m2
  have hm1 : 1 ≤ m := by rw [← hm]; exact h.m1
  have hmk := fun W => run_make_row' (P := Try.prog) 47 3 (.int .i64 0) 8 Try.underlying47 infoInt rfl .i64 .i64 m (by omega) (by omega) W
  obtain ⟨bs, hbs⟩ : ∃ b, b = bestPl st ns := ⟨_, rfl⟩
  rw [← hbs]
  obtain ⟨fb, hfb⟩ : ∃ b, b = bs.isSome := ⟨_, rfl⟩
  rw [← hfb]
  obtain ⟨w3, hw3⟩ : ∃ W', W' = ((w.alloc (.cells #[.slice A N c] 39)).alloc (.cells #[.slice An m cn] 69)).alloc (.cells #[.slice none 0 0, .int .i64 0, .int .i64 0] 148) := ⟨_, rfl⟩
  have hb3 : Below w.heap.size w w3 := by rw [hw3]; exact balR (balR (balR (Below.refl _ _) _) _) _
  have hs3 : w3.heap.size = w.heap.size + 3 := by rw [hw3]; simp
  have kS3 : Blk w3 w.heap.size 39 #[.slice A N c] := by rw [hw3]; exact ((Blk.new _ _ _).alloc _).alloc _
  have kD3 : Blk w3 (w.heap.size + 1) 69 #[.slice An m cn] := by rw [hw3]; exact (blkAt (by simp) 69 _).alloc _
  have k43 : Blk w3 (w.heap.size + 1 + 1) 148 #[.slice none 0 0, .int .i64 0, .int .i64 0] := by rw [hw3]; exact blkAt (by simp) 148 _
  have HTR := Lib.hid (fun B gN gF gB gS gL gD gT gR => try_any st ns h w3 A An c cn N m ((hA.below hb3).mono hb3.size) ((hB.below hb3).mono hb3.size) hN hm B gN gF gB gS gL gD gT gR)
  have HB3 := Lib.hid hb3
  have HK43 := Lib.hid k43
  have HW3 := Lib.hid hw3
  have HS3 := Lib.hid hs3
  have HBS := Lib.hid hbs
  have HFB := Lib.hid hfb
  have HNN := Lib.hid hN
  have HMM := Lib.hid hm
  have HBB := Lib.hid hB
  have HNB := Lib.hid h.nb
  clear hbs hfb hA hB h hN hm hw3
  go_enter Try.func77, Try.ntmps77
  go_upto_region 5 with fail
  rw [← HW3.out]
  have hW0 : ∃ W0, W0 = ((((w3.alloc (.cells #[.slice none 0 0, .int .i64 0, .int .i64 0] 148)).alloc (.cells #[.bool false] 4)).alloc (.cells #[.slice none 0 0, .int .i64 0, .int .i64 0] 148)).alloc (.cells (madeCells #[Value.int .i64 0] m) 3)).alloc (.cells #[.slice (some ⟨w.heap.size + 1 + 1 + 1 + 1 + 1 + 1, 0, none⟩) m m] 47) := ⟨_, rfl⟩
  obtain ⟨W0, hW0⟩ := hW0
  rw [← hW0]
  obtain ⟨gL, hgL⟩ : ∃ g, g = w.heap.size + 1 + 1 + 1 + 1 + 1 + 1 + 1 := ⟨_, rfl⟩
  obtain ⟨gR, hgR⟩ : ∃ g, g = w.heap.size + 1 + 1 + 1 + 1 + 1 + 1 := ⟨_, rfl⟩
  obtain ⟨gN, hgN⟩ : ∃ g, g = w.heap.size + 1 + 1 + 1 + 1 + 1 := ⟨_, rfl⟩
  obtain ⟨gF, hgF⟩ : ∃ g, g = w.heap.size + 1 + 1 + 1 + 1 := ⟨_, rfl⟩
  obtain ⟨gB, hgB⟩ : ∃ g, g = w.heap.size + 1 + 1 + 1 := ⟨_, rfl⟩
  obtain ⟨g4, hg4⟩ : ∃ g, g = w.heap.size + 1 + 1 := ⟨_, rfl⟩
  obtain ⟨gD, hgD⟩ : ∃ g, g = w.heap.size + 1 := ⟨_, rfl⟩
  obtain ⟨gS, hgS⟩ : ∃ g, g = w.heap.size := ⟨_, rfl⟩
  rw [← hgR] at hW0
  rw [← hgL, ← hgR, ← hgN, ← hgF, ← hgB, ← hg4, ← hgD, ← hgS]
  have hL0 : LeaM w3 m g4 gB gF gN gR gL gS gD (.slice A N c) (.slice An m cn) (nlF ns 0) W0 := by
    have hb0 : Below w3.heap.size w3 W0 := by rw [hW0]; exact balR (balR (balR (balR (balR (Below.refl _ _) _) _) _) _) _
    refine ⟨hb0, ?_, ?_, ?_, ?_, ?_, ?_, ?_, ?_⟩
    · rw [hg4]; exact k43.below hb0 k43.lt
    · rw [hW0, hgB]; exact (((blkAt (by omega) 148 _).alloc _).alloc _).alloc _ |>.alloc _
    · rw [hW0, hgF]; exact ((blkAt (by simp; omega) 4 _).alloc _).alloc _ |>.alloc _
    · rw [hW0, hgN]; exact (blkAt (by simp; omega) 148 _).alloc _ |>.alloc _
    · rw [hW0]
      have hk : Blk ((((w3.alloc (.cells #[.slice none 0 0, .int .i64 0, .int .i64 0] 148)).alloc (.cells #[.bool false] 4)).alloc (.cells #[.slice none 0 0, .int .i64 0, .int .i64 0] 148)).alloc (.cells (madeCells #[Value.int .i64 0] m) 3)) gR 3 (madeCells #[Value.int .i64 0] m) := by rw [hgR]; exact blkAt (by simp; omega) 3 _
      have hk2 : RowF ((((w3.alloc (.cells #[.slice none 0 0, .int .i64 0, .int .i64 0] 148)).alloc (.cells #[.bool false] 4)).alloc (.cells #[.slice none 0 0, .int .i64 0, .int .i64 0] 148)).alloc (.cells (madeCells #[Value.int .i64 0] m) 3)) gR (fun _ => 0) m := rowF_repl (u := 0) (by
        have e : madeCells #[Value.int .i64 0] m = (List.replicate m (Value.int .i64 0)).toArray := by
          rw [← toList_madeCells_one]
        rw [← e]; exact hk)
      exact (hk2.congr (fun i _ => by simp [nlF])).below (balR (Below.refl _ _) _)
    · rw [hW0, hgL]; exact blkAt (by simp; omega) 47 _
    · rw [hgS]; exact kS3.below hb0 kS3.lt
    · rw [hgD]; exact kD3.below hb0 kD3.lt
  have HL0 := Lib.hid hL0
  have HG4 := Lib.hid (show Blk w3 g4 148 #[.slice none 0 0, .int .i64 0, .int .i64 0] from by rw [hg4]; exact HK43.out)
  have hge : w3.heap.size ≤ gR := by omega
  have HGE := Lib.hid (And.intro hge (show w3.heap.size ≤ gN ∧ w3.heap.size ≤ gF ∧ w3.heap.size ≤ gB ∧ gN ≠ gB ∧ w.heap.size ≤ g4 ∧ g4 < w3.heap.size from by omega))
  clear hW0 hgL hgR hgN hgF hgB hg4 hgD hgS hL0 k43 kS3 kD3 hge hmk hb3 hs3
  have dd := HL0.out.kD.cell 0
  simp at dd
  go_wp2_with fail
  clear dd
  go_loopw [19] (fun q wr => ∃ k : Nat, k ≤ m ∧ q = .int .i64 k ∧ Hid (LeaM w3 m g4 gB gF gN gR gL gS gD (.slice A N c) (.slice An m cn) (nlF ns k) wr)) (fun q _ => m - (intOf q).toNat)
  case atStart => exact ⟨0, Nat.zero_le _, rfl, HL0⟩
  case round =>
    clear HL0
    obtain ⟨k, hk, rfl, HL⟩ := hrel
    by_cases hlt : k < m
    · have hk2 : k < ns.length := by have := HMM.out; omega
      obtain ⟨b, off, rfl, hbb, d0, d1⟩ := Sl.at2 (HBB.out.below (bstep HB3.out HL.out.low)) hk2
      obtain ⟨n1, hn1⟩ : ∃ q, q = ns[k].1 := ⟨_, rfl⟩
      obtain ⟨n2, hn2⟩ : ∃ q, q = ns[k].2 := ⟨_, rfl⟩
      rw [← hn1] at d0
      rw [← hn2] at d1
      have HN2 := Lib.hid (show (ns.getD k (0, 0)).2 = n2 from by rw [hn2]; simp [List.getD_eq_getElem?_getD, hk2])
      have i0 : (0 : Int) ≤ (k : Int) := by omega
      have i1 : (k : Int) < (m : Int) := by omega
      clear hn1 hn2
      go_upto_region 8 with fail
      obtain ⟨g11, hg11⟩ : ∃ g, g = wr.heap.size := ⟨_, rfl⟩
      obtain ⟨w5, hw5⟩ : ∃ W', W' = wr.alloc (.cells #[.int .i64 n1, .int .i64 n2] 77) := ⟨_, rfl⟩
      rw [← hw5, ← hg11]
      have k5 : Blk w5 g11 77 #[.int .i64 n1, .int .i64 n2] := by rw [hw5, hg11]; exact Blk.new _ _ _
      have HL5 := Lib.hid (HL.out.below (show Below wr.heap.size wr w5 from by rw [hw5]; exact balR (Below.refl _ _) _))
      have c1 := k5.cell 1
      have ll := HL5.out.kL.cell 0
      have dl := HL5.out.left.cell hlt
      have fl := HL5.out.left.frozen k
      simp at c1 ll
      clear hw5 hg11 k5 d0 d1
      go_wp2_with fail
      go_roundw
      case rel => exact ⟨k + 1, by omega, by go_num, Lib.hid (by rw [← nlF_s, HN2.out]; exact HL5.out.setL HGE.out.1 k n2)⟩
      case measure => simp [intOf]; omega
    · obtain rfl : m = k := by omega
      clear hk hlt
      obtain ⟨w6, hw6⟩ : ∃ W', W' = wr := ⟨_, rfl⟩
      rw [← hw6] at HL ⊢
      clear hw6
      go_upto_region 12 with fail
      obtain ⟨gT, hgT⟩ : ∃ g, g = w6.heap.size := ⟨_, rfl⟩
      rw [← hgT]
      obtain ⟨W2, hW2⟩ : ∃ W', W' = w6.alloc (.cells #[tryV gN gF gB gS gL gD gT] 1) := ⟨_, rfl⟩
      have hW2' := hW2
      unfold tryV at hW2'
      rw [← hW2']
      have hkT : Blk W2 gT 1 #[tryV gN gF gB gS gL gD gT] := by rw [hW2, hgT]; exact Blk.new _ _ _
      have hL2 := HL.out.below (show Below w6.heap.size w6 W2 from by rw [hW2]; exact balR (Below.refl _ _) _)
      have hge := HGE.out
      have l1 := hL2.kN.lt
      have l2 := hL2.kF.lt
      have l3 := hL2.kB.lt
      have l4 := hL2.kS.lt
      have l5 := hL2.kL.lt
      have l6 := hL2.kD.lt
      have l7 := hkT.lt
      have l8 := hL2.left.lt
      have hM : SeaM w3 W2.heap.size gN gF gB gS gL gD gT gR (.slice A N c) (.slice An m cn) m [] (usedL []) 0 (leftF st ns []) none (.slice none 0 0) (.slice none 0 0) 0 0 W2 :=
        ⟨⟨hge.2.2.2.2.1, ⟨hge.2.1, hge.2.2.1, hge.2.2.2.1, hge.1⟩, ⟨l1, l2, l3, l4, l5, l6, l7, l8⟩⟩, hL2.low, Nat.le_refl _, hL2.kN, World.ownsRow_nil _ _ _ _, hL2.kF, hL2.kB, fun z hz => (by cases hz), .inl rfl, fun _ => rfl, hL2.kS, hL2.kL, hL2.kD, hkT, hL2.left.congr (fun i hi => by unfold nlF leftF; rw [if_pos hi]; simp [sumN])⟩
      have htry := HTR.out W2.heap.size gN gF gB gS gL gD gT gR (st.length + 1) [] none 0 _ _ 0 0 W2 (by simp) (by simp) (fun i h => by simp at h) hM
      rw [show dfsP st ns (st.length + 1) [] none = bs from by rw [HBS.out]; rfl] at htry
      have HTRY := Lib.hid htry
      have tt := hkT.cell 0
      simp at tt
      unfold tryV at tt
      have HK4 := Lib.hid hL2.k4
      clear hgT hW2 hW2' hkT hL2 l1 l2 l3 l4 l5 l6 l7 l8 hM htry HTR hge HL
      go_upto_region 13 with (go_at_call 114; refine HTRY.out.mono ?_; rintro e w8 ⟨⟨rv, rfl⟩, y8, v8, vb8, ub8, bb8, hM8⟩; have HM8 := Lib.hid hM8; clear hM8)
      obtain ⟨Ab, nb, cb, hvb, hnb⟩ : ∃ Ab nb cb, vb8 = .slice Ab nb cb ∧ ∀ z, bs = some z → nb = z.1.length := by
        cases hb : bs with
        | none => exact ⟨none, 0, 0, HM8.out.vbo hb, fun z hz => (by cases hz)⟩
        | some z =>
          have hbe := (HM8.out.best z hb).1
          obtain ⟨q1, q2, q3⟩ := own_shape hbe
          exact ⟨q1, _, q2, q3, fun z' hz => by injection hz with hz; rw [hz]⟩
      subst hvb
      have HNB := Lib.hid hnb
      have h4lt : g4 < w3.heap.size := HGE.out.2.2.2.2.2.2
      have k48 : Blk w8 g4 148 #[.slice none 0 0, .int .i64 0, .int .i64 0] := by
        have hk3 : Blk w3 g4 148 #[.slice none 0 0, .int .i64 0, .int .i64 0] := HG4.out
        exact hk3.below HM8.out.low h4lt
      have K48 := Lib.hid k48
      have b0 := HM8.out.kB.cell 0
      have b1 := HM8.out.kB.cell 1
      have b2 := HM8.out.kB.cell 2
      have ff := HM8.out.kF.cell 0
      have f40 := k48.cell 0
      have f41 := k48.cell 1
      have f42 := k48.cell 2
      have z40 := k48.frozen 0
      have z41 := k48.frozen 1
      have z42 := k48.frozen 2
      simp at b0 b1 b2 ff f40 f41 f42
      rw [← HFB.out] at ff
      have n1 : g4 ≠ gB := by have := HGE.out; omega
      have n2 := n1.symm
      have n3 : g4 ≠ gF := by have := HGE.out; omega
      have n4 := n3.symm
      clear hnb k48 tt h4lt HTRY HK4
      go_region
      all_goals
        have k1 := K48.out.set_ 0 (.slice Ab nb cb)
        have k2 := k1.set_ 1 (.int .i64 ub8)
        have k3 := k2.set_ 2 (.int .i64 bb8)
        have hbg : w.heap.size ≤ g4 := HGE.out.2.2.2.2.2.1
        have hb8 : Below w.heap.size w w8 := bstep HB3.out HM8.out.low
        have hbf : Below w.heap.size w (((w8.setCell ⟨g4, 0, none⟩ (.slice Ab nb cb)).setCell ⟨g4, 1, none⟩ (.int .i64 ub8)).setCell ⟨g4, 2, none⟩ (.int .i64 bb8)).drew := (((hb8.setCell (p := ⟨g4, 0, none⟩) (by exact hbg) _).setCell (p := ⟨g4, 1, none⟩) (by exact hbg) _).setCell (p := ⟨g4, 2, none⟩) (by exact hbg) _).drew
        have hrow : ∀ {u : Value} {nn bx : Nat} {xs : List Value}, w8.ownsRow bx 3 1 u nn xs → (((w8.setCell ⟨g4, 0, none⟩ (.slice Ab nb cb)).setCell ⟨g4, 1, none⟩ (.int .i64 ub8)).setCell ⟨g4, 2, none⟩ (.int .i64 bb8)).drew.ownsRow bx 3 1 u nn xs := fun {u nn bx xs} h0 =>
          Go.Rl.own_far (Go.Rl.own_far (Go.Rl.own_far h0 K48.out (by decide) 0 _) k1 (by decide) 1 _) k2 (by decide) 2 _
        have kf := k3.drew
        generalize hwf : World.drew _ = wf at hbf hrow kf ⊢
        have c0 := kf.cell 0
        have c1 := kf.cell 1
        have c2 := kf.cell 2
        simp at c0 c1 c2
        go_wp2_with fail
        refine bodyPost_ret (v := .tuple #[.agg #[.slice Ab nb cb, .int .i64 ub8, .int .i64 bb8], .bool fb]) ?_ rfl ⟨_, _, _, _, _, rfl, Lib.hid fun z hz => ?_, Lib.hid hbf⟩
        · simp [results, Try.results77, go_sem, c0, c1, c2]
        · obtain ⟨h1, h2, h3⟩ := HM8.out.best z hz
          have hn := HNB.out z hz
          exact ⟨hn, own_sl (c := cb) (B := W2.heap.size) (hrow (by rw [hn] at h1; exact h1)), h2, h3⟩
end Go.Proofs.Ytnbnfadmbggfnaa
