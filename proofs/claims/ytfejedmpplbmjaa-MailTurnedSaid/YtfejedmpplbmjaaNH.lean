/- The examples of the chapter, and awake; conditions: none. Printed by a program. -/
import Derived.Test.YtfejedmpplbmjaaNE
import Derived.Test.YtfejedmpplbmjaaNG
set_option linter.unusedSimpArgs false
set_option linter.unusedVariables false
namespace Go.Proofs.Ytfejedmpplbmjaa
open Go.RowKit Go.Fh Go.Ml
set_option maxHeartbeats 4000000 in
theorem ex41_any (w : World) : Calls Try.prog 41 #[] w fun e w' => ∃ x : LA, e = .returned (.agg #[.slice x.a 2 x.ca, .slice x.b 1 x.cb, .int .i64 3, .slice x.z 2 x.cz]) ∧ LnAt w' w'.heap.size exD x ∧ Hid (Below w.heap.size w w') := by
  go_enter Try.func41, Try.ntmps41
  go_wp2
  obtain ⟨W6, hW6⟩ : ∃ W, W = (((((w.alloc (.cells #[.slice (some ⟨w.heap.size + 1, 0, none⟩) 2 2, .slice (some ⟨w.heap.size + 1 + 1, 0, none⟩) 1 1, .int .i64 3, .slice (some ⟨w.heap.size + 1 + 1 + 1 + 1 + 1, 0, none⟩) 2 2] 29)).alloc (.cells #[.int .i64 3, .int .i64 2, .int .i64 5, .int .i64 1] 49)).alloc (.cells #[.int .i64 3] 3)).alloc (.cells #[.int .i64 3, .int .i64 5] 3)).alloc (.cells #[.int .i64 3] 3)).alloc (.cells #[.slice (some ⟨w.heap.size + 1 + 1 + 1, 0, none⟩) 2 2, .slice (some ⟨w.heap.size + 1 + 1 + 1 + 1, 0, none⟩) 1 1] 22) := ⟨_, rfl⟩
  rw [← hW6]
  have k0 : Blk W6 (w.heap.size) 29 #[.slice (some ⟨w.heap.size + 1, 0, none⟩) 2 2, .slice (some ⟨w.heap.size + 1 + 1, 0, none⟩) 1 1, .int .i64 3, .slice (some ⟨w.heap.size + 1 + 1 + 1 + 1 + 1, 0, none⟩) 2 2] := by rw [hW6]; exact ((((((Blk.new _ _ _).alloc _).alloc _).alloc _).alloc _).alloc _)
  have k1 : Blk W6 (w.heap.size + 1) 49 #[.int .i64 3, .int .i64 2, .int .i64 5, .int .i64 1] := by rw [hW6]; exact (((((blkAt (by simp) _ _).alloc _).alloc _).alloc _).alloc _)
  have k2 : Blk W6 (w.heap.size + 1 + 1) 3 #[.int .i64 3] := by rw [hW6]; exact ((((blkAt (by simp) _ _).alloc _).alloc _).alloc _)
  have k3 : Blk W6 (w.heap.size + 1 + 1 + 1) 3 #[.int .i64 3, .int .i64 5] := by rw [hW6]; exact (((blkAt (by simp) _ _).alloc _).alloc _)
  have k4 : Blk W6 (w.heap.size + 1 + 1 + 1 + 1) 3 #[.int .i64 3] := by rw [hW6]; exact ((blkAt (by simp) _ _).alloc _)
  have k5 : Blk W6 (w.heap.size + 1 + 1 + 1 + 1 + 1) 22 #[.slice (some ⟨w.heap.size + 1 + 1 + 1, 0, none⟩) 2 2, .slice (some ⟨w.heap.size + 1 + 1 + 1 + 1, 0, none⟩) 1 1] := by rw [hW6]; exact blkAt (by simp) _ _
  have hb : Below w.heap.size w W6 := by rw [hW6]; repeat (with_reducible first | exact Below.refl _ _ | refine balR ?_ _)
  have c0 := k0.cell 0
  have c1 := k0.cell 1
  have c2 := k0.cell 2
  have c3 := k0.cell 3
  simp at c0 c1 c2 c3
  clear hW6
  refine bodyPost_ret (v := .agg #[.slice (some ⟨w.heap.size + 1, 0, none⟩) 2 2, .slice (some ⟨w.heap.size + 1 + 1, 0, none⟩) 1 1, .int .i64 3, .slice (some ⟨w.heap.size + 1 + 1 + 1 + 1 + 1, 0, none⟩) 2 2]) (by simp [results, Try.f41, go_sem, c0, c1, c2, c3]) rfl ?_
  refine ⟨⟨some ⟨w.heap.size + 1, 0, none⟩, 2, some ⟨w.heap.size + 1 + 1, 0, none⟩, 1, some ⟨w.heap.size + 1 + 1 + 1 + 1 + 1, 0, none⟩, 2, [(some ⟨w.heap.size + 1 + 1 + 1, 0, none⟩, 2, [3, 5]), (some ⟨w.heap.size + 1 + 1 + 1 + 1, 0, none⟩, 1, [3])]⟩, rfl, ⟨Sl.of_blk (l := [((3 : Int), (2 : Int)), (5, 1)]) (fun _ => rfl) (by decide) k1 rfl, Sl.of_blk (l := [3]) (fun _ => rfl) (by decide) k2 rfl, Sl.of_blk (enc := encR) (fun _ => rfl) (by simp [maxLen]) k5 rfl, rfl, fun r hr => ?_⟩, Lib.hid hb⟩
  simp at hr
  rcases hr with rfl | rfl
  · exact Sl.of_blk (l := [3, 5]) (fun _ => rfl) (by decide) k3 rfl
  · exact Sl.of_blk (l := [3]) (fun _ => rfl) (by decide) k4 rfl
set_option maxHeartbeats 4000000 in
theorem ex42_any (w : World) : Calls Try.prog 42 #[] w fun e w' => ∃ A c, e = .returned (.slice A 3 c) ∧ Hid (Sl encF 3 w' w'.heap.size A exF) ∧ Hid (Below w.heap.size w w') := by
  go_enter Try.func42, Try.ntmps42
  go_wp2
  go_ret
  exact ⟨some ⟨w.heap.size, 0, none⟩, 3, rfl, Lib.hid (Sl.of_blk (l := exF) (fun _ => rfl) (by decide) (Blk.new w 47 _) rfl), Lib.hid (balR (Below.refl _ _) _)⟩
/-- Run on the example -/
theorem ruEx (x : LA) (zA fA : Option Addr) (zc fc : Nat) (w : World) (h : LnAt w w.heap.size exD x) (hZ : Sl encInt 1 w w.heap.size zA exZ) (hF : Sl encF 3 w w.heap.size fA exF) :
    Calls Try.prog 13 #[.agg #[.slice x.a 2 x.ca, .slice x.b 1 x.cb, .int .i64 3, .slice x.z 2 x.cz], .slice zA 5 zc, .slice fA 3 fc] w fun e w' => ∃ (AC B1 B2 B3 : Option Addr) (cC d1 d2 d3 : Nat) (rows : List CpR), e = .returned (.tuple #[.agg #[.slice AC 4 cC, .slice B1 1 d1, .slice B2 1 d2, .slice B3 1 d3], .int .i64 0]) ∧
      Hid (rows.map CpR.bare = [(0, 0, [3, 5], true), (1, 0, [3, 5], true), (2, 0, [3], false), (3, 0, [3, 5], true)] ∧ Sl encC 4 w' w'.heap.size AC rows ∧ Sl encInt 1 w' w'.heap.size B1 [4] ∧ Sl encInt 1 w' w'.heap.size B2 [1] ∧ Sl encInt 1 w' w'.heap.size B3 [0]) ∧ Hid (Below w.heap.size w w') := by
  refine (run_any exD x exZ zA zc exF fA fc w h (by decide) (by decide) hZ hF (by decide) (by decide) 3 (Or.inl rfl) 0 ex_open.symm).mono ?_
  rintro e w' ⟨vC, v1, v2, v3, rfl, -, hf, hb⟩
  obtain ⟨base, B, rows, -, hfl, hbr⟩ := (hf.out rfl).ex
  have hbr2 : rows.map CpR.bare = [(0, 0, [3, 5], true), (1, 0, [3, 5], true), (2, 0, [3], false), (3, 0, [3, 5], true)] := hbr.trans ex_bare
  have hrl : rows.length = 4 := by have := congrArg List.length hbr2; simpa using this
  have e1 : natI (thrK exD exZ exF exZ.length) = [4] := by rw [show exZ.length = 5 from rfl, ex_thr]; rfl
  have e2 : natI (repK exD exZ exF exZ.length) = [1] := by rw [show exZ.length = 5 from rfl, ex_rep]; rfl
  have e3 : natI (decK exD exZ exF 3 ((exZ.length + 3 - 1) / 3)) = [0] := by rw [show (exZ.length + 3 - 1) / 3 = 2 from rfl, ex_dec]; rfl
  rw [e1, e2, e3] at hfl
  have hC := hfl.rC
  have h1 := hfl.r1
  have h2 := hfl.r2
  have h3 := hfl.r3
  obtain ⟨AC, cC, rfl⟩ := own_shape hC
  obtain ⟨B1, d1, rfl⟩ := own_shape h1
  obtain ⟨B2, d2, rfl⟩ := own_shape h2
  obtain ⟨B3, d3, rfl⟩ := own_shape h3
  exact ⟨AC, B1, B2, B3, cC, d1, d2, d3, rows, by rw [hrl]; rfl, Lib.hid ⟨hbr2, Sl.of_own (fun _ => rfl) hC, own_sl (l := [4]) h1, own_sl (l := [1]) h2, own_sl (l := [0]) h3⟩, hb⟩
/-- Bundles on the example -/
theorem buEx (x : LA) (rows : List CpR) (AC A1 A2 A3 AD : Option Addr) (cC c1 c2 c3 cD : Nat) (w : World) (h : LnAt w w.heap.size exD x) (hbr : rows.map CpR.bare = [(0, 0, [3, 5], true), (1, 0, [3, 5], true), (2, 0, [3], false), (3, 0, [3, 5], true)])
    (hC : Sl encC 4 w w.heap.size AC rows) (h3 : Sl encInt 1 w w.heap.size A3 [0]) (hD : Sl enc3 3 w w.heap.size AD exDs) :
    Calls Try.prog 35 #[.agg #[.slice x.a 2 x.ca, .slice x.b 1 x.cb, .int .i64 3, .slice x.z 2 x.cz], .agg #[.slice AC 4 cC, .slice A1 1 c1, .slice A2 1 c2, .slice A3 1 c3], .slice AD 2 cD, .agg #[.int .i64 10, .int .i64 3]] w fun e w' => ∃ (g : Nat) (A : Option Addr) (c cB : Nat), e = .returned (.tuple #[.slice (some ⟨g, 0, none⟩) 2 cB, .int .i64 0]) ∧
      Hid ((w'.cell? ⟨g, 5 + 3, none⟩ = some (.slice A 2 c) ∧ w'.cell? ⟨g, 5 + 4, none⟩ = some (.bool true)) ∧ Sl encInt 1 w' w'.heap.size A [2, 3]) ∧ Hid (Below w.heap.size w w') := by
  have hrl : rows.length = 4 := by have := congrArg List.length hbr; simpa using this
  have hl : exL = rows.map fun r => (r.num, r.zone) := by
    have := congrArg (List.map fun p : Int × Int × List Int × Bool => (p.1, p.2.1)) hbr
    rw [List.map_map] at this
    exact this.symm
  have hnm : rows.map CpR.num = [0, 1, 2, 3] := by
    have := congrArg (List.map fun p : Int × Int × List Int × Bool => p.1) hbr
    rw [List.map_map] at this
    exact this
  have hc := bundles_ok exD x rows AC A1 A2 A3 AD cC 1 c1 1 c2 c3 cD [0] exDs 10 3 w h ex_chk hC h3 hD (by omega) (by decide) (by decide) ex_rng ex_nod ex_wrg (by rw [hnm]; exact ex_ris) ex_clm exL hl ex_enough 3 rfl
  rw [hrl] at hc
  refine hc.mono ?_
  rintro e w' ⟨A, c, bs, base, rfl, hbs, -, hbu, hb⟩
  have hbs2 : bs.map BdR.bare = [(7, 1, 1, [0, 1], true), (8, 1, 1, [2, 3], true)] := hbs.trans ex_bun
  have hbl : bs.length = 2 := by have := congrArg List.length hbs2; simpa using this
  obtain ⟨b0, b1, rfl⟩ : ∃ b0 b1, bs = [b0, b1] := by
    match bs, hbl with
    | [b0, b1], _ => exact ⟨b0, b1, rfl⟩
  · have hq : b1.bare = (8, 1, 1, [2, 3], true) := by simp at hbs2; exact hbs2.2
    obtain ⟨bd, bn, bo, ba, bc, bp, bq⟩ := b1
    simp only [BdR.bare, Prod.mk.injEq] at hq
    obtain ⟨rfl, rfl, rfl, rfl, rfl⟩ := hq
    have hrB := hbu.out.rB
    rcases hrB.2 with ⟨h1, h2⟩ | ⟨g, cap, cur, h1, -, hg, -, -, -, htk⟩
    · cases h2
    · injection h1 with h1 _ h2
      subst h1
      have hcell : ∀ i v, (([b0, ⟨8, 1, 1, ba, bc, [2, 3], true⟩] : List BdR).flatMap encB)[i]? = some v → w'.cell? ⟨g, i, none⟩ = some v := fun i v hv => by
        rw [← htk, List.getElem?_take] at hv
        split at hv
        · have := Blk.cell (show Blk w' g 94 cur from hg) i
          rw [this]
          simpa using hv
        · cases hv
      exact ⟨g, ba, bc, c, rfl, Lib.hid ⟨⟨hcell _ _ rfl, hcell _ _ rfl⟩, own_sl (hbu.out.pP ⟨8, 1, 1, ba, bc, [2, 3], true⟩ (by simp))⟩, hb⟩
theorem eqI (l : List Int) (hl : l.length ≤ 1000) (A : Option Addr) (c : Nat) (w : World) (hA : Sl encInt 1 w w.heap.size A l) : Calls Try.prog 37 #[.slice A l.length c, .slice (some ⟨w.heap.size, 0, none⟩) l.length l.length] (w.alloc (.cells ((l.map (Value.int .i64)).toArray) 3)) fun e w' => e = .returned (.bool true) ∧ Hid (Below w.heap.size w w') := by
  have hb := balR (Below.refl w.heap.size w) (.cells ((l.map (Value.int .i64)).toArray) 3)
  refine (equalInts_any A (some ⟨w.heap.size, 0, none⟩) c l.length l l _ (by omega) (by omega) ((hA.below hb).mono hb.size) (Sl.of_blk (fun _ => rfl) (by simp only [maxLen]; omega) (Blk.new w 3 _) (by rw [flat_int]))).mono ?_
  rintro e w' ⟨rfl, h⟩
  exact ⟨by simp, Lib.hid (bstep hb h)⟩
theorem eqI1 (u : Int) (A : Option Addr) (c : Nat) (w : World) (hA : Sl encInt 1 w w.heap.size A [u]) : Calls Try.prog 37 #[.slice A 1 c, .slice (some ⟨w.heap.size, 0, none⟩) 1 1] (w.alloc (.cells #[.int .i64 u] 3)) fun e w' => e = .returned (.bool true) ∧ Hid (Below w.heap.size w w') := eqI [u] (by simp) A c w hA
theorem eqI2 (u v : Int) (A : Option Addr) (c : Nat) (w : World) (hA : Sl encInt 1 w w.heap.size A [u, v]) : Calls Try.prog 37 #[.slice A 2 c, .slice (some ⟨w.heap.size, 0, none⟩) 2 2] (w.alloc (.cells #[.int .i64 u, .int .i64 v] 3)) fun e w' => e = .returned (.bool true) ∧ Hid (Below w.heap.size w w') := eqI [u, v] (by simp) A c w hA
theorem eqI3 (u v t : Int) (A : Option Addr) (c : Nat) (w : World) (hA : Sl encInt 1 w w.heap.size A [u, v, t]) : Calls Try.prog 37 #[.slice A 3 c, .slice (some ⟨w.heap.size, 0, none⟩) 3 3] (w.alloc (.cells #[.int .i64 u, .int .i64 v, .int .i64 t] 3)) fun e w' => e = .returned (.bool true) ∧ Hid (Below w.heap.size w w') := eqI [u, v, t] (by simp) A c w hA
theorem cell_low {W : World} {g i : Nat} {v : Value} (h : W.cell? ⟨g, i, none⟩ = some v) : g < W.heap.size := by
  rcases Nat.lt_or_ge g W.heap.size with h1 | h1
  · exact h1
  · simp [World.cell?, h1] at h
theorem exDs_sl (w : World) : Sl enc3 3 (w.alloc (.cells #[.int .i64 7, .int .i64 0, .int .i64 2, .int .i64 8, .int .i64 0, .int .i64 2] 87)) (w.alloc (.cells #[.int .i64 7, .int .i64 0, .int .i64 2, .int .i64 8, .int .i64 0, .int .i64 2] 87)).heap.size (some ⟨w.heap.size, 0, none⟩) exDs := Sl.of_blk (l := exDs) (fun _ => rfl) (by decide) (Blk.new w 87 #[.int .i64 7, .int .i64 0, .int .i64 2, .int .i64 8, .int .i64 0, .int .i64 2]) rfl
theorem exZ_sl (w : World) : Sl encInt 1 (w.alloc (.cells #[.int .i64 0, .int .i64 0, .int .i64 0, .int .i64 0, .int .i64 1] 3)) (w.alloc (.cells #[.int .i64 0, .int .i64 0, .int .i64 0, .int .i64 0, .int .i64 1] 3)).heap.size (some ⟨w.heap.size, 0, none⟩) exZ := Sl.of_blk (l := exZ) (fun _ => rfl) (by decide) (Blk.new w 3 #[.int .i64 0, .int .i64 0, .int .i64 0, .int .i64 0, .int .i64 1]) rfl
set_option maxRecDepth 20000 in
set_option maxHeartbeats 8000000 in
theorem awake_any (w : World) : Calls Try.prog 10 #[] w fun e w' => e = .returned (.bool true) ∧ Below w.heap.size w w' := by
  go_enter Try.func10, Try.ntmps10
  go_upto_region 2 with first
    | (go_at_call 41; refine (ex41_any _).mono ?_; rintro e w1 ⟨x1, rfl, hL1, HB1⟩; have HL1 := Lib.hid hL1; clear hL1)
    | (go_at_call 42; refine (ex42_any _).mono ?_; rintro e w2 ⟨AF, cF, rfl, HF2, HB2⟩; go_loud (have hbz := bstep (balR (Below.refl w1.heap.size w1) (.cells #[.int .i64 0, .int .i64 0, .int .i64 0, .int .i64 0, .int .i64 1] 3)) HB2.out); have HL2 := Lib.hid ((HL1.out.below hbz).mono hbz.size); have HZ2 := Lib.hid (((exZ_sl w1).below HB2.out).mono HB2.out.size); have HBW2 := Lib.hid (bstep HB1.out hbz); clear hbz)
    | (go_at_call 13; go_loud (refine (ruEx x1 (some ⟨w1.heap.size, 0, none⟩) AF 5 cF w2 HL2.out HZ2.out HF2.out).mono ?_); rintro e w3 ⟨AC, B1, B2, B3, cC, d1, d2, d3, rows, rfl, HR, HB3⟩)
  obtain ⟨w4, hw4⟩ : ∃ W, W = w3.alloc (.cells #[.slice AC 4 cC, .slice B1 1 d1, .slice B2 1 d2, .slice B3 1 d3] 36) := ⟨_, rfl⟩
  obtain ⟨gF, hgF⟩ : ∃ g, g = w3.heap.size := ⟨_, rfl⟩
  have k4 : Blk w4 gF 36 #[.slice AC 4 cC, .slice B1 1 d1, .slice B2 1 d2, .slice B3 1 d3] := by rw [hw4, hgF]; exact Blk.new w3 36 _
  have hb4 : Below w3.heap.size w3 w4 := by rw [hw4]; exact balR (Below.refl _ _) _
  have HBW4 := Lib.hid (show Below w.heap.size w w4 from bstep (bstep HBW2.out HB3.out) hb4)
  have HR4 := Lib.hid (show ∀ W, Below w4.heap.size w4 W → Blk W gF 36 #[.slice AC 4 cC, .slice B1 1 d1, .slice B2 1 d2, .slice B3 1 d3] ∧ Sl encC 4 W W.heap.size AC rows ∧ Sl encInt 1 W W.heap.size B1 [4] ∧ Sl encInt 1 W W.heap.size B2 [1] ∧ Sl encInt 1 W W.heap.size B3 [0] from fun W hW => by
    have hbw := bstep hb4 hW
    obtain ⟨-, q0, q1, q2, q3⟩ := HR.out
    exact ⟨k4.below hW k4.lt, (q0.below hbw).mono hbw.size, (q1.below hbw).mono hbw.size, (q2.below hbw).mono hbw.size, (q3.below hbw).mono hbw.size⟩)
  have HBR := Lib.hid HR.out.1
  rw [← hw4, ← hgF]
  clear hw4 hgF k4 hb4 HR
  go_upto_region 4 with first
    | (go_at_call 43; refine (sizes43_any 10 3 21 _ [10, 6, 5] 0 ex_sz.symm).mono ?_; rintro e w5 ⟨AS, cS, rfl, HS5, HB5⟩)
    | (go_at_call 25; refine (turns_any 10 3 1 _ (by decide) (by decide) (by decide)).mono ?_; rintro e w6 ⟨AT, cT, rfl, HT6, HB6⟩; rw [ex_turn] at HT6; rw [ex_turn])
  have HB46 := Lib.hid (show Below w4.heap.size w4 w6 from bstep HB5.out HB6.out)
  have HS6 := Lib.hid ((HS5.out.below HB6.out).mono HB6.out.size)
  have HSF := Lib.hid (show ∀ W, Below w6.heap.size w6 W → W.cell? ⟨gF, 0, none⟩ = some (.slice AC 4 cC) ∧ W.cell? ⟨gF, 1, none⟩ = some (.slice B1 1 d1) ∧ W.cell? ⟨gF, 2, none⟩ = some (.slice B2 1 d2) ∧ W.cell? ⟨gF, 3, none⟩ = some (.slice B3 1 d3) from fun W hW => by
    have k := (HR4.out W (bstep HB46.out hW)).1
    have z0 := k.cell 0
    have z1 := k.cell 1
    have z2 := k.cell 2
    have z3 := k.cell 3
    simp at z0 z1 z2 z3
    exact ⟨z0, z1, z2, z3⟩)
  refine wp_region_noPanic ?_
  refine wp_region_held_drew (S := (fun W => W.cell? ⟨gF, 0, none⟩ = some (.slice AC 4 cC) ∧ W.cell? ⟨gF, 1, none⟩ = some (.slice B1 1 d1) ∧ W.cell? ⟨gF, 2, none⟩ = some (.slice B2 1 d2) ∧ W.cell? ⟨gF, 3, none⟩ = some (.slice B3 1 d3))) (by kernel_rfl) ?_ (fun hHeld => ?_)
  · (try dsimp only); (exact HSF.out _ (Below.refl _ _).drew)
  refine wpAnyH_takeD (i := 1) (v := ?_) (some 27) rfl rfl (by kernel_rfl) (by kernel_rfl) (by kernel_rfl) (fun _ _ _ h => h) (Or.inl ⟨by rfl, ?_⟩) (by assumption) ?_
  rotate_left
  · intro w hSw; (try dsimp only at hSw); go_simp; (try with_reducible rfl)
  try simp only [Act.put, List.setIfInBounds_toArray, List.set_cons_zero, List.set_cons_succ]
  refine wpAnyH_takeD (i := 2) (v := ?_) (some 28) rfl rfl (by kernel_rfl) (by kernel_rfl) (by kernel_rfl) (fun _ _ _ h => h) (Or.inl ⟨by rfl, ?_⟩) (by assumption) ?_
  rotate_left
  · intro w hSw; (try dsimp only at hSw); go_simp; (try with_reducible rfl)
  try simp only [Act.put, List.setIfInBounds_toArray, List.set_cons_zero, List.set_cons_succ]
  refine wpAnyH_takeD (i := 3) (v := ?_) (some 29) rfl rfl (by kernel_rfl) (by kernel_rfl) (by kernel_rfl) (fun _ _ _ h => h) (Or.inl ⟨by rfl, ?_⟩) (by assumption) ?_
  rotate_left
  · intro w hSw; (try dsimp only at hSw); go_simp; (try with_reducible rfl)
  try simp only [Act.put, List.setIfInBounds_toArray, List.set_cons_zero, List.set_cons_succ]
  refine wpAnyH_takeD (i := 5) (v := ?_) (some 31) rfl rfl (by kernel_rfl) (by kernel_rfl) (by kernel_rfl) (fun _ _ _ h => h) (Or.inl ⟨by rfl, ?_⟩) (by assumption) ?_
  rotate_left
  · intro w hSw; (try dsimp only at hSw); go_simp; (try with_reducible rfl)
  try simp only [Act.put, List.setIfInBounds_toArray, List.set_cons_zero, List.set_cons_succ]
  refine wpAnyH_ready (rs := [0, 4]) (by kernel_rfl) (by simp) ?_
  refine AllReadyH.cons rfl (fun K hK => ?_) (AllReadyH.cons rfl (fun K hK => ?_) AllReadyH.nil)
  · (go_simp; go_at_call 41; with_reducible refine (ex41_any _).mono ?_; rintro e w9 ⟨x, rfl, hL9, HBY⟩; have HBX := Lib.hid (show Below w6.heap.size w6 w9 from bstep (by repeat (with_reducible first | exact Below.refl _ _ | refine Below.drew ?_ | refine balR ?_ _)) HBY.out); have HL9 := Lib.hid hL9; clear hL9; go_wp2_with fail)
    refine hK.out _ _ ?_ (fun hHeld => ?_)
    · (try dsimp only); (exact HSF.out _ (by repeat (with_reducible first | exact Below.refl _ _ | exact HBX.out | refine Below.drew ?_ | refine balR ?_ _)))
    clear hK K
    try simp only [List.getElem_toArray, List.getElem_cons_succ, List.getElem_cons_zero]
    try simp only [Act.put, List.setIfInBounds_toArray, List.set_cons_zero, List.set_cons_succ]
    refine wpAnyH_ready (rs := [4]) (by kernel_rfl) (by simp) ?_
    refine AllReadyH.cons rfl (fun K hK => ?_) AllReadyH.nil
    go_simp
    refine hK.out _ _ ?_ (fun hHeld => ?_)
    · (try dsimp only); (exact HSF.out _ (by repeat (with_reducible first | exact Below.refl _ _ | exact HBX.out | refine Below.drew ?_ | refine balR ?_ _)))
    clear hK K
    try simp only [List.getElem_toArray, List.getElem_cons_succ, List.getElem_cons_zero]
    try simp only [Act.put, List.setIfInBounds_toArray, List.set_cons_zero, List.set_cons_succ]
    refine wpAnyH_ready (rs := [6]) (by kernel_rfl) (by simp) ?_
    refine AllReadyH.cons rfl (fun K hK => ?_) AllReadyH.nil
    (go_simp; go_at_call 35; have hq := HR4.out (w9.alloc (.cells #[.int .i64 7, .int .i64 0, .int .i64 2, .int .i64 8, .int .i64 0, .int .i64 2] 87)) (bstep HB46.out (balR HBX.out (.cells #[.int .i64 7, .int .i64 0, .int .i64 2, .int .i64 8, .int .i64 0, .int .i64 2] 87))); have hbc := buEx x rows AC B1 B2 B3 (some ⟨w9.heap.size, 0, none⟩) cC d1 d2 d3 2 (w9.alloc (.cells #[.int .i64 7, .int .i64 0, .int .i64 2, .int .i64 8, .int .i64 0, .int .i64 2] 87)) ((HL9.out.below (balR (Below.refl w9.heap.size w9) (.cells #[.int .i64 7, .int .i64 0, .int .i64 2, .int .i64 8, .int .i64 0, .int .i64 2] 87))).mono (balR (Below.refl w9.heap.size w9) (.cells #[.int .i64 7, .int .i64 0, .int .i64 2, .int .i64 8, .int .i64 0, .int .i64 2] 87)).size) HBR.out hq.2.1 hq.2.2.2.2 (exDs_sl w9); clear hq; with_reducible refine hbc.mono ?_; clear hbc; rintro e wB ⟨g, A, c, cB, rfl, HBU, hb⟩; have HBE := Lib.hid (show Below w6.heap.size w6 wB from bstep (balR HBX.out (.cells #[.int .i64 7, .int .i64 0, .int .i64 2, .int .i64 8, .int .i64 0, .int .i64 2] 87)) hb.out); clear hb; go_wp2_with fail)
    refine hK.out _ _ ?_ (fun hHeld => ?_)
    · (try dsimp only); (exact HSF.out _ HBE.out)
    clear hK K
    try simp only [List.getElem_toArray, List.getElem_cons_succ, List.getElem_cons_zero]
    try simp only [Act.put, List.setIfInBounds_toArray, List.set_cons_zero, List.set_cons_succ]
    refine wpAnyH_takeD (i := 7) (v := ?_) (some 25) rfl rfl (by kernel_rfl) (by kernel_rfl) (by kernel_rfl) (fun _ _ _ h => h) (Or.inl ⟨by rfl, ?_⟩) (by assumption) ?_
    rotate_left
    · intro w hSw; (try dsimp only at hSw); go_simp; (try with_reducible rfl)
    try simp only [Act.put, List.setIfInBounds_toArray, List.set_cons_zero, List.set_cons_succ]
    refine wpAnyH_takeD (i := 8) (v := ?_) (some 33) rfl rfl (by kernel_rfl) (by kernel_rfl) (by kernel_rfl) (fun _ _ _ h => h) (Or.inl ⟨by rfl, ?_⟩) (by assumption) ?_
    rotate_left
    · intro w hSw; (try dsimp only at hSw); go_simp; (try with_reducible rfl)
    try simp only [Act.put, List.setIfInBounds_toArray, List.set_cons_zero, List.set_cons_succ]
    refine wpAnyH_takeD (i := 9) (v := ?_) (some 34) rfl rfl (by kernel_rfl) (by kernel_rfl) (by kernel_rfl) (fun _ _ _ h => h) (Or.inl ⟨by rfl, ?_⟩) (by assumption) ?_
    rotate_left
    · intro w hSw; (try dsimp only at hSw); go_simp; (try with_reducible rfl)
    try simp only [Act.put, List.setIfInBounds_toArray, List.set_cons_zero, List.set_cons_succ]
    refine wpAnyH_takeD (i := 10) (v := ?_) (some 7) rfl rfl (by kernel_rfl) (by kernel_rfl) (by kernel_rfl) (fun _ _ _ h => h) (Or.inl ⟨by rfl, ?_⟩) (by assumption) ?_
    rotate_left
    · intro w hSw; (try dsimp only at hSw); go_simp; (try with_reducible rfl)
    try simp only [Act.put, List.setIfInBounds_toArray, List.set_cons_zero, List.set_cons_succ]
    refine wpAnyH_takeD (i := 11) (v := ?_) (some 8) rfl rfl (by kernel_rfl) (by kernel_rfl) (by kernel_rfl) (fun _ _ _ h => h) (Or.inl ⟨by rfl, ?_⟩) (by assumption) ?_
    rotate_left
    · intro w hSw; (try dsimp only at hSw); go_simp; (try with_reducible rfl)
    try simp only [Act.put, List.setIfInBounds_toArray, List.set_cons_zero, List.set_cons_succ]
    refine wpAnyH_done (by kernel_rfl) ?_ _
    refine NoPanic.normal ?_
    go_upto_region 5 with fail
    have HAL := Lib.hid (show ∀ W, Below wB.heap.size wB W → ((W.cell? ⟨gF, 0, none⟩ = some (.slice AC 4 cC) ∧ W.cell? ⟨gF, 1, none⟩ = some (.slice B1 1 d1) ∧ W.cell? ⟨gF, 2, none⟩ = some (.slice B2 1 d2) ∧ W.cell? ⟨gF, 3, none⟩ = some (.slice B3 1 d3)) ∧ W.cell? ⟨g, 5 + 3, none⟩ = some (.slice A 2 c) ∧ W.cell? ⟨g, 5 + 4, none⟩ = some (.bool true)) ∧ Sl encInt 1 W W.heap.size B1 [4] ∧ Sl encInt 1 W W.heap.size B2 [1] ∧ Sl encInt 1 W W.heap.size B3 [0] ∧ Sl encInt 1 W W.heap.size AS [10, 6, 5] ∧ Sl encInt 1 W W.heap.size AT [2, 5, 3] ∧ Sl encInt 1 W W.heap.size A [2, 3] from fun W hW => by
      have hb := bstep HBE.out hW
      obtain ⟨-, -, q1, q2, q3⟩ := HR4.out W (bstep HB46.out hb)
      obtain ⟨⟨u8, u9⟩, u2⟩ := HBU.out
      have hgl := cell_low u8
      exact ⟨⟨HSF.out W hb, (hW.cell (p := ⟨g, 5 + 3, none⟩) hgl).trans u8, (hW.cell (p := ⟨g, 5 + 4, none⟩) hgl).trans u9⟩, q1, q2, q3, (HS6.out.below hb).mono hb.size, (HT6.out.below hb).mono hb.size, (u2.below hW).mono hW.size⟩)
    have HBV := Lib.hid (Below.refl wB.heap.size wB)
    obtain ⟨⟨z0, z1, z2, z3⟩, z8, z9⟩ := (HAL.out wB (Below.refl _ _)).1
    go_wp2_with first
      | (go_at_call 37; with_reducible refine (eqI1 4 B1 d1 _ (HAL.out _ HBV.out).2.1).mono ?_; rintro e wz ⟨rfl, hb⟩; have HBV := Lib.hid (bstep HBV.out hb.out); clear hb z0 z1 z2 z3 z8 z9; obtain ⟨⟨z0, z1, z2, z3⟩, z8, z9⟩ := (HAL.out _ HBV.out).1)
      | (go_at_call 37; with_reducible refine (eqI1 1 B2 d2 _ (HAL.out _ HBV.out).2.2.1).mono ?_; rintro e wz ⟨rfl, hb⟩; have HBV := Lib.hid (bstep HBV.out hb.out); clear hb z0 z1 z2 z3 z8 z9; obtain ⟨⟨z0, z1, z2, z3⟩, z8, z9⟩ := (HAL.out _ HBV.out).1)
      | (go_at_call 37; with_reducible refine (eqI1 0 B3 d3 _ (HAL.out _ HBV.out).2.2.2.1).mono ?_; rintro e wz ⟨rfl, hb⟩; have HBV := Lib.hid (bstep HBV.out hb.out); clear hb z0 z1 z2 z3 z8 z9; obtain ⟨⟨z0, z1, z2, z3⟩, z8, z9⟩ := (HAL.out _ HBV.out).1)
      | (go_at_call 37; with_reducible refine (eqI3 10 6 5 AS cS _ (HAL.out _ HBV.out).2.2.2.2.1).mono ?_; rintro e wz ⟨rfl, hb⟩; have HBV := Lib.hid (bstep HBV.out hb.out); clear hb z0 z1 z2 z3 z8 z9; obtain ⟨⟨z0, z1, z2, z3⟩, z8, z9⟩ := (HAL.out _ HBV.out).1)
      | (go_at_call 37; with_reducible refine (eqI3 2 5 3 AT cT _ (HAL.out _ HBV.out).2.2.2.2.2.1).mono ?_; rintro e wz ⟨rfl, hb⟩; have HBV := Lib.hid (bstep HBV.out hb.out); clear hb z0 z1 z2 z3 z8 z9; obtain ⟨⟨z0, z1, z2, z3⟩, z8, z9⟩ := (HAL.out _ HBV.out).1)
      | (go_at_call 37; with_reducible refine (eqI2 2 3 A c _ (HAL.out _ HBV.out).2.2.2.2.2.2).mono ?_; rintro e wz ⟨rfl, hb⟩; have HBV := Lib.hid (bstep HBV.out hb.out); clear hb z0 z1 z2 z3 z8 z9; obtain ⟨⟨z0, z1, z2, z3⟩, z8, z9⟩ := (HAL.out _ HBV.out).1)
    go_ret
    exact ⟨rfl, bstep HBW4.out (bstep HB46.out (bstep HBE.out HBV.out))⟩
  · go_simp
    refine hK.out _ _ ?_ (fun hHeld => ?_)
    · (try dsimp only); (exact HSF.out _ (by repeat (with_reducible first | exact Below.refl _ _ | exact HBX.out | refine Below.drew ?_ | refine balR ?_ _)))
    clear hK K
    try simp only [List.getElem_toArray, List.getElem_cons_succ, List.getElem_cons_zero]
    try simp only [Act.put, List.setIfInBounds_toArray, List.set_cons_zero, List.set_cons_succ]
    refine wpAnyH_ready (rs := [0]) (by kernel_rfl) (by simp) ?_
    refine AllReadyH.cons rfl (fun K hK => ?_) AllReadyH.nil
    (go_simp; go_at_call 41; with_reducible refine (ex41_any _).mono ?_; rintro e w9 ⟨x, rfl, hL9, HBY⟩; have HBX := Lib.hid (show Below w6.heap.size w6 w9 from bstep (by repeat (with_reducible first | exact Below.refl _ _ | refine Below.drew ?_ | refine balR ?_ _)) HBY.out); have HL9 := Lib.hid hL9; clear hL9; go_wp2_with fail)
    refine hK.out _ _ ?_ (fun hHeld => ?_)
    · (try dsimp only); (exact HSF.out _ (by repeat (with_reducible first | exact Below.refl _ _ | exact HBX.out | refine Below.drew ?_ | refine balR ?_ _)))
    clear hK K
    try simp only [List.getElem_toArray, List.getElem_cons_succ, List.getElem_cons_zero]
    try simp only [Act.put, List.setIfInBounds_toArray, List.set_cons_zero, List.set_cons_succ]
    refine wpAnyH_ready (rs := [6]) (by kernel_rfl) (by simp) ?_
    refine AllReadyH.cons rfl (fun K hK => ?_) AllReadyH.nil
    (go_simp; go_at_call 35; have hq := HR4.out w9 (bstep HB46.out HBX.out); have hbc := buEx x rows AC B1 B2 B3 (some ⟨w6.heap.size, 0, none⟩) cC d1 d2 d3 2 w9 (HL9.out) HBR.out hq.2.1 hq.2.2.2.2 (((exDs_sl w6).below (show Below (w6.alloc (.cells #[.int .i64 7, .int .i64 0, .int .i64 2, .int .i64 8, .int .i64 0, .int .i64 2] 87)).heap.size (w6.alloc (.cells #[.int .i64 7, .int .i64 0, .int .i64 2, .int .i64 8, .int .i64 0, .int .i64 2] 87)) w9 from (Below.refl _ _).drew.trans HBY.out)).mono HBY.out.size); clear hq; with_reducible refine hbc.mono ?_; clear hbc; rintro e wB ⟨g, A, c, cB, rfl, HBU, hb⟩; have HBE := Lib.hid (show Below w6.heap.size w6 wB from bstep HBX.out hb.out); clear hb; go_wp2_with fail)
    refine hK.out _ _ ?_ (fun hHeld => ?_)
    · (try dsimp only); (exact HSF.out _ HBE.out)
    clear hK K
    try simp only [List.getElem_toArray, List.getElem_cons_succ, List.getElem_cons_zero]
    try simp only [Act.put, List.setIfInBounds_toArray, List.set_cons_zero, List.set_cons_succ]
    refine wpAnyH_takeD (i := 7) (v := ?_) (some 25) rfl rfl (by kernel_rfl) (by kernel_rfl) (by kernel_rfl) (fun _ _ _ h => h) (Or.inl ⟨by rfl, ?_⟩) (by assumption) ?_
    rotate_left
    · intro w hSw; (try dsimp only at hSw); go_simp; (try with_reducible rfl)
    try simp only [Act.put, List.setIfInBounds_toArray, List.set_cons_zero, List.set_cons_succ]
    refine wpAnyH_takeD (i := 8) (v := ?_) (some 33) rfl rfl (by kernel_rfl) (by kernel_rfl) (by kernel_rfl) (fun _ _ _ h => h) (Or.inl ⟨by rfl, ?_⟩) (by assumption) ?_
    rotate_left
    · intro w hSw; (try dsimp only at hSw); go_simp; (try with_reducible rfl)
    try simp only [Act.put, List.setIfInBounds_toArray, List.set_cons_zero, List.set_cons_succ]
    refine wpAnyH_takeD (i := 9) (v := ?_) (some 34) rfl rfl (by kernel_rfl) (by kernel_rfl) (by kernel_rfl) (fun _ _ _ h => h) (Or.inl ⟨by rfl, ?_⟩) (by assumption) ?_
    rotate_left
    · intro w hSw; (try dsimp only at hSw); go_simp; (try with_reducible rfl)
    try simp only [Act.put, List.setIfInBounds_toArray, List.set_cons_zero, List.set_cons_succ]
    refine wpAnyH_takeD (i := 10) (v := ?_) (some 7) rfl rfl (by kernel_rfl) (by kernel_rfl) (by kernel_rfl) (fun _ _ _ h => h) (Or.inl ⟨by rfl, ?_⟩) (by assumption) ?_
    rotate_left
    · intro w hSw; (try dsimp only at hSw); go_simp; (try with_reducible rfl)
    try simp only [Act.put, List.setIfInBounds_toArray, List.set_cons_zero, List.set_cons_succ]
    refine wpAnyH_takeD (i := 11) (v := ?_) (some 8) rfl rfl (by kernel_rfl) (by kernel_rfl) (by kernel_rfl) (fun _ _ _ h => h) (Or.inl ⟨by rfl, ?_⟩) (by assumption) ?_
    rotate_left
    · intro w hSw; (try dsimp only at hSw); go_simp; (try with_reducible rfl)
    try simp only [Act.put, List.setIfInBounds_toArray, List.set_cons_zero, List.set_cons_succ]
    refine wpAnyH_done (by kernel_rfl) ?_ _
    refine NoPanic.normal ?_
    go_upto_region 5 with fail
    have HAL := Lib.hid (show ∀ W, Below wB.heap.size wB W → ((W.cell? ⟨gF, 0, none⟩ = some (.slice AC 4 cC) ∧ W.cell? ⟨gF, 1, none⟩ = some (.slice B1 1 d1) ∧ W.cell? ⟨gF, 2, none⟩ = some (.slice B2 1 d2) ∧ W.cell? ⟨gF, 3, none⟩ = some (.slice B3 1 d3)) ∧ W.cell? ⟨g, 5 + 3, none⟩ = some (.slice A 2 c) ∧ W.cell? ⟨g, 5 + 4, none⟩ = some (.bool true)) ∧ Sl encInt 1 W W.heap.size B1 [4] ∧ Sl encInt 1 W W.heap.size B2 [1] ∧ Sl encInt 1 W W.heap.size B3 [0] ∧ Sl encInt 1 W W.heap.size AS [10, 6, 5] ∧ Sl encInt 1 W W.heap.size AT [2, 5, 3] ∧ Sl encInt 1 W W.heap.size A [2, 3] from fun W hW => by
      have hb := bstep HBE.out hW
      obtain ⟨-, -, q1, q2, q3⟩ := HR4.out W (bstep HB46.out hb)
      obtain ⟨⟨u8, u9⟩, u2⟩ := HBU.out
      have hgl := cell_low u8
      exact ⟨⟨HSF.out W hb, (hW.cell (p := ⟨g, 5 + 3, none⟩) hgl).trans u8, (hW.cell (p := ⟨g, 5 + 4, none⟩) hgl).trans u9⟩, q1, q2, q3, (HS6.out.below hb).mono hb.size, (HT6.out.below hb).mono hb.size, (u2.below hW).mono hW.size⟩)
    have HBV := Lib.hid (Below.refl wB.heap.size wB)
    obtain ⟨⟨z0, z1, z2, z3⟩, z8, z9⟩ := (HAL.out wB (Below.refl _ _)).1
    go_wp2_with first
      | (go_at_call 37; with_reducible refine (eqI1 4 B1 d1 _ (HAL.out _ HBV.out).2.1).mono ?_; rintro e wz ⟨rfl, hb⟩; have HBV := Lib.hid (bstep HBV.out hb.out); clear hb z0 z1 z2 z3 z8 z9; obtain ⟨⟨z0, z1, z2, z3⟩, z8, z9⟩ := (HAL.out _ HBV.out).1)
      | (go_at_call 37; with_reducible refine (eqI1 1 B2 d2 _ (HAL.out _ HBV.out).2.2.1).mono ?_; rintro e wz ⟨rfl, hb⟩; have HBV := Lib.hid (bstep HBV.out hb.out); clear hb z0 z1 z2 z3 z8 z9; obtain ⟨⟨z0, z1, z2, z3⟩, z8, z9⟩ := (HAL.out _ HBV.out).1)
      | (go_at_call 37; with_reducible refine (eqI1 0 B3 d3 _ (HAL.out _ HBV.out).2.2.2.1).mono ?_; rintro e wz ⟨rfl, hb⟩; have HBV := Lib.hid (bstep HBV.out hb.out); clear hb z0 z1 z2 z3 z8 z9; obtain ⟨⟨z0, z1, z2, z3⟩, z8, z9⟩ := (HAL.out _ HBV.out).1)
      | (go_at_call 37; with_reducible refine (eqI3 10 6 5 AS cS _ (HAL.out _ HBV.out).2.2.2.2.1).mono ?_; rintro e wz ⟨rfl, hb⟩; have HBV := Lib.hid (bstep HBV.out hb.out); clear hb z0 z1 z2 z3 z8 z9; obtain ⟨⟨z0, z1, z2, z3⟩, z8, z9⟩ := (HAL.out _ HBV.out).1)
      | (go_at_call 37; with_reducible refine (eqI3 2 5 3 AT cT _ (HAL.out _ HBV.out).2.2.2.2.2.1).mono ?_; rintro e wz ⟨rfl, hb⟩; have HBV := Lib.hid (bstep HBV.out hb.out); clear hb z0 z1 z2 z3 z8 z9; obtain ⟨⟨z0, z1, z2, z3⟩, z8, z9⟩ := (HAL.out _ HBV.out).1)
      | (go_at_call 37; with_reducible refine (eqI2 2 3 A c _ (HAL.out _ HBV.out).2.2.2.2.2.2).mono ?_; rintro e wz ⟨rfl, hb⟩; have HBV := Lib.hid (bstep HBV.out hb.out); clear hb z0 z1 z2 z3 z8 z9; obtain ⟨⟨z0, z1, z2, z3⟩, z8, z9⟩ := (HAL.out _ HBV.out).1)
    go_ret
    exact ⟨rfl, bstep HBW4.out (bstep HB46.out (bstep HBE.out HBV.out))⟩
end Go.Proofs.Ytfejedmpplbmjaa
