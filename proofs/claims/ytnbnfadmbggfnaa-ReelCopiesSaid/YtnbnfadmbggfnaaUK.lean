/- The walk of ReelCopies; conditions: a press in memory, three numbers. Printed by a program. -/
import Derived.Test.YtnbnfadmbggfnaaUJ
import Derived.Test.YtnbnfadmbggfnaaUE
import Derived.Test.YtnbnfadmbggfnaaCF
set_option linter.unusedSimpArgs false
set_option linter.unusedVariables false
namespace Go.Proofs.Ytnbnfadmbggfnaa
open Go.RowKit Go.Fh Go.Rl
theorem eqTrue {f : Nat} {ar : Array Value} {w : World} {α : Type} [DecidableEq α] {l : α} (h : Calls Try.prog f ar w fun e w' => e = .returned (.bool (decide (l = l))) ∧ Below w.heap.size w w') : Calls Try.prog f ar w fun e w' => e = .returned (.bool true) ∧ Hid (Below w.heap.size w w') :=
  h.mono (by rintro e w' ⟨he, hb⟩; exact ⟨by rw [he]; simp, hb⟩)
theorem sl_step {α : Type} {enc : α → List Value} {s : Nat} {w w' : World} {A : Option Addr} {l : List α} (h : Sl enc s w w.heap.size A l) (hb : Below w.heap.size w w') : Sl enc s w' w'.heap.size A l := (h.below hb).mono hb.size
theorem splO_len (p : PrsD) (i : Int) : (splO p i).1.length ≤ 1000000 := by
  unfold splO
  split
  · simp
  · split
    · simp
    · rename_i h _
      have hpo := prs_ok (by simpa using h)
      have : ∀ v : WebD, v ∈ p.webs ∨ v = web0 → (plcs v.reels).length ≤ 1000000 := fun v hv => by
        unfold plcs
        rw [upF_len]
        rcases hv with hv | hv
        · have := (hpo.w v hv).n; omega
        · subst hv; simp [web0]
      dsimp only
      apply this
      by_cases hi : i.toNat < p.webs.length
      · left; simp [hi]
      · right; simp [hi]
theorem thrO_len (p : PrsD) (n : Int) : (thrO p n).length ≤ 1000000 := by
  unfold thrO
  split
  · simp
  · rename_i h
    have hpo := prs_ok (ask0 (by simpa using h)).1
    have := thr_len (fun v hv => (hpo.w v hv).n) n
    have := hpo.n1
    omega
theorem usedO_len (p : PrsD) (n : Int) : (usedO p n).length ≤ 1000000 := by
  unfold usedO
  split
  · simp
  · rename_i h
    have hpo := prs_ok (ask0 (by simpa using h)).1
    have := useK_len (p := p) n (fun v hv => (hpo.w v hv).n) _ (Nat.le_refl _)
    have := hpo.n1
    omega
set_option maxRecDepth 20000 in
set_option maxHeartbeats 16000000 in
theorem prints_any (p : PrsD) (A : Option Addr) (c m : Nat) (ms : List WebM) (w : World) (hT : PrsAt w w.heap.size p A ms) (hm : m = ms.length) (h8 : p.webs.length ≤ 8) (h30 : ∀ v ∈ p.webs, v.reels.length ≤ 30) (i n g : Int) (hn : n ≤ 9223372036854775807) :
    Calls Try.prog 29 #[.agg #[.int .i64 p.cut, .int .i64 p.margin, .slice A m c], .int .i64 i, .int .i64 n, .int .i64 g] w fun e w' => e = .returned (.bool true) ∧ Hid (Below w.heap.size w w') := by
  obtain ⟨w1, gT, HW1, HGT, HB1, HTP, HTC⟩ := mp_box 26 p w A c ms w hT m hm
  obtain ⟨d0, d1, d2⟩ := HTC.out w1 (Below.refl _ _)
  have hml : m = p.webs.length := by rw [hm, hT.len]
  have hm8 : m ≤ 1000000 := by omega
  have H66 := Lib.hid (copied_any p A c m ms w1 (HTP.out _ (Below.refl _ _)) hm h8 h30)
  obtain ⟨E, hE⟩ : ∃ e, e = errP p := ⟨_, rfl⟩
  obtain ⟨x1, x2, hx⟩ : ∃ x1 x2 : Int, (x1, x2) = if errP p ≠ 0 then (0, errP p) else (rchP p, 0) := ⟨_, _, Prod.eta _⟩
  obtain ⟨S1, E1, hS1⟩ : ∃ S E, (S, E) = splO p i := ⟨_, _, Prod.eta _⟩
  obtain ⟨E2, hE2⟩ : ∃ e, e = askE p n 9223372036854775807 := ⟨_, rfl⟩
  obtain ⟨S2, hS2⟩ : ∃ S, S = thrO p n := ⟨_, rfl⟩
  obtain ⟨y1, y2, hy⟩ : ∃ x1 x2 : Int, (x1, x2) = runP p g := ⟨_, _, Prod.eta _⟩
  obtain ⟨U, hU⟩ : ∃ S, S = usedO p n := ⟨_, rfl⟩
  have l1 : S1.length ≤ 1000000 := by have := splO_len p i; rw [← hS1] at this; exact this
  have l2 : S2.length ≤ 1000000 := by rw [hS2]; exact thrO_len p n
  have l3 : U.length ≤ 1000000 := by rw [hU]; exact usedO_len p n
  have HALL := Lib.hid (show (m = ms.length ∧ m = p.webs.length ∧ m ≤ 1000000) ∧ (∀ v ∈ p.webs, v.reels.length ≤ 30) ∧ (E = errP p) ∧ ((x1, x2) = if errP p ≠ 0 then (0, errP p) else (rchP p, 0)) ∧ ((S1, E1) = splO p i) ∧ (E2 = askE p n 9223372036854775807) ∧ (S2 = thrO p n) ∧ ((y1, y2) = runP p g) ∧ (U = usedO p n) ∧ S1.length ≤ 1000000 ∧ S2.length ≤ 1000000 ∧ U.length ≤ 1000000 ∧ n ≤ 9223372036854775807 from ⟨⟨hm, hml, hm8⟩, h30, hE, hx, hS1, hE2, hS2, hy, hU, l1, l2, l3, hn⟩)
  clear hT hm hml hm8 h8 h30 hE hx hS1 hE2 hS2 hy hU l1 l2 l3 hn
  go_enter Try.func29, Try.ntmps29
  go_upto_region 1 with fail
  rw [← HW1.out, ← HGT.out]
  go_wp2_with fail
  go_at_call 66
  with_reducible refine H66.out.mono ?_
  rintro e w2 ⟨AO, cO, AR, cR, mo, mr, rfl, hpp, hb2⟩
  have HPP := Lib.hid hpp.out
  have HB2 := Lib.hid hb2.out
  clear hpp hb2 d0 d1 d2
  go_upto_region 2 with fail
  obtain ⟨⟨hm, hml, hm8⟩, h30, hE, hx, hS1, hE2, hS2, hy, hU, l1, l2, l3, hn⟩ := HALL.out
  have hlo : m = mo.length := by rw [hml, ← HPP.out.1.len]
  have hlr : m = mr.length := by rw [hml, ← HPP.out.2.len]
  obtain ⟨w3, g9, HW3, HG9, HB3, HTP3, HTC3⟩ := mp_box 26 p w2 AO cO mo w2 HPP.out.1 m hlo
  obtain ⟨w4, g10, HW4, HG10, HB4, HTP4, HTC4⟩ := mp_box 131 p w3 AR cR mr w3 (HPP.out.2.step HB3.out) m hlr
  have HB24 := Lib.hid (bstep HB3.out HB4.out)
  have HBW := Lib.hid (show Below w1.heap.size w1 w4 from bstep HB2.out HB24.out)
  have HCN := Lib.hid (show ∀ W, Below w4.heap.size w4 W → (W.cell? ⟨g9, 0, none⟩ = some (.int .i64 p.cut) ∧ W.cell? ⟨g9, 1, none⟩ = some (.int .i64 p.margin) ∧ W.cell? ⟨g9, 2, none⟩ = some (.slice AO m cO)) ∧ (W.cell? ⟨g10, 0, none⟩ = some (.int .i64 p.cut) ∧ W.cell? ⟨g10, 1, none⟩ = some (.int .i64 p.margin) ∧ W.cell? ⟨g10, 2, none⟩ = some (.slice AR m cR)) ∧ W.cell? ⟨gT, 0, none⟩ = some (.int .i64 p.cut) ∧ W.cell? ⟨gT, 1, none⟩ = some (.int .i64 p.margin) ∧ W.cell? ⟨gT, 2, none⟩ = some (.slice A m c) from fun W hb =>
    ⟨HTC3.out W (bstep HB4.out hb), HTC4.out W hb, HTC.out W (bstep HBW.out hb)⟩)
  have HCS := Lib.hid (show ∀ W, Below w4.heap.size w4 W → (W.cell? ⟨g9, 0, none⟩ = some (.int .i64 p.cut) ∧ W.cell? ⟨g9, 1, none⟩ = some (.int .i64 p.margin) ∧ W.cell? ⟨g9, 2, none⟩ = some (.slice AO m cO)) ∧ (W.cell? ⟨g10, 0, none⟩ = some (.int .i64 p.cut) ∧ W.cell? ⟨g10, 1, none⟩ = some (.int .i64 p.margin) ∧ W.cell? ⟨g10, 2, none⟩ = some (.slice AR m cR)) from fun W hb => ⟨(HCN.out W hb).1, (HCN.out W hb).2.1⟩)
  have HPO := Lib.hid (fun W (hb : Below w4.heap.size w4 W) => HTP3.out W (bstep HB4.out hb))
  have HPR := Lib.hid (fun W (hb : Below w4.heap.size w4 W) => HTP4.out W hb)
  have HPA := Lib.hid (fun W (hb : Below w4.heap.size w4 W) => HTP.out W (bstep HBW.out hb))
  have H39 := Lib.hid (fun W (hb : Below w4.heap.size w4 W) => check_any p AO cO m mo W (HPO.out W hb) hlo hm8)
  rw [← hE] at H39
  have H67 := Lib.hid (fun W (hb : Below w4.heap.size w4 W) => rcheck_any p AR cR m mr W (HPR.out W hb) hlr hm8 E hE)
  have H13 := Lib.hid (fun W (hb : Below w4.heap.size w4 W) => reach13_c p AO cO m mo W (HPO.out W hb) hlo hm8 (x1, x2) hx)
  have H68 := Lib.hid (fun W (hb : Below w4.heap.size w4 W) => rreach68_any p AR cR m mr W (HPR.out W hb) hlr hm8 x1 x2 hx)
  have H21 := Lib.hid (fun W (hb : Below w4.heap.size w4 W) => spl21_any p AO cO m mo W (HPO.out W hb) hlo hm8 i S1 E1 hS1)
  have H69 := Lib.hid (fun W (hb : Below w4.heap.size w4 W) => rspl_any p AR cR m mr W (HPR.out W hb) hlr hm8 i S1 E1 hS1)
  have H14 := Lib.hid (show ∀ W, Below w4.heap.size w4 W → Calls Try.prog 14 #[.agg #[.int .i64 p.cut, .int .i64 p.margin, .slice AO m cO], .int .i64 n] W fun e w' => ∃ A' c', e = .returned (.tuple #[.slice A' S2.length c', .int .i64 E2]) ∧ Hid (Sl enc2 2 w' w'.heap.size A' S2) ∧ Hid (Below W.heap.size W w') from fun W hb => by
    refine (thrown14_any p AO cO m mo W (HPO.out W hb) hlo hm8 n E2 hE2 S2 hS2).mono ?_
    rintro e w' ⟨A', c', he, ho, hbb⟩
    exact ⟨A', c', he, Lib.hid (Sl.of_own (fun _ => rfl) ho), hbb⟩)
  have H70 := Lib.hid (fun W (hb : Below w4.heap.size w4 W) => rthrown_any p AR cR m mr W (HPR.out W hb) hlr hm8 n hn E2 hE2 S2 hS2)
  have H15 := Lib.hid (fun W (hb : Below w4.heap.size w4 W) => run15_any p AO cO m mo W (HPO.out W hb) hlo hm8 g y1 y2 hy)
  have H71 := Lib.hid (fun W (hb : Below w4.heap.size w4 W) => rrun_any p AR cR m mr W (HPR.out W hb) hlr hm8 g y1 y2 hy)
  have H22 := Lib.hid (fun W (hb : Below w4.heap.size w4 W) => used22_any p AO cO m mo W (HPO.out W hb) hlo hm8 n E2 hE2 U hU)
  have H72 := Lib.hid (fun W (hb : Below w4.heap.size w4 W) => rused_any p AR cR m mr W (HPR.out W hb) hlr hm8 n hn E2 hE2 U hU)
  have H75 := Lib.hid (fun W (hb : Below w4.heap.size w4 W) => kept75_any p AO A cO c m mo ms W (HPO.out W hb) (HPA.out W hb) hlo hm8 (fun v hv => Nat.le_trans (h30 v hv) (by omega)))
  have H34 := Lib.hid (fun (W : World) (A B : Option Addr) (c d : Nat) (hA : Sl encInt 1 W W.heap.size A S1) (hB : Sl encInt 1 W W.heap.size B S1) => eqTrue (equalInts_any A B c d S1 S1 W (by omega) (by omega) hA hB))
  have H45 := Lib.hid (fun (W : World) (A B : Option Addr) (c d : Nat) (hA : Sl enc2 2 W W.heap.size A S2) (hB : Sl enc2 2 W W.heap.size B S2) => eqTrue (equalSpans_any A B c d S2 S2 W (by omega) (by omega) hA hB))
  have H73 := Lib.hid (fun (W : World) (A B : Option Addr) (c d : Nat) (hA : Sl enc3 3 W W.heap.size A U) (hB : Sl enc3 3 W W.heap.size B U) => eqUse_any A B c d U.length U W rfl l3 hA hB)
  obtain ⟨L1, hL1⟩ : ∃ l, l = S1.length := ⟨_, rfl⟩
  obtain ⟨L2, hL2⟩ : ∃ l, l = S2.length := ⟨_, rfl⟩
  obtain ⟨L3, hL3⟩ : ∃ l, l = U.length := ⟨_, rfl⟩
  simp only [← hL1] at H21 H69 H34
  simp only [← hL2] at H14 H70 H45
  simp only [← hL3] at H22 H72 H73
  clear hm hml hm8 h30 hE hx hS1 hE2 hS2 hy hU l1 l2 l3 hlo hlr hL1 hL2 hL3 hn HALL
  rw [← HW3.out, ← HG9.out, ← HW4.out, show g9 + 1 = g10 from by rw [HG10.out, HW3.out, HG9.out]; simp]
  obtain ⟨⟨a0, a1, a2⟩, ⟨b0, b1, b2⟩, d0, d1, d2⟩ := HCN.out _ (Below.refl _ _)
  go_region_held3 (fun W => (W.cell? ⟨g9, 0, none⟩ = some (.int .i64 p.cut) ∧ W.cell? ⟨g9, 1, none⟩ = some (.int .i64 p.margin) ∧ W.cell? ⟨g9, 2, none⟩ = some (.slice AO m cO)) ∧ (W.cell? ⟨g10, 0, none⟩ = some (.int .i64 p.cut) ∧ W.cell? ⟨g10, 1, none⟩ = some (.int .i64 p.margin) ∧ W.cell? ⟨g10, 2, none⟩ = some (.slice AR m cR)))
    (exact HCS.out _ (by (repeat (with_reducible first | exact Below.refl _ _ | exact HB5.out | exact HB6.out | refine Below.drew ?_))))
    (first
      | (go_at_call 39; with_reducible refine (H39.out _ (by (repeat (with_reducible first | exact Below.refl _ _ | exact HB5.out | exact HB6.out | refine Below.drew ?_)))).mono ?_; rintro e w5 ⟨rfl, hb5⟩; have HB5 := Lib.hid (bstep (show Below w4.heap.size w4 _ from by (repeat (with_reducible first | exact Below.refl _ _ | exact HB6.out | refine Below.drew ?_))) hb5.out); clear hb5)
      | (go_at_call 67; with_reducible refine (H67.out _ (by (repeat (with_reducible first | exact Below.refl _ _ | exact HB5.out | exact HB6.out | refine Below.drew ?_)))).mono ?_; rintro e w6 ⟨rfl, hb6⟩; have HB6 := Lib.hid (bstep (show Below w4.heap.size w4 _ from by (repeat (with_reducible first | exact Below.refl _ _ | exact HB5.out | refine Below.drew ?_))) hb6.out); clear hb6))
  clear a0 a1 a2 b0 b1 b2 d0 d1 d2
  have HBN := Lib.hid HB6.out
  obtain ⟨⟨a0, a1, a2⟩, ⟨b0, b1, b2⟩, d0, d1, d2⟩ := HCN.out _ HBN.out
  go_wp2_with first
      | (go_at_call 13; with_reducible refine (H13.out _ HBN.out).mono ?_; rintro e wn ⟨rfl, hb⟩; have HBN := Lib.hid (bstep HBN.out hb.out); clear a0 a1 a2 b0 b1 b2 d0 d1 d2; obtain ⟨⟨a0, a1, a2⟩, ⟨b0, b1, b2⟩, d0, d1, d2⟩ := HCN.out _ HBN.out; clear hb)
      | (go_at_call 68; with_reducible refine (H68.out _ HBN.out).mono ?_; rintro e wn ⟨rfl, hb⟩; have HBN := Lib.hid (bstep HBN.out hb.out); clear a0 a1 a2 b0 b1 b2 d0 d1 d2; obtain ⟨⟨a0, a1, a2⟩, ⟨b0, b1, b2⟩, d0, d1, d2⟩ := HCN.out _ HBN.out; clear hb)
      | (go_at_call 21; with_reducible refine (H21.out _ HBN.out).mono ?_; rintro e wn ⟨A1, cA1, rfl, hs, hb⟩; have HSA := Lib.hid hs.out; have HBN := Lib.hid (bstep HBN.out hb.out); clear a0 a1 a2 b0 b1 b2 d0 d1 d2; obtain ⟨⟨a0, a1, a2⟩, ⟨b0, b1, b2⟩, d0, d1, d2⟩ := HCN.out _ HBN.out; clear hb hs)
      | (go_at_call 69; with_reducible refine (H69.out _ HBN.out).mono ?_; rintro e wn ⟨A2, cA2, rfl, hs, hb⟩; have HSA := Lib.hid (sl_step HSA.out hb.out); have HSB := Lib.hid hs.out; have HBN := Lib.hid (bstep HBN.out hb.out); clear a0 a1 a2 b0 b1 b2 d0 d1 d2; obtain ⟨⟨a0, a1, a2⟩, ⟨b0, b1, b2⟩, d0, d1, d2⟩ := HCN.out _ HBN.out; clear hb hs)
      | (go_at_call 34; with_reducible refine (H34.out _ _ _ _ _ HSA.out HSB.out).mono ?_; rintro e wn ⟨rfl, hb⟩; have HBN := Lib.hid (bstep HBN.out hb.out); clear a0 a1 a2 b0 b1 b2 d0 d1 d2; obtain ⟨⟨a0, a1, a2⟩, ⟨b0, b1, b2⟩, d0, d1, d2⟩ := HCN.out _ HBN.out; clear hb HSA HSB)
      | (go_at_call 14; with_reducible refine (H14.out _ HBN.out).mono ?_; rintro e wn ⟨A3, cA3, rfl, hs, hb⟩; have HSA := Lib.hid hs.out; have HBN := Lib.hid (bstep HBN.out hb.out); clear a0 a1 a2 b0 b1 b2 d0 d1 d2; obtain ⟨⟨a0, a1, a2⟩, ⟨b0, b1, b2⟩, d0, d1, d2⟩ := HCN.out _ HBN.out; clear hb hs)
      | (go_at_call 70; with_reducible refine (H70.out _ HBN.out).mono ?_; rintro e wn ⟨A4, cA4, rfl, hs, hb⟩; have HSA := Lib.hid (sl_step HSA.out hb.out); have HSB := Lib.hid hs.out; have HBN := Lib.hid (bstep HBN.out hb.out); clear a0 a1 a2 b0 b1 b2 d0 d1 d2; obtain ⟨⟨a0, a1, a2⟩, ⟨b0, b1, b2⟩, d0, d1, d2⟩ := HCN.out _ HBN.out; clear hb hs)
      | (go_at_call 45; with_reducible refine (H45.out _ _ _ _ _ HSA.out HSB.out).mono ?_; rintro e wn ⟨rfl, hb⟩; have HBN := Lib.hid (bstep HBN.out hb.out); clear a0 a1 a2 b0 b1 b2 d0 d1 d2; obtain ⟨⟨a0, a1, a2⟩, ⟨b0, b1, b2⟩, d0, d1, d2⟩ := HCN.out _ HBN.out; clear hb HSA HSB)
      | (go_at_call 15; with_reducible refine (H15.out _ HBN.out).mono ?_; rintro e wn ⟨rfl, hb⟩; have HBN := Lib.hid (bstep HBN.out hb.out); clear a0 a1 a2 b0 b1 b2 d0 d1 d2; obtain ⟨⟨a0, a1, a2⟩, ⟨b0, b1, b2⟩, d0, d1, d2⟩ := HCN.out _ HBN.out; clear hb)
      | (go_at_call 71; with_reducible refine (H71.out _ HBN.out).mono ?_; rintro e wn ⟨rfl, hb⟩; have HBN := Lib.hid (bstep HBN.out hb.out); clear a0 a1 a2 b0 b1 b2 d0 d1 d2; obtain ⟨⟨a0, a1, a2⟩, ⟨b0, b1, b2⟩, d0, d1, d2⟩ := HCN.out _ HBN.out; clear hb)
      | (go_at_call 22; with_reducible refine (H22.out _ HBN.out).mono ?_; rintro e wn ⟨A5, cA5, rfl, hs, hb⟩; have HSA := Lib.hid hs.out; have HBN := Lib.hid (bstep HBN.out hb.out); clear a0 a1 a2 b0 b1 b2 d0 d1 d2; obtain ⟨⟨a0, a1, a2⟩, ⟨b0, b1, b2⟩, d0, d1, d2⟩ := HCN.out _ HBN.out; clear hb hs)
      | (go_at_call 72; with_reducible refine (H72.out _ HBN.out).mono ?_; rintro e wn ⟨A6, cA6, rfl, hs, hb⟩; have HSA := Lib.hid (sl_step HSA.out hb.out); have HSB := Lib.hid hs.out; have HBN := Lib.hid (bstep HBN.out hb.out); clear a0 a1 a2 b0 b1 b2 d0 d1 d2; obtain ⟨⟨a0, a1, a2⟩, ⟨b0, b1, b2⟩, d0, d1, d2⟩ := HCN.out _ HBN.out; clear hb hs)
      | (go_at_call 73; with_reducible refine (H73.out _ _ _ _ _ HSA.out HSB.out).mono ?_; rintro e wn ⟨rfl, hb⟩; have HBN := Lib.hid (bstep HBN.out hb.out); clear a0 a1 a2 b0 b1 b2 d0 d1 d2; obtain ⟨⟨a0, a1, a2⟩, ⟨b0, b1, b2⟩, d0, d1, d2⟩ := HCN.out _ HBN.out; clear hb HSA HSB)
      | (go_at_call 75; with_reducible refine (H75.out _ HBN.out).mono ?_; rintro e wn ⟨rfl, hb⟩; have HBN := Lib.hid (bstep HBN.out hb.out); clear a0 a1 a2 b0 b1 b2 d0 d1 d2; obtain ⟨⟨a0, a1, a2⟩, ⟨b0, b1, b2⟩, d0, d1, d2⟩ := HCN.out _ HBN.out; clear hb)
  go_ret
  exact ⟨rfl, Lib.hid (HB1.out.trans ((bstep HBW.out HBN.out).mono HB1.out.size))⟩
set_option maxRecDepth 20000 in
set_option maxHeartbeats 8000000 in
theorem reelCopies_walk (haw : ∀ w, Calls Try.prog 17 #[] w fun e w' => e = .returned (.bool true) ∧ Below w.heap.size w w') (p : PrsD) (A : Option Addr) (c m : Nat) (ms : List WebM) (w : World) (hT : PrsAt w w.heap.size p A ms) (hm : m = ms.length) (hm9 : m ≤ 9223372036854775807) (i n g : Int) (hn : n ≤ 9223372036854775807) :
    Calls Try.prog 9 #[.agg #[.int .i64 p.cut, .int .i64 p.margin, .slice A m c], .int .i64 i, .int .i64 n, .int .i64 g] w fun e w' => e = .returned (.bool true) ∧ Below w.heap.size w w' := by
  obtain ⟨w1, gT, HW1, HGT, HB1, HTP, HTC⟩ := mp_box 26 p w A c ms w hT m hm
  obtain ⟨d0, d1, d2⟩ := HTC.out w1 (Below.refl _ _)
  have HAW := Lib.hid haw
  have H28 := Lib.hid (small_any p A c m ms w1 (HTP.out _ (Below.refl _ _)) hm hm9)
  have H29 := Lib.hid (fun W (hb : Below w1.heap.size w1 W) (h : p.webs.length ≤ 8 ∧ ∀ v ∈ p.webs, v.reels.length ≤ 30) => prints_any p A c m ms W (HTP.out W hb) hm h.1 h.2 i n g hn)
  clear haw hT hm hm9 hn
  go_enter Try.func9, Try.ntmps9
  go_upto_region 1 with fail
  rw [← HW1.out, ← HGT.out]
  go_wp2_with fail
  go_at_call 28
  with_reducible refine H28.out.mono ?_
  rintro e w2 ⟨b, rfl, HS, HB2⟩
  clear d0 d1 d2
  obtain ⟨d0, d1, d2⟩ := HTC.out w2 HB2.out
  cases b
  · go_wp2_with (go_at_call 17; with_reducible refine (HAW.out _).mono ?_; rintro e w3 ⟨rfl, hb3⟩)
    go_ret
    exact ⟨rfl, HB1.out.trans ((bstep HB2.out hb3).mono HB1.out.size)⟩
  · have H29' := Lib.hid (H29.out w2 HB2.out (HS.out (by trivial)))
    go_wp2_with first
      | (go_at_call 29; with_reducible refine H29'.out.mono ?_; rintro e w3 ⟨rfl, HB3⟩)
      | (go_at_call 17; with_reducible refine (HAW.out _).mono ?_; rintro e w4 ⟨rfl, hb4⟩)
    go_ret
    exact ⟨rfl, HB1.out.trans ((bstep (bstep HB2.out HB3.out) hb4).mono HB1.out.size)⟩
end Go.Proofs.Ytnbnfadmbggfnaa
