/- Contract of Verify at a right store; conditions: a right store and a plan of its length in memory. Printed by a program. -/
import Derived.Test.YtnbnfadmbggfnaaPH
set_option linter.unusedSimpArgs false
set_option linter.unusedVariables false
namespace Go.Rl
open Go.Fh Go.RowKit
/-- Verify at work -/
structure VerM (w : Go.World) (gG gX gD : Nat) (sD sX : Go.Value) (m : Nat) (G : Nat → Int) (u y : Int) (W : Go.World) : Prop where
  low : Below w.heap.size w W
  lo : w.heap.size ≤ gG ∧ w.heap.size ≤ gX
  got : RowF W gG G m
  kX : Blk W gX 148 #[sX, .int .i64 u, .int .i64 y]
  kD : Blk W gD 69 #[sD]
section
variable {w W X : Go.World} {gG gX gD : Nat} {sD sX : Go.Value} {m : Nat} {G : Nat → Int} {u y : Int}
theorem VerM.below (h : VerM w gG gX gD sD sX m G u y W) (hb : Below W.heap.size W X) : VerM w gG gX gD sD sX m G u y X :=
  ⟨bstep h.low hb, h.lo, h.got.below hb, h.kX.below hb h.kX.lt, h.kD.below hb h.kD.lt⟩
theorem VerM.setG (h : VerM w gG gX gD sD sX m G u y W) (i : Nat) (x : Int) : VerM w gG gX gD sD sX m (fun j => if j = i then x else G j) u y (W.setCell ⟨gG, i, none⟩ (.int .i64 x)) :=
  ⟨h.low.setCell (by exact h.lo.1) _, h.lo, h.got.set_ i x, h.kX.far (p := ⟨gG, i, none⟩) (Blk.ne_ (t' := 3) h.kX h.got (by decide)) _, h.kD.far (p := ⟨gG, i, none⟩) (Blk.ne_ (t' := 3) h.kD h.got (by decide)) _⟩
theorem VerM.setU (h : VerM w gG gX gD sD sX m G u y W) (x : Int) : VerM w gG gX gD sD sX m G x y (W.setCell ⟨gX, 1, none⟩ (.int .i64 x)) :=
  ⟨h.low.setCell (by exact h.lo.2) _, h.lo, h.got.far (p := ⟨gX, 1, none⟩) (Blk.ne_ (t := 3) h.got h.kX (by decide)) _, by simpa using h.kX.set_ 1 (.int .i64 x), h.kD.far (p := ⟨gX, 1, none⟩) (Blk.ne_ h.kD h.kX (by decide)) _⟩
theorem VerM.setY (h : VerM w gG gX gD sD sX m G u y W) (x : Int) : VerM w gG gX gD sD sX m G u x (W.setCell ⟨gX, 2, none⟩ (.int .i64 x)) :=
  ⟨h.low.setCell (by exact h.lo.2) _, h.lo, h.got.far (p := ⟨gX, 2, none⟩) (Blk.ne_ (t := 3) h.got h.kX (by decide)) _, by simpa using h.kX.set_ 2 (.int .i64 x), h.kD.far (p := ⟨gX, 2, none⟩) (Blk.ne_ h.kD h.kX (by decide)) _⟩
end
/-- what the first reels give a stand -/
def gotK (st : List ReelD) (l : List Int) (k s : Nat) : Int := sumN (fun i => if nd l i = (s : Int) then giv (st.getD i rl0) else 0) k
def useK6 (l : List Int) (k : Nat) : Int := sumN (fun i => if 0 ≤ nd l i then 1 else 0) k
/-- what Verify says of a plan of the store's length -/
def verP (st : List ReelD) (ns : List (Int × Int)) (l : List Int) : Int × Int × Int :=
  if !((List.range l.length).all fun i => okP st ns i (nd l i)) || !fitP st ns l then (0, 0, 70) else
  if (match bestPl st ns with | none => false | some z => lessP z (plOf st ns l)) = true then (0, 0, 7) else (usedL l, beyL st ns l, 0)
theorem verP_bad {st : List ReelD} {ns : List (Int × Int)} {l : List Int} {i : Nat} (hi : i < l.length) (h : okP st ns i (nd l i) = false) : verP st ns l = (0, 0, 70) := by
  have : ((List.range l.length).all fun i => okP st ns i (nd l i)) = false := List.all_eq_false.2 ⟨i, List.mem_range.2 hi, by rw [h]; simp⟩
  unfold verP
  rw [this]
  simp
theorem verP_fit {st : List ReelD} {ns : List (Int × Int)} {l : List Int} (h : fitP st ns l = false) : verP st ns l = (0, 0, 70) := by
  unfold verP
  rw [h]
  simp
theorem verP_ok {st : List ReelD} {ns : List (Int × Int)} {l : List Int} (h0 : ∀ i, i < l.length → okP st ns i (nd l i) = true) (h : fitP st ns l = true) : verP st ns l = if (match bestPl st ns with | none => false | some z => lessP z (plOf st ns l)) = true then (0, 0, 7) else (usedL l, beyL st ns l, 0) := by
  have : ((List.range l.length).all fun i => okP st ns i (nd l i)) = true := List.all_eq_true.2 fun i hi => h0 i (List.mem_range.1 hi)
  unfold verP
  rw [this, h]
  simp
end Go.Rl
namespace Go.Proofs.Ytnbnfadmbggfnaa
open Go.RowKit Go.Fh Go.Rl
theorem v78_cl (v : Int) (g m : Nat) (An : Option Addr) (cn : Nat) (W : World) (hm : m ≤ 1000) (hg : Blk W g 69 #[.slice An m cn]) (hv : inB v (-1) ((m : Int) - 1) = true) :
    Calls Try.prog 78 #[.int .i64 v, .pointer (some ⟨g, 0, none⟩)] W fun e w' => e = .returned (.bool false) ∧ W = w' := by
  have d0 := hg.cell 0
  simp at d0
  have H48 := Lib.hid (show Calls Try.prog 48 #[.int .i64 v, .int .i64 (-1), .int .i64 ((m : Int) - 1)] W fun e w' => e = .returned (.bool true) ∧ W = w' from by
    have := within_any v (-1) ((m : Int) - 1) W
    rw [hv] at this
    exact this)
  have ws : IntKind.i64.wrap ((m : Int) - 1) = (m : Int) - 1 := by rw [IntKind.wrap_i64]; omega
  have ws2 : wrap64 ((m : Int) - 1) = (m : Int) - 1 := by unfold wrap64; omega
  clear hg hv
  go_enter Try.func78, Try.ntmps78
  go_wp2_with (go_at_call 48; with_reducible refine H48.out.mono ?_; rintro e w2 ⟨rfl, rfl⟩)
  go_ret
  exact ⟨rfl, rfl⟩
set_option maxRecDepth 20000 in
set_option maxHeartbeats 2000000 in
theorem v78_idx (A : Option Addr) (c n : Nat) (l : List Int) (g m : Nat) (An : Option Addr) (cn : Nat) (w : World) (hn : l.length = n) (hl : n ≤ 1000000) (hm : m ≤ 1000) (hA : Sl encInt 1 w w.heap.size A l) (hg : Blk w g 69 #[.slice An m cn]) (hv : ∀ x ∈ l, inB x (-1) ((m : Int) - 1) = true) :
    Calls Try.prog 99 #[.slice A n c, .func (.func 78) #[] #[.pointer (some ⟨g, 0, none⟩)]] w fun e w' => e = .returned (.int .i64 (-1)) ∧ w = w' := by
  subst hn
  have HV := Lib.hid hv
  have HG := Lib.hid hg
  clear hv hg
  go_enter Try.func99, Try.ntmps99
  go_wp2_with fail
  go_loopw [8] (fun i wr => ∃ k : Nat, k ≤ l.length ∧ i = .int .i64 k ∧ w = wr) (fun i _ => l.length - (intOf i).toNat)
  case atStart => exact ⟨0, Nat.zero_le _, rfl, rfl⟩
  case round =>
    obtain ⟨k, hk, rfl, rfl⟩ := hrel
    by_cases hlt : k < l.length
    · obtain ⟨b, off, rfl, hb, c0⟩ := hA.at1 hlt
      have HC := Lib.hid (v78_cl l[k] g m An cn w hm HG.out (HV.out _ (List.getElem_mem hlt)))
      go_wp2_with (go_at_call 78; with_reducible refine HC.out.mono ?_; rintro e w' ⟨rfl, rfl⟩)
      go_roundw
      case rel => exact ⟨k + 1, by omega, by go_num, by first | rfl | trivial⟩
      case measure => simp [intOf]; omega
    · go_wp2_with fail
      go_ret
      exact ⟨rfl, rfl⟩
theorem v78_any (A : Option Addr) (c n : Nat) (l : List Int) (g m : Nat) (An : Option Addr) (cn : Nat) (w : World) (hn : l.length = n) (hl : n ≤ 1000000) (hm : m ≤ 1000) (hA : Sl encInt 1 w w.heap.size A l) (hg : Blk w g 69 #[.slice An m cn]) (hv : ∀ x ∈ l, inB x (-1) ((m : Int) - 1) = true) :
    Calls Try.prog 56 #[.slice A n c, .func (.func 78) #[] #[.pointer (some ⟨g, 0, none⟩)]] w fun e w' => e = .returned (.bool false) ∧ w = w' := by
  have H := Lib.hid (v78_idx A c n l g m An cn w hn hl hm hA hg hv)
  clear hg hA hv hn
  go_enter Try.func56, Try.ntmps56
  go_wp2_with (go_at_call 99; with_reducible refine H.out.mono ?_; rintro e w' ⟨rfl, rfl⟩)
  go_ret
  exact ⟨rfl, rfl⟩
set_option maxRecDepth 20000 in
set_option maxHeartbeats 8000000 in
theorem verify_any (st : List ReelD) (ns : List (Int × Int)) (h : StoOk st ns) (A An Al : Option Addr) (c cn cl N m : Nat) (l : List Int) (w : World) (hN : st.length = N) (hm : ns.length = m) (hl : l.length = N) (hA : Sl encReel 4 w w.heap.size A st) (hB : Sl enc2 2 w w.heap.size An ns) (hL : Sl encInt 1 w w.heap.size Al l) (hv : ∀ x ∈ l, -1 ≤ x ∧ x < m) (r1 r2 r3 : Int) (hr : (r1, r2, r3) = verP st ns l) :
    Calls Try.prog 33 #[.slice A N c, .slice An m cn, .slice Al N cl] w fun e w' => e = .returned (.tuple #[.int .i64 r1, .int .i64 r2, .int .i64 r3]) ∧ Hid (Below w.heap.size w w') := by
  have hm3 : m ≤ 3 := by rw [← hm]; exact h.m2
  have hm1 : 1 ≤ m := by rw [← hm]; exact h.m1
  have hN10 : N ≤ 10 := by rw [← hN]; exact h.n
  have hmk := fun W => run_make_row' (P := Try.prog) 47 3 (.int .i64 0) 8 Try.underlying47 infoInt rfl .i64 .i64 m (by omega) (by omega) W
  obtain ⟨gD, hgD⟩ : ∃ g, g = w.heap.size := ⟨_, rfl⟩
  obtain ⟨w1, hw1⟩ : ∃ W, W = w.alloc (.cells #[.slice An m cn] 69) := ⟨_, rfl⟩
  have hb1 : Below w.heap.size w w1 := by rw [hw1]; exact balR (Below.refl _ _) _
  have kD : Blk w1 gD 69 #[.slice An m cn] := by rw [hw1, hgD]; exact Blk.new _ _ _
  have H76 := Lib.hid (chk76_ok st ns h A An c cn N m w1 hN hm ((hA.below hb1).mono hb1.size) ((hB.below hb1).mono hb1.size))
  have H77 := Lib.hid (fun W (hw : Below w.heap.size w W) => least_any st ns h A An c cn N m W hN hm ((hA.below hw).mono hw.size) ((hB.below hw).mono hw.size))
  have H56 := Lib.hid (fun W (hw : Below w1.heap.size w1 W) => v78_any Al cl N l gD m An cn W hl (by omega) (by omega) ((hL.below (bstep hb1 hw)).mono (bstep hb1 hw).size) (kD.below hw kD.lt) (fun x hx => inB_iff.2 (by have := hv x hx; omega)))
  have HLB := Lib.hid (show ∀ s, s < m → -300000000 ≤ leftF st ns l s ∧ leftF st ns l s ≤ 1000000000 from fun s hs => left_bd h (by omega) (by omega))
  have HNB := Lib.hid h.nb
  have HST := Lib.hid (erW_right h.er)
  have HA := Lib.hid hA
  have HBB := Lib.hid hB
  have HLL := Lib.hid hL
  have HV := Lib.hid hv
  have HNN := Lib.hid hN
  have HMM := Lib.hid hm
  have HLN := Lib.hid hl
  have HR := Lib.hid hr
  have HB1 := Lib.hid hb1
  have HW1 := Lib.hid hw1
  have HGD := Lib.hid hgD
  have HKD := Lib.hid kD
  have dd := kD.cell 0
  simp at dd
  have tl : ((N : Int) != (N : Int)) = false := by simp
  clear hb1 hw1 hgD kD h hN hm hl hA hB hL hv hr
  go_enter Try.func33, Try.ntmps33
  go_upto_region 1 with fail
  rw [← HW1.out, ← HGD.out]
  go_upto_region 6 with first
    | (go_at_call 76; with_reducible refine H76.out.mono ?_; rintro e w2 ⟨rfl, HB2⟩; have dd := (HKD.out.below HB2.out HKD.out.lt).cell 0; simp at dd)
    | (go_at_call 56; with_reducible refine (H56.out _ HB2.out).mono ?_; rintro e w3 ⟨rfl, rfl⟩)
  go_upto_region 7 with fail
  obtain ⟨gX, hgX⟩ : ∃ g, g = w2.heap.size := ⟨_, rfl⟩
  obtain ⟨w4, hw4⟩ : ∃ W, W = w2.alloc (.cells #[.slice Al N cl, .int .i64 0, .int .i64 0] 148) := ⟨_, rfl⟩
  rw [← hw4, ← hgX]
  have hb4 : Below w1.heap.size w1 w4 := by rw [hw4]; exact balR HB2.out _
  have kX4 : Blk w4 gX 148 #[.slice Al N cl, .int .i64 0, .int .i64 0] := by rw [hw4, hgX]; exact Blk.new _ _ _
  clear dd
  have dd := (HKD.out.below hb4 HKD.out.lt).cell 0
  simp at dd
  have HGX := Lib.hid (show w.heap.size ≤ gX from by rw [hgX]; exact Nat.le_trans HB1.out.size HB2.out.size)
  clear hgX hw4
  go_upto_region 8 with fail
  obtain ⟨gG, hgG⟩ : ∃ g, g = w4.heap.size := ⟨_, rfl⟩
  obtain ⟨w5, hw5⟩ : ∃ W, W = w4.alloc (.cells (madeCells #[.int .i64 0] m) 3) := ⟨_, rfl⟩
  rw [← hw5, ← hgG]
  have hb5 : Below w4.heap.size w4 w5 := by rw [hw5]; exact balR (Below.refl _ _) _
  have HV5 := Lib.hid (show VerM w gG gX gD (.slice An m cn) (.slice Al N cl) m (gotK st l 0) (useK6 l 0) 0 w5 from by
    refine ⟨bstep HB1.out (bstep hb4 hb5), ⟨by rw [hgG]; exact Nat.le_trans HB1.out.size hb4.size, HGX.out⟩, ?_, kX4.below hb5 kX4.lt, HKD.out.below (bstep hb4 hb5) HKD.out.lt⟩
    have hk : Blk w5 gG 3 (madeCells #[Value.int .i64 0] m) := by rw [hw5, hgG]; exact Blk.new _ _ _
    have hk2 : RowF w5 gG (fun _ => 0) m := rowF_repl (u := 0) (by
      have e : madeCells #[Value.int .i64 0] m = (List.replicate m (Value.int .i64 0)).toArray := by rw [← toList_madeCells_one]
      rw [← e]; exact hk)
    exact hk2.congr (fun i _ => by simp [gotK, sumN]))
  clear kX4 hgG hw5 hb4 hb5 hmk dd H76 H56
  go_wp2_with fail
  go_loopw [41] (fun q wr => ∃ k : Nat, k ≤ N ∧ q = .int .i64 k ∧ Hid (∀ i, i < k → okP st ns i (nd l i) = true) ∧ Hid (VerM w gG gX gD (.slice An m cn) (.slice Al N cl) m (gotK st l k) (useK6 l k) 0 wr)) (fun q _ => N - (intOf q).toNat)
  case atStart => exact ⟨0, Nat.zero_le _, rfl, Lib.hid (fun i h => by omega), HV5⟩
  case round =>
    clear HV5
    obtain ⟨k, hk, rfl, HO, HV0⟩ := hrel
    by_cases hlt : k < N
    · have hkl : k < l.length := by have := HLN.out; omega
      obtain ⟨bl, ol, hAl, hbl, d0⟩ := (HLL.out.below HV0.out.low).at1 hkl
      have hvk := HV.out _ (List.getElem_mem hkl)
      obtain ⟨v, hvv⟩ : ∃ v, v = l[k] := ⟨_, rfl⟩
      rw [← hvv] at d0 hvk
      have hnd : nd l k = v := by rw [nd_get hkl, hvv]
      have HND := Lib.hid hnd
      have i0 : (0 : Int) ≤ (k : Int) := by omega
      have i1 : (k : Int) < (N : Int) := by omega
      clear hnd hvv
      by_cases hneg : v < 0
      · have hgs : gotK st l (k + 1) = gotK st l k := by funext s; unfold gotK; rw [sumN, HND.out, if_neg (by omega)]; omega
        have hus : useK6 l (k + 1) = useK6 l k := by unfold useK6; rw [sumN, HND.out, if_neg (by omega)]; omega
        have HGS := Lib.hid hgs
        have HUS := Lib.hid hus
        have hok : okP st ns k v = true := by unfold okP; rw [show decide (v < 0) = true from decide_eq_true hneg]; rfl
        have HOK := Lib.hid hok
        subst hAl
        clear hgs hus hok
        go_wp2_with fail
        go_roundw
        case rel => exact ⟨k + 1, by omega, by go_num, Lib.hid (fun i hi => by
            by_cases e : i = k
            · rw [e, HND.out]; exact HOK.out
            · exact HO.out i (by omega)), Lib.hid (by rw [HGS.out, HUS.out]; exact HV0.out)⟩
        case measure => simp [intOf]; omega
      · obtain ⟨j, hj⟩ : ∃ j : Nat, v = (j : Int) := ⟨v.toNat, by omega⟩
        subst hj
        have hjm : j < m := by omega
        have hjn : j < ns.length := by have := HMM.out; omega
        have hiS : k < st.length := by have := HNN.out; omega
        obtain ⟨bd, od, hAn, hbd, p0, p1⟩ := Sl.at2 HBB.out hjn
        obtain ⟨ba, oa, hAA, hba, e0, e1, e2, e3⟩ := reel_at HA.out hiS
        obtain ⟨rd, hrd⟩ : ∃ r, r = st[k] := ⟨_, rfl⟩
        obtain ⟨nw, hnw⟩ : ∃ r, r = ns[j].1 := ⟨_, rfl⟩
        rw [← hrd] at e0 e1 e2 e3
        rw [← hnw] at p0
        have hgd : st.getD k rl0 = rd := by rw [hrd]; simp [List.getD_eq_getElem?_getD, hiS]
        have hgn : (ns.getD j (0, 0)).1 = nw := by rw [hnw]; simp [List.getD_eq_getElem?_getD, hjn]
        have hro : ReelOk rd := by rw [hrd]; exact HST.out _ (List.getElem_mem hiS)
        have HRD := Lib.hid (show ∀ X, Below w.heap.size w X → X.cell? ⟨ba, oa + k * 4, none⟩ = some (.int .i64 rd.id) ∧ X.cell? ⟨ba, oa + k * 4 + 1, none⟩ = some (.int .i64 rd.width) ∧ X.cell? ⟨ba, oa + k * 4 + 2, none⟩ = some (.int .i64 rd.len) ∧ X.cell? ⟨ba, oa + k * 4 + 3, none⟩ = some (.int .i64 rd.core) from fun X hb => ⟨(hb.cell hba).trans e0, (hb.cell hba).trans e1, (hb.cell hba).trans e2, (hb.cell hba).trans e3⟩)
        have H51 := Lib.hid (fun W => gives_any rd W hro)
        obtain ⟨gvv, hgv⟩ : ∃ q, q = giv rd := ⟨_, rfl⟩
        rw [← hgv] at H51
        have hgb : 0 ≤ gvv ∧ gvv ≤ 20000000 := by have a := hro.c0; have b := hro.c1; have d := hro.l1; rw [hgv]; unfold giv; omega
        have hgvs : giv (st.getD k rl0) = gvv := by rw [hgd, hgv]
        have hok : okP st ns k (j : Int) = decide (rd.width = nw) := by
          unfold okP
          rw [hgd, Int.toNat_natCast, hgn, show decide ((j : Int) < 0) = false from decide_eq_false (by omega), Bool.false_or]
        obtain ⟨c0, c1, c2, c3⟩ := HRD.out _ HV0.out.low
        have cd := (HV0.out.low.cell hbd).trans p0
        have dd := HV0.out.kD.cell 0
        simp at dd
        have hj0 : (0 : Int) ≤ (j : Int) := by omega
        have hj1 : (j : Int) < (m : Int) := by omega
        subst hAl hAn hAA
        clear p0 p1 e0 e1 e2 e3 hrd hnw hgd hgn hro hgv
        by_cases hwq : rd.width = nw
        · have wb : (rd.width != nw) = false := by simp [hwq]
          have HOK := Lib.hid (hok.trans (decide_eq_true hwq))
          obtain ⟨gj, hgj⟩ : ∃ q, q = gotK st l k j := ⟨_, rfl⟩
          obtain ⟨uk, huk⟩ : ∃ q, q = useK6 l k := ⟨_, rfl⟩
          have hgjb : 0 ≤ gj ∧ gj ≤ 200000000 := by
            have h1 := sumN_bd (f := fun i => if nd l i = (j : Int) then giv (st.getD i rl0) else 0) (n := k) (B := 20000000) (fun i _ => by
              split
              · by_cases hi : i < st.length
                · have e : st.getD i rl0 = st[i] := by simp [List.getD_eq_getElem?_getD, hi]
                  have := HST.out _ (List.getElem_mem hi)
                  have a := this.c0
                  have b := this.c1
                  have d := this.l1
                  rw [e]; unfold giv; omega
                · have e : st.getD i rl0 = rl0 := by simp [List.getD_eq_getElem?_getD, List.getElem?_eq_none (Nat.le_of_not_lt hi)]
                  rw [e]; unfold giv rl0; simp
              · omega)
            rw [hgj]; unfold gotK
            omega
          have hukb : 0 ≤ uk ∧ uk ≤ 10 := by
            have h1 := sumN_bd (f := fun i => if 0 ≤ nd l i then (1 : Int) else 0) (n := k) (B := 1) (fun i _ => by split <;> omega)
            rw [huk]; unfold useK6
            omega
          have HGJ := Lib.hid hgj.symm
          have HG1 := Lib.hid (show (fun q => if q = j then gj + gvv else gotK st l k q) = gotK st l (k + 1) from by
            funext q
            unfold gotK
            rw [sumN, HND.out]
            by_cases e : q = j
            · subst e; rw [if_pos rfl, if_pos rfl, hgj, hgvs]; rfl
            · rw [if_neg e, if_neg (by omega)]; omega)
          have HU1 := Lib.hid (show uk + 1 = useK6 l (k + 1) from by rw [huk]; unfold useK6; rw [sumN, HND.out, if_pos (by omega)])
          have ws1 : IntKind.i64.wrap (gj + gvv) = gj + gvv := by rw [IntKind.wrap_i64]; omega
          have ws2 : wrap64 (uk + 1) = uk + 1 := by unfold wrap64; omega
          have ws3 : IntKind.i64.wrap (uk + 1) = uk + 1 := by rw [IntKind.wrap_i64]; omega
          rw [← huk] at HV0
          clear hgj huk hgjb hukb hgvs hgb hwq hok
          go_wp2_with fail
          go_quiet (fail)
          go_upto_region 14 with fail
          obtain ⟨wq, hwq⟩ : ∃ W', W' = wr.drewN nq := ⟨_, rfl⟩
          have HV1 := Lib.hid (HV0.out.below (below_drewN (Below.refl wr.heap.size wr) nq))
          rw [← hwq] at HV1 ⊢
          clear hwq c0 c1 c2 c3 cd dd d0
          have dl := HV1.out.got.cell hjm
          rw [HGJ.out] at dl
          refine wp_region_noPanic ?_
          refine wp_region_T (S := (fun X => X.cell? ⟨gG, j, none⟩ = some (.int .i64 gj) ∧ X.cell? ⟨ba, oa + k * 4, none⟩ = some (.int .i64 rd.id) ∧ X.cell? ⟨ba, oa + k * 4 + 1, none⟩ = some (.int .i64 rd.width) ∧ X.cell? ⟨ba, oa + k * 4 + 2, none⟩ = some (.int .i64 rd.len) ∧ X.cell? ⟨ba, oa + k * 4 + 3, none⟩ = some (.int .i64 rd.core))) (T := (fun _ => True)) 11 (by kernel_rfl) ?_ (fun hHeld hHeldT => ?_)
          · (try dsimp only); (exact ⟨⟨dl, HRD.out _ (HV1.out.low).drew⟩, trivial⟩)
          obtain ⟨x0, hx0⟩ : ∃ W, W = wq.drew := ⟨_, rfl⟩
          have HVx := Lib.hid (HV1.out.below ((Below.refl wq.heap.size wq).drew))
          rw [← hx0] at hHeld HVx ⊢
          clear hx0 dl
          refine wpAnyT_takeW (i := 0) (v := ?_) (some 59) rfl rfl (by kernel_rfl) (by kernel_rfl) (by kernel_rfl) (by kernel_rfl) (fun _ _ _ h => h) (Or.inl ⟨by rfl, ?_⟩) (by assumption) (by assumption) ?_
          rotate_left
          · intro w hSw; (try dsimp only at hSw); go_simp; (try with_reducible rfl)
          try simp only [Act.put, List.setIfInBounds_toArray, List.set_cons_zero, List.set_cons_succ]
          refine wpAnyT_takeW (i := 1) (v := ?_) (some 60) rfl rfl (by kernel_rfl) (by kernel_rfl) (by kernel_rfl) (by kernel_rfl) (fun _ _ _ h => h) (Or.inl ⟨by rfl, ?_⟩) (by assumption) (by assumption) ?_
          rotate_left
          · intro w hSw; (try dsimp only at hSw); go_simp; (try with_reducible rfl)
          try simp only [Act.put, List.setIfInBounds_toArray, List.set_cons_zero, List.set_cons_succ]
          refine wpAnyT_takeW (i := 2) (v := ?_) (some 61) rfl rfl (by kernel_rfl) (by kernel_rfl) (by kernel_rfl) (by kernel_rfl) (fun _ _ _ h => h) (Or.inl ⟨by rfl, ?_⟩) (by assumption) (by assumption) ?_
          rotate_left
          · intro w hSw; (try dsimp only at hSw); go_simp; (try with_reducible rfl)
          try simp only [Act.put, List.setIfInBounds_toArray, List.set_cons_zero, List.set_cons_succ]
          refine wpAnyT_takeD (i := 3) (v := ?_) (some 62) rfl rfl (by kernel_rfl) (by kernel_rfl) (by kernel_rfl) (by kernel_rfl) (fun _ _ _ h => h) (Or.inl ⟨by rfl, ?_⟩) (by assumption) (by assumption) ?_
          rotate_left
          · intro w hSw; (try dsimp only at hSw); go_simp; (try with_reducible rfl)
          try simp only [Act.put, List.setIfInBounds_toArray, List.set_cons_zero, List.set_cons_succ]
          refine wpAnyT_takeW (i := 4) (v := ?_) (some 63) rfl rfl (by kernel_rfl) (by kernel_rfl) (by kernel_rfl) (by kernel_rfl) (fun _ _ _ h => h) (Or.inl ⟨by rfl, ?_⟩) (by assumption) (by assumption) ?_
          rotate_left
          · intro w hSw; (try dsimp only at hSw); go_simp; (try with_reducible rfl)
          try simp only [Act.put, List.setIfInBounds_toArray, List.set_cons_zero, List.set_cons_succ]
          refine wpAnyT_takeW (i := 5) (v := ?_) (some 64) rfl rfl (by kernel_rfl) (by kernel_rfl) (by kernel_rfl) (by kernel_rfl) (fun _ _ _ h => h) (Or.inl ⟨by rfl, ?_⟩) (by assumption) (by assumption) ?_
          rotate_left
          · intro w hSw; (try dsimp only at hSw); go_simp; (try with_reducible rfl)
          try simp only [Act.put, List.setIfInBounds_toArray, List.set_cons_zero, List.set_cons_succ]
          refine wpAnyT_takeW (i := 6) (v := ?_) (some 65) rfl rfl (by kernel_rfl) (by kernel_rfl) (by kernel_rfl) (by kernel_rfl) (fun _ _ _ h => h) (Or.inl ⟨by rfl, ?_⟩) (by assumption) (by assumption) ?_
          rotate_left
          · intro w hSw; (try dsimp only at hSw); go_simp; (try with_reducible rfl)
          try simp only [Act.put, List.setIfInBounds_toArray, List.set_cons_zero, List.set_cons_succ]
          refine wpAnyT_takeD (i := 7) (v := ?_) (some 66) rfl rfl (by kernel_rfl) (by kernel_rfl) (by kernel_rfl) (by kernel_rfl) (fun _ _ _ h => h) (Or.inl ⟨by rfl, ?_⟩) (by assumption) (by assumption) ?_
          rotate_left
          · intro w hSw; (try dsimp only at hSw); go_simp; (try with_reducible rfl)
          try simp only [Act.put, List.setIfInBounds_toArray, List.set_cons_zero, List.set_cons_succ]
          refine wpAnyT_ready (rs := [8]) (by kernel_rfl) (by simp) ?_
          refine AllReadyT.cons rfl (fun K hK => ?_) AllReadyT.nil
          (go_simp; go_at_call 51; with_reducible refine (H51.out _).mono ?_; rintro e w8 ⟨rfl, hb8⟩; have HV8 := Lib.hid (HVx.out.below hb8.out); have dl := HV8.out.got.cell hjm; rw [HGJ.out] at dl; have fl := HV8.out.got.frozen j; clear hb8; go_wp2_with fail)
          refine hK.out _ _ ?_ (fun hHeld hHeldT => ?_)
          · (try dsimp only); (exact ⟨⟨dl, HRD.out _ HV8.out.low⟩, trivial⟩)
          clear hK K
          try simp only [List.getElem_toArray, List.getElem_cons_succ, List.getElem_cons_zero]
          try simp only [Act.put, List.setIfInBounds_toArray, List.set_cons_zero, List.set_cons_succ]
          refine wpAnyT_takeW (i := 9) (v := ?_) (some 68) rfl rfl (by kernel_rfl) (by kernel_rfl) (by kernel_rfl) (by kernel_rfl) (fun _ _ _ h => h) (Or.inl ⟨by rfl, ?_⟩) (by assumption) (by assumption) ?_
          rotate_left
          · intro w hSw; (try dsimp only at hSw); go_simp; (try with_reducible rfl)
          try simp only [Act.put, List.setIfInBounds_toArray, List.set_cons_zero, List.set_cons_succ]
          refine wpAnyT_takeW (i := 10) (v := ?_) (some 69) rfl rfl (by kernel_rfl) (by kernel_rfl) (by kernel_rfl) (by kernel_rfl) (fun _ _ _ h => h) (Or.inl ⟨by rfl, ?_⟩) (by assumption) (by assumption) ?_
          rotate_left
          · intro w hSw; (try dsimp only at hSw); go_simp; (try with_reducible rfl)
          try simp only [Act.put, List.setIfInBounds_toArray, List.set_cons_zero, List.set_cons_succ]
          refine wpAnyT_ready (rs := [11]) (by kernel_rfl) (by simp) ?_
          refine AllReadyT.past rfl (by kernel_rfl) (fun K hK => ?_)
          go_simp
          refine hK.out _ _ ?_ ?_
          · (try dsimp only); (try exact trivial)
          clear hK K
          try simp only [List.getElem_toArray, List.getElem_cons_succ, List.getElem_cons_zero]
          try simp only [Act.put, List.setIfInBounds_toArray, List.set_cons_zero, List.set_cons_succ]
          refine wpAnyT_done (by kernel_rfl) ?_ _
          refine NoPanic.normal ?_
          have hv9 := HV8.out.setG j (gj + gvv)
          rw [HG1.out] at hv9
          obtain ⟨w9, hw9⟩ : ∃ W', W' = w8.setCell ⟨gG, j, none⟩ (.int .i64 (gj + gvv)) := ⟨_, rfl⟩
          rw [← hw9] at hv9
          have HV9 := Lib.hid hv9
          try rw [← hw9]
          have x1 := HV9.out.kX.cell 1
          have fx := HV9.out.kX.frozen 1
          simp at x1
          clear hw9 hv9 dl fl HV8 HVx HV1
          go_wp2_with fail
          go_roundw
          case rel => exact ⟨k + 1, by omega, by go_num, Lib.hid (fun i hi => by
              by_cases e : i = k
              · rw [e, HND.out]; exact HOK.out
              · exact HO.out i (by omega)), Lib.hid (by rw [← HU1.out]; exact HV9.out.setU (uk + 1))⟩
          case measure => simp [intOf]; omega
        · have wb : (rd.width != nw) = true := by simpa using hwq
          have hbad : verP st ns l = (0, 0, 70) := verP_bad hkl (by rw [HND.out, hok]; exact decide_eq_false hwq)
          have hr := HR.out
          rw [hbad] at hr
          injection hr with h1 hr
          injection hr with h2 h3
          subst h1 h2 h3
          clear hbad hok hwq
          go_wp2_with fail
          go_quiet (fail)
          go_wp2_with fail
          go_ret3
          exact ⟨rfl, Lib.hid (below_drewN HV0.out.low _)⟩
    · obtain rfl : N = k := by omega
      obtain ⟨wA, hwA⟩ : ∃ W', W' = wr := ⟨_, rfl⟩
      rw [← hwA] at HV0 ⊢
      have hus : useK6 l N = usedL l := by unfold useK6 usedL; rw [HLN.out]
      have hlf : ∀ s, s < m → leftF st ns l s = (ns.getD s (0, 0)).2 - gotK st l N s := fun s hs => by unfold leftF gotK; rw [HLN.out]
      have HLF := Lib.hid hlf
      rw [hus] at HV0
      have dd := HV0.out.kD.cell 0
      simp at dd
      clear hwA hk hlt hus hlf
      go_wp2_with fail
      clear dd
      go_loopw [77] (fun q wr => ∃ (k : Nat) (y : Int), k ≤ m ∧ q = .int .i64 k ∧ Hid (∀ s, s < k → leftF st ns l s ≤ 0) ∧ Hid (y = sumN (fun s => - leftF st ns l s) k) ∧ Hid (VerM w gG gX gD (.slice An m cn) (.slice Al N cl) m (gotK st l N) (usedL l) y wr)) (fun q _ => m - (intOf q).toNat)
      case atStart => exact ⟨0, 0, Nat.zero_le _, rfl, Lib.hid (fun s h => by omega), Lib.hid rfl, HV0⟩
      case round =>
        clear HV0
        obtain ⟨k, y, hk, rfl, HF, HY, HV0⟩ := hrel
        by_cases hlt : k < m
        · have hk2 : k < ns.length := by have := HMM.out; omega
          obtain ⟨b, off, hAn, hbb, d0, d1⟩ := Sl.at2 (HBB.out.below HV0.out.low) hk2
          obtain ⟨n1, hn1⟩ : ∃ q, q = ns[k].1 := ⟨_, rfl⟩
          obtain ⟨n2, hn2⟩ : ∃ q, q = ns[k].2 := ⟨_, rfl⟩
          rw [← hn1] at d0
          rw [← hn2] at d1
          have hnn : (ns.getD k (0, 0)).2 = n2 := by rw [hn2]; simp [List.getD_eq_getElem?_getD, hk2]
          have hlf := HLF.out k hlt
          rw [hnn] at hlf
          have hlb := HLB.out k hlt
          have hyb : -3000000000 ≤ y ∧ y ≤ 900000000 := by
            have : ∀ k, k ≤ m → -1000000000 * (k : Int) ≤ sumN (fun s => - leftF st ns l s) k ∧ sumN (fun s => - leftF st ns l s) k ≤ 300000000 * (k : Int) := by
              intro k
              induction k with
              | zero => intro _; simp [sumN]
              | succ k ih => intro hk; have := ih (by omega); have h2 := HLB.out k (by omega); rw [sumN]; push_cast; omega
            have h2 := this k (by omega)
            rw [← HY.out] at h2
            omega
          have hnb := (HNB.out _ (List.getElem_mem hk2)).2.2
          rw [← hn2] at hnb
          obtain ⟨gk, hgk⟩ : ∃ q, q = gotK st l N k := ⟨_, rfl⟩
          rw [← hgk] at hlf
          have HGK := Lib.hid hgk.symm
          have HLK := Lib.hid hlf
          have i0 : (0 : Int) ≤ (k : Int) := by omega
          have i1 : (k : Int) < (m : Int) := by omega
          subst hAn
          clear hn1 hn2 hnn hgk
          go_upto_region 20 with fail
          obtain ⟨g15, hg15⟩ : ∃ g, g = wr.heap.size := ⟨_, rfl⟩
          obtain ⟨w5, hw5⟩ : ∃ W', W' = wr.alloc (.cells #[.int .i64 n1, .int .i64 n2] 77) := ⟨_, rfl⟩
          rw [← hw5, ← hg15]
          have k5 : Blk w5 g15 77 #[.int .i64 n1, .int .i64 n2] := by rw [hw5, hg15]; exact Blk.new _ _ _
          have HV5 := Lib.hid (HV0.out.below (show Below wr.heap.size wr w5 from by rw [hw5]; exact balR (Below.refl _ _) _))
          have K5 := Lib.hid k5
          have c1 := k5.cell 1
          have dl := HV5.out.got.cell hlt
          rw [HGK.out] at dl
          simp at c1
          clear hw5 hg15 k5 d0 d1
          by_cases hlt2 : gk < n2
          · have hfit : fitP st ns l = false := by
              unfold fitP
              rw [HMM.out]
              refine List.all_eq_false.2 ⟨k, List.mem_range.2 hlt, ?_⟩
              simp
              omega
            have hr := HR.out
            rw [verP_fit hfit] at hr
            injection hr with h1 hr
            injection hr with h2 h3
            subst h1 h2 h3
            clear hfit hlf hlb hyb hnb
            go_quiet (fail)
            go_wp2_with fail
            go_ret3
            exact ⟨rfl, Lib.hid (below_drewN HV5.out.low _)⟩
          · have ws1 : IntKind.i64.wrap (gk - n2) = gk - n2 := by rw [IntKind.wrap_i64]; omega
            have ws2 : IntKind.i64.wrap (y + (gk - n2)) = y + (gk - n2) := by rw [IntKind.wrap_i64]; omega
            have HYS := Lib.hid (show y + (gk - n2) = sumN (fun s => - leftF st ns l s) (k + 1) from by rw [sumN, ← HY.out]; omega)
            have HFS := Lib.hid (show leftF st ns l k ≤ 0 from by omega)
            clear hlf hlb hyb hnb
            go_quiet (fail)
            go_upto_region 22 with fail
            obtain ⟨wq, hwq⟩ : ∃ W', W' = w5.drewN nq := ⟨_, rfl⟩
            have HV1 := Lib.hid (HV5.out.below (below_drewN (Below.refl w5.heap.size w5) nq))
            have k51 := K5.out.below (below_drewN (Below.refl w5.heap.size w5) nq) K5.out.lt
            rw [← hwq] at HV1 k51 ⊢
            clear hwq c1 dl
            have y2 := HV1.out.kX.cell 2
            have dl := HV1.out.got.cell hlt
            have c1 := k51.cell 1
            rw [HGK.out] at dl
            simp at y2 c1
            clear k51
            refine wp_region_noPanic ?_
            refine wp_region_T (S := (fun X => X.cell? ⟨gX, 2, none⟩ = some (.int .i64 y) ∧ X.cell? ⟨gG, k, none⟩ = some (.int .i64 gk) ∧ X.cell? ⟨g15, 1, none⟩ = some (.int .i64 n2))) (T := (fun _ => True)) 11 (by kernel_rfl) ?_ (fun hHeld hHeldT => ?_)
            · (try dsimp only); (exact ⟨⟨y2, dl, c1⟩, trivial⟩)
            obtain ⟨x0, hx0⟩ : ∃ W, W = wq.drew := ⟨_, rfl⟩
            have HVx := Lib.hid (HV1.out.below ((Below.refl wq.heap.size wq).drew))
            rw [← hx0] at hHeld HVx ⊢
            have y3 := HVx.out.kX.cell 2
            have fy := HVx.out.kX.frozen 2
            simp at y3
            clear hx0 y2 dl c1
            refine wpAnyT_takeW (i := 0) (v := ?_) (some 89) rfl rfl (by kernel_rfl) (by kernel_rfl) (by kernel_rfl) (by kernel_rfl) (fun _ _ _ h => h) (Or.inl ⟨by rfl, ?_⟩) (by assumption) (by assumption) ?_
            rotate_left
            · intro w hSw; (try dsimp only at hSw); go_simp; (try with_reducible rfl)
            try simp only [Act.put, List.setIfInBounds_toArray, List.set_cons_zero, List.set_cons_succ]
            refine wpAnyT_takeD (i := 1) (v := ?_) (some 90) rfl rfl (by kernel_rfl) (by kernel_rfl) (by kernel_rfl) (by kernel_rfl) (fun _ _ _ h => h) (Or.inl ⟨by rfl, ?_⟩) (by assumption) (by assumption) ?_
            rotate_left
            · intro w hSw; (try dsimp only at hSw); go_simp; (try with_reducible rfl)
            try simp only [Act.put, List.setIfInBounds_toArray, List.set_cons_zero, List.set_cons_succ]
            refine wpAnyT_takeW (i := 2) (v := ?_) (some 91) rfl rfl (by kernel_rfl) (by kernel_rfl) (by kernel_rfl) (by kernel_rfl) (fun _ _ _ h => h) (Or.inl ⟨by rfl, ?_⟩) (by assumption) (by assumption) ?_
            rotate_left
            · intro w hSw; (try dsimp only at hSw); go_simp; (try with_reducible rfl)
            try simp only [Act.put, List.setIfInBounds_toArray, List.set_cons_zero, List.set_cons_succ]
            refine wpAnyT_takeW (i := 3) (v := ?_) (some 92) rfl rfl (by kernel_rfl) (by kernel_rfl) (by kernel_rfl) (by kernel_rfl) (fun _ _ _ h => h) (Or.inl ⟨by rfl, ?_⟩) (by assumption) (by assumption) ?_
            rotate_left
            · intro w hSw; (try dsimp only at hSw); go_simp; (try with_reducible rfl)
            try simp only [Act.put, List.setIfInBounds_toArray, List.set_cons_zero, List.set_cons_succ]
            refine wpAnyT_takeW (i := 4) (v := ?_) (some 93) rfl rfl (by kernel_rfl) (by kernel_rfl) (by kernel_rfl) (by kernel_rfl) (fun _ _ _ h => h) (Or.inl ⟨by rfl, ?_⟩) (by assumption) (by assumption) ?_
            rotate_left
            · intro w hSw; (try dsimp only at hSw); go_simp; (try with_reducible rfl)
            try simp only [Act.put, List.setIfInBounds_toArray, List.set_cons_zero, List.set_cons_succ]
            refine wpAnyT_takeD (i := 5) (v := ?_) (some 94) rfl rfl (by kernel_rfl) (by kernel_rfl) (by kernel_rfl) (by kernel_rfl) (fun _ _ _ h => h) (Or.inl ⟨by rfl, ?_⟩) (by assumption) (by assumption) ?_
            rotate_left
            · intro w hSw; (try dsimp only at hSw); go_simp; (try with_reducible rfl)
            try simp only [Act.put, List.setIfInBounds_toArray, List.set_cons_zero, List.set_cons_succ]
            refine wpAnyT_takeW (i := 6) (v := ?_) (some 95) rfl rfl (by kernel_rfl) (by kernel_rfl) (by kernel_rfl) (by kernel_rfl) (fun _ _ _ h => h) (Or.inl ⟨by rfl, ?_⟩) (by assumption) (by assumption) ?_
            rotate_left
            · intro w hSw; (try dsimp only at hSw); go_simp; (try with_reducible rfl)
            try simp only [Act.put, List.setIfInBounds_toArray, List.set_cons_zero, List.set_cons_succ]
            refine wpAnyT_takeD (i := 7) (v := ?_) (some 96) rfl rfl (by kernel_rfl) (by kernel_rfl) (by kernel_rfl) (by kernel_rfl) (fun _ _ _ h => h) (Or.inl ⟨by rfl, ?_⟩) (by assumption) (by assumption) ?_
            rotate_left
            · intro w hSw; (try dsimp only at hSw); go_simp; (try with_reducible rfl)
            try simp only [Act.put, List.setIfInBounds_toArray, List.set_cons_zero, List.set_cons_succ]
            refine wpAnyT_takeW (i := 8) (v := ?_) (some 97) rfl rfl (by kernel_rfl) (by kernel_rfl) (by kernel_rfl) (by kernel_rfl) (fun _ _ _ h => h) (Or.inl ⟨by rfl, ?_⟩) (by assumption) (by assumption) ?_
            rotate_left
            · intro w hSw; (try dsimp only at hSw); go_simp; (try with_reducible rfl)
            try simp only [Act.put, List.setIfInBounds_toArray, List.set_cons_zero, List.set_cons_succ]
            refine wpAnyT_takeW (i := 9) (v := ?_) (some 98) rfl rfl (by kernel_rfl) (by kernel_rfl) (by kernel_rfl) (by kernel_rfl) (fun _ _ _ h => h) (Or.inl ⟨by rfl, ?_⟩) (by assumption) (by assumption) ?_
            rotate_left
            · intro w hSw; (try dsimp only at hSw); go_simp; (try with_reducible rfl)
            try simp only [Act.put, List.setIfInBounds_toArray, List.set_cons_zero, List.set_cons_succ]
            refine wpAnyT_takeW (i := 10) (v := ?_) (some 99) rfl rfl (by kernel_rfl) (by kernel_rfl) (by kernel_rfl) (by kernel_rfl) (fun _ _ _ h => h) (Or.inl ⟨by rfl, ?_⟩) (by assumption) (by assumption) ?_
            rotate_left
            · intro w hSw; (try dsimp only at hSw); go_simp; (try with_reducible rfl)
            try simp only [Act.put, List.setIfInBounds_toArray, List.set_cons_zero, List.set_cons_succ]
            refine wpAnyT_ready (rs := [11]) (by kernel_rfl) (by simp) ?_
            refine AllReadyT.past rfl (by kernel_rfl) (fun K hK => ?_)
            go_simp
            refine hK.out _ _ ?_ ?_
            · (try dsimp only); (try exact trivial)
            clear hK K
            try simp only [List.getElem_toArray, List.getElem_cons_succ, List.getElem_cons_zero]
            try simp only [Act.put, List.setIfInBounds_toArray, List.set_cons_zero, List.set_cons_succ]
            refine wpAnyT_done (by kernel_rfl) ?_ _
            refine NoPanic.normal ?_
            have HV6 := Lib.hid (HVx.out.setY (y + (gk - n2)))
            go_wp2_with fail
            go_roundw
            case rel => exact ⟨k + 1, y + (gk - n2), by omega, by go_num, Lib.hid (fun s hs => by
                by_cases e : s = k
                · rw [e]; exact HFS.out
                · exact HF.out s (by omega)), HYS, HV6⟩
            case measure => simp [intOf]; omega
        · obtain rfl : m = k := by omega
          have hfit : fitP st ns l = true := by
            unfold fitP
            rw [HMM.out]
            exact List.all_eq_true.2 fun s hs => decide_eq_true (HF.out s (List.mem_range.1 hs))
          have hyb : y = beyL st ns l := by rw [HY.out]; unfold beyL; rw [HMM.out]
          have hvp := verP_ok (st := st) (ns := ns) (l := l) (fun i hi => HO.out i (by have := HLN.out; omega)) hfit
          have hr := HR.out
          rw [hvp] at hr
          obtain ⟨wB, hwB⟩ : ∃ W', W' = wr := ⟨_, rfl⟩
          rw [← hwB] at HV0 ⊢
          have dd := HV0.out.kD.cell 0
          simp at dd
          have HYB := Lib.hid hyb
          have H77' := Lib.hid (H77.out _ HV0.out.low)
          clear hwB hfit hyb hvp hk hlt HF HY HO
          cases hb : bestPl st ns with
          | none =>
            rw [hb] at hr H77'
            simp at hr
            obtain ⟨h1, h2, h3⟩ := hr
            have HE := Lib.hid (And.intro h1 (And.intro h2 h3))
            clear h1 h2 h3 hb
            go_upto_region 25 with (go_at_call 77; refine H77'.out.mono ?_; rintro e w6 ⟨Ab, nb, cb, ub, bb, rfl, -, HB6⟩)
            obtain ⟨w7, hw7⟩ : ∃ W', W' = w6.alloc (.cells #[.slice Ab nb cb, .int .i64 ub, .int .i64 bb] 148) := ⟨_, rfl⟩
            rw [← hw7]
            have HV7 := Lib.hid (HV0.out.below (bstep HB6.out (show Below w6.heap.size w6 w7 from by rw [hw7]; exact balR (Below.refl _ _) _)))
            have x1 := HV7.out.kX.cell 1
            have x2 := HV7.out.kX.cell 2
            simp at x1 x2
            clear hw7 dd
            go_wp2_with fail
            go_quiet (fail)
            go_wp2_with fail
            go_ret3
            exact ⟨by rw [HE.out.1, HE.out.2.1, HE.out.2.2, HYB.out]; rfl, Lib.hid (below_drewN HV7.out.low _)⟩
          | some z =>
            rw [hb] at hr H77'
            have HZL := Lib.hid (show z.1.length ≤ 10 from by
              obtain ⟨l', _, hg, hz⟩ := (bestPl_ok st ns).yes z hb
              rw [hz]
              show l'.length ≤ 10
              have := hg.len
              have := HNN.out
              omega)
            obtain ⟨lb, hlb⟩ : ∃ q, q = lessP z (plOf st ns l) := ⟨_, rfl⟩
            have hr2 : (r1, r2, r3) = if lb = true then ((0 : Int), (0 : Int), (7 : Int)) else (usedL l, beyL st ns l, 0) := by rw [hlb]; exact hr
            have HR2 := Lib.hid hr2
            have HLB2 := Lib.hid hlb
            clear hr hr2 hb hlb HR
            go_upto_region 25 with (go_at_call 77; refine H77'.out.mono ?_; rintro e w6 ⟨Ab, nb, cb, ub, bb, rfl, HZ, HB6⟩)
            obtain ⟨z1, z2, z3, z4⟩ := HZ.out z rfl
            obtain ⟨g16, hg16⟩ : ∃ g, g = w6.heap.size := ⟨_, rfl⟩
            obtain ⟨w7, hw7⟩ : ∃ W', W' = w6.alloc (.cells #[.slice Ab nb cb, .int .i64 ub, .int .i64 bb] 148) := ⟨_, rfl⟩
            rw [← hw7, ← hg16]
            have hb67 : Below w6.heap.size w6 w7 := by rw [hw7]; exact balR (Below.refl _ _) _
            have k7 : Blk w7 g16 148 #[.slice Ab nb cb, .int .i64 ub, .int .i64 bb] := by rw [hw7, hg16]; exact Blk.new _ _ _
            have HV7 := Lib.hid (HV0.out.below (bstep HB6.out hb67))
            have y0 := k7.cell 0
            have y1 := k7.cell 1
            have y2 := k7.cell 2
            have x0 := HV7.out.kX.cell 0
            have x1 := HV7.out.kX.cell 1
            have x2 := HV7.out.kX.cell 2
            simp at y0 y1 y2 x0 x1 x2
            have H79 := Lib.hid (show Calls Try.prog 79 #[.agg #[.slice Ab nb cb, .int .i64 ub, .int .i64 bb], .agg #[.slice Al N cl, .int .i64 (usedL l), .int .i64 y]] w7 fun e w' => e = .returned (.bool lb) ∧ Hid (Below w7.heap.size w7 w') from by
              have := less79_any Ab Al cb cl nb N z (l, usedL l, y) w7 z1.symm HLN.out (by have := HZL.out; omega) (by omega) ((z2.below hb67).mono hb67.size) ((HLL.out.below HV7.out.low).mono HV7.out.low.size)
              rw [← z3, ← z4] at this
              rw [HLB2.out]
              have e : plOf st ns l = (l, usedL l, y) := by unfold plOf; rw [HYB.out]
              rw [e]
              exact this)
            clear z1 z2 z3 z4 hg16 hw7 hb67 k7 dd
            cases lb
            · have hr := HR2.out
              simp at hr
              obtain ⟨h1, h2, h3⟩ := hr
              have HE := Lib.hid (And.intro h1 (And.intro h2 h3))
              clear h1 h2 h3
              go_upto_region 27 with (go_at_call 79; with_reducible refine H79.out.mono ?_; rintro e w8 ⟨rfl, HB8⟩)
              have HV8 := Lib.hid (HV7.out.below HB8.out)
              clear y0 y1 y2 x0 x1 x2
              have x1 := HV8.out.kX.cell 1
              have x2 := HV8.out.kX.cell 2
              simp at x1 x2
              go_quiet (fail)
              go_wp2_with fail
              go_ret3
              exact ⟨by rw [HE.out.1, HE.out.2.1, HE.out.2.2, HYB.out]; rfl, Lib.hid (below_drewN HV8.out.low _)⟩
            · have hr := HR2.out
              simp at hr
              obtain ⟨h1, h2, h3⟩ := hr
              subst h1 h2 h3
              go_wp2_with (go_at_call 79; with_reducible refine H79.out.mono ?_; rintro e w8 ⟨rfl, HB8⟩)
              go_ret3
              exact ⟨rfl, Lib.hid (bstep HV7.out.low HB8.out)⟩

end Go.Proofs.Ytnbnfadmbggfnaa
