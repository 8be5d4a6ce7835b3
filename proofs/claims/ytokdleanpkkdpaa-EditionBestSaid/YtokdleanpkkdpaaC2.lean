/- Contract of ready: when an edition's last plates can be hung; conditions: a title at work, pages that are there. -/
import Derived.Test.YtokdleanpkkdpaaB3
set_option linter.unusedSimpArgs false
set_option linter.unusedVariables false
namespace Go.Ed
theorem platesF_end {c q : List Int} {h : Nat → Bool} {fuel p : Nat} (hp : c.length ≤ p) : platesF c q h fuel p = 0 := by
  cases fuel with
  | zero => rfl
  | succ f => unfold platesF; rw [if_pos hp]
theorem any_comm (q : List Int) (p : Int) : (q.any fun x => p == x) = (q.any fun x => x == p) := by
  congr 1; funext x; exact Bool.beq_comm
end Go.Ed
namespace Go.Proofs.Ytokdleanpkkdpaa
open Go.RowKit Go.Fh Go.Ed

set_option maxRecDepth 20000 in
set_option maxHeartbeats 1000000 in
theorem differs_any (p gA gB : Nat) (v1 v2 : List Int) (A B : Option Addr) (cA cB : Nat) (w : World) (h1 : p < v1.length) (h2 : p < v2.length)
    (kA : w.cell? ⟨gA, 4, none⟩ = some (.slice A v1.length cA)) (kB : w.cell? ⟨gB, 4, none⟩ = some (.slice B v2.length cB)) (hA : Sl encInt 1 w w.heap.size A v1) (hB : Sl encInt 1 w w.heap.size B v2) :
    Calls Try.prog 108 #[.int .i64 (p : Int), .pointer (some ⟨gA, 0, none⟩), .pointer (some ⟨gB, 0, none⟩)] w fun e w' => e = .returned (.bool (decide (v1.getD p (-1) ≠ v2.getD p (-1)))) ∧ Below w.heap.size w w' := by
  obtain ⟨b1, o1, rfl, l1, c1⟩ := hA.at1 h1
  obtain ⟨b2, o2, rfl, l2, c2⟩ := hB.at1 h2
  have g1 : v1.getD p (-1) = v1[p] := by simp [h1]
  have g2 : v2.getD p (-1) = v2[p] := by simp [h2]
  rw [g1, g2]
  obtain ⟨x, hx⟩ : ∃ x, x = v1[p] := ⟨_, rfl⟩
  obtain ⟨y, hy⟩ : ∃ y, y = v2[p] := ⟨_, rfl⟩
  rw [← hx] at c1 ⊢
  rw [← hy] at c2 ⊢
  clear hx hy g1 g2 hA hB
  go_enter Try.func108, Try.ntmps108
  go_wp2_with fail
  go_quiet (fail)
  go_wp2_with fail
  go_ret
  refine ⟨ret_bool ?_, below_drewN (Below.refl _ _) _⟩
  by_cases h : x = y <;> simp [h]
theorem always_any (p : Int) (w : World) : Calls Try.prog 109 #[.int .i64 p] w fun e w' => e = .returned (.bool true) ∧ w = w' := by
  go_enter Try.func109, Try.ntmps109
  go_wp2
  go_ret
  exact ⟨rfl, rfl⟩

set_option maxRecDepth 20000 in
set_option maxHeartbeats 4000000 in
theorem plates108_any (t : TitD) (ht : OkT t) (x : TA) (E C : Value) (g : Nat) (al : Int) (gA gB : Nat) (h : Nat → Bool) (w : World) (hpl : t.pairs.length ≤ 1000000000) (hk : Blk w g 129 (workC t x E C al))
    (hA : Sl encInt 1 w w.heap.size x.a t.colours) (hB : Sl encInt 1 w w.heap.size x.b t.pairs)
    (hF : ∀ p W, p < t.colours.length → Below w.heap.size w W → Calls Try.prog 108 (#[.int .i64 (p : Int), .pointer (some ⟨gA, 0, none⟩), .pointer (some ⟨gB, 0, none⟩)]) W fun e w' => e = .returned (.bool (h p)) ∧ Below W.heap.size W w') :
    Calls Try.prog 107 #[.pointer (some ⟨g, 0, none⟩), .func (.func 108) #[] #[.pointer (some ⟨gA, 0, none⟩), .pointer (some ⟨gB, 0, none⟩)]] w fun e w' => e = .returned (.int .i64 (platesB t h)) ∧ Below w.heap.size w w' := by
  have hgp := good_of_paired ht.pair
  have hcc := ht.c4
  have hcl := ht.c1
  have hbd := platesB_bd hgp hcc h
  obtain ⟨T, hT⟩ : ∃ T, T = platesB t h := ⟨_, rfl⟩
  rw [← hT] at hbd ⊢
  have hg : g < w.heap.size := hk.lt
  have HA := Lib.hid hA
  have HB := Lib.hid hB
  have HK := Lib.hid hk
  have HF := Lib.hid hF
  have HT := Lib.hid hT
  have HG := Lib.hid hgp
  have HC := Lib.hid hcc
  clear hA hB hk hF hT hgp hcc ht
  go_enter Try.func107, Try.ntmps107
  go_wp2_with fail
  go_loopw [5, 6] (fun n i wr => ∃ (p fuel : Nat) (m : Int), p ≤ t.colours.length ∧ i = .int .i64 p ∧ n = .int .i64 m ∧ Hid (t.colours.length ≤ p + fuel) ∧ Hid (m + platesF t.colours t.pairs h fuel p = T) ∧ Hid (0 ≤ m ∧ m ≤ 4 * (p : Int)) ∧ Below w.heap.size w wr) (fun _ i _ => t.colours.length - (intOf i).toNat)
  case atStart => exact ⟨0, t.colours.length, 0, Nat.zero_le _, rfl, rfl, by simp [Hid], by rw [HT.out]; simp [Hid, platesB], ⟨by omega, by omega⟩, Below.refl _ _⟩
  case round =>
    obtain ⟨p, fuel, m, hp, rfl, rfl, H1, H2, H3, hW⟩ := hrel
    have hkr := HK.out.below hW hg
    have k0 := hkr.cell 0
    have k1 := hkr.cell 1
    simp [workC] at k0 k1
    have HW := Lib.hid hW
    clear hkr hW
    by_cases hlt : p < t.colours.length
    · obtain ⟨cb, co, hxa, hcb, c0⟩ := (HA.out.below HW.out).at1 hlt
      have hgd : t.colours.getD p 0 = t.colours[p] := by simp [hlt]
      have hck := HC.out _ (List.getElem_mem hlt)
      rw [hxa] at k0
      obtain ⟨co1, hco⟩ : ∃ c, c = t.colours[p] := ⟨_, rfl⟩
      rw [← hco] at c0 hck hgd
      obtain ⟨f, rfl⟩ : ∃ f, fuel = f + 1 := ⟨fuel - 1, by have := H1.out; omega⟩
      have h2 := H2.out
      unfold platesF at h2
      rw [if_neg (by omega), hgd] at h2
      have h3 := H3.out
      have h1 := H1.out
      have f1 := IntWalk.i64_in ((p : Int) + 1) (by omega)
      have f2 := IntWalk.i64_in ((p : Int) + 1 + 1) (by omega)
      have f3 := IntWalk.i64_in (m + co1) (by omega)
      have HXA := Lib.hid hxa
      have HFP := Lib.hid (HF.out p wr hlt HW.out)
      have hac := any_comm t.pairs (p : Int)
      have hcp := HG.out p
      have HCK := Lib.hid hck
      have H3b := Lib.hid h3
      have H1b := Lib.hid h1
      cases hq : (t.pairs.any fun q => q == (p : Int))
      · rw [hq] at h2 hac
        simp only [Bool.false_eq_true, if_false] at h2
        have HAC := Lib.hid hac
        have H2b := Lib.hid h2
        clear hac h2 h1 h3 hcp hxa hco hgd hq hck
        cases hh : h p
        · rw [hh] at HFP
          have HH := Lib.hid hh
          clear hh
          go_wp2_with first
            | (go_at_call 108; refine HFP.out.mono ?_; rintro e w2 ⟨rfl, hb2⟩; have k0 := ((hb2.cell (p := ⟨g, 0, none⟩) (Nat.lt_of_lt_of_le hg HW.out.size)).trans k0); have k1 := ((hb2.cell (p := ⟨g, 1, none⟩) (Nat.lt_of_lt_of_le hg HW.out.size)).trans k1); have c0 := ((hb2.cell (p := ⟨cb, co + p, none⟩) (Nat.lt_of_lt_of_le hcb HW.out.size)).trans c0); have HW2 := Lib.hid (HW.out.trans (hb2.mono HW.out.size)); clear hb2)
            | (go_at_call 68; refine (contains_any _ _ _ _ _ (by omega) ((HB.out.below HW2.out).mono HW2.out.size)).mono ?_; rintro e w3 ⟨rfl, hb3⟩; rw [HAC.out]; have HW3 := Lib.hid (HW2.out.trans (hb3.mono HW2.out.size)); clear hb3)
          go_roundw
          case rel =>
            refine ⟨p + 1, f, m, by omega, by go_num, rfl, ?_, ?_, ?_, HW3.out⟩
            · have := H1b.out; exact (by omega : t.colours.length ≤ p + 1 + f)
            · have := H2b.out; rw [HH.out] at this; simpa [Hid] using this
            · have := H3b.out; exact ⟨by omega, by omega⟩
          case measure => simp [intOf]; omega
        · rw [hh] at HFP
          have HH := Lib.hid hh
          clear hh
          go_wp2_with first
            | (go_at_call 108; refine HFP.out.mono ?_; rintro e w2 ⟨rfl, hb2⟩; have k0 := ((hb2.cell (p := ⟨g, 0, none⟩) (Nat.lt_of_lt_of_le hg HW.out.size)).trans k0); have k1 := ((hb2.cell (p := ⟨g, 1, none⟩) (Nat.lt_of_lt_of_le hg HW.out.size)).trans k1); have c0 := ((hb2.cell (p := ⟨cb, co + p, none⟩) (Nat.lt_of_lt_of_le hcb HW.out.size)).trans c0); have HW2 := Lib.hid (HW.out.trans (hb2.mono HW.out.size)); clear hb2)
            | (go_at_call 68; refine (contains_any _ _ _ _ _ (by omega) ((HB.out.below HW2.out).mono HW2.out.size)).mono ?_; rintro e w3 ⟨rfl, hb3⟩; rw [HAC.out]; have HW3 := Lib.hid (HW2.out.trans (hb3.mono HW2.out.size)); clear hb3)
          go_roundw
          case rel =>
            refine ⟨p + 1, f, m + co1, by omega, by go_num, rfl, ?_, ?_, ?_, HW3.out⟩
            · have := H1b.out; exact (by omega : t.colours.length ≤ p + 1 + f)
            · have := H2b.out; rw [HH.out] at this; simp only [if_true] at this; exact (by omega : m + co1 + platesF t.colours t.pairs h f (p + 1) = T)
            · have := H3b.out; have := HCK.out; exact ⟨by omega, by omega⟩
          case measure => simp [intOf]; omega
      · have hp1 := (hcp hq).1
        rw [hq] at h2 hac
        simp only [if_true] at h2
        have HAC := Lib.hid hac
        have H2b := Lib.hid h2
        have HFQ := Lib.hid (show ∀ W, Below w.heap.size w W → Calls Try.prog 108 (#[.int .i64 ((p : Int) + 1), .pointer (some ⟨gA, 0, none⟩), .pointer (some ⟨gB, 0, none⟩)]) W fun e w' => e = .returned (.bool (h (p + 1))) ∧ Below W.heap.size W w' from fun W hb => HF.out (p + 1) W hp1 hb)
        clear hac h2 h1 h3 hcp hxa hco hgd hq hck
        cases hh : h p
        · rw [hh] at HFP
          have HH := Lib.hid hh
          clear hh
          cases hh1 : h (p + 1)
          · rw [hh1] at HFQ
            have HH1 := Lib.hid hh1
            clear hh1
            go_wp2_with first
              | (go_at_call 108; first | (refine (HFQ.out _ HW3.out).mono ?_; rintro e w4 ⟨rfl, hb4⟩; have HW4 := Lib.hid (HW3.out.trans (hb4.mono HW3.out.size)); clear hb4) | (with_reducible refine HFP.out.mono ?_; rintro e w2 ⟨rfl, hb2⟩; have k0 := ((hb2.cell (p := ⟨g, 0, none⟩) (Nat.lt_of_lt_of_le hg HW.out.size)).trans k0); have k1 := ((hb2.cell (p := ⟨g, 1, none⟩) (Nat.lt_of_lt_of_le hg HW.out.size)).trans k1); have c0 := ((hb2.cell (p := ⟨cb, co + p, none⟩) (Nat.lt_of_lt_of_le hcb HW.out.size)).trans c0); have HW2 := Lib.hid (HW.out.trans (hb2.mono HW.out.size)); clear hb2))
              | (go_at_call 68; refine (contains_any _ _ _ _ _ (by omega) ((HB.out.below HW2.out).mono HW2.out.size)).mono ?_; rintro e w3 ⟨rfl, hb3⟩; rw [HAC.out]; have HW3 := Lib.hid (HW2.out.trans (hb3.mono HW2.out.size)); clear hb3)
            go_roundw
            case rel =>
              refine ⟨p + 2, f, m, by omega, by go_num, rfl, ?_, ?_, ?_, HW4.out⟩
              · have := H1b.out; exact (by omega : t.colours.length ≤ p + 2 + f)
              · have := H2b.out; rw [HH.out, HH1.out] at this; simpa [Hid] using this
              · have := H3b.out; exact ⟨by omega, by omega⟩
            case measure => simp [intOf]; omega
          · rw [hh1] at HFQ
            have HH1 := Lib.hid hh1
            clear hh1
            go_wp2_with first
              | (go_at_call 108; first | (refine (HFQ.out _ HW3.out).mono ?_; rintro e w4 ⟨rfl, hb4⟩; have HW4 := Lib.hid (HW3.out.trans (hb4.mono HW3.out.size)); clear hb4) | (with_reducible refine HFP.out.mono ?_; rintro e w2 ⟨rfl, hb2⟩; have k0 := ((hb2.cell (p := ⟨g, 0, none⟩) (Nat.lt_of_lt_of_le hg HW.out.size)).trans k0); have k1 := ((hb2.cell (p := ⟨g, 1, none⟩) (Nat.lt_of_lt_of_le hg HW.out.size)).trans k1); have c0 := ((hb2.cell (p := ⟨cb, co + p, none⟩) (Nat.lt_of_lt_of_le hcb HW.out.size)).trans c0); have HW2 := Lib.hid (HW.out.trans (hb2.mono HW.out.size)); clear hb2))
              | (go_at_call 68; refine (contains_any _ _ _ _ _ (by omega) ((HB.out.below HW2.out).mono HW2.out.size)).mono ?_; rintro e w3 ⟨rfl, hb3⟩; rw [HAC.out]; have HW3 := Lib.hid (HW2.out.trans (hb3.mono HW2.out.size)); clear hb3)
            go_roundw
            case rel =>
              refine ⟨p + 2, f, m + co1, by omega, by go_num, rfl, ?_, ?_, ?_, HW4.out⟩
              · have := H1b.out; exact (by omega : t.colours.length ≤ p + 2 + f)
              · have := H2b.out; rw [HH.out, HH1.out] at this; simp only [Bool.or_true, Bool.false_or, if_true] at this; exact (by omega : m + co1 + platesF t.colours t.pairs h f (p + 2) = T)
              · have := H3b.out; have := HCK.out; exact ⟨by omega, by omega⟩
            case measure => simp [intOf]; omega
        · rw [hh] at HFP
          have HH := Lib.hid hh
          clear hh
          go_wp2_with first
            | (go_at_call 108; refine HFP.out.mono ?_; rintro e w2 ⟨rfl, hb2⟩; have k0 := ((hb2.cell (p := ⟨g, 0, none⟩) (Nat.lt_of_lt_of_le hg HW.out.size)).trans k0); have k1 := ((hb2.cell (p := ⟨g, 1, none⟩) (Nat.lt_of_lt_of_le hg HW.out.size)).trans k1); have c0 := ((hb2.cell (p := ⟨cb, co + p, none⟩) (Nat.lt_of_lt_of_le hcb HW.out.size)).trans c0); have HW2 := Lib.hid (HW.out.trans (hb2.mono HW.out.size)); clear hb2)
            | (go_at_call 68; refine (contains_any _ _ _ _ _ (by omega) ((HB.out.below HW2.out).mono HW2.out.size)).mono ?_; rintro e w3 ⟨rfl, hb3⟩; rw [HAC.out]; have HW3 := Lib.hid (HW2.out.trans (hb3.mono HW2.out.size)); clear hb3)
          go_roundw
          case rel =>
            refine ⟨p + 2, f, m + co1, by omega, by go_num, rfl, ?_, ?_, ?_, HW3.out⟩
            · have := H1b.out; exact (by omega : t.colours.length ≤ p + 2 + f)
            · have := H2b.out; rw [HH.out] at this; simp only [Bool.true_or, if_true] at this; exact (by omega : m + co1 + platesF t.colours t.pairs h f (p + 2) = T)
            · have := H3b.out; have := HCK.out; exact ⟨by omega, by omega⟩
          case measure => simp [intOf]; omega
    · obtain rfl : p = t.colours.length := by omega
      have hm : m = T := by
        have := H2.out
        rw [platesF_end (Nat.le_refl _)] at this
        omega
      have HM := Lib.hid hm
      clear hm
      go_wp2_with fail
      go_ret
      exact ⟨ret_int HM.out, HW.out⟩

set_option maxRecDepth 20000 in
set_option maxHeartbeats 4000000 in
theorem plates109_any (t : TitD) (ht : OkT t) (x : TA) (E C : Value) (g : Nat) (al : Int) (h : Nat → Bool) (w : World) (hpl : t.pairs.length ≤ 1000000000) (hk : Blk w g 129 (workC t x E C al))
    (hA : Sl encInt 1 w w.heap.size x.a t.colours) (hB : Sl encInt 1 w w.heap.size x.b t.pairs)
    (hF : ∀ p W, p < t.colours.length → Below w.heap.size w W → Calls Try.prog 109 (#[.int .i64 (p : Int)]) W fun e w' => e = .returned (.bool (h p)) ∧ Below W.heap.size W w') :
    Calls Try.prog 107 #[.pointer (some ⟨g, 0, none⟩), .func (.func 109) #[] #[]] w fun e w' => e = .returned (.int .i64 (platesB t h)) ∧ Below w.heap.size w w' := by
  have hgp := good_of_paired ht.pair
  have hcc := ht.c4
  have hcl := ht.c1
  have hbd := platesB_bd hgp hcc h
  obtain ⟨T, hT⟩ : ∃ T, T = platesB t h := ⟨_, rfl⟩
  rw [← hT] at hbd ⊢
  have hg : g < w.heap.size := hk.lt
  have HA := Lib.hid hA
  have HB := Lib.hid hB
  have HK := Lib.hid hk
  have HF := Lib.hid hF
  have HT := Lib.hid hT
  have HG := Lib.hid hgp
  have HC := Lib.hid hcc
  clear hA hB hk hF hT hgp hcc ht
  go_enter Try.func107, Try.ntmps107
  go_wp2_with fail
  go_loopw [5, 6] (fun n i wr => ∃ (p fuel : Nat) (m : Int), p ≤ t.colours.length ∧ i = .int .i64 p ∧ n = .int .i64 m ∧ Hid (t.colours.length ≤ p + fuel) ∧ Hid (m + platesF t.colours t.pairs h fuel p = T) ∧ Hid (0 ≤ m ∧ m ≤ 4 * (p : Int)) ∧ Below w.heap.size w wr) (fun _ i _ => t.colours.length - (intOf i).toNat)
  case atStart => exact ⟨0, t.colours.length, 0, Nat.zero_le _, rfl, rfl, by simp [Hid], by rw [HT.out]; simp [Hid, platesB], ⟨by omega, by omega⟩, Below.refl _ _⟩
  case round =>
    obtain ⟨p, fuel, m, hp, rfl, rfl, H1, H2, H3, hW⟩ := hrel
    have hkr := HK.out.below hW hg
    have k0 := hkr.cell 0
    have k1 := hkr.cell 1
    simp [workC] at k0 k1
    have HW := Lib.hid hW
    clear hkr hW
    by_cases hlt : p < t.colours.length
    · obtain ⟨cb, co, hxa, hcb, c0⟩ := (HA.out.below HW.out).at1 hlt
      have hgd : t.colours.getD p 0 = t.colours[p] := by simp [hlt]
      have hck := HC.out _ (List.getElem_mem hlt)
      rw [hxa] at k0
      obtain ⟨co1, hco⟩ : ∃ c, c = t.colours[p] := ⟨_, rfl⟩
      rw [← hco] at c0 hck hgd
      obtain ⟨f, rfl⟩ : ∃ f, fuel = f + 1 := ⟨fuel - 1, by have := H1.out; omega⟩
      have h2 := H2.out
      unfold platesF at h2
      rw [if_neg (by omega), hgd] at h2
      have h3 := H3.out
      have h1 := H1.out
      have f1 := IntWalk.i64_in ((p : Int) + 1) (by omega)
      have f2 := IntWalk.i64_in ((p : Int) + 1 + 1) (by omega)
      have f3 := IntWalk.i64_in (m + co1) (by omega)
      have HXA := Lib.hid hxa
      have HFP := Lib.hid (HF.out p wr hlt HW.out)
      have hac := any_comm t.pairs (p : Int)
      have hcp := HG.out p
      have HCK := Lib.hid hck
      have H3b := Lib.hid h3
      have H1b := Lib.hid h1
      cases hq : (t.pairs.any fun q => q == (p : Int))
      · rw [hq] at h2 hac
        simp only [Bool.false_eq_true, if_false] at h2
        have HAC := Lib.hid hac
        have H2b := Lib.hid h2
        clear hac h2 h1 h3 hcp hxa hco hgd hq hck
        cases hh : h p
        · rw [hh] at HFP
          have HH := Lib.hid hh
          clear hh
          go_wp2_with first
            | (go_at_call 109; refine HFP.out.mono ?_; rintro e w2 ⟨rfl, hb2⟩; have k0 := ((hb2.cell (p := ⟨g, 0, none⟩) (Nat.lt_of_lt_of_le hg HW.out.size)).trans k0); have k1 := ((hb2.cell (p := ⟨g, 1, none⟩) (Nat.lt_of_lt_of_le hg HW.out.size)).trans k1); have c0 := ((hb2.cell (p := ⟨cb, co + p, none⟩) (Nat.lt_of_lt_of_le hcb HW.out.size)).trans c0); have HW2 := Lib.hid (HW.out.trans (hb2.mono HW.out.size)); clear hb2)
            | (go_at_call 68; refine (contains_any _ _ _ _ _ (by omega) ((HB.out.below HW2.out).mono HW2.out.size)).mono ?_; rintro e w3 ⟨rfl, hb3⟩; rw [HAC.out]; have HW3 := Lib.hid (HW2.out.trans (hb3.mono HW2.out.size)); clear hb3)
          go_roundw
          case rel =>
            refine ⟨p + 1, f, m, by omega, by go_num, rfl, ?_, ?_, ?_, HW3.out⟩
            · have := H1b.out; exact (by omega : t.colours.length ≤ p + 1 + f)
            · have := H2b.out; rw [HH.out] at this; simpa [Hid] using this
            · have := H3b.out; exact ⟨by omega, by omega⟩
          case measure => simp [intOf]; omega
        · rw [hh] at HFP
          have HH := Lib.hid hh
          clear hh
          go_wp2_with first
            | (go_at_call 109; refine HFP.out.mono ?_; rintro e w2 ⟨rfl, hb2⟩; have k0 := ((hb2.cell (p := ⟨g, 0, none⟩) (Nat.lt_of_lt_of_le hg HW.out.size)).trans k0); have k1 := ((hb2.cell (p := ⟨g, 1, none⟩) (Nat.lt_of_lt_of_le hg HW.out.size)).trans k1); have c0 := ((hb2.cell (p := ⟨cb, co + p, none⟩) (Nat.lt_of_lt_of_le hcb HW.out.size)).trans c0); have HW2 := Lib.hid (HW.out.trans (hb2.mono HW.out.size)); clear hb2)
            | (go_at_call 68; refine (contains_any _ _ _ _ _ (by omega) ((HB.out.below HW2.out).mono HW2.out.size)).mono ?_; rintro e w3 ⟨rfl, hb3⟩; rw [HAC.out]; have HW3 := Lib.hid (HW2.out.trans (hb3.mono HW2.out.size)); clear hb3)
          go_roundw
          case rel =>
            refine ⟨p + 1, f, m + co1, by omega, by go_num, rfl, ?_, ?_, ?_, HW3.out⟩
            · have := H1b.out; exact (by omega : t.colours.length ≤ p + 1 + f)
            · have := H2b.out; rw [HH.out] at this; simp only [if_true] at this; exact (by omega : m + co1 + platesF t.colours t.pairs h f (p + 1) = T)
            · have := H3b.out; have := HCK.out; exact ⟨by omega, by omega⟩
          case measure => simp [intOf]; omega
      · have hp1 := (hcp hq).1
        rw [hq] at h2 hac
        simp only [if_true] at h2
        have HAC := Lib.hid hac
        have H2b := Lib.hid h2
        have HFQ := Lib.hid (show ∀ W, Below w.heap.size w W → Calls Try.prog 109 (#[.int .i64 ((p : Int) + 1)]) W fun e w' => e = .returned (.bool (h (p + 1))) ∧ Below W.heap.size W w' from fun W hb => HF.out (p + 1) W hp1 hb)
        clear hac h2 h1 h3 hcp hxa hco hgd hq hck
        cases hh : h p
        · rw [hh] at HFP
          have HH := Lib.hid hh
          clear hh
          cases hh1 : h (p + 1)
          · rw [hh1] at HFQ
            have HH1 := Lib.hid hh1
            clear hh1
            go_wp2_with first
              | (go_at_call 109; first | (refine (HFQ.out _ HW3.out).mono ?_; rintro e w4 ⟨rfl, hb4⟩; have HW4 := Lib.hid (HW3.out.trans (hb4.mono HW3.out.size)); clear hb4) | (with_reducible refine HFP.out.mono ?_; rintro e w2 ⟨rfl, hb2⟩; have k0 := ((hb2.cell (p := ⟨g, 0, none⟩) (Nat.lt_of_lt_of_le hg HW.out.size)).trans k0); have k1 := ((hb2.cell (p := ⟨g, 1, none⟩) (Nat.lt_of_lt_of_le hg HW.out.size)).trans k1); have c0 := ((hb2.cell (p := ⟨cb, co + p, none⟩) (Nat.lt_of_lt_of_le hcb HW.out.size)).trans c0); have HW2 := Lib.hid (HW.out.trans (hb2.mono HW.out.size)); clear hb2))
              | (go_at_call 68; refine (contains_any _ _ _ _ _ (by omega) ((HB.out.below HW2.out).mono HW2.out.size)).mono ?_; rintro e w3 ⟨rfl, hb3⟩; rw [HAC.out]; have HW3 := Lib.hid (HW2.out.trans (hb3.mono HW2.out.size)); clear hb3)
            go_roundw
            case rel =>
              refine ⟨p + 2, f, m, by omega, by go_num, rfl, ?_, ?_, ?_, HW4.out⟩
              · have := H1b.out; exact (by omega : t.colours.length ≤ p + 2 + f)
              · have := H2b.out; rw [HH.out, HH1.out] at this; simpa [Hid] using this
              · have := H3b.out; exact ⟨by omega, by omega⟩
            case measure => simp [intOf]; omega
          · rw [hh1] at HFQ
            have HH1 := Lib.hid hh1
            clear hh1
            go_wp2_with first
              | (go_at_call 109; first | (refine (HFQ.out _ HW3.out).mono ?_; rintro e w4 ⟨rfl, hb4⟩; have HW4 := Lib.hid (HW3.out.trans (hb4.mono HW3.out.size)); clear hb4) | (with_reducible refine HFP.out.mono ?_; rintro e w2 ⟨rfl, hb2⟩; have k0 := ((hb2.cell (p := ⟨g, 0, none⟩) (Nat.lt_of_lt_of_le hg HW.out.size)).trans k0); have k1 := ((hb2.cell (p := ⟨g, 1, none⟩) (Nat.lt_of_lt_of_le hg HW.out.size)).trans k1); have c0 := ((hb2.cell (p := ⟨cb, co + p, none⟩) (Nat.lt_of_lt_of_le hcb HW.out.size)).trans c0); have HW2 := Lib.hid (HW.out.trans (hb2.mono HW.out.size)); clear hb2))
              | (go_at_call 68; refine (contains_any _ _ _ _ _ (by omega) ((HB.out.below HW2.out).mono HW2.out.size)).mono ?_; rintro e w3 ⟨rfl, hb3⟩; rw [HAC.out]; have HW3 := Lib.hid (HW2.out.trans (hb3.mono HW2.out.size)); clear hb3)
            go_roundw
            case rel =>
              refine ⟨p + 2, f, m + co1, by omega, by go_num, rfl, ?_, ?_, ?_, HW4.out⟩
              · have := H1b.out; exact (by omega : t.colours.length ≤ p + 2 + f)
              · have := H2b.out; rw [HH.out, HH1.out] at this; simp only [Bool.or_true, Bool.false_or, if_true] at this; exact (by omega : m + co1 + platesF t.colours t.pairs h f (p + 2) = T)
              · have := H3b.out; have := HCK.out; exact ⟨by omega, by omega⟩
            case measure => simp [intOf]; omega
        · rw [hh] at HFP
          have HH := Lib.hid hh
          clear hh
          go_wp2_with first
            | (go_at_call 109; refine HFP.out.mono ?_; rintro e w2 ⟨rfl, hb2⟩; have k0 := ((hb2.cell (p := ⟨g, 0, none⟩) (Nat.lt_of_lt_of_le hg HW.out.size)).trans k0); have k1 := ((hb2.cell (p := ⟨g, 1, none⟩) (Nat.lt_of_lt_of_le hg HW.out.size)).trans k1); have c0 := ((hb2.cell (p := ⟨cb, co + p, none⟩) (Nat.lt_of_lt_of_le hcb HW.out.size)).trans c0); have HW2 := Lib.hid (HW.out.trans (hb2.mono HW.out.size)); clear hb2)
            | (go_at_call 68; refine (contains_any _ _ _ _ _ (by omega) ((HB.out.below HW2.out).mono HW2.out.size)).mono ?_; rintro e w3 ⟨rfl, hb3⟩; rw [HAC.out]; have HW3 := Lib.hid (HW2.out.trans (hb3.mono HW2.out.size)); clear hb3)
          go_roundw
          case rel =>
            refine ⟨p + 2, f, m + co1, by omega, by go_num, rfl, ?_, ?_, ?_, HW3.out⟩
            · have := H1b.out; exact (by omega : t.colours.length ≤ p + 2 + f)
            · have := H2b.out; rw [HH.out] at this; simp only [Bool.true_or, if_true] at this; exact (by omega : m + co1 + platesF t.colours t.pairs h f (p + 2) = T)
            · have := H3b.out; have := HCK.out; exact ⟨by omega, by omega⟩
          case measure => simp [intOf]; omega
    · obtain rfl : p = t.colours.length := by omega
      have hm : m = T := by
        have := H2.out
        rw [platesF_end (Nat.le_refl _)] at this
        omega
      have HM := Lib.hid hm
      clear hm
      go_wp2_with fail
      go_ret
      exact ⟨ret_int HM.out, HW.out⟩
end Go.Proofs.Ytokdleanpkkdpaa
namespace Go.Ed
theorem readyN_bd {l : List (Int × Int × Int)} (h : ∀ r ∈ l, 0 ≤ r.2.2 ∧ r.2.2 ≤ 86400) (v : List Int) : ∀ k, k ≤ l.length → 0 ≤ readyN l v k ∧ readyN l v k ≤ 86400 := by
  intro k
  induction k with
  | zero => intro _; simp [readyN]
  | succ k ih =>
    intro hk
    have h0 := ih (by omega)
    have hg : l.getD k (0, 0, 0) = l[k] := by simp [show k < l.length by omega]
    have := h _ (List.getElem_mem (show k < l.length by omega))
    unfold readyN
    rw [hg]
    split <;> omega
end Go.Ed
namespace Go.Proofs.Ytokdleanpkkdpaa
open Go.RowKit Go.Fh Go.Ed

set_option maxRecDepth 20000 in
set_option maxHeartbeats 4000000 in
theorem ready_any (t : TitD) (x : TA) (E C : Value) (g : Nat) (al : Int) (e : EdD) (y : EA) (w : World) (hrl : t.ready.length ≤ 1000000000) (hk : Blk w g 129 (workC t x E C al))
    (hR : Sl enc3 3 w w.heap.size x.r t.ready) (hV : Sl encInt 1 w w.heap.size y.v e.variants) (hr : ∀ r ∈ t.ready, 0 ≤ r.1 ∧ r.1 < e.variants.length) :
    Calls Try.prog 79 #[.pointer (some ⟨g, 0, none⟩), .agg (edV e y)] w fun r w' => r = .returned (.int .i64 (readyN t.ready e.variants t.ready.length)) ∧ Below w.heap.size w w' := by
  obtain ⟨w1, hw1⟩ : ∃ W, W = w.alloc (.cells (edV e y) 52) := ⟨_, rfl⟩
  have hbw : Below w.heap.size w w1 := by rw [hw1]; exact (Below.refl _ _).alloc (Nat.le_refl _) _
  obtain ⟨gE, hgE⟩ : ∃ g, g = w.heap.size := ⟨_, rfl⟩
  have kE : Blk w1 gE 52 (edV e y) := by rw [hw1, hgE]; exact Blk.new w 52 _
  have hg : g < w.heap.size := hk.lt
  have hk1 := hk.below hbw hg
  have hg1 : g < w1.heap.size := hk1.lt
  have hgE1 : gE < w1.heap.size := kE.lt
  have k3 := hk1.cell 3
  simp [workC] at k3
  have HR := Lib.hid hR
  have HV := Lib.hid hV
  have HRR := Lib.hid hr
  have HW1 := Lib.hid hw1
  have HGE := Lib.hid hgE
  have KE := Lib.hid kE
  have HBW := Lib.hid hbw
  clear hR hV hr hw1 hgE kE hbw hk hk1
  unfold edV at *
  go_enter Try.func79, Try.ntmps79
  go_upto_region 1 with fail
  rw [← HW1.out, ← HGE.out]
  go_wp2_with fail
  go_loopw [5, 14] (fun m i wr => ∃ k : Nat, k ≤ t.ready.length ∧ i = .int .i64 k ∧ m = .int .i64 (readyN t.ready e.variants k) ∧ Below w1.heap.size w1 wr) (fun _ i _ => t.ready.length - (intOf i).toNat)
  case atStart => exact ⟨0, Nat.zero_le _, rfl, rfl, Below.refl _ _⟩
  case round =>
    obtain ⟨k, hk, rfl, rfl, hW⟩ := hrel
    have HW := Lib.hid hW
    by_cases hlt : k < t.ready.length
    · obtain ⟨rb, ro, hxa, hrb, c0, c1, c2⟩ := (HR.out.below (HBW.out.trans (hW.mono HBW.out.size))).at3 hlt
      obtain ⟨pg, vr, at_, hq⟩ : ∃ a b c, t.ready[k] = (a, b, c) := ⟨_, _, _, rfl⟩
      have hrr := HRR.out _ (List.getElem_mem hlt)
      have hgd : t.ready.getD k (0, 0, 0) = (pg, vr, at_) := by rw [← hq]; simp [hlt]
      rw [hq] at c0 c1 c2 hrr
      dsimp only at c0 c1 c2 hrr
      obtain ⟨pn, rfl⟩ : ∃ n : Nat, pg = n := ⟨pg.toNat, by omega⟩
      have hpn : pn < e.variants.length := by omega
      obtain ⟨vb, vo, hva, hvb, d0⟩ := (HV.out.below (HBW.out.trans (hW.mono HBW.out.size))).at1 hpn
      have hvg : e.variants.getD pn (-1) = e.variants[pn] := by simp [hpn]
      obtain ⟨vv, hvv⟩ : ∃ v, v = e.variants[pn] := ⟨_, rfl⟩
      rw [← hvv] at d0 hvg
      have ke := KE.out.below hW hgE1
      have e4 := ke.cell 4
      simp at e4
      rw [hva] at e4
      rw [hxa]
      have hs : readyN t.ready e.variants (k + 1) = if vv = vr then max (readyN t.ready e.variants k) at_ else readyN t.ready e.variants k := by
        conv => lhs; unfold readyN
        rw [hgd]
        simp only [Int.toNat_natCast, hvg]
      obtain ⟨rn, hrn⟩ : ∃ r, r = readyN t.ready e.variants k := ⟨_, rfl⟩
      rw [← hrn] at hs ⊢
      obtain ⟨w2, hw2⟩ : ∃ W, W = wr.alloc (.cells #[.int .i64 (pn : Int), .int .i64 vr, .int .i64 at_] 69) := ⟨_, rfl⟩
      obtain ⟨gR, hgR⟩ : ∃ g, g = wr.heap.size := ⟨_, rfl⟩
      have kR : Blk w2 gR 69 #[.int .i64 (pn : Int), .int .i64 vr, .int .i64 at_] := by rw [hw2, hgR]; exact Blk.new wr 69 _
      have hb2 : Below wr.heap.size wr w2 := by rw [hw2]; exact (Below.refl _ _).alloc (Nat.le_refl _) _
      have q0 := kR.cell 0
      have q1 := kR.cell 1
      have q2 := kR.cell 2
      simp at q0 q1 q2
      have ke2 := (KE.out.below (hW.trans (hb2.mono hW.size)) hgE1).cell 4
      simp at ke2
      rw [hva] at ke2
      have d2 := (hb2.cell (p := ⟨vb, vo + pn, none⟩) (Nat.lt_of_lt_of_le hvb (HBW.out.trans (hW.mono HBW.out.size)).size)).trans d0
      have HW2 := Lib.hid (hW.trans (hb2.mono hW.size))
      have HW2W := Lib.hid hw2
      have HGR := Lib.hid hgR
      have HS := Lib.hid hs
      have HRN := Lib.hid hrn
      clear hW hw2 hgR kR hb2 hs hrn hva hxa hvv hvg hgd hq e4 ke
      by_cases he : vv = vr
      · have t1 : (vv == vr) = true := by simp [he]
        have hm : readyN t.ready e.variants (k + 1) = max rn at_ := by rw [HS.out, if_pos he]
        have HM := Lib.hid hm
        clear he hm
        go_upto_region 5 with fail
        rw [← HW2W.out, ← HGR.out]
        go_quiet (fail)
        go_wp2_with fail
        go_roundw
        case rel => exact ⟨k + 1, by omega, by go_num, int_eq HM.out.symm, below_drewN HW2.out _⟩
        case measure => simp [intOf]; omega
      · have t1 : (vv == vr) = false := by simp [he]
        have hm : readyN t.ready e.variants (k + 1) = rn := by rw [HS.out, if_neg he]
        have HM := Lib.hid hm
        clear he hm
        go_upto_region 5 with fail
        rw [← HW2W.out, ← HGR.out]
        go_quiet (fail)
        go_wp2_with fail
        go_roundw
        case rel => exact ⟨k + 1, by omega, by go_num, int_eq HM.out.symm, below_drewN HW2.out _⟩
        case measure => simp [intOf]; omega
    · obtain rfl : k = t.ready.length := by omega
      go_wp2_with fail
      go_ret
      exact ⟨rfl, HBW.out.trans (HW.out.mono HBW.out.size)⟩
end Go.Proofs.Ytokdleanpkkdpaa
