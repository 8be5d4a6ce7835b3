/- Walk of AgentReaders: it returns true and turns nothing that was there; conditions: none. -/
import Derived.Test.YtgopdfbmddkpfaaVF
set_option linter.unusedSimpArgs false
set_option linter.unusedVariables false
namespace Go.Proofs.Ytgopdfbmddkpfaa
open Go.RowKit Go.Fh Go.Ag
def toomany (l : List SubM) (k : Nat) : Bool := (decide (20 < l.length) && decide (l.length ≤ 500)) || decide (600 < l.length) || (decide (40 < k) && decide (k ≤ 500)) || decide (600 < k) || l.any long30

set_option maxRecDepth 20000 in
set_option maxHeartbeats 4000000 in
theorem agentReaders_walk (haw : ∀ w, Calls Try.prog 15 #[] w fun e w' => e = .returned (.bool true) ∧ Below w.heap.size w w') (l : List SubM) (A : Option Addr) (ca : Nat) (t : TariffD) (cm : List (Int × Int)) (C : Option Addr) (cc : Nat) (day a b : Int) (w : World) (hl : l.length ≤ 9223372036854775807) (hcl : cm.length ≤ 9223372036854775807)
    (hA : Sl encSub 5 w w.heap.size A l) (hI : ∀ x ∈ l, Sl enc2 2 w w.heap.size x.2.1 x.1.hol) (hC : Sl enc2 2 w w.heap.size C cm) :
    Calls Try.prog 12 #[.slice A l.length ca, .agg (tarV t), .slice C cm.length cc, .int .i64 day, .int .i64 a, .int .i64 b] w fun e w' => e = .returned (.bool true) ∧ Below w.heap.size w w' := by
  obtain ⟨w1, hw1⟩ : ∃ W, W = w.alloc (.cells (tarV t) 36) := ⟨_, rfl⟩
  have hb1 : Below w.heap.size w w1 := by rw [hw1]; exact (Below.refl _ _).alloc (Nat.le_refl _) _
  have kT : Blk w1 w.heap.size 36 (tarV t) := by rw [hw1]; exact Blk.new _ _ _
  have HAL := Lib.hid (anyLong_any A ca l w1 hl ((hA.below hb1).mono hb1.size))
  have HRD := Lib.hid (fun W (hW : Below w.heap.size w W) h1 h2 h3 => readers_any l A ca t cm C cc day a b W h1 h2 h3 ((hA.below hW).mono hW.size) (fun y hy => ((hI y hy).below hW).mono hW.size) ((hC.below hW).mono hW.size))
  obtain ⟨v, hv⟩ : ∃ v, v = toomany l cm.length := ⟨_, rfl⟩
  have HV := Lib.hid hv
  have HB1 := Lib.hid hb1
  have KT := Lib.hid kT
  have HW1 := Lib.hid hw1
  obtain ⟨gT, hgT⟩ : ∃ g, g = w.heap.size := ⟨_, rfl⟩
  have HGT := Lib.hid hgT
  clear hA hI hC hv hb1 kT hw1 hgT
  unfold tarV at *
  go_enter Try.func12, Try.ntmps12
  go_upto_region 1 with fail
  rw [← HW1.out, ← HGT.out]
  go_cut [44] (fun p wx => p = .bool v ∧ Below w1.heap.size w1 wx)
  case first =>
    by_cases n1 : 20 < l.length
    · by_cases n2 : l.length ≤ 500
      · have t1 : decide ((20 : Int) < (l.length : Int)) = true := by simp; omega
        have t2 : decide ((l.length : Int) ≤ (500 : Int)) = true := by simp; omega
        have hv : v = true := by rw [HV.out]; simp [toomany, n1, n2]
        have HV2 := Lib.hid hv
        clear hv n1 n2
        go_wp2_with fail
        go_meet
        exact ⟨by rw [HV2.out], Below.refl _ _⟩
      · by_cases n3 : 600 < l.length
        · have t1 : decide ((20 : Int) < (l.length : Int)) = true := by simp; omega
          have t2 : decide ((l.length : Int) ≤ (500 : Int)) = false := by simp; omega
          have t3 : decide ((600 : Int) < (l.length : Int)) = true := by simp; omega
          have hv : v = true := by rw [HV.out]; simp [toomany, n3]
          have HV2 := Lib.hid hv
          clear hv n1 n2 n3
          go_wp2_with fail
          go_meet
          exact ⟨by rw [HV2.out], Below.refl _ _⟩
        · have t1 : decide ((20 : Int) < (l.length : Int)) = true := by simp; omega
          have t2 : decide ((l.length : Int) ≤ (500 : Int)) = false := by simp; omega
          have t3 : decide ((600 : Int) < (l.length : Int)) = false := by simp; omega
          have hvv : v = ((decide (40 < cm.length) && decide (cm.length ≤ 500)) || decide (600 < cm.length) || l.any long30) := by rw [HV.out]; simp [toomany, n2, n3]
          have HVV := Lib.hid hvv
          clear hvv n1 n2 n3
          by_cases k1 : 40 < cm.length
          · by_cases k2 : cm.length ≤ 500
            · have t4 : decide ((40 : Int) < (cm.length : Int)) = true := by simp; omega
              have t5 : decide ((cm.length : Int) ≤ (500 : Int)) = true := by simp; omega
              have hv : v = true := by rw [HVV.out]; simp [k1, k2]
              have HV2 := Lib.hid hv
              clear hv k1 k2
              go_wp2_with fail
              go_meet
              exact ⟨by rw [HV2.out], Below.refl _ _⟩
            · by_cases k3 : 600 < cm.length
              · have t4 : decide ((40 : Int) < (cm.length : Int)) = true := by simp; omega
                have t5 : decide ((cm.length : Int) ≤ (500 : Int)) = false := by simp; omega
                have t6 : decide ((600 : Int) < (cm.length : Int)) = true := by simp; omega
                have hv : v = true := by rw [HVV.out]; simp [k3]
                have HV2 := Lib.hid hv
                clear hv k1 k2 k3
                go_wp2_with fail
                go_meet
                exact ⟨by rw [HV2.out], Below.refl _ _⟩
              · have t4 : decide ((40 : Int) < (cm.length : Int)) = true := by simp; omega
                have t5 : decide ((cm.length : Int) ≤ (500 : Int)) = false := by simp; omega
                have t6 : decide ((600 : Int) < (cm.length : Int)) = false := by simp; omega
                have hv : v = l.any long30 := by rw [HVV.out]; simp [k2, k3]
                have HV2 := Lib.hid hv
                clear hv k1 k2 k3
                go_wp2_with fail
                refine HAL.out.mono ?_
                rintro e w2 ⟨rfl, hb2⟩
                go_wp2_with fail
                go_meet
                exact ⟨by rw [HV2.out], hb2⟩
          · have t4 : decide ((40 : Int) < (cm.length : Int)) = false := by simp; omega
            have t6 : decide ((600 : Int) < (cm.length : Int)) = false := by simp; omega
            have hv : v = l.any long30 := by rw [HVV.out]; simp [k1, show ¬ 600 < cm.length by omega]
            have HV2 := Lib.hid hv
            clear hv k1
            go_wp2_with fail
            refine HAL.out.mono ?_
            rintro e w2 ⟨rfl, hb2⟩
            go_wp2_with fail
            go_meet
            exact ⟨by rw [HV2.out], hb2⟩
    · have t1 : decide ((20 : Int) < (l.length : Int)) = false := by simp; omega
      have t3 : decide ((600 : Int) < (l.length : Int)) = false := by simp; omega
      have hvv : v = ((decide (40 < cm.length) && decide (cm.length ≤ 500)) || decide (600 < cm.length) || l.any long30) := by rw [HV.out]; simp [toomany, n1, show ¬ 600 < l.length by omega]
      have HVV := Lib.hid hvv
      clear hvv n1
      by_cases k1 : 40 < cm.length
      · by_cases k2 : cm.length ≤ 500
        · have t4 : decide ((40 : Int) < (cm.length : Int)) = true := by simp; omega
          have t5 : decide ((cm.length : Int) ≤ (500 : Int)) = true := by simp; omega
          have hv : v = true := by rw [HVV.out]; simp [k1, k2]
          have HV2 := Lib.hid hv
          clear hv k1 k2
          go_wp2_with fail
          go_meet
          exact ⟨by rw [HV2.out], Below.refl _ _⟩
        · by_cases k3 : 600 < cm.length
          · have t4 : decide ((40 : Int) < (cm.length : Int)) = true := by simp; omega
            have t5 : decide ((cm.length : Int) ≤ (500 : Int)) = false := by simp; omega
            have t6 : decide ((600 : Int) < (cm.length : Int)) = true := by simp; omega
            have hv : v = true := by rw [HVV.out]; simp [k3]
            have HV2 := Lib.hid hv
            clear hv k1 k2 k3
            go_wp2_with fail
            go_meet
            exact ⟨by rw [HV2.out], Below.refl _ _⟩
          · have t4 : decide ((40 : Int) < (cm.length : Int)) = true := by simp; omega
            have t5 : decide ((cm.length : Int) ≤ (500 : Int)) = false := by simp; omega
            have t6 : decide ((600 : Int) < (cm.length : Int)) = false := by simp; omega
            have hv : v = l.any long30 := by rw [HVV.out]; simp [k2, k3]
            have HV2 := Lib.hid hv
            clear hv k1 k2 k3
            go_wp2_with fail
            refine HAL.out.mono ?_
            rintro e w2 ⟨rfl, hb2⟩
            go_wp2_with fail
            go_meet
            exact ⟨by rw [HV2.out], hb2⟩
      · have t4 : decide ((40 : Int) < (cm.length : Int)) = false := by simp; omega
        have t6 : decide ((600 : Int) < (cm.length : Int)) = false := by simp; omega
        have hv : v = l.any long30 := by rw [HVV.out]; simp [k1, show ¬ 600 < cm.length by omega]
        have HV2 := Lib.hid hv
        clear hv k1
        go_wp2_with fail
        refine HAL.out.mono ?_
        rintro e w2 ⟨rfl, hb2⟩
        go_wp2_with fail
        go_meet
        exact ⟨by rw [HV2.out], hb2⟩
  case rest =>
    obtain ⟨rfl, hbc⟩ := hcut
    have HBC := Lib.hid (HB1.out.trans (hbc.mono HB1.out.size))
    have kc := KT.out.below hbc KT.out.lt
    have hgT := HGT.out
    rw [← hgT] at kc
    have q0 := kc.cell 0
    have q1 := kc.cell 1
    have q2 := kc.cell 2
    have q3 := kc.cell 3
    have q4 := kc.cell 4
    simp at q0 q1 q2 q3 q4
    clear hbc kc hgT
    cases v
    · have hf := HV.out
      have hfacts : l.length ≤ 600 ∧ cm.length ≤ 600 ∧ ∀ x ∈ l, x.1.hol.length ≤ 30 := by
        have h1 : toomany l cm.length = false := hf.symm
        simp only [toomany, Bool.or_eq_false_iff] at h1
        obtain ⟨⟨⟨⟨_, h2⟩, _⟩, h3⟩, h4⟩ := h1
        refine ⟨by simpa using h2, by simpa using h3, fun x hx => ?_⟩
        rw [List.any_eq_false] at h4
        have := h4 x hx
        simpa [long30] using this
      have HR := Lib.hid (HRD.out wc HBC.out hfacts.1 hfacts.2.1 hfacts.2.2)
      obtain ⟨dv, hdv⟩ : ∃ dv, IntKind.i64.wrap (b - a) = dv := ⟨_, rfl⟩
      clear hf hfacts
      by_cases p1 : 0 ≤ a
      · by_cases p2 : b ≤ 20000
        · by_cases p3 : 2000 < dv
          · have t1 : decide (0 ≤ a) = true := by simpa using p1
            have t2 : decide (b ≤ 20000) = true := by simpa using p2
            have t3 : decide (2000 < dv) = true := by simpa using p3
            clear p1 p2 p3
            go_wp2_with fail
            refine (haw _).mono ?_
            rintro e w3 ⟨rfl, hb3⟩
            have hbb := HBC.out.trans (hb3.mono HBC.out.size)
            go_wp2_with fail
            go_ret
            exact ⟨rfl, hbb⟩
          · have t1 : decide (0 ≤ a) = true := by simpa using p1
            have t2 : decide (b ≤ 20000) = true := by simpa using p2
            have t3 : decide (2000 < dv) = false := by simpa using p3
            clear p1 p2 p3
            go_wp2_with fail
            refine HR.out.mono ?_
            rintro e w2 ⟨rfl, hb2⟩
            have HB2 := Lib.hid (HBC.out.trans (hb2.mono HBC.out.size))
            clear hb2
            go_wp2_with fail
            refine (haw _).mono ?_
            rintro e w3 ⟨rfl, hb3⟩
            have hbb := HB2.out.trans (hb3.mono HB2.out.size)
            go_wp2_with fail
            go_ret
            exact ⟨rfl, hbb⟩
        · have t1 : decide (0 ≤ a) = true := by simpa using p1
          have t2 : decide (b ≤ 20000) = false := by simpa using p2
          clear p1 p2
          go_wp2_with fail
          refine HR.out.mono ?_
          rintro e w2 ⟨rfl, hb2⟩
          have HB2 := Lib.hid (HBC.out.trans (hb2.mono HBC.out.size))
          clear hb2
          go_wp2_with fail
          refine (haw _).mono ?_
          rintro e w3 ⟨rfl, hb3⟩
          have hbb := HB2.out.trans (hb3.mono HB2.out.size)
          go_wp2_with fail
          go_ret
          exact ⟨rfl, hbb⟩
      · have t1 : decide (0 ≤ a) = false := by simpa using p1
        clear p1
        go_wp2_with fail
        refine HR.out.mono ?_
        rintro e w2 ⟨rfl, hb2⟩
        have HB2 := Lib.hid (HBC.out.trans (hb2.mono HBC.out.size))
        clear hb2
        go_wp2_with fail
        refine (haw _).mono ?_
        rintro e w3 ⟨rfl, hb3⟩
        have hbb := HB2.out.trans (hb3.mono HB2.out.size)
        go_wp2_with fail
        go_ret
        exact ⟨rfl, hbb⟩
    · go_wp2_with fail
      refine (haw _).mono ?_
      rintro e w3 ⟨rfl, hb3⟩
      have hbb := HBC.out.trans (hb3.mono HBC.out.size)
      go_wp2_with fail
      go_ret
      exact ⟨rfl, hbb⟩
end Go.Proofs.Ytgopdfbmddkpfaa
