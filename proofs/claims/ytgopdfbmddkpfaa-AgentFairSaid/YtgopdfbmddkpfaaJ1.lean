/- Contract of Fair; conditions: none. -/
import Derived.Test.YtgopdfbmddkpfaaH2
import Derived.Test.YtgopdfbmddkpfaaSpec7
import Derived.BigQuiet
import Derived.Deep.QuietTactic
set_option linter.unusedSimpArgs false
set_option linter.unusedVariables false
namespace Go.Ag
theorem fairR_err {l : List Ord3} {copies : Int} {sh : List Int} (h : sharedE l copies ≠ 0) : fairR l copies sh = (false, sharedE l copies) := by simp [fairR, h]
theorem fairR_len {l : List Ord3} {copies : Int} {sh : List Int} (h : sharedE l copies = 0) (hn : sh.length ≠ l.length) : fairR l copies sh = (false, 1) := by simp [fairR, h, hn]
theorem fairR_no {l : List Ord3} {copies : Int} {sh : List Int} (h : sharedE l copies = 0) (hn : sh.length = l.length) (hf : ¬ FairP l copies sh) : fairR l copies sh = (false, 0) := by simp [fairR, h, hn, fairB_false hf]
theorem fairR_yes {l : List Ord3} {copies : Int} {sh : List Int} (h : sharedE l copies = 0) (hn : sh.length = l.length) (hf : FairP l copies sh) : fairR l copies sh = (true, 0) := by simp [fairR, h, hn, fairB_true hf]
/-- a pair of agents for which shares are not fair -/
def unfair (l : List Ord3) (sh : List Int) (i k : Nat) : Prop := lsO l i < sh.getD i 0 ∧ sh.getD k 0 < cpO l k ∧ i ≠ k ∧ sh.getD k 0 * cpO l i < (sh.getD i 0 - 1) * cpO l k
end Go.Ag
namespace Go.Proofs.Ytgopdfbmddkpfaa
open Go.RowKit Go.Fh Go.Ag

set_option maxRecDepth 20000 in
set_option maxHeartbeats 4000000 in
theorem fair_any (A : Option Addr) (c : Nat) (l : List Ord3) (copies : Int) (S : Option Addr) (cs : Nat) (sh : List Int) (w : World) (hl : l.length ≤ 9223372036854775807) (hls : sh.length ≤ 9223372036854775807) (hA : Sl enc3 3 w w.heap.size A l) (hS : Sl encInt 1 w w.heap.size S sh) :
    Calls Try.prog 20 #[.slice A l.length c, .int .i64 copies, .slice S sh.length cs] w fun e w' => e = .returned (.tuple #[.bool (fairR l copies sh).1, .int .i64 (fairR l copies sh).2]) ∧ Below w.heap.size w w' := by
  have HA := Lib.hid hA
  have HSH := Lib.hid hS
  have HC := Lib.hid (shared_any A c l copies w hl hA)
  clear hA hS
  by_cases he : sharedE l copies = 0
  · have HE := Lib.hid he
    by_cases hn : sh.length = l.length
    · have t0 : ((sh.length : Int) != (l.length : Int)) = false := by simp [hn]
      obtain ⟨h40, hok, hc0, hneed⟩ := sharedE_zero he
      have HNO := Lib.hid (fun hf => fairR_no (sh := sh) he hn hf)
      have HYES := Lib.hid (fun hf => fairR_yes (sh := sh) he hn hf)
      have HOK := Lib.hid (fun i hi => okO hok (i := i) hi)
      have HN := Lib.hid hn
      clear he hn hok
      go_enter Try.func20, Try.ntmps20
      go_wp2_with fail
      refine HC.out.mono ?_
      rintro e w1 ⟨rfl, hb1⟩
      rw [HE.out]
      go_wp2_with fail
      go_loopw [9, 10, 30] (fun o g i wr => ∃ k : Nat, k ≤ l.length ∧ i = .int .i64 k ∧ o = .int .i64 (sumN (cpO l) k) ∧ g = .int .i64 (sumN (fun i => sh.getD i 0) k) ∧ Hid (∀ j, j < k → lsO l j ≤ sh.getD j 0 ∧ sh.getD j 0 ≤ cpO l j) ∧ Below w.heap.size w wr) (fun _ _ i _ => l.length - (intOf i).toNat)
      case atStart => exact ⟨0, Nat.zero_le _, rfl, rfl, rfl, fun j hj => by omega, hb1⟩
      case round =>
        obtain ⟨k, hk, rfl, rfl, rfl, HIN, hB⟩ := hrel
        have hcb := sumN_bd (f := cpO l) (n := k) (B := 10000) (fun j hj => by have := HOK.out j (by omega); omega)
        have hsb := sumN_bd (f := fun i => sh.getD i 0) (n := k) (B := 10000) (fun j hj => by have := HOK.out j (by omega); have := HIN.out j hj; omega)
        have hsz := hB.size
        by_cases hlt : k < l.length
        · obtain ⟨b, off, rfl, hb, c0, c1, c2⟩ := (HA.out.below hB).at3 hlt
          have hlt2 : k < sh.length := by rw [HN.out]; exact hlt
          obtain ⟨sb, so, rfl, hsb2, s0⟩ := (HSH.out.below hB).at1 hlt2
          obtain ⟨x, hx⟩ : ∃ x, x = l[k] := ⟨_, rfl⟩
          obtain ⟨y, hy⟩ : ∃ y, y = sh[k] := ⟨_, rfl⟩
          have hyk : sh.getD k 0 = y := by simp [hy, hlt2]
          have hlk : lsO l k = x.2.2 := by simp [lsO, hx, hlt]
          have hck : cpO l k = x.2.1 := by simp [cpO, hx, hlt]
          have hbk := HOK.out k hlt
          rw [← hx] at c0 c1 c2
          rw [← hy] at s0
          rw [hlk, hck] at hbk
          have hbw : b < wr.heap.size := by omega
          have hsbw : sb < wr.heap.size := by omega
          have e0 := Below.cell ((Below.refl wr.heap.size wr).alloc (Nat.le_refl _) (.cells #[.int .i64 x.1, .int .i64 x.2.1, .int .i64 x.2.2] 44)) (p := ⟨sb, so + k, none⟩) hsbw
          rw [s0] at e0
          have hBn := hB.alloc hB.size (.cells #[.int .i64 x.1, .int .i64 x.2.1, .int .i64 x.2.2] 44)
          have hs1 : sumN (cpO l) (k + 1) = sumN (cpO l) k + x.2.1 := by rw [← hck]; rfl
          have hs2 : sumN (fun i => sh.getD i 0) (k + 1) = sumN (fun i => sh.getD i 0) k + y := by rw [← hyk]; rfl
          have HX := Lib.hid hx
          have HY := Lib.hid hy
          have HYK := Lib.hid hyk
          have HLK := Lib.hid hlk
          have HCK := Lib.hid hck
          have HS1 := Lib.hid hs1
          have HS2 := Lib.hid hs2
          have HBN := Lib.hid hBn
          have hlk40 : (k : Int) ≤ 40 := by omega
          clear hx hy hyk hlk hck hs1 hs2 hBn
          generalize hg1 : sumN (cpO l) k = oc at *
          generalize hg2 : sumN (fun i => sh.getD i 0) k = gc at *
          clear hg1 hg2
          cases hin : inB y x.2.2 x.2.1
          · have hno : ¬ FairP l copies sh := by
              intro hf
              have := hf.1 k hlt
              rw [HYK.out, HLK.out, HCK.out] at this
              rw [inB_iff.2 this] at hin
              cases hin
            have HF := Lib.hid (HNO.out hno)
            clear hno
            go_wp2_with fail
            go_quiet ((go_at_call 48; exact Calls.quiet_of_same ((within_any _ _ _ _).mono (fun e w' he => ⟨he.1, he.2.symm⟩))))
            go_wp2_with fail
            go_ret2
            exact ⟨by rw [HF.out]; rfl, below_drewN HBN.out _⟩
          · obtain ⟨i1, i2⟩ := inB_iff.1 hin
            have g1 := IntWalk.i64_in (oc + x.2.1) (by omega)
            have g2 := IntWalk.i64_in (gc + y) (by omega)
            go_wp2_with fail
            go_quiet ((go_at_call 48; exact Calls.quiet_of_same ((within_any _ _ _ _).mono (fun e w' he => ⟨he.1, he.2.symm⟩))))
            go_wp2_with fail
            go_roundw
            case rel =>
              refine ⟨k + 1, by omega, by go_num, int_eq (by rw [HS1.out]), int_eq (by rw [HS2.out]), ?_, below_drewN HBN.out _⟩
              intro j hj
              by_cases e : j = k
              · subst e; rw [HYK.out, HLK.out, HCK.out]; exact ⟨i1, i2⟩
              · exact HIN.out j (by omega)
            case measure => simp [intOf]; omega
        · obtain rfl : k = l.length := by omega
          generalize hg1 : sumN (cpO l) l.length = oc at *
          generalize hg2 : sumN (fun i => sh.getD i 0) l.length = gc at *
          have HG1 := Lib.hid hg1
          have HG2 := Lib.hid hg2
          clear hg1 hg2
          by_cases hmin : gc = min oc copies
          · have t1 : (gc != min oc copies) = false := by simp [hmin]
            have HMIN := Lib.hid hmin
            clear hmin hcb hsb
            go_wp2_with fail
            go_loopw [63] (fun i wr => ∃ k : Nat, k ≤ l.length ∧ i = .int .i64 k ∧ Hid (∀ i, i < k → ∀ j, j < l.length → ¬ unfair l sh i j) ∧ Below w.heap.size w wr) (fun i _ => l.length - (intOf i).toNat)
            case atStart => exact ⟨0, Nat.zero_le _, rfl, fun i hi => by omega, hB⟩
            case round =>
              clear hB hsz
              obtain ⟨k, hk, rfl, HU, hB⟩ := hrel
              have hsz := hB.size
              by_cases hlt : k < l.length
              · obtain ⟨b, off, rfl, hb, c0, c1, c2⟩ := (HA.out.below hB).at3 hlt
                obtain ⟨x, hx⟩ : ∃ x, x = l[k] := ⟨_, rfl⟩
                have hlk : lsO l k = x.2.2 := by simp [lsO, hx, hlt]
                have hck : cpO l k = x.2.1 := by simp [cpO, hx, hlt]
                have hbk := HOK.out k hlt
                rw [← hx] at c0 c1 c2
                rw [hlk, hck] at hbk
                obtain ⟨⟨x1, x2⟩, x3⟩ := hbk
                have hbw : b < wr.heap.size := by omega
                have HX := Lib.hid hx
                have HLK := Lib.hid hlk
                have HCK := Lib.hid hck
                have hBn := hB.alloc hB.size (.cells #[.int .i64 x.1, .int .i64 x.2.1, .int .i64 x.2.2] 44)
                obtain ⟨g1, hg1⟩ : ∃ g, g = wr.heap.size := ⟨_, rfl⟩
                have hbn : Blk (wr.alloc (.cells #[.int .i64 x.1, .int .i64 x.2.1, .int .i64 x.2.2] 44)) g1 44 #[.int .i64 x.1, .int .i64 x.2.1, .int .i64 x.2.2] := by rw [hg1]; exact Blk.new _ _ _
                have HBN := Lib.hid hBn
                have HKN := Lib.hid hbn
                have hgw : w.heap.size ≤ g1 := by omega
                clear hx hlk hck hBn hbn
                go_wp2_with fail
                rw [← hg1]
                go_loopw [70] (fun i wr => ∃ j : Nat, j ≤ l.length ∧ i = .int .i64 j ∧ Hid (∀ m, m < j → ¬ unfair l sh k m) ∧ Blk wr g1 44 #[.int .i64 x.1, .int .i64 x.2.1, .int .i64 x.2.2] ∧ Below w.heap.size w wr) (fun i _ => l.length - (intOf i).toNat)
                case atStart => exact ⟨0, Nat.zero_le _, rfl, fun i hi => by omega, HKN.out, HBN.out⟩
                case round =>
                  clear hB hsz hbw hg1 c0 c1 c2
                  obtain ⟨j, hj, rfl, HV, hbl, hB⟩ := hrel
                  have hsz := hB.size
                  have hgl := hbl.lt
                  by_cases hjt : j < l.length
                  · obtain ⟨d0, d1, d2⟩ : (wr.cell? ⟨b, off + j * 3, none⟩ = some (.int .i64 l[j].1)) ∧ (wr.cell? ⟨b, off + j * 3 + 1, none⟩ = some (.int .i64 l[j].2.1)) ∧ (wr.cell? ⟨b, off + j * 3 + 2, none⟩ = some (.int .i64 l[j].2.2)) := by
                      obtain ⟨b', off', e', _, d0, d1, d2⟩ := (HA.out.below hB).at3 hjt
                      obtain ⟨rfl, rfl⟩ : b = b' ∧ off = off' := by simpa using e'
                      exact ⟨d0, d1, d2⟩
                    obtain ⟨z, hz⟩ : ∃ z, z = l[j] := ⟨_, rfl⟩
                    rw [← hz] at d0 d1 d2
                    have hcj : cpO l j = z.2.1 := by simp [cpO, hz, hjt]
                    have hkt2 : k < sh.length := by rw [HN.out]; exact hlt
                    have hjt2 : j < sh.length := by rw [HN.out]; exact hjt
                    obtain ⟨sb, so, hse, hsb2, s0⟩ := (HSH.out.below hB).at1 hkt2
                    obtain ⟨sb', so', hse', _, s1⟩ := (HSH.out.below hB).at1 hjt2
                    obtain ⟨rfl, rfl⟩ : sb = sb' ∧ so = so' := by rw [hse] at hse'; simpa using hse'
                    obtain ⟨y, hy⟩ : ∃ y, y = sh[k] := ⟨_, rfl⟩
                    obtain ⟨v, hv⟩ : ∃ v, v = sh[j] := ⟨_, rfl⟩
                    rw [← hy] at s0
                    rw [← hv] at s1
                    subst hse
                    have hyk : sh.getD k 0 = y := by simp [hy, hkt2]
                    have hvj : sh.getD j 0 = v := by simp [hv, hjt2]
                    have hun : unfair l sh k j ↔ (x.2.2 < y ∧ v < z.2.1 ∧ k ≠ j ∧ v * x.2.1 < (y - 1) * z.2.1) := by unfold unfair; rw [hyk, hvj, hcj, HLK.out, HCK.out]
                    have hyb := HIN.out k hlt
                    have hvb := HIN.out j hjt
                    have hzb := (HOK.out j hjt).2
                    have hzb0 := (HOK.out j hjt).1
                    rw [hyk, HLK.out, HCK.out] at hyb
                    rw [hvj, hcj] at hvb
                    rw [hcj] at hzb hzb0
                    obtain ⟨y1, y2⟩ := hyb
                    have hv0 : 0 ≤ v := by omega
                    have hbw : b < wr.heap.size := by omega
                    have hsbw : sb < wr.heap.size := by omega
                    have f1 := Below.cell ((Below.refl wr.heap.size wr).alloc (Nat.le_refl _) (.cells #[.int .i64 z.1, .int .i64 z.2.1, .int .i64 z.2.2] 44)) (p := ⟨sb, so + k, none⟩) hsbw
                    have f2 := Below.cell ((Below.refl wr.heap.size wr).alloc (Nat.le_refl _) (.cells #[.int .i64 z.1, .int .i64 z.2.1, .int .i64 z.2.2] 44)) (p := ⟨sb, so + j, none⟩) hsbw
                    rw [s0] at f1
                    rw [s1] at f2
                    have hbl2 := hbl.alloc (.cells #[.int .i64 z.1, .int .i64 z.2.1, .int .i64 z.2.2] 44)
                    have q0 := hbl2.cell 0
                    have q1 := hbl2.cell 1
                    have q2 := hbl2.cell 2
                    simp at q0 q1 q2
                    have hBn := hB.alloc hB.size (.cells #[.int .i64 z.1, .int .i64 z.2.1, .int .i64 z.2.2] 44)
                    have HBL2 := Lib.hid hbl2
                    have HBN2 := Lib.hid hBn
                    have HUN := Lib.hid hun
                    have m1 := mul_bd (a := y - 1 + 1) (b := z.2.1) (by omega) (by omega) (by omega) hzb
                    have m2 := mul_bd hv0 (by omega : v ≤ 10000) (by omega : 0 ≤ x.2.1) x3
                    have m3 : (y - 1) * z.2.1 = (y - 1 + 1) * z.2.1 - z.2.1 := by rw [Int.add_mul]; omega
                    have w1 := IntWalk.i64_in (y - 1) (by omega)
                    have w2 := IntWalk.i64_in ((y - 1) * z.2.1) (by omega)
                    have w3 := IntWalk.i64_in (v * x.2.1) (by omega)
                    clear hz hcj hy hv hyk hvj hbl2 hBn hbl m1 m2 m3 hvb hzb0
                    by_cases hu : unfair l sh k j
                    · obtain ⟨u1, u2, u3, u4⟩ := hun.1 hu
                      have HF := Lib.hid (HNO.out (fun hf => hf.2.2 k j hlt hjt hu))
                      have D1 : decide (x.2.2 < y) = true := decide_eq_true u1
                      have D2 : decide (v < z.2.1) = true := decide_eq_true u2
                      have D3 : ((k : Int) != (j : Int)) = true := by simp; omega
                      have D4 : decide (v * x.2.1 < (y - 1) * z.2.1) = true := decide_eq_true u4
                      clear hun hu u1 u2 u3 u4
                      go_wp2_with fail
                      go_quiet (fail)
                      go_wp2_with fail
                      go_ret2
                      exact ⟨by rw [HF.out]; rfl, below_drewN HBN2.out _⟩
                    · have hor : decide (x.2.2 < y) = false ∨ (decide (x.2.2 < y) = true ∧ decide (v < z.2.1) = false) ∨ (decide (x.2.2 < y) = true ∧ decide (v < z.2.1) = true ∧ ((k : Int) != (j : Int)) = false) ∨ (decide (x.2.2 < y) = true ∧ decide (v < z.2.1) = true ∧ ((k : Int) != (j : Int)) = true ∧ decide (v * x.2.1 < (y - 1) * z.2.1) = false) := by
                        by_cases a1 : x.2.2 < y
                        · by_cases a2 : v < z.2.1
                          · by_cases a3 : k = j
                            · exact .inr (.inr (.inl ⟨decide_eq_true a1, decide_eq_true a2, by simp [a3]⟩))
                            · exact .inr (.inr (.inr ⟨decide_eq_true a1, decide_eq_true a2, by simp; omega, decide_eq_false (fun a4 => hu (hun.2 ⟨a1, a2, a3, a4⟩))⟩))
                          · exact .inr (.inl ⟨decide_eq_true a1, decide_eq_false a2⟩)
                        · exact .inl (decide_eq_false a1)
                      have HNU := Lib.hid hu
                      clear hun hu
                      rcases hor with D1 | ⟨D1, D2⟩ | ⟨D1, D2, D3⟩ | ⟨D1, D2, D3, D4⟩
                      all_goals
                        go_wp2_with fail
                        go_quiet (fail)
                        go_wp2_with fail
                        go_roundw
                        case rel =>
                          refine ⟨j + 1, by omega, by go_num, ?_, HBL2.out.drewN _, below_drewN HBN2.out _⟩
                          intro m hm
                          by_cases e : m = j
                          · subst e; exact HNU.out
                          · exact HV.out m (by omega)
                        case measure => simp [intOf]; omega
                  · obtain rfl : j = l.length := by omega
                    go_wp2_with fail
                    go_roundw
                    case rel =>
                      refine ⟨k + 1, by omega, by go_num, ?_, hB⟩
                      intro i hi
                      by_cases e : i = k
                      · subst e; exact HV.out
                      · exact HU.out i (by omega)
                    case measure => simp [intOf]; omega
              · obtain rfl : k = l.length := by omega
                have HF := Lib.hid (HYES.out ⟨HIN.out, by rw [HG1.out, HG2.out]; exact HMIN.out, fun i k hi hk => HU.out i hi k hk⟩)
                go_wp2_with fail
                go_ret2
                exact ⟨by rw [HF.out]; rfl, hB⟩
          · have HF := Lib.hid (HNO.out (fun hf => hmin (by have := hf.2.1; rw [HG1.out, HG2.out] at this; exact this)))
            have t1 : (gc != min oc copies) = true := by simp [hmin]
            clear hmin
            go_wp2_with fail
            go_ret2
            exact ⟨by rw [HF.out]; rfl, hB⟩
    · have t0 : ((sh.length : Int) != (l.length : Int)) = true := by simp; omega
      have HF := Lib.hid (fairR_len (sh := sh) he hn)
      clear he hn
      go_enter Try.func20, Try.ntmps20
      go_wp2_with fail
      refine HC.out.mono ?_
      rintro e w1 ⟨rfl, hb1⟩
      rw [HE.out]
      go_wp2_with fail
      go_ret2
      exact ⟨by rw [HF.out]; rfl, hb1⟩
  · have t0 : (sharedE l copies != 0) = true := by simp [he]
    have HF := Lib.hid (fairR_err (sh := sh) he)
    clear he
    go_enter Try.func20, Try.ntmps20
    go_wp2_with fail
    refine HC.out.mono ?_
    rintro e w1 ⟨rfl, hb1⟩
    go_wp2_with fail
    go_ret2
    exact ⟨by rw [HF.out]; rfl, hb1⟩
end Go.Proofs.Ytgopdfbmddkpfaa
