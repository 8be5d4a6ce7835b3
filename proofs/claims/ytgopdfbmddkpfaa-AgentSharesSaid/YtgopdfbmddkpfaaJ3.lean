/- Contract of the reference's Fair; conditions: none. -/
import Derived.Test.YtgopdfbmddkpfaaJ1
import Derived.Test.YtgopdfbmddkpfaaJ2
import Derived.Deep.RegionHeld3
import Derived.Deep.DeepCutAuto
import Derived.Deep.DeepMust
set_option linter.unusedSimpArgs false
set_option linter.unusedVariables false
namespace Go.Proofs.Ytgopdfbmddkpfaa
open Go.RowKit Go.Fh Go.Ag

set_option maxRecDepth 20000 in
set_option maxHeartbeats 4000000 in
theorem rfair_any (A : Option Addr) (c : Nat) (l : List Ord3) (copies : Int) (S : Option Addr) (cs : Nat) (sh : List Int) (w : World) (hl : l.length ≤ 9223372036854775807) (hls : sh.length ≤ 9223372036854775807) (hA : Sl enc3 3 w w.heap.size A l) (hS : Sl encInt 1 w w.heap.size S sh) :
    Calls Try.prog 63 #[.slice A l.length c, .int .i64 copies, .slice S sh.length cs] w fun e w' => e = .returned (.tuple #[.bool (fairR l copies sh).1, .int .i64 (fairR l copies sh).2]) ∧ Below w.heap.size w w' := by
  have HA := Lib.hid hA
  have HSH := Lib.hid hS
  have HC := Lib.hid (asked_any A c l copies w hl hA)
  clear hA hS
  by_cases he : sharedE l copies = 0
  · have HE := Lib.hid he
    by_cases hn : sh.length = l.length
    · have t0 : ((sh.length : Int) != (l.length : Int)) = false := by simp [hn]
      obtain ⟨h40, hok, hc0, hneed⟩ := sharedE_zero he
      have HNO := Lib.hid (fun hf => fairR_no (sh := sh) he hn hf)
      have HYES := Lib.hid (fun hf => fairR_yes (sh := sh) he hn hf)
      have HOK := Lib.hid (fun i hi => okO hok (i := i) hi)
      have HN := Lib.hid hn
      clear he hn hok
      go_enter Try.func63, Try.ntmps63
      go_wp2_with fail
      refine HC.out.mono ?_
      rintro e w1 ⟨rfl, hb1⟩
      rw [HE.out]
      go_wp2_with fail
      go_loopw [9, 10, 11] (fun o g i wr => ∃ k : Nat, k ≤ l.length ∧ i = .int .i64 k ∧ o = .int .i64 (sumN (cpO l) k) ∧ g = .int .i64 (sumN (fun i => sh.getD i 0) k) ∧ Hid (∀ j, j < k → lsO l j ≤ sh.getD j 0 ∧ sh.getD j 0 ≤ cpO l j) ∧ Below w.heap.size w wr) (fun _ _ i _ => l.length - (intOf i).toNat)
      case atStart => exact ⟨0, Nat.zero_le _, rfl, rfl, rfl, fun j hj => by omega, hb1⟩
      case round =>
        obtain ⟨k, hk, rfl, rfl, rfl, HIN, hB⟩ := hrel
        have hcb := sumN_bd (f := cpO l) (n := k) (B := 10000) (fun j hj => by have := HOK.out j (by omega); omega)
        have hsb := sumN_bd (f := fun i => sh.getD i 0) (n := k) (B := 10000) (fun j hj => by have := HOK.out j (by omega); have := HIN.out j hj; omega)
        have hle := sumN_le (f := fun i => sh.getD i 0) (g := cpO l) (n := k) (fun j hj => (HIN.out j hj).2)
        have hsz := hB.size
        by_cases hlt : k < l.length
        · obtain ⟨b, off, rfl, hb, c0, c1, c2⟩ := (HA.out.below hB).at3 hlt
          have hlt2 : k < sh.length := by rw [HN.out]; exact hlt
          obtain ⟨sb, so, rfl, hsb2, s0⟩ := (HSH.out.below hB).at1 hlt2
          obtain ⟨x, hx⟩ : ∃ x, x = l[k] := ⟨_, rfl⟩
          obtain ⟨y, hy⟩ : ∃ y, y = sh[k] := ⟨_, rfl⟩
          have hyk : sh.getD k 0 = y := by simp [hy, hlt2]
          have hlk : lsO l k = x.2.2 := by simp [lsO, hx, hlt]
          have hck : cpO l k = x.2.1 := by simp [cpO, hx, hlt]
          have hbk := HOK.out k hlt
          rw [← hx] at c0 c1 c2
          rw [← hy] at s0
          rw [hlk, hck] at hbk
          have hs1 : sumN (cpO l) (k + 1) = sumN (cpO l) k + x.2.1 := by rw [← hck]; rfl
          have hs2 : sumN (fun i => sh.getD i 0) (k + 1) = sumN (fun i => sh.getD i 0) k + y := by rw [← hyk]; rfl
          have HYK := Lib.hid hyk
          have HLK := Lib.hid hlk
          have HCK := Lib.hid hck
          have HS1 := Lib.hid hs1
          have HS2 := Lib.hid hs2
          have hlk40 : (k : Int) ≤ 40 := by omega
          clear hx hy hyk hlk hck hs1 hs2 hle
          generalize hg1 : sumN (cpO l) k = oc at *
          generalize hg2 : sumN (fun i => sh.getD i 0) k = gc at *
          clear hg1 hg2
          cases hin : inB y x.2.2 x.2.1
          · have hno : ¬ FairP l copies sh := by
              intro hf
              have := hf.1 k hlt
              rw [HYK.out, HLK.out, HCK.out] at this
              rw [inB_iff.2 this] at hin
              cases hin
            have HF := Lib.hid (HNO.out hno)
            clear hno
            go_wp2_with fail
            go_quiet ((go_at_call 103; exact Calls.quiet_of_same ((rin_any _ _ _ _).mono (fun e w' he => ⟨he.1, he.2.symm⟩))))
            go_wp2_with fail
            go_ret2
            exact ⟨by rw [HF.out]; rfl, below_drewN hB _⟩
          · obtain ⟨i1, i2⟩ := inB_iff.1 hin
            have g1 := IntWalk.i64_in (oc + x.2.1) (by omega)
            have g2 := IntWalk.i64_in (gc + y) (by omega)
            go_wp2_with fail
            go_quiet ((go_at_call 103; exact Calls.quiet_of_same ((rin_any _ _ _ _).mono (fun e w' he => ⟨he.1, he.2.symm⟩))))
            go_wp2_with fail
            go_roundw
            case rel =>
              refine ⟨k + 1, by omega, by go_num, int_eq (by rw [HS1.out]), int_eq (by rw [HS2.out]), ?_, below_drewN hB _⟩
              intro j hj
              by_cases e : j = k
              · subst e; rw [HYK.out, HLK.out, HCK.out]; exact ⟨i1, i2⟩
              · exact HIN.out j (by omega)
            case measure => simp [intOf]; omega
        · obtain rfl : k = l.length := by omega
          generalize hg1 : sumN (cpO l) l.length = oc at *
          generalize hg2 : sumN (fun i => sh.getD i 0) l.length = gc at *
          have HG1 := Lib.hid hg1
          have HG2 := Lib.hid hg2
          have hsr := sums_ref (copies := copies) hle
          clear hg1 hg2
          by_cases hmin : gc = min oc copies
          · have HMIN := Lib.hid hmin
            have hq := hsr.1 hmin
            have hor : (decide (copies < gc) = false) ∧ ((gc != copies) = false ∨ ((gc != copies) = true ∧ (gc != oc) = false)) := by
              refine ⟨decide_eq_false (fun h => hq (.inr h)), ?_⟩
              by_cases h1 : gc = copies
              · left; simp [h1]
              · right; refine ⟨by simp [h1], ?_⟩
                by_cases h2 : gc = oc
                · simp [h2]
                · exact absurd (.inl ⟨h1, h2⟩) hq
            obtain ⟨t1, hor⟩ := hor
            clear hmin hcb hsb hq hsr hle
            go_upto_region 14 with fail
            go_cut [72] (fun p wx => p = .bool false ∧ wx = wr)
            case first =>
              clear HA HSH HC HNO HYES HOK HIN
              rcases hor with t2 | ⟨t2, t3⟩
              all_goals
                go_wp2_with fail
                go_meet
                exact ⟨rfl, rfl⟩
            case rest =>
              obtain ⟨rfl, hwx⟩ := hcut
              rw [hwx]
              clear hwx hor t1
              go_wp2_with fail
              go_loopw [12] (fun i wr => ∃ k : Nat, k ≤ l.length ∧ i = .int .i64 k ∧ Hid (∀ i, i < k → ∀ j, j < l.length → ¬ unfair l sh i j) ∧ Below w.heap.size w wr) (fun i _ => l.length - (intOf i).toNat)
              case atStart => exact ⟨0, Nat.zero_le _, rfl, fun i hi => by omega, hB⟩
              case round =>
                clear hB hsz
                obtain ⟨k, hk, rfl, HU, hB⟩ := hrel
                have hsz := hB.size
                by_cases hlt : k < l.length
                · obtain ⟨b, off, rfl, hb, c0, c1, c2⟩ := (HA.out.below hB).at3 hlt
                  have hkt2 : k < sh.length := by rw [HN.out]; exact hlt
                  obtain ⟨sb, so, rfl, hsb2, s0⟩ := (HSH.out.below hB).at1 hkt2
                  obtain ⟨x, hx⟩ : ∃ x, x = l[k] := ⟨_, rfl⟩
                  obtain ⟨y, hy⟩ : ∃ y, y = sh[k] := ⟨_, rfl⟩
                  have hlk : lsO l k = x.2.2 := by simp [lsO, hx, hlt]
                  have hck : cpO l k = x.2.1 := by simp [cpO, hx, hlt]
                  have hyk : sh.getD k 0 = y := by simp [hy, hkt2]
                  have hbk := HOK.out k hlt
                  rw [← hx] at c0 c1 c2
                  rw [← hy] at s0
                  rw [hlk, hck] at hbk
                  obtain ⟨⟨x1, x2⟩, x3⟩ := hbk
                  have hyb := HIN.out k hlt
                  rw [hyk, hlk, hck] at hyb
                  obtain ⟨y1, y2⟩ := hyb
                  have HX := Lib.hid hx
                  have HY := Lib.hid hy
                  have HYK := Lib.hid hyk
                  have HLK := Lib.hid hlk
                  have HCK := Lib.hid hck
                  clear hx hlk hck hy hyk
                  by_cases hyx : y = x.2.2
                  · have t1 : (y == x.2.2) = true := by simp [hyx]
                    have HYX := Lib.hid hyx
                    clear hyx
                    go_wp2_with fail
                    go_quiet (fail)
                    go_wp2_with fail
                    go_roundw
                    case rel =>
                      refine ⟨k + 1, by omega, by go_num, ?_, below_drewN hB _⟩
                      intro i hi j hj
                      by_cases e : i = k
                      · subst e; rintro ⟨u1, _⟩; rw [HYK.out, HLK.out, HYX.out] at u1; omega
                      · exact HU.out i (by omega) j hj
                    case measure => simp [intOf]; omega
                  · have t1 : (y == x.2.2) = false := by simp [hyx]
                    go_wp2_with fail
                    go_quiet (fail)
                    go_wp2_with fail
                    go_loopw [13] (fun i wr => ∃ j : Nat, j ≤ l.length ∧ i = .int .i64 j ∧ Hid (∀ m, m < j → ¬ unfair l sh k m) ∧ Below w.heap.size w wr) (fun i _ => l.length - (intOf i).toNat)
                    case atStart => exact ⟨0, Nat.zero_le _, rfl, fun i hi => by omega, below_drewN hB _⟩
                    case round =>
                      clear hB hsz c0 c1 c2 s0
                      obtain ⟨j, hj, rfl, HV, hB⟩ := hrel
                      have hsz := hB.size
                      by_cases hjt : j < l.length
                      · obtain ⟨d0, d1, d2⟩ : (wr.cell? ⟨b, off + j * 3, none⟩ = some (.int .i64 l[j].1)) ∧ (wr.cell? ⟨b, off + j * 3 + 1, none⟩ = some (.int .i64 l[j].2.1)) ∧ (wr.cell? ⟨b, off + j * 3 + 2, none⟩ = some (.int .i64 l[j].2.2)) := by
                          obtain ⟨b', off', e', _, d0, d1, d2⟩ := (HA.out.below hB).at3 hjt
                          obtain ⟨rfl, rfl⟩ : b = b' ∧ off = off' := by simpa using e'
                          exact ⟨d0, d1, d2⟩
                        obtain ⟨c0, c1, c2⟩ : (wr.cell? ⟨b, off + k * 3, none⟩ = some (.int .i64 x.1)) ∧ (wr.cell? ⟨b, off + k * 3 + 1, none⟩ = some (.int .i64 x.2.1)) ∧ (wr.cell? ⟨b, off + k * 3 + 2, none⟩ = some (.int .i64 x.2.2)) := by
                          obtain ⟨b', off', e', _, d0, d1, d2⟩ := (HA.out.below hB).at3 hlt
                          obtain ⟨rfl, rfl⟩ : b = b' ∧ off = off' := by simpa using e'
                          rw [← HX.out] at d0 d1 d2
                          exact ⟨d0, d1, d2⟩
                        obtain ⟨z, hz⟩ : ∃ z, z = l[j] := ⟨_, rfl⟩
                        rw [← hz] at d0 d1 d2
                        have hcj : cpO l j = z.2.1 := by simp [cpO, hz, hjt]
                        have hjt2 : j < sh.length := by rw [HN.out]; exact hjt
                        obtain ⟨sb', so', hse, _, s0⟩ := (HSH.out.below hB).at1 hkt2
                        obtain ⟨rfl, rfl⟩ : sb = sb' ∧ so = so' := by simpa using hse
                        obtain ⟨sb', so', hse, _, s1⟩ := (HSH.out.below hB).at1 hjt2
                        obtain ⟨rfl, rfl⟩ : sb = sb' ∧ so = so' := by simpa using hse
                        rw [← HY.out] at s0
                        obtain ⟨v, hv⟩ : ∃ v, v = sh[j] := ⟨_, rfl⟩
                        rw [← hv] at s1
                        have hvj : sh.getD j 0 = v := by simp [hv, hjt2]
                        have hun : unfair l sh k j ↔ (x.2.2 < y ∧ v < z.2.1 ∧ k ≠ j ∧ v * x.2.1 < (y - 1) * z.2.1) := by unfold unfair; rw [HYK.out, hvj, hcj, HLK.out, HCK.out]
                        have hvb := HIN.out j hjt
                        have hzb := (HOK.out j hjt).2
                        have hzb0 := (HOK.out j hjt).1
                        rw [hvj, hcj] at hvb
                        rw [hcj] at hzb hzb0
                        have hv0 : 0 ≤ v := by omega
                        have hylt : x.2.2 < y := by omega
                        have m1 := mul_bd (a := y - 1 + 1) (b := z.2.1) (by omega) (by omega) (by omega) hzb
                        have m2 := mul_bd hv0 (by omega : v ≤ 10000) (by omega : 0 ≤ x.2.1) x3
                        have m3 : (y - 1) * z.2.1 = (y - 1 + 1) * z.2.1 - z.2.1 := by rw [Int.add_mul]; omega
                        have w1 := IntWalk.i64_in (y - 1) (by omega)
                        have w2 := IntWalk.i64_in ((y - 1) * z.2.1) (by omega)
                        have w3 := IntWalk.i64_in (v * x.2.1) (by omega)
                        clear hz hcj hv hvj m1 m2 m3 hvb hzb0 hse
                        by_cases hu : unfair l sh k j
                        · obtain ⟨u1, u2, u3, u4⟩ := hun.1 hu
                          have HF := Lib.hid (HNO.out (fun hf => hf.2.2 k j hlt hjt hu))
                          have D2 : decide (v < z.2.1) = true := decide_eq_true u2
                          have D3 : ((j : Int) != (k : Int)) = true := by simp; omega
                          have D4 : decide (v * x.2.1 < (y - 1) * z.2.1) = true := decide_eq_true u4
                          clear hun hu u1 u2 u3 u4
                          go_wp2_with fail
                          go_quiet (fail)
                          go_wp2_with fail
                          go_ret2
                          exact ⟨by rw [HF.out]; rfl, below_drewN hB _⟩
                        · have hor : ((j : Int) != (k : Int)) = false ∨ (((j : Int) != (k : Int)) = true ∧ decide (v < z.2.1) = false) ∨ (((j : Int) != (k : Int)) = true ∧ decide (v < z.2.1) = true ∧ decide (v * x.2.1 < (y - 1) * z.2.1) = false) := by
                            by_cases a3 : k = j
                            · exact .inl (by simp [a3])
                            · by_cases a2 : v < z.2.1
                              · exact .inr (.inr ⟨by simp; omega, decide_eq_true a2, decide_eq_false (fun a4 => hu (hun.2 ⟨hylt, a2, a3, a4⟩))⟩)
                              · exact .inr (.inl ⟨by simp; omega, decide_eq_false a2⟩)
                          have HNU := Lib.hid hu
                          clear hun hu
                          rcases hor with D3 | ⟨D3, D2⟩ | ⟨D3, D2, D4⟩
                          all_goals
                            go_wp2_with fail
                            go_quiet (fail)
                            go_wp2_with fail
                            go_roundw
                            case rel =>
                              refine ⟨j + 1, by omega, by go_num, ?_, below_drewN hB _⟩
                              intro m hm
                              by_cases e : m = j
                              · subst e; exact HNU.out
                              · exact HV.out m (by omega)
                            case measure => simp [intOf]; omega
                      · obtain rfl : j = l.length := by omega
                        go_wp2_with fail
                        go_roundw
                        case rel =>
                          refine ⟨k + 1, by omega, by go_num, ?_, hB⟩
                          intro i hi
                          by_cases e : i = k
                          · subst e; exact HV.out
                          · exact HU.out i (by omega)
                        case measure => simp [intOf]; omega
                · obtain rfl : k = l.length := by omega
                  have HF := Lib.hid (HYES.out ⟨HIN.out, by rw [HG1.out, HG2.out]; exact HMIN.out, fun i k hi hk => HU.out i hi k hk⟩)
                  go_wp2_with fail
                  go_ret2
                  exact ⟨by rw [HF.out]; rfl, hB⟩
          · have HF := Lib.hid (HNO.out (fun hf => hmin (by have := hf.2.1; rw [HG1.out, HG2.out] at this; exact this)))
            have hor : ((gc != copies) = true ∧ (gc != oc) = true) ∨ ((gc != copies) = true ∧ (gc != oc) = false ∧ decide (copies < gc) = true) ∨ ((gc != copies) = false ∧ decide (copies < gc) = true) := by
              by_cases h1 : gc = copies
              · exact absurd (by omega) hmin
              · by_cases h2 : gc = oc
                · refine .inr (.inl ⟨by simp [h1], by simp [h2], decide_eq_true ?_⟩)
                  by_cases h3 : copies < gc
                  · exact h3
                  · exact absurd (by omega) hmin
                · exact .inl ⟨by simp [h1], by simp [h2]⟩
            clear hmin hsr hle
            rcases hor with ⟨t1, t2⟩ | ⟨t1, t2, t3⟩ | ⟨t1, t2⟩
            all_goals
              go_wp2_with fail
              go_ret2
              exact ⟨by rw [HF.out]; rfl, hB⟩
    · have t0 : ((sh.length : Int) != (l.length : Int)) = true := by simp; omega
      have HF := Lib.hid (fairR_len (sh := sh) he hn)
      clear he hn
      go_enter Try.func63, Try.ntmps63
      go_wp2_with fail
      refine HC.out.mono ?_
      rintro e w1 ⟨rfl, hb1⟩
      rw [HE.out]
      go_wp2_with fail
      go_ret2
      exact ⟨by rw [HF.out]; rfl, hb1⟩
  · have t0 : (sharedE l copies != 0) = true := by simp [he]
    have HF := Lib.hid (fairR_err (sh := sh) he)
    clear he
    go_enter Try.func63, Try.ntmps63
    go_wp2_with fail
    refine HC.out.mono ?_
    rintro e w1 ⟨rfl, hb1⟩
    go_wp2_with fail
    go_ret2
    exact ⟨by rw [HF.out]; rfl, hb1⟩
end Go.Proofs.Ytgopdfbmddkpfaa
