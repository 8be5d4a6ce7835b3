/- Walk of AgentFair: it returns true and turns nothing that was there; conditions: none. -/
import Derived.Test.YtgopdfbmddkpfaaT3
import Derived.Test.YtgopdfbmddkpfaaJ1
import Derived.Deep.RegionHeld3
import Derived.Deep.DeepCutAuto
import Derived.Deep.DeepMust
set_option linter.unusedSimpArgs false
set_option linter.unusedVariables false
namespace Go.Fh
theorem Sl.atF {B n : Nat} {w : World} {A : Option Addr} {s : List Int} {f : Nat → Int} (h : Sl encInt 1 w B A s) (hl : s.length = n) (hg : ∀ i, i < n → s.getD i 0 = f i) (h0 : 0 < n) :
    ∃ b off, A = some ⟨b, off, none⟩ ∧ b < B ∧ ∀ i, i < n → w.cell? ⟨b, off + i, none⟩ = some (.int .i64 (f i)) := by
  obtain ⟨b, off, hA, hb, hc⟩ := h (by intro e; subst e; simp at hl; omega)
  refine ⟨b, off, hA, hb, fun j hj => ?_⟩
  have hj2 : j < s.length := by omega
  have := hc j _ (List.getElem?_eq_getElem hj2) 0 _ rfl
  have e : s[j] = f j := by rw [← hg j hj]; simp [hj2]
  rw [e] at this
  simpa using this
end Go.Fh
namespace Go.Proofs.Ytgopdfbmddkpfaa
open Go.RowKit Go.Fh Go.Ag

set_option maxRecDepth 20000 in
set_option maxHeartbeats 8000000 in
theorem agentFair_walk (haw : ∀ w, Calls Try.prog 15 #[] w fun e w' => e = .returned (.bool true) ∧ Below w.heap.size w w') (A : Option Addr) (c : Nat) (bs : List Int) (cop one two : Int) (w : World) (hl : bs.length ≤ 9223372036854775807)
    (hb : ∀ n ∈ bs, 0 ≤ n ∧ n ≤ 255) (hA : Sl encB 1 w w.heap.size A bs) (hc : 0 ≤ cop) (hc2 : cop ≤ 65535) (ho : 0 ≤ one) (ho2 : one ≤ 255) (hu : 0 ≤ two) (hu2 : two ≤ 255) :
    Calls Try.prog 5 #[.slice A bs.length c, .int .u16 cop, .int .u8 one, .int .u8 two] w fun e w' => e = .returned (.bool true) ∧ Below w.heap.size w w' := by
  have HH := Lib.hid (orders_any A c bs w hl hb hA)
  clear hA hb
  have hol := ordD_len bs
  have hok := ordD_ok bs
  have hsh := fun n hn => ordD_shared bs (n := n) hn
  have hl12 : (ordD bs).length ≤ 12 := by omega
  generalize ordD bs = l at *
  clear hol
  have hn0 : 0 ≤ cop % 800 := by omega
  have hn1 : cop % 800 < 800 := by omega
  have HOK := Lib.hid hok
  have HSHE := Lib.hid hsh
  clear hok hsh
  go_enter Try.func5, Try.ntmps5
  go_wp2_with fail
  refine HH.out.mono ?_
  clear HH
  rintro e w1 ⟨A1, c1, rfl, hs1, _, hb1⟩
  have HA1 := Lib.hid hs1
  have HB1 := Lib.hid hb1
  clear hs1 hb1
  go_wp2_with fail
  obtain ⟨n, hne⟩ : ∃ n, n = cop % 800 := ⟨_, rfl⟩
  rw [← hne] at hn0 hn1 ⊢
  clear hne hc hc2
  refine (share_any A1 c1 l n w1 (by omega) (by omega) HA1.out).mono ?_
  rintro e w2 ⟨Aa, ca, rfl, hSa, _, hb2⟩
  have HSa := Lib.hid hSa
  have H2 := Lib.hid hb2
  clear hSa hb2
  have he := HSHE.out n hn0
  by_cases hnd : n < needO l
  · rw [if_pos hnd] at he
    rw [he]
    have HND := Lib.hid hnd
    clear he hnd HSHE
    go_wp2_with fail
    go_loopw [13, 44] (fun v i wr => ∃ k : Nat, k ≤ l.length ∧ i = .int .i64 k ∧ v = .int .i64 (needO (l.take k)) ∧ Below w1.heap.size w1 wr) (fun _ i _ => l.length - (intOf i).toNat)
    case atStart => exact ⟨0, Nat.zero_le _, rfl, int_eq (by simp [needO]), H2.out⟩
    case round =>
      obtain ⟨k, hk, rfl, rfl, hB⟩ := hrel
      by_cases hlt : k < l.length
      · obtain ⟨b, off, rfl, hb, c0, c1', c2⟩ := (HA1.out.below hB).at3 hlt
        have hsz := hB.size
        have hokk := HOK.out _ (List.getElem_mem hlt)
        have hbd := needO_bd (l := l.take k) (fun o ho => HOK.out o (List.mem_of_mem_take ho))
        have hlk : (l.take k).length ≤ 12 := by simp; omega
        have hsn := needO_snoc (l.take k) l[k]
        rw [← List.take_succ_eq_append_getElem hlt] at hsn
        obtain ⟨x, hx⟩ : ∃ x, x = l[k] := ⟨_, rfl⟩
        rw [← hx] at c0 c1' c2 hsn hokk
        obtain ⟨o1, o2, o3⟩ := hokk
        have hbw : b < wr.heap.size := by omega
        have gw : IntKind.i64.wrap (needO (l.take k) + x.2.2) = needO (l.take k) + x.2.2 := IntWalk.i64_in _ (by omega)
        have HSN := Lib.hid hsn
        have HX := Lib.hid hx
        have HBN := Lib.hid (hB.alloc hB.size (.cells #[.int .i64 x.1, .int .i64 x.2.1, .int .i64 x.2.2] 44))
        clear hsn hx
        go_wp2_with fail
        go_roundw
        case rel => exact ⟨k + 1, by omega, by go_num, int_eq (by rw [HSN.out]), HBN.out⟩
        case measure => simp [intOf]; omega
      · obtain rfl : k = l.length := by omega
        have t1 : decide (n < needO l) = true := decide_eq_true HND.out
        have HFIN := Lib.hid (HB1.out.trans (hB.mono HB1.out.size))
        rw [List.take_length]
        go_wp2_with fail
        refine (haw _).mono ?_
        rintro e w9 ⟨rfl, hb9⟩
        have hbb9 := HFIN.out.trans (hb9.mono HFIN.out.size)
        go_wp2_with fail
        go_ret
        exact ⟨rfl, hbb9⟩
  · rw [if_neg hnd] at he
    have he2 := sharedE_more he
    have hlenA := shareL_len he
    have hlenB := shareL_len he2
    have hfair := share_fair he
    have hfr := fairR_yes he hlenA hfair
    have hgA := fun i hi => shareL_get he (i := i) hi
    have hgB := fun i hi => shareL_get he2 (i := i) hi
    have hmore := fun i hi => share_more he i hi
    have hsA := fin_sum he
    have hsB := fin_sum he2
    have hshA := fun W hW => share_any A1 c1 l (n + 1) W (by omega) (by omega) hW
    simp only [he2, hlenB] at hshA
    have hfc := fun W hW1 hW2 => fair_any A1 c1 l n Aa ca (shareL l n) W (by omega) (by omega) hW1 hW2
    simp only [hlenA, hfr] at hfc
    have hfp : ∀ i, i < l.length → lsO l i ≤ (finS l n).1 i ∧ (finS l n).1 i ≤ cpO l i := fun i hi => by have := hfair.1 i hi; rw [hgA i hi] at this; exact this
    have hfq : ∀ i k, i < l.length → k < l.length → lsO l i < (finS l n).1 i → (finS l n).1 k < cpO l k → i ≠ k → ((finS l n).1 i - 1) * cpO l k ≤ (finS l n).1 k * cpO l i := by
      intro i k hi hk h1 h2 h3
      have := hfair.2.2 i k hi hk
      rw [hgA i hi, hgA k hk] at this
      by_cases h4 : (finS l n).1 k * cpO l i < ((finS l n).1 i - 1) * cpO l k
      · exact absurd ⟨h1, h2, h3, h4⟩ this
      · omega
    have hoko := fun i hi => okO (l := l) (i := i) HOK.out hi
    rw [he, hlenA]
    clear he he2 hfair hfr hnd HSHE
    generalize shareL l n = sa at *
    generalize shareL l (n + 1) = sb at *
    generalize (finS l n).1 = fA at *
    generalize (finS l (n + 1)).1 = fB at *
    have HGA := Lib.hid hgA
    have HGB := Lib.hid hgB
    have HLA := Lib.hid hlenA
    have HLB := Lib.hid hlenB
    have HMORE := Lib.hid hmore
    have HSAS := Lib.hid hsA
    have HSBS := Lib.hid hsB
    have HFC := Lib.hid hfc
    have HFP := Lib.hid hfp
    have HFQ := Lib.hid hfq
    have HOKO := Lib.hid hoko
    have w0 := IntWalk.i64_in (n + 1) (by omega)
    clear hgA hgB hlenA hlenB hmore hsA hsB hfc hfp hfq hoko
    go_wp2_with fail
    refine (hshA _ ((HA1.out.below H2.out).mono H2.out.size)).mono ?_
    clear hshA
    rintro e w3 ⟨Ab, cb, rfl, hSb, _, hb3⟩
    have H3 := Lib.hid (H2.out.trans (hb3.mono H2.out.size))
    have HSa3 := Lib.hid ((HSa.out.below hb3).mono hb3.size)
    have HSb := Lib.hid hSb
    clear hSb hb3 HSa
    go_wp2_with fail
    refine (HFC.out _ ((HA1.out.below H3.out).mono H3.out.size) HSa3.out).mono ?_
    rintro e w4 ⟨rfl, hb4⟩
    have H4 := Lib.hid (H3.out.trans (hb4.mono H3.out.size))
    have HSa4 := Lib.hid ((HSa3.out.below hb4).mono hb4.size)
    have HSb4 := Lib.hid ((HSb.out.below hb4).mono hb4.size)
    have HA4 := Lib.hid ((HA1.out.below H4.out).mono H4.out.size)
    clear hb4 HSa3 HSb HFC
    go_wp2_with fail
    go_loopw [20, 21, 22, 103] (fun x y z i wr => ∃ k : Nat, k ≤ l.length ∧ i = .int .i64 k ∧ x = .int .i64 (sumN (cpO l) k) ∧ y = .int .i64 (sumN fA k) ∧ z = .int .i64 (sumN fB k) ∧ Below w4.heap.size w4 wr) (fun _ _ _ i _ => l.length - (intOf i).toNat)
    case atStart => exact ⟨0, Nat.zero_le _, rfl, rfl, rfl, rfl, Below.refl _ _⟩
    case round =>
      obtain ⟨k, hk, rfl, rfl, rfl, rfl, hB⟩ := hrel
      have hsz := hB.size
      have bA := sumN_bd (f := fA) (n := k) (B := 10000) (fun j hj => by have := HOKO.out j (by omega); have := HFP.out j (by omega); omega)
      have bB := sumN_bd (f := fB) (n := k) (B := 10001) (fun j hj => by have := HOKO.out j (by omega); have := HFP.out j (by omega); have := HMORE.out j (by omega); omega)
      have bC := sumN_bd (f := cpO l) (n := k) (B := 10000) (fun j hj => by have := HOKO.out j (by omega); omega)
      by_cases hlt : k < l.length
      · obtain ⟨b, off, rfl, hb, c0, c1', c2⟩ := (HA4.out.below hB).at3 hlt
        obtain ⟨ab, ao, rfl, hab, hac⟩ := (HSa4.out.below hB).atF HLA.out HGA.out (by omega)
        obtain ⟨bb, bo, rfl, hbb, hbc⟩ := (HSb4.out.below hB).atF HLB.out HGB.out (by omega)
        have a0 := hac k hlt
        have b0 := hbc k hlt
        have hls : lsO l k = l[k].2.2 := by simp [lsO, hlt]
        have hcp : cpO l k = l[k].2.1 := by simp [cpO, hlt]
        have hfp := HFP.out k hlt
        have hmo := HMORE.out k hlt
        have hok := HOKO.out k hlt
        rw [← hcp] at c1'
        rw [← hls] at c2
        have hs1 : sumN (cpO l) (k + 1) = sumN (cpO l) k + cpO l k := rfl
        have hs2 : sumN fA (k + 1) = sumN fA k + fA k := rfl
        have hs3 : sumN fB (k + 1) = sumN fB k + fB k := rfl
        have HS1 := Lib.hid hs1
        have HS2 := Lib.hid hs2
        have HS3 := Lib.hid hs3
        have hbw : b < wr.heap.size := by omega
        have habw : ab < wr.heap.size := by omega
        have hbbw : bb < wr.heap.size := by omega
        have e1 := Below.cell ((Below.refl wr.heap.size wr).alloc (Nat.le_refl _) (.cells #[.int .i64 l[k].1, .int .i64 (cpO l k), .int .i64 (lsO l k)] 44)) (p := ⟨ab, ao + k, none⟩) habw
        have e2 := Below.cell ((Below.refl wr.heap.size wr).alloc (Nat.le_refl _) (.cells #[.int .i64 l[k].1, .int .i64 (cpO l k), .int .i64 (lsO l k)] 44)) (p := ⟨bb, bo + k, none⟩) hbbw
        rw [a0] at e1
        rw [b0] at e2
        have HBN := Lib.hid (hB.alloc hB.size (.cells #[.int .i64 l[k].1, .int .i64 (cpO l k), .int .i64 (lsO l k)] 44))
        clear hac hbc hls hcp hs1 hs2 hs3
        generalize l[k].1 = ag at *
        generalize cpO l k = cp at *
        generalize lsO l k = ls at *
        generalize sumN (cpO l) k = s1 at *
        generalize sumN fA k = s2 at *
        generalize sumN fB k = s3 at *
        generalize fA k = fa at *
        generalize fB k = fb at *
        have D1 : decide (fa < ls) = false := by simp; omega
        have D2 : decide (cp < fa) = false := by simp; omega
        have D3 : decide (fb < fa) = false := by simp; omega
        have D4 : decide (fa + 1 < fb) = false := by simp; omega
        have g0 := IntWalk.i64_in (fa + 1) (by omega)
        have g1 := IntWalk.i64_in (s1 + cp) (by omega)
        have g2 := IntWalk.i64_in (s2 + fa) (by omega)
        have g3 := IntWalk.i64_in (s3 + fb) (by omega)
        go_wp2_with fail
        go_quiet (fail)
        go_wp2_with fail
        go_quiet (fail)
        go_wp2_with fail
        go_roundw
        case rel => exact ⟨k + 1, by omega, by go_num, int_eq (by rw [HS1.out]), int_eq (by rw [HS2.out]), int_eq (by rw [HS3.out]), below_drewN HBN.out _⟩
        case measure => simp [intOf]; omega
      · obtain rfl : k = l.length := by omega
        have hsA := HSAS.out
        have hsB := HSBS.out
        generalize hq1 : sumN (cpO l) l.length = s1 at *
        generalize hq2 : sumN fA l.length = s2 at *
        generalize hq3 : sumN fB l.length = s3 at *
        have D1 : (s2 != min s1 n) = false := by simp [hsA]
        have D2 : (s3 != min s1 (n + 1)) = false := by simp [hsB]
        clear hq1 hq2 hq3 hsA hsB
        have HFIN := Lib.hid (HB1.out.trans ((H4.out.trans (hB.mono H4.out.size)).mono HB1.out.size))
        by_cases hz : l.length = 0
        · have t1 : ((l.length : Int) == 0) = true := by simp [hz]
          clear hz
          go_wp2_with fail
          refine (haw _).mono ?_
          rintro e w9 ⟨rfl, hb9⟩
          have hbb9 := HFIN.out.trans (hb9.mono HFIN.out.size)
          go_wp2_with fail
          go_ret
          exact ⟨rfl, hbb9⟩
        · have t1 : ((l.length : Int) == 0) = false := by rw [beq_eq_false_iff_ne]; omega
          obtain ⟨i, hi⟩ : ∃ i : Nat, one % (l.length : Int) = (i : Int) := ⟨(one % (l.length : Int)).toNat, (Int.toNat_of_nonneg (Int.emod_nonneg one (show (l.length : Int) ≠ 0 by omega))).symm⟩
          obtain ⟨k, hk2⟩ : ∃ k : Nat, two % (l.length : Int) = (k : Int) := ⟨(two % (l.length : Int)).toNat, (Int.toNat_of_nonneg (Int.emod_nonneg two (show (l.length : Int) ≠ 0 by omega))).symm⟩
          have hil : i < l.length := by have h' := Int.emod_lt_of_pos one (show (0 : Int) < l.length by omega); rw [hi] at h'; omega
          have hkl : k < l.length := by have h' := Int.emod_lt_of_pos two (show (0 : Int) < l.length by omega); rw [hk2] at h'; omega
          have HI := Lib.hid hi
          have HK := Lib.hid hk2
          clear hi hk2
          go_upto_region 28 with fail
          go_cut [25, 26] (fun p q wx => p = .int .i64 i ∧ q = .int .i64 k ∧ Below wr.heap.size wr wx)
          case first =>
            clear HOK HA1 HB1 H2 H3 H4 HSa4 HSb4 HA4 HGA HGB HLA HLB HMORE HSAS HSBS HFP HFQ HOKO HFIN
            go_region
            all_goals go_wp2_with fail
            all_goals go_meet
            all_goals exact ⟨by rw [HI.out], by rw [HK.out], (Below.refl _ _).drew⟩
          case rest =>
            obtain ⟨rfl, rfl, hbc⟩ := hcut
            have h4c := hB.trans (hbc.mono hB.size)
            have H4C := Lib.hid h4c
            obtain ⟨b, off, rfl, hb, -⟩ := (HA4.out.below h4c).at3 hil
            have p1 := Sl.at3_ (HA4.out.below h4c) hil
            have p2 := Sl.at3_ (HA4.out.below h4c) hkl
            obtain ⟨ab, ao, rfl, hab, hac⟩ := (HSa4.out.below h4c).atF HLA.out HGA.out (by omega)
            have a0 := hac i hil
            have a1 := hac k hkl
            have hls : lsO l i = l[i].2.2 := by simp [lsO, hil]
            have hcp : cpO l i = l[i].2.1 := by simp [cpO, hil]
            have hcp2 : cpO l k = l[k].2.1 := by simp [cpO, hkl]
            obtain ⟨-, c1', c2'⟩ := p1
            obtain ⟨-, c3', -⟩ := p2
            rw [← hls] at c2'
            rw [← hcp] at c1'
            rw [← hcp2] at c3'
            have ok1 := HOKO.out i hil
            have ok2 := HOKO.out k hkl
            have fp1 := HFP.out i hil
            have fp2 := HFP.out k hkl
            have fq := HFQ.out i k hil hkl
            have HFINC := Lib.hid (HFIN.out.trans ((hbc.mono (by have := HFIN.out.size; omega) : Below w.heap.size wr wc)))
            clear hac hls hcp hcp2 hB hsz h4c bA bB bC hbc t1
            generalize cpO l i = cpi at *
            generalize cpO l k = cpk at *
            generalize lsO l i = lsi at *
            generalize fA i = fi at *
            generalize fA k = fk at *
            have m1 := mul_bd (a := fi) (b := cpk) (by omega) (by omega) (by omega) (by omega)
            have m2 := mul_bd (a := fk) (b := cpi) (by omega) (by omega) (by omega) (by omega)
            have m3 : (fi - 1) * cpk = fi * cpk - cpk := by rw [Int.sub_mul]; omega
            have g1 := IntWalk.i64_in (fi - 1) (by omega)
            have g2 := IntWalk.i64_in ((fi - 1) * cpk) (by omega)
            have g3 := IntWalk.i64_in (fk * cpi) (by omega)
            have hor : ((i : Int) == (k : Int)) = true ∨ (((i : Int) == (k : Int)) = false ∧ (fi == lsi) = true) ∨ (((i : Int) == (k : Int)) = false ∧ (fi == lsi) = false ∧ (fk == cpk) = true) ∨ (((i : Int) == (k : Int)) = false ∧ (fi == lsi) = false ∧ (fk == cpk) = false ∧ decide ((fi - 1) * cpk ≤ fk * cpi) = true) := by
              by_cases h1 : i = k
              · left; simp [h1]
              · by_cases h2 : fi = lsi
                · right; left; exact ⟨by rw [beq_eq_false_iff_ne]; omega, by simp [h2]⟩
                · by_cases h3 : fk = cpk
                  · right; right; left; exact ⟨by rw [beq_eq_false_iff_ne]; omega, by simp [h2], by simp [h3]⟩
                  · right; right; right; exact ⟨by rw [beq_eq_false_iff_ne]; omega, by simp [h2], by simp [h3], decide_eq_true (fq (by omega) (by omega) h1)⟩
            clear fq m1 m2 m3 ok1 ok2 fp1 fp2
            have hbw : b < wc.heap.size := by have := H4C.out.size; omega
            have habw : ab < wc.heap.size := by have := H4C.out.size; omega
            rcases hor with t1 | ⟨t1, t2⟩ | ⟨t1, t2, t3⟩ | ⟨t1, t2, t3, t4⟩
            case inr.inr.inr =>
              go_wp2_with fail
              go_quiet (fail)
              go_wp2_with fail
              go_quiet (fail)
              go_upto_region 32 with fail
              have HAWC := Lib.hid haw
              go_cut [8] (fun p wx => p = .bool true ∧ Below w.heap.size w wx)
              case first =>
                clear HOK HA1 HB1 H2 H3 H4 HSa4 HSb4 HA4 HGA HGB HLA HLB HMORE HSAS HSBS HFP HFQ HOKO HFIN H4C HI HK g1 haw
                go_region_with (go_at_call 15; refine (HAWC.out _).mono ?_; rintro e w9 ⟨rfl, hb9⟩)
                all_goals simp only [List.getElem_toArray, List.getElem_cons_succ, List.getElem_cons_zero]
                all_goals simp only [Act.put, List.setIfInBounds_toArray, List.set_cons_succ, List.set_cons_zero]
                all_goals go_wp2
                all_goals go_meet
                all_goals exact ⟨rfl, Below.trans (by repeat (first | exact HFINC.out | refine below_drewN ?_ _ | refine Below.drew ?_)) (hb9.mono (show w.heap.size ≤ _ from HFINC.out.size))⟩
              case rest =>
                obtain ⟨rfl, hbz⟩ := hcut
                go_wp2_with fail
                go_ret
                exact ⟨rfl, hbz⟩
            all_goals
              go_wp2_with fail
              go_quiet (fail)
              go_wp2_with fail
              refine (haw _).mono ?_
              rintro e w9 ⟨rfl, hb9⟩
              have hbb9 := (below_drewN HFINC.out _).trans (hb9.mono (below_drewN HFINC.out _).size)
              go_wp2_with fail
              go_ret
              exact ⟨rfl, hbb9⟩
end Go.Proofs.Ytgopdfbmddkpfaa
