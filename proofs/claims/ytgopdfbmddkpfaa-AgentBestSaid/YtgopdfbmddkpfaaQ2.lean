/- Walk of AgentBest: it returns true and turns nothing that was there; conditions: none. -/
import Derived.Test.YtgopdfbmddkpfaaT1
import Derived.Test.YtgopdfbmddkpfaaT2
import Derived.Test.YtgopdfbmddkpfaaO2
set_option linter.unusedSimpArgs false
set_option linter.unusedVariables false
namespace Go.Ag
theorem costD_bd {q a b : Int} (d : Int × Int) (ha : 0 ≤ a) (ha2 : a ≤ 99) (hb : 0 ≤ b) (hb2 : b ≤ 99) : -99 ≤ costD q a b d ∧ costD q a b d ≤ 99 := by
  unfold costD
  split
  · omega
  · split <;> omega
theorem costS_bd {q a b : Int} (l : List (Int × Int)) (ha : 0 ≤ a) (ha2 : a ≤ 99) (hb : 0 ≤ b) (hb2 : b ≤ 99) : -99 * (l.length : Int) ≤ costS q a b l ∧ costS q a b l ≤ 99 * (l.length : Int) := by
  induction l with
  | nil => simp [costS]
  | cons d l ih =>
    have := costD_bd (q := q) d ha ha2 hb hb2
    simp only [costS, List.length_cons]
    omega
end Go.Ag
namespace Go.Proofs.Ytgopdfbmddkpfaa
open Go.RowKit Go.Fh Go.Ag

set_option maxRecDepth 20000 in
set_option maxHeartbeats 4000000 in
theorem agentBest_walk (haw : ∀ w, Calls Try.prog 15 #[] w fun e w' => e = .returned (.bool true) ∧ Below w.heap.size w w') (A : Option Addr) (c : Nat) (l : List Int) (over under q : Int) (w : World) (hl : l.length ≤ 9223372036854775807) (hb : ∀ n ∈ l, 0 ≤ n ∧ n ≤ 255) (hA : Sl encB 1 w w.heap.size A l)
    (ho : 0 ≤ over) (ho2 : over ≤ 255) (hu : 0 ≤ under) (hu2 : under ≤ 255) (hq : 0 ≤ q) (hq2 : q ≤ 65535) :
    Calls Try.prog 3 #[.slice A l.length c, .int .u8 over, .int .u8 under, .int .u16 q] w fun e w' => e = .returned (.bool true) ∧ Below w.heap.size w w' := by
  have HH := Lib.hid (history_any A c l w hl hb hA)
  clear hA hb
  have hdl := histD_len l
  have hdo := histD_ok l
  generalize histD l = h at HH hdl hdo
  have hok : ∀ d ∈ h, OkDay d := fun d hd => (hdo d hd).1
  have hck : checkH h = 0 := checkH_zero.2 ⟨by omega, hok⟩
  have ha1 : 0 ≤ over % 100 := by omega
  have ha2 : over % 100 ≤ 99 := by omega
  have hb1 : 0 ≤ under % 100 := by omega
  have hb2 : under % 100 ≤ 99 := by omega
  have hk1 : 0 ≤ q % 10001 := by omega
  have hk2 : q % 10001 ≤ 10000 := by omega
  have g1 := IntWalk.i64_in (over % 100 + under % 100) (by omega)
  have HOK := Lib.hid hok
  have HCK := Lib.hid hck
  clear hdo hok hck
  by_cases h0 : over % 100 + under % 100 = 0
  · have hc : costsB (over % 100) (under % 100) = false := by simp [costsB, inB]; omega
    have hs : bestD h (over % 100) (under % 100) = (0, 0, 1) := by simp [bestD, HCK.out, hc]
    have HS := Lib.hid hs
    have h0' : (over % 100 + under % 100 == 0) = true := by simp [h0]
    have H0 := Lib.hid h0
    clear hs hc h0
    go_enter Try.func3, Try.ntmps3
    go_wp2_with fail
    refine HH.out.mono ?_
    rintro e w1 ⟨A1, c1, rfl, hs1, hf1, hb1⟩
    go_wp2_with fail
    refine (best_any A1 c1 h _ _ w1 (by omega) hs1).mono ?_
    rw [HS.out]
    rintro e w2 ⟨rfl, hb2⟩
    have hbb := hb1.trans (hb2.mono hb1.size)
    go_wp2_with fail
    refine (haw _).mono ?_
    rintro e w3 ⟨rfl, hb3⟩
    have hbb3 := hbb.trans (hb3.mono hbb.size)
    go_wp2_with fail
    go_ret
    exact ⟨rfl, hbb3⟩
  · have hc : costsB (over % 100) (under % 100) = true := by simp [costsB, inB]; omega
    have h0' : (over % 100 + under % 100 == 0) = false := by simp [h0]
    have H0 := Lib.hid h0
    clear h0
    by_cases hn : h = []
    · subst hn
      have hs : bestD [] (over % 100) (under % 100) = (0, 0, 4) := by simp [bestD, HCK.out, hc]
      have HS := Lib.hid hs
      clear hs hc
      go_enter Try.func3, Try.ntmps3
      go_wp2_with fail
      refine HH.out.mono ?_
      rintro e w1 ⟨A1, c1, rfl, hs1, hf1, hb1⟩
      go_wp2_with fail
      refine (best_any A1 c1 [] _ _ w1 (by simp) hs1).mono ?_
      rw [HS.out]
      rintro e w2 ⟨rfl, hb2⟩
      have hbb := hb1.trans (hb2.mono hb1.size)
      go_wp2_with fail
      refine (haw _).mono ?_
      rintro e w3 ⟨rfl, hb3⟩
      have hbb3 := hbb.trans (hb3.mono hbb.size)
      go_wp2_with fail
      go_ret
      exact ⟨rfl, hbb3⟩
    · have hlen : ((h.length : Int) == 0) = false := by simpa using hn
      obtain ⟨b, hbq⟩ : ∃ b, b = bestQ h (over % 100) (under % 100) := ⟨_, rfl⟩
      have hs : bestD h (over % 100) (under % 100) = (b, totalOf b (over % 100) (under % 100) h, 0) := by simp [bestD, HCK.out, hc, hn, hbq]
      obtain ⟨hbb1, hbb2⟩ := bestQ_bd (h := h) (over := over % 100) (under := under % 100) HOK.out
      obtain ⟨hm1, hm2⟩ := bestQ_best (h := h) (over := over % 100) (under := under % 100) ha1 HOK.out (q % 10001) hk1
      have hmore := best_more (h := h) (over := over % 100) (under := under % 100) ha1 HOK.out
      have hless := best_less (h := h) (over := over % 100) (under := under % 100) ha1 HOK.out
      rw [← hbq] at hbb1 hbb2 hm1 hm2 hmore hless
      have ht1 : totalR h b (over % 100) (under % 100) = (totalOf b (over % 100) (under % 100) h, 0) := by
        have : inB b 0 10000 = true := inB_iff.2 ⟨hbb1, hbb2⟩
        simp [totalR, HCK.out, hc, this]
      have ht2 : totalR h (q % 10001) (over % 100) (under % 100) = (totalOf (q % 10001) (over % 100) (under % 100) h, 0) := by
        have : inB (q % 10001) 0 10000 = true := inB_iff.2 ⟨hk1, hk2⟩
        simp [totalR, HCK.out, hc, this]
      generalize totalOf b (over % 100) (under % 100) h = nb at hs ht1 hm1 hm2
      generalize totalOf (q % 10001) (over % 100) (under % 100) h = nk at ht2 hm1 hm2
      have ht3 : (nk == nb) = true → decide (q % 10001 < b) = false := by
        intro h
        have := hm2 (by simpa using h)
        simp; omega
      have HS := Lib.hid hs
      have HT1 := Lib.hid ht1
      have HT2 := Lib.hid ht2
      have HMORE := Lib.hid hmore
      have HLESS := Lib.hid hless
      have HM2 := Lib.hid hm2
      clear hs ht1 ht2 hc hmore hless hn hbq hm2 ht3
      go_enter Try.func3, Try.ntmps3
      go_wp2_with fail
      refine HH.out.mono ?_
      rintro e w1 ⟨A1, c1, rfl, hs1, hf1, hb1⟩
      have HS1 := Lib.hid hs1
      clear hs1 hf1
      go_wp2_with fail
      refine (best_any A1 c1 h _ _ w1 (by omega) HS1.out).mono ?_
      rw [HS.out]
      rintro e w2 ⟨rfl, hb2⟩
      go_wp2_with fail
      refine (totalR_any A1 c1 h _ _ _ w2 (by omega) ((HS1.out.below hb2).mono hb2.size)).mono ?_
      rw [HT1.out]
      rintro e w3 ⟨rfl, hb3⟩
      have hb13 := hb2.trans (hb3.mono hb2.size)
      go_wp2_with fail
      refine (totalR_any A1 c1 h _ _ _ w3 (by omega) ((HS1.out.below hb13).mono hb13.size)).mono ?_
      rw [HT2.out]
      rintro e w4 ⟨rfl, hb4⟩
      have hb14 := hb13.trans (hb4.mono hb13.size)
      have hbw4 := hb1.trans (hb14.mono hb1.size)
      clear hb1 hb2 hb3 hb4 hb13
      have HB14 := Lib.hid hb14
      clear hb14
      have e0 : decide (nk < nb) = false := by simpa using hm1
      have ecase : ((nk == nb) = false) ∨ ((nk == nb) = true ∧ decide (q % 10001 < b) = false) := by
        cases e : (nk == nb)
        · exact .inl rfl
        · exact .inr ⟨rfl, by have := HM2.out (by simpa using e); simpa using this⟩
      have hs4 : Sl enc2 2 w4 w1.heap.size A1 h := HS1.out.below HB14.out
      have hz14 : w1.heap.size ≤ w4.heap.size := HB14.out.size
      have HS4 := Lib.hid hs4
      have hl60 : h.length ≤ 60 := hdl
      clear hs4 hm1
      have hA0 := Lib.hid (show 0 ≤ over % 100 ∧ over % 100 ≤ 99 ∧ 0 ≤ under % 100 ∧ under % 100 ≤ 99 by omega)
      generalize over % 100 = a at *
      generalize under % 100 = u at *
      rcases ecase with e1 | ⟨e1, e2⟩
      all_goals
        go_wp2_with fail
        go_loopw [20, 21, 109] (fun mo le i wr => ∃ (k : Nat), k ≤ h.length ∧ i = .int .i64 k ∧ mo = .int .i64 (costS b a u (h.take k)) ∧ le = .int .i64 (-(costS (b - 1) a u (h.take k))) ∧ Below w4.heap.size w4 wr) (fun _ _ i _ => h.length - (intOf i).toNat)
        case atStart => exact ⟨0, Nat.zero_le _, rfl, by simp [costS], by simp [costS], Below.refl _ _⟩
        case round =>
          obtain ⟨k, hk, rfl, rfl, rfl, hB⟩ := hrel
          by_cases hlt : k < h.length
          · obtain ⟨bb, off, rfl, hbb, c0, c1⟩ := (HS4.out.below (hB.mono hz14)).at2 hlt
            have hok := HOK.out _ (List.getElem_mem hlt)
            obtain ⟨x, hx⟩ : ∃ x, x = h[k] := ⟨_, rfl⟩
            have hsM := costS_snoc b a u (h.take k) h[k]
            have hsN := costS_snoc (b - 1) a u (h.take k) h[k]
            rw [← List.take_succ_eq_append_getElem hlt, ← hx] at hsM hsN
            rw [← hx] at c0 c1 hok
            have hMb := costS_bd (q := b) (h.take k) hA0.out.1 hA0.out.2.1 hA0.out.2.2.1 hA0.out.2.2.2
            have hNb := costS_bd (q := b - 1) (h.take k) hA0.out.1 hA0.out.2.1 hA0.out.2.2.1 hA0.out.2.2.2
            have hlen : ((h.take k).length : Int) ≤ 60 := by simp; omega
            generalize costS b a u (h.take k) = M at *
            generalize costS (b - 1) a u (h.take k) = N at *
            obtain ⟨o1, o2, o3, o4⟩ := hok
            have HX := Lib.hid hx
            have HSM := Lib.hid hsM
            have HSN := Lib.hid hsN
            have hsz := hB.size
            have hbw : bb < wr.heap.size := by omega
            clear hx hsM hsN
            have f1 := IntWalk.i64_in (x.1 - x.2) (by omega)
            have f2 := IntWalk.i64_in (M - u) (by omega)
            have f3 := IntWalk.i64_in (M + a) (by omega)
            have f4 := IntWalk.i64_in (-N + u) (by omega)
            have f5 := IntWalk.i64_in (-N - a) (by omega)
            have hBn := hB.alloc hB.size (.cells #[.int .i64 x.1, .int .i64 x.2] 33)
            by_cases t1 : b < x.1 - x.2
            · have d1 : decide (b < x.1 - x.2) = true := by simpa using t1
              have d2 : decide (b ≤ x.1 - x.2) = true := by simp; omega
              have HT := Lib.hid t1
              clear t1
              go_wp2_with fail
              go_roundw
              case rel => exact ⟨k + 1, by omega, by go_num, int_eq (by rw [HSM.out, costD, if_pos HT.out]; omega), int_eq (by rw [HSN.out, costD, if_pos (by have := HT.out; omega)]; omega), hBn⟩
              case measure => simp [intOf]; omega
            · have d1 : decide (b < x.1 - x.2) = false := by simpa using t1
              have HT := Lib.hid t1
              clear t1
              by_cases t2 : b ≤ x.1 - x.2
              · have d2 : decide (b ≤ x.1 - x.2) = true := by simpa using t2
                have HT2 := Lib.hid t2
                clear t2
                by_cases t3 : 0 < x.2
                · have HT3 := Lib.hid t3
                  go_wp2_with fail
                  go_roundw
                  case rel => exact ⟨k + 1, by omega, by go_num, int_eq (by rw [HSM.out, costD, if_neg HT.out, if_pos HT3.out]), int_eq (by rw [HSN.out, costD, if_pos (by have := HT2.out; omega)]; omega), hBn⟩
                  case measure => simp [intOf]; omega
                · have HT3 := Lib.hid t3
                  have t3' : x.2 ≤ 0 := by omega
                  go_wp2_with fail
                  go_roundw
                  case rel => exact ⟨k + 1, by omega, by go_num, int_eq (by rw [HSM.out, costD, if_neg HT.out, if_neg HT3.out]; omega), int_eq (by rw [HSN.out, costD, if_pos (by have := HT2.out; omega)]; omega), hBn⟩
                  case measure => simp [intOf]; omega
              · have d2 : decide (b ≤ x.1 - x.2) = false := by simpa using t2
                have HT2 := Lib.hid t2
                clear t2
                by_cases t3 : 0 < x.2
                · have HT3 := Lib.hid t3
                  go_wp2_with fail
                  go_roundw
                  case rel => exact ⟨k + 1, by omega, by go_num, int_eq (by rw [HSM.out, costD, if_neg HT.out, if_pos HT3.out]), int_eq (by rw [HSN.out, costD, if_neg (by have := HT2.out; omega), if_pos HT3.out]; omega), hBn⟩
                  case measure => simp [intOf]; omega
                · have HT3 := Lib.hid t3
                  have t3' : x.2 ≤ 0 := by omega
                  go_wp2_with fail
                  go_roundw
                  case rel => exact ⟨k + 1, by omega, by go_num, int_eq (by rw [HSM.out, costD, if_neg HT.out, if_neg HT3.out]; omega), int_eq (by rw [HSN.out, costD, if_neg (by have := HT2.out; omega), if_neg HT3.out]; omega), hBn⟩
                  case measure => simp [intOf]; omega
          · obtain rfl : k = h.length := by omega
            rw [List.take_length]
            have m1 : decide (0 ≤ costS b a u h) = true := by simpa using HMORE.out
            have hfin : (b == 0) = true ∨ ((b == 0) = false ∧ decide (costS (b - 1) a u h < 0) = true) := by
              cases e : (b == 0)
              · have hb0 : b ≠ 0 := by simpa using e
                have := HLESS.out (by omega)
                exact .inr ⟨rfl, by simp; omega⟩
              · exact .inl rfl
            have hbwr := hbw4.trans (hB.mono hbw4.size)
            rcases hfin with z1 | ⟨z1, z2⟩
            all_goals
              go_wp2_with fail
              refine (haw _).mono ?_
              rintro e w5 ⟨rfl, hb5⟩
              have hbb5 := hbwr.trans (hb5.mono hbwr.size)
              go_wp2_with fail
              go_ret
              exact ⟨rfl, hbb5⟩
end Go.Proofs.Ytgopdfbmddkpfaa
