/- Walk of AgentRounds: it returns true and turns nothing that was there; conditions: none. -/
import Derived.Test.YtgopdfbmddkpfaaV3
import Derived.Test.YtgopdfbmddkpfaaV4
import Derived.Test.YtgopdfbmddkpfaaV5
import Derived.Test.YtgopdfbmddkpfaaSpecA
import Derived.Test.YtgopdfbmddkpfaaSpecB
import Derived.Test.YtgopdfbmddkpfaaE2
set_option linter.unusedSimpArgs false
set_option linter.unusedVariables false
namespace Go.Ag
theorem roundN_bd (l : List SubD) (d : Int) : 0 ≤ roundN l d ∧ roundN l d ≤ l.length := by
  unfold roundN
  have := List.length_filter_le (fun s => getsB s d) l
  rw [List.length_map]
  omega
theorem roundsN_bd (l : List SubD) (a : Int) (n : Nat) : 0 ≤ roundsN l a n ∧ roundsN l a n ≤ l.length * n := by
  have := sumN_bd (f := fun i => roundN l (a + i)) (n := n) (B := l.length) (fun j hj => roundN_bd l _)
  exact this
theorem roundR_ok {l : List SubD} {d : Int} (h : listE l = 0) (hd : 0 ≤ d ∧ d ≤ 20000) : ((roundR l d).1.length : Int) = roundN l d ∧ (roundR l d).2 = 0 := by
  have h2 : inB d 0 20000 = true := by rw [inB_iff]; omega
  simp [roundR, h, h2, roundN]
theorem copiesB_bd100 (s : SubD) (a b : Int) : 0 ≤ copiesB s a b ∧ copiesB s a b ≤ (b + 1 - a).toNat := by
  rw [copiesB_count]
  exact copiesN_bd s a _
theorem lostN_bd (s : SubD) (a b lo : Int) (n : Nat) : 0 ≤ lostN s a b lo n ∧ lostN s a b lo n ≤ n := by
  induction n with
  | zero => simp [lostN]
  | succ n ih => simp only [lostN]; split <;> omega
end Go.Ag
namespace Go.Proofs.Ytgopdfbmddkpfaa
open Go.RowKit Go.Fh Go.Ag

set_option maxRecDepth 20000 in
set_option maxHeartbeats 8000000 in
theorem agentRounds_walk (haw : ∀ w, Calls Try.prog 15 #[] w fun e w' => e = .returned (.bool true) ∧ Below w.heap.size w w') (A : Option Addr) (c : Nat) (bs : List Int) (fr ln at_ day dn : Int) (w : World)
    (hl : bs.length ≤ 9223372036854775807) (hb : ∀ n ∈ bs, 0 ≤ n ∧ n ≤ 255) (hA : Sl encB 1 w w.heap.size A bs)
    (h1 : 0 ≤ fr) (h1' : fr ≤ 255) (h2 : 0 ≤ ln) (h2' : ln ≤ 255) (h4 : 0 ≤ at_) (h4' : at_ ≤ 255) (h5 : 0 ≤ day) (h5' : day ≤ 255) (h6 : 0 ≤ dn) (h6' : dn ≤ 255) :
    Calls Try.prog 11 #[.slice A bs.length c, .int .u8 fr, .int .u8 ln, .int .u8 at_, .int .u8 day, .int .u8 dn] w fun e w' => e = .returned (.bool true) ∧ Below w.heap.size w w' := by
  have HSUB := Lib.hid (subscribers_any A c bs w hl hb hA)
  have hE0 := subD_listE bs
  have hoks := subD_ok bs
  have hsl := subD_len bs
  have hhol : ∀ s ∈ subD bs, s.hol.length ≤ 1 := by
    intro s hs
    obtain ⟨k, hk, rfl⟩ := List.mem_iff_getElem.1 hs
    rw [subD_getElem hk]
    exact holF_len _ _
  generalize subD bs = ls at *
  obtain ⟨a, ha⟩ : ∃ a, a = fr % 60 := ⟨_, rfl⟩
  obtain ⟨m, hm⟩ : ∃ m, m = ln % 60 := ⟨_, rfl⟩
  have a0 : 0 ≤ a := by omega
  have a1 : a < 60 := by omega
  have m0 : 0 ≤ m := by omega
  have m1 : m < 60 := by omega
  obtain ⟨b, hbv⟩ : ∃ b, b = a + m := ⟨_, rfl⟩
  have b0 : a ≤ b := by omega
  have b1 : b ≤ 118 := by omega
  have g1 := IntWalk.i64_in (a + m) (by omega)
  have HAV := Lib.hid ha
  have HMV := Lib.hid hm
  have HBV := Lib.hid hbv
  clear ha hm hbv hb hA hl
  go_enter Try.func11, Try.ntmps11
  go_wp2_with fail
  refine HSUB.out.mono ?_
  clear HSUB
  rintro e w1 ⟨lm, S, cS, rfl, hlm, hS, hSI, hb1⟩
  have hlen : lm.length ≤ 10 := by rw [← hlm] at hsl; have h1 := hsl.1; have h2 := hsl.2; simp at h1; omega
  have hll : ls.length = lm.length := by rw [← hlm]; simp
  obtain ⟨n, hn⟩ : ∃ n, n = (b + 1 - a).toNat := ⟨_, rfl⟩
  have hRD : ∀ d W, Below w1.heap.size w1 W → 0 ≤ d → d ≤ 20000 → Calls Try.prog 33 #[.slice S lm.length cS, .int .i64 d] W fun e w' => ∃ (A' : Option Addr) (r c' : Nat), e = .returned (.tuple #[.slice A' r c', .int .i64 0]) ∧ (r : Int) = roundN ls d ∧ Below W.heap.size W w' := by
    intro d W hW q1 q2
    have hr := roundR_ok hE0 ⟨q1, q2⟩
    refine (round_any S cS lm d W (by omega) (fun x hx => by have := hhol _ (by rw [← hlm]; exact List.mem_map.2 ⟨x, hx, rfl⟩); omega) ((hS.below hW).mono hW.size) (fun y hy => ((hSI y hy).below hW).mono hW.size)).mono ?_
    rintro e w' ⟨A', c', rfl, _, hbb⟩
    rw [hlm, hr.2]
    exact ⟨A', _, c', rfl, hr.1, hbb⟩
  obtain ⟨X, hX⟩ : ∃ X, X = allC ls a b lm.length := ⟨_, rfl⟩
  have hXr : roundsN ls a n = X := by rw [hX, hn, ← allC_rounds, hll]
  have hXb : 0 ≤ X ∧ X ≤ 1190 := by
    have h := allC_bd ls a b
    rw [hll, ← hX] at h
    have h2 : (b + 1 - a).toNat ≤ 119 := by omega
    have h3 := Nat.mul_le_mul h2 hlen
    constructor
    · exact h.1
    · have h4 := h.2
      have : (((b + 1 - a).toNat * lm.length : Nat) : Int) = ((b + 1 - a).toNat : Int) * (lm.length : Int) := by simp
      omega
  have hper : periodB a b = true := by unfold periodB; rw [(inB_iff).2 ⟨a0, by omega⟩, (inB_iff).2 ⟨b0, by omega⟩]; rfl
  have hCA : ∀ W, Below w1.heap.size w1 W → Calls Try.prog 27 #[.agg #[.int .i64 9, .int .i64 0, .int .i64 0, .int .i64 4, .int .i64 2], .slice S lm.length cS, .slice none 0 0, .int .i64 a, .int .i64 b] W fun e w' => ∃ A' c', e = .returned (.tuple #[.agg #[.slice A' 2 c', .int .i64 (4 * X)], .int .i64 0]) ∧ Sl enc3 3 w' w'.heap.size A' [(4, X, 4 * X), (5, 0, 0)] ∧ Below W.heap.size W w' := by
    intro W hW
    have hwt : wrongT ⟨9, 0, 0, 4, 2⟩ = false := (OkT_iff _).2 (by unfold OkT; dsimp only; omega)
    have hc := carrier_any ⟨9, 0, 0, 4, 2⟩ S cS lm none 0 [] a b W (by omega) (by simp) (fun x hx => by have := hhol _ (by rw [← hlm]; exact List.mem_map.2 ⟨x, hx, rfl⟩); omega) ((hS.below hW).mono hW.size) (fun y hy => ((hSI y hy).below hW).mono hW.size) Sl.nil
    rw [hlm, carrier_none hwt hE0 hper, hll, ← hX] at hc
    refine hc.mono ?_
    rintro e w' ⟨A', c', rfl, q1, _, q2⟩
    refine ⟨A', c', ?_, ?_, q2⟩
    · rw [Int.mul_comm 4 X]; rfl
    · rw [Int.mul_comm 4 X]; simpa using q1
  have hn1 : (n : Int) ≤ b + 1 - a := by omega
  have hn2 : b + 1 - a ≤ (n : Int) := by omega
  have HRD := Lib.hid hRD
  have HCA := Lib.hid hCA
  have HS := Lib.hid hS
  have HSI := Lib.hid hSI
  have HB1 := Lib.hid hb1
  have HE0 := Lib.hid hE0
  have HOKS := Lib.hid hoks
  have HHOL := Lib.hid hhol
  have HLM := Lib.hid hlm
  have HXR := Lib.hid hXr
  have HX := Lib.hid hX
  have HPER := Lib.hid hper
  have HLL := Lib.hid hll
  clear hRD hCA hS hSI hb1 hE0 hoks hhol hlm hXr hX hper hsl hll hn
  go_upto_region 3 with fail
  rw [← HAV.out]
  go_upto_region 5 with fail
  rw [← HMV.out, ← HBV.out]
  clear g1
  obtain ⟨hX0, hX1⟩ := hXb
  go_wp2_with fail
  go_loopw [16, 17] (fun al d wr => ∃ k : Nat, k ≤ n ∧ al = .int .i64 (roundsN ls a k) ∧ d = .int .i64 (a + k) ∧ Below w1.heap.size w1 wr) (fun _ d _ => (b + 1 - intOf d).toNat)
  case atStart => exact ⟨0, Nat.zero_le _, rfl, int_eq (by omega), Below.refl _ _⟩
  case round =>
    obtain ⟨k, hk, rfl, rfl, hB⟩ := hrel
    by_cases hlt : k < n
    · have t1 : decide (a + (k : Int) ≤ b) = true := by simp; omega
      have HG := Lib.hid (HRD.out (a + k) wr hB (by omega) (by omega))
      have hbd := roundsN_bd ls a k
      have hbd2 := roundN_bd ls (a + k)
      have hbm := Nat.mul_le_mul (show ls.length ≤ 10 by rw [HLL.out]; exact hlen) (show k ≤ 119 by omega)
      have hsum : roundsN ls a (k + 1) = roundsN ls a k + roundN ls (a + k) := rfl
      have HSUM := Lib.hid hsum
      clear hsum
      have f2 := IntWalk.i64_in (a + (k : Int) + 1) (by omega)
      go_wp2_with fail
      refine HG.out.mono ?_
      rintro e w2 ⟨A', r, c', rfl, hr, hb2⟩
      have hrb : (r : Int) ≤ 10 := by rw [hr]; have := hbd2.2; rw [HLL.out] at this; omega
      have hkb : 0 ≤ roundsN ls a k ∧ roundsN ls a k ≤ 1190 := by
        have : ((ls.length * k : Nat) : Int) = (ls.length : Int) * (k : Int) := by simp
        omega
      have HR := Lib.hid hr
      have HB2 := Lib.hid (hB.trans (hb2.mono hB.size))
      clear hr hbd hbd2 hbm hb2
      have f1 := IntWalk.i64_in (roundsN ls a k + (r : Int)) (by omega)
      go_wp2_with fail
      go_roundw
      case rel => exact ⟨k + 1, by omega, int_eq (by rw [HSUM.out, HR.out]), int_eq (by omega), HB2.out⟩
      case measure => simp [intOf]; omega
    · have t1 : decide (a + (k : Int) ≤ b) = false := by simp; omega
      obtain rfl : k = n := by omega
      rw [HXR.out]
      clear hlt
      obtain ⟨wq, hwq⟩ : ∃ wq, wq = wr := ⟨_, rfl⟩
      rw [← hwq] at hB ⊢
      clear hwq
      go_wp2_with fail
      go_loopw [20, 70] (fun s i wr => ∃ k : Nat, k ≤ lm.length ∧ i = .int .i64 k ∧ s = .int .i64 (allC ls a b k) ∧ Below w1.heap.size w1 wr) (fun _ i _ => lm.length - (intOf i).toNat)
      case atStart => exact ⟨0, Nat.zero_le _, rfl, rfl, hB⟩
      case round =>
        clear hB t1
        obtain ⟨k, hk, rfl, rfl, hB⟩ := hrel
        by_cases hlt : k < lm.length
        · obtain ⟨lb, off, rfl, hlb, c0, c1, c2, c3, c4⟩ := (HS.out.below hB).at5 hlt
          have hxo : OkS lm[k].1 := HOKS.out _ (by rw [← HLM.out]; exact List.mem_map.2 ⟨lm[k], List.getElem_mem hlt, rfl⟩)
          have hxI := HSI.out _ (List.getElem_mem hlt)
          have hgd : ls.getD k sub0 = lm[k].1 := by rw [← HLM.out]; simp [hlt]
          have hsm : allC ls a b (k + 1) = allC ls a b k + copiesB lm[k].1 a b := by rw [← hgd]; rfl
          obtain ⟨x, hx⟩ : ∃ x, x = lm[k] := ⟨_, rfl⟩
          rw [← hx] at c0 c1 c2 c3 c4 hxI hxo hsm
          have hlw : lb < wr.heap.size := by have := hB.size; omega
          have hBx := hB.alloc hB.size (.cells #[.int .i64 x.1.id, .int .i64 x.1.lo, .int .i64 x.1.hi, .int .i64 x.1.days, .slice x.2.1 x.1.hol.length x.2.2] 63)
          have hcr : copiesR x.1 a b = (copiesB x.1 a b, 0) := by simp [copiesR, (OkS_iff _).2 hxo, HPER.out]
          have hg := copiesR_any x.1 x.2.1 x.2.2 a b _ (by have := hxo.2.2.2.2.1; omega) ((hxI.below hBx).mono hBx.size)
          rw [hcr] at hg
          unfold subV at hg
          have hcb := copiesB_bd100 x.1 a b
          have hab := sumN_bd (f := fun k => copiesB (ls.getD k sub0) a b) (n := k) (B := 119) (fun j hj => by have := copiesB_bd100 (ls.getD j sub0) a b; omega)
          have hab2 : 0 ≤ allC ls a b k ∧ allC ls a b k ≤ 1190 := by
            have h1 := hab.1
            have h2 := hab.2
            unfold allC
            omega
          have f1 := IntWalk.i64_in (allC ls a b k + copiesB x.1 a b) (by omega)
          have HG := Lib.hid hg
          have HBX := Lib.hid hBx
          have HSM := Lib.hid hsm
          clear hxI hgd hxo hx hBx hg hcb hab hab2 hcr hsm
          go_wp2_with fail
          refine HG.out.mono ?_
          rintro e w2 ⟨rfl, hb2⟩
          have HB2 := Lib.hid (HBX.out.trans (hb2.mono HBX.out.size))
          clear hb2 c0 c1 c2 c3 c4
          go_wp2_with fail
          go_roundw
          case rel =>
            exact ⟨k + 1, by omega, by go_num, int_eq (by rw [HSM.out]), HB2.out⟩
          case measure => simp [intOf]; omega
        · obtain rfl : k = lm.length := by omega
          rw [← HX.out]
          clear hlt
          obtain ⟨wq, hwq⟩ : ∃ wq, wq = wr := ⟨_, rfl⟩
          rw [← hwq] at hB ⊢
          clear hwq
          go_wp2_with fail
          have hBt := hB.alloc hB.size (.cells #[.int .i64 9, .int .i64 0, .int .i64 0, .int .i64 4, .int .i64 2] 36)
          refine (HCA.out _ hBt).mono ?_
          rintro e w2 ⟨A2, c2, rfl, hL2, hb2⟩
          have hB2 := hBt.trans (hb2.mono hBt.size)
          obtain ⟨w3, hw3⟩ : ∃ W, W = w2.alloc (.cells #[.slice A2 2 c2, .int .i64 (4 * X)] 53) := ⟨_, rfl⟩
          have h23 : Below w2.heap.size w2 w3 := by rw [hw3]; exact (Below.refl _ _).alloc (Nat.le_refl _) _
          obtain ⟨gP, hgP⟩ : ∃ g, g = w2.heap.size := ⟨_, rfl⟩
          have hkP : Blk w3 gP 53 #[.slice A2 2 c2, .int .i64 (4 * X)] := by rw [hw3, hgP]; exact Blk.new _ _ _
          have hL3 := hL2.below h23
          obtain ⟨la, lao, rfl, hla, l1, l2, l3⟩ := hL3.at3 (k := 0) (by simp)
          have p0 := hkP.cell 0
          have p1 := hkP.cell 1
          simp at l1 l2 l3 p0 p1
          have HB3 := Lib.hid (hB2.trans (h23.mono hB2.size))
          have HW3 := Lib.hid hw3
          have HGP := Lib.hid hgP
          clear hL2 hb2 hB2 h23 hkP hL3 hw3 hgP hB hBt
          have f1 := IntWalk.i64_in (4 * X) (by omega)
          go_upto_region 23 with fail
          rw [← HW3.out, ← HGP.out]
          have t1 : (4 * X != 4 * X) = false := by simp
          have t2 : (X != X) = false := by simp
          go_upto_region 25 with fail
          clear l1 l2 l3 p0 p1 t1 t2 f1 hX0 hX1
          by_cases hz : lm.length = 0
          · have t3 : ((lm.length : Int) == 0) = true := by simp [hz]
            clear hz
            go_wp2_with fail
            refine (haw _).mono ?_
            rintro e w9 ⟨rfl, hb9⟩
            have hbb := HB1.out.trans ((HB3.out.trans (hb9.mono HB3.out.size)).mono HB1.out.size)
            go_wp2_with fail
            go_ret
            exact ⟨rfl, hbb⟩
          · have t3 : ((lm.length : Int) == 0) = false := by rw [beq_eq_false_iff_ne]; omega
            obtain ⟨i, hi⟩ : ∃ i : Nat, at_ % (lm.length : Int) = (i : Int) := ⟨(at_ % (lm.length : Int)).toNat, (Int.toNat_of_nonneg (Int.emod_nonneg at_ (show (lm.length : Int) ≠ 0 by omega))).symm⟩
            have hil : i < lm.length := by have h' := Int.emod_lt_of_pos at_ (show (0 : Int) < lm.length by omega); rw [hi] at h'; omega
            obtain ⟨lo, hlo⟩ : ∃ d, d = day % 100 := ⟨_, rfl⟩
            have lo0 : 0 ≤ lo := by omega
            have lo1 : lo < 100 := by omega
            obtain ⟨q, hq⟩ : ∃ d, d = dn % 20 := ⟨_, rfl⟩
            obtain ⟨up, hup⟩ : ∃ d, d = lo + q := ⟨_, rfl⟩
            have up0 : lo ≤ up := by omega
            have up1 : up ≤ lo + 19 := by omega
            have f2 := IntWalk.i64_in (lo + q) (by omega)
            obtain ⟨slb, so, rfl, hslb, s0, s1, s2, s3, s4⟩ := HS.out.at5 hil
            have hxo : OkS lm[i].1 := HOKS.out _ (by rw [← HLM.out]; exact List.mem_map.2 ⟨lm[i], List.getElem_mem hil, rfl⟩)
            have hxh : lm[i].1.hol.length ≤ 1 := HHOL.out _ (by rw [← HLM.out]; exact List.mem_map.2 ⟨lm[i], List.getElem_mem hil, rfl⟩)
            have hxI := (HSI.out _ (List.getElem_mem hil))
            have hxI3 := (hxI.below HB3.out).mono HB3.out.size
            obtain ⟨x, hx⟩ : ∃ x, x = lm[i] := ⟨_, rfl⟩
            rw [← hx] at s0 s1 s2 s3 s4 hxo hxh hxI3
            have hslw : slb < w3.heap.size := by have := HB3.out.size; omega
            have s0 := (HB3.out.cell (p := ⟨slb, so + i * 5, none⟩) hslb).trans s0
            have s1 := (HB3.out.cell (p := ⟨slb, so + i * 5 + 1, none⟩) hslb).trans s1
            have s2 := (HB3.out.cell (p := ⟨slb, so + i * 5 + 2, none⟩) hslb).trans s2
            have s3 := (HB3.out.cell (p := ⟨slb, so + i * 5 + 3, none⟩) hslb).trans s3
            have s4 := (HB3.out.cell (p := ⟨slb, so + i * 5 + 4, none⟩) hslb).trans s4
            obtain ⟨w4, hw4⟩ : ∃ W, W = w3.alloc (.cells #[.int .i64 x.1.id, .int .i64 x.1.lo, .int .i64 x.1.hi, .int .i64 x.1.days, .slice x.2.1 x.1.hol.length x.2.2] 63) := ⟨_, rfl⟩
            have h34 : Below w3.heap.size w3 w4 := by rw [hw4]; exact (Below.refl _ _).alloc (Nat.le_refl _) _
            obtain ⟨gW, hgW⟩ : ∃ g, g = w3.heap.size := ⟨_, rfl⟩
            have hkW : Blk w4 gW 63 #[.int .i64 x.1.id, .int .i64 x.1.lo, .int .i64 x.1.hi, .int .i64 x.1.days, .slice x.2.1 x.1.hol.length x.2.2] := by rw [hw4, hgW]; exact Blk.new _ _ _
            have hg3 : gW = w3.heap.size := hgW
            have hg4 : w4.heap.size = w3.heap.size + 1 := by rw [hw4]; simp
            have HK := Lib.hid hkW
            have HW4 := Lib.hid hw4
            have HGW := Lib.hid hgW
            have HI := Lib.hid hi
            have HLO := Lib.hid hlo
            have HQ := Lib.hid hq
            have HUP := Lib.hid hup
            have HXO := Lib.hid hxo
            have HXI := Lib.hid hxI3
            have H34 := Lib.hid h34
            have HG34 := Lib.hid (And.intro hg3 hg4)
            have S0 := Lib.hid s0
            have S1 := Lib.hid s1
            have S2 := Lib.hid s2
            have S3 := Lib.hid s3
            have S4 := Lib.hid s4
            clear hz hi hlo hq hup hx hxo hxI hxI3 hkW hw4 hgW h34 hg3 hg4
            go_upto_region 28 with fail
            rw [HI.out]
            go_upto_region 30 with fail
            rw [← HLO.out, ← HW4.out, ← HGW.out]
            go_upto_region 31 with fail
            rw [← HQ.out, ← HUP.out]
            clear f2
            go_wp2_with fail
            obtain ⟨n3, hn3⟩ : ∃ n, n = (up + 1 - lo).toNat := ⟨_, rfl⟩
            have n31 : (n3 : Int) ≤ up + 1 - lo := by omega
            have n32 : up + 1 - lo ≤ (n3 : Int) := by omega
            have HN3 := Lib.hid hn3
            clear hn3
            clear t3
            go_loopw [32, 33] (fun lost d wr => ∃ k : Nat, k ≤ n3 ∧ lost = .int .i64 (lostN x.1 a b lo k) ∧ d = .int .i64 (lo + k) ∧ Below w4.heap.size w4 wr) (fun _ d _ => (up + 1 - intOf d).toNat)
            case atStart => exact ⟨0, Nat.zero_le _, rfl, int_eq (by omega), Below.refl _ _⟩
            case round =>
              obtain ⟨k3, hk3, rfl, rfl, hB⟩ := hrel
              have h4r := H34.out.trans (hB.mono H34.out.size)
              by_cases hlt : k3 < n3
              · have t1 : decide (lo + (k3 : Int) ≤ up) = true := by simp; omega
                obtain ⟨dd, hdd⟩ : ∃ d, d = lo + (k3 : Int) := ⟨_, rfl⟩
                have hgr : getsR x.1 dd = (getsB x.1 dd, 0) := by
                  have h1 := (OkS_iff _).2 HXO.out
                  have h2 : inB dd 0 20000 = true := by rw [inB_iff]; omega
                  simp [getsR, h1, h2]
                have hg := getsR_any x.1 x.2.1 x.2.2 dd wr (by omega) ((HXI.out.below h4r).mono h4r.size)
                rw [hgr] at hg
                have hlb := lostN_bd x.1 a b lo k3
                have hls : lostN x.1 a b lo (k3 + 1) = lostN x.1 a b lo k3 + if getsB x.1 dd && inB dd a b then 1 else 0 := by rw [hdd]; rfl
                have f1 := IntWalk.i64_in (lostN x.1 a b lo k3 + 1) (by omega)
                have f2 := IntWalk.i64_in (dd + 1) (by omega)
                have q0 := (h4r.cell (p := ⟨slb, so + i * 5, none⟩) hslw).trans s0
                have q1 := (h4r.cell (p := ⟨slb, so + i * 5 + 1, none⟩) hslw).trans s1
                have q2 := (h4r.cell (p := ⟨slb, so + i * 5 + 2, none⟩) hslw).trans s2
                have q3 := (h4r.cell (p := ⟨slb, so + i * 5 + 3, none⟩) hslw).trans s3
                have q4 := (h4r.cell (p := ⟨slb, so + i * 5 + 4, none⟩) hslw).trans s4
                have HG := Lib.hid hg
                have HLS := Lib.hid hls
                have HDD := Lib.hid hdd
                have HBR := Lib.hid hB
                have d0 : lo ≤ dd := by omega
                have d1 : dd ≤ up := by omega
                rw [← hdd] at t1 ⊢
                clear hg hls hdd hB h4r hgr s0 s1 s2 s3 s4
                go_wp2_with fail
                refine HG.out.mono ?_
                rintro e w5 ⟨rfl, hb5⟩
                have HB5 := Lib.hid (HBR.out.trans (hb5.mono HBR.out.size))
                clear hb5 q0 q1 q2 q3 q4 HG
                cases hy : getsB x.1 dd
                · have HY := Lib.hid hy
                  clear hy
                  go_wp2_with fail
                  go_roundw
                  case rel => exact ⟨k3 + 1, by omega, int_eq (by rw [HLS.out, HY.out]; simp), int_eq (by rw [HDD.out]; omega), HB5.out⟩
                  case measure => simp [intOf]; omega
                · have HY := Lib.hid hy
                  clear hy
                  by_cases ha : a ≤ dd
                  · by_cases hbd : dd ≤ b
                    · have t2 : decide (a ≤ dd) = true := by simpa using ha
                      have t3 : decide (dd ≤ b) = true := by simpa using hbd
                      have hin : inB dd a b = true := (inB_iff).2 ⟨ha, hbd⟩
                      have HIN := Lib.hid hin
                      clear hin
                      go_wp2_with fail
                      go_roundw
                      case rel => exact ⟨k3 + 1, by omega, int_eq (by rw [HLS.out, HY.out, HIN.out]; simp), int_eq (by rw [HDD.out]; omega), HB5.out⟩
                      case measure => simp [intOf]; omega
                    · have t2 : decide (a ≤ dd) = true := by simpa using ha
                      have t3 : decide (dd ≤ b) = false := by simpa using hbd
                      have hin : inB dd a b = false := by simp [inB]; omega
                      have HIN := Lib.hid hin
                      clear hin
                      go_wp2_with fail
                      go_roundw
                      case rel => exact ⟨k3 + 1, by omega, int_eq (by rw [HLS.out, HY.out, HIN.out]; simp), int_eq (by rw [HDD.out]; omega), HB5.out⟩
                      case measure => simp [intOf]; omega
                  · have t2 : decide (a ≤ dd) = false := by simpa using ha
                    have hin : inB dd a b = false := by simp [inB]; omega
                    have HIN := Lib.hid hin
                    clear hin
                    go_wp2_with fail
                    go_roundw
                    case rel => exact ⟨k3 + 1, by omega, int_eq (by rw [HLS.out, HY.out, HIN.out]; simp), int_eq (by rw [HDD.out]; omega), HB5.out⟩
                    case measure => simp [intOf]; omega
              · have t1 : decide (lo + (k3 : Int) ≤ up) = false := by simp; omega
                obtain rfl : k3 = n3 := by omega
                have hlb := lostN_bd x.1 a b lo k3
                have haw2 := away_ok (lo := lo) (hi := up) HXO.out hxh lo0 up0 (by omega)
                have hac := away_copies haw2.2.1 a b (by omega) (by omega)
                rw [← HN3.out] at hac
                obtain ⟨lost, hlost⟩ : ∃ z, z = lostN x.1 a b lo k3 := ⟨_, rfl⟩
                rw [← hlost] at hlb hac ⊢
                have q0 := (h4r.cell (p := ⟨slb, so + i * 5, none⟩) hslw).trans s0
                have q1 := (h4r.cell (p := ⟨slb, so + i * 5 + 1, none⟩) hslw).trans s1
                have q2 := (h4r.cell (p := ⟨slb, so + i * 5 + 2, none⟩) hslw).trans s2
                have q3 := (h4r.cell (p := ⟨slb, so + i * 5 + 3, none⟩) hslw).trans s3
                have q4 := (h4r.cell (p := ⟨slb, so + i * 5 + 4, none⟩) hslw).trans s4
                have hkr := Blk.below HK.out hB HK.out.lt
                have v0 := hkr.cell 0
                have v1 := hkr.cell 1
                have v2 := hkr.cell 2
                have v3 := hkr.cell 3
                have v4 := hkr.cell 4
                simp at v0 v1 v2 v3 v4
                have HKR := Lib.hid hkr
                have HAC := Lib.hid hac
                have HAWO := Lib.hid haw2
                have HBR := Lib.hid hB
                have H4R := Lib.hid h4r
                clear hlost hac haw2 hB h4r hkr s0 s1 s2 s3 s4 hlt HRD
                obtain ⟨wq, hwq⟩ : ∃ wq, wq = wr := ⟨_, rfl⟩
                rw [← hwq] at HKR HBR H4R v0 v1 v2 v3 v4 q0 q1 q2 q3 q4 ⊢
                clear hwq
                go_upto_region 40 with fail
                have hns : slb ≠ gW := by have := HG34.out.1; omega
                have hkx := HKR.out.alloc (.cells #[.int .i64 lo, .int .i64 up] 88)
                have fx := hkx.frozen 4
                have cx := hkx.cell 4
                simp at cx
                obtain ⟨wy, hwy⟩ : ∃ W, W = (wq.setCell ⟨gW, 4, none⟩ (.slice (some ⟨wq.heap.size, 0, none⟩) 1 1)).alloc (.cells #[.int .i64 lo, .int .i64 up] 88) := ⟨_, rfl⟩
                obtain ⟨gN, hgN⟩ : ∃ g, g = wq.heap.size := ⟨_, rfl⟩
                have hgq : gW < wq.heap.size := HKR.out.lt
                have hky : Blk wy gW 63 #[.int .i64 x.1.id, .int .i64 x.1.lo, .int .i64 x.1.hi, .int .i64 x.1.days, .slice (some ⟨gN, 0, none⟩) 1 1] := by rw [hwy, hgN]; exact (HKR.out.set_ 4 _).alloc _
                have hkn : Blk wy gN 88 #[.int .i64 lo, .int .i64 up] := by
                  have h0 := Blk.new (wq.setCell ⟨gW, 4, none⟩ (.slice (some ⟨wq.heap.size, 0, none⟩) 1 1)) 88 #[.int .i64 lo, .int .i64 up]
                  rw [hwy, hgN]
                  simpa using h0
                have h3y : Below w3.heap.size w3 wy := by rw [hwy]; exact (H4R.out.setCell (by show w3.heap.size ≤ gW; have := HG34.out.1; omega) _).alloc (by simp; exact H4R.out.size) _
                have z4 := (h3y.cell (p := ⟨slb, so + i * 5 + 4, none⟩) hslw).trans ((H4R.out.cell (p := ⟨slb, so + i * 5 + 4, none⟩) hslw).symm.trans q4)
                have HKY := Lib.hid hky
                have HKN := Lib.hid hkn
                have H3Y := Lib.hid h3y
                have HWY := Lib.hid hwy
                have HGN := Lib.hid hgN
                clear hkx hky hkn h3y hwy hgN
                go_upto_region 41 with fail
                rw [← HWY.out, ← HGN.out]
                clear fx cx v0 v1 v2 v3 v4 q0 q1 q2 q3 q4
                have hcase : x.1.hol = [] ∨ ∃ h, x.1.hol = [h] := by
                  match hh : x.1.hol with
                  | [] => exact .inl rfl
                  | [h] => exact .inr ⟨h, rfl⟩
                  | _ :: _ :: _ => rw [hh] at hxh; simp at hxh
                go_upto_if 189 with fail
                go_cut [] (fun wx => ∃ (A' : Option Addr) (c' : Nat), Blk wx gW 63 #[.int .i64 x.1.id, .int .i64 x.1.lo, .int .i64 x.1.hi, .int .i64 x.1.days, .slice A' (awayS x.1 lo up).hol.length c'] ∧ Sl enc2 2 wx wx.heap.size A' (awayS x.1 lo up).hol ∧ Below w3.heap.size w3 wx)
                case first =>
                  rcases hcase with e | ⟨h, e⟩
                  · have ea : (awayS x.1 lo up).hol = [(lo, up)] := by simp [awayS, joinH, e]
                    have HEA := Lib.hid ea
                    have HE := Lib.hid e
                    rw [e]
                    clear ea e
                    go_wp2_with fail
                    go_meet
                    rw [HEA.out]
                    exact ⟨_, 1, HKY.out, Sl.of_blk (e := 88) (fun _ => rfl) (by simp [maxLen]) HKN.out rfl, H3Y.out⟩
                  · have hoh := badAt_false (HXO.out.2.2.2.2.2 0 (by rw [e]; simp))
                    have hd0 : x.1.hol.getD 0 (0, 0) = h := by rw [e]; rfl
                    rw [hd0] at hoh
                    have hxy := HXI.out.below H3Y.out
                    rw [e] at hxy z4 ⊢
                    simp only [List.length_cons, List.length_nil, Nat.zero_add]
                    obtain ⟨hb, ho, hxa, hhb, y0, y1⟩ := hxy.at2 (k := 0) (by simp)
                    simp at y0 y1
                    rw [hxa] at z4
                    have hby : hb < wy.heap.size := by have := H3Y.out.size; omega
                    have HHO := Lib.hid hoh
                    have HE := Lib.hid e
                    obtain ⟨wz, hwz⟩ : ∃ W, W = wy.alloc (.cells #[.int .i64 h.1, .int .i64 h.2] 88) := ⟨_, rfl⟩
                    obtain ⟨gH, hgH⟩ : ∃ g, g = wy.heap.size := ⟨_, rfl⟩
                    have hkz : Blk wz gH 88 #[.int .i64 h.1, .int .i64 h.2] := by rw [hwz, hgH]; exact Blk.new _ _ _
                    have hkW : Blk wz gW 63 #[.int .i64 x.1.id, .int .i64 x.1.lo, .int .i64 x.1.hi, .int .i64 x.1.days, .slice (some ⟨gN, 0, none⟩) 1 1] := by rw [hwz]; exact HKY.out.alloc _
                    have hkN : Blk wz gN 88 #[.int .i64 lo, .int .i64 up] := by rw [hwz]; exact HKN.out.alloc _
                    have h3z : Below w3.heap.size w3 wz := by rw [hwz]; exact H3Y.out.alloc H3Y.out.size _
                    have HWZ := Lib.hid hwz
                    have HGH := Lib.hid hgH
                    have HKZ := Lib.hid hkz
                    have HKW := Lib.hid hkW
                    have HKN2 := Lib.hid hkN
                    have H3Z := Lib.hid h3z
                    clear hoh hd0 hxy hxa e hwz hgH hkz hkW hkN h3z HKY HKN H3Y
                    go_upto_region 44 with fail
                    rw [← HWZ.out, ← HGH.out]
                    clear y0 y1 z4
                    have u0 := HKZ.out.cell 0
                    have u1 := HKZ.out.cell 1
                    simp at u0 u1
                    obtain ⟨⟨k0, k1⟩, ⟨k2, k3⟩, -⟩ := HHO.out
                    have f1 := IntWalk.i64_in (up + 1) (by omega)
                    have f2 := IntWalk.i64_in (h.2 + 1) (by omega)
                    by_cases c1 : up + 1 < h.1
                    · have ea : (awayS x.1 lo up).hol = [(lo, up), h] := by simp [awayS, joinH, HE.out, c1]
                      have HEA := Lib.hid ea
                      have t1 : decide (up + 1 < h.1) = true := by simpa using c1
                      clear ea
                      go_upto_region 45 with fail
                      obtain ⟨i0, hi0, hz0, hz1, hz2⟩ := info_parts infoSpan
                      have HI0 := Lib.hid hi0
                      have v4 := HKW.out.cell 4
                      simp at v4
                      have hown0 : wz.ownsRow gN 88 2 (.slice (some ⟨gN, 0, none⟩) 1 1) 1 [.int .i64 lo, .int .i64 up] := ⟨rfl, .inr ⟨gN, 1, #[.int .i64 lo, .int .i64 up], rfl, Nat.le_refl _, HKN2.out, by omega, by simp [maxLen], rfl, rfl⟩⟩
                      have hown2 := hown0.alloc (.cells #[.int .i64 h.1, .int .i64 h.2] 88)
                      have HOWN2 := Lib.hid hown2
                      have HNEWS := Lib.hid (news_of1 wz 88 #[.int .i64 h.1, .int .i64 h.2])
                      have hone : ∀ u ∈ [Value.int .i64 h.1, Value.int .i64 h.2], u.oneCell' = true := by intro u hu; simp at hu; rcases hu with rfl | rfl <;> rfl
                      have HONE := Lib.hid hone
                      have HM1 := Lib.hid (show 1 + 1 ≤ maxLen by simp [maxLen])
                      have HM3 := Lib.hid (show gN ≤ (wz.alloc (.cells #[.int .i64 h.1, .int .i64 h.2] 88)).heap.size by have := HKN2.out.lt; simp; omega)
                      have hkW2 := HKW.out.alloc (.cells #[.int .i64 h.1, .int .i64 h.2] 88)
                      have HKW2 := Lib.hid hkW2
                      have hnb := own_blk_ne hown2 hkW2 (by decide)
                      have HNB := Lib.hid hnb
                      clear hi0 hown0 hown2 hone hkW2 hnb
                      go_wp2_with (at_builtin; refine wpList_append_own _ rfl (.tmp 215) (.tmp 217) 61 rfl gN 88 i0 (.agg #[.int .i64 0, .int .i64 0]) 2 16 Try.underlying61 HI0.out hz0 hz1 hz2 rfl (by decide) (.slice (some ⟨gN, 0, none⟩) 1 1) 1 [.int .i64 lo, .int .i64 up] rfl HOWN2.out ⟨wz.heap.size, 0, none⟩ 1 1 [.int .i64 h.1, .int .i64 h.2] rfl rfl HNEWS.out HONE.out HM1.out (by decide) HM3.out ?_; intro v' w5 hown1 hg1 _; obtain ⟨A', c', rfl⟩ := own_shape hown1; have hkg := HKW2.out.grown hg1 HNB.out; have y4 := hkg.cell 4; have y5 := hkg.frozen 4; simp at y4; have HKG := Lib.hid hkg; have HO1 := Lib.hid hown1; have HG1 := Lib.hid hg1; clear hkg hown1 hg1)
                      go_meet
                      rw [HEA.out]
                      have hgn : w3.heap.size ≤ gN := by rw [HGN.out]; exact H4R.out.size
                      refine ⟨A', c', HKG.out.set_ 4 _, Sl.of_own (base := gN) (e := 88) (l := [(lo, up), h]) (c := c') (fun _ => rfl) (own_far HO1.out (own_blk_ne HO1.out HKG.out (by decide)) _), ?_⟩
                      exact ((H3Z.out.alloc H3Z.out.size _).grown HG1.out (by simp; have := H3Z.out.size; omega) (fun k hk => by simp [Value.ownBlock] at hk; omega)).setCell (by show w3.heap.size ≤ gW; have := HG34.out.1; omega) _
                    · by_cases c2 : h.2 + 1 < lo
                      · have ea : (awayS x.1 lo up).hol = [h, (lo, up)] := by simp [awayS, joinH, HE.out, c1, c2]
                        have HEA := Lib.hid ea
                        have t1 : decide (up + 1 < h.1) = false := by simpa using c1
                        have t2 : decide (h.2 + 1 < lo) = true := by simpa using c2
                        clear ea
                        have v4 := HKW.out.cell 4
                        simp at v4
                        have v4f := HKW.out.frozen 4
                        have hz1 := HKW.out.alloc (.cells #[.int .i64 h.1, .int .i64 h.2, .int .i64 lo, .int .i64 up] 88)
                        have v5 := hz1.cell 4
                        have v6 := hz1.frozen 4
                        simp at v5
                        have HZ1 := Lib.hid hz1
                        clear hz1
                        go_wp2_with fail
                        go_meet
                        have hne : wz.heap.size ≠ gW := by have := HKW.out.lt; omega
                        rw [HEA.out]
                        exact ⟨_, 2, HZ1.out.set_ 4 _, Sl.of_blk (e := 88) (fun _ => rfl) (by simp [maxLen]) (Blk.far (Blk.new wz 88 #[.int .i64 h.1, .int .i64 h.2, .int .i64 lo, .int .i64 up]) (by exact hne) _) rfl, (H3Z.out.alloc H3Z.out.size _).setCell (by show w3.heap.size ≤ gW; have := HG34.out.1; omega) _⟩
                      · have ea : (awayS x.1 lo up).hol = [(min lo h.1, max up h.2)] := by simp [awayS, joinH, HE.out, c1, c2]
                        have HEA := Lib.hid ea
                        have t1 : decide (up + 1 < h.1) = false := by simpa using c1
                        have t2 : decide (h.2 + 1 < lo) = false := by simpa using c2
                        clear ea
                        have v4 := HKW.out.cell 4
                        simp at v4
                        have v4f := HKW.out.frozen 4
                        have hz1 := HKW.out.alloc (.cells #[.int .i64 (min lo h.1), .int .i64 (max up h.2)] 88)
                        have v5 := hz1.cell 4
                        have v6 := hz1.frozen 4
                        simp at v5
                        have HZ1 := Lib.hid hz1
                        clear hz1
                        go_wp2_with fail
                        go_meet
                        have hne : wz.heap.size ≠ gW := by have := HKW.out.lt; omega
                        rw [HEA.out]
                        exact ⟨_, 1, HZ1.out.set_ 4 _, Sl.of_blk (e := 88) (fun _ => rfl) (by simp [maxLen]) (Blk.far (Blk.new wz 88 #[.int .i64 (min lo h.1), .int .i64 (max up h.2)]) (by exact hne) _) rfl, (H3Z.out.alloc H3Z.out.size _).setCell (by show w3.heap.size ≤ gW; have := HG34.out.1; omega) _⟩
                case rest =>
                  obtain ⟨A', c', hkc, hsc, h3c⟩ := hcut
                  have hgc := copiesR_any x.1 x.2.1 x.2.2 a b wc (by omega) ((HXI.out.below h3c).mono h3c.size)
                  have hcr : copiesR x.1 a b = (copiesB x.1 a b, 0) := by simp [copiesR, (OkS_iff _).2 HXO.out, HPER.out]
                  have hcr2 : copiesR (awayS x.1 lo up) a b = (copiesB x.1 a b - lost, 0) := by simp [copiesR, (OkS_iff _).2 HAWO.out.1, HPER.out, HAC.out]
                  rw [hcr] at hgc
                  unfold subV at hgc
                  have hcb := copiesB_bd100 x.1 a b
                  have q0 := (h3c.cell (p := ⟨slb, so + i * 5, none⟩) hslw).trans S0.out
                  have q1 := (h3c.cell (p := ⟨slb, so + i * 5 + 1, none⟩) hslw).trans S1.out
                  have q2 := (h3c.cell (p := ⟨slb, so + i * 5 + 2, none⟩) hslw).trans S2.out
                  have q3 := (h3c.cell (p := ⟨slb, so + i * 5 + 3, none⟩) hslw).trans S3.out
                  have q4 := (h3c.cell (p := ⟨slb, so + i * 5 + 4, none⟩) hslw).trans S4.out
                  have HGC := Lib.hid hgc
                  have HCR2 := Lib.hid hcr2
                  have HKC := Lib.hid hkc
                  have HSC := Lib.hid hsc
                  have H3C := Lib.hid h3c
                  clear hgc hcr hcr2 hkc hsc h3c z4
                  go_wp2_with fail
                  refine HGC.out.mono ?_
                  rintro e w6 ⟨rfl, hb6⟩
                  have hk6 := Blk.below HKC.out hb6 HKC.out.lt
                  have g2 := copiesR_any (awayS x.1 lo up) A' c' a b w6 (by have := HAWO.out.2.2; omega) ((HSC.out.below hb6).mono hb6.size)
                  rw [HCR2.out] at g2
                  unfold subV at g2
                  have v0 := hk6.cell 0
                  have v1 := hk6.cell 1
                  have v2 := hk6.cell 2
                  have v3 := hk6.cell 3
                  have v4 := hk6.cell 4
                  simp at v0 v1 v2 v3 v4
                  have HG2 := Lib.hid g2
                  have H36 := Lib.hid (H3C.out.trans (hb6.mono H3C.out.size))
                  clear hk6 g2 hb6 q0 q1 q2 q3 q4
                  go_wp2_with fail
                  refine HG2.out.mono ?_
                  rintro e w7 ⟨rfl, hb7⟩
                  have H37 := Lib.hid (H36.out.trans (hb7.mono H36.out.size))
                  clear hb7 v0 v1 v2 v3 v4
                  have f1 := IntWalk.i64_in (copiesB x.1 a b - lost) (by omega)
                  have t1 : (copiesB x.1 a b - lost == copiesB x.1 a b - lost) = true := by simp
                  go_wp2_with fail
                  refine (haw _).mono ?_
                  rintro e w8 ⟨rfl, hb8⟩
                  have hbb := HB1.out.trans ((HB3.out.trans ((H37.out.trans (hb8.mono H37.out.size)).mono HB3.out.size)).mono HB1.out.size)
                  go_wp2_with fail
                  go_ret
                  exact ⟨rfl, hbb⟩
end Go.Proofs.Ytgopdfbmddkpfaa
