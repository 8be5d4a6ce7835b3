/- Walk of AgentAdds: it returns true and turns nothing that was there; conditions: none. -/
import Derived.Test.YtgopdfbmddkpfaaV3
import Derived.Test.YtgopdfbmddkpfaaV4
import Derived.Test.YtgopdfbmddkpfaaSpecA
import Derived.Test.YtgopdfbmddkpfaaL1
import Derived.Test.YtgopdfbmddkpfaaH2
import Derived.Test.YtgopdfbmddkpfaaX3
set_option linter.unusedSimpArgs false
set_option linter.unusedVariables false
namespace Go.Ag
/-- how many copies of a day came back late -/
def ltF (h : List (Int × Int)) (late : List Int) (i : Nat) : Int := if i < late.length then late.getD i 0 % ((h.getD i (0, 0)).2 + 1) else 0
def mapR (f : Nat → Int) (n : Nat) : List Int := (List.range n).map f
theorem mapR_get {f : Nat → Int} {n i : Nat} (hi : i < n) : (mapR f n).getD i 0 = f i := by simp [mapR, hi]
theorem mapR_len (f : Nat → Int) (n : Nat) : (mapR f n).length = n := by simp [mapR]
theorem lateN_mapR (f : Nat → Int) (n : Nat) : lateN (mapR f n) n = sumN f n := sumN_congr fun i hi => mapR_get hi
theorem ltF_bd {h : List (Int × Int)} {late : List Int} (hd : ∀ d ∈ h, OkDay d) {i : Nat} (hi : i < h.length) : 0 ≤ ltF h late i ∧ ltF h late i ≤ (h.getD i (0, 0)).2 := by
  have e : h.getD i (0, 0) = h[i] := by simp [hi]
  have ok := hd _ (List.getElem_mem hi)
  unfold ltF
  rw [e]
  obtain ⟨_, _, h3, _⟩ := ok
  split
  · have a := Int.emod_nonneg (late.getD i 0) (show h[i].2 + 1 ≠ 0 by omega)
    have b := Int.emod_lt_of_pos (late.getD i 0) (show 0 < h[i].2 + 1 by omega)
    omega
  · omega
end Go.Ag
namespace Go.Proofs.Ytgopdfbmddkpfaa
open Go.RowKit Go.Fh Go.Ag

set_option maxRecDepth 20000 in
set_option maxHeartbeats 40000000 in
theorem agentAdds_walk (haw : ∀ w, Calls Try.prog 15 #[] w fun e w' => e = .returned (.bool true) ∧ Below w.heap.size w w') (A : Option Addr) (c : Nat) (bs : List Int) (B : Option Addr) (cb : Nat) (late : List Int) (M : Option Addr) (cm : Nat) (ms : List Int) (price back less at_ day : Int) (w : World)
    (hl : bs.length ≤ 9223372036854775807) (hl2 : late.length ≤ 9223372036854775807) (hl3 : ms.length ≤ 9223372036854775807)
    (hb : ∀ n ∈ bs, 0 ≤ n ∧ n ≤ 255) (hb2 : ∀ n ∈ late, 0 ≤ n ∧ n ≤ 255) (hb3 : ∀ n ∈ ms, 0 ≤ n ∧ n ≤ 255) (hA : Sl encB 1 w w.heap.size A bs) (hB : Sl encB 1 w w.heap.size B late) (hM : Sl encB 1 w w.heap.size M ms)
    (h1 : 0 ≤ price) (h1' : price ≤ 255) (h2 : 0 ≤ back) (h2' : back ≤ 255) (h3 : 0 ≤ less) (h3' : less ≤ 255) (h4 : 0 ≤ at_) (h4' : at_ ≤ 255) (h5 : 0 ≤ day) (h5' : day ≤ 255) :
    Calls Try.prog 8 #[.slice A bs.length c, .slice B late.length cb, .slice M ms.length cm, .int .u8 price, .int .u8 back, .int .u8 less, .int .u8 at_, .int .u8 day] w fun e w' => e = .returned (.bool true) ∧ Below w.heap.size w w' := by
  have HHI := Lib.hid (history_any A c bs w hl hb hA)
  have HLT := Lib.hid hB
  have HMS := Lib.hid hM
  have HBL := Lib.hid hb2
  have HBM := Lib.hid hb3
  have hdl := histD_len bs
  have hdo := histD_ok bs
  generalize histD bs = h at *
  have hok : ∀ d ∈ h, OkDay d := fun d hd => (hdo d hd).1
  have HOK := Lib.hid hok
  have HCK := Lib.hid (checkH_zero.2 ⟨by omega, hok⟩ : checkH h = 0)
  have hl4 : ∀ j, j < h.length → 0 ≤ ltF h late j ∧ ltF h late j ≤ 10000 := by
    intro j hj
    have a := ltF_bd (late := late) hok hj
    have e : h.getD j (0, 0) = h[j] := by simp [hj]
    have ok := hok _ (List.getElem_mem hj)
    rw [e] at a
    unfold OkDay at ok
    omega
  have HL4 := Lib.hid hl4
  clear hl4
  have hmk := fun (W : World) => run_make_row' (P := Try.prog) 37 3 (.int .i64 0) 8 Try.underlying37 infoInt rfl .i64 .i64 h.length (by omega) (by omega) W
  obtain ⟨bk, hbk⟩ : ∃ bk, bk = min back (100 + price) := ⟨_, rfl⟩
  have k1 : 0 ≤ bk := by omega
  have k2 : bk ≤ 255 := by omega
  have kp : bk ≤ 100 + price := by omega
  obtain ⟨lt, hlt0⟩ : ∃ lt, lt = bk - less % (bk + 1) := ⟨_, rfl⟩
  have k3 := Int.emod_nonneg less (show bk + 1 ≠ 0 by omega)
  have k4 := Int.emod_lt_of_pos less (show 0 < bk + 1 by omega)
  have k5 : 0 ≤ lt := by omega
  have k6 : lt ≤ bk := by omega
  have g1 := IntWalk.i64_in (100 + price) (by omega)
  have g2 := IntWalk.i64_in (bk + 1) (by omega)
  have g3 := IntWalk.i64_in (bk - less % (bk + 1)) (by omega)
  have g4 : ((bk + 1) == 0) = false := by rw [beq_eq_false_iff_ne]; omega
  have HBK := Lib.hid hbk
  have HLTV := Lib.hid hlt0
  clear hA hB hM hb hb2 hb3 hdo hok hbk hlt0
  go_enter Try.func8, Try.ntmps8
  go_wp2_with fail
  refine HHI.out.mono ?_
  clear HHI
  rintro e w1 ⟨H1, ch, rfl, hs1, _, hb1⟩
  have HS1 := Lib.hid hs1
  have HB1 := Lib.hid hb1
  clear hs1 hb1
  go_upto_region 4 with fail
  rw [← HBK.out]
  go_cut [64] (fun p wx => wx = (w1.alloc (.cells #[.int .i64 (100 + price), .int .i64 bk, .int .i64 lt, .int .i64 3, .int .i64 7] 36)).drew)
  case first =>
    clear HLT HMS HBL HBM HOK HCK hmk HS1 HB1 HBK
    go_region
    all_goals go_wp2_with fail
    all_goals go_meet
    all_goals (rw [HLTV.out])
  case rest =>
    obtain rfl := hcut
    have hgT : Blk (w1.alloc (.cells #[.int .i64 (100 + price), .int .i64 bk, .int .i64 lt, .int .i64 3, .int .i64 7] 36)).drew w1.heap.size 36 #[.int .i64 (100 + price), .int .i64 bk, .int .i64 lt, .int .i64 3, .int .i64 7] := Blk.new _ _ _
    have h1T : Below w1.heap.size w1 (w1.alloc (.cells #[.int .i64 (100 + price), .int .i64 bk, .int .i64 lt, .int .i64 3, .int .i64 7] 36)).drew := ((Below.refl _ _).alloc (Nat.le_refl _) _).drew
    obtain ⟨gT, hgTe⟩ : ∃ g, g = w1.heap.size := ⟨_, rfl⟩
    rw [← hgTe] at hgT ⊢
    obtain ⟨wT, hwT⟩ : ∃ wT, wT = (w1.alloc (.cells #[.int .i64 (100 + price), .int .i64 bk, .int .i64 lt, .int .i64 3, .int .i64 7] 36)).drew := ⟨_, rfl⟩
    rw [← hwT] at hgT h1T ⊢
    have HGT := Lib.hid hgT
    have H1T := Lib.hid h1T
    have HGTE := Lib.hid hgTe
    clear hgT h1T hgTe hwT g1 g2 g3 g4
    go_upto_region 5 with fail
    go_cut [19, 20] (fun p q wx => ∃ ga gb : Nat, p = .slice (some ⟨ga, 0, none⟩) h.length h.length ∧ q = .slice (some ⟨gb, 0, none⟩) h.length h.length ∧ ga ≠ gb ∧ wT.heap.size ≤ ga ∧ wT.heap.size ≤ gb ∧ wx.rowIs ga 3 h.length (ivF fun _ => 0) ∧ wx.rowIs gb 3 h.length (ivF fun _ => 0) ∧ Below wT.heap.size wT wx)
    case first =>
      clear HLT HMS HBL HBM HOK HCK HS1 HB1 HBK HGT H1T HGTE HLTV
      go_region
      all_goals go_wp2_with fail
      all_goals go_meet
      all_goals
        first
          | (refine ⟨wT.heap.size, wT.heap.size + 1, rfl, rfl, by omega, by omega, by omega, ?_, ?_, ?_⟩
             · exact (World.rowIs_made wT (.int .i64 0) h.length 3).alloc _
             · have h0 := World.rowIs_made (wT.alloc (.cells (madeCells #[.int .i64 0] h.length) 3)) (.int .i64 0) h.length 3
               rw [World.size_alloc] at h0
               exact h0
             · repeat (first | exact Below.refl _ _ | refine Below.drew ?_ | refine below_drewN ?_ _ | refine Below.alloc ?_ (by simp) _))
          | (refine ⟨wT.heap.size + 1, wT.heap.size, rfl, rfl, by omega, by omega, by omega, ?_, ?_, ?_⟩
             · have h0 := World.rowIs_made (wT.alloc (.cells (madeCells #[.int .i64 0] h.length) 3)) (.int .i64 0) h.length 3
               rw [World.size_alloc] at h0
               exact h0
             · exact (World.rowIs_made wT (.int .i64 0) h.length 3).alloc _
             · repeat (first | exact Below.refl _ _ | refine Below.drew ?_ | refine below_drewN ?_ _ | refine Below.alloc ?_ (by simp) _))
    case rest =>
      obtain ⟨ga, gb, rfl, rfl, hab, hga, hgb, hrA, hrB, hBT⟩ := hcut
      clear hmk
      have HRA := Lib.hid hrA
      have HRB := Lib.hid hrB
      have HBT := Lib.hid hBT
      clear hrA hrB hBT
      go_wp2_with fail
      go_loopw [21, 22, 23, 24, 73] (fun n s u r i wr => ∃ k : Nat, k ≤ h.length ∧ i = .int .i64 k ∧ n = .int .i64 (sumN (ltF h late) k) ∧ s = .int .i64 (supN h k - retN h k) ∧ u = .int .i64 (supN h k) ∧ r = .int .i64 (retN h k) ∧ Hid (wr.rowIs ga 3 h.length (ivF fun _ => 0)) ∧ Hid (wr.rowIs gb 3 h.length (ivF fun j => if j < k then ltF h late j else 0)) ∧ Below wT.heap.size wT wr) (fun _ _ _ _ i _ => h.length - (intOf i).toNat)
      case atStart => exact ⟨0, Nat.zero_le _, rfl, rfl, int_eq (by simp [supN, retN, sumN]), rfl, rfl, HRA, by simpa [Hid] using HRB.out, HBT.out⟩
      case round =>
        clear HRA HRB HBT
        obtain ⟨k, hk, rfl, rfl, rfl, rfl, rfl, HRA, HRB, hB⟩ := hrel
        have hbds := sums_bd HOK.out k hk
        have hln := sumN_bd (f := ltF h late) (n := k) (B := 10000) (fun j hj => HL4.out j (by omega))
        have hsz := hB.size
        have h1r := H1T.out.trans (hB.mono (by have := H1T.out.size; exact this))
        by_cases hkt : k < h.length
        · obtain ⟨db, doff, rfl, hdb, d0, d1⟩ := (HS1.out.below h1r).at2 hkt
          have e1 : h.getD k (0, 0) = h[k] := by simp [hkt]
          have ok := HOK.out _ (List.getElem_mem hkt)
          have hlk := ltF_bd (late := late) HOK.out hkt
          have hs1 : supN h (k + 1) = supN h k + h[k].1 := by rw [← e1]; rfl
          have hs2 : retN h (k + 1) = retN h k + h[k].2 := by rw [← e1]; rfl
          have hs3 : sumN (ltF h late) (k + 1) = sumN (ltF h late) k + ltF h late k := rfl
          have hlf : ltF h late k = if k < late.length then late.getD k 0 % (h[k].2 + 1) else 0 := by unfold ltF; rw [e1]
          rw [e1] at hlk
          obtain ⟨dd, hdd⟩ : ∃ d, d = h[k] := ⟨_, rfl⟩
          rw [← hdd] at d0 d1 ok hs1 hs2 hlf hlk
          unfold OkDay at ok
          have hdbw : db < wr.heap.size := by have := h1r.size; have := H1T.out.size; have := HGTE.out; omega
          have hdga : db ≠ gb := by have := H1T.out.size; omega
          have hrB2 := HRB.out.alloc (.cells #[.int .i64 dd.1, .int .i64 dd.2] 33)
          have fz := hrB2.frozen k
          have cz : World.cell? (wr.alloc (.cells #[.int .i64 dd.1, .int .i64 dd.2] 33)) ⟨gb, k, none⟩ = some (.int .i64 0) := by simpa [ivF] using hrB2.cell hkt
          have hBd := hB.alloc hB.size (.cells #[.int .i64 dd.1, .int .i64 dd.2] 33)
          have hgbl : gb < wr.heap.size := HRB.out.lt
          have HBD := Lib.hid hBd
          have HS1' := Lib.hid hs1
          have HS2' := Lib.hid hs2
          have HS3' := Lib.hid hs3
          have HLF := Lib.hid hlf
          clear e1 hs1 hs2 hs3 hlf hdd hrB2 hBd
          by_cases hlt2 : k < late.length
          · have hwr := HB1.out.trans (h1r.mono HB1.out.size)
            obtain ⟨lb, lo, rfl, hlb, hlc⟩ := (HLT.out.below hwr).atB hlt2
            have y0 := hlc k hlt2
            have hyb := HBL.out (late.getD k 0) (by rw [List.getD_eq_getElem?_getD, List.getElem?_eq_getElem hlt2]; exact List.getElem_mem _)
            obtain ⟨y, hy⟩ : ∃ y, y = late.getD k 0 := ⟨_, rfl⟩
            rw [← hy] at y0 hyb
            have hlf := HLF.out
            rw [if_pos hlt2, ← hy] at hlf
            have HLF2 := Lib.hid hlf
            have hlbw : lb < wr.heap.size := by have := hwr.size; omega
            have hlbg : lb ≠ gb := by have := HB1.out.size; have := H1T.out.size; omega
            obtain ⟨yb1, yb2⟩ := hyb
            have t1 : decide ((k : Int) < (late.length : Int)) = true := by simp; omega
            have f1 := IntWalk.i64_in (dd.2 + 1) (by omega)
            have f2 : ((dd.2 + 1) == 0) = false := by rw [beq_eq_false_iff_ne]; omega
            have f3 := Int.emod_nonneg y (show dd.2 + 1 ≠ 0 by omega)
            have f4 := Int.emod_lt_of_pos y (show 0 < dd.2 + 1 by omega)
            clear hlc hy hlf hwr
            go_upto_region 11 with fail
            go_cut [93] (fun p wx => wx = ((wr.setCell ⟨gb, k, none⟩ (.int .i64 (y % (dd.2 + 1)))).alloc (.cells #[.int .i64 dd.1, .int .i64 dd.2] 33)).drew)
            case first =>
              clear HLT HMS HBL HBM HOK HCK HS1 HB1 HBK HGT H1T HGTE HLTV HRA HRB HBD HS1' HS2' HS3' HLF HLF2 HL4 h1r hbds hln
              go_region
              all_goals go_wp2_with fail
              all_goals go_meet
              all_goals rfl
            case rest =>
              obtain rfl := hcut
              have hrB3 : (((wr.setCell ⟨gb, k, none⟩ (.int .i64 (y % (dd.2 + 1)))).alloc (.cells #[.int .i64 dd.1, .int .i64 dd.2] 33)).drew).rowIs gb 3 h.length (ivF fun j => if j < k + 1 then ltF h late j else 0) := by
                refine World.rowIs.congr ((HRB.out.set k (.int .i64 (y % (dd.2 + 1)))).alloc (.cells #[.int .i64 dd.1, .int .i64 dd.2] 33)) fun j hj => ?_
                unfold ivF
                by_cases e : j = k
                · subst e; simp [HLF2.out]
                · have : j < k + 1 ↔ j < k := by omega
                  simp [e, this]
              have hrA3 : (((wr.setCell ⟨gb, k, none⟩ (.int .i64 (y % (dd.2 + 1)))).alloc (.cells #[.int .i64 dd.1, .int .i64 dd.2] 33)).drew).rowIs ga 3 h.length (ivF fun _ => 0) := (World.rowIs.alloc (World.rowIs.of_block HRA.out (Below.heap_setCell wr _ _ ga (by exact hab))) (.cells #[.int .i64 dd.1, .int .i64 dd.2] 33))
              have hB3 : Below wT.heap.size wT (((wr.setCell ⟨gb, k, none⟩ (.int .i64 (y % (dd.2 + 1)))).alloc (.cells #[.int .i64 dd.1, .int .i64 dd.2] 33)).drew) := ((hB.setCell (by exact hgb) _).alloc (by simp; exact hB.size) _).drew
              have q0 : (((wr.setCell ⟨gb, k, none⟩ (.int .i64 (y % (dd.2 + 1)))).alloc (.cells #[.int .i64 dd.1, .int .i64 dd.2] 33)).drew).cell? ⟨gb, k, none⟩ = some (.int .i64 (y % (dd.2 + 1))) := by
                have := hrB3.cell hkt
                simpa [ivF, HLF2.out] using this
              have hkd : Blk (((wr.setCell ⟨gb, k, none⟩ (.int .i64 (y % (dd.2 + 1)))).alloc (.cells #[.int .i64 dd.1, .int .i64 dd.2] 33)).drew) wr.heap.size 33 #[.int .i64 dd.1, .int .i64 dd.2] := by
                  have h0 := Blk.new (wr.setCell ⟨gb, k, none⟩ (.int .i64 (y % (dd.2 + 1)))) 33 #[.int .i64 dd.1, .int .i64 dd.2]
                  rw [show (wr.setCell ⟨gb, k, none⟩ (.int .i64 (y % (dd.2 + 1)))).heap.size = wr.heap.size by simp] at h0
                  exact h0
              have q1 : (((wr.setCell ⟨gb, k, none⟩ (.int .i64 (y % (dd.2 + 1)))).alloc (.cells #[.int .i64 dd.1, .int .i64 dd.2] 33)).drew).cell? ⟨wr.heap.size, 0, none⟩ = some (.int .i64 dd.1) := hkd.cell 0
              have q2 : (((wr.setCell ⟨gb, k, none⟩ (.int .i64 (y % (dd.2 + 1)))).alloc (.cells #[.int .i64 dd.1, .int .i64 dd.2] 33)).drew).cell? ⟨wr.heap.size, 1, none⟩ = some (.int .i64 dd.2) := hkd.cell 1
              have hlkv : 0 ≤ y % (dd.2 + 1) ∧ y % (dd.2 + 1) ≤ dd.2 := by have := hlk; rw [HLF2.out] at this; exact this
              have HRB3 := Lib.hid hrB3
              have HRA3 := Lib.hid hrA3
              have HB3 := Lib.hid hB3
              clear hrB3 hrA3 hB3 hkd cz fz
              obtain ⟨WW, hWW⟩ : ∃ WW, WW = ((wr.setCell ⟨gb, k, none⟩ (.int .i64 (y % (dd.2 + 1)))).alloc (.cells #[.int .i64 dd.1, .int .i64 dd.2] 33)).drew := ⟨_, rfl⟩
              rw [← hWW] at q0 q1 q2 HRB3 HRA3 HB3
              rw [← hWW]
              clear hWW
              generalize sumN (ltF h late) k = nk at *
              generalize supN h k = sk at *
              generalize retN h k = rk at *
              generalize y % (dd.2 + 1) = vv at *
              have w1' := IntWalk.i64_in (nk + vv) (by omega)
              have w2' := IntWalk.i64_in (sk - rk + dd.1) (by omega)
              have w3' := IntWalk.i64_in (sk - rk + dd.1 - dd.2) (by omega)
              have w4' := IntWalk.i64_in (sk + dd.1) (by omega)
              have w5' := IntWalk.i64_in (rk + dd.2) (by omega)
              go_wp2_with fail
              go_quiet (fail)
              go_wp2_with fail
              go_roundw
              case rel => exact ⟨k + 1, by omega, by go_num, int_eq (by rw [HS3'.out, HLF2.out]), int_eq (by rw [HS1'.out, HS2'.out]; omega), int_eq (by rw [HS1'.out]), int_eq (by rw [HS2'.out]), HRA3, HRB3, below_drewN HB3.out _⟩
              case measure => simp [intOf]; omega

          · have hlf := HLF.out
            rw [if_neg hlt2] at hlf
            have HLF2 := Lib.hid hlf
            have t1 : decide ((k : Int) < (late.length : Int)) = false := by simp; omega
            clear hlf
            have hrB3 : (wr.alloc (.cells #[.int .i64 dd.1, .int .i64 dd.2] 33)).rowIs gb 3 h.length (ivF fun j => if j < k + 1 then ltF h late j else 0) := by
              refine World.rowIs.congr (HRB.out.alloc (.cells #[.int .i64 dd.1, .int .i64 dd.2] 33)) fun j hj => ?_
              unfold ivF
              by_cases e : j = k
              · subst e; simp [HLF2.out]
              · have : j < k + 1 ↔ j < k := by omega
                simp [e, this]
            have hrA3 : (wr.alloc (.cells #[.int .i64 dd.1, .int .i64 dd.2] 33)).rowIs ga 3 h.length (ivF fun _ => 0) := HRA.out.alloc (.cells #[.int .i64 dd.1, .int .i64 dd.2] 33)
            have hB3 : Below wT.heap.size wT (wr.alloc (.cells #[.int .i64 dd.1, .int .i64 dd.2] 33)) := hB.alloc hB.size _
            have q0 : (wr.alloc (.cells #[.int .i64 dd.1, .int .i64 dd.2] 33)).cell? ⟨gb, k, none⟩ = some (.int .i64 ((0 : Int))) := by
              have := hrB3.cell hkt
              simpa [ivF, HLF2.out] using this
            have hkd : Blk (wr.alloc (.cells #[.int .i64 dd.1, .int .i64 dd.2] 33)) wr.heap.size 33 #[.int .i64 dd.1, .int .i64 dd.2] := Blk.new _ _ _
            have q1 : (wr.alloc (.cells #[.int .i64 dd.1, .int .i64 dd.2] 33)).cell? ⟨wr.heap.size, 0, none⟩ = some (.int .i64 dd.1) := hkd.cell 0
            have q2 : (wr.alloc (.cells #[.int .i64 dd.1, .int .i64 dd.2] 33)).cell? ⟨wr.heap.size, 1, none⟩ = some (.int .i64 dd.2) := hkd.cell 1
            have hlkv : 0 ≤ (0 : Int) ∧ (0 : Int) ≤ dd.2 := by have := hlk; rw [HLF2.out] at this; exact this
            have HRB3 := Lib.hid hrB3
            have HRA3 := Lib.hid hrA3
            have HB3 := Lib.hid hB3
            clear hrB3 hrA3 hB3 hkd cz fz
            obtain ⟨WW, hWW⟩ : ∃ WW, WW = wr.alloc (.cells #[.int .i64 dd.1, .int .i64 dd.2] 33) := ⟨_, rfl⟩
            rw [← hWW] at q0 q1 q2 HRB3 HRA3 HB3
            go_upto_region 12 with fail
            rw [← hWW]
            clear hWW
            generalize sumN (ltF h late) k = nk at *
            generalize supN h k = sk at *
            generalize retN h k = rk at *
            obtain ⟨vv, hvv⟩ : ∃ vv : Int, vv = 0 := ⟨_, rfl⟩
            have hlkw : 0 ≤ vv ∧ vv ≤ dd.2 := by omega
            rw [← hvv] at q0 HLF2
            clear hvv hlkv
            have w1' := IntWalk.i64_in (nk + vv) (by omega)
            have w2' := IntWalk.i64_in (sk - rk + dd.1) (by omega)
            have w3' := IntWalk.i64_in (sk - rk + dd.1 - dd.2) (by omega)
            have w4' := IntWalk.i64_in (sk + dd.1) (by omega)
            have w5' := IntWalk.i64_in (rk + dd.2) (by omega)
            go_wp2_with fail
            go_quiet (fail)
            go_wp2_with fail
            go_roundw
            case rel => exact ⟨k + 1, by omega, by go_num, int_eq (by rw [HS3'.out, HLF2.out]), int_eq (by rw [HS1'.out, HS2'.out]; omega), int_eq (by rw [HS1'.out]), int_eq (by rw [HS2'.out]), HRA3, HRB3, below_drewN HB3.out _⟩
            case measure => simp [intOf]; omega

        · obtain rfl : k = h.length := by omega
          have hrB4 : wr.rowIs gb 3 h.length (ivF (ltF h late)) := HRB.out.congr fun j hj => by unfold ivF; simp [hj]
          have hsA : Sl encInt 1 wr wr.heap.size (some ⟨ga, 0, none⟩) (mapR (fun _ => 0) h.length) := sl_row HRA.out
          have hsB : Sl encInt 1 wr wr.heap.size (some ⟨gb, 0, none⟩) (mapR (ltF h late) h.length) := sl_row hrB4
          obtain ⟨t, ht⟩ : ∃ t : TariffD, t = ⟨100 + price, bk, lt, 3, 7⟩ := ⟨_, rfl⟩
          have hwt : wrongT t = false := (OkT_iff t).2 (by rw [ht]; unfold OkT; dsimp only; omega)
          have hz0 : lateN (mapR (fun _ => 0) h.length) h.length = 0 := by
            rw [lateN_mapR]
            have : ∀ n, sumN (fun _ => (0 : Int)) n = 0 := fun n => by
              induction n with
              | zero => rfl
              | succ n ih => rw [sumN, ih]; rfl
            exact this _
          have hz1 : lateN (mapR (ltF h late) h.length) h.length = sumN (ltF h late) h.length := lateN_mapR _ _
          have hda := settle_late hwt HCK.out (x := mapR (fun _ => 0) h.length) (mapR_len _ _) (fun i hi => by rw [mapR_get hi]; have := (ltF_bd (late := late) HOK.out hi); omega)
          have hdb := settle_late hwt HCK.out (x := mapR (ltF h late) h.length) (mapR_len _ _) (fun i hi => by rw [mapR_get hi]; exact ltF_bd HOK.out hi)
          rw [hz0] at hda
          rw [hz1] at hdb
          have htar : tarV t = #[.int .i64 (100 + price), .int .i64 bk, .int .i64 lt, .int .i64 3, .int .i64 7] := by rw [ht]; rfl
          have hsetA := fun W h1 h2 => settle_any t H1 ch h (some ⟨ga, 0, none⟩) h.length (mapR (fun _ => 0) h.length) W (by omega) (by rw [mapR_len]; omega) h1 h2
          have hsetB := fun W h1 h2 => settle_any t H1 ch h (some ⟨gb, 0, none⟩) h.length (mapR (ltF h late) h.length) W (by omega) (by rw [mapR_len]; omega) h1 h2
          rw [htar] at hsetA hsetB
          simp only [mapR_len] at hsetA hsetB
          rw [hda] at hsetA
          rw [hdb] at hsetB
          have e1 : t.price = 100 + price := by rw [ht]
          have e2 : t.back = bk := by rw [ht]
          have e3 : t.late = lt := by rw [ht]
          have e4 : t.carry = 3 := by rw [ht]
          have e5 : t.credit = 7 := by rw [ht]
          have hkT := Blk.below HGT.out hB HGT.out.lt
          have HKT := Lib.hid hkT
          have HSA := Lib.hid hsA
          have HSB := Lib.hid hsB
          have HWT := Lib.hid hwt
          have HTAR := Lib.hid htar
          have HSETA := Lib.hid hsetA
          have HSETB := Lib.hid hsetB
          have H1R := Lib.hid h1r
          have v0 := hkT.cell 0
          have v1 := hkT.cell 1
          have v2 := hkT.cell 2
          have v3 := hkT.cell 3
          have v4 := hkT.cell 4
          simp at v0 v1 v2 v3 v4
          clear hrB4 hsA hsB ht hwt hz0 hz1 hda hdb htar hsetA hsetB hkT HRA HRB HLT HBL HL4 h1r
          simp only [linesOf, e1, e2, e3] at HSETA HSETB
          obtain ⟨w2, hw2⟩ : ∃ w2, w2 = wr := ⟨_, rfl⟩
          rw [← hw2] at hB HKT HSA HSB H1R v0 v1 v2 v3 v4 ⊢
          clear hw2
          generalize sumN (ltF h late) h.length = n at *
          generalize supN h h.length = su at *
          generalize retN h h.length = re at *
          have hsz2 := hB.size
          obtain ⟨sa, hsa⟩ : ∃ sa, sa = su * (100 + price) - re * bk := ⟨_, rfl⟩
          obtain ⟨sb, hsb⟩ : ∃ sb, sb = su * (100 + price) - re * bk + n * (bk - lt) := ⟨_, rfl⟩
          obtain ⟨y1, hy1⟩ : ∃ y, y = su * (100 + price) := ⟨_, rfl⟩
          obtain ⟨y2, hy2⟩ : ∃ y, y = (re - n) * -bk := ⟨_, rfl⟩
          obtain ⟨y3, hy3⟩ : ∃ y, y = n * -lt := ⟨_, rfl⟩
          have hys : y1 + y2 + y3 = sb := by rw [hy1, hy2, hy3, hsb]; simp only [Int.sub_mul, Int.mul_sub, Int.mul_neg]; omega
          have hA2 : ∀ W, Sl enc2 2 W W.heap.size H1 h → Sl encInt 1 W W.heap.size (some ⟨ga, 0, none⟩) (mapR (fun _ => 0) h.length) → Calls Try.prog 24 #[.agg #[.int .i64 (100 + price), .int .i64 bk, .int .i64 lt, .int .i64 3, .int .i64 7], .slice H1 h.length ch, .slice (some ⟨ga, 0, none⟩) h.length h.length] W fun e w' => ∃ A' c', e = .returned (.tuple #[.agg #[.slice A' 3 c', .int .i64 sa], .int .i64 0]) ∧ Sl enc3 3 w' w'.heap.size A' [(1, su, su * (100 + price)), (2, re, re * -bk), (3, 0, 0 * -lt)] ∧ Below W.heap.size W w' := by
            intro W h1 h2
            refine (HSETA.out W h1 h2).mono ?_
            rintro e w' ⟨A', c', rfl, q1, _, q2⟩
            refine ⟨A', c', ?_, by simpa using q1, q2⟩
            rw [hsa]; simp
          have hB2 : ∀ W, Sl enc2 2 W W.heap.size H1 h → Sl encInt 1 W W.heap.size (some ⟨gb, 0, none⟩) (mapR (ltF h late) h.length) → Calls Try.prog 24 #[.agg #[.int .i64 (100 + price), .int .i64 bk, .int .i64 lt, .int .i64 3, .int .i64 7], .slice H1 h.length ch, .slice (some ⟨gb, 0, none⟩) h.length h.length] W fun e w' => ∃ A' c', e = .returned (.tuple #[.agg #[.slice A' 3 c', .int .i64 sb], .int .i64 0]) ∧ Sl enc3 3 w' w'.heap.size A' [(1, su, y1), (2, re - n, y2), (3, n, y3)] ∧ Below W.heap.size W w' := by
            intro W h1 h2
            refine (HSETB.out W h1 h2).mono ?_
            rintro e w' ⟨A', c', rfl, q1, _, q2⟩
            refine ⟨A', c', ?_, ?_, q2⟩
            · rw [hsb]; rfl
            · rw [hy1, hy2, hy3]; exact q1
          have c1 : (0 ≤ su ∧ su ≤ 600000) ∧ 0 ≤ re ∧ re ≤ 600000 := by omega
          have c2 : 0 ≤ n ∧ n ≤ 600000 := by omega
          have HA2 := Lib.hid hA2
          have HB2 := Lib.hid hB2
          have HE := Lib.hid (And.intro hsa (And.intro hsb (And.intro hy1 (And.intro hy2 hy3))))
          clear hsa hsb hy1 hy2 hy3 hys hA2 hB2 HSETA HSETB e1 e2 e3 v0 v1 v2 v3 v4
          go_upto_region 15 with fail
          exact adds15_wp haw M cm ms price bk lt at_ day gT w w1 w2 t hl3 HBM.out HMS.out h1 h1' h4 h4' h5 h5' k1 k2 k5 k6 HWT.out HTAR.out e4 e5 H1 ch h ga gb _ _ su re n sa sb y1 y2 y3 c1 c2 HE.out.1 HE.out.2.1 HE.out.2.2.1 HE.out.2.2.2.1 HE.out.2.2.2.2 HA2.out HB2.out HS1.out HSA.out HSB.out HKT.out HB1.out H1R.out _ (by assumption) _ _ _ _ _ _ _ _ _ _ _ _ _ _ _ _ _ _ _ _ _ _ _ _ _ _ _ _ _ _ _ _ _ _ _ _ _ _ _ _ _ _ _ _ _ _ _ _ _ _ _ _ _ _ _ _ _ _ _ _ _ _ _ _ _ _ _ _ _ _ _ _ _ _ _ _ _ _ _ _ _ _ _ _ _ _ _ _ _ _ _ _ _ _ _ _ _ _ _ _ _ _ _ _ _ _ _ _ _ _ _ _ _ _ _ _ _ _ _ _ _ _ _ _ _ _ _ _ _ _ _ _ _ _ _ _ _ _ _ _ _ _ _ _ _ _ _ _ _ _ _ _ _ _ _ _ _ _ _ _ _ _ _ _ _ _ _ _ _ _ _ _ _ _ _ _ _ _ _ _ _ _ _ _ _ _ _ _ _ _ _ _ _ _ _ _ _ _ _ _ _ _ _ _ _ _ _ _ _ _ _ _ _ _ _ _ _ _ _ _ _ _ _ _ _ _ _ _ _ _ _ _ _ _ _ _ _ _ _ _ _ _ _ _ _ _ _ _ _ _ _ _ _ _ _ _ _ _ _ _ _ _ _ _ _ _ _ _ _ _ _ _ _ _ _ _ _ _ _ _ _ _ _ _ _ _ _ _ _ _ _
end Go.Proofs.Ytgopdfbmddkpfaa
