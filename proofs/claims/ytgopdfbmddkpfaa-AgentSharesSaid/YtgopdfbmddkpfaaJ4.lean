/- Contract of the reference's Share; conditions: none. -/
import Derived.Test.YtgopdfbmddkpfaaH2
import Derived.Test.YtgopdfbmddkpfaaJ2
set_option linter.unusedSimpArgs false
set_option linter.unusedVariables false
namespace Go.Ag
theorem refB_form (l : List Ord3) (f : Nat → Int) (k : Nat) : refB l f k = -1 ∨ ∃ b : Nat, b < k ∧ refB l f k = (b : Int) := by
  rcases refB_bd l f k with ⟨h1, h2⟩ | h
  · by_cases h0 : refB l f k = -1
    · exact .inl h0
    · exact .inr ⟨(refB l f k).toNat, by omega, by omega⟩
  · exact .inl h
end Go.Ag
namespace Go.Proofs.Ytgopdfbmddkpfaa
open Go.RowKit Go.Fh Go.Ag

set_option maxRecDepth 20000 in
set_option maxHeartbeats 4000000 in
theorem rshare_any (A : Option Addr) (c : Nat) (l : List Ord3) (copies : Int) (w : World) (hl : l.length ≤ 9223372036854775807) (hc1 : copies ≤ 9223372036854775807) (hA : Sl enc3 3 w w.heap.size A l) :
    Calls Try.prog 62 #[.slice A l.length c, .int .i64 copies] w fun e w' => ∃ A' c', e = .returned (.tuple #[.slice A' (shareL l copies).length c', .int .i64 (sharedE l copies)]) ∧ Sl encInt 1 w' w'.heap.size A' (shareL l copies) ∧ Fr w.heap.size A' ∧ Below w.heap.size w w' := by
  have HA := Lib.hid hA
  have HC := Lib.hid (asked_any A c l copies w hl hA)
  clear hA
  by_cases he : sharedE l copies = 0
  · obtain ⟨h40, hok, hneed⟩ := sharedE_ok he
    have HE := Lib.hid he
    have HOK := Lib.hid hok
    have HNEED := Lib.hid hneed
    have hmk := fun (W : World) => run_make_row' (P := Try.prog) 37 3 (.int .i64 0) 8 Try.underlying37 infoInt rfl .i64 .i64 l.length (by omega) (by omega) W
    clear he hok hneed
    go_enter Try.func62, Try.ntmps62
    go_wp2_with fail
    refine HC.out.mono ?_
    rintro e w1 ⟨rfl, hb1⟩
    rw [HE.out]
    have hz1' := hb1.size
    go_wp2_with fail
    clear hmk
    have hrow0 : (w1.alloc (.cells (madeCells #[.int .i64 0] l.length) 3)).rowIs w1.heap.size 3 l.length (ivF fun _ => 0) := World.rowIs_made w1 (.int .i64 0) l.length 3
    have hb0 : Below w.heap.size w (w1.alloc (.cells (madeCells #[.int .i64 0] l.length) 3)) := hb1.alloc hz1' _
    go_loopw [1, 8] (fun n i wr => ∃ k : Nat, k ≤ l.length ∧ i = .int .i64 k ∧ n = .int .i64 (copies - needO (l.take k)) ∧ Hid (wr.rowIs w1.heap.size 3 l.length (ivF fun j => if j < k then lsO l j else 0)) ∧ Below w.heap.size w wr) (fun _ i _ => l.length - (intOf i).toNat)
    case atStart => exact ⟨0, Nat.zero_le _, rfl, int_eq (by simp [needO]), by simpa [Hid] using hrow0, hb0⟩
    case round =>
      clear hrow0 hb0
      obtain ⟨k, hk, rfl, rfl, HROW, hB⟩ := hrel
      have hg0 : w1.heap.size < wr.heap.size := HROW.out.lt
      by_cases hlt : k < l.length
      · obtain ⟨b, off, rfl, hb, c0, c1, c2⟩ := (HA.out.below hB).at3 hlt
        have hsz := hB.size
        have hokk := HOK.out _ (List.getElem_mem hlt)
        have hbd := needO_bd (l := l.take k) (fun o ho => HOK.out o (List.mem_of_mem_take ho))
        have hbdl := needO_bd HOK.out
        have hlk : (l.take k).length ≤ 40 := by simp; omega
        have hsn := needO_snoc (l.take k) l[k]
        rw [← List.take_succ_eq_append_getElem hlt] at hsn
        obtain ⟨x, hx⟩ : ∃ x, x = l[k] := ⟨_, rfl⟩
        have hls : lsO l k = x.2.2 := by simp [lsO, hx, hlt]
        rw [← hx] at c0 c1 c2 hsn hokk
        obtain ⟨o1, o2, o3⟩ := hokk
        have hcb := HNEED.out
        have gw := IntWalk.i64_in (copies - needO (l.take k) - x.2.2) (by omega)
        have fz := HROW.out.frozen k
        have cz : World.cell? wr ⟨w1.heap.size, k, none⟩ = some (.int .i64 0) := by simpa [ivF] using HROW.out.cell hlt
        have hbne : b ≠ w1.heap.size := by omega
        have hrow3 : (wr.setCell ⟨w1.heap.size, k, none⟩ (.int .i64 x.2.2)).rowIs w1.heap.size 3 l.length (ivF fun j => if j < k + 1 then lsO l j else 0) := by
          refine (HROW.out.set k (.int .i64 x.2.2)).congr fun j hj => ?_
          unfold ivF
          by_cases e : j = k
          · subst e; simp [hls]
          · have : j < k + 1 ↔ j < k := by omega
            simp [e, this]
        have hBn : Below w.heap.size w (wr.setCell ⟨w1.heap.size, k, none⟩ (.int .i64 x.2.2)) := hB.setCell (by simpa using hz1') _
        have HSN := Lib.hid hsn
        have HR3 := Lib.hid hrow3
        have HBN := Lib.hid hBn
        have c2' : (wr.setCell ⟨w1.heap.size, k, none⟩ (.int .i64 x.2.2)).cell? ⟨b, off + k * 3 + 2, none⟩ = some (.int .i64 x.2.2) := by
          obtain ⟨b', off', e', _, _, _, d2⟩ := (HA.out.below hBn).at3 hlt
          obtain ⟨rfl, rfl⟩ : b = b' ∧ off = off' := by simpa using e'
          rw [d2, hx]
        clear hx hsn hls hrow3 hBn
        go_wp2_with fail
        go_roundw
        case rel => exact ⟨k + 1, by omega, by go_num, int_eq (by rw [HSN.out]; omega), HR3, HBN.out⟩
        case measure => simp [intOf]; omega
      · obtain rfl : k = l.length := by omega
        have hbdl := needO_bd HOK.out
        have hneed := HNEED.out
        have hrow5 : wr.rowIs w1.heap.size 3 l.length (ivF (lsO l)) := HROW.out.congr fun j hj => by unfold ivF; simp [hj]
        have HR5 := Lib.hid hrow5
        rw [List.take_length]
        clear hrow5
        go_wp2_with fail
        go_loopw [1] (fun n wr => ∃ (m : Nat) (f : Nat → Int), n = .int .i64 (copies - needO l - m) ∧ m ≤ (copies - needO l).toNat ∧ Hid (f = (runS l m (startS l)).1) ∧ Hid (wr.rowIs w1.heap.size 3 l.length (ivF f)) ∧ Below w.heap.size w wr) (fun n _ => (intOf n).toNat)
        case atStart => exact ⟨0, lsO l, int_eq (by omega), by omega, rfl, HR5, hB⟩
        case round =>
          clear hB HROW HR5 hg0
          obtain ⟨m, f, rfl, hmx, HF, HROW, hB⟩ := hrel
          have hg0 : w1.heap.size < wr.heap.size := HROW.out.lt
          have hsz := hB.size
          by_cases hm : m = (copies - needO l).toNat
          · have hf : f = (finS l copies).1 := by rw [HF.out, hm]; rfl
            have HFE := Lib.hid hf
            have t1 : decide (0 < copies - needO l - m) = false := by simp; omega
            clear hf
            go_wp2_with fail
            go_ret2
            exact share_end HE.out HFE.out HROW.out hz1' hB
          · have t1 : decide (0 < copies - needO l - m) = true := by simp; omega
            have hstep := runS_step (l := l) HOK.out m
            rw [← HF.out] at hstep
            have hI := (ShInv_run m (ShInv_start (l := l) HOK.out)).1.1
            rw [← HF.out] at hI
            have HSTEP := Lib.hid hstep
            have HBND := Lib.hid hI
            clear hstep hI
            go_wp2_with fail
            go_loopw [9, 10] (fun q i wr => ∃ k : Nat, k ≤ l.length ∧ i = .int .i64 k ∧ q = .int .i64 (refB l f k) ∧ Hid (wr.rowIs w1.heap.size 3 l.length (ivF f)) ∧ Below w.heap.size w wr) (fun _ i _ => l.length - (intOf i).toNat)
            case atStart => exact ⟨0, Nat.zero_le _, rfl, rfl, HROW, hB⟩
            case round =>
              clear hB HROW hg0 hsz
              obtain ⟨k, hk, rfl, rfl, HROW, hB⟩ := hrel
              have hg0 : w1.heap.size < wr.heap.size := HROW.out.lt
              have hsz := hB.size
              by_cases hlt : k < l.length
              · obtain ⟨b, off, rfl, hb, _, p1, _⟩ := (HA.out.below hB).at3 hlt
                have ck : l[k].2.1 = cpO l k := by simp [cpO, hlt]
                rw [ck] at p1
                have q1 : wr.cell? ⟨w1.heap.size, k, none⟩ = some (.int .i64 (f k)) := HROW.out.cell hlt
                have hfk := HBND.out k hlt
                have hst : refB l f (k + 1) = if f k < cpO l k ∧ (refB l f k < 0 ∨ f k * cpO l (refB l f k).toNat < f (refB l f k).toNat * cpO l k) then (k : Int) else refB l f k := rfl
                by_cases ho : f k < cpO l k
                · have D1 : decide (f k < cpO l k) = true := decide_eq_true ho
                  rcases refB_form l f k with hr | ⟨bn, hbn, hr⟩
                  · rw [hr] at hst ⊢
                    rw [if_pos ⟨ho, .inl (by decide)⟩] at hst
                    have HST := Lib.hid hst
                    clear hst ho hr ck
                    go_wp2_with fail
                    go_quiet (fail)
                    go_wp2_with fail
                    go_roundw
                    case rel => exact ⟨k + 1, by omega, by go_num, int_eq (by rw [HST.out]), HROW, below_drewN hB _⟩
                    case measure => simp [intOf]; omega
                  · rw [hr] at hst ⊢
                    have hbl : bn < l.length := by omega
                    have q2 : wr.cell? ⟨w1.heap.size, bn, none⟩ = some (.int .i64 (f bn)) := HROW.out.cell hbl
                    have p2 := (Sl.at3_ (HA.out.below hB) hbl).2.1
                    have cb : l[bn].2.1 = cpO l bn := by simp [cpO, hbl]
                    rw [cb] at p2
                    have hfb := HBND.out bn hbl
                    have hbt : ((bn : Int)).toNat = bn := by omega
                    rw [hbt] at hst
                    have m1 := mul_bd hfk.1.1 (by omega : f k ≤ 10000) (by omega : 0 ≤ cpO l bn) hfb.2
                    have m2 := mul_bd hfb.1.1 (by omega : f bn ≤ 10000) (by omega : 0 ≤ cpO l k) hfk.2
                    have g1 := IntWalk.i64_in (f k * cpO l bn) (by omega)
                    have g2 := IntWalk.i64_in (f bn * cpO l k) (by omega)
                    have D2 : decide ((bn : Int) < 0) = false := by simp
                    by_cases hc : f k * cpO l bn < f bn * cpO l k
                    · rw [if_pos ⟨ho, .inr hc⟩] at hst
                      have D3 : decide (f k * cpO l bn < f bn * cpO l k) = true := decide_eq_true hc
                      have HST := Lib.hid hst
                      clear hst ho hr ck cb hc m1 m2
                      go_wp2_with fail
                      go_quiet (fail)
                      go_wp2_with fail
                      go_roundw
                      case rel => exact ⟨k + 1, by omega, by go_num, int_eq (by rw [HST.out]), HROW, below_drewN hB _⟩
                      case measure => simp [intOf]; omega
                    · rw [if_neg (by rintro ⟨_, h | h⟩; omega; exact hc h)] at hst
                      have D3 : decide (f k * cpO l bn < f bn * cpO l k) = false := decide_eq_false hc
                      have HST := Lib.hid hst
                      clear hst ho hr ck cb hc m1 m2
                      go_wp2_with fail
                      go_quiet (fail)
                      go_wp2_with fail
                      go_roundw
                      case rel => exact ⟨k + 1, by omega, by go_num, int_eq (by rw [HST.out]), HROW, below_drewN hB _⟩
                      case measure => simp [intOf]; omega
                · have D1 : decide (f k < cpO l k) = false := decide_eq_false ho
                  rw [if_neg (fun h => ho h.1)] at hst
                  have HST := Lib.hid hst
                  clear hst ho ck
                  generalize refB l f k = rk at *
                  go_wp2_with fail
                  go_quiet (fail)
                  go_wp2_with fail
                  go_roundw
                  case rel => exact ⟨k + 1, by omega, by go_num, int_eq (by rw [HST.out]), HROW, below_drewN hB _⟩
                  case measure => simp [intOf]; omega
              · obtain rfl : k = l.length := by omega
                rcases HSTEP.out with ⟨_, hr, hst⟩ | ⟨hr0, hr1, hst⟩
                · have hf : f = (finS l copies).1 := by have := hst _ hmx; rw [← this]; rfl
                  rw [hr]
                  have HFE := Lib.hid hf
                  clear hf hr hst
                  go_wp2_with fail
                  go_ret2
                  exact share_end HE.out HFE.out HROW.out hz1' hB
                · obtain ⟨bn, hbn⟩ : ∃ bn : Nat, refB l f l.length = (bn : Int) := ⟨(refB l f l.length).toNat, by omega⟩
                  rw [hbn] at hr1 hst ⊢
                  have hbt : ((bn : Int)).toNat = bn := by omega
                  rw [hbt] at hst
                  have hbl : bn < l.length := by omega
                  have q2 : wr.cell? ⟨w1.heap.size, bn, none⟩ = some (.int .i64 (f bn)) := HROW.out.cell hbl
                  have fz := HROW.out.frozen bn
                  have hfb := HBND.out bn hbl
                  have g1 := IntWalk.i64_in (f bn + 1) (by omega)
                  have g2 := IntWalk.i64_in (copies - needO l - m - 1) (by omega)
                  have D2 : decide ((bn : Int) < 0) = false := by simp
                  have hrow4 : (wr.setCell ⟨w1.heap.size, bn, none⟩ (.int .i64 (f bn + 1))).rowIs w1.heap.size 3 l.length (ivF (setF f bn (f bn + 1))) := by
                    refine (HROW.out.set bn (.int .i64 (f bn + 1))).congr fun j hj => ?_
                    unfold ivF setF
                    by_cases e : j = bn <;> simp [e]
                  have hB4 : Below w.heap.size w (wr.setCell ⟨w1.heap.size, bn, none⟩ (.int .i64 (f bn + 1))) := hB.setCell (by simpa using hz1') _
                  have HST := Lib.hid hst
                  have HROW4 := Lib.hid hrow4
                  have HB4 := Lib.hid hB4
                  clear hst hrow4 hB4 hbn hr0
                  go_wp2_with fail
                  go_roundw
                  case rel => exact ⟨m + 1, setF f bn (f bn + 1), int_eq (by omega), by omega, HST.out.symm, HROW4, HB4.out⟩
                  case measure => simp [intOf]; omega
  · have hne : (sharedE l copies != 0) = true := by simp [he]
    have hnil : shareL l copies = [] := by simp [shareL, he]
    have HN := Lib.hid hnil
    clear he hnil
    go_enter Try.func62, Try.ntmps62
    go_wp2_with fail
    refine HC.out.mono ?_
    rintro e w1 ⟨rfl, hb1⟩
    go_wp2_with fail
    go_ret2
    refine ⟨none, 0, ?_, ?_, Fr.none, hb1⟩
    · rw [HN.out]; rfl
    · rw [HN.out]; exact Sl.nil
end Go.Proofs.Ytgopdfbmddkpfaa
