/- Contract of Share; conditions: none. -/
import Derived.Test.YtgopdfbmddkpfaaH1
import Derived.Test.YtgopdfbmddkpfaaSpec4
import Derived.Test.YtgopdfbmddkpfaaShelf
import Derived.Test.YtgopdfbmddkpfaaE2
import Derived.Test.YtgopdfbmddkpfaaA5
import Derived.BigQuiet
import Derived.Deep.QuietTactic
import Derived.Lib.OwnBridge
import Derived.Deep.OwnRows
set_option linter.unusedSimpArgs false
set_option linter.unusedVariables false
namespace Go.Proofs.Ytgopdfbmddkpfaa
open Go.RowKit Go.Fh Go.Ag

theorem sharedE_ok {l : List Ord3} {copies : Int} (h : sharedE l copies = 0) : l.length ≤ 40 ∧ (∀ o ∈ l, OkOrd o) ∧ needO l ≤ copies := by
  unfold sharedE at h
  by_cases h1 : 40 < l.length
  · simp [h1] at h
  · rw [if_neg h1] at h
    by_cases h2 : firstErr (errO l) l.length ≠ 0
    · rw [if_pos h2] at h; exact absurd h h2
    · rw [if_neg h2] at h
      have h2 : firstErr (errO l) l.length = 0 := by simpa using h2
      have := firstO_ok (Nat.le_refl _) h2
      rw [List.take_length] at this
      by_cases h3 : copies < 0
      · rw [if_pos h3] at h; omega
      · rw [if_neg h3] at h
        by_cases h4 : copies < needO l
        · rw [if_pos h4] at h; omega
        · exact ⟨by omega, this, by omega⟩

def ivF (f : Nat → Int) : Nat → Value := fun i => .int .i64 (f i)

theorem Sl.at1_ {B b off : Nat} {w : World} {l : List Int} (h : Sl encInt 1 w B (some ⟨b, off, none⟩) l) {k : Nat} (hk : k < l.length) : w.cell? ⟨b, off + k, none⟩ = some (.int .i64 l[k]) := by
  obtain ⟨b', off', e, _, hc⟩ := h.at1 hk
  injection e with e; injection e with e1 e2 e3
  subst e1; subst e2
  exact hc
theorem Sl.at3_ {B b off : Nat} {w : World} {l : List (Int × Int × Int)} (h : Sl enc3 3 w B (some ⟨b, off, none⟩) l) {k : Nat} (hk : k < l.length) : w.cell? ⟨b, off + k * 3, none⟩ = some (.int .i64 l[k].1) ∧ w.cell? ⟨b, off + k * 3 + 1, none⟩ = some (.int .i64 l[k].2.1) ∧ w.cell? ⟨b, off + k * 3 + 2, none⟩ = some (.int .i64 l[k].2.2) := by
  obtain ⟨b', off', e, _, hc⟩ := h.at3 hk
  injection e with e; injection e with e1 e2 e3
  subst e1; subst e2
  exact hc
theorem mul_bd {a b : Int} (h0 : 0 ≤ a) (h1 : a ≤ 10000) (h2 : 0 ≤ b) (h3 : b ≤ 10000) : 0 ≤ a * b ∧ a * b ≤ 100000000 := by
  refine ⟨Int.mul_nonneg h0 h2, ?_⟩
  have := Int.mul_le_mul h1 h3 h2 (by omega : (0 : Int) ≤ 10000)
  omega

theorem flat_encInt (l : List Int) : l.flatMap encInt = l.map (Value.int .i64) := by
  induction l with
  | nil => rfl
  | cons x l ih => simp [List.flatMap_cons, encInt, ih]
theorem sl_ownInt {w : World} {base c : Nat} {A : Option Addr} {l : List Int} (h : w.ownsRow base 3 1 (.slice A l.length c) l.length (l.map (Value.int .i64))) : Sl encInt 1 w w.heap.size A l :=
  Sl.of_own (enc := encInt) (fun _ => rfl) (by rw [flat_encInt]; exact h)
theorem sl_row {w : World} {g n : Nat} {f : Nat → Int} (h : w.rowIs g 3 n (ivF f)) : Sl encInt 1 w w.heap.size (some ⟨g, 0, none⟩) ((List.range n).map f) := by
  intro hn
  refine ⟨g, 0, rfl, h.lt, fun k x hx j u hu => ?_⟩
  have hk : k < n := by
    rcases Nat.lt_or_ge k n with h | h
    · exact h
    · rw [List.getElem?_eq_none (by simpa using h)] at hx; cases hx
  have hx' : f k = x := by simpa [hk] using hx
  cases j with
  | zero =>
    simp [encInt] at hu
    subst hu; subst hx'
    simpa [ivF] using h.cell hk
  | succ j => simp [encInt] at hu
theorem okS_at {l : List Ord3} {f : Nat → Int} {op : List Int} (h : OkSh l (f, op)) {k : Nat} (hk : k < op.length) :
    ∃ i : Nat, op[k] = (i : Int) ∧ (op.getD k 0).toNat = i ∧ i < l.length ∧ 0 ≤ f i ∧ f i < cpO l i ∧ cpO l i ≤ 10000 := by
  have hm := h.2.2 op[k] (List.getElem_mem hk)
  refine ⟨op[k].toNat, by omega, by simp [hk], hm.2.1, ((h.1 _ hm.2.1).1).1, hm.2.2, (h.1 _ hm.2.1).2⟩
theorem share_end {l : List Ord3} {copies : Int} {f : Nat → Int} {w w' : World} {g : Nat} (he : sharedE l copies = 0) (hf : f = (finS l copies).1) (hr : w'.rowIs g 3 l.length (ivF f)) (hg : w.heap.size ≤ g) (hB : Below w.heap.size w w') :
    ∃ A' c', Ending.returned (.tuple #[.slice (some ⟨g, 0, none⟩) l.length l.length, .int .i64 0]) = .returned (.tuple #[.slice A' (shareL l copies).length c', .int .i64 (sharedE l copies)]) ∧ Sl encInt 1 w' w'.heap.size A' (shareL l copies) ∧ Fr w.heap.size A' ∧ Below w.heap.size w w' := by
  have hs : shareL l copies = (List.range l.length).map f := by rw [hf]; simp [shareL, he]
  exact ⟨some ⟨g, 0, none⟩, l.length, by rw [hs, he]; simp, by rw [hs]; exact sl_row hr, Fr.some hg, hB⟩

theorem delete_own {w : World} {base bo c2 b : Nat} {op : List Int} (h : w.ownsRow base 3 1 (.slice (some ⟨bo, 0, none⟩) op.length c2) op.length (op.map (Value.int .i64))) (hb : b < op.length) :
    Calls Try.prog 56 #[.slice (some ⟨bo, 0, none⟩) op.length c2, .int .i64 b, .int .i64 ((b : Int) + 1)] w fun e w' =>
      e = .returned (.slice (some ⟨bo, 0, none⟩) (op.length - 1) c2) ∧ w'.ownsRow base 3 1 (.slice (some ⟨bo, 0, none⟩) (op.length - 1) c2) (op.length - 1) ((op.take b ++ op.drop (b + 1)).map (Value.int .i64)) ∧ Below base w w' := by
  obtain ⟨g, cap, e, hbo1, hbo2, hcap1, hcap2, _, hH⟩ := Lib.holds_of_ownsRow h (by intro e; injection e; omega)
  injection e with e1 _ e3
  injection e1 with e1
  injection e1 with e1
  subst e1; subst e3
  have hd := Try.slices_Delete_int bo 0 c2 b (b + 1) op w hH hcap1 (by simpa [maxLen] using hcap2) (by omega) (by omega)
  have e : ((b + 1 : Nat) : Int) = (b : Int) + 1 := by omega
  rw [e] at hd
  have e2 : b + 1 - b = 1 := by omega
  rw [e2] at hd
  refine hd.mono ?_
  rintro e w' ⟨rfl, q, rfl⟩
  have hlen : (op.take b ++ op.drop (b + 1)).length = op.length - 1 := by simp; omega
  refine ⟨rfl, ?_, Lib.below_putRow (Below.refl _ _) hbo1⟩
  have := Lib.ownsRow_putRow (q := q) (k := op.length - 1) (ys := op.take b ++ op.drop (b + 1) ++ List.replicate 1 0) h (by simp; omega) (by omega)
  rw [← hlen, List.take_left] at this
  rw [← hlen]
  exact this

set_option maxRecDepth 20000 in
set_option maxHeartbeats 4000000 in
theorem share_any (A : Option Addr) (c : Nat) (l : List Ord3) (copies : Int) (w : World) (hl : l.length ≤ 9223372036854775807) (hc1 : copies ≤ 9223372036854775807) (hA : Sl enc3 3 w w.heap.size A l) :
    Calls Try.prog 19 #[.slice A l.length c, .int .i64 copies] w fun e w' => ∃ A' c', e = .returned (.tuple #[.slice A' (shareL l copies).length c', .int .i64 (sharedE l copies)]) ∧ Sl encInt 1 w' w'.heap.size A' (shareL l copies) ∧ Fr w.heap.size A' ∧ Below w.heap.size w w' := by
  have HA := Lib.hid hA
  have hC := fun W hW => shared_any A c l copies W hl hW
  have HC := Lib.hid hC
  clear hA hC
  by_cases he : sharedE l copies = 0
  · obtain ⟨h40, hok, hneed⟩ := sharedE_ok he
    have HE := Lib.hid he
    have HOK := Lib.hid hok
    have HNEED := Lib.hid hneed
    have hmk := fun (W : World) => run_make_row' (P := Try.prog) 37 3 (.int .i64 0) 8 Try.underlying37 infoInt rfl .i64 .i64 l.length (by omega) (by omega) W
    obtain ⟨i0, hi0, hz0, hz1, hz2⟩ := info_parts infoInt
    have HI0 := Lib.hid hi0
    have HZ0 := Lib.hid hz0
    have HZ1 := Lib.hid hz1
    have HZ2 := Lib.hid hz2
    clear hi0 hz0 hz1 hz2
    clear he hok hneed
    go_enter Try.func19, Try.ntmps19
    go_wp2_with fail
    refine (HC.out _ HA.out).mono ?_
    rintro e w1 ⟨rfl, hb1⟩
    rw [HE.out]
    have hz1' := hb1.size
    go_wp2_with fail
    clear hmk
    have hrow0 : (w1.alloc (.cells (madeCells #[.int .i64 0] l.length) 3)).rowIs w1.heap.size 3 l.length (ivF fun _ => 0) := World.rowIs_made w1 (.int .i64 0) l.length 3
    have hb0 : Below w.heap.size w (w1.alloc (.cells (madeCells #[.int .i64 0] l.length) 3)) := hb1.alloc hz1' _
    go_loopw [1, 8, 26] (fun n v i wr => ∃ k : Nat, k ≤ l.length ∧ i = .int .i64 k ∧ n = .int .i64 (copies - needO (l.take k)) ∧ (∃ A' c', v = .slice A' (openK l k).length c') ∧ Hid (wr.ownsRow (w1.heap.size + 1) 3 1 v (openK l k).length ((openK l k).map (Value.int .i64))) ∧ Hid (wr.rowIs w1.heap.size 3 l.length (ivF fun j => if j < k then lsO l j else 0)) ∧ Below w.heap.size w wr) (fun _ _ i _ => l.length - (intOf i).toNat)
    case atStart => exact ⟨0, Nat.zero_le _, rfl, int_eq (by simp [needO]), ⟨none, 0, rfl⟩, World.ownsRow_nil _ _ _ _, by simpa [Hid] using hrow0, hb0⟩
    case round =>
      obtain ⟨k, hk, rfl, rfl, ⟨A1, cc, rfl⟩, HOWN, HROW, hB⟩ := hrel
      have hg0 : w1.heap.size < wr.heap.size := HROW.out.lt
      by_cases hlt : k < l.length
      · obtain ⟨b, off, rfl, hb, c0, c1, c2⟩ := (HA.out.below hB).at3 hlt
        have hsz := hB.size
        have hokk := HOK.out _ (List.getElem_mem hlt)
        have hbd := needO_bd (l := l.take k) (fun o ho => HOK.out o (List.mem_of_mem_take ho))
        have hbdl := needO_bd HOK.out
        have hlk : (l.take k).length ≤ 40 := by simp; omega
        have hsn := needO_snoc (l.take k) l[k]
        rw [← List.take_succ_eq_append_getElem hlt] at hsn
        have hopl := (openK_bd l k).1
        obtain ⟨x, hx⟩ : ∃ x, x = l[k] := ⟨_, rfl⟩
        have hls : lsO l k = x.2.2 := by simp [lsO, hx, hlt]
        have hcp : cpO l k = x.2.1 := by simp [cpO, hx, hlt]
        rw [← hx] at c0 c1 c2 hsn hokk
        obtain ⟨o1, o2, o3⟩ := hokk
        have hcb := HNEED.out
        have gw := IntWalk.i64_in (copies - needO (l.take k) - x.2.2) (by omega)
        have hrow2 := HROW.out.alloc (.cells #[.int .i64 x.1, .int .i64 x.2.1, .int .i64 x.2.2] 44)
        have fz := hrow2.frozen k
        have cz : World.cell? (wr.alloc (.cells #[.int .i64 x.1, .int .i64 x.2.1, .int .i64 x.2.2] 44)) ⟨w1.heap.size, k, none⟩ = some (.int .i64 0) := by simpa [ivF] using hrow2.cell hlt
        have hrow3 : ((wr.setCell ⟨w1.heap.size, k, none⟩ (.int .i64 x.2.2)).alloc (.cells #[.int .i64 x.1, .int .i64 x.2.1, .int .i64 x.2.2] 44)).rowIs w1.heap.size 3 l.length (ivF fun j => if j < k + 1 then lsO l j else 0) := by
          refine ((HROW.out.set k (.int .i64 x.2.2)).alloc _).congr fun j hj => ?_
          unfold ivF
          by_cases e : j = k
          · subst e; simp [hls]
          · have : j < k + 1 ↔ j < k := by omega
            simp [e, this]
        have hBn : Below w.heap.size w ((wr.setCell ⟨w1.heap.size, k, none⟩ (.int .i64 x.2.2)).alloc (.cells #[.int .i64 x.1, .int .i64 x.2.1, .int .i64 x.2.2] 44)) := (hB.setCell (by simpa using hz1') _).alloc (by simpa using hsz) _
        have hown3 : ((wr.setCell ⟨w1.heap.size, k, none⟩ (.int .i64 x.2.2)).alloc (.cells #[.int .i64 x.1, .int .i64 x.2.1, .int .i64 x.2.2] 44)).ownsRow (w1.heap.size + 1) 3 1 (.slice A1 (openK l k).length cc) (openK l k).length ((openK l k).map (Value.int .i64)) := (own_far HOWN.out (fun e => by have h0 : w1.heap.size + 1 ≤ w1.heap.size := (HOWN.out.lt _ e.symm).1; omega) _).alloc _
        have HX := Lib.hid hx
        have HSN := Lib.hid hsn
        have HLS := Lib.hid hls
        have HCP := Lib.hid hcp
        have HR3 := Lib.hid hrow3
        have HBN := Lib.hid hBn
        have HOWN3 := Lib.hid hown3
        clear hx hsn hls hcp hrow3 hBn hown3 hrow2
        by_cases hopen : x.2.2 < x.2.1
        · have hown4 := HOWN3.out.alloc (.cells #[.int .i64 k] 3)
          have HOWN4 := Lib.hid hown4
          have hnews := news_of1 ((wr.setCell ⟨w1.heap.size, k, none⟩ (.int .i64 x.2.2)).alloc (.cells #[.int .i64 x.1, .int .i64 x.2.1, .int .i64 x.2.2] 44)) 3 #[.int .i64 k]
          rw [show ((wr.setCell ⟨w1.heap.size, k, none⟩ (.int .i64 x.2.2)).alloc (.cells #[.int .i64 x.1, .int .i64 x.2.1, .int .i64 x.2.2] 44)).heap.size = wr.heap.size + 1 by simp] at hnews
          have HNEWS := Lib.hid hnews
          have hone : ∀ u ∈ [Value.int .i64 (k : Int)], u.oneCell' = true := by intro u hu; simp at hu; subst hu; rfl
          have hm1 : (openK l k).length + 1 ≤ maxLen := by simp only [maxLen]; omega
          have hm2 : ((openK l k).length + 1) * 8 ≤ 140737488355328 := by omega
          have hm3 : w1.heap.size + 1 ≤ (((wr.setCell ⟨w1.heap.size, k, none⟩ (.int .i64 x.2.2)).alloc (.cells #[.int .i64 x.1, .int .i64 x.2.1, .int .i64 x.2.2] 44)).alloc (.cells #[.int .i64 k] 3)).heap.size := by simp; omega
          have HM3 := Lib.hid hm3
          have HONE := Lib.hid hone
          clear hown4 hm3 hone hnews
          go_wp2_with (at_builtin; refine wpList_append_own _ rfl (.tmp 45) (.tmp 47) 37 rfl (w1.heap.size + 1) 3 i0 (.int .i64 0) 1 8 Try.underlying37 HI0.out HZ0.out HZ1.out HZ2.out rfl (by decide) (.slice A1 (openK l k).length cc) (openK l k).length ((openK l k).map (Value.int .i64)) rfl HOWN4.out ⟨wr.heap.size + 1, 0, none⟩ 1 1 [Value.int .i64 (k : Int)] rfl rfl HNEWS.out HONE.out hm1 hm2 HM3.out ?_; intro v' w4 hown5 hg5 _)
          have hlt5 := HOWN4.out.lt
          have HG5 := Lib.hid hg5
          have HLT5 := Lib.hid hlt5
          clear hg5 hlt5
          obtain ⟨A', c', rfl⟩ := own_shape hown5
          have hopk : openK l (k + 1) = openK l k ++ [(k : Int)] := by rw [openK, HLS.out, HCP.out, if_pos hopen]
          have HOK2 := Lib.hid hopk
          have HOWN5 := Lib.hid hown5
          clear hopk hown5
          go_wp2_with fail
          go_roundw
          case rel =>
            refine ⟨k + 1, by omega, by go_num, int_eq (by rw [HSN.out]; omega), ⟨A', c', by rw [HOK2.out]; simp⟩, ?_, ?_, ?_⟩
            · have := HOWN5.out
              unfold Hid
              rw [HOK2.out]
              simpa using this
            · have := (HR3.out.alloc (.cells #[.int .i64 k] 3)).of_block (HG5.out.block w1.heap.size (by simp; omega) (fun e => by have h0 : w1.heap.size + 1 ≤ w1.heap.size := (HLT5.out _ e.symm).1; omega))
              exact this
            · exact (HBN.out.alloc (by simp; omega) _).grown HG5.out (by simp; omega) (fun j hj => by have h0 : w1.heap.size + 1 ≤ j := (HLT5.out _ hj).1; omega)
          case measure => simp [intOf]; omega
        · have hopk : openK l (k + 1) = openK l k := by rw [openK, HLS.out, HCP.out, if_neg hopen]
          have HOK2 := Lib.hid hopk
          clear hopk
          go_wp2_with fail
          go_roundw
          case rel =>
            refine ⟨k + 1, by omega, by go_num, int_eq (by rw [HSN.out]; omega), ⟨A1, cc, by rw [HOK2.out]⟩, ?_, HR3.out, HBN.out⟩
            unfold Hid
            rw [HOK2.out]
            exact HOWN3.out
          case measure => simp [intOf]; omega
      · obtain rfl : k = l.length := by omega
        have hbdl := needO_bd HOK.out
        have hneed := HNEED.out
        have hopl := (openK_bd l l.length).1
        have hn0 : copies - needO (l.take l.length) = ((copies - needO l).toNat : Int) := by rw [List.take_length]; omega
        have hst := OkSh_start HOK.out
        have hrow5 : wr.rowIs w1.heap.size 3 l.length (ivF (lsO l)) := HROW.out.congr fun j hj => by unfold ivF; simp [hj]
        have HST := Lib.hid hst
        have HR5 := Lib.hid hrow5
        rw [hn0]
        have hmm : (copies - needO l).toNat ≤ 9223372036854775807 := by omega
        clear hst hrow5 hneed hbdl hn0
        go_wp2_with fail
        go_loopw [1, 8] (fun n v wr => ∃ (m : Nat) (f : Nat → Int) (op : List Int), n = .int .i64 m ∧ m ≤ 9223372036854775807 ∧ op.length ≤ 40 ∧ (∃ A' c', v = .slice A' op.length c') ∧ Hid (OkSh l (f, op)) ∧ Hid (runS l m (f, op) = finS l copies) ∧ Hid (wr.ownsRow (w1.heap.size + 1) 3 1 v op.length (op.map (Value.int .i64))) ∧ Hid (wr.rowIs w1.heap.size 3 l.length (ivF f)) ∧ Below w.heap.size w wr) (fun n _ _ => (intOf n).toNat)
        case atStart => exact ⟨(copies - needO l).toNat, lsO l, openK l l.length, rfl, by omega, by omega, ⟨A1, cc, rfl⟩, HST, rfl, HOWN, HR5, hB⟩
        case round =>
          clear hB HOWN HROW HR5 hg0
          obtain ⟨m, f, op, rfl, hmx, hop40, ⟨A2, c2, rfl⟩, HOKS, HRUN, HOWN, HROW, hB⟩ := hrel
          have hg0 : w1.heap.size < wr.heap.size := HROW.out.lt
          have hsz := hB.size
          by_cases hm : m = 0
          · subst hm
            have hf : f = (finS l copies).1 := by have := HRUN.out; simp only [runS] at this; rw [← this]
            have HF := Lib.hid hf
            clear hf
            go_wp2_with fail
            go_ret2
            exact share_end HE.out HF.out HROW.out hz1' hB
          · by_cases hpos : op.length = 0
            · have hf : f = (finS l copies).1 := by
                have := HRUN.out
                obtain ⟨m', rfl⟩ : ∃ m', m = m' + 1 := ⟨m - 1, by omega⟩
                rw [runS, if_pos (List.length_eq_zero_iff.1 hpos)] at this
                rw [← this]
              have HF := Lib.hid hf
              have hm0 : 0 < m := by omega
              have hp0 : ¬ 0 < op.length := by omega
              clear hf hm hpos
              go_wp2_with fail
              go_ret2
              exact share_end HE.out HF.out HROW.out hz1' hB
            · obtain ⟨bo, cap, e, hbo1, hbo2, hcap1, hcap2, _, _⟩ := Lib.holds_of_ownsRow HOWN.out (by intro e; injection e; omega)
              injection e with e1 _ e3
              subst e1; subst e3
              have hm0 : 0 < m := by omega
              have hp0 : 0 < op.length := by omega
              clear hm
              go_wp2_with fail
              go_loopw [11, 61] (fun b i wr => ∃ k : Nat, k ≤ op.length ∧ i = .int .i64 k ∧ b = .int .i64 (bestK l (f, op) k : Nat) ∧ Hid (wr.ownsRow (w1.heap.size + 1) 3 1 (.slice (some ⟨bo, 0, none⟩) op.length c2) op.length (op.map (Value.int .i64))) ∧ Hid (wr.rowIs w1.heap.size 3 l.length (ivF f)) ∧ Below w.heap.size w wr) (fun _ i _ => op.length - (intOf i).toNat)
              case atStart => exact ⟨0, Nat.zero_le _, rfl, rfl, HOWN, HROW, hB⟩
              case round =>
                clear hB HOWN HROW hg0 hsz hbo2
                obtain ⟨k, hk, rfl, rfl, HOWN, HROW, hB⟩ := hrel
                have hnil : op ≠ [] := by intro e; rw [e] at hp0; simp at hp0
                have HNIL := Lib.hid hnil
                clear hnil
                by_cases hlt : k < op.length
                · obtain ⟨i, i1, i2, i3, i4, i5, i6⟩ := okS_at HOKS.out hlt
                  have hbl := bestK_lt (l := l) (s := (f, op)) HNIL.out hk
                  obtain ⟨o, o1, o2, o3, o4, o5, o6⟩ := okS_at HOKS.out hbl
                  have hsl := sl_ownInt HOWN.out
                  have q1 := Sl.at1_ hsl hlt
                  have q2 := Sl.at1_ hsl hbl
                  have q3 : wr.cell? ⟨w1.heap.size, i, none⟩ = some (.int .i64 (f i)) := HROW.out.cell i3
                  have q4 : wr.cell? ⟨w1.heap.size, o, none⟩ = some (.int .i64 (f o)) := HROW.out.cell o3
                  obtain ⟨b, off, rfl, hb, _, p1, _⟩ := (HA.out.below hB).at3 i3
                  have p2 := (Sl.at3_ (HA.out.below hB) o3).2.1
                  have ci : l[i].2.1 = cpO l i := by simp [cpO, i3]
                  have co : l[o].2.1 = cpO l o := by simp [cpO, o3]
                  have hst : bestK l (f, op) (k + 1) = if f i * cpO l o < f o * cpO l i then k else bestK l (f, op) k := by rw [bestK]; simp only [i2, o2]
                  rw [ci] at p1
                  rw [co] at p2
                  rw [i1] at q1
                  rw [o1] at q2
                  simp only [Nat.zero_add] at q1 q2
                  have m1 := mul_bd i4 (by omega : f i ≤ 10000) (by omega : 0 ≤ cpO l o) o6
                  have m2 := mul_bd o4 (by omega : f o ≤ 10000) (by omega : 0 ≤ cpO l i) i6
                  have g1 := IntWalk.i64_in (f i * cpO l o) (by omega)
                  have g2 := IntWalk.i64_in (f o * cpO l i) (by omega)
                  have HST := Lib.hid hst
                  have hsz := hB.size
                  clear hsl i1 i2 o1 o2 ci co hst i4 i5 i6 o4 o5 o6 m1 m2
                  by_cases hc : f i * cpO l o < f o * cpO l i
                  · have hst := HST.out
                    rw [if_pos hc] at hst
                    have HS2 := Lib.hid hst
                    clear hst HST
                    generalize bestK l (f, op) k = bk at *
                    have hd : decide (f i * cpO l o < f o * cpO l i) = true := decide_eq_true hc
                    clear hc
                    go_wp2_with fail
                    go_quiet (fail)
                    go_wp2_with fail
                    go_roundw
                    case rel => exact ⟨k + 1, by omega, by go_num, int_eq (by rw [HS2.out]), HOWN, HROW, below_drewN hB _⟩
                    case measure => simp [intOf]; omega
                  · have hst := HST.out
                    rw [if_neg hc] at hst
                    have HS2 := Lib.hid hst
                    clear hst HST
                    generalize bestK l (f, op) k = bk at *
                    have hd : decide (f i * cpO l o < f o * cpO l i) = false := decide_eq_false hc
                    clear hc
                    go_wp2_with fail
                    go_quiet (fail)
                    go_wp2_with fail
                    go_roundw
                    case rel => exact ⟨k + 1, by omega, by go_num, int_eq (by rw [HS2.out]), HOWN, HROW, below_drewN hB _⟩
                    case measure => simp [intOf]; omega
                · obtain rfl : k = op.length := by omega
                  have hbl : bestK l (f, op) op.length < op.length := bestK_lt (l := l) (s := (f, op)) HNIL.out (Nat.le_refl op.length)
                  obtain ⟨i, i1, i2, i3, i4, i5, i6⟩ := okS_at HOKS.out hbl
                  have hsl := sl_ownInt HOWN.out
                  have q1 := Sl.at1_ hsl hbl
                  have q3 : wr.cell? ⟨w1.heap.size, i, none⟩ = some (.int .i64 (f i)) := HROW.out.cell i3
                  have fz := HROW.out.frozen i
                  have hB4 : Below w.heap.size w (wr.setCell ⟨w1.heap.size, i, none⟩ (.int .i64 (f i + 1))) := hB.setCell (by simpa using hz1') _
                  obtain ⟨b, off, rfl, hb, _, p1, _⟩ := (HA.out.below hB4).at3 i3
                  have hrow4 : (wr.setCell ⟨w1.heap.size, i, none⟩ (.int .i64 (f i + 1))).rowIs w1.heap.size 3 l.length (ivF (setF f i (f i + 1))) := (HROW.out.set i _).congr fun j hj => by
                    unfold ivF setF
                    by_cases e : j = i <;> simp [e]
                  have y1 : (wr.setCell ⟨w1.heap.size, i, none⟩ (.int .i64 (f i + 1))).cell? ⟨w1.heap.size, i, none⟩ = some (.int .i64 (f i + 1)) := by
                    have := hrow4.cell i3
                    simpa [ivF, setF] using this
                  have hown4 : (wr.setCell ⟨w1.heap.size, i, none⟩ (.int .i64 (f i + 1))).ownsRow (w1.heap.size + 1) 3 1 (.slice (some ⟨bo, 0, none⟩) op.length c2) op.length (op.map (Value.int .i64)) := own_far HOWN.out (fun e => by have h0 : w1.heap.size + 1 ≤ w1.heap.size := (HOWN.out.lt _ e.symm).1; omega) _
                  have ci : l[i].2.1 = cpO l i := by simp [cpO, i3]
                  rw [ci] at p1
                  rw [i1] at q1
                  simp only [Nat.zero_add] at q1
                  have hstep : stepS l (f, op) = (setF f i (f i + 1), if f i + 1 = cpO l i then op.take (bestK l (f, op) op.length) ++ op.drop (bestK l (f, op) op.length + 1) else op) := by
                    have : atS l (f, op) = i := i2
                    simp only [stepS, this]
                  have hok4 := OkSh_step HOKS.out HNIL.out
                  have hrun : runS l (m - 1) (stepS l (f, op)) = finS l copies := by
                    have := HRUN.out
                    obtain ⟨m', rfl⟩ : ∃ m', m = m' + 1 := ⟨m - 1, by omega⟩
                    rw [runS, if_neg HNIL.out] at this
                    simpa using this
                  have g1 := IntWalk.i64_in (f i + 1) (by omega)
                  have g2 := IntWalk.i64_in ((m : Int) - 1) (by omega)
                  have g3 := IntWalk.i64_in ((bestK l (f, op) op.length : Int) + 1) (by omega)
                  have hlen : (op.take (bestK l (f, op) op.length) ++ op.drop (bestK l (f, op) op.length + 1)).length = op.length - 1 := by simp; omega
                  rw [hstep] at hok4 hrun
                  have HDEL := Lib.hid (fun n => delete_own (w := (wr.setCell ⟨w1.heap.size, i, none⟩ (.int .i64 (f i + 1))).drewN n) hown4 hbl)
                  have HROW4 := Lib.hid hrow4
                  have HOWN4 := Lib.hid hown4
                  have HB4 := Lib.hid hB4
                  have hsz := hB.size
                  by_cases hc : f i + 1 = cpO l i
                  · rw [if_pos hc] at hok4 hrun
                    have HOK4 := Lib.hid hok4
                    have HRUN4 := Lib.hid hrun
                    have HLEN := Lib.hid hlen
                    have hd : decide (f i + 1 = cpO l i) = true := decide_eq_true hc
                    clear hok4 hrun hlen hstep hrow4 hown4 hB4 ci i1 i2 hsl i4 i5 i6
                    generalize bestK l (f, op) op.length = bk at *
                    have HC0 := Lib.hid hc
                    clear hc
                    go_wp2_with fail
                    go_quiet (fail)
                    clear hd
                    go_wp2_with (go_at_call 56; refine (HDEL.out _).mono ?_; rintro e w5 ⟨rfl, hown5, hb5⟩)
                    rotate_left
                    · exact absurd HC0.out (by rename_i hx; simpa using hx)
                    have HOWN5 := Lib.hid hown5
                    have HB5 := Lib.hid hb5
                    clear hown5 hb5
                    go_wp2_with fail
                    go_roundw
                    case rel =>
                      refine ⟨m - 1, setF f i (f i + 1), op.take bk ++ op.drop (bk + 1), int_eq (by omega), by omega, by rw [HLEN.out]; omega, ⟨some ⟨bo, 0, none⟩, c2, by rw [HLEN.out]⟩, HOK4, HRUN4, ?_, HROW4.out.of_block (HB5.out.block w1.heap.size (by omega)), (below_drewN HB4.out _).trans (HB5.out.mono (by omega))⟩
                      unfold Hid
                      rw [HLEN.out]
                      exact HOWN5.out
                    case measure => simp [intOf]; omega
                  · rw [if_neg hc] at hok4 hrun
                    have HOK4 := Lib.hid hok4
                    have HRUN4 := Lib.hid hrun
                    have hd : decide (f i + 1 = cpO l i) = false := decide_eq_false hc
                    clear hok4 hrun hlen hstep hrow4 hown4 hB4 ci i1 i2 hsl i4 i5 i6
                    generalize bestK l (f, op) op.length = bk at *
                    go_wp2_with fail
                    go_quiet (fail)
                    go_wp2_with fail
                    go_roundw
                    case rel => exact ⟨m - 1, setF f i (f i + 1), op, int_eq (by omega), by omega, hop40, ⟨some ⟨bo, 0, none⟩, c2, rfl⟩, HOK4, HRUN4, HOWN4, HROW4, below_drewN HB4.out _⟩
                    case measure => simp [intOf]; omega
  · have hne : (sharedE l copies != 0) = true := by simp [he]
    have hnil : shareL l copies = [] := by simp [shareL, he]
    have HN := Lib.hid hnil
    clear he hnil
    go_enter Try.func19, Try.ntmps19
    go_wp2_with fail
    refine (HC.out _ HA.out).mono ?_
    rintro e w1 ⟨rfl, hb1⟩
    go_wp2_with fail
    go_ret2
    refine ⟨none, 0, ?_, ?_, Fr.none, hb1⟩
    · rw [HN.out]; rfl
    · rw [HN.out]; exact Sl.nil
end Go.Proofs.Ytgopdfbmddkpfaa
