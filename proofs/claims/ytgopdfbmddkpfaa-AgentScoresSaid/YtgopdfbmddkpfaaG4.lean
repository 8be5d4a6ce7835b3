/- Contract of Choose; conditions: none. -/
import Derived.Test.YtgopdfbmddkpfaaW1
import Derived.Test.YtgopdfbmddkpfaaSpec2
import Derived.Test.YtgopdfbmddkpfaaG3
set_option linter.unusedSimpArgs false
set_option linter.unusedVariables false
namespace Go.Proofs.Ytgopdfbmddkpfaa
open Go.RowKit Go.Fh Go.Ag

set_option maxHeartbeats 1000000 in
theorem indexWrongM_any  (A : Option Addr) (c : Nat) (l : List (Int × Int)) (w : World) (hl : l.length ≤ 9223372036854775807) (hA : Sl enc2 2 w w.heap.size A l)  :
    Calls Try.prog 116 #[.slice A l.length c, .func (.func 78) #[] #[]] w fun e w' => e = .returned (.int .i64 (findI wrongM l)) ∧ Below w.heap.size w w' := by
  go_enter Try.func116, Try.ntmps116
  go_wp2
  go_loopw [8] (fun i wr => ∃ k : Nat, k ≤ l.length ∧ i = .int .i64 k ∧ (∀ x ∈ l.take k, wrongM x = false) ∧ Below w.heap.size w wr) (fun i _ => l.length - (intOf i).toNat)
  case atStart => exact ⟨0, Nat.zero_le _, rfl, by simp, Below.refl _ _⟩
  case round =>
    obtain ⟨k, hk, rfl, hno, hB⟩ := hrel
    have HN := Lib.hid hno
    clear hno
    by_cases hlt : k < l.length
    · obtain ⟨b, off, rfl, hb, c0, c1⟩ := (hA.below hB).at2 hlt
      cases hw : wrongM l[k]
      · have hc : Calls Try.prog _ _ wr _ := wrongM_any l[k] _
        go_wp2_with (go_at_call 78; refine hc.mono ?_; clear hc; rintro e w' ⟨rfl, hb1⟩)
        go_roundw
        case rel =>
          refine ⟨k + 1, by omega, by go_num, fun x hx => ?_, hB.trans (hb1.mono hB.size)⟩
          rw [List.take_succ_eq_append_getElem hlt, List.mem_append] at hx
          rcases hx with hx | hx
          · exact HN.out x hx
          · simp at hx; subst hx; exact hw
        case measure => simp [intOf]; omega
      · have hc : Calls Try.prog _ _ wr _ := wrongM_any l[k] _
        go_wp2_with (go_at_call 78; refine hc.mono ?_; clear hc; rintro e w' ⟨rfl, hb1⟩)
        go_ret
        exact ⟨ret_int (findI_hit hlt HN.out hw).symm, hB.trans (hb1.mono hB.size)⟩
    · go_wp2
      go_ret
      exact ⟨ret_int (findI_miss (fun x hx => HN.out x (by rw [List.take_of_length_le (by omega)]; exact hx))).symm, hB⟩
theorem anyWrongM_any  (A : Option Addr) (c : Nat) (l : List (Int × Int)) (w : World) (hl : l.length ≤ 9223372036854775807) (hA : Sl enc2 2 w w.heap.size A l)  :
    Calls Try.prog 77 #[.slice A l.length c, .func (.func 78) #[] #[]] w fun e w' => e = .returned (.bool (l.any wrongM)) ∧ Below w.heap.size w w' := by
  have hf := findI_any wrongM l
  have HF := Lib.hid hf
  clear hf
  have hc := indexWrongM_any  A c l w hl hA 
  go_enter Try.func77, Try.ntmps77
  go_wp2_with (go_at_call 116; refine hc.mono ?_; clear hc; rintro e w' ⟨rfl, hb⟩)
  go_ret
  exact ⟨ret_bool HF.out, hb⟩

end Go.Proofs.Ytgopdfbmddkpfaa
namespace Go.Ag
open Go.Proofs.Ytgopdfbmddkpfaa
abbrev Sco := Int × Int × Int × Int
/-- the method that is chosen of the first k, its days, its loss -/
def chooseN (l : List (Int × Int)) (h : List (Int × Int)) (over under : Int) : Nat → Sco
  | 0 => (-1, 0, 0, 0)
  | k + 1 =>
    if 0 < (rateN (l.getD k (0, 0)) h over under h.length).1 ∧ ((chooseN l h over under k).1 < 0 ∨ (rateN (l.getD k (0, 0)) h over under h.length).2 * (chooseN l h over under k).2.2.2 < (chooseN l h over under k).2.2.1 * ((rateN (l.getD k (0, 0)) h over under h.length).1 : Nat)) then
      ((k : Int), (((rateN (l.getD k (0, 0)) h over under h.length).1 : Nat) : Int), (ratioD (rateN (l.getD k (0, 0)) h over under h.length).2.toNat (rateN (l.getD k (0, 0)) h over under h.length).1).1, (ratioD (rateN (l.getD k (0, 0)) h over under h.length).2.toNat (rateN (l.getD k (0, 0)) h over under h.length).1).2)
    else chooseN l h over under k
def ScoOk (s : Sco) (k : Nat) : Prop := (-1 ≤ s.1 ∧ s.1 < k ∨ (s.1 = -1)) ∧ 0 ≤ s.2.1 ∧ s.2.1 ≤ 400 ∧ 0 ≤ s.2.2.1 ∧ s.2.2.1 ≤ 4000000000 ∧ 0 ≤ s.2.2.2 ∧ s.2.2.2 ≤ 400
theorem ratioD_bd {n d : Nat} {a b : Nat} (hn : n ≤ a) (hd : d ≤ b) : 0 ≤ (ratioD n d).1 ∧ (ratioD n d).1 ≤ a ∧ 0 ≤ (ratioD n d).2 ∧ (ratioD n d).2 ≤ b := by
  unfold ratioD
  have h1 : n / Nat.gcd n d ≤ n := Nat.div_le_self _ _
  have h2 : d / Nat.gcd n d ≤ d := Nat.div_le_self _ _
  generalize n / Nat.gcd n d = x at h1
  generalize d / Nat.gcd n d = y at h2
  dsimp only
  omega
theorem chooseN_ok {l h : List (Int × Int)} {over under : Int} (hw : ∀ m ∈ l, wrongM m = false) (hl : h.length ≤ 400) (hd : ∀ d ∈ h, OkDay d) (h7 : 0 ≤ over) (h8 : over ≤ 1000) (h9 : 0 ≤ under) (h10 : under ≤ 1000) (k : Nat) (hk : k ≤ l.length) :
    ScoOk (chooseN l h over under k) k := by
  induction k with
  | zero => simp [chooseN, ScoOk]
  | succ k ih =>
    have ih := ih (by omega)
    have hx : l.getD k (0, 0) = l[k] := by simp [show k < l.length by omega]
    have hm : 1 ≤ l[k].2 := by
      have := hw _ (List.getElem_mem (show k < l.length by omega))
      simp [wrongM, inB] at this; omega
    obtain ⟨r1, r2, r3⟩ := rateN_bd hm hd h7 h8 h9 h10 h.length (Nat.le_refl _)
    unfold chooseN
    rw [hx]
    have hb := ratioD_bd (n := (rateN l[k] h over under h.length).2.toNat) (d := (rateN l[k] h over under h.length).1) (a := 4000000000) (b := 400) (by omega) (by omega)
    split
    · unfold ScoOk
      dsimp only
      omega
    · unfold ScoOk at *
      omega
/-- what Choose returns -/
def chooseD (l h : List (Int × Int)) (over under : Int) : Int × (Int × Int × Int) × Int :=
  if checkH h ≠ 0 then (0, (0, 0, 0), checkH h) else if 40 < l.length then (0, (0, 0, 0), 2) else if l.any wrongM = true then (0, (0, 0, 0), 1) else if costsB over under = false then (0, (0, 0, 0), 1)
  else if (chooseN l h over under l.length).1 < 0 then (0, (0, 0, 0), 4) else ((chooseN l h over under l.length).1, (chooseN l h over under l.length).2, 0)
end Go.Ag
namespace Go.Proofs.Ytgopdfbmddkpfaa
open Go.RowKit Go.Fh Go.Ag

set_option maxRecDepth 20000 in
set_option maxHeartbeats 4000000 in
theorem chooseD_any (L : Option Addr) (cl : Nat) (l : List (Int × Int)) (A : Option Addr) (c : Nat) (h : List (Int × Int)) (over under : Int) (w : World) (hll : l.length ≤ 9223372036854775807) (hl : h.length ≤ 9223372036854775807) (hL : Sl enc2 2 w w.heap.size L l) (hA : Sl enc2 2 w w.heap.size A h) :
    Calls Try.prog 29 #[.slice L l.length cl, .slice A h.length c, .int .i64 over, .int .i64 under] w fun e w' => e = .returned (.tuple #[.int .i64 (chooseD l h over under).1, scoreV (chooseD l h over under).2.1, .int .i64 (chooseD l h over under).2.2]) ∧ Below w.heap.size w w' := by
  obtain ⟨w0, hw0⟩ : ∃ w0, w0 = w.alloc (.cells #[.int .i64 0, .int .i64 0, .int .i64 0] 76) := ⟨_, rfl⟩
  have hb0 : Below w.heap.size w w0 := by rw [hw0]; exact (Below.refl _ _).alloc (Nat.le_refl _) _
  have hks : Blk w0 w.heap.size 76 #[.int .i64 0, .int .i64 0, .int .i64 0] := by rw [hw0]; exact Blk.new _ _ _
  have HA := Lib.hid hA
  have HL := Lib.hid hL
  have HC := Lib.hid (check_any A c h w0 hl ((hA.below hb0).mono hb0.size))
  have HB0 := Lib.hid hb0
  have HKS := Lib.hid hks
  have HW0 := Lib.hid hw0
  clear hA hL hb0 hks
  by_cases hc : checkH h = 0
  · rw [hc] at HC
    obtain ⟨h400, hd⟩ := checkH_zero.1 hc
    have HD := Lib.hid hd
    have HCZ := Lib.hid hc
    clear hc hd hw0
    by_cases h40 : 40 < l.length
    · have hs : chooseD l h over under = (0, (0, 0, 0), 2) := by simp [chooseD, HCZ.out, h40]
      have HS := Lib.hid hs
      have t40 : decide ((40 : Int) < (l.length : Int)) = true := by simp; omega
      clear hs
      go_enter Try.func29, Try.ntmps29
      go_wp2_with fail
      rw [← HW0.out]
      refine HC.out.mono ?_
      rintro e w1 ⟨rfl, hb1⟩
      have hbb1 := HB0.out.trans (hb1.mono HB0.out.size)
      have ks1 := Blk.below HKS.out hb1 HKS.out.lt
      have s0 := ks1.cell 0
      have s1 := ks1.cell 1
      have s2 := ks1.cell 2
      have sf0 := ks1.frozen 0
      have sf1 := ks1.frozen 1
      have sf2 := ks1.frozen 2
      simp at s0 s1 s2
      go_wp2_with fail
      have kf := (((ks1.set_ 0 (.int .i64 0)).set_ 1 (.int .i64 0)).set_ 2 (.int .i64 0))
      have z0 := kf.cell 0
      have z1 := kf.cell 1
      have z2 := kf.cell 2
      simp at z0 z1 z2
      have hbf := (((hbb1.setCell (p := ⟨w.heap.size, 0, none⟩) (Nat.le_refl _) (.int .i64 0)).setCell (p := ⟨w.heap.size, 1, none⟩) (Nat.le_refl _) (.int .i64 0)).setCell (p := ⟨w.heap.size, 2, none⟩) (Nat.le_refl _) (.int .i64 0))
      refine bodyPost_ret (v := .tuple #[.int .i64 0, .agg #[(.int .i64 0), (.int .i64 0), (.int .i64 0)], .int .i64 2]) ?_ rfl ⟨by rw [HS.out]; rfl, hbf⟩
      simp [results, Try.results29, Try.f29, go_sem, z0, z1, z2]
    · have t40 : decide ((40 : Int) < (l.length : Int)) = false := by simp; omega
      cases hw : l.any wrongM
      · have hww : ∀ m ∈ l, wrongM m = false := fun m hm => by
          cases e : wrongM m
          · rfl
          · rw [List.any_eq_true.2 ⟨m, hm, e⟩] at hw; cases hw
        have HWW := Lib.hid hww
        cases hk : costsB over under
        · have hs : chooseD l h over under = (0, (0, 0, 0), 1) := by simp [chooseD, HCZ.out, h40, hw, hk]
          have HS := Lib.hid hs
          clear hs hww
          go_enter Try.func29, Try.ntmps29
          go_wp2_with fail
          rw [← HW0.out]
          refine HC.out.mono ?_
          rintro e w1 ⟨rfl, hb1⟩
          have hbb1 := HB0.out.trans (hb1.mono HB0.out.size)
          have ks1 := Blk.below HKS.out hb1 HKS.out.lt
          have KS1 := Lib.hid ks1
          clear ks1 hb1
          go_wp2_with fail
          refine (anyWrongM_any L cl l w1 hll ((HL.out.below hbb1).mono hbb1.size)).mono ?_
          rintro e w2 ⟨rfl, hb2⟩
          have hbb2 := hbb1.trans (hb2.mono hbb1.size)
          have ks2 := Blk.below KS1.out hb2 KS1.out.lt
          have s0 := ks2.cell 0
          have s1 := ks2.cell 1
          have s2 := ks2.cell 2
          have sf0 := ks2.frozen 0
          have sf1 := ks2.frozen 1
          have sf2 := ks2.frozen 2
          simp at s0 s1 s2
          go_wp2_with (go_at_call 39; refine (costs_any _ _ _).mono ?_; rintro e w' ⟨rfl, rfl⟩)
          have kf := (((ks2.set_ 0 (.int .i64 0)).set_ 1 (.int .i64 0)).set_ 2 (.int .i64 0))
          have z0 := kf.cell 0
          have z1 := kf.cell 1
          have z2 := kf.cell 2
          simp at z0 z1 z2
          have hbf := (((hbb2.setCell (p := ⟨w.heap.size, 0, none⟩) (Nat.le_refl _) (.int .i64 0)).setCell (p := ⟨w.heap.size, 1, none⟩) (Nat.le_refl _) (.int .i64 0)).setCell (p := ⟨w.heap.size, 2, none⟩) (Nat.le_refl _) (.int .i64 0))
          refine bodyPost_ret (v := .tuple #[.int .i64 0, .agg #[(.int .i64 0), (.int .i64 0), (.int .i64 0)], .int .i64 1]) ?_ rfl ⟨by rw [HS.out]; rfl, hbf⟩
          simp [results, Try.results29, Try.f29, go_sem, z0, z1, z2]
        · obtain ⟨k1, k2, k3, k4⟩ := costsB_bd hk
          have hs : chooseD l h over under = if (chooseN l h over under l.length).1 < 0 then (0, (0, 0, 0), 4) else ((chooseN l h over under l.length).1, (chooseN l h over under l.length).2, 0) := by simp [chooseD, HCZ.out, h40, hw, hk]
          have HS0 := Lib.hid hs
          clear hs hww
          go_enter Try.func29, Try.ntmps29
          go_wp2_with fail
          rw [← HW0.out]
          refine HC.out.mono ?_
          rintro e w1 ⟨rfl, hb1⟩
          have hbb1 := HB0.out.trans (hb1.mono HB0.out.size)
          have ks1 := Blk.below HKS.out hb1 HKS.out.lt
          have KS1 := Lib.hid ks1
          clear ks1 hb1
          go_wp2_with fail
          refine (anyWrongM_any L cl l w1 hll ((HL.out.below hbb1).mono hbb1.size)).mono ?_
          rintro e w2 ⟨rfl, hb2⟩
          have hbb2 := hbb1.trans (hb2.mono hbb1.size)
          have ks2 := Blk.below KS1.out hb2 KS1.out.lt
          have KS2 := Lib.hid ks2
          have HBB2 := Lib.hid hbb2
          have hz2 : w.heap.size < w2.heap.size := ks2.lt
          clear ks2 hb2
          go_wp2_with (go_at_call 39; refine (costs_any _ _ _).mono ?_; rintro e w' ⟨rfl, rfl⟩)
          go_loopw [12, 40] (fun a i wr => ∃ k : Nat, k ≤ l.length ∧ i = .int .i64 k ∧ a = .int .i64 (chooseN l h over under k).1 ∧ Blk wr w.heap.size 76 #[.int .i64 0, .int .i64 0, .int .i64 0] ∧ Blk wr w2.heap.size 76 #[.int .i64 (chooseN l h over under k).2.1, .int .i64 (chooseN l h over under k).2.2.1, .int .i64 (chooseN l h over under k).2.2.2] ∧ Below w.heap.size w wr) (fun _ i _ => l.length - (intOf i).toNat)
          case atStart => exact ⟨0, Nat.zero_le _, rfl, rfl, KS2.out.alloc _, Blk.new _ _ _, HBB2.out.alloc HBB2.out.size _⟩
          case round =>
            obtain ⟨k, hk, rfl, rfl, hKa, hKb, hB⟩ := hrel
            have hok := chooseN_ok HWW.out h400 HD.out k1 k2 k3 k4 k hk
            by_cases hlt : k < l.length
            · obtain ⟨b, off, rfl, hb, c0, c1⟩ := (HL.out.below hB).at2 hlt
              have hx : l.getD k (0, 0) = l[k] := by simp [hlt]
              have hwm := HWW.out _ (List.getElem_mem hlt)
              have hm2 : 1 ≤ l[k].2 := by simp [wrongM, inB] at hwm; omega
              obtain ⟨r1, r2, r3⟩ := rateN_bd hm2 HD.out k1 k2 k3 k4 h.length (Nat.le_refl _)
              have hsz := hB.size
              have hbw : b < wr.heap.size := by omega
              have hBn := hB.alloc hB.size (.cells #[.int .i64 l[k].1, .int .i64 l[k].2] 72)
              have HR := Lib.hid (rateN_any l[k] A c h over under (wr.alloc (.cells #[.int .i64 l[k].1, .int .i64 l[k].2] 72)) h400 ((HA.out.below hBn).mono hBn.size) HD.out hwm k1 k2 k3 k4)
              have hst : chooseN l h over under (k + 1) = if 0 < (rateN l[k] h over under h.length).1 ∧ ((chooseN l h over under k).1 < 0 ∨ (rateN l[k] h over under h.length).2 * (chooseN l h over under k).2.2.2 < (chooseN l h over under k).2.2.1 * ((rateN l[k] h over under h.length).1 : Nat)) then ((k : Int), (((rateN l[k] h over under h.length).1 : Nat) : Int), (ratioD (rateN l[k] h over under h.length).2.toNat (rateN l[k] h over under h.length).1).1, (ratioD (rateN l[k] h over under h.length).2.toNat (rateN l[k] h over under h.length).1).2) else chooseN l h over under k := by rw [← hx]; rfl
              obtain ⟨xx, hxx⟩ : ∃ x, x = l[k] := ⟨_, rfl⟩
              rw [← hxx] at c0 c1 hBn HR hst r1 r2 r3
              generalize rateN xx h over under h.length = r at *
              generalize chooseN l h over under k = S at *
              obtain ⟨hS1, hS2, hS3, hS4, hS5, hS6, hS7⟩ := hok
              have p1 := Int.mul_nonneg r2 hS6
              have p2 := Int.mul_le_mul (show r.2 ≤ 4000000000 by omega) hS7 hS6 (by omega)
              have p3 := Int.mul_nonneg hS4 (show (0 : Int) ≤ (r.1 : Int) by omega)
              have p4 := Int.mul_le_mul hS5 (show (r.1 : Int) ≤ 400 by omega) (by omega) (by omega)
              have f1 := IntWalk.i64_in (r.2 * S.2.2.2) (by omega)
              have f2 := IntWalk.i64_in (S.2.2.1 * (r.1 : Int)) (by omega)
              have hKan := hKa.alloc (.cells #[.int .i64 xx.1, .int .i64 xx.2] 72)
              have hKbn := hKb.alloc (.cells #[.int .i64 xx.1, .int .i64 xx.2] 72)
              have hKm := Blk.new wr 72 #[.int .i64 xx.1, .int .i64 xx.2]
              have HST := Lib.hid hst
              have HKA := Lib.hid hKan
              have HKB := Lib.hid hKbn
              have HBN := Lib.hid hBn
              have hz2' : w2.heap.size < wr.heap.size := hKb.lt
              clear hst hKan hKbn hBn hKa hKb hx hxx hwm p1 p2 p3 p4 hKm
              by_cases q1 : 0 < r.1
              · have t1 : decide ((0 : Int) < (r.1 : Int)) = true := by simp; exact q1
                obtain ⟨N, hN⟩ : ∃ N, N = (ratioD r.2.toNat r.1).1 := ⟨_, rfl⟩
                obtain ⟨D, hD⟩ : ∃ D, D = (ratioD r.2.toNat r.1).2 := ⟨_, rfl⟩
                have H80 := Lib.hid (show ∀ W, Calls Try.prog 80 #[.int .i64 r.2, .int .i64 (r.1 : Int)] W fun e w' => e = .returned (.agg #[.int .i64 N, .int .i64 D]) ∧ Below W.heap.size W w' from fun W => by
                  have h0 := ratio_any r.2.toNat r.1 W (by omega) (by omega) q1
                  rw [Int.toNat_of_nonneg r2] at h0
                  rw [hN, hD]
                  exact h0)
                rw [← hN, ← hD] at HST
                have hch : (S.1 < 0 ∨ r.2 * S.2.2.2 < S.2.2.1 * (r.1 : Int)) ∨ ¬ (S.1 < 0 ∨ r.2 * S.2.2.2 < S.2.2.1 * (r.1 : Int)) := Classical.em _
                rcases hch with hch | hch
                · have hstep : chooseN l h over under (k + 1) = ((k : Int), (r.1 : Int), N, D) := by rw [HST.out, if_pos ⟨q1, hch⟩]
                  have HSTEP := Lib.hid hstep
                  have htt : (decide (S.1 < 0) = true) ∨ (decide (S.1 < 0) = false ∧ decide (r.2 * S.2.2.2 < S.2.2.1 * (r.1 : Int)) = true) := by
                    by_cases e : S.1 < 0
                    · exact .inl (by simpa using e)
                    · exact .inr ⟨by simpa using e, by rcases hch with h | h; exact absurd h e; simpa using h⟩
                  clear hstep hch hN hD HST
                  rcases htt with t2 | ⟨t2, t3⟩
                  all_goals
                    go_wp2_with fail
                    refine HR.out.mono ?_
                    rintro e w3 ⟨rfl, hb3⟩
                    have kb3 := Blk.below HKB.out hb3 HKB.out.lt
                    have ka3 := Blk.below HKA.out hb3 HKA.out.lt
                    have hbb3 := HBN.out.trans (hb3.mono HBN.out.size)
                    have KB3 := Lib.hid kb3
                    have KA3 := Lib.hid ka3
                    have b0 := kb3.cell 0
                    have b1 := kb3.cell 1
                    have b2 := kb3.cell 2
                    simp at b0 b1 b2
                    clear kb3 ka3 hb3
                    go_wp2_with fail
                    refine (H80.out w3).mono ?_
                    rintro e w4 ⟨rfl, hb4⟩
                    have kb4 := Blk.below KB3.out hb4 KB3.out.lt
                    have ka4 := Blk.below KA3.out hb4 KA3.out.lt
                    have hbb4 := hbb3.trans (hb4.mono hbb3.size)
                    have hne : w.heap.size ≠ w2.heap.size := by omega
                    have KBF := Lib.hid (((kb4.set_ 0 (.int .i64 (r.1 : Int))).set_ 1 (.int .i64 N)).set_ 2 (.int .i64 D))
                    have KAF := Lib.hid (((ka4.far (p := ⟨w2.heap.size, 0, none⟩) hne (.int .i64 (r.1 : Int))).far (p := ⟨w2.heap.size, 1, none⟩) hne (.int .i64 N)).far (p := ⟨w2.heap.size, 2, none⟩) hne (.int .i64 D))
                    have HBF := Lib.hid (((hbb4.setCell (p := ⟨w2.heap.size, 0, none⟩) (by simp; omega) (.int .i64 (r.1 : Int))).setCell (p := ⟨w2.heap.size, 1, none⟩) (by simp; omega) (.int .i64 N)).setCell (p := ⟨w2.heap.size, 2, none⟩) (by simp; omega) (.int .i64 D))
                    have d0 := kb4.cell 0
                    have d1 := kb4.cell 1
                    have d2 := kb4.cell 2
                    have df0 := kb4.frozen 0
                    have df1 := kb4.frozen 1
                    have df2 := kb4.frozen 2
                    simp at d0 d1 d2
                    clear b0 b1 b2 kb4 ka4 hb4
                    go_wp2_with fail
                    go_roundw
                    case rel =>
                      refine ⟨k + 1, by omega, by go_num, by rw [HSTEP.out], KAF.out, ?_, HBF.out⟩
                      rw [HSTEP.out]
                      exact KBF.out
                    case measure => simp [intOf]; omega
                · have hstep : chooseN l h over under (k + 1) = S := by rw [HST.out, if_neg (fun h => hch h.2)]
                  have HSTEP := Lib.hid hstep
                  have t2 : decide (S.1 < 0) = false := by
                    have : ¬ S.1 < 0 := fun h => hch (.inl h)
                    simpa using this
                  have t3 : decide (r.2 * S.2.2.2 < S.2.2.1 * (r.1 : Int)) = false := by
                    have : ¬ r.2 * S.2.2.2 < S.2.2.1 * (r.1 : Int) := fun h => hch (.inr h)
                    simpa using this
                  clear hstep hch hN hD HST
                  go_wp2_with fail
                  refine HR.out.mono ?_
                  rintro e w3 ⟨rfl, hb3⟩
                  have kb3 := Blk.below HKB.out hb3 HKB.out.lt
                  have ka3 := Blk.below HKA.out hb3 HKA.out.lt
                  have hbb3 := HBN.out.trans (hb3.mono HBN.out.size)
                  have KB3 := Lib.hid kb3
                  have KA3 := Lib.hid ka3
                  have b0 := kb3.cell 0
                  have b1 := kb3.cell 1
                  have b2 := kb3.cell 2
                  simp at b0 b1 b2
                  clear kb3 ka3 hb3
                  go_wp2_with fail
                  go_roundw
                  case rel => exact ⟨k + 1, by omega, by go_num, by rw [HSTEP.out], KA3.out, by rw [HSTEP.out]; exact KB3.out, hbb3⟩
                  case measure => simp [intOf]; omega
              · have t1 : decide ((0 : Int) < (r.1 : Int)) = false := by simp; omega
                have hstep : chooseN l h over under (k + 1) = S := by rw [HST.out, if_neg (fun h => q1 h.1)]
                have HSTEP := Lib.hid hstep
                clear hstep HST
                go_wp2_with fail
                refine HR.out.mono ?_
                rintro e w3 ⟨rfl, hb3⟩
                have kb3 := Blk.below HKB.out hb3 HKB.out.lt
                have ka3 := Blk.below HKA.out hb3 HKA.out.lt
                have hbb3 := HBN.out.trans (hb3.mono HBN.out.size)
                have KB3 := Lib.hid kb3
                have KA3 := Lib.hid ka3
                clear kb3 ka3 hb3
                go_wp2_with fail
                go_roundw
                case rel => exact ⟨k + 1, by omega, by go_num, by rw [HSTEP.out], KA3.out, by rw [HSTEP.out]; exact KB3.out, hbb3⟩
                case measure => simp [intOf]; omega
            · obtain rfl : k = l.length := by omega
              generalize chooseN l h over under l.length = S at *
              by_cases q1 : S.1 < 0
              · have t1 : decide (S.1 < 0) = true := by simpa using q1
                have hs : chooseD l h over under = (0, (0, 0, 0), 4) := by rw [HS0.out, if_pos q1]
                have HS := Lib.hid hs
                clear hs
                have s0 := hKa.cell 0
                have s1 := hKa.cell 1
                have s2 := hKa.cell 2
                have sf0 := hKa.frozen 0
                have sf1 := hKa.frozen 1
                have sf2 := hKa.frozen 2
                simp at s0 s1 s2
                go_wp2_with fail
                have kf := (((hKa.set_ 0 (.int .i64 0)).set_ 1 (.int .i64 0)).set_ 2 (.int .i64 0))
                have z0 := kf.cell 0
                have z1 := kf.cell 1
                have z2 := kf.cell 2
                simp at z0 z1 z2
                have hbf := (((hB.setCell (p := ⟨w.heap.size, 0, none⟩) (Nat.le_refl _) (.int .i64 0)).setCell (p := ⟨w.heap.size, 1, none⟩) (Nat.le_refl _) (.int .i64 0)).setCell (p := ⟨w.heap.size, 2, none⟩) (Nat.le_refl _) (.int .i64 0))
                refine bodyPost_ret (v := .tuple #[.int .i64 0, .agg #[(.int .i64 0), (.int .i64 0), (.int .i64 0)], .int .i64 4]) ?_ rfl ⟨by rw [HS.out]; rfl, hbf⟩
                simp [results, Try.results29, Try.f29, go_sem, z0, z1, z2]
              · have t1 : decide (S.1 < 0) = false := by simpa using q1
                have hs : chooseD l h over under = (S.1, S.2, 0) := by rw [HS0.out, if_neg q1]
                have HS := Lib.hid hs
                clear hs
                have s0 := hKa.cell 0
                have s1 := hKa.cell 1
                have s2 := hKa.cell 2
                have sf0 := hKa.frozen 0
                have sf1 := hKa.frozen 1
                have sf2 := hKa.frozen 2
                simp at s0 s1 s2
                have t0 := hKb.cell 0
                have t1 := hKb.cell 1
                have t2 := hKb.cell 2
                simp at t0 t1 t2
                go_wp2_with fail
                go_region
                all_goals go_wp2_with fail
                all_goals
                  have kf := (((hKa.set_ 0 (.int .i64 S.2.1)).set_ 1 (.int .i64 S.2.2.1)).set_ 2 (.int .i64 S.2.2.2)).drew
                  have z0 := kf.cell 0
                  have z1 := kf.cell 1
                  have z2 := kf.cell 2
                  simp at z0 z1 z2
                  have hbf := (((hB.setCell (p := ⟨w.heap.size, 0, none⟩) (Nat.le_refl _) (.int .i64 S.2.1)).setCell (p := ⟨w.heap.size, 1, none⟩) (Nat.le_refl _) (.int .i64 S.2.2.1)).setCell (p := ⟨w.heap.size, 2, none⟩) (Nat.le_refl _) (.int .i64 S.2.2.2)).drew
                  refine bodyPost_ret (v := .tuple #[.int .i64 S.1, .agg #[(.int .i64 S.2.1), (.int .i64 S.2.2.1), (.int .i64 S.2.2.2)], .int .i64 0]) ?_ rfl ⟨by rw [HS.out]; rfl, hbf⟩
                  simp [results, Try.results29, Try.f29, go_sem, z0, z1, z2]
      · have hs : chooseD l h over under = (0, (0, 0, 0), 1) := by simp [chooseD, HCZ.out, h40, hw]
        have HS := Lib.hid hs
        clear hs
        go_enter Try.func29, Try.ntmps29
        go_wp2_with fail
        rw [← HW0.out]
        refine HC.out.mono ?_
        rintro e w1 ⟨rfl, hb1⟩
        have hbb1 := HB0.out.trans (hb1.mono HB0.out.size)
        have ks1 := Blk.below HKS.out hb1 HKS.out.lt
        have KS1 := Lib.hid ks1
        clear ks1 hb1
        go_wp2_with fail
        refine (anyWrongM_any L cl l w1 hll ((HL.out.below hbb1).mono hbb1.size)).mono ?_
        rintro e w2 ⟨rfl, hb2⟩
        have hbb2 := hbb1.trans (hb2.mono hbb1.size)
        have ks2 := Blk.below KS1.out hb2 KS1.out.lt
        have s0 := ks2.cell 0
        have s1 := ks2.cell 1
        have s2 := ks2.cell 2
        have sf0 := ks2.frozen 0
        have sf1 := ks2.frozen 1
        have sf2 := ks2.frozen 2
        simp at s0 s1 s2
        go_wp2_with fail
        have kf := (((ks2.set_ 0 (.int .i64 0)).set_ 1 (.int .i64 0)).set_ 2 (.int .i64 0))
        have z0 := kf.cell 0
        have z1 := kf.cell 1
        have z2 := kf.cell 2
        simp at z0 z1 z2
        have hbf := (((hbb2.setCell (p := ⟨w.heap.size, 0, none⟩) (Nat.le_refl _) (.int .i64 0)).setCell (p := ⟨w.heap.size, 1, none⟩) (Nat.le_refl _) (.int .i64 0)).setCell (p := ⟨w.heap.size, 2, none⟩) (Nat.le_refl _) (.int .i64 0))
        refine bodyPost_ret (v := .tuple #[.int .i64 0, .agg #[(.int .i64 0), (.int .i64 0), (.int .i64 0)], .int .i64 1]) ?_ rfl ⟨by rw [HS.out]; rfl, hbf⟩
        simp [results, Try.results29, Try.f29, go_sem, z0, z1, z2]
  · have ht : (checkH h == 0) = false := by simpa using hc
    have hs : chooseD l h over under = (0, (0, 0, 0), checkH h) := by simp [chooseD, hc]
    have HS := Lib.hid hs
    clear hs hc hw0
    go_enter Try.func29, Try.ntmps29
    go_wp2_with fail
    rw [← HW0.out]
    refine HC.out.mono ?_
    rintro e w1 ⟨rfl, hb1⟩
    have hbb1 := HB0.out.trans (hb1.mono HB0.out.size)
    have ks1 := Blk.below HKS.out hb1 HKS.out.lt
    have s0 := ks1.cell 0
    have s1 := ks1.cell 1
    have s2 := ks1.cell 2
    have sf0 := ks1.frozen 0
    have sf1 := ks1.frozen 1
    have sf2 := ks1.frozen 2
    simp at s0 s1 s2
    go_wp2_with fail
    have kf := (((ks1.set_ 0 (.int .i64 0)).set_ 1 (.int .i64 0)).set_ 2 (.int .i64 0))
    have z0 := kf.cell 0
    have z1 := kf.cell 1
    have z2 := kf.cell 2
    simp at z0 z1 z2
    have hbf := (((hbb1.setCell (p := ⟨w.heap.size, 0, none⟩) (Nat.le_refl _) (.int .i64 0)).setCell (p := ⟨w.heap.size, 1, none⟩) (Nat.le_refl _) (.int .i64 0)).setCell (p := ⟨w.heap.size, 2, none⟩) (Nat.le_refl _) (.int .i64 0))
    refine bodyPost_ret (v := .tuple #[.int .i64 0, .agg #[(.int .i64 0), (.int .i64 0), (.int .i64 0)], .int .i64 (checkH h)]) ?_ rfl ⟨by rw [HS.out]; rfl, hbf⟩
    simp [results, Try.results29, Try.f29, go_sem, z0, z1, z2]
end Go.Proofs.Ytgopdfbmddkpfaa
