/- Contracts of Proves and Cost; conditions: a supply and numbers in memory. Printed by a program. -/
import Derived.Test.YtnbnfadmbggfnaaA5
set_option linter.unusedSimpArgs false
set_option linter.unusedVariables false
namespace Go.Rl
open Go.Fh Go.RowKit
def badP (s : SupD) (ps : List Int) : Bool := decide (ps.length ≠ s.need.length + 1) || (decide (nd ps 0 ≠ 0) || ps.any fun v => !inB v (-1000000000000) 1000000000000)
/-- what Proves says -/
def PrvP (s : SupD) (ps : List Int) (v e : Int) : Prop :=
  if errS s ≠ 0 then v = 0 ∧ e = errS s else if badP s ps = true then v = 0 ∧ e = 1 else (ProveP s s.need.length (nd ps) ∧ v = nd ps s.need.length ∧ e = 0) ∨ (¬ ProveP s s.need.length (nd ps) ∧ v = 0 ∧ e = 7)
theorem prvP_uniq {s : SupD} {ps : List Int} {v e v' e' : Int} (h : PrvP s ps v e) (k : PrvP s ps v' e') : v = v' ∧ e = e' := by
  unfold PrvP at h k
  split at h
  · rename_i hc; rw [if_pos hc] at k; exact ⟨h.1.trans k.1.symm, h.2.trans k.2.symm⟩
  · rename_i hc
    rw [if_neg hc] at k
    split at h
    · rename_i hb; rw [if_pos hb] at k; exact ⟨h.1.trans k.1.symm, h.2.trans k.2.symm⟩
    · rename_i hb
      rw [if_neg hb] at k
      rcases h with ⟨h1, h2, h3⟩ | ⟨h1, h2, h3⟩ <;> rcases k with ⟨k1, k2, k3⟩ | ⟨k1, k2, k3⟩
      · exact ⟨h2.trans k2.symm, h3.trans k3.symm⟩
      · exact absurd h1 k1
      · exact absurd k1 h1
      · exact ⟨h2.trans k2.symm, h3.trans k3.symm⟩
def PrvR (s : SupD) (ps : List Int) (w : Go.World) (e : Go.Ending) (w' : Go.World) : Prop := ∃ v er : Int, e = .returned (.tuple #[.int .i64 v, .int .i64 er]) ∧ Hid (PrvP s ps v er) ∧ Hid (Below w.heap.size w w')
theorem prvR_mk {s : SupD} {ps : List Int} {w w' : Go.World} {e : Go.Ending} (v er : Int) (he : e = .returned (.tuple #[.int .i64 v, .int .i64 er])) (h : Hid (PrvP s ps v er)) (hb : Hid (Below w.heap.size w w')) : PrvR s ps w e w' := ⟨v, er, he, h, hb⟩
def EdgeP (s : SupD) (p : Nat → Int) (i k : Nat) : Prop := ∀ c, cov s i k = some c → p k ≤ p i + c
theorem prove_iff {s : SupD} {n : Nat} {p : Nat → Int} : ProveP s n p ↔ ∀ i, i < n → ∀ k, i < k → k ≤ n → EdgeP s p i k :=
  ⟨fun h i _ k hk hn c hc => h i k hk hn c hc, fun h i k hk hn c hc => h i (by omega) k hk hn c hc⟩
theorem edge_no {s : SupD} {p : Nat → Int} {i k : Nat} (h : covB s i k = false) : EdgeP s p i k := fun c hc => by rw [cov_none h] at hc; cases hc
theorem edge_yes {s : SupD} {p : Nat → Int} {i k : Nat} (h : covB s i k = true) : EdgeP s p i k ↔ p k ≤ p i + covC s i k := by
  constructor
  · intro e; exact e _ (cov_some h)
  · intro e c hc; rw [cov_some h] at hc; injection hc with hc; rw [← hc]; exact e
/-- whether the week at a place is allowed behind the one ahead of it -/
def wkJ (n : Nat) (ws : List Int) (j : Nat) : Bool := inB (nd ws j) 0 ((n : Int) - 1) && (decide (j = 0) || decide (nd ws (j - 1) < nd ws j))
def badW (n : Nat) (ws : List Int) : Bool := decide (ws.length = 0) || (decide (nd ws 0 ≠ 0) || !((List.range ws.length).all (wkJ n ws)))
def natW (ws : List Int) : List Nat := ws.map Int.toNat
def cstP (s : SupD) (ws : List Int) : Int × Int :=
  if errS s ≠ 0 then (0, errS s) else if badW s.need.length ws = true then (0, 1) else
    match costK s s.need.length (natW ws) ws.length with
    | none => (0, 9)
    | some c => (c, 0)
theorem natW_get {ws : List Int} {j : Nat} (hj : j < ws.length) (h : 0 ≤ nd ws j) : ((natW ws).getD j 0 : Int) = nd ws j := by
  have h1 : (natW ws).getD j 0 = (nd ws j).toNat := by
    rw [nd_get hj]
    simp [natW, hj]
  rw [h1]; omega
theorem wks_ok {n : Nat} {ws : List Int} (h : badW n ws = false) : WksOk n (natW ws) ∧ ∀ j, j < ws.length → ((natW ws).getD j 0 : Int) = nd ws j := by
  unfold badW at h
  simp only [Bool.or_eq_false_iff, decide_eq_false_iff_not, Decidable.not_not, Bool.not_eq_false'] at h
  obtain ⟨h0, h1, h2⟩ := h
  have hj : ∀ j, j < ws.length → (0 ≤ nd ws j ∧ nd ws j ≤ (n : Int) - 1) ∧ (j = 0 ∨ nd ws (j - 1) < nd ws j) := fun j hj => by
    have := List.all_eq_true.1 h2 j (List.mem_range.2 hj)
    unfold wkJ at this
    simp only [Bool.and_eq_true, Bool.or_eq_true, decide_eq_true_eq] at this
    exact ⟨inB_iff.1 this.1, this.2⟩
  have hg : ∀ j, j < ws.length → ((natW ws).getD j 0 : Int) = nd ws j := fun j hl => natW_get hl (hj j hl).1.1
  have hlen : (natW ws).length = ws.length := by simp [natW]
  refine ⟨⟨by omega, ?_, fun j hl => ?_, fun j hl => ?_⟩, hg⟩
  · have := hg 0 (by omega); omega
  · have := hg j (by omega); have := (hj j (by omega)).1; omega
  · have a := hg j (by omega)
    have b := hg (j + 1) (by omega)
    have c := (hj (j + 1) (by omega)).2
    rw [show j + 1 - 1 = j by omega] at c
    omega
theorem badW_of {n : Nat} {ws : List Int} {j : Nat} (hj : j < ws.length) (h : wkJ n ws j = false) : badW n ws = true := by
  unfold badW
  have : (List.range ws.length).all (wkJ n ws) = false := by
    rw [List.all_eq_false]
    exact ⟨j, List.mem_range.2 hj, by rw [h]; simp⟩
  rw [this]; simp
theorem badW_no {n : Nat} {ws : List Int} (h0 : ws.length ≠ 0) (h1 : nd ws 0 = 0) (h : ∀ j, j < ws.length → wkJ n ws j = true) : badW n ws = false := by
  unfold badW
  have : (List.range ws.length).all (wkJ n ws) = true := by
    rw [List.all_eq_true]; intro j hj; exact h j (List.mem_range.1 hj)
  rw [this]; simp [h0, h1]
theorem wkJ_b {n : Nat} {ws : List Int} {j : Nat} {v : Int} {b1 b2 : Bool} (hv : v = nd ws j) (h1 : b1 = inB v 0 ((n : Int) - 1)) (h2 : b2 = decide (nd ws (j - 1) < v)) : wkJ n ws j = (b1 && (decide (j = 0) || b2)) := by
  unfold wkJ; rw [h1, h2, hv]
end Go.Rl
namespace Go.Proofs.Ytnbnfadmbggfnaa
open Go.RowKit Go.Fh Go.Rl
set_option maxRecDepth 20000 in
set_option maxHeartbeats 4000000 in
theorem proves_c (s : SupD) (x : SA) (w : World) (hl : s.need.length ≤ 1000000000 ∧ s.order.length ≤ 1000000000) (hT : SupAt w w.heap.size s x) (A : Option Addr) (c m : Nat) (ps : List Int) (hm : ps.length = m) (hm9 : m ≤ 1000000000) (hA : Sl encInt 1 w w.heap.size A ps) :
    Calls Try.prog 25 #[.agg #[.slice x.a s.need.length x.ca, .slice x.b s.order.length x.cb, .int .i64 s.keep, .int .i64 s.room], .slice A m c] w fun e w' => PrvR s ps w e w' := by
  obtain ⟨w1, gT, HW1, HGT, HB1, HTB⟩ := sup_box 60 s x w hT
  obtain ⟨hT1, r0, r1, r2, r3⟩ := HTB.out w1 (Below.refl _ _)
  have HCK := Lib.hid (chkS_any s x w1 hl hT1)
  by_cases he : errS s = 0
  · have hs := sup_ok he
    have hn1 := hs.n0
    have hn20 := hs.n1
    have HPP := Lib.hid (show ∀ v e, PrvP s ps v e ↔ if badP s ps = true then v = 0 ∧ e = 1 else (ProveP s s.need.length (nd ps) ∧ v = nd ps s.need.length ∧ e = 0) ∨ (¬ ProveP s s.need.length (nd ps) ∧ v = 0 ∧ e = 7) from fun v e => by unfold PrvP; rw [if_neg (by simpa using he)])
    rw [he] at HCK
    have HCV := Lib.hid (fun W (hb : Below w1.heap.size w1 W) (fr tp : Nat) (h1 : fr < tp) (h2 : tp ≤ s.need.length) => covers_any s x W hs (HTB.out W hb).1 fr tp h1 h2)
    have HAW := Lib.hid (fun W (hb : Below w1.heap.size w1 W) => (hA.below (HB1.out.trans (hb.mono HB1.out.size))).mono ((HB1.out.trans (hb.mono HB1.out.size)).size))
    have HCF := Lib.hid (show ∀ W, Below w1.heap.size w1 W → Calls Try.prog 56 #[.slice A m c, .func (.func 57) #[] #[]] W fun e w' => e = .returned (.bool (ps.any fun v => !inB v (-1000000000000) 1000000000000)) ∧ Below W.heap.size W w' from fun W hb => by
      have h := bP_any A c ps W (by omega) (HAW.out W hb)
      rw [hm] at h
      exact h)
    have HBD := Lib.hid (show badP s ps = (decide (m ≠ s.need.length + 1) || (decide (nd ps 0 ≠ 0) || ps.any fun v => !inB v (-1000000000000) 1000000000000)) by unfold badP; rw [hm])
    have HS := Lib.hid hs
    have HM := Lib.hid hm
    obtain ⟨n, hn⟩ : ∃ n, n = s.need.length := ⟨_, rfl⟩
    unfold supV at *
    rw [← hn] at r0 HTB HW1 HCK HCV HBD HPP hn1 hn20 ⊢
    clear hT hT1 hs hA he hl hm hn
    have nw : IntKind.i64.wrap ((n : Int) + 1) = (n : Int) + 1 := by rw [IntKind.wrap_i64]; omega
    by_cases hmn : m = n + 1
    · subst hmn
      have hne : ((((n + 1 : Nat)) : Int) != (n : Int) + 1) = false := by simp
      obtain ⟨pb, po, hpa, hpb, d0⟩ := (HAW.out w1 (Below.refl _ _)).at1 (k := 0) (by rw [HM.out]; omega)
      subst hpa
      have HCE := Lib.hid (show ∀ W, Below w1.heap.size w1 W → ∀ j, j < n + 1 → W.cell? ⟨pb, po + j, none⟩ = some (.int .i64 (nd ps j)) from fun W hb j hj => by
        have hjl : j < ps.length := by rw [HM.out]; exact hj
        rw [nd_get hjl]; exact Sl.at1' (HAW.out W hb) hjl)
      clear d0
      obtain ⟨p0, hp0⟩ : ∃ v, v = nd ps 0 := ⟨_, rfl⟩
      obtain ⟨z0, hz0⟩ : ∃ b, b = (p0 != 0) := ⟨_, rfl⟩
      have hz0' := hz0.symm
      obtain ⟨z1, hz1⟩ : ∃ b, b = ps.any fun v => !inB v (-1000000000000) 1000000000000 := ⟨_, rfl⟩
      have HZ := Lib.hid (show badP s ps = (z0 || z1) by rw [HBD.out, hz0, hz1, hp0]; by_cases h : nd ps 0 = 0 <;> simp [h])
      have HPB := Lib.hid (show z1 = false → ∀ j, -1000000000000 ≤ nd ps j ∧ nd ps j ≤ 1000000000000 from fun h j => by
        by_cases hj : j < ps.length
        · rw [nd_get hj]
          rw [h] at hz1
          have := List.any_eq_false.1 hz1.symm ps[j] (List.getElem_mem hj)
          exact inB_iff.1 (by simpa using this)
        · unfold nd
          rw [List.getD_eq_getElem?_getD, List.getElem?_eq_none (by omega)]
          simp)
      rw [← hz1] at HCF
      have HP0 := Lib.hid hp0
      clear hz0 hz1 hp0
      have n0 : (0 : Int) ≤ (n : Int) := by omega
      have n8 : (0 : Int) < (n : Int) + 1 := by omega
      have n9 : (n : Int) < (n : Int) + 1 := by omega
      cases z0
      · cases z1
        · skip
          have HPX := Lib.hid (HPB.out (by trivial))
          clear HPB
          have HNB := Lib.hid (show badP s ps = false from HZ.out)
          have HOK := Lib.hid (show ∀ v e, ((∀ i, i < n → ∀ k, i < k → k ≤ n → EdgeP s (nd ps) i k) ∧ v = nd ps n ∧ e = 0) ∨ ((∃ i k, i < k ∧ k ≤ n ∧ ¬ EdgeP s (nd ps) i k) ∧ v = 0 ∧ e = 7) → PrvP s ps v e from fun v e h => by
            rw [HPP.out, if_neg (by rw [HNB.out]; simp)]
            rcases h with ⟨h1, h2⟩ | ⟨⟨i, k, h1, h2, h3⟩, h4⟩
            · exact .inl ⟨prove_iff.2 h1, h2⟩
            · exact .inr ⟨fun h => h3 (prove_iff.1 h i (by omega) k h1 h2), h4⟩)
          go_enter Try.func25, Try.ntmps25
          go_upto_region 1 with fail
          rw [← HW1.out, ← HGT.out]
          go_wp2_with first
            | (go_at_call 52; with_reducible refine HCK.out.mono ?_; rintro e w2 ⟨rfl, HB2⟩; clear r0 r1 r2 r3; obtain ⟨-, r0, r1, r2, r3⟩ := HTB.out w2 HB2.out; have d0 := HCE.out w2 HB2.out 0 (by omega); rw [← HP0.out] at d0; simp at d0)
            | (go_at_call 56; with_reducible refine (HCF.out _ HB2.out).mono ?_; rintro e w3 ⟨rfl, hb3⟩; have HB3 := Lib.hid (HB2.out.trans (hb3.mono HB2.out.size)); clear hb3 r0 r1 r2 r3 d0)
          go_loopw [36] (fun u wr => ∃ i : Nat, i ≤ n ∧ u = .int .i64 (i : Int) ∧ Hid (∀ i', i' < i → ∀ k, i' < k → k ≤ n → EdgeP s (nd ps) i' k) ∧ Hid (Below w1.heap.size w1 wr)) (fun u _ => n - (intOf u).toNat)
          case atStart => exact ⟨0, Nat.zero_le _, rfl, Lib.hid (fun i' h => by omega), HB3⟩
          case round =>
            obtain ⟨i, hi, rfl, HI, HB⟩ := hrel
            by_cases hlt : i < n
            · have i0 : (0 : Int) ≤ (i : Int) := by omega
              have i1 : (i : Int) < (n : Int) := by omega
              have i2 : (i : Int) < (n : Int) + 1 := by omega
              have i3 : IntKind.i64.wrap ((i : Int) + 1) = (i : Int) + 1 := by rw [IntKind.wrap_i64]; omega
              obtain ⟨wo, rfl⟩ : ∃ W, W = wr := ⟨_, rfl⟩
              go_wp2_with fail
              go_loopw [9] (fun u wr => ∃ k : Nat, i < k ∧ k ≤ n + 1 ∧ u = .int .i64 (k : Int) ∧ Hid (∀ k', i < k' → k' < k → EdgeP s (nd ps) i k') ∧ Hid (Below w1.heap.size w1 wr)) (fun u _ => n + 1 - (intOf u).toNat)
              case atStart => exact ⟨i + 1, by omega, by omega, by go_num, Lib.hid (fun k' h h2 => by omega), HB⟩
              case round =>
                obtain ⟨k, hk1, hk2, rfl, HK, HB⟩ := hrel
                by_cases hlk : k ≤ n
                · skip
                  have k0 : (0 : Int) ≤ (k : Int) := by omega
                  have k1 : (k : Int) < (n : Int) + 1 := by omega
                  have k2 : (k : Int) ≤ (n : Int) := by omega
                  have H55 := Lib.hid (HCV.out wr HB.out i k hk1 hlk)
                  have hcb := covC_bd HS.out (fr := i) (tp := k) (by omega)
                  have hbi := HPX.out i
                  have hbk := HPX.out k
                  have HEN := Lib.hid (fun h => edge_no (s := s) (p := nd ps) (i := i) (k := k) h)
                  have HEY := Lib.hid (fun h => edge_yes (s := s) (p := nd ps) (i := i) (k := k) h)
                  obtain ⟨ok, hok⟩ : ∃ b, b = covB s i k := ⟨_, rfl⟩
                  obtain ⟨cc, hcc⟩ : ∃ b, b = covC s i k := ⟨_, rfl⟩
                  rw [← hok] at H55 HEN HEY
                  rw [← hcc] at H55 hcb HEY
                  obtain ⟨vi, hvi⟩ : ∃ b, b = nd ps i := ⟨_, rfl⟩
                  obtain ⟨vk, hvk⟩ : ∃ b, b = nd ps k := ⟨_, rfl⟩
                  have HVI := Lib.hid hvi
                  have HVK := Lib.hid hvk
                  rw [← hvi] at hbi HEY
                  rw [← hvk] at hbk HEY
                  have HKN := Lib.hid (show EdgeP s (nd ps) i k → ∀ k', i < k' → k' < k + 1 → EdgeP s (nd ps) i k' from fun h k' a b => by
                    by_cases e : k' = k
                    · subst e; exact h
                    · exact HK.out k' a (by omega))
                  have sw : IntKind.i64.wrap (vi + cc) = vi + cc := by rw [IntKind.wrap_i64]; omega
                  obtain ⟨tt, htt⟩ : ∃ b, b = decide (vi + cc < vk) := ⟨_, rfl⟩
                  have htt' := htt.symm
                  have HTT := Lib.hid htt
                  obtain ⟨-, r0, r1, r2, r3⟩ := HTB.out wr HB.out
                  clear hok hcc hvi hvk htt
                  go_upto_region 14 with (go_at_call 55; with_reducible refine H55.out.mono ?_; rintro e w5 ⟨rfl, hb5⟩; have HB5 := Lib.hid (HB.out.trans (hb5.out.mono HB.out.size)); clear hb5 r0 r1 r2 r3)
                  have d1 := HCE.out w5 HB5.out k (by omega)
                  have d2 := HCE.out w5 HB5.out i (by omega)
                  rw [← HVK.out] at d1
                  rw [← HVI.out] at d2
                  cases ok
                  · clear htt'
                    go_quiet (fail)
                    go_wp2_with fail
                    go_roundw
                    case rel => exact ⟨k + 1, by omega, by omega, by go_num, Lib.hid (HKN.out (HEN.out (by trivial))), Lib.hid (below_drewN HB5.out _)⟩
                    case measure => simp [intOf]; omega
                  · cases tt
                    · go_quiet (fail)
                      go_wp2_with fail
                      go_roundw
                      case rel => exact ⟨k + 1, by omega, by omega, by go_num, Lib.hid (HKN.out ((HEY.out (by trivial)).2 (by have := HTT.out; simp at this; omega))), Lib.hid (below_drewN HB5.out _)⟩
                      case measure => simp [intOf]; omega
                    · go_quiet (fail)
                      go_wp2_with fail
                      go_ret2
                      exact prvR_mk 0 7 rfl (Lib.hid (HOK.out _ _ (.inr ⟨⟨i, k, hk1, hlk, fun h => by have h2 := (HEY.out (by trivial)).1 h; have := HTT.out; simp at this; omega⟩, rfl, rfl⟩))) (Lib.hid (below_drewN (HB1.out.trans (HB5.out.mono HB1.out.size)) _))
                · skip
                  go_wp2_with fail
                  go_roundw
                  case rel => exact ⟨i + 1, by omega, by go_num, Lib.hid (fun i' h k' a b => by
                    by_cases e : i' = i
                    · subst e; exact HK.out k' a (by omega)
                    · exact HI.out i' (by omega) k' a b), HB⟩
                  case measure => simp [intOf]; omega
            · skip
              obtain rfl : i = n := by omega
              obtain ⟨v, hv⟩ : ∃ v, v = nd ps i := ⟨_, rfl⟩
              have d1 := HCE.out wr HB.out i (by omega)
              rw [← hv] at d1
              have HV := Lib.hid hv
              clear hv
              go_wp2_with fail
              go_ret2
              exact prvR_mk v 0 rfl (Lib.hid (HOK.out _ _ (.inl ⟨HI.out, HV.out, rfl⟩))) (Lib.hid (HB1.out.trans (HB.out.mono HB1.out.size)))
        · skip
          have HNB := Lib.hid (show badP s ps = true from HZ.out)
          go_enter Try.func25, Try.ntmps25
          go_upto_region 1 with fail
          rw [← HW1.out, ← HGT.out]
          go_wp2_with first
            | (go_at_call 52; with_reducible refine HCK.out.mono ?_; rintro e w2 ⟨rfl, HB2⟩; clear r0 r1 r2 r3; obtain ⟨-, r0, r1, r2, r3⟩ := HTB.out w2 HB2.out; have d0 := HCE.out w2 HB2.out 0 (by omega); rw [← HP0.out] at d0; simp at d0)
            | (go_at_call 56; with_reducible refine (HCF.out _ HB2.out).mono ?_; rintro e w3 ⟨rfl, hb3⟩; have HB3 := Lib.hid (HB2.out.trans (hb3.mono HB2.out.size)); clear hb3 r0 r1 r2 r3 d0)
          go_ret2
          exact prvR_mk 0 1 rfl (Lib.hid ((HPP.out _ _).2 (by rw [if_pos HNB.out]; exact ⟨rfl, rfl⟩))) (Lib.hid (HB1.out.trans (HB3.out.mono HB1.out.size)))
      · skip
        have HNB := Lib.hid (show badP s ps = true by rw [HZ.out]; rfl)
        go_enter Try.func25, Try.ntmps25
        go_upto_region 1 with fail
        rw [← HW1.out, ← HGT.out]
        go_wp2_with first
          | (go_at_call 52; with_reducible refine HCK.out.mono ?_; rintro e w2 ⟨rfl, HB2⟩; clear r0 r1 r2 r3; obtain ⟨-, r0, r1, r2, r3⟩ := HTB.out w2 HB2.out; have d0 := HCE.out w2 HB2.out 0 (by omega); rw [← HP0.out] at d0; simp at d0)
        go_ret2
        exact prvR_mk 0 1 rfl (Lib.hid ((HPP.out _ _).2 (by rw [if_pos HNB.out]; exact ⟨rfl, rfl⟩))) (Lib.hid (HB1.out.trans (HB2.out.mono HB1.out.size)))
    · skip
      have hne : ((m : Int) != (n : Int) + 1) = true := by simp; omega
      have HNB := Lib.hid (show badP s ps = true by rw [HBD.out]; simp [hmn])
      clear hmn
      go_enter Try.func25, Try.ntmps25
      go_upto_region 1 with fail
      rw [← HW1.out, ← HGT.out]
      go_wp2_with first
        | (go_at_call 52; with_reducible refine HCK.out.mono ?_; rintro e w2 ⟨rfl, HB2⟩; clear r0 r1 r2 r3; obtain ⟨-, r0, r1, r2, r3⟩ := HTB.out w2 HB2.out)
      go_ret2
      exact prvR_mk 0 1 rfl (Lib.hid ((HPP.out _ _).2 (by rw [if_pos HNB.out]; exact ⟨rfl, rfl⟩))) (Lib.hid (HB1.out.trans (HB2.out.mono HB1.out.size)))
  · skip
    have HPC := Lib.hid (show PrvP s ps 0 (errS s) by unfold PrvP; rw [if_pos he]; exact ⟨rfl, rfl⟩)
    obtain ⟨ck, hck⟩ : ∃ c, c = errS s := ⟨_, rfl⟩
    rw [← hck] at HCK he HPC
    have ht : (ck != 0) = true := by simpa using he
    unfold supV at *
    clear hT hT1 he hck hA
    go_enter Try.func25, Try.ntmps25
    go_upto_region 1 with fail
    rw [← HW1.out, ← HGT.out]
    go_wp2_with (go_at_call 52; with_reducible refine HCK.out.mono ?_; rintro e w2 ⟨rfl, HB2⟩)
    go_ret2
    exact prvR_mk 0 ck rfl HPC (Lib.hid (HB1.out.trans (HB2.out.mono HB1.out.size)))
end Go.Proofs.Ytnbnfadmbggfnaa
