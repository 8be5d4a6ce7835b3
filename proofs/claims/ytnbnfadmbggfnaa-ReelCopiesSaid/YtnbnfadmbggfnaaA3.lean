/- Contracts of covers and of the reference's cover; conditions: an allowed supply in memory. Printed by a program. -/
import Derived.Test.YtnbnfadmbggfnaaA2
set_option linter.unusedSimpArgs false
set_option linter.unusedVariables false
namespace Go.Rl
open Go.Fh Go.RowKit
def covB (s : SupD) (fr tp : Nat) : Bool := (cov s fr tp).isSome
def covC (s : SupD) (fr tp : Nat) : Int := (cov s fr tp).getD 0
theorem cov_yes {s : SupD} {fr tp : Nat} (h : roomJ s tp (tp - 1 - fr) = true) : covB s fr tp = true ∧ covC s fr tp = costJ s fr tp (tp - 1 - fr) := by
  unfold covB covC cov; rw [if_pos h]; exact ⟨rfl, rfl⟩
theorem cov_no {s : SupD} {fr tp : Nat} (h : roomJ s tp (tp - 1 - fr) = false) : covB s fr tp = false ∧ covC s fr tp = 0 := by
  unfold covB covC cov; rw [if_neg (by rw [h]; simp)]; exact ⟨rfl, rfl⟩
theorem cov_some {s : SupD} {fr tp : Nat} (h : covB s fr tp = true) : cov s fr tp = some (covC s fr tp) := by
  unfold covB at h
  unfold covC
  cases hc : cov s fr tp with
  | none => rw [hc] at h; cases h
  | some c => rfl
theorem cov_none {s : SupD} {fr tp : Nat} (h : covB s fr tp = false) : cov s fr tp = none := by
  unfold covB at h
  cases hc : cov s fr tp with
  | none => rfl
  | some c => rw [hc] at h; cases h
theorem covC_bd {s : SupD} (h : SupOk s) {fr tp : Nat} (ht : tp ≤ 20) : 0 ≤ covC s fr tp ∧ covC s fr tp ≤ 401000000 := by
  unfold covC
  cases hc : cov s fr tp with
  | none => simp
  | some c => exact cov_bd h ht hc
/-- sums forwards -/
def fsum (s : SupD) (a m : Nat) : Int := sumN (fun i => nd s.need (a + i)) m
theorem fsum_s (s : SupD) (a m : Nat) : fsum s a (m + 1) = fsum s a m + nd s.need (a + m) := rfl
theorem fsum_bd {s : SupD} (h : SupOk s) (a m : Nat) : 0 ≤ fsum s a m ∧ fsum s a m ≤ 1000 * m := sumN_bd fun i _ => h.nb _
theorem fsum_kept (s : SupD) {w tp : Nat} (h : w < tp) : fsum s (w + 1) (tp - 1 - w) = kept s tp (tp - 1 - w) := by
  obtain ⟨m, hm⟩ : ∃ m, m = tp - 1 - w := ⟨_, rfl⟩
  rw [← hm]
  cases m with
  | zero => rfl
  | succ m =>
    unfold fsum kept
    have := sumN_rev (fun i => nd s.need (tp - 1 - i)) m
    rw [← this]
    exact sumN_congr fun i hi => by rw [show w + 1 + i = tp - 1 - (m - i) by omega]
/-- the reference's sums of the first weeks -/
def rcost (s : SupD) (fr tp m : Nat) : Int := nd s.order fr + sumN (fun i => kept s tp (tp - 1 - fr - i) * s.keep) m
theorem rcost_s (s : SupD) (fr tp m : Nat) : rcost s fr tp (m + 1) = rcost s fr tp m + kept s tp (tp - 1 - fr - m) * s.keep := by unfold rcost; rw [sumN]; omega
theorem rcost_bd {s : SupD} (h : SupOk s) {fr tp m : Nat} (ht : tp ≤ 20) (hm : m ≤ 20) : 0 ≤ rcost s fr tp m ∧ rcost s fr tp m ≤ 401000000 := by
  unfold rcost
  have h1 := h.ob fr
  have h2 := sumN_bd (f := fun i => kept s tp (tp - 1 - fr - i) * s.keep) (n := m) (B := 20000000) (fun i hi => kk_bd h tp (by omega))
  omega
def rroom (s : SupD) (fr tp m : Nat) : Bool := (List.range m).all fun i => decide (kept s tp (tp - 1 - fr - i) ≤ s.room)
theorem rroom_s (s : SupD) (fr tp m : Nat) : rroom s fr tp (m + 1) = (rroom s fr tp m && decide (kept s tp (tp - 1 - fr - m) ≤ s.room)) := by
  unfold rroom; rw [List.range_succ, List.all_append]; simp
theorem cov_rref {s : SupD} (h : SupOk s) {fr tp : Nat} (hf : fr < tp) : cov s fr tp = if rroom s fr tp (tp - fr) then some (rcost s fr tp (tp - fr)) else none := cov_ref h hf
theorem rroom_no {s : SupD} {fr tp j m : Nat} (h : decide (kept s tp (tp - 1 - fr - j) ≤ s.room) = false) (hj : j < m) : rroom s fr tp m = false := by
  cases hb : rroom s fr tp m
  · rfl
  · have := List.all_eq_true.1 hb j (List.mem_range.2 hj)
    rw [h] at this; cases this
end Go.Rl
namespace Go.Proofs.Ytnbnfadmbggfnaa
open Go.RowKit Go.Fh Go.Rl
set_option maxRecDepth 20000 in
set_option maxHeartbeats 4000000 in
theorem covers_any (s : SupD) (x : SA) (w : World) (hs : SupOk s) (hT : SupAt w w.heap.size s x) (fr tp : Nat) (h1 : fr < tp) (h2 : tp ≤ s.need.length) :
    Calls Try.prog 55 #[.agg #[.slice x.a s.need.length x.ca, .slice x.b s.order.length x.cb, .int .i64 s.keep, .int .i64 s.room], .int .i64 (fr : Int), .int .i64 (tp : Int)] w fun e w' => e = .returned (.tuple #[.int .i64 (covC s fr tp), .bool (covB s fr tp)]) ∧ Hid (Below w.heap.size w w') := by
  obtain ⟨w1, gT, HW1, HGT, HB1, HTB⟩ := sup_box 60 s x w hT
  obtain ⟨hT1, r0, r1, r2, r3⟩ := HTB.out w1 (Below.refl _ _)
  have hol := hs.ol
  have hn20 := hs.n1
  have hfo : fr < s.order.length := by omega
  obtain ⟨qb, qo, hqa, hqb, c1⟩ := hT1.cO.at1 hfo
  obtain ⟨pb, po, hpa, hpb, -⟩ := hT1.cN.at1 (k := fr) (by omega)
  have hno : s.order[fr] = nd s.order fr := (nd_get hfo).symm
  rw [hno] at c1
  rw [hpa] at r0
  rw [hqa] at r1
  have hN1 := hT1.cN
  rw [hpa] at hN1
  have HNC := Lib.hid (show ∀ v, v < s.need.length → w1.cell? ⟨pb, po + v, none⟩ = some (.int .i64 (nd s.need v)) from fun v hv => by rw [nd_get hv]; exact Sl.at1' hN1 hv)
  have HS := Lib.hid hs
  have HPA := Lib.hid hpa
  have HQA := Lib.hid hqa
  have i0 : (0 : Int) ≤ (fr : Int) := by omega
  have i1 : (fr : Int) < (s.order.length : Int) := by omega
  have hob := hs.ob fr
  obtain ⟨of, hof⟩ : ∃ v, v = nd s.order fr := ⟨_, rfl⟩
  rw [← hof] at c1 hob
  have HOF := Lib.hid hof
  obtain ⟨n, hn⟩ : ∃ n, n = s.need.length := ⟨_, rfl⟩
  rw [← hn] at h2 hn20
  obtain ⟨m, hm⟩ : ∃ n, n = s.order.length := ⟨_, rfl⟩
  have HMN := Lib.hid (show m = n by omega)
  unfold supV at *
  rw [hpa, hqa] at HW1 ⊢
  rw [← hn, ← hm] at HW1 ⊢
  rw [← hn] at r0 HNC
  rw [← hm] at r1 i1
  clear hT hT1 hs hol hfo hno hpa hqa hN1 hof hn hm
  obtain ⟨cB, hcB⟩ : ∃ b, b = covB s fr tp := ⟨_, rfl⟩
  obtain ⟨cC, hcC⟩ : ∃ b, b = covC s fr tp := ⟨_, rfl⟩
  rw [← hcB, ← hcC]
  have HcB := Lib.hid hcB
  have HcC := Lib.hid hcC
  clear hcB hcC
  go_enter Try.func55, Try.ntmps55
  go_upto_region 1 with fail
  rw [← HW1.out, ← HGT.out]
  go_wp2_with fail
  go_loopw [8, 9, 10] (fun c k v wr => ∃ (i j : Nat), i + j + 1 = tp ∧ fr ≤ i ∧ v = .int .i64 (i : Int) ∧ k = .int .i64 (kept s tp j) ∧ c = .int .i64 (costJ s fr tp j) ∧ Hid (roomJ s tp j = true) ∧ w1 = wr) (fun _ _ v _ => (intOf v).toNat)
  case atStart => exact ⟨tp - 1, 0, by omega, by omega, by congr 1; omega, rfl, by rw [HOF.out]; simp [costJ, sumN], Lib.hid rfl, rfl⟩
  case round =>
    obtain ⟨i, j, hij, hfi, rfl, rfl, rfl, HR, rfl⟩ := hrel
    have hkb := kept_bd HS.out tp j
    have hcb := costJ_bd HS.out fr tp (j := j) (by omega)
    by_cases hlt : fr < i
    · have hks := kept_s s tp j
      rw [show tp - 1 - j = i by omega] at hks
      have hnb := HS.out.nb i
      have c0 := HNC.out i (by omega)
      have hkk := kk_bd HS.out tp (j := j + 1) (by omega)
      have hk1 := kept_bd HS.out tp (j + 1)
      have hcs := costJ_s s fr tp j
      have hrs := roomJ_s s tp j
      rw [HR.out] at hrs
      obtain ⟨kv, hkv⟩ : ∃ v, v = kept s tp j := ⟨_, rfl⟩
      obtain ⟨k2, hk2⟩ : ∃ v, v = kept s tp (j + 1) := ⟨_, rfl⟩
      obtain ⟨cv, hcv⟩ : ∃ v, v = costJ s fr tp j := ⟨_, rfl⟩
      obtain ⟨nv, hnv⟩ : ∃ v, v = nd s.need i := ⟨_, rfl⟩
      rw [← hkv] at hkb hks ⊢
      rw [← hk2] at hks hkk hk1 hcs hrs
      rw [← hcv] at hcb hcs ⊢
      rw [← hnv] at hks hnb c0
      have hsum : kv + nv = k2 := by omega
      have hsw : IntKind.i64.wrap (kv + nv) = k2 := by rw [hsum, IntKind.wrap_i64]; omega
      have hkw : IntKind.i64.wrap k2 = k2 := by rw [IntKind.wrap_i64]; omega
      obtain ⟨pr, hpr⟩ : ∃ v, v = k2 * s.keep := ⟨_, rfl⟩
      have hpw : IntKind.i64.wrap (k2 * s.keep) = k2 * s.keep := by rw [IntKind.wrap_i64]; omega
      have hcw : IntKind.i64.wrap (cv + k2 * s.keep) = cv + k2 * s.keep := by rw [IntKind.wrap_i64]; omega
      have j0 : (0 : Int) ≤ (i : Int) := by omega
      have j1 : (i : Int) < (n : Int) := by omega
      have j2 : decide ((fr : Int) < (i : Int)) = true := by simp; omega
      have HCS := Lib.hid hcs
      have HK2 := Lib.hid hk2
      have HRS := Lib.hid hrs
      clear hks hnv hkv hcv hk2 hcs hrs hpr
      by_cases hro : k2 ≤ s.room
      · have t1 : decide (s.room < k2) = false := by simp; omega
        have HRO := Lib.hid (show roomJ s tp (j + 1) = true by rw [HRS.out]; simp [hro])
        clear hro
        go_wp2_with fail
        go_roundw
        case rel => exact ⟨i - 1, j + 1, by omega, by omega, by first | rfl | (congr 1; omega), by rw [HK2.out], by rw [HCS.out], HRO, trivial⟩
        case measure => simp [intOf]; omega
      · have t1 : decide (s.room < k2) = true := by simp; omega
        have hno := roomJ_no (s := s) (tp := tp) (j := j) (k := tp - 1 - fr) (by rw [← HK2.out]; exact hro) (by omega)
        obtain ⟨e1, e2⟩ := cov_no hno
        have HE := Lib.hid (And.intro e1 e2)
        clear hro hno e1 e2
        go_wp2_with fail
        go_ret2
        exact ⟨by rw [HcB.out, HcC.out, HE.out.1, HE.out.2]; rfl, HB1⟩
    · obtain rfl : i = fr := by omega
      obtain rfl : j = tp - 1 - i := by omega
      obtain ⟨e1, e2⟩ := cov_yes HR.out
      have HE := Lib.hid (And.intro e1 e2)
      clear e1 e2
      go_wp2_with fail
      go_ret2
      exact ⟨by rw [HcB.out, HcC.out, HE.out.1, HE.out.2]; rfl, HB1⟩
set_option maxRecDepth 20000 in
set_option maxHeartbeats 4000000 in
theorem rcover_any (s : SupD) (x : SA) (w : World) (hs : SupOk s) (hT : SupAt w w.heap.size s x) (fr tp : Nat) (h1 : fr < tp) (h2 : tp ≤ s.need.length) :
    Calls Try.prog 102 #[.agg #[.slice x.a s.need.length x.ca, .slice x.b s.order.length x.cb, .int .i64 s.keep, .int .i64 s.room], .int .i64 (fr : Int), .int .i64 (tp : Int)] w fun e w' => e = .returned (.tuple #[.int .i64 (covC s fr tp), .bool (covB s fr tp)]) ∧ Hid (Below w.heap.size w w') := by
  obtain ⟨w1, gT, HW1, HGT, HB1, HTB⟩ := sup_box 121 s x w hT
  obtain ⟨hT1, r0, r1, r2, r3⟩ := HTB.out w1 (Below.refl _ _)
  have hol := hs.ol
  have hn20 := hs.n1
  have hfo : fr < s.order.length := by omega
  obtain ⟨qb, qo, hqa, hqb, c1⟩ := hT1.cO.at1 hfo
  obtain ⟨pb, po, hpa, hpb, -⟩ := hT1.cN.at1 (k := fr) (by omega)
  have hno : s.order[fr] = nd s.order fr := (nd_get hfo).symm
  rw [hno] at c1
  rw [hpa] at r0
  rw [hqa] at r1
  have hN1 := hT1.cN
  rw [hpa] at hN1
  have HNC := Lib.hid (show ∀ v, v < s.need.length → w1.cell? ⟨pb, po + v, none⟩ = some (.int .i64 (nd s.need v)) from fun v hv => by rw [nd_get hv]; exact Sl.at1' hN1 hv)
  have HS := Lib.hid hs
  have HCR := Lib.hid (cov_rref hs h1)
  have i0 : (0 : Int) ≤ (fr : Int) := by omega
  have i1 : (fr : Int) < (s.order.length : Int) := by omega
  have hob := hs.ob fr
  obtain ⟨of, hof⟩ : ∃ v, v = nd s.order fr := ⟨_, rfl⟩
  rw [← hof] at c1 hob
  have HOF := Lib.hid hof
  obtain ⟨n, hn⟩ : ∃ n, n = s.need.length := ⟨_, rfl⟩
  rw [← hn] at h2 hn20
  obtain ⟨m, hm⟩ : ∃ n, n = s.order.length := ⟨_, rfl⟩
  unfold supV at *
  rw [hpa, hqa] at HW1 ⊢
  rw [← hn, ← hm] at HW1 ⊢
  rw [← hn] at r0 HNC
  rw [← hm] at r1 i1
  clear hT hT1 hs hol hfo hno hpa hqa hN1 hof hn hm
  obtain ⟨cB, hcB⟩ : ∃ b, b = covB s fr tp := ⟨_, rfl⟩
  obtain ⟨cC, hcC⟩ : ∃ b, b = covC s fr tp := ⟨_, rfl⟩
  rw [← hcB, ← hcC]
  have HcB := Lib.hid hcB
  have HcC := Lib.hid hcC
  clear hcB hcC
  go_enter Try.func102, Try.ntmps102
  go_upto_region 1 with fail
  rw [← HW1.out, ← HGT.out]
  go_wp2_with fail
  go_loopw [8, 9] (fun c v wr => ∃ (i j : Nat), i = fr + j ∧ i ≤ tp ∧ v = .int .i64 (i : Int) ∧ c = .int .i64 (rcost s fr tp j) ∧ Hid (rroom s fr tp j = true) ∧ w1 = wr) (fun _ v _ => tp - (intOf v).toNat)
  case atStart => exact ⟨fr, 0, by omega, by omega, rfl, by rw [HOF.out]; simp [rcost, sumN], Lib.hid rfl, rfl⟩
  case round =>
    obtain ⟨i, j, hij, hit, rfl, rfl, HR, rfl⟩ := hrel
    have hcb := rcost_bd HS.out (fr := fr) (tp := tp) (m := j) (by omega) (by omega)
    by_cases hlt : i < tp
    · have j0 : (0 : Int) ≤ (i : Int) := by omega
      have hcs := rcost_s s fr tp j
      have hrs := rroom_s s fr tp j
      rw [HR.out] at hrs
      have hkd : tp - 1 - fr - j = tp - 1 - i := by omega
      rw [hkd] at hcs hrs
      have hkk := kk_bd HS.out tp (j := tp - 1 - i) (by omega)
      have hk1 := kept_bd HS.out tp (tp - 1 - i)
      have hfk := fsum_kept s hlt
      obtain ⟨cv, hcv⟩ : ∃ v, v = rcost s fr tp j := ⟨_, rfl⟩
      obtain ⟨k2, hk2⟩ : ∃ v, v = kept s tp (tp - 1 - i) := ⟨_, rfl⟩
      rw [← hcv] at hcb hcs ⊢
      rw [← hk2] at hcs hrs hkk hk1 hfk
      have HCS := Lib.hid hcs
      have HRS := Lib.hid hrs
      have HFK := Lib.hid hfk
      have HK2 := Lib.hid hk2
      have HIJ := Lib.hid hij
      clear hcv hk2 hcs hrs hfk hij hkd
      go_wp2_with fail
      go_loopw [10, 11] (fun u v wr2 => ∃ (a q : Nat), a = i + 1 + q ∧ a ≤ tp ∧ v = .int .i64 (a : Int) ∧ u = .int .i64 (fsum s (i + 1) q) ∧ w1 = wr2) (fun _ v _ => tp - (intOf v).toNat)
      case atStart => exact ⟨i + 1, 0, by omega, by omega, by go_num, by simp [fsum, sumN], rfl⟩
      case round =>
        obtain ⟨a, q, haq, hat, rfl, rfl, rfl⟩ := hrel
        have hfb := fsum_bd HS.out (i + 1) q
        by_cases hla : a < tp
        · have hfs := fsum_s s (i + 1) q
          rw [show i + 1 + q = a by omega] at hfs
          have hnb := HS.out.nb a
          have c0 := HNC.out a (by omega)
          obtain ⟨fv, hfv⟩ : ∃ v, v = fsum s (i + 1) q := ⟨_, rfl⟩
          obtain ⟨nv, hnv⟩ : ∃ v, v = nd s.need a := ⟨_, rfl⟩
          rw [← hfv] at hfb hfs ⊢
          rw [← hnv] at hfs hnb c0
          have hsw : IntKind.i64.wrap (fv + nv) = fv + nv := by rw [IntKind.wrap_i64]; omega
          have a0 : (0 : Int) ≤ (a : Int) := by omega
          have a1 : (a : Int) < (n : Int) := by omega
          have HFS := Lib.hid hfs
          have HAQ := Lib.hid haq
          clear hfv hnv hfs haq
          go_wp2_with fail
          go_roundw
          case rel => exact ⟨a + 1, q + 1, by have := HAQ.out; omega, by omega, by go_num, by rw [HFS.out], trivial⟩
          case measure => simp [intOf]; omega
        · obtain rfl : a = tp := by omega
          have hq : q = a - 1 - i := by omega
          rw [hq, HFK.out]
          clear hq haq hfb hla hat
          have hpw : IntKind.i64.wrap (k2 * s.keep) = k2 * s.keep := by rw [IntKind.wrap_i64]; omega
          have hcw : IntKind.i64.wrap (cv + k2 * s.keep) = cv + k2 * s.keep := by rw [IntKind.wrap_i64]; omega
          by_cases hro : k2 ≤ s.room
          · have t1 : decide (s.room < k2) = false := by simp; omega
            have HRO := Lib.hid (show rroom s fr a (j + 1) = true by rw [HRS.out]; simp [hro])
            clear hro
            go_wp2_with fail
            go_roundw
            case rel => exact ⟨i + 1, j + 1, by have := HIJ.out; omega, by omega, by go_num, by rw [HCS.out], HRO, trivial⟩
            case measure => simp [intOf]; omega
          · have t1 : decide (s.room < k2) = true := by simp; omega
            have hno := rroom_no (s := s) (fr := fr) (tp := a) (j := j) (m := a - fr) (by have := HIJ.out; rw [show a - 1 - fr - j = a - 1 - i by omega, ← HK2.out]; simpa using hro) (by have := HIJ.out; omega)
            have hcn := HCR.out
            rw [if_neg (by rw [hno]; simp)] at hcn
            have e1 : covB s fr a = false := by unfold covB; rw [hcn]; rfl
            have e2 : covC s fr a = 0 := by unfold covC; rw [hcn]; rfl
            have HE := Lib.hid (And.intro e1 e2)
            clear hro hno hcn e1 e2
            go_wp2_with fail
            go_ret2
            exact ⟨by rw [HcB.out, HcC.out, HE.out.1, HE.out.2]; rfl, HB1⟩
    · obtain rfl : i = tp := by omega
      obtain rfl : j = i - fr := by omega
      have hcn := HCR.out
      rw [if_pos HR.out] at hcn
      have e1 : covB s fr i = true := by unfold covB; rw [hcn]; rfl
      have e2 : covC s fr i = rcost s fr i (i - fr) := by unfold covC; rw [hcn]; rfl
      have HE := Lib.hid (And.intro e1 e2)
      clear hcn e1 e2 hij hcb hlt hit
      go_wp2_with fail
      go_ret2
      exact ⟨by rw [HcB.out, HcC.out, HE.out.1, HE.out.2]; rfl, HB1⟩
end Go.Proofs.Ytnbnfadmbggfnaa
