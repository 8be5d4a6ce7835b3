/- Contract of the reference's Proves; conditions: a title and a table in memory. Printed by a program. -/
import Derived.Test.YtokdleanpkkdpaaM7
import Derived.Test.YtokdleanpkkdpaaT6
set_option linter.unusedSimpArgs false
set_option linter.unusedVariables false
namespace Go.Ed
open Go.Fh Go.RowKit Go.Proofs.Ytokdleanpkkdpaa
def tabOk (t : TitD) (T : List Int) : Bool := decide (T.length = (edsR t).length * 2 ^ (edsR t).length) && T.all fun v => inB v (-1) 86400
/-- what Proves says of a table -/
def PrvP (t : TitD) (T : List Int) (b : Bool) (e : Int) : Prop :=
  if checkT t ≠ 0 then b = false ∧ e = checkT t else if tabOk t T = false then b = false ∧ e = 1 else e = 0 ∧ (b = true ↔ ProvOk t (edsR t) (tabI (edsR t).length T))
theorem prvP_uniq {t : TitD} {T : List Int} {b b' : Bool} {e e' : Int} (h : PrvP t T b e) (h' : PrvP t T b' e') : b = b' ∧ e = e' := by
  unfold PrvP at h h'
  split at h
  · rename_i hc
    rw [if_pos hc] at h'
    exact ⟨h.1.trans h'.1.symm, h.2.trans h'.2.symm⟩
  · rename_i hc
    rw [if_neg hc] at h'
    split at h
    · rename_i ht
      rw [if_pos ht] at h'
      exact ⟨h.1.trans h'.1.symm, h.2.trans h'.2.symm⟩
    · rename_i ht
      rw [if_neg ht] at h'
      refine ⟨?_, h.1.trans h'.1.symm⟩
      have := h.2.trans h'.2.symm
      exact Bool.eq_iff_iff.2 this
def PrvR (t : TitD) (T : List Int) (w : Go.World) (e : Go.Ending) (w' : Go.World) : Prop := ∃ (b : Bool) (er : Int), e = .returned (.tuple #[.bool b, .int .i64 er]) ∧ Hid (PrvP t T b er) ∧ Hid (Below w.heap.size w w')
theorem prvR_mk {t : TitD} {T : List Int} {w w' : Go.World} {e : Go.Ending} (b : Bool) (er : Int) (he : e = .returned (.tuple #[.bool b, .int .i64 er])) (h : Hid (PrvP t T b er)) (hb : Hid (Below w.heap.size w w')) : PrvR t T w e w' := ⟨b, er, he, h, hb⟩
/-- one way in which an edition can be the last one of a set -/
def WayOk (t : TitD) (es : List EdD) (T : Nat → Nat → Int) (S last : Nat) : Nat → Prop
  | 0 => S = 2 ^ last → hasB es (T S last) (firstS t es last) = true
  | b + 1 => b ≠ last → bitB S b = true → 0 ≤ T (S - 2 ^ last) b → hasB es (T S last) (nextS t es last b (T (S - 2 ^ last) b)) = true
def RowR (t : TitD) (es : List EdD) (T : Nat → Nat → Int) (n S last : Nat) : Prop := bitB S last = true → (S + 1 = 2 ^ n → T S last < 0) ∧ ∀ j, j ≤ n → WayOk t es T S last j
theorem prov_ref {t : TitD} {es : List EdD} {T : Nat → Nat → Int} {n : Nat} (hn : es.length = n) (h1 : 1 ≤ n) (h7 : n ≤ 7) : ProvOk t es T ↔ ∀ S, 1 ≤ S → S < 2 ^ n → ∀ last, last < n → RowR t es T n S last := by
  have hp : 2 ≤ 2 ^ n := Nat.pow_le_pow_right (n := 2) (by omega) h1
  have h128 := pow_le128 h7
  subst hn
  constructor
  · intro h S hS1 hS2 last hl hb
    refine ⟨fun hS => ?_, fun j hj => ?_⟩
    · have := h.full last hl
      rw [show 2 ^ es.length - 1 = S by omega] at this
      exact this
    · cases j with
      | zero => intro e; rw [e]; exact h.first last hl
      | succ b =>
        intro hbl hbb hx
        obtain ⟨q1, q2, q3⟩ := bit_sub S (by omega) last (by omega) hb
        have hb2 := q3 b (by omega) hbl
        rw [hbb] at hb2
        have hge := bit_le hb2
        have h2b : 0 < 2 ^ b := Nat.two_pow_pos b
        have h2l : 0 < 2 ^ last := Nat.two_pow_pos last
        have := h.next (S - 2 ^ last) (by omega) (by omega) b (by omega) hb2 hx last hl q2
        rw [show S - 2 ^ last + 2 ^ last = S by omega] at this
        exact this
  · intro h
    refine ⟨fun e he => ?_, fun e he => ?_, fun S hS1 hS2 last hl hbl hx e he hbe => ?_⟩
    · exact (h (2 ^ es.length - 1) (by omega) (by omega) e he (bit_all es.length (by omega) e he)).1 (by omega)
    · have h2 : 2 ^ e < 2 ^ es.length := Nat.pow_lt_pow_right (by omega) he
      have hb : bitB (2 ^ e) e = true := by rw [bit_pow e (by omega) e (by omega)]; simp
      exact (h (2 ^ e) (Nat.two_pow_pos e) h2 e he hb).2 0 (by omega) rfl
    · have hr := bit_room es.length (by omega) S (by omega) e (by omega) (by omega) he hbe
      obtain ⟨q1, q2⟩ := bit_facts S (by omega) e (by omega) hbe
      have hne : last ≠ e := by intro e'; subst e'; rw [hbl] at hbe; cases hbe
      have h2e : 0 < 2 ^ e := Nat.two_pow_pos e
      have := (h (S + 2 ^ e) (by omega) hr e he q1).2 (last + 1) (by omega) hne (by rw [q2 last (by omega) hne]; exact hbl)
      rw [show S + 2 ^ e - 2 ^ e = S by omega] at this
      exact this hx
theorem hasB_b {es : List EdD} {x : Int} {s : SloD} {l1 l2 l3 : Bool} {du : Int} {e : Nat} (he : s.edition = (e : Int)) (hd : (es.getD e ed0).due = du) (h1 : decide (s.fin ≤ du) = l1) (h2 : decide (x < 0) = l2) (h3 : decide (s.fin < x) = l3) : hasB es x s = !(l1 && (l2 || l3)) := by
  unfold hasB
  have e1 : decide (s.fin ≤ du) = !decide (du < s.fin) := by by_cases a : du < s.fin <;> simp [a] <;> omega
  have e2 : decide (0 ≤ x) = !decide (x < 0) := by by_cases a : x < 0 <;> simp [a] <;> omega
  have e3 : decide (x ≤ s.fin) = !decide (s.fin < x) := by by_cases a : s.fin < x <;> simp [a] <;> omega
  rw [late_due es s he, hd, ← h1, ← h2, ← h3, e1, e2, e3]
  cases decide (du < s.fin) <;> cases decide (x < 0) <;> cases decide (s.fin < x) <;> rfl
def bI : Nat → Int
  | 0 => -1
  | b + 1 => (b : Int)
theorem bI_0 : bI 0 = -1 := rfl
theorem bI_s (b : Nat) : bI (b + 1) = (b : Int) := rfl
end Go.Ed
namespace Go.Proofs.Ytokdleanpkkdpaa
open Go.RowKit Go.Fh Go.Ed
set_option maxRecDepth 20000 in
set_option maxHeartbeats 8000000 in
theorem prov76_any (t : TitD) (x : TA) (zs : List ZonM) (w : World) (hs : Sizes t) (hT : TitAt w w.heap.size t x zs) (A : Option Addr) (c k : Nat) (T : List Int) (hk : T.length = k) (hk9 : k ≤ 1000000) (hA : Sl encInt 1 w w.heap.size A T) :
    Calls Try.prog 76 #[.agg #[.slice x.a t.colours.length x.ca, .slice x.b t.pairs.length x.cb, .slice x.z t.zones.length x.cz, .slice x.r t.ready.length x.cr, .int .i64 t.start, .int .i64 t.rate, .int .i64 t.stop, .int .i64 t.hang], .slice A k c] w fun e w' => PrvR t T w e w' := by
  obtain ⟨w1, gT, HW1, HGT, HB1, HTB⟩ := tit_box t x zs w hT
  obtain ⟨hT1, r0, r1, r2, r3, r4, r5, r6, r7⟩ := HTB.out w1 (Below.refl _ _)
  by_cases hc : checkT t = 0
  · have hck := chk_ok hc
    obtain ⟨n, hn⟩ : ∃ n, n = (edsR t).length := ⟨_, rfl⟩
    have hn7 : n ≤ 7 := by rw [hn, edsR_len]; exact hck.n1
    have hn1 : 1 ≤ n := by rw [hn, edsR_len]; exact hck.n0
    obtain ⟨P, hP⟩ : ∃ P, P = 2 ^ n := ⟨_, rfl⟩
    have hP3 : P ≤ 128 := by rw [hP]; exact pow_le128 hn7
    have hP2 : 2 ≤ P := by rw [hP]; exact Nat.pow_le_pow_right (n := 2) (by omega) hn1
    have sh2 : IntKind.i64.wrap ((2 : Int) ^ n) = (P : Int) := shl_one hn7 hP
    obtain ⟨m, hm⟩ : ∃ m, m = n * 2 ^ n := ⟨_, rfl⟩
    have hm1 : 1 ≤ m := by rw [hm]; exact Nat.mul_pos hn1 (Nat.two_pow_pos n)
    have hm2 : m ≤ 1000 := by rw [hm, ← hP]; exact Nat.le_trans (Nat.mul_le_mul hn7 hP3) (by omega)
    have sh1 : IntKind.i64.wrap ((n : Int) * 2 ^ n) = (m : Int) := by
      have : (n : Int) * 2 ^ n = (m : Int) := by rw [hm]; push_cast; rfl
      rw [this, IntKind.wrap_i64]; omega
    have HRE := Lib.hid (rEds_ok t x zs w1 hs hT1 hc)
    have HTOK := Lib.hid (show tabOk t T = (decide (k = m) && T.all fun v => inB v (-1) 86400) by unfold tabOk; rw [hk, ← hn, ← hm])
    have HPRV := Lib.hid (show ∀ b e, PrvP t T b e ↔ if tabOk t T = false then b = false ∧ e = 1 else e = 0 ∧ (b = true ↔ ProvOk t (edsR t) (tabI n T)) from fun b e => by unfold PrvP; rw [if_neg (by simpa using hc), ← hn])
    have HN := Lib.hid hn
    have HP := Lib.hid hP
    have HK := Lib.hid hk
    have HS := Lib.hid hs
    have HC := Lib.hid hck
    have HA1 := Lib.hid (fun W (hb : Below w1.heap.size w1 W) => (hA.below (HB1.out.trans (hb.mono HB1.out.size))).mono ((HB1.out.trans (hb.mono HB1.out.size)).size))
    unfold titV at *
    clear hT hT1 hs hc hA hk hn hP hck
    by_cases hkm : k = m
    · subst hkm
      have HMM := Lib.hid hm
      obtain ⟨tb, tf, hat, htb, -⟩ := (HA1.out w1 (Below.refl _ _)).at1 (k := 0) (by rw [HK.out]; omega)
      subst hat
      have EL := Lib.hid (show ∀ W, Below w1.heap.size w1 W → ∀ S e : Nat, S < 2 ^ n → e < n → W.cell? ⟨tb, tf + (S * n + e), none⟩ = some (.int .i64 (tabI n T S e)) from fun W hb S e hS he => by
        have h1 := tabI_get (T := T) (by rw [HK.out, HMM.out]) hS he
        rw [Sl.at1' (HA1.out W hb) h1.1]
        unfold tabI
        exact congrArg (fun v => some (Value.int .i64 v)) h1.2.symm)
      clear hm
      go_enter Try.func76, Try.ntmps76
      go_upto_region 1 with fail
      rw [← HW1.out, ← HGT.out]
      go_upto_region 4 with (go_at_call 43; refine HRE.out.mono ?_; rintro e w2 ⟨A2, c2, es, rfl, hr2, hb2⟩; have hln := hr2.len; rw [← HN.out] at hln; have HR2 := Lib.hid hr2; have HB2 := Lib.hid hb2; clear hr2 hb2; rw [hln]; have HLN := Lib.hid hln; clear hln r0 r1 r2 r3 r4 r5 r6 r7)
      go_wp2_with fail
      go_loopw [9] (fun i wr => ∃ j : Nat, j ≤ k ∧ i = .int .i64 j ∧ Hid (∀ a (h : a < T.length), a < j → inB T[a] (-1) 86400 = true) ∧ w2 = wr) (fun i _ => k - (intOf i).toNat)
      case atStart => exact ⟨0, Nat.zero_le _, rfl, Lib.hid (fun a h h0 => absurd h0 (by omega)), rfl⟩
      case round =>
        obtain ⟨j, hj, rfl, HJ, rfl⟩ := hrel
        by_cases hjk : j < k
        · skip
          have hjl : j < T.length := by rw [HK.out]; exact hjk
          have c0 := Sl.at1' (HA1.out w2 HB2.out) hjl
          obtain ⟨v, hv⟩ : ∃ v, v = T[j] := ⟨_, rfl⟩
          rw [← hv] at c0
          obtain ⟨bb, hbb⟩ : ∃ b, b = inB v (-1) 86400 := ⟨_, rfl⟩
          have HIN := Lib.hid (show Calls Try.prog 94 #[.int .i64 v, .int .i64 (-1), .int .i64 86400] w2 fun e w' => e = .returned (.bool bb) ∧ w2 = w' by rw [hbb]; exact rin_any _ _ _ _)
          have HV := Lib.hid (hbb.trans (by rw [hv]) : bb = inB T[j] (-1) 86400)
          have i0 : (0 : Int) ≤ (j : Int) := by omega
          have i1 : (j : Int) < (k : Int) := by omega
          clear hv hbb
          cases bb
          · go_wp2_with (go_at_call 94; refine HIN.out.mono ?_; rintro e w3 ⟨rfl, rfl⟩)
            go_ret2
            refine prvR_mk false 1 rfl (Lib.hid ?_) (Lib.hid (HB1.out.trans (HB2.out.mono HB1.out.size)))
            have ht : tabOk t T = false := by
              rw [HTOK.out]
              have : (T.all fun v => inB v (-1) 86400) = false := by
                rw [List.all_eq_false]
                exact ⟨T[j], List.getElem_mem hjl, by rw [← HV.out]; simp⟩
              rw [this]; simp
            exact (HPRV.out _ _).2 (by rw [if_pos ht]; exact ⟨rfl, rfl⟩)
          · go_wp2_with (go_at_call 94; refine HIN.out.mono ?_; rintro e w3 ⟨rfl, rfl⟩)
            go_roundw
            case rel => exact ⟨j + 1, by omega, by go_num, Lib.hid (fun a h h0 => by
              by_cases e : a = j
              · subst e; exact HV.out.symm
              · exact HJ.out a h (by omega)), trivial⟩
            case measure => simp [intOf]; omega
        · skip
          obtain rfl : j = k := by omega
          have HTK := Lib.hid (show tabOk t T = true by
            rw [HTOK.out]
            simp only [decide_true, Bool.true_and]
            rw [List.all_eq_true]
            intro v hv
            obtain ⟨a, ha, rfl⟩ := List.getElem_of_mem hv
            exact HJ.out a ha (by rw [HK.out] at ha; exact ha))
          have TBD := Lib.hid (show ∀ S e : Nat, S < 2 ^ n → e < n → -1 ≤ tabI n T S e ∧ tabI n T S e ≤ 86400 from fun S e hS he => by
            have h1 := tabI_get (T := T) (by rw [HK.out, HMM.out]) hS he
            unfold tabI
            rw [h1.2]
            exact inB_iff.1 (HJ.out _ h1.1 (by rw [← HK.out]; exact h1.1)))
          have HPV := Lib.hid (show ∀ b : Bool, (b = true ↔ ∀ S, 1 ≤ S → S < 2 ^ n → ∀ last, last < n → RowR t (edsR t) (tabI n T) n S last) → PrvP t T b 0 from fun b h => (HPRV.out _ _).2 (by rw [if_neg (by rw [HTK.out]; simp)]; exact ⟨rfl, h.trans (prov_ref HN.out.symm hn1 hn7).symm⟩))
          have HRB := Lib.hid (fun W (hb : Below w2.heap.size w2 W) => HR2.out.below hb)
          have HFO := Lib.hid (fun W (hb : Below w2.heap.size w2 W) (last : Nat) (hl : last < n) (ob : Option Nat) (fin : Int) (hob : ∀ b, ob = some b → b < n) (h0 : 0 ≤ fin) (h1 : fin ≤ 86400) => show Calls Try.prog 118 #[.agg #[.slice x.a t.colours.length x.ca, .slice x.b t.pairs.length x.cb, .slice x.z t.zones.length x.cz, .slice x.r t.ready.length x.cr, .int .i64 t.start, .int .i64 t.rate, .int .i64 t.stop, .int .i64 t.hang], .slice A2 n c2, .int .i64 (last : Int), .int .i64 (ob.elim (-1) fun b => (b : Int)), .int .i64 fin] W fun r w' => r = .returned (slV (folS t (edsR t) last ob fin)) ∧ Below W.heap.size W w' from by
            have hen := HLN.out
            have hel : last < es.length := by rw [hen]; exact hl
            have heds := HR2.out.eds
            have h := follow_any t HC.out.ok x A2 c2 es last ob fin W (by omega) hel (edsR_ok HC.out (by rw [← heds]; exact List.mem_map.2 ⟨_, List.getElem_mem hel, rfl⟩))
              (fun i h => (edsR_zn HC.out (show es[i].1 ∈ edsR t by rw [← heds]; exact List.mem_map.2 ⟨_, List.getElem_mem h, rfl⟩)).2.1) (by rw [hen]; exact hob) h0 (by omega) HS.out.s2 (HTB.out W (HB2.out.trans (hb.mono HB2.out.size))).1.cA (HTB.out W (HB2.out.trans (hb.mono HB2.out.size))).1.cB (HRB.out W hb).hE (HRB.out W hb).hV
            rw [heds, hen] at h
            exact h)
          have HPN := Lib.hid (Below.refl w2.heap.size w2)
          clear hjk hj
          go_wp2_with fail
          go_loopw [10] (fun u wr => ∃ S : Nat, 1 ≤ S ∧ S ≤ P ∧ u = .int .i64 S ∧ Hid (∀ S', 1 ≤ S' → S' < S → ∀ last, last < n → RowR t (edsR t) (tabI n T) n S' last) ∧ Hid (Below w2.heap.size w2 wr)) (fun u _ => P - (intOf u).toNat)
          case atStart => exact ⟨1, Nat.le_refl _, by omega, rfl, Lib.hid (fun S' h1 h2 => by omega), HPN⟩
          case round =>
            obtain ⟨S, hS1, hS2, rfl, HR, HBs⟩ := hrel
            by_cases hSP : S < P
            · have hS128 : S < 128 := by omega
              have HSN := Lib.hid (show S < 2 ^ n by rw [← HP.out]; exact hSP)
              have s0 : (0 : Int) ≤ (S : Int) := by omega
              have s1 : (S : Int) < (P : Int) := by omega
              go_wp2_with fail
              go_loopw [11] (fun u wr => ∃ q : Nat, q ≤ n ∧ u = .int .i64 q ∧ Hid (∀ last, last < q → RowR t (edsR t) (tabI n T) n S last) ∧ Hid (Below w2.heap.size w2 wr)) (fun u _ => n - (intOf u).toNat)
              case atStart => exact ⟨0, Nat.zero_le _, rfl, Lib.hid (fun last h => by omega), HBs⟩
              case round =>
                obtain ⟨q, hq, rfl, HQ, HBq⟩ := hrel
                by_cases hqn : q < n
                · skip
                  have q0 : (0 : Int) ≤ (q : Int) := by omega
                  have q1 : (q : Int) < (n : Int) := by omega
                  cases hbt : bitB S q
                  · skip
                    have ba : bits .and .i64 ((S : Int) / 2 ^ q) 1 = 0 := bit_nil hS128 hbt
                    have HBT := Lib.hid hbt
                    clear hbt
                    go_wp2_with fail
                    go_roundw
                    case rel => exact ⟨q + 1, by omega, by go_num, Lib.hid (fun last hl => by
                      by_cases e : last = q
                      · subst e; intro h; rw [HBT.out] at h; cases h
                      · exact HQ.out last (by omega)), HBq⟩
                    case measure => simp [intOf]; omega
                  · skip
                    have ba : bits .and .i64 ((S : Int) / 2 ^ q) 1 = 1 := bit_one hS128 hbt
                    have HBT := Lib.hid hbt
                    obtain ⟨pl, hpl⟩ : ∃ p, p = 2 ^ q := ⟨_, rfl⟩
                    have slq : IntKind.i64.wrap ((2 : Int) ^ q) = (pl : Int) := shl_one (by omega) hpl
                    have hple := bit_le hbt
                    rw [← hpl] at hple
                    have HPL := Lib.hid hpl
                    obtain ⟨S', hS'⟩ : ∃ s, s = S - pl := ⟨_, rfl⟩
                    have hsb : (S : Int) - (pl : Int) = (S' : Int) := by omega
                    have hsw : IntKind.i64.wrap ((S : Int) - (pl : Int)) = (S' : Int) := by rw [hsb, IntKind.wrap_i64]; omega
                    have HSS := Lib.hid hS'
                    have hS'P : S' < P := by omega
                    have HS'N := Lib.hid (show S' < 2 ^ n by rw [← HP.out]; exact hS'P)
                    have halt := at_lt HSN.out hqn
                    rw [← HMM.out] at halt
                    obtain ⟨a, ha⟩ : ∃ a, a = S * n + q := ⟨_, rfl⟩
                    have haI : (S : Int) * (n : Int) + (q : Int) = (a : Int) := by rw [ha]; push_cast; rfl
                    have hSn : S * n ≤ 1000 := by omega
                    have hsn0 : (0 : Int) ≤ (S : Int) * (n : Int) := by rw [← Int.natCast_mul]; omega
                    have hsn1 : (S : Int) * (n : Int) ≤ 1000 := by rw [← Int.natCast_mul]; omega
                    have mw : IntKind.i64.wrap ((S : Int) * (n : Int)) = (S : Int) * (n : Int) := by rw [IntKind.wrap_i64]; omega
                    have aw : IntKind.i64.wrap ((S : Int) * (n : Int) + (q : Int)) = (a : Int) := by rw [haI, IntKind.wrap_i64]; omega
                    have wa : IntKind.i64.wrap (a : Int) = (a : Int) := by rw [IntKind.wrap_i64]; omega
                    obtain ⟨v, hv⟩ : ∃ v, v = tabI n T S q := ⟨_, rfl⟩
                    have SE := Lib.hid (show ∀ W, Below w1.heap.size w1 W → W.cell? ⟨tb, tf + a, none⟩ = some (.int .i64 v) from fun W hb => by
                      rw [ha, hv]; exact EL.out W hb S q HSN.out hqn)
                    have a0 : (0 : Int) ≤ (a : Int) := by omega
                    have a1 : (a : Int) < (j : Int) := by omega
                    have HV := Lib.hid hv
                    have e0 := SE.out wr (HB2.out.trans (HBq.out.mono HB2.out.size))
                    obtain ⟨F, hF⟩ : ∃ F, F = P - 1 := ⟨_, rfl⟩
                    have hpf : (P : Int) - 1 = (F : Int) := by omega
                    have hpw : IntKind.i64.wrap ((P : Int) - 1) = (F : Int) := by rw [hpf, IntKind.wrap_i64]; omega
                    obtain ⟨fl, hfl⟩ : ∃ b, b = ((S : Int) == (F : Int)) := ⟨_, rfl⟩
                    have hfl' := hfl.symm
                    have HFL := Lib.hid (show fl = true ↔ S + 1 = 2 ^ n by rw [hfl, ← HP.out]; simp; omega)
                    obtain ⟨t2, ht2⟩ : ∃ b, b = decide (v < 0) := ⟨_, rfl⟩
                    have ht2' := ht2.symm
                    have HT2 := Lib.hid ht2
                    have htn : decide (0 ≤ v) = !t2 := by rw [ht2]; by_cases h : v < 0 <;> simp [h] <;> omega
                    have HTN := Lib.hid htn
                    clear ha hSn halt hv hbt hpl hS' hfl ht2 hF htn
                    obtain ⟨bad, hbad⟩ : ∃ b, b = (fl && !t2) := ⟨_, rfl⟩
                    cases bad
                    · skip
                      have HFU := Lib.hid (show S + 1 = 2 ^ n → tabI n T S q < 0 from fun h => by
                        rw [HFL.out.2 h] at hbad
                        have : t2 = true := by cases t2; (cases hbad); rfl
                        rw [HT2.out] at this
                        rw [← HV.out]
                        simpa using this)
                      have HBD := Lib.hid hbad
                      clear hbad
                      go_upto_region 20 with fail
                      go_cut [76] (fun tv wx => tv = .bool false ∧ wr = wx)
                      case first =>
                        skip
                        cases fl
                        · go_wp2_with fail
                          go_meet
                          exact ⟨rfl, rfl⟩
                        · cases t2
                          · cases HBD.out
                          · have htn3 : decide (0 ≤ v) = false := HTN.out
                            clear ht2'
                            go_wp2_with fail
                            go_meet
                            exact ⟨rfl, rfl⟩
                      case rest =>
                        obtain ⟨rfl, rfl⟩ := hcut
                        have hel : q < es.length := by rw [HLN.out]; exact hqn
                        have hesd : ((edsR t).getD q ed0).due = es[q].1.due := by
                          have h := HR2.out.eds
                          rw [← h, eds_get hel]
                        obtain ⟨du, hdu⟩ : ∃ d, d = es[q].1.due := ⟨_, rfl⟩
                        obtain ⟨eb, eo, hea, heb, -, -, -, d3, -⟩ := Sl.atEd HR2.out.hE hel
                        subst hea
                        rw [← hdu] at d3 hesd
                        have HED := Lib.hid hesd
                        have HD := Lib.hid (show ∀ W, Below w2.heap.size w2 W → (W.cell? ⟨gT, 0, none⟩ = some (.slice x.a t.colours.length x.ca) ∧ W.cell? ⟨gT, 1, none⟩ = some (.slice x.b t.pairs.length x.cb) ∧ W.cell? ⟨gT, 2, none⟩ = some (.slice x.z t.zones.length x.cz) ∧ W.cell? ⟨gT, 3, none⟩ = some (.slice x.r t.ready.length x.cr) ∧ W.cell? ⟨gT, 4, none⟩ = some (.int .i64 t.start) ∧ W.cell? ⟨gT, 5, none⟩ = some (.int .i64 t.rate) ∧ W.cell? ⟨gT, 6, none⟩ = some (.int .i64 t.stop) ∧ W.cell? ⟨gT, 7, none⟩ = some (.int .i64 t.hang)) ∧ W.cell? ⟨eb, eo + q * 5 + 3, none⟩ = some (.int .i64 du) from fun W hb => ⟨(HTB.out W (HB2.out.trans (hb.mono HB2.out.size))).2, (hb.cell (p := ⟨eb, eo + q * 5 + 3, none⟩) (by exact heb)).trans d3⟩)
                        have hvb := TBD.out S q HSN.out hqn
                        rw [← HV.out] at hvb
                        obtain ⟨wo, rfl⟩ : ∃ W, W = wr := ⟨_, rfl⟩
                        clear hesd hdu d3 heb hel e0 hfl'
                        have HT2R := Lib.hid ht2'
                        clear ht2'
                        go_wp2_with fail
                        go_loopw [13] (fun u wr => ∃ i : Nat, i ≤ n + 1 ∧ u = .int .i64 (bI i) ∧ Hid (∀ jj, jj < i → WayOk t (edsR t) (tabI n T) S q jj) ∧ Hid (Below w2.heap.size w2 wr)) (fun u _ => ((n : Int) - intOf u).toNat)
                        case atStart => exact ⟨0, by omega, rfl, Lib.hid (fun jj h => by omega), HBq⟩
                        case round =>
                          obtain ⟨i, hi, rfl, HI, HBi⟩ := hrel
                          by_cases hin : i ≤ n
                          · cases i with
                            | zero =>
                              rw [show bI 0 = -1 from rfl]
                              have m1 : decide ((-1 : Int) < (n : Int)) = true := by simp; omega
                              by_cases hSp : S = pl
                              · skip
                                have hsq : ((S : Int) != (pl : Int)) = false := by simp [hSp]
                                have HSP := Lib.hid hSp
                                clear hSp
                                obtain ⟨s, hsf⟩ : ∃ s, s = firstS t (edsR t) q := ⟨_, rfl⟩
                                have ht2' := HT2R.out
                                have hse : s.edition = (q : Int) := by rw [hsf]; rfl
                                have H18 := Lib.hid (show ∀ W, Below w2.heap.size w2 W → Calls Try.prog 118 #[.agg #[.slice x.a t.colours.length x.ca, .slice x.b t.pairs.length x.cb, .slice x.z t.zones.length x.cz, .slice x.r t.ready.length x.cr, .int .i64 t.start, .int .i64 t.rate, .int .i64 t.stop, .int .i64 t.hang], .slice (some ⟨eb, eo, none⟩) n c2, .int .i64 (q : Int), .int .i64 (-1), .int .i64 0] W fun r w' => r = .returned (.agg #[.int .i64 (q : Int), .int .i64 s.plates, .int .i64 s.beg, .int .i64 s.fin]) ∧ Hid (Below W.heap.size W w') from fun W hb' =>
                                  (HFO.out W hb' q hqn none 0 (fun b h => by cases h) (by omega) (by omega)).mono (by
                                    rintro r w' ⟨rfl, hb2⟩
                                    exact ⟨by rw [hsf]; rfl, hb2⟩))
                                obtain ⟨t1, ht1⟩ : ∃ b, b = decide (s.fin ≤ du) := ⟨_, rfl⟩
                                obtain ⟨t3, ht3⟩ : ∃ b, b = decide (s.fin < v) := ⟨_, rfl⟩
                                have hhb := hasB_b hse HED.out ht1.symm ht2' ht3.symm
                                have HWG := Lib.hid (show (t1 && (t2 || t3)) = false → WayOk t (edsR t) (tabI n T) S q (0) from fun h => fun _ => by rw [← HV.out, ← hsf, hhb, h]; rfl)
                                have HWB := Lib.hid (show (t1 && (t2 || t3)) = true → ¬ WayOk t (edsR t) (tabI n T) S q (0) from fun h h2 => by have := h2 (by rw [← HPL.out]; exact HSP.out); rw [← HV.out, ← hsf, hhb, h] at this; cases this)
                                have ht1' := ht1.symm
                                have ht3' := ht3.symm
                                clear hhb hsf hse ht1 ht3
                                obtain ⟨⟨r0, r1, r2, r3, r4, r5, r6, r7⟩, e1⟩ := HD.out wr HBi.out
                                go_upto_region 31 with (go_at_call 118; refine (H18.out _ HBi.out).mono ?_; rintro e w5 ⟨rfl, hb5⟩; have HB5 := Lib.hid (HBi.out.trans (hb5.out.mono HBi.out.size)); clear hb5)
                                obtain ⟨w6, hw6⟩ : ∃ W, W = w5.alloc (.cells #[.int .i64 (q : Int), .int .i64 s.plates, .int .i64 s.beg, .int .i64 s.fin] 106) := ⟨_, rfl⟩
                                obtain ⟨gS, hgS⟩ : ∃ g, g = w5.heap.size := ⟨_, rfl⟩
                                rw [← hw6, ← hgS]
                                have kS : Blk w6 gS 106 #[.int .i64 (q : Int), .int .i64 s.plates, .int .i64 s.beg, .int .i64 s.fin] := by rw [hw6, hgS]; exact Blk.new _ _ _
                                have HB6 := Lib.hid (show Below w2.heap.size w2 w6 from by rw [hw6]; exact HB5.out.alloc HB5.out.size _)
                                have s3 := kS.cell 3
                                simp at s3
                                clear hw6 hgS kS r0 r1 r2 r3 r4 r5 r6 r7 e1
                                obtain ⟨⟨r0, r1, r2, r3, r4, r5, r6, r7⟩, e1⟩ := HD.out w6 HB6.out
                                cases t1
                                · clear ht2' ht3'
                                  go_quiet (fail)
                                  go_wp2_with fail
                                  go_roundw
                                  case rel => exact ⟨0 + 1, by omega, by rfl, Lib.hid (fun jj hjj => by
                                    by_cases e : jj = 0
                                    · rw [e]; exact HWG.out rfl
                                    · exact HI.out jj (by omega)), Lib.hid (below_drewN HB6.out _)⟩
                                  case measure => simp [intOf, bI] <;> omega
                                · cases t2
                                  · cases t3
                                    · go_quiet (fail)
                                      go_wp2_with fail
                                      go_roundw
                                      case rel => exact ⟨0 + 1, by omega, by rfl, Lib.hid (fun jj hjj => by
                                        by_cases e : jj = 0
                                        · rw [e]; exact HWG.out rfl
                                        · exact HI.out jj (by omega)), Lib.hid (below_drewN HB6.out _)⟩
                                      case measure => simp [intOf, bI] <;> omega
                                    · go_quiet (fail)
                                      go_wp2_with fail
                                      go_ret2
                                      exact prvR_mk false 0 rfl (Lib.hid (HPV.out false ⟨fun h => (by cases h), fun h => absurd ((h S hS1 HSN.out q hqn HBT.out).2 _ (by omega)) (HWB.out rfl)⟩)) (Lib.hid (HB1.out.trans ((HB2.out.trans ((below_drewN HB6.out _).mono HB2.out.size)).mono HB1.out.size)))
                                  · clear ht3'
                                    go_quiet (fail)
                                    go_wp2_with fail
                                    go_ret2
                                    exact prvR_mk false 0 rfl (Lib.hid (HPV.out false ⟨fun h => (by cases h), fun h => absurd ((h S hS1 HSN.out q hqn HBT.out).2 _ (by omega)) (HWB.out rfl)⟩)) (Lib.hid (HB1.out.trans ((HB2.out.trans ((below_drewN HB6.out _).mono HB2.out.size)).mono HB1.out.size)))
                              · skip
                                have hsq : ((S : Int) != (pl : Int)) = true := by simp; omega
                                go_wp2_with fail
                                go_roundw
                                case rel => exact ⟨0 + 1, by omega, by rfl, Lib.hid (fun jj hjj => by
                                  obtain rfl : jj = 0 := by omega
                                  exact fun h => absurd h (by rw [← HPL.out]; exact hSp)), HBi⟩
                                case measure => simp [intOf, bI] <;> omega
                            | succ b =>
                              rw [show bI (b + 1) = (b : Int) from rfl]
                              have i0 : (0 : Int) ≤ (b : Int) := by omega
                              have i1 : (b : Int) < (n : Int) := by omega
                              have hbn : b < n := by omega
                              by_cases hbq : b = q
                              · skip
                                have hq0 : ((b : Int) == (q : Int)) = true := by simp [hbq]
                                go_wp2_with fail
                                go_roundw
                                case rel => exact ⟨b + 1 + 1, by omega, by show _ = Value.int .i64 (((b + 1 : Nat)) : Int); go_num, Lib.hid (fun jj hjj => by
                                  by_cases e : jj = b + 1
                                  · rw [e]; exact fun h => absurd hbq h
                                  · exact HI.out jj (by omega)), HBi⟩
                                case measure => simp [intOf, bI] <;> omega
                              · have hq0 : ((b : Int) == (q : Int)) = false := by simp; omega
                                cases hbb : bitB S b
                                · skip
                                  have bb : bits .and .i64 ((S : Int) / 2 ^ b) 1 = 0 := bit_nil hS128 hbb
                                  have HBB := Lib.hid hbb
                                  clear hbb
                                  go_wp2_with fail
                                  go_roundw
                                  case rel => exact ⟨b + 1 + 1, by omega, by show _ = Value.int .i64 (((b + 1 : Nat)) : Int); go_num, Lib.hid (fun jj hjj => by
                                    by_cases e : jj = b + 1
                                    · rw [e]; exact fun _ h => by rw [HBB.out] at h; cases h
                                    · exact HI.out jj (by omega)), HBi⟩
                                  case measure => simp [intOf, bI] <;> omega
                                · skip
                                  have bb : bits .and .i64 ((S : Int) / 2 ^ b) 1 = 1 := bit_one hS128 hbb
                                  have HBB := Lib.hid hbb
                                  clear hbb
                                  have halt := at_lt HS'N.out hbn
                                  rw [← HMM.out] at halt
                                  obtain ⟨a2, ha2⟩ : ∃ a, a = S' * n + b := ⟨_, rfl⟩
                                  have haI2 : (S' : Int) * (n : Int) + (b : Int) = (a2 : Int) := by rw [ha2]; push_cast; rfl
                                  have hSn2 : S' * n ≤ 1000 := by omega
                                  have hsn02 : (0 : Int) ≤ (S' : Int) * (n : Int) := by rw [← Int.natCast_mul]; omega
                                  have hsn12 : (S' : Int) * (n : Int) ≤ 1000 := by rw [← Int.natCast_mul]; omega
                                  have mw2 : IntKind.i64.wrap ((S' : Int) * (n : Int)) = (S' : Int) * (n : Int) := by rw [IntKind.wrap_i64]; omega
                                  have aw2 : IntKind.i64.wrap ((S' : Int) * (n : Int) + (b : Int)) = (a2 : Int) := by rw [haI2, IntKind.wrap_i64]; omega
                                  have wa2 : IntKind.i64.wrap (a2 : Int) = (a2 : Int) := by rw [IntKind.wrap_i64]; omega
                                  obtain ⟨gv, hgv⟩ : ∃ v, v = tabI n T S' b := ⟨_, rfl⟩
                                  have e2 : wr.cell? ⟨tb, tf + a2, none⟩ = some (.int .i64 gv) := by
                                    rw [ha2, hgv]; exact EL.out wr (HB2.out.trans (HBi.out.mono HB2.out.size)) S' b HS'N.out hbn
                                  have hgb := TBD.out S' b HS'N.out hbn
                                  rw [← hgv] at hgb
                                  obtain ⟨hgb0, hgb1⟩ := hgb
                                  have b0 : (0 : Int) ≤ (a2 : Int) := by omega
                                  have b1 : (a2 : Int) < (j : Int) := by omega
                                  have HGV := Lib.hid (show gv = tabI n T (S - 2 ^ q) b by rw [hgv, HSS.out, HPL.out])
                                  clear ha2 hSn2 halt hgv
                                  by_cases hg0 : gv < 0
                                  · skip
                                    have tg : decide (gv < 0) = true := by simpa using hg0
                                    have HG0 := Lib.hid hg0
                                    clear hg0
                                    go_wp2_with fail
                                    go_roundw
                                    case rel => exact ⟨b + 1 + 1, by omega, by show _ = Value.int .i64 (((b + 1 : Nat)) : Int); go_num, Lib.hid (fun jj hjj => by
                                      by_cases e : jj = b + 1
                                      · rw [e]; exact fun _ _ h => by rw [← HGV.out] at h; have := HG0.out; omega
                                      · exact HI.out jj (by omega)), HBi⟩
                                    case measure => simp [intOf, bI] <;> omega
                                  · skip
                                    have tg : decide (gv < 0) = false := by simpa using hg0
                                    obtain ⟨s, hsf⟩ : ∃ s, s = nextS t (edsR t) q b gv := ⟨_, rfl⟩
                                    have ht2' := HT2R.out
                                    have hse : s.edition = (q : Int) := by rw [hsf]; rfl
                                    have H18 := Lib.hid (show ∀ W, Below w2.heap.size w2 W → Calls Try.prog 118 #[.agg #[.slice x.a t.colours.length x.ca, .slice x.b t.pairs.length x.cb, .slice x.z t.zones.length x.cz, .slice x.r t.ready.length x.cr, .int .i64 t.start, .int .i64 t.rate, .int .i64 t.stop, .int .i64 t.hang], .slice (some ⟨eb, eo, none⟩) n c2, .int .i64 (q : Int), .int .i64 (b : Int), .int .i64 gv] W fun r w' => r = .returned (.agg #[.int .i64 (q : Int), .int .i64 s.plates, .int .i64 s.beg, .int .i64 s.fin]) ∧ Hid (Below W.heap.size W w') from fun W hb' =>
                                      (HFO.out W hb' q hqn (some b) gv (fun b' h => by injection h with h; omega) (by omega) (by omega)).mono (by
                                        rintro r w' ⟨rfl, hb2⟩
                                        exact ⟨by rw [hsf]; rfl, hb2⟩))
                                    obtain ⟨t1, ht1⟩ : ∃ b, b = decide (s.fin ≤ du) := ⟨_, rfl⟩
                                    obtain ⟨t3, ht3⟩ : ∃ b, b = decide (s.fin < v) := ⟨_, rfl⟩
                                    have hhb := hasB_b hse HED.out ht1.symm ht2' ht3.symm
                                    have HWG := Lib.hid (show (t1 && (t2 || t3)) = false → WayOk t (edsR t) (tabI n T) S q (b + 1) from fun h => fun _ _ _ => by rw [← HV.out, ← HGV.out, ← hsf, hhb, h]; rfl)
                                    have HWB := Lib.hid (show (t1 && (t2 || t3)) = true → ¬ WayOk t (edsR t) (tabI n T) S q (b + 1) from fun h h2 => by have := h2 hbq HBB.out (by rw [← HGV.out]; omega); rw [← HV.out, ← HGV.out, ← hsf, hhb, h] at this; cases this)
                                    have ht1' := ht1.symm
                                    have ht3' := ht3.symm
                                    clear hhb hsf hse ht1 ht3
                                    obtain ⟨⟨r0, r1, r2, r3, r4, r5, r6, r7⟩, e1⟩ := HD.out wr HBi.out
                                    go_upto_region 31 with (go_at_call 118; refine (H18.out _ HBi.out).mono ?_; rintro e w5 ⟨rfl, hb5⟩; have HB5 := Lib.hid (HBi.out.trans (hb5.out.mono HBi.out.size)); clear hb5)
                                    obtain ⟨w6, hw6⟩ : ∃ W, W = w5.alloc (.cells #[.int .i64 (q : Int), .int .i64 s.plates, .int .i64 s.beg, .int .i64 s.fin] 106) := ⟨_, rfl⟩
                                    obtain ⟨gS, hgS⟩ : ∃ g, g = w5.heap.size := ⟨_, rfl⟩
                                    rw [← hw6, ← hgS]
                                    have kS : Blk w6 gS 106 #[.int .i64 (q : Int), .int .i64 s.plates, .int .i64 s.beg, .int .i64 s.fin] := by rw [hw6, hgS]; exact Blk.new _ _ _
                                    have HB6 := Lib.hid (show Below w2.heap.size w2 w6 from by rw [hw6]; exact HB5.out.alloc HB5.out.size _)
                                    have s3 := kS.cell 3
                                    simp at s3
                                    clear hw6 hgS kS r0 r1 r2 r3 r4 r5 r6 r7 e1
                                    obtain ⟨⟨r0, r1, r2, r3, r4, r5, r6, r7⟩, e1⟩ := HD.out w6 HB6.out
                                    cases t1
                                    · clear ht2' ht3'
                                      go_quiet (fail)
                                      go_wp2_with fail
                                      go_roundw
                                      case rel => exact ⟨b + 1 + 1, by omega, by show _ = Value.int .i64 (((b + 1 : Nat)) : Int); go_num, Lib.hid (fun jj hjj => by
                                        by_cases e : jj = b + 1
                                        · rw [e]; exact HWG.out rfl
                                        · exact HI.out jj (by omega)), Lib.hid (below_drewN HB6.out _)⟩
                                      case measure => simp [intOf, bI] <;> omega
                                    · cases t2
                                      · cases t3
                                        · go_quiet (fail)
                                          go_wp2_with fail
                                          go_roundw
                                          case rel => exact ⟨b + 1 + 1, by omega, by show _ = Value.int .i64 (((b + 1 : Nat)) : Int); go_num, Lib.hid (fun jj hjj => by
                                            by_cases e : jj = b + 1
                                            · rw [e]; exact HWG.out rfl
                                            · exact HI.out jj (by omega)), Lib.hid (below_drewN HB6.out _)⟩
                                          case measure => simp [intOf, bI] <;> omega
                                        · go_quiet (fail)
                                          go_wp2_with fail
                                          go_ret2
                                          exact prvR_mk false 0 rfl (Lib.hid (HPV.out false ⟨fun h => (by cases h), fun h => absurd ((h S hS1 HSN.out q hqn HBT.out).2 _ (by omega)) (HWB.out rfl)⟩)) (Lib.hid (HB1.out.trans ((HB2.out.trans ((below_drewN HB6.out _).mono HB2.out.size)).mono HB1.out.size)))
                                      · clear ht3'
                                        go_quiet (fail)
                                        go_wp2_with fail
                                        go_ret2
                                        exact prvR_mk false 0 rfl (Lib.hid (HPV.out false ⟨fun h => (by cases h), fun h => absurd ((h S hS1 HSN.out q hqn HBT.out).2 _ (by omega)) (HWB.out rfl)⟩)) (Lib.hid (HB1.out.trans ((HB2.out.trans ((below_drewN HB6.out _).mono HB2.out.size)).mono HB1.out.size)))
                          · skip
                            obtain rfl : i = n + 1 := by omega
                            rw [show bI (n + 1) = (n : Int) from rfl]
                            go_wp2_with fail
                            go_roundw
                            case rel => exact ⟨q + 1, by omega, by go_num, Lib.hid (fun last hl => by
                              by_cases e : last = q
                              · subst e; exact fun _ => ⟨HFU.out, fun jj hjj => HI.out jj (by omega)⟩
                              · exact HQ.out last (by omega)), HBi⟩
                            case measure => simp [intOf]; omega
                    · skip
                      have hf1 : fl = true := by cases fl; (cases hbad); rfl
                      have hf2 : t2 = false := by cases t2; rfl; (subst hf1; cases hbad)
                      subst hf1 hf2
                      have HVN := Lib.hid (show 0 ≤ tabI n T S q by rw [← HV.out]; have h := HT2.out; simp at h; omega)
                      have htn3 : decide (0 ≤ v) = true := HTN.out
                      clear hbad ht2'
                      go_wp2_with fail
                      go_ret2
                      exact prvR_mk false 0 rfl (Lib.hid (HPV.out false ⟨fun h => (by cases h), fun h => by
                        have h1 := (h S hS1 HSN.out q hqn HBT.out).1 (HFL.out.1 (by first | rfl | trivial))
                        have h2 := HVN.out
                        omega⟩)) (Lib.hid (HB1.out.trans ((HB2.out.trans (HBq.out.mono HB2.out.size)).mono HB1.out.size)))
                · skip
                  obtain rfl : q = n := by omega
                  go_wp2_with fail
                  go_roundw
                  case rel => exact ⟨S + 1, by omega, by omega, by go_num, Lib.hid (fun S' h1 h2 last hl => by
                    by_cases e : S' = S
                    · subst e; exact HQ.out last hl
                    · exact HR.out S' h1 (by omega) last hl), HBq⟩
                  case measure => simp [intOf]; omega
            · skip
              obtain rfl : S = P := by omega
              go_wp2_with fail
              go_ret2
              exact prvR_mk true 0 rfl (Lib.hid (HPV.out true ⟨fun _ S' h1 h2 last hl => HR.out S' h1 (by rw [HP.out]; exact h2) last hl, fun _ => rfl⟩)) (Lib.hid (HB1.out.trans ((HB2.out.trans (HBs.out.mono HB2.out.size)).mono HB1.out.size)))
    · skip
      have hne : ((k : Int) != (m : Int)) = true := by simp; omega
      have HKM := Lib.hid (show decide (k = m) = false by simp [hkm])
      clear hkm hm
      go_enter Try.func76, Try.ntmps76
      go_upto_region 1 with fail
      rw [← HW1.out, ← HGT.out]
      go_wp2_with (go_at_call 43; refine HRE.out.mono ?_; rintro e w2 ⟨A2, c2, es, rfl, hr2, hb2⟩; have hln := hr2.len; rw [← HN.out] at hln; have HB2 := Lib.hid hb2; clear hr2 hb2; rw [hln]; clear hln)
      go_ret2
      exact prvR_mk false 1 rfl (Lib.hid ((HPRV.out _ _).2 (by rw [if_pos (by rw [HTOK.out, HKM.out]; rfl)]; exact ⟨rfl, rfl⟩))) (Lib.hid (HB1.out.trans (HB2.out.mono HB1.out.size)))
  · skip
    have HPC := Lib.hid (show PrvP t T false (checkT t) by unfold PrvP; rw [if_pos hc]; exact ⟨rfl, rfl⟩)
    have HRE := Lib.hid (rEds_bad t x zs w1 hs hT1 hc)
    obtain ⟨ck, hck⟩ : ∃ c, c = checkT t := ⟨_, rfl⟩
    rw [← hck] at HRE hc HPC
    have ht : (ck != 0) = true := by simpa using hc
    unfold titV at *
    clear hT hT1 hs hc hck hA
    go_enter Try.func76, Try.ntmps76
    go_upto_region 1 with fail
    rw [← HW1.out, ← HGT.out]
    go_wp2_with (go_at_call 43; refine HRE.out.mono ?_; rintro e w2 ⟨rfl, hb2⟩; have HB2 := Lib.hid hb2; clear hb2)
    go_ret2
    exact prvR_mk false ck rfl (HPC) (Lib.hid (HB1.out.trans (HB2.out.mono HB1.out.size)))
end Go.Proofs.Ytokdleanpkkdpaa
