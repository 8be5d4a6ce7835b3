/- The walk of ReelMargin; conditions: bytes and small numbers. -/
import Derived.Test.YtnbnfadmbggfnaaQM
set_option linter.unusedSimpArgs false
set_option linter.unusedVariables false
namespace Go.Rl
open Go.Fh
def upW (bb aa : Int) (m : WebM) : WebM := (moreW bb aa m.1, m.2)
/-- the first webs are turned -/
def updW (bb aa : Int) (L : List WebM) (i : Nat) : List WebM := (L.take i).map (upW bb aa) ++ L.drop i
theorem updW_len (bb aa : Int) (L : List WebM) {i : Nat} (h : i ≤ L.length) : (updW bb aa L i).length = L.length := by
  unfold updW; simp; omega
theorem updW_get (bb aa : Int) (L : List WebM) {i : Nat} (h : i < L.length) : (updW bb aa L i)[i]? = some L[i] := by
  unfold updW
  rw [List.getElem?_append_right (by simp; exact Nat.min_le_left _ _)]
  simp [List.length_take, Nat.min_eq_left (Nat.le_of_lt h), h]
theorem updW_s (bb aa : Int) (L : List WebM) {i : Nat} (h : i < L.length) : updW bb aa L (i + 1) = (updW bb aa L i).set i (upW bb aa L[i]) := by
  have e : (updW bb aa L i).set i (upW bb aa L[i]) = (L.take i).map (upW bb aa) ++ (L.drop i).set 0 (upW bb aa L[i]) := by
    unfold updW
    rw [List.set_append_right _ _ (by simp; exact Nat.min_le_left _ _)]
    simp [Nat.min_eq_left (Nat.le_of_lt h)]
  rw [e, List.drop_eq_getElem_cons h]
  unfold updW
  rw [List.take_succ_eq_append_getElem h, List.map_append]
  simp only [List.set_cons_zero, List.map_cons, List.map_nil, List.append_assoc, List.cons_append, List.nil_append]
theorem updW_end (bb aa : Int) (L : List WebM) : updW bb aa L L.length = L.map (upW bb aa) := by
  unfold updW; simp
theorem flat4 (bb aa : Int) : ∀ (L : List WebM) (i : Nat) (m : WebM), L[i]? = some m → ((L.flatMap encWeb).set (i * 4 + 2) (.int .i64 (m.1.bef + bb))).set (i * 4 + 3) (.int .i64 (m.1.aft + aa)) = (L.set i (upW bb aa m)).flatMap encWeb := by
  intro L
  induction L with
  | nil => intro i m h; simp at h
  | cons x L ih =>
    intro i m h
    cases i with
    | zero =>
      simp at h
      subst h
      simp [encWeb, upW, moreW]
    | succ i =>
      have h' : L[i]? = some m := by simpa using h
      have hl : (encWeb x).length = 4 := rfl
      rw [List.flatMap_cons, List.set_append_right _ _ (by rw [hl]; omega), List.set_append_right _ _ (by rw [hl]; omega), hl, show (i + 1) * 4 + 2 - 4 = i * 4 + 2 by omega, show (i + 1) * 4 + 3 - 4 = i * 4 + 3 by omega, ih i m h', List.set_cons_succ, List.flatMap_cons]
end Go.Rl
namespace Go.Proofs.Ytnbnfadmbggfnaa
open Go.RowKit Go.Fh Go.Rl
theorem mar_c (A : Option Addr) (c : Nat) (S : List (Int × Int)) (s0 : Int × Int) (g : Nat) (w : World) (hl : S.length ≤ 1000000) (hA : Sl enc2 2 w w.heap.size A S) (hg : Blk w g 43 #[.int .i64 s0.1, .int .i64 s0.2]) (h : (S.any fun x => decide (x.1 ≤ s0.1 ∧ s0.2 ≤ x.2)) = true) :
    Calls Try.prog 19 #[.slice A S.length c, .func (.func 20) #[] #[.pointer (some ⟨g, 0, none⟩)]] w fun e w' => e = .returned (.bool true) ∧ Hid (Below w.heap.size w w') := by
  have := mar20_any A c S s0 g w (by omega) hA hg _ rfl
  rw [h] at this
  exact this
set_option maxRecDepth 20000 in
set_option maxHeartbeats 4000000 in
theorem reelMargin_walk (haw : ∀ w, Calls Try.prog 17 #[] w fun e w' => e = .returned (.bool true) ∧ Below w.heap.size w w') (A : Option Addr) (c : Nat) (l : List Nat) (mgn bb aa cop : Int) (w : World) (hl : l.length ≤ 9223372036854775807) (hbd : ∀ x ∈ l, x ≤ 255) (hA : Sl encBn 1 w w.heap.size A l)
    (hm0 : 0 ≤ mgn) (hm1 : mgn ≤ 255) (hb0 : 0 ≤ bb) (hb1 : bb ≤ 255) (ha0 : 0 ≤ aa) (ha1 : aa ≤ 255) (hc0 : 0 ≤ cop) (hc1 : cop ≤ 65535) :
    Calls Try.prog 4 #[.slice A l.length c, .int .u8 mgn, .int .u8 bb, .int .u8 aa, .int .u16 cop] w fun e w' => e = .returned (.bool true) ∧ Below w.heap.size w w' := by
  have HMD := Lib.hid (show ∀ W, Below w.heap.size w W → Calls Try.prog 12 #[.slice A l.length c] W fun e w' => ∃ (AW : Option Addr) (c0 : Nat) (ms : List WebM), e = .returned (.agg #[.int .i64 (madeP l).cut, .int .i64 (madeP l).margin, .slice AW ms.length c0]) ∧ MadeAt W w' (madeP l) AW c0 ms from fun W hb => made_any A c l W hl hbd ((hA.below hb).mono hb.size))
  have hfit := made_fit l
  obtain ⟨mg, hmg⟩ : ∃ x, x = mgn.tmod 10 := ⟨_, rfl⟩
  have hmgb : 0 ≤ mg ∧ mg ≤ 9 := by
    rw [hmg, Int.tmod_eq_emod_of_nonneg hm0]; omega
  have hfq := more_fit (l := l) (mg := mg) (bb := bb) (aa := aa) hmgb.1 hmgb.2 hb0 hb1 ha0 ha1
  have hdm := dig_bd l 1 (n := 4) (by decide)
  have hwm := made_w l (nwM l) (nwM_bd l).2
  obtain ⟨p, hp⟩ : ∃ p, p = madeP l := ⟨_, rfl⟩
  have hpm : 0 ≤ p.margin ∧ p.margin ≤ 3 := by rw [hp]; show 0 ≤ dig l 1 4 ∧ dig l 1 4 ≤ 3; omega
  have hpw : ∀ v ∈ p.webs, (0 ≤ v.bef ∧ v.bef ≤ 447) ∧ (0 ≤ v.aft ∧ v.aft ≤ 596) := fun v hv => by rw [hp] at hv; have := hwm v hv; exact ⟨this.2.2.1, this.2.2.2.1⟩
  rw [← hp] at HMD hfit hfq
  clear hp hA hl hbd hdm hwm
  obtain ⟨q, hq⟩ : ∃ q, q = moreP p mg bb aa := ⟨_, rfl⟩
  have he := fit_err hfit
  have heq : errP q = 0 := by rw [hq]; exact fit_err hfq
  have hb := rch_bd he
  obtain ⟨R, hR⟩ : ∃ R, R = rchP p := ⟨_, rfl⟩
  have hRq : R = rchP q := by rw [hq, more_rch]; exact hR
  obtain ⟨n, hn⟩ : ∃ n, n = cop.tmod (R + 1) := ⟨_, rfl⟩
  rw [← hR] at hb
  have hnb : 0 ≤ n ∧ n ≤ R := by
    rw [hn, Int.tmod_eq_emod_of_nonneg hc0]
    have h1 := Int.emod_nonneg cop (b := R + 1) (by omega)
    have h2 := Int.emod_lt_of_pos cop (b := R + 1) (by omega)
    omega
  have hn0 := hnb.1
  obtain ⟨S1, hS1⟩ : ∃ S, S = thrP p n := ⟨_, rfl⟩
  obtain ⟨S2, hS2⟩ : ∃ S, S = thrP q n := ⟨_, rfl⟩
  have hl1 := thr_len (fun v hv => ((prs_ok he).w v hv).n) n
  have hl2 := thr_len (fun v hv => ((prs_ok heq).w v hv).n) n
  have hw1 := (prs_ok he).n1
  have hw2 := (prs_ok heq).n1
  rw [← hS1] at hl1
  rw [← hS2] at hl2
  have HANY := Lib.hid (show ∀ s ∈ S1, (S2.any fun x => decide (x.1 ≤ s.1 ∧ s.2 ≤ x.2)) = true from fun s hs => by rw [hS2, hq]; rw [hS1] at hs; exact more_any hfit hmgb.1 hb0 ha0 hs)
  have hrun := more_run hfit hfq hmgb.1 hb0 ha0 hn0 (by omega)
  rw [← hq] at hrun
  obtain ⟨⟨r1, r2⟩, hrp⟩ : ∃ r, r = runP p n := ⟨_, rfl⟩
  obtain ⟨⟨q1, q2⟩, hrq⟩ : ∃ r, r = runP q n := ⟨_, rfl⟩
  rw [← hrp, ← hrq] at hrun
  dsimp only at hrun
  have HE := Lib.hid he
  have HEQ := Lib.hid heq
  have HR := Lib.hid hR
  have HS1 := Lib.hid hS1
  have HS2 := Lib.hid hS2
  have HRP := Lib.hid hrp
  have HRQ := Lib.hid hrq
  have HNR := Lib.hid (show n ≤ rchP p by omega)
  have HNRQ := Lib.hid (show n ≤ rchP q by omega)
  have HQE := Lib.hid hq
  have HPW := Lib.hid hpw
  have HS1B := Lib.hid (show ∀ s ∈ S1, 0 ≤ s.1 ∧ s.1 ≤ s.2 ∧ s.2 ≤ n - 1 from fun s hs => by rw [hS1] at hs; exact thr_bd hs)
  have e1 : IntKind.i64.wrap mgn = mgn := by rw [IntKind.wrap_i64]; omega
  have e2 : mgn.tmod 10 = mg := hmg.symm
  have e3 : IntKind.i64.wrap (p.margin + mg) = p.margin + mg := by rw [IntKind.wrap_i64]; omega
  have e4 : IntKind.i64.wrap bb = bb := by rw [IntKind.wrap_i64]; omega
  have e5 : IntKind.i64.wrap aa = aa := by rw [IntKind.wrap_i64]; omega
  have e6 : IntKind.i64.wrap cop = cop := by rw [IntKind.wrap_i64]; omega
  have e7 : IntKind.i64.wrap (R + 1) = R + 1 := by rw [IntKind.wrap_i64]; omega
  have e8 : cop.tmod (R + 1) = n := hn.symm
  have e9 : (R + 1 == 0) = false := by simp; omega
  have e10 : ¬ (R + 1 = 0) := by omega
  clear hR hRq hn hS1 hS2 hrp hrq hq hpw he heq hfit hfq hmg
  go_enter Try.func4, Try.ntmps4
  go_upto_region 2 with (go_at_call 12; with_reducible refine (HMD.out _ (Below.refl _ _)).mono ?_; rintro e w1' ⟨AW, c0, ms, rfl, hM⟩; have HMM := Lib.hid hM; clear hM)
  obtain ⟨M, hM⟩ : ∃ M, M = ms.length := ⟨_, rfl⟩
  rw [← hM]
  have HM := Lib.hid hM
  obtain ⟨w2', g11, HW2, HG11, HBW, HAT0, HC0⟩ := mp_box 26 p w AW c0 ms w1' HMM.out.at_ M hM
  have HB1' := Lib.hid HMM.out.low
  rw [← HW2.out, ← HG11.out]
  have HMp := Lib.hid (show M = p.webs.length from by rw [hM, ← HMM.out.eq]; simp)
  clear hM
  go_upto_region 3 with (go_at_call 12; with_reducible refine (HMD.out w2' (HB1'.out.trans (HBW.out.mono HB1'.out.size))).mono ?_; rintro e w3' ⟨AQ, cq, mq, rfl, hM⟩; have HMQ0 := Lib.hid hM; clear hM)
  have hmq : mq.length = M := by rw [HMp.out, ← HMQ0.out.eq]; simp
  rw [hmq]
  have HML := Lib.hid hmq
  have hM1 : 1 ≤ M ∧ M ≤ 6 := by have h1 := (prs_ok HE.out).n0; have h2 := HMp.out; omega
  obtain ⟨w4, hw4⟩ : ∃ W, W = w3'.alloc (.cells #[.int .i64 p.cut, .int .i64 p.margin, .slice AQ M cq] 26) := ⟨_, rfl⟩
  obtain ⟨g12, hg12⟩ : ∃ x, x = w3'.heap.size := ⟨_, rfl⟩
  have k12 : Blk w4 g12 26 #[.int .i64 p.cut, .int .i64 p.margin, .slice AQ M cq] := by rw [hw4, hg12]; exact Blk.new _ _ _
  have hb4 : Below w2'.heap.size w2' w4 := by rw [hw4]; exact balR HMQ0.out.low _
  have h12 : w2'.heap.size ≤ g12 := by rw [hg12]; exact HMQ0.out.low.size
  have hrw4 : w4.ownsRow w2'.heap.size 41 4 (.slice AQ M cq) M (mq.flatMap encWeb) := by
    have := HMQ0.out.rW
    rw [hmq] at this
    rw [hw4]; exact this.alloc _
  have hrr4 : ∀ j (h : j < mq.length), w4.ownsRow w2'.heap.size 54 4 (.slice mq[j].2.1 mq[j].1.reels.length mq[j].2.2) mq[j].1.reels.length (mq[j].1.reels.flatMap encReel) := fun j h => by rw [hw4]; exact (HMQ0.out.rR j h).alloc _
  rw [← hw4, ← hg12]
  obtain ⟨w5, hw5⟩ : ∃ W, W = w4.setCell ⟨g12, 1, none⟩ (.int .i64 (p.margin + mg)) := ⟨_, rfl⟩
  have k125 : Blk w5 g12 26 #[.int .i64 p.cut, .int .i64 (p.margin + mg), .slice AQ M cq] := by
    have := k12.set_ 1 (.int .i64 (p.margin + mg))
    rw [hw5]; simpa using this
  have HB5 := Lib.hid (show Below w2'.heap.size w2' w5 from by rw [hw5]; exact hb4.setCell (by exact h12) _)
  have HRW5 := Lib.hid (show w5.ownsRow w2'.heap.size 41 4 (.slice AQ M cq) M (mq.flatMap encWeb) from by rw [hw5]; exact own_far hrw4 (p := ⟨g12, 1, none⟩) (own_blk_ne hrw4 k12 (by decide)) _)
  have HRR5 := Lib.hid (show ∀ j (h : j < mq.length), w5.ownsRow w2'.heap.size 54 4 (.slice mq[j].2.1 mq[j].1.reels.length mq[j].2.2) mq[j].1.reels.length (mq[j].1.reels.flatMap encReel) from fun j h => by rw [hw5]; exact own_far (hrr4 j h) (p := ⟨g12, 1, none⟩) (own_blk_ne (hrr4 j h) k12 (by decide)) _)
  have y0 := k12.cell 0
  have y1 := k12.cell 1
  have y2 := k12.cell 2
  have yf := k12.frozen 1
  simp at y0 y1 y2
  obtain ⟨gq, hgq⟩ : ∃ gq, AQ = some ⟨gq, 0, none⟩ := by
    rcases hrw4.2 with ⟨e0, _⟩ | ⟨g', cap, cur, e0, _⟩
    · injection e0 with _ h _; omega
    · injection e0 with h _ _; exact ⟨_, h⟩
  subst hgq
  have HGQ := Lib.hid (show gq ≠ g12 from fun e => by
    obtain ⟨⟨cs, hcs⟩, -⟩ := own_at hrw4 (g := gq) rfl
    exact Blk.ne_ (show Blk w4 gq 41 cs from hcs) k12 (by decide) e)
  have HW5 := Lib.hid hw5
  have HK12 := Lib.hid k125
  have HH12 := Lib.hid h12
  clear hw4 hg12 k12 hb4 hrw4 hrr4 hw5 k125 h12 hmq
  go_upto_region 4 with fail
  rw [← HW5.out]
  clear y0 y1 y2 yf
  have y2 := HK12.out.cell 2
  simp at y2
  go_wp2_with fail
  clear y2
  have hu0 : updW bb aa mq 0 = mq := by simp [updW]
  go_loopw [38] (fun u wr => ∃ i : Nat, i ≤ M ∧ u = .int .i64 (i : Int) ∧ Hid (Below w2'.heap.size w2' wr) ∧ Hid (Blk wr g12 26 #[.int .i64 p.cut, .int .i64 (p.margin + mg), .slice (some ⟨gq, 0, none⟩) M cq]) ∧ Hid (wr.ownsRow w2'.heap.size 41 4 (.slice (some ⟨gq, 0, none⟩) M cq) M ((updW bb aa mq i).flatMap encWeb)) ∧ Hid (∀ j (h : j < mq.length), wr.ownsRow w2'.heap.size 54 4 (.slice mq[j].2.1 mq[j].1.reels.length mq[j].2.2) mq[j].1.reels.length (mq[j].1.reels.flatMap encReel))) (fun u _ => M - (intOf u).toNat)
  case atStart => exact ⟨0, Nat.zero_le _, rfl, HB5, HK12, Lib.hid (by rw [hu0]; exact HRW5.out), HRR5⟩
  case round =>
    obtain ⟨i, hi, rfl, HBL, HK, HRW, HRR⟩ := hrel
    by_cases hlt : i < M
    · have hil : i < mq.length := by have := HML.out; omega
      have hget := updW_get bb aa mq hil
      have hmem : mq[i].1 ∈ p.webs := by rw [← HMQ0.out.eq]; exact List.mem_map.2 ⟨_, List.getElem_mem hil, rfl⟩
      have hvb := HPW.out _ hmem
      have hupd := updW_s bb aa mq hil
      have hfl := flat4 bb aa _ _ _ hget
      rw [← hupd] at hfl
      obtain ⟨⟨v, vA, vc⟩, hv⟩ : ∃ v, v = mq[i] := ⟨_, rfl⟩
      rw [← hv] at hget hvb hfl
      dsimp only at hvb hfl
      have hcl : ∀ (t : Nat) (u : Value), (encWeb (v, (vA, vc)))[t]? = some u → ((updW bb aa mq i).flatMap encWeb)[i * 4 + t]? = some u := fun t u hu => by
        have ht : t < 4 := by
          rcases Nat.lt_or_ge t 4 with h | h
          · exact h
          · rw [List.getElem?_eq_none (by exact h)] at hu; cases hu
        have h1 : (i * 4 + t) / 4 = i := by omega
        have h2 : (i * 4 + t) % 4 = t := by omega
        rw [flat_get (k := 4) (fun _ => rfl) (by omega) _ (i * 4 + t) (v, (vA, vc)) (by rw [h1]; exact hget), h2, hu]
      have hadd : ∀ t, (⟨gq, 0, none⟩ : Addr).add t = ⟨gq, t, none⟩ := fun t => by unfold Addr.add; split <;> simp_all
      have z2 := HRW.out.cells (g := gq) rfl (i * 4 + 2) (.int .i64 v.bef) (hcl 2 _ rfl)
      have z3 := HRW.out.cells (g := gq) rfl (i * 4 + 3) (.int .i64 v.aft) (hcl 3 _ rfl)
      have z0 := HRW.out.cells (g := gq) rfl (i * 4) (.slice vA v.reels.length vc) (hcl 0 _ rfl)
      rw [hadd] at z0 z2 z3
      have f2 := HRW.out.frozenAt (i * 4 + 2)
      have f3 := HRW.out.frozenAt (i * 4 + 3)
      have y2 := HK.out.cell 2
      simp at y2
      have z3' : ∀ u, (wr.setCell ⟨gq, i * 4 + 2, none⟩ u).cell? ⟨gq, i * 4 + 3, none⟩ = some (.int .i64 v.aft) := fun u => by
        rw [World.cell?_setCell_other _ _ _ _ (fun e => by injection e with _ e _; omega)]; exact z3
      have y2' : ∀ u, (wr.setCell ⟨gq, i * 4 + 2, none⟩ u).cell? ⟨g12, 2, none⟩ = some (.slice (some ⟨gq, 0, none⟩) M cq) := fun u => by
        rw [World.cell?_setCell_far _ _ _ _ (by exact HGQ.out)]; exact y2
      have k0 : (0 : Int) ≤ (i : Int) := by omega
      have k1 : (i : Int) < (M : Int) := by omega
      have k2 : IntKind.i64.wrap (v.bef + bb) = v.bef + bb := by rw [IntKind.wrap_i64]; omega
      have k3 : IntKind.i64.wrap (v.aft + aa) = v.aft + aa := by rw [IntKind.wrap_i64]; omega
      have HFL := Lib.hid hfl
      clear hget hmem hupd hfl hv hcl hadd
      go_wp2_with fail
      go_roundw
      case rel =>
        refine ⟨i + 1, by omega, by go_num, Lib.hid ?_, Lib.hid ?_, Lib.hid ?_, Lib.hid ?_⟩
        · have h1 := (own_at HRW.out (g := gq) rfl).2
          exact (HBL.out.setCell (by exact h1) _).setCell (by exact h1) _
        · exact (HK.out.far (p := ⟨gq, i * 4 + 2, none⟩) (fun e => HGQ.out e.symm) _).far (p := ⟨gq, i * 4 + 3, none⟩) (fun e => HGQ.out e.symm) _
        · rw [← HFL.out]; exact own_put (own_put HRW.out _ _) _ _
        · intro j h
          have h0 := own_own_ne (HRR.out j h) HRW.out (by decide)
          have h1 : some gq ≠ (Value.slice mq[j].2.1 mq[j].1.reels.length mq[j].2.2).ownBlock := by
            rcases h0 with h0 | h0
            · rw [h0]; simp
            · intro e; exact h0 (by rw [← e]; rfl)
          exact own_far (own_far (HRR.out j h) (p := ⟨gq, i * 4 + 2, none⟩) h1 _) (p := ⟨gq, i * 4 + 3, none⟩) h1 _
      case measure => simp [intOf]; omega
    · obtain rfl : i = M := by omega
      obtain ⟨w6, hw6⟩ : ∃ W, W = wr := ⟨_, rfl⟩
      rw [← hw6] at HBL HK HRW HRR ⊢
      clear hw6
      obtain ⟨Lq, hLq⟩ : ∃ L, L = mq.map (upW bb aa) := ⟨_, rfl⟩
      have hrow : w6.ownsRow w2'.heap.size 41 4 (.slice (some ⟨gq, 0, none⟩) Lq.length cq) Lq.length (Lq.flatMap encWeb) := by
        have h1 := HRW.out
        have h2 : updW bb aa mq i = Lq := by rw [hLq, ← updW_end, HML.out]
        have h3 : Lq.length = i := by rw [hLq, List.length_map, HML.out]
        rw [h2] at h1; rw [h3]; exact h1
      have HMQ := Lib.hid (show i = Lq.length from by rw [hLq, List.length_map, HML.out])
      have hpq : PrsAt w6 w6.heap.size q (some ⟨gq, 0, none⟩) Lq := by
        refine ⟨Sl.of_own (fun _ => rfl) hrow, ?_, fun j hj => ?_⟩
        · rw [hLq, List.map_map, HQE.out]
          show mq.map (fun m => moreW bb aa m.1) = p.webs.map (moreW bb aa)
          rw [← HMQ0.out.eq, List.map_map]; rfl
        · have hj' : j < mq.length := by rw [hLq, List.length_map] at hj; exact hj
          have e : Lq[j] = upW bb aa mq[j] := by simp [hLq]
          rw [e]
          exact Sl.of_own (fun _ => rfl) (HRR.out j hj')
      have HATQ := Lib.hid (show ∀ W, Below w6.heap.size w6 W → PrsAt W W.heap.size q (some ⟨gq, 0, none⟩) Lq from fun W hb => hpq.step hb)
      have HCQ := Lib.hid (show ∀ W, Below w6.heap.size w6 W → W.cell? ⟨g12, 0, none⟩ = some (.int .i64 q.cut) ∧ W.cell? ⟨g12, 1, none⟩ = some (.int .i64 q.margin) ∧ W.cell? ⟨g12, 2, none⟩ = some (.slice (some ⟨gq, 0, none⟩) i cq) from fun W hb => by
        have k := HK.out.below hb HK.out.lt
        have a0 := k.cell 0
        have a1 := k.cell 1
        have a2 := k.cell 2
        simp at a0 a1 a2
        rw [HQE.out]
        exact ⟨a0, a1, a2⟩)
      have HAT := Lib.hid (show ∀ W, Below w6.heap.size w6 W → PrsAt W W.heap.size p AW ms from fun W hb => HAT0.out W (bstep HBL.out hb))
      have HC := Lib.hid (show ∀ W, Below w6.heap.size w6 W → W.cell? ⟨g11, 0, none⟩ = some (.int .i64 p.cut) ∧ W.cell? ⟨g11, 1, none⟩ = some (.int .i64 p.margin) ∧ W.cell? ⟨g11, 2, none⟩ = some (.slice AW i c0) from fun W hb => HC0.out W (bstep HBL.out hb))
      have HBN := Lib.hid (Below.refl w6.heap.size w6)
      obtain ⟨x0, x1, x2⟩ := HC.out _ HBN.out
      obtain ⟨z0, z1, z2⟩ := HCQ.out _ HBN.out
      clear hLq hrow hpq
      go_upto_region 18 with first
        | (go_at_call 13; with_reducible refine (reach_c p AW c0 i ms _ (HAT.out _ HBN.out) HM.out HE.out R HR.out).mono ?_; rintro e wn ⟨rfl, HB⟩; have HBN := Lib.hid (bstep HBN.out HB.out); clear x0 x1 x2 z0 z1 z2; obtain ⟨x0, x1, x2⟩ := HC.out _ HBN.out; obtain ⟨z0, z1, z2⟩ := HCQ.out _ HBN.out; clear HB)
        | (go_at_call 14; with_reducible refine (thr14_c p AW c0 i ms _ (HAT.out _ HBN.out) HM.out HE.out n hn0 HNR.out S1 HS1.out).mono ?_; rintro e wn ⟨A1, c1, rfl, HSA, HB⟩; have HBN := Lib.hid (bstep HBN.out HB.out); clear x0 x1 x2 z0 z1 z2; obtain ⟨x0, x1, x2⟩ := HC.out _ HBN.out; obtain ⟨z0, z1, z2⟩ := HCQ.out _ HBN.out; clear HB)
        | (go_at_call 14; with_reducible refine (thr14_c q (some ⟨gq, 0, none⟩) cq i Lq _ (HATQ.out _ HBN.out) HMQ.out HEQ.out n hn0 HNRQ.out S2 HS2.out).mono ?_; rintro e wn ⟨A2, c2, rfl, HSB, HB⟩; have HBN := Lib.hid (bstep HBN.out HB.out); clear x0 x1 x2 z0 z1 z2; obtain ⟨x0, x1, x2⟩ := HC.out _ HBN.out; obtain ⟨z0, z1, z2⟩ := HCQ.out _ HBN.out; (try have HSA := Lib.hid ((HSA.out.below HB.out).mono HB.out.size)); clear HB)
      go_wp2_with fail
      obtain ⟨M1, hM1'⟩ : ∃ M, M = S1.length := ⟨_, rfl⟩
      have HM1 := Lib.hid hM1'
      rw [← hM1'] at hl1 ⊢
      clear hM1' x0 x1 x2 z0 z1 z2
      go_loopw [96] (fun u wr => ∃ k : Nat, k ≤ M1 ∧ u = .int .i64 (k : Int) ∧ Hid (Below wn.heap.size wn wr)) (fun u _ => M1 - (intOf u).toNat)
      case atStart => exact ⟨0, Nat.zero_le _, rfl, Below.refl _ _⟩
      case round =>
        obtain ⟨k, hk, rfl, HBR⟩ := hrel
        by_cases hlt2 : k < M1
        · have hkl : k < S1.length := by have := HM1.out; omega
          obtain ⟨b, off, hba, hbb, c0', c1'⟩ := Sl.at2 (HSA.out.below HBR.out) hkl
          have hany := HANY.out _ (List.getElem_mem hkl)
          obtain ⟨x, hxx⟩ : ∃ x, x = S1[k] := ⟨_, rfl⟩
          rw [← hxx] at c0' c1' hany
          obtain ⟨x1, x2⟩ := x
          dsimp only at c0' c1'
          obtain ⟨g21, hg21⟩ : ∃ g, g = wr.heap.size := ⟨_, rfl⟩
          obtain ⟨w7, hw7⟩ : ∃ W, W = wr.alloc (.cells #[.int .i64 x1, .int .i64 x2] 43) := ⟨_, rfl⟩
          have k21 : Blk w7 g21 43 #[.int .i64 x1, .int .i64 x2] := by rw [hw7, hg21]; exact Blk.new _ _ _
          have hb7 : Below wn.heap.size wn w7 := by rw [hw7]; exact balR HBR.out _
          have HMC := Lib.hid (mar_c A2 c2 S2 (x1, x2) g21 w7 (by omega) ((HSB.out.below hb7).mono hb7.size) k21 hany)
          have HB7 := Lib.hid hb7
          have HW7 := Lib.hid hw7
          have HG21 := Lib.hid hg21
          have i0 : (0 : Int) ≤ (k : Int) := by omega
          have i1 : (k : Int) < (M1 : Int) := by omega
          clear hxx hany hg21 hw7 k21 hb7
          rw [hba] at HSA ⊢
          go_upto_region 21 with fail
          rw [← HW7.out, ← HG21.out]
          clear c0' c1'
          go_wp2_with (go_at_call 19; with_reducible refine HMC.out.mono ?_; rintro e w8 ⟨rfl, HB⟩; have HBR := Lib.hid (bstep HB7.out HB.out); clear HB)
          go_roundw
          case rel => exact ⟨k + 1, by omega, by go_num, HBR⟩
          case measure => simp [intOf]; omega
        · obtain rfl : k = M1 := by omega
          have HBN := Lib.hid (bstep HBN.out HBR.out)
          obtain ⟨x0, x1, x2⟩ := HC.out _ HBN.out
          obtain ⟨z0, z1, z2⟩ := HCQ.out _ HBN.out
          by_cases hq2 : q2 = 0
          · have hr2 := (hrun.resolve_left (by simpa using hq2))
            obtain ⟨rfl, hle⟩ := hr2
            subst hq2
            have t1 : decide (r1 ≤ q1) = true := by simpa using hle
            clear hrun
            go_wp2_with first
              | (go_at_call 15; with_reducible refine (run_c p AW c0 i ms _ (HAT.out _ HBN.out) HM.out HE.out n r1 0 HRP.out).mono ?_; rintro e wn ⟨rfl, HB⟩; have HBN := Lib.hid (bstep HBN.out HB.out); clear x0 x1 x2 z0 z1 z2; obtain ⟨x0, x1, x2⟩ := HC.out _ HBN.out; obtain ⟨z0, z1, z2⟩ := HCQ.out _ HBN.out; clear HB)
              | (go_at_call 15; with_reducible refine (run_c q (some ⟨gq, 0, none⟩) cq i Lq _ (HATQ.out _ HBN.out) HMQ.out HEQ.out n q1 0 HRQ.out).mono ?_; rintro e wn ⟨rfl, HB⟩; have HBN := Lib.hid (bstep HBN.out HB.out); clear x0 x1 x2 z0 z1 z2; obtain ⟨x0, x1, x2⟩ := HC.out _ HBN.out; obtain ⟨z0, z1, z2⟩ := HCQ.out _ HBN.out; clear HB)
              | (go_at_call 17; with_reducible refine (haw _).mono ?_; rintro e wn ⟨rfl, hb⟩; have HBN := Lib.hid (bstep HBN.out hb); clear hb)
            go_ret
            exact ⟨rfl, HB1'.out.trans ((bstep (bstep HBW.out HBL.out) HBN.out).mono HB1'.out.size)⟩
          · have t1 : (q2 != 0) = true := by simpa using hq2
            clear hrun
            go_wp2_with first
              | (go_at_call 15; with_reducible refine (run_c p AW c0 i ms _ (HAT.out _ HBN.out) HM.out HE.out n r1 r2 HRP.out).mono ?_; rintro e wn ⟨rfl, HB⟩; have HBN := Lib.hid (bstep HBN.out HB.out); clear x0 x1 x2 z0 z1 z2; obtain ⟨x0, x1, x2⟩ := HC.out _ HBN.out; obtain ⟨z0, z1, z2⟩ := HCQ.out _ HBN.out; clear HB)
              | (go_at_call 15; with_reducible refine (run_c q (some ⟨gq, 0, none⟩) cq i Lq _ (HATQ.out _ HBN.out) HMQ.out HEQ.out n q1 q2 HRQ.out).mono ?_; rintro e wn ⟨rfl, HB⟩; have HBN := Lib.hid (bstep HBN.out HB.out); clear x0 x1 x2 z0 z1 z2; obtain ⟨x0, x1, x2⟩ := HC.out _ HBN.out; obtain ⟨z0, z1, z2⟩ := HCQ.out _ HBN.out; clear HB)
              | (go_at_call 17; with_reducible refine (haw _).mono ?_; rintro e wn ⟨rfl, hb⟩; have HBN := Lib.hid (bstep HBN.out hb); clear hb)
            go_ret
            exact ⟨rfl, HB1'.out.trans ((bstep (bstep HBW.out HBL.out) HBN.out).mono HB1'.out.size)⟩
end Go.Proofs.Ytnbnfadmbggfnaa
