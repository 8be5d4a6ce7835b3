/- Contract of the reference's slots; conditions: a right title and its editions in memory. -/
import Derived.Test.YtokdleanpkkdpaaU6
import Derived.Test.YtokdleanpkkdpaaR4
set_option linter.unusedSimpArgs false
set_option linter.unusedVariables false
namespace Go.Ed
open Go.Fh Go.RowKit Go.Proofs.Ytokdleanpkkdpaa
/-- the edition ahead of a place of an order -/
def preO (o : List Nat) (q : Nat) : Option Nat := if q = 0 then none else some (o.getD (q - 1) 0)
theorem preO_0 (o : List Nat) : preO o 0 = none := rfl
theorem preO_s (o : List Nat) {q : Nat} (h : q < o.length) : preO o (q + 1) = some o[q] := by simp [preO, h]
theorem slotAt_fol (t : TitD) (es : List EdD) (o : List Nat) {q : Nat} (h : q < o.length) : slotAt t es o q = folS t es o[q] (preO o q) (finAt t es o q) := by
  cases q with
  | zero => rw [slotAt_zero t es o h]; rfl
  | succ q => rw [slotAt_succ t es o h, preO_s o (by omega)]; rfl
theorem finAt_s (t : TitD) (es : List EdD) (o : List Nat) (q : Nat) : finAt t es o (q + 1) = (slotAt t es o q).fin := by simp [finAt]
theorem finAt_bd {t : TitD} (h : ChkOk t) {o : List Nat} (ho : ∀ e ∈ o, e < (edsR t).length) (hl : o.length ≤ 100) {q : Nat} (hq : q ≤ o.length) : 0 ≤ finAt t (edsR t) o q ∧ finAt t (edsR t) o q ≤ 100000000000 := by
  cases q with
  | zero => simp [finAt]
  | succ q =>
    rw [finAt_s]
    have := slotAt_bd h ho q (by omega)
    omega
end Go.Ed
namespace Go.Proofs.Ytokdleanpkkdpaa
open Go.RowKit Go.Fh Go.Ed
theorem slo_at {B : Nat} {w : World} {A : Option Addr} {l : List SloD} (h : Sl encSlo 4 w B A l) {k : Nat} (hk : k < l.length) :
    ∃ b off, A = some ⟨b, off, none⟩ ∧ b < B ∧ w.cell? ⟨b, off + k * 4, none⟩ = some (.int .i64 l[k].edition) ∧ w.cell? ⟨b, off + k * 4 + 1, none⟩ = some (.int .i64 l[k].plates) ∧ w.cell? ⟨b, off + k * 4 + 2, none⟩ = some (.int .i64 l[k].beg) ∧ w.cell? ⟨b, off + k * 4 + 3, none⟩ = some (.int .i64 l[k].fin) := by
  obtain ⟨b, off, hA, hb, hc⟩ := h.at_ hk
  exact ⟨b, off, hA, hb, hc 0 _ rfl, hc 1 _ rfl, hc 2 _ rfl, hc 3 _ rfl⟩
theorem infoRslo : (Try.prog.info? 106).map (fun i => (i.zero, i.size, i.bytes)) = some (some (.agg #[.int .i64 0, .int .i64 0, .int .i64 0, .int .i64 0]), 4, 32) := by kernel_rfl
set_option maxRecDepth 20000 in
set_option maxHeartbeats 4000000 in
theorem rslots_any (t : TitD) (hc : ChkOk t) (x : TA) (zs : List ZonM) (B : Nat) (A : Option Addr) (c : Nat) (es : List EdM) (Ao : Option Addr) (co : Nat) (o : List Nat) (w : World) (hs : Sizes t) (hT : TitAt w w.heap.size t x zs) (hR : RefAt w B t A c es) (hol : o.length ≤ 100) (ho : ∀ e ∈ o, e < (edsR t).length) (hO : Sl encInt 1 w w.heap.size Ao (o.map fun (e : Nat) => (e : Int))) :
    Calls Try.prog 100 #[.agg (titV t x), .slice A es.length c, .slice Ao o.length co] w fun e w' => ∃ A' c', e = .returned (.slice A' o.length c') ∧ w'.ownsRow w.heap.size 106 4 (.slice A' o.length c') o.length ((slotsD t (edsR t) o).flatMap encSlo) ∧ Below w.heap.size w w' := by
  obtain ⟨w1, hw1⟩ : ∃ W, W = w.alloc (.cells (titV t x) 88) := ⟨_, rfl⟩
  have hb1 : Below w.heap.size w w1 := by rw [hw1]; exact (Below.refl _ _).alloc (Nat.le_refl _) _
  obtain ⟨gT, hgT⟩ : ∃ g, g = w.heap.size := ⟨_, rfl⟩
  have kT : Blk w1 gT 88 (titV t x) := by rw [hw1, hgT]; exact Blk.new _ _ _
  have hgl : gT < w1.heap.size := kT.lt
  have hT1 := (hT.below hb1).mono hb1.size
  have hO1 := (hO.below hb1).mono hb1.size
  have hR1 := hR.below hb1
  have hlen := hR.len
  have HFO := Lib.hid (fun W (hb : Below w1.heap.size w1 W) (e : Nat) (ob : Option Nat) (fin : Int) (he : e < es.length) (hob : ∀ b, ob = some b → b < es.length) (h0 : 0 ≤ fin) (h1 : fin ≤ 100000000000) =>
    follow_any t hc.ok x A c es e ob fin W (by have := hc.n1; rw [hlen, edsR_len]; omega) he (edsR_ok hc (by rw [← hR.eds]; exact List.mem_map.2 ⟨_, List.getElem_mem he, rfl⟩))
      (fun i h => (edsR_zn hc (show es[i].1 ∈ edsR t by rw [← hR.eds]; exact List.mem_map.2 ⟨_, List.getElem_mem h, rfl⟩)).2.1) hob h0 h1 hs.s2 ((hT1.below hb).mono hb.size).cA ((hT1.below hb).mono hb.size).cB (hR1.below hb).hE (hR1.below hb).hV)
  rw [hR.eds] at HFO
  have r0 := kT.cell 0
  have r1 := kT.cell 1
  have r2 := kT.cell 2
  have r3 := kT.cell 3
  have r4 := kT.cell 4
  have r5 := kT.cell 5
  have r6 := kT.cell 6
  have r7 := kT.cell 7
  simp [titV] at r0 r1 r2 r3 r4 r5 r6 r7
  have SB := Lib.hid (show ∀ W, Below w1.heap.size w1 W → W.cell? ⟨gT, 0, none⟩ = some (.slice x.a t.colours.length x.ca) ∧ W.cell? ⟨gT, 1, none⟩ = some (.slice x.b t.pairs.length x.cb) ∧ W.cell? ⟨gT, 2, none⟩ = some (.slice x.z t.zones.length x.cz) ∧ W.cell? ⟨gT, 3, none⟩ = some (.slice x.r t.ready.length x.cr) ∧ W.cell? ⟨gT, 4, none⟩ = some (.int .i64 t.start) ∧ W.cell? ⟨gT, 5, none⟩ = some (.int .i64 t.rate) ∧ W.cell? ⟨gT, 6, none⟩ = some (.int .i64 t.stop) ∧ W.cell? ⟨gT, 7, none⟩ = some (.int .i64 t.hang) from fun W hb =>
    ⟨(hb.cell (p := ⟨gT, 0, none⟩) hgl).trans r0, (hb.cell (p := ⟨gT, 1, none⟩) hgl).trans r1, (hb.cell (p := ⟨gT, 2, none⟩) hgl).trans r2, (hb.cell (p := ⟨gT, 3, none⟩) hgl).trans r3, (hb.cell (p := ⟨gT, 4, none⟩) hgl).trans r4, (hb.cell (p := ⟨gT, 5, none⟩) hgl).trans r5, (hb.cell (p := ⟨gT, 6, none⟩) hgl).trans r6, (hb.cell (p := ⟨gT, 7, none⟩) hgl).trans r7⟩)
  have HB1 := Lib.hid hb1
  have HW1 := Lib.hid hw1
  have HGT := Lib.hid hgT
  have HO1 := Lib.hid hO1
  have HON := Lib.hid ho
  have HC := Lib.hid hc
  have HLN := Lib.hid hlen
  clear hb1 hw1 hgT kT hT1 hO1 hR1 hlen hT hO hR hs ho hc r0 r1 r2 r3 r4 r5 r6 r7
  obtain ⟨N, hN⟩ : ∃ n, n = es.length := ⟨_, rfl⟩
  rw [← hN] at HFO HLN ⊢
  clear hN
  unfold titV at *
  go_enter Try.func100, Try.ntmps100
  go_upto_region 1 with fail
  rw [← HW1.out, ← HGT.out]
  go_wp2_with fail
  go_loopw [7, 8, 9, 10] (fun v bf en i wr => ∃ q : Nat, q ≤ o.length ∧ i = .int .i64 q ∧ bf = .int .i64 ((preO o q).elim (-1) fun b => (b : Int)) ∧ en = .int .i64 (finAt t (edsR t) o q) ∧ Hid (wr.ownsRow w1.heap.size 106 4 v q ((upF (slotAt t (edsR t) o) q).flatMap encSlo)) ∧ Hid (Below w1.heap.size w1 wr)) (fun _ _ _ i _ => o.length - (intOf i).toNat)
  case atStart => exact ⟨0, Nat.zero_le _, rfl, rfl, rfl, World.ownsRow_nil _ _ _ _, Below.refl _ _⟩
  case round =>
    obtain ⟨q, hq, rfl, rfl, rfl, HV, HB⟩ := hrel
    obtain ⟨AR, cR, hvr⟩ := own_shape HV.out
    subst hvr
    obtain ⟨f1, hf1⟩ : ∃ f, f = finAt t (edsR t) o q := ⟨_, rfl⟩
    have hfb := finAt_bd HC.out HON.out hol hq
    rw [← hf1] at hfb ⊢
    obtain ⟨bv, hbv⟩ : ∃ v, v = (preO o q).elim (-1) fun b => (b : Int) := ⟨_, rfl⟩
    rw [← hbv]
    by_cases hlt : q < o.length
    · skip
      have hlm : q < (o.map fun (e : Nat) => (e : Int)).length := by simpa using hlt
      obtain ⟨ob, oo, hoa, hob, c0⟩ := (HO1.out.below HB.out).at1 hlm
      rw [List.getElem_map] at c0
      subst hoa
      have hoq := HON.out o[q] (List.getElem_mem hlt)
      obtain ⟨en, hen⟩ : ∃ e, e = o[q] := ⟨_, rfl⟩
      have hsl := slotAt_fol t (edsR t) o hlt
      obtain ⟨sl, hsl0⟩ : ∃ s, s = slotAt t (edsR t) o q := ⟨_, rfl⟩
      rw [← hf1, ← hen, ← hsl0] at hsl
      rw [← hen] at c0 hoq
      have hfn : finAt t (edsR t) o (q + 1) = sl.fin := by rw [finAt_s, hsl0]
      have hup : upF (slotAt t (edsR t) o) (q + 1) = upF (slotAt t (edsR t) o) q ++ [sl] := by rw [upF_succ, ← hsl0]
      have hpr : ((preO o (q + 1)).elim (-1) fun b => (b : Int)) = (en : Int) := by rw [preO_s o hlt, hen]; rfl
      have HFC := Lib.hid (show ∀ W, Below w1.heap.size w1 W → Calls Try.prog 118 #[.agg #[.slice x.a t.colours.length x.ca, .slice x.b t.pairs.length x.cb, .slice x.z t.zones.length x.cz, .slice x.r t.ready.length x.cr, .int .i64 t.start, .int .i64 t.rate, .int .i64 t.stop, .int .i64 t.hang], .slice A N c, .int .i64 (en : Int), .int .i64 bv, .int .i64 f1] W fun r w' => r = .returned (.agg #[.int .i64 sl.edition, .int .i64 sl.plates, .int .i64 sl.beg, .int .i64 sl.fin]) ∧ Below W.heap.size W w' from fun W hb => by
        rw [hbv]
        refine (HFO.out W hb en (preO o q) f1 (by rw [HLN.out]; exact hoq) ?_ hfb.1 hfb.2).mono ?_
        · intro b hb'
          cases hq0 : q with
          | zero => rw [hq0, preO_0] at hb'; cases hb'
          | succ q' =>
            subst hq0
            rw [preO_s o (by omega)] at hb'
            injection hb' with hb'
            rw [← hb', HLN.out]
            exact HON.out _ (List.getElem_mem _)
        · rintro r w' ⟨rfl, hb'⟩
          exact ⟨by rw [hsl]; rfl, hb'⟩)
      obtain ⟨wq, hwq⟩ : ∃ W, W = wr := ⟨_, rfl⟩
      rw [← hwq] at HV HB c0 ⊢
      have hobq : ob < wq.heap.size := Nat.lt_of_lt_of_le hob HB.out.size
      have hgTq : gT < wq.heap.size := Nat.lt_of_lt_of_le hgl HB.out.size
      have HSB := Lib.hid (show ∀ W, Below wq.heap.size wq W → (W.cell? ⟨gT, 0, none⟩ = some (.slice x.a t.colours.length x.ca) ∧ W.cell? ⟨gT, 1, none⟩ = some (.slice x.b t.pairs.length x.cb) ∧ W.cell? ⟨gT, 2, none⟩ = some (.slice x.z t.zones.length x.cz) ∧ W.cell? ⟨gT, 3, none⟩ = some (.slice x.r t.ready.length x.cr) ∧ W.cell? ⟨gT, 4, none⟩ = some (.int .i64 t.start) ∧ W.cell? ⟨gT, 5, none⟩ = some (.int .i64 t.rate) ∧ W.cell? ⟨gT, 6, none⟩ = some (.int .i64 t.stop) ∧ W.cell? ⟨gT, 7, none⟩ = some (.int .i64 t.hang)) ∧ W.cell? ⟨ob, oo + q, none⟩ = some (.int .i64 (en : Int)) from fun W hb =>
        ⟨SB.out W (HB.out.trans (hb.mono HB.out.size)), (hb.cell (p := ⟨ob, oo + q, none⟩) (by exact hobq)).trans c0⟩)
      have HFN := Lib.hid hfn
      have HUP := Lib.hid hup
      have HPR := Lib.hid hpr
      clear hwq hen hsl hsl0 hfn hup hpr hbv hf1 hoq c0
      obtain ⟨⟨r0, r1, r2, r3, r4, r5, r6, r7⟩, c0⟩ := HSB.out _ (Below.refl _ _)
      have i0 : (0 : Int) ≤ (q : Int) := by omega
      have i1 : (q : Int) < (o.length : Int) := by omega
      go_upto_region 6 with fail
      go_cut [11] (fun p wx => ∃ gS, p = .pointer (some ⟨gS, 0, none⟩) ∧ Hid (Blk wx gS 106 #[.int .i64 sl.edition, .int .i64 sl.plates, .int .i64 sl.beg, .int .i64 sl.fin]) ∧ Hid (wq.heap.size ≤ gS) ∧ Hid (Below wq.heap.size wq wx))
      case first =>
        skip
        go_region_law (go_simp; go_at_call 118; refine (HFC.out _ (HB.out.trans (show Below w1.heap.size wq _ from Below.mono (show Below wq.heap.size wq _ from by repeat (first | exact Below.refl _ _ | refine Below.drew ?_ | refine balR ?_ _)) HB.out.size))).mono ?_; rintro r w3 ⟨rfl, hb3⟩; (first | (have kS := blkA hb3; have KS := Lib.hid kS; have e0 := kS.cell 0; have e1 := kS.cell 1; have e2 := kS.cell 2; have e3 := kS.cell 3; have g0 := kS.frozen 0; have g1 := kS.frozen 1; have g2 := kS.frozen 2; have g3 := kS.frozen 3; simp at e0 e1 e2 e3; clear kS) | (have kS := blkA' hb3; have KS := Lib.hid kS; have e0 := kS.cell 0; have e1 := kS.cell 1; have e2 := kS.cell 2; have e3 := kS.cell 3; have g0 := kS.frozen 0; have g1 := kS.frozen 1; have g2 := kS.frozen 2; have g3 := kS.frozen 3; simp at e0 e1 e2 e3; clear kS) | skip); have HB3 := Lib.hid (Below.trans (show Below wq.heap.size wq _ from by repeat (first | exact Below.refl _ _ | refine Below.drew ?_ | refine balR ?_ _)) (hb3.mono (by first | exact Nat.le_refl _ | simp))); clear hb3; go_wp2_with fail)
        all_goals go_wp2
        all_goals go_meet
        all_goals
          refine ⟨_, rfl, ?_, ?_, ?_⟩
          · first
              | (with_reducible exact Lib.hid (blk4 KS.out))
              | (with_reducible exact Lib.hid (Blk.new _ _ _))
          · first
              | (with_reducible exact Lib.hid (Nat.le_refl _))
              | (with_reducible exact Lib.hid HB3.out.size)
          · first
              | (with_reducible exact Lib.hid ((((HB3.out.setCell (Nat.le_refl _) _).setCell (Nat.le_refl _) _).setCell (Nat.le_refl _) _).setCell (Nat.le_refl _) _))
              | (with_reducible exact Lib.hid (balR HB3.out _))
      case rest =>
        skip
        obtain ⟨gS, rfl, HKS, HGE, HBS⟩ := hcut
        obtain ⟨w4, hw4⟩ : ∃ W, W = wc := ⟨_, rfl⟩
        rw [← hw4] at HKS HBS ⊢
        clear hw4 r0 r1 r2 r3 r4 r5 r6 r7 c0
        obtain ⟨-, c0⟩ := HSB.out _ HBS.out
        have kS4 := HKS.out
        have s0 := kS4.cell 0
        have s1 := kS4.cell 1
        have s2 := kS4.cell 2
        have s3 := kS4.cell 3
        simp at s0 s1 s2 s3
        have hgS4 := kS4.lt
        clear kS4
        obtain ⟨i0', hi, hq0, hq1, hq2⟩ := info_parts infoRslo
        have HI := Lib.hid hi
        have hm1 : q + 1 ≤ maxLen := by simp only [maxLen]; omega
        have hm2 : (q + 1) * 32 ≤ 140737488355328 := by omega
        have HV4 := Lib.hid (own_belowV HV.out HBS.out)
        have HNW := Lib.hid (show ∀ j, (Value.slice AR q cR).ownBlock = some j → j < wq.heap.size from fun j e => (HV.out.lt j e).2)
        have hs4 : w1.heap.size ≤ w4.heap.size := Nat.le_trans HB.out.size HBS.out.size
        clear hi
        go_wp2_with (at_builtin; refine wpList_append_lies _ rfl (.tmp 27) (.tmp 29) 102 rfl w1.heap.size 106 i0' _ 4 32 Try.underlying102 HI.out hq0 hq1 hq2 rfl (by decide) (.slice AR q cR) q ((upF (slotAt t (edsR t) o) q).flatMap encSlo) rfl (HV4.out.alloc _) ⟨w4.heap.size, 0, none⟩ 1 1 [.int .i64 sl.edition, .int .i64 sl.plates, .int .i64 sl.beg, .int .i64 sl.fin] rfl rfl (news_of1 w4 106 #[.int .i64 sl.edition, .int .i64 sl.plates, .int .i64 sl.beg, .int .i64 sl.fin]) (by intro u hu; simp at hu; rcases hu with rfl | rfl | rfl | rfl <;> rfl) (by decide) hm1 hm2 (by simp; omega) (w4.heap.size + 1) (by simp) ?_; intro g7 cap7 w7 hown7 hgrow7 hat7 hlt7; have hb7 := (balR HBS.out (.cells #[.int .i64 sl.edition, .int .i64 sl.plates, .int .i64 sl.beg, .int .i64 sl.fin] 106)); have HG7 := Lib.hid (Below.grown (show Below w1.heap.size w1 _ from HB.out.trans (hb7.mono HB.out.size)) hgrow7 (by have := hs4; simp; omega) (fun p hp => (HV4.out.lt p hp).1)); have HO7 := Lib.hid hown7; have k7 := (HKS.out.alloc (.cells #[.int .i64 sl.edition, .int .i64 sl.plates, .int .i64 sl.beg, .int .i64 sl.fin] 106)).grown hgrow7 (fun e => by have h1 := (HNW.out _ e.symm); have h2 := HGE.out; omega); have x0 := (hgrow7.cell_far ⟨ob, oo + q, none⟩ (by simp; omega) (fun e => by have h1 := (HV4.out.lt _ e.symm).1; have h2 := hob; simp at h1; omega)).trans (((balR (Below.refl w4.heap.size w4) _).cell (p := ⟨ob, oo + q, none⟩) (Nat.lt_of_lt_of_le hobq HBS.out.size)).trans c0); have s3' := k7.cell 3; simp at s3'; clear hown7 hgrow7 hat7 hb7 s0 s1 s2 s3 c0 k7)
        go_roundw
        case rel =>
          refine ⟨q + 1, by omega, by go_num, by rw [HPR.out], by rw [HFN.out], ?_, HG7⟩
          rw [HUP.out, List.flatMap_append]
          exact Lib.hid HO7.out
        case measure => simp [intOf]; omega
    · skip
      obtain rfl : q = o.length := by omega
      go_wp2_with fail
      go_ret
      exact ⟨AR, cR, rfl, by have := HV.out; exact World.ownsRow.mono this HB1.out.size, HB1.out.trans (HB.out.mono HB1.out.size)⟩
end Go.Proofs.Ytokdleanpkkdpaa
