/- Contract of the reference's Why; conditions: a title in memory. Printed by a program. -/
import Derived.Test.YtokdleanpkkdpaaM3
import Derived.Test.YtokdleanpkkdpaaU8
import Derived.Test.YtokdleanpkkdpaaSpecG
set_option linter.unusedSimpArgs false
set_option linter.unusedVariables false
namespace Go.Ed
open Go.Fh Go.RowKit Go.Proofs.Ytokdleanpkkdpaa
def bestO (b : Best) : List Nat := (b.map (·.1)).getD []
def bestP (b : Best) : Int := (b.map (·.2.1)).getD 0
def bestE (b : Best) : Int := (b.map (·.2.2)).getD 0
theorem bestO_some (o : List Nat) (p f : Int) : bestO (some (o, p, f)) = o := rfl
theorem bestP_some (o : List Nat) (p f : Int) : bestP (some (o, p, f)) = p := rfl
theorem bestE_some (o : List Nat) (p f : Int) : bestE (some (o, p, f)) = f := rfl
/-- what the first orders of a list leave -/
def scanK (t : TitD) (es : List EdD) (time : Bool) (L : List (List Nat)) (k : Nat) : Best := (L.take k).foldl (scan t es time) none
theorem scanK_0 (t : TitD) (es : List EdD) (time : Bool) (L : List (List Nat)) : scanK t es time L 0 = none := rfl
theorem scanK_s (t : TitD) (es : List EdD) (time : Bool) (L : List (List Nat)) {k : Nat} (h : k < L.length) : scanK t es time L (k + 1) = scan t es time (scanK t es time L k) L[k] := by
  unfold scanK
  rw [List.take_succ_eq_append_getElem h, List.foldl_append]
  rfl
theorem scanK_all (t : TitD) (es : List EdD) (time : Bool) (L : List (List Nat)) : scanK t es time L L.length = L.foldl (scan t es time) none := by
  unfold scanK; rw [List.take_length]
theorem best_scan {t : TitD} (h : ChkOk t) (time : Bool) : bestR t time = scanK t (edsR t) time (allO (edsR t).length ((edsR t).length + 1) []) (allO (edsR t).length ((edsR t).length + 1) []).length := by
  rw [scanK_all]
  have := dfs_scan (time := time) (slotE_pl h) ((edsR t).length + 1) [] none (by simp) (by simp) (fun _ => rfl)
  unfold bestR
  rw [show dfs t (edsR t) time ((edsR t).length + 1) [] 0 none none = dfs t (edsR t) time ((edsR t).length + 1) [] (runE t (edsR t) []).1 (runE t (edsR t) []).2.1 none from rfl, this]
theorem run_step (t : TitD) (es : List EdD) (o : List Nat) {k : Nat} (h : k < o.length) : (runE t es (o.take (k + 1))).1 = (runE t es (o.take k)).1 + (slotAt t es o k).plates ∧ (runE t es (o.take (k + 1))).2.2 = ((runE t es (o.take k)).2.2 || lateB es (slotAt t es o k)) := by
  have h1 : runE t es (o.take (k + 1)) = stepE t es (runE t es (o.take k)) o[k] := by
    rw [List.take_succ_eq_append_getElem h, runE_snoc]
  have h2 : slotAt t es o k = slotE t es (runE t es (o.take k)).2.1 o[k] := by
    unfold slotAt
    rw [h1]
    rfl
  rw [h1, h2]
  exact ⟨rfl, rfl⟩
theorem run_bd {t : TitD} (h : ChkOk t) (o : List Nat) {k : Nat} (hk : k ≤ o.length) : 0 ≤ (runE t (edsR t) (o.take k)).1 ∧ (runE t (edsR t) (o.take k)).1 ≤ 100000 * k := by
  rw [runE_sum t (edsR t) o k hk]
  exact sumN_bd fun i hi => slotAt_pl h o (by omega)
theorem late_due (es : List EdD) (s : SloD) {e : Nat} (h : s.edition = (e : Int)) : lateB es s = decide ((es.getD e ed0).due < s.fin) := by
  unfold lateB; rw [h]; rfl
theorem boolN : ∀ q l1 l2 l3 tm : Bool, q = false → (q || (l1 || (l2 && tm && l3))) = true → (l1 || (tm && l2 && l3)) = true := by decide
theorem boolO : ∀ q l1 l2 l3 tm : Bool, (q || (l1 || (l2 && tm && l3))) = false → (l1 || (tm && l2 && l3)) = false := by decide
theorem eds_get {l : List EdM} {e : Nat} (h : e < l.length) : (l.map (·.1)).getD e ed0 = l[e].1 := by
  rw [List.getD_eq_getElem?_getD]; simp [h]
/-- none was met, or the best one so far -/
def BestIs (b : Best) (o : List Nat) (p f : Int) : Prop := (b = none ∧ o = [] ∧ p = 0 ∧ f = 0) ∨ (b = some (o, p, f) ∧ 0 < o.length)
theorem BestIs.o {b : Best} {o : List Nat} {p f : Int} (h : BestIs b o p f) : bestO b = o ∧ bestP b = p := by
  rcases h with ⟨rfl, rfl, rfl, rfl⟩ | ⟨rfl, _⟩ <;> exact ⟨rfl, rfl⟩
end Go.Ed
namespace Go.Proofs.Ytokdleanpkkdpaa
open Go.RowKit Go.Fh Go.Ed
set_option maxRecDepth 20000 in
set_option maxHeartbeats 4000000 in
theorem rbest_any (t : TitD) (x : TA) (zs : List ZonM) (w : World) (hs : Sizes t) (hT : TitAt w w.heap.size t x zs) (hc : checkT t = 0) (time : Bool) :
    Calls Try.prog 116 #[.agg #[.slice x.a t.colours.length x.ca, .slice x.b t.pairs.length x.cb, .slice x.z t.zones.length x.cz, .slice x.r t.ready.length x.cr, .int .i64 t.start, .int .i64 t.rate, .int .i64 t.stop, .int .i64 t.hang], .bool time] w fun e w' => ∃ (A : Option Addr) (c : Nat), e = .returned (.tuple #[.slice A (bestO (bestR t time)).length c, .int .i64 (bestP (bestR t time))]) ∧ Hid (Sl encInt 1 w' w'.heap.size A (casts (bestO (bestR t time)))) ∧ Hid (Below w.heap.size w w') := by
  obtain ⟨w1, gT, HW1, HGT, HB1, HTB⟩ := tit_box t x zs w hT
  have hck := chk_ok hc
  have hn7 : (edsR t).length ≤ 7 := by rw [edsR_len]; exact hck.n1
  have hn1 : 1 ≤ (edsR t).length := by rw [edsR_len]; exact hck.n0
  have HCK := Lib.hid hck
  have HS := Lib.hid hs
  obtain ⟨n, hn⟩ : ∃ n, n = (edsR t).length := ⟨_, rfl⟩
  rw [← hn] at hn7 hn1
  have HN := Lib.hid hn
  obtain ⟨L, hL⟩ : ∃ L, L = allO n (n + 1) [] := ⟨_, rfl⟩
  have HBR := Lib.hid (show bestR t time = scanK t (edsR t) time L L.length by rw [best_scan hck time, hL, hn])
  have HLM := Lib.hid (show ∀ o ∈ L, o.length = n ∧ ∀ e ∈ o, e < n from fun o ho => by
    rw [hL] at ho
    have h := allO_perm ho
    exact ⟨by rw [h.length_eq, List.length_range], fun e he => by simpa using (h.mem_iff (a := e)).1 he⟩)
  have HLL := Lib.hid (show L.length ≤ 16777216 by
    rw [hL]
    have h1 := allO_len n hn7 (n + 1) []
    have h2 : (8 : Nat) ^ (n + 1) ≤ 8 ^ 8 := Nat.pow_le_pow_right (by omega) (by omega)
    have h3 : (8 : Nat) ^ 8 = 16777216 := by decide
    omega)
  have HOR := Lib.hid (show ∀ W, Calls Try.prog 127 #[.slice none 0 0, .int .i64 (n : Int)] W fun e w' => ∃ (A : Option Addr) (c : Nat) (ms : List SlM), e = .returned (.slice A ms.length c) ∧ Hid (ms.map (·.1) = L.map casts) ∧ Hid (Sl encSl1 1 w' w'.heap.size A ms) ∧ Hid (∀ i (h : i < ms.length), RowI w' ms[i].2.1 ms[i].1) ∧ Hid (Below W.heap.size W w') from fun W =>
    (orders_ref n hn7 (n + 1) [] none 0 W (by omega) (by simp) (by simp) (fun h => absurd rfl h)).mono (by
      rintro e w' ⟨A, c, ms, rfl, _, hm, ho, hr, hb⟩
      exact ⟨A, c, ms, rfl, by rw [hL]; exact hm, Sl.of_own (enc := encSl1) (fun _ => rfl) ho, fun i h => hr _ (List.getElem_mem h), hb⟩))
  have HRE := Lib.hid (fun W hb => reds_any t x zs W hs (HTB.out W hb).1 hck.rgt)
  obtain ⟨-, r0, r1, r2, r3, r4, r5, r6, r7⟩ := HTB.out w1 (Below.refl _ _)
  unfold titV at *
  clear hT hs hc hck hn hL
  go_enter Try.func116, Try.ntmps116
  go_upto_region 1 with fail
  rw [← HW1.out, ← HGT.out]
  go_upto_region 3 with first
    | (go_at_call 96; refine (HRE.out _ (Below.refl _ _)).mono ?_; rintro e w2 ⟨A2, c2, es, rfl, hr2, hb2⟩; have hln := hr2.len; rw [← HN.out] at hln; have HR2 := Lib.hid hr2; have HB2 := Lib.hid hb2; clear hr2 hb2; rw [hln]; have HLN := Lib.hid hln; clear hln)
    | (go_at_call 127; refine (HOR.out _).mono ?_; rintro e w3 ⟨A3, c3, ms, rfl, HM3, HS3, HR3, HB3⟩)
  have hml : ms.length = L.length := by have := congrArg List.length HM3.out; simpa using this
  have hll := HLL.out
  obtain ⟨m, hm⟩ : ∃ m, m = ms.length := ⟨_, rfl⟩
  have hm9 : m ≤ 16777216 := by omega
  have HMS := Lib.hid hm
  have HML := Lib.hid (show m = L.length by omega)
  rw [← hm]
  clear hm hml hll r0 r1 r2 r3 r4 r5 r6 r7
  have HB13 := Lib.hid (HB2.out.trans (HB3.out.mono HB2.out.size))
  have HR23 := Lib.hid (HR2.out.below HB3.out)
  go_wp2_with fail
  go_loopw [8, 9, 10, 11] (fun v l f i wr => ∃ (k : Nat) (A : Option Addr) (c : Nat) (ob : List Nat) (p q : Int), k ≤ m ∧ i = .int .i64 k ∧ v = .slice A ob.length c ∧ l = .int .i64 p ∧ f = .int .i64 q ∧ Hid (BestIs (scanK t (edsR t) time L k) ob p q) ∧ Hid (RowI wr A (casts ob)) ∧ Hid (Below w3.heap.size w3 wr)) (fun _ _ _ i _ => m - (intOf i).toNat)
  case atStart => exact ⟨0, none, 0, [], 0, 0, Nat.zero_le _, rfl, rfl, rfl, rfl, Lib.hid (.inl ⟨rfl, rfl, rfl, rfl⟩), Lib.hid (fun h => absurd rfl h), Below.refl _ _⟩
  case round =>
    obtain ⟨k, A, c, ob, p, q, hk, rfl, rfl, rfl, rfl, HBI, HRW, HB⟩ := hrel
    by_cases hlt : k < m
    · skip
      have hkl : k < L.length := by have := HML.out; omega
      have hkm : k < ms.length := by have := HMS.out; omega
      obtain ⟨o, ho⟩ : ∃ o, o = L[k] := ⟨_, rfl⟩
      have HSC := Lib.hid (show scanK t (edsR t) time L (k + 1) = scan t (edsR t) time (scanK t (edsR t) time L k) o by rw [scanK_s _ _ _ _ hkl, ho])
      obtain ⟨hol, hoe⟩ := HLM.out o (by rw [ho]; exact List.getElem_mem hkl)
      have hmk : ms[k].1 = casts o := by
        have h1 : (ms.map (·.1))[k]'(by simpa using hkm) = (L.map casts)[k]'(by simpa using hkl) := List.getElem_of_eq HM3.out _
        rw [List.getElem_map, List.getElem_map] at h1
        rw [h1, ho]
      obtain ⟨pb, po, hpa, hpb, c0⟩ := sl1_at HS3.out hkm
      have hr := HR3.out k hkm
      rw [hmk, casts_len, hol] at c0
      rw [hmk] at hr
      obtain ⟨aO, haO⟩ : ∃ a, a = ms[k].2.1 := ⟨_, rfl⟩
      obtain ⟨cO, hcO⟩ : ∃ a, a = ms[k].2.2 := ⟨_, rfl⟩
      rw [← haO, ← hcO] at c0
      rw [← haO] at hr
      subst hpa
      have HRO := Lib.hid hr
      have HOL := Lib.hid hol
      have HOE := Lib.hid hoe
      have hsz3 := HB.out.size
      have HWB := Lib.hid (fun W (hb : Below wr.heap.size wr W) => HB.out.trans (hb.mono hsz3))
      have H1B := Lib.hid (fun W (hb : Below wr.heap.size wr W) => HB13.out.trans ((HWB.out W hb).mono HB13.out.size))
      have HSB := Lib.hid (show ∀ W, Below wr.heap.size wr W → (W.cell? ⟨gT, 0, none⟩ = some (.slice x.a t.colours.length x.ca) ∧ W.cell? ⟨gT, 1, none⟩ = some (.slice x.b t.pairs.length x.cb) ∧ W.cell? ⟨gT, 2, none⟩ = some (.slice x.z t.zones.length x.cz) ∧ W.cell? ⟨gT, 3, none⟩ = some (.slice x.r t.ready.length x.cr) ∧ W.cell? ⟨gT, 4, none⟩ = some (.int .i64 t.start) ∧ W.cell? ⟨gT, 5, none⟩ = some (.int .i64 t.rate) ∧ W.cell? ⟨gT, 6, none⟩ = some (.int .i64 t.stop) ∧ W.cell? ⟨gT, 7, none⟩ = some (.int .i64 t.hang)) ∧ W.cell? ⟨pb, po + k, none⟩ = some (.slice aO n cO) from fun W hb =>
        ⟨(HTB.out W (H1B.out W hb)).2, ((HWB.out W hb).cell (p := ⟨pb, po + k, none⟩) (by exact hpb)).trans c0⟩)
      have HSL := Lib.hid (show ∀ W, Below wr.heap.size wr W → Calls Try.prog 100 #[.agg #[.slice x.a t.colours.length x.ca, .slice x.b t.pairs.length x.cb, .slice x.z t.zones.length x.cz, .slice x.r t.ready.length x.cr, .int .i64 t.start, .int .i64 t.rate, .int .i64 t.stop, .int .i64 t.hang], .slice A2 n c2, .slice aO n cO] W fun e w' => ∃ A' c', e = .returned (.slice A' n c') ∧ Hid (Sl encSlo 4 w' w'.heap.size A' (slotsD t (edsR t) o)) ∧ Hid (Below W.heap.size W w') from fun W hb => by
        have hlo := HOL.out
        have h := rslots_any t HCK.out x zs w1.heap.size A2 c2 es aO cO o W HS.out (HTB.out W (H1B.out W hb)).1 (HR23.out.below (HWB.out W hb)) (by omega) (by rw [← HN.out]; exact HOE.out) ((HRO.out.below (HWB.out W hb)).sl)
        rw [HLN.out, hlo] at h
        refine h.mono ?_
        rintro e w' ⟨A', c', rfl, hw, hb'⟩
        refine ⟨A', c', rfl, ?_, hb'⟩
        have : (slotsD t (edsR t) o).length = n := by unfold slotsD; rw [upF_len, hlo]
        exact Lib.hid (Sl.of_own (base := W.heap.size) (e := 106) (c := c') (fun _ => rfl) (by rw [this]; exact hw)))
      obtain ⟨⟨r0, r1, r2, r3, r4, r5, r6, r7⟩, c0⟩ := HSB.out _ (Below.refl _ _)
      have i0 : (0 : Int) ≤ (k : Int) := by omega
      have i1 : (k : Int) < (m : Int) := by omega
      clear ho hcO haO hol hoe hmk hr
      go_upto_region 8 with fail
      go_cut [12] (fun v wx => ∃ As cs, v = .slice As n cs ∧ Hid (Sl encSlo 4 wx wx.heap.size As (slotsD t (edsR t) o)) ∧ Hid (Below wr.heap.size wr wx))
      case first =>
        skip
        clear r0 r1 r2 r3 r4 r5 r6 r7 c0
        go_region_held3 (fun W => (W.cell? ⟨gT, 0, none⟩ = some (.slice x.a t.colours.length x.ca) ∧ W.cell? ⟨gT, 1, none⟩ = some (.slice x.b t.pairs.length x.cb) ∧ W.cell? ⟨gT, 2, none⟩ = some (.slice x.z t.zones.length x.cz) ∧ W.cell? ⟨gT, 3, none⟩ = some (.slice x.r t.ready.length x.cr) ∧ W.cell? ⟨gT, 4, none⟩ = some (.int .i64 t.start) ∧ W.cell? ⟨gT, 5, none⟩ = some (.int .i64 t.rate) ∧ W.cell? ⟨gT, 6, none⟩ = some (.int .i64 t.stop) ∧ W.cell? ⟨gT, 7, none⟩ = some (.int .i64 t.hang)) ∧ W.cell? ⟨pb, po + k, none⟩ = some (.slice aO n cO))
          ((refine HSB.out _ ?_; (repeat (with_reducible first | exact Below.refl _ _ | exact HB4.out | refine Below.drew ?_)); done))
          ((go_at_call 100; with_reducible refine (HSL.out _ (by repeat (with_reducible first | exact Below.refl _ _ | refine Below.drew ?_))).mono ?_; rintro e w4 ⟨As, cs, rfl, HSS, hb⟩; have HB4 := Lib.hid (Below.trans (show Below wr.heap.size wr _ from by repeat (with_reducible first | exact Below.refl _ _ | refine Below.drew ?_)) (hb.out.mono (by first | exact Nat.le_refl _ | simp))); clear hb))
        all_goals go_wp2
        all_goals go_meet
        all_goals exact ⟨As, cs, rfl, HSS, HB4⟩
      case rest =>
        skip
        obtain ⟨As, cs, rfl, HSS, HB4⟩ := hcut
        obtain ⟨w4, hw4⟩ : ∃ W, W = wc := ⟨_, rfl⟩
        rw [← hw4] at HSS HB4 ⊢
        clear hw4 r0 r1 r2 r3 r4 r5 r6 r7 c0
        go_wp2_with fail
        go_loopw [13, 14, 15, 16] (fun nn en lt qq wr2 => ∃ (j : Nat), j ≤ n ∧ qq = .int .i64 j ∧ nn = .int .i64 (runE t (edsR t) (o.take j)).1 ∧ en = .int .i64 (finAt t (edsR t) o j) ∧ lt = .bool (runE t (edsR t) (o.take j)).2.2 ∧ w4 = wr2) (fun _ _ _ qq _ => n - (intOf qq).toNat)
        case atStart => exact ⟨0, Nat.zero_le _, rfl, rfl, rfl, rfl, rfl⟩
        case round =>
          obtain ⟨j, hj, rfl, rfl, rfl, rfl, rfl⟩ := hrel
          by_cases hlj : j < n
          · skip
            have hjo : j < o.length := by have := HOL.out; omega
            obtain ⟨hr1, hr2⟩ := run_step t (edsR t) o hjo
            have hbd := run_bd HCK.out o (k := j) (by omega)
            have hpl := slotAt_pl HCK.out o hjo
            have hfs := finAt_s t (edsR t) o j
            obtain ⟨sl, hsl⟩ : ∃ s, s = slotAt t (edsR t) o j := ⟨_, rfl⟩
            obtain ⟨e, he⟩ : ∃ e, e = o[j] := ⟨_, rfl⟩
            have hed : sl.edition = (e : Int) := by rw [hsl, he]; exact slotAt_ed t (edsR t) o hjo
            have hld := late_due (edsR t) sl hed
            have hel : e < es.length := by rw [HLN.out, he]; exact HOE.out _ (List.getElem_mem hjo)
            have hesd : ((edsR t).getD e ed0).due = es[e].1.due := by
              have h := HR23.out.eds
              rw [← h, eds_get hel]
            obtain ⟨eb, eo, rfl, heb, d0, d1, d2, d3, d4⟩ := Sl.atEd (HR23.out.below (HWB.out w4 HB4.out)).hE hel
            have hsn : j < (slotsD t (edsR t) o).length := by unfold slotsD; rw [upF_len]; exact hjo
            obtain ⟨sb, so, rfl, hsb, s0, s1, s2, s3⟩ := slo_at HSS.out hsn
            have hsg : (slotsD t (edsR t) o)[j] = sl := by rw [hsl]; simp [slotsD, upF]
            rw [hsg] at s0 s1 s2 s3
            rw [hed] at s0
            obtain ⟨du, hdu⟩ : ∃ d, d = es[e].1.due := ⟨_, rfl⟩
            rw [← hdu] at d3 hesd
            rw [hesd] at hld
            rw [← hsl] at hr1 hr2 hpl hfs
            obtain ⟨p0, hp0⟩ : ∃ z, z = (runE t (edsR t) (o.take j)).1 := ⟨_, rfl⟩
            obtain ⟨f0, hf0⟩ : ∃ z, z = finAt t (edsR t) o j := ⟨_, rfl⟩
            obtain ⟨l0, hl0⟩ : ∃ z, z = (runE t (edsR t) (o.take j)).2.2 := ⟨_, rfl⟩
            rw [← hp0] at hr1 hbd ⊢
            rw [← hf0]
            rw [← hl0] at hr2 ⊢
            rw [hld] at hr2
            obtain ⟨l1, hl1⟩ : ∃ b, b = decide (du < sl.fin) := ⟨_, rfl⟩
            rw [← hl1] at hr2
            have ht1 := hl1.symm
            have hel2 : e < n := by have := HLN.out; omega
            have HR1 := Lib.hid hr1
            have HR2b := Lib.hid hr2
            have HFS := Lib.hid hfs
            have i2 : (0 : Int) ≤ (j : Int) := by omega
            have i3 : (j : Int) < (n : Int) := by omega
            have i4 : (0 : Int) ≤ (e : Int) := by omega
            have i5 : (e : Int) < (n : Int) := by omega
            clear hr1 hr2 hfs hsl he hed hld hesd hdu hp0 hf0 hl0 hl1 hsg d0 d1 d2 d4 s2
            cases l0
            · cases l1
              · go_wp2_with fail
                go_roundw
                case rel => exact ⟨j + 1, by omega, by go_num, by rw [HR1.out], by rw [HFS.out], by rw [HR2b.out]; rfl, trivial⟩
                case measure => simp [intOf]; omega
              · go_wp2_with fail
                go_roundw
                case rel => exact ⟨j + 1, by omega, by go_num, by rw [HR1.out], by rw [HFS.out], by rw [HR2b.out]; rfl, trivial⟩
                case measure => simp [intOf]; omega
            · clear ht1
              go_wp2_with fail
              go_roundw
              case rel => exact ⟨j + 1, by omega, by go_num, by rw [HR1.out], by rw [HFS.out], by rw [HR2b.out]; rfl, trivial⟩
              case measure => simp [intOf]; omega
          · skip
            obtain rfl : j = n := by omega
            have hRn := run_bd HCK.out o (k := o.length) (Nat.le_refl _)
            rw [show o.take j = o from by rw [← HOL.out]; exact List.take_length]
            rw [List.take_length] at hRn
            have hfe := fin_end t (edsR t) o
            rw [HOL.out] at hfe
            rw [hfe]
            have hfb := finAt_bd HCK.out (o := o) (by rw [← HN.out]; exact HOE.out) (by have := HOL.out; omega) (q := o.length) (Nat.le_refl _)
            rw [HOL.out, hfe] at hfb
            have hscan : scan t (edsR t) time (scanK t (edsR t) time L k) o = if time && (runE t (edsR t) o).2.2 then scanK t (edsR t) time L k else if better time (scanK t (edsR t) time L k) (runE t (edsR t) o).1 (endE (runE t (edsR t) o)) then some (o, (runE t (edsR t) o).1, endE (runE t (edsR t) o)) else scanK t (edsR t) time L k := rfl
            rw [← HSC.out] at hscan
            obtain ⟨b0, hb0⟩ : ∃ b, b = scanK t (edsR t) time L k := ⟨_, rfl⟩
            rw [← hb0] at HBI hscan
            obtain ⟨pn, hpn⟩ : ∃ z, z = (runE t (edsR t) o).1 := ⟨_, rfl⟩
            obtain ⟨en, hen⟩ : ∃ z, z = endE (runE t (edsR t) o) := ⟨_, rfl⟩
            obtain ⟨lt, hlt0⟩ : ∃ z, z = (runE t (edsR t) o).2.2 := ⟨_, rfl⟩
            rw [← hpn, ← hen, ← hlt0] at hscan
            rw [← hpn] at hRn ⊢
            rw [← hen] at hfb ⊢
            rw [← hlt0]
            have HSC2 := Lib.hid hscan
            have hop : 0 < o.length := by have := HOL.out; omega
            have HOP := Lib.hid hop
            obtain ⟨⟨r0, r1, r2, r3, r4, r5, r6, r7⟩, c0⟩ := HSB.out _ HB4.out
            have HB4W := Lib.hid (HB.out.trans (HB4.out.mono HB.out.size))
            have HRWn := Lib.hid (HRO.out.below HB4W.out)
            have HRWo := Lib.hid (HRW.out.below HB4.out)
            clear hb0 hpn hen hlt0 hscan hop hfe
            obtain ⟨lq, hlq⟩ : ∃ z, z = ((ob.length : Int) == 0) := ⟨_, rfl⟩
            have hlq1 := hlq.symm
            obtain ⟨l1, hl1⟩ : ∃ z, z = decide (pn < p) := ⟨_, rfl⟩
            have hl11 := hl1.symm
            obtain ⟨l2, hl2⟩ : ∃ z, z = ((pn : Int) == p) := ⟨_, rfl⟩
            have hl21 := hl2.symm
            obtain ⟨l3, hl3⟩ : ∃ z, z = decide (en < q) := ⟨_, rfl⟩
            have hl31 := hl3.symm
            have HTK := Lib.hid (show (time && lt) = true → BestIs (scanK t (edsR t) time L (k + 1)) ob p q from fun h => by
              rw [HSC2.out, if_pos h]; exact HBI.out)
            have HTN := Lib.hid (show (time && lt) = false → (lq || (l1 || (l2 && time && l3))) = true → BestIs (scanK t (edsR t) time L (k + 1)) o pn en from fun h h2 => by
              rw [HSC2.out, if_neg (by simp [h])]
              rcases HBI.out with ⟨h0, _⟩ | ⟨h0, hpo⟩
              · rw [h0]; exact .inr ⟨rfl, HOP.out⟩
              · rw [h0]
                have hq : lq = false := by rw [hlq]; simp; intro h; rw [h] at hpo; simp at hpo
                have hbt : better time (some (ob, p, q)) pn en = (l1 || (time && l2 && l3)) := by rw [hl1, hl2, hl3]; rfl
                rw [if_pos (by rw [hbt]; exact boolN _ _ _ _ _ hq h2)]
                exact .inr ⟨rfl, HOP.out⟩)
            have HTO := Lib.hid (show (time && lt) = false → (lq || (l1 || (l2 && time && l3))) = false → BestIs (scanK t (edsR t) time L (k + 1)) ob p q from fun h h2 => by
              rw [HSC2.out, if_neg (by simp [h])]
              rcases HBI.out with ⟨h0, h1, _⟩ | ⟨h0, hpo⟩
              · exfalso
                rw [h1] at hlq
                rw [show lq = true from by rw [hlq]; rfl] at h2
                simp at h2
              · have hbt : better time (some (ob, p, q)) pn en = (l1 || (time && l2 && l3)) := by rw [hl1, hl2, hl3]; rfl
                rw [h0, if_neg (by rw [hbt, boolO _ _ _ _ _ h2]; simp), ← h0]
                exact HBI.out)
            have i0' : (0 : Int) ≤ (k : Int) := by omega
            clear hlq hl1 hl2 hl3 HSC2
            cases time <;> cases lt
            · clear hl31
              cases lq
              · cases l1
                · cases l2
                  · go_wp2_with fail
                    go_roundw
                    case rel => exact ⟨k + 1, A, c, ob, p, q, by omega, by go_num, rfl, rfl, rfl, Lib.hid (HTO.out rfl (by simp)), HRWo, HB4W⟩
                    case measure => simp [intOf]; omega
                  · go_wp2_with fail
                    go_roundw
                    case rel => exact ⟨k + 1, A, c, ob, p, q, by omega, by go_num, rfl, rfl, rfl, Lib.hid (HTO.out rfl (by simp)), HRWo, HB4W⟩
                    case measure => simp [intOf]; omega
                · go_wp2_with fail
                  go_roundw
                  case rel => exact ⟨k + 1, aO, cO, o, pn, en, by omega, by go_num, by rw [HOL.out], rfl, rfl, Lib.hid (HTN.out rfl (by simp)), HRWn, HB4W⟩
                  case measure => simp [intOf]; omega
              · go_wp2_with fail
                go_roundw
                case rel => exact ⟨k + 1, aO, cO, o, pn, en, by omega, by go_num, by rw [HOL.out], rfl, rfl, Lib.hid (HTN.out rfl (by simp)), HRWn, HB4W⟩
                case measure => simp [intOf]; omega
            · clear hl31
              cases lq
              · cases l1
                · cases l2
                  · go_wp2_with fail
                    go_roundw
                    case rel => exact ⟨k + 1, A, c, ob, p, q, by omega, by go_num, rfl, rfl, rfl, Lib.hid (HTO.out rfl (by simp)), HRWo, HB4W⟩
                    case measure => simp [intOf]; omega
                  · go_wp2_with fail
                    go_roundw
                    case rel => exact ⟨k + 1, A, c, ob, p, q, by omega, by go_num, rfl, rfl, rfl, Lib.hid (HTO.out rfl (by simp)), HRWo, HB4W⟩
                    case measure => simp [intOf]; omega
                · go_wp2_with fail
                  go_roundw
                  case rel => exact ⟨k + 1, aO, cO, o, pn, en, by omega, by go_num, by rw [HOL.out], rfl, rfl, Lib.hid (HTN.out rfl (by simp)), HRWn, HB4W⟩
                  case measure => simp [intOf]; omega
              · go_wp2_with fail
                go_roundw
                case rel => exact ⟨k + 1, aO, cO, o, pn, en, by omega, by go_num, by rw [HOL.out], rfl, rfl, Lib.hid (HTN.out rfl (by simp)), HRWn, HB4W⟩
                case measure => simp [intOf]; omega
            · cases lq
              · cases l1
                · cases l2
                  · go_wp2_with fail
                    go_roundw
                    case rel => exact ⟨k + 1, A, c, ob, p, q, by omega, by go_num, rfl, rfl, rfl, Lib.hid (HTO.out rfl (by simp)), HRWo, HB4W⟩
                    case measure => simp [intOf]; omega
                  · cases l3
                    · go_wp2_with fail
                      go_roundw
                      case rel => exact ⟨k + 1, A, c, ob, p, q, by omega, by go_num, rfl, rfl, rfl, Lib.hid (HTO.out rfl (by simp)), HRWo, HB4W⟩
                      case measure => simp [intOf]; omega
                    · go_wp2_with fail
                      go_roundw
                      case rel => exact ⟨k + 1, aO, cO, o, pn, en, by omega, by go_num, by rw [HOL.out], rfl, rfl, Lib.hid (HTN.out rfl (by simp)), HRWn, HB4W⟩
                      case measure => simp [intOf]; omega
                · go_wp2_with fail
                  go_roundw
                  case rel => exact ⟨k + 1, aO, cO, o, pn, en, by omega, by go_num, by rw [HOL.out], rfl, rfl, Lib.hid (HTN.out rfl (by simp)), HRWn, HB4W⟩
                  case measure => simp [intOf]; omega
              · go_wp2_with fail
                go_roundw
                case rel => exact ⟨k + 1, aO, cO, o, pn, en, by omega, by go_num, by rw [HOL.out], rfl, rfl, Lib.hid (HTN.out rfl (by simp)), HRWn, HB4W⟩
                case measure => simp [intOf]; omega
            · clear hlq1 hl11 hl21 hl31
              go_wp2_with fail
              go_roundw
              case rel => exact ⟨k + 1, A, c, ob, p, q, by omega, by go_num, rfl, rfl, rfl, Lib.hid (HTK.out rfl), HRWo, HB4W⟩
              case measure => simp [intOf]; omega
    · skip
      obtain rfl : k = m := by omega
      go_wp2_with fail
      go_ret2
      have h := HBI.out
      rw [HML.out, ← HBR.out] at h
      obtain ⟨h1, h2⟩ := h.o
      rw [h1, h2]
      exact ⟨A, c, rfl, Lib.hid HRW.out.sl, Lib.hid (HB1.out.trans ((HB13.out.trans (HB.out.mono HB13.out.size)).mono HB1.out.size))⟩
end Go.Proofs.Ytokdleanpkkdpaa
namespace Go.Ed
open Go.Fh Go.RowKit Go.Proofs.Ytokdleanpkkdpaa
def fewP (t : TitD) : List Nat × Int × Int := if checkT t ≠ 0 then ([], 0, checkT t) else (bestO (bestR t false), bestP (bestR t false), 0)
def besP (t : TitD) : List Nat × Int × Int := if checkT t ≠ 0 then ([], 0, checkT t) else if (bestR t true).isSome then (bestO (bestR t true), bestP (bestR t true), 0) else ([], 0, 4)
theorem best_len {t : TitD} (h : ChkOk t) (time : Bool) {o : List Nat} {p f : Int} (hb : bestR t time = some (o, p, f)) : o.length = (edsR t).length ∧ 0 < o.length := by
  have hn1 : 1 ≤ (edsR t).length := by rw [edsR_len]; exact h.n0
  have key : ∀ k, k ≤ (allO (edsR t).length ((edsR t).length + 1) []).length → ∀ o p f, scanK t (edsR t) time (allO (edsR t).length ((edsR t).length + 1) []) k = some (o, p, f) → o.length = (edsR t).length := by
    intro k
    induction k with
    | zero => intro _ o p f h; cases h
    | succ k ih =>
      intro hk o p f h
      rw [scanK_s _ _ _ _ (by omega)] at h
      unfold scan at h
      split at h
      · exact ih (by omega) o p f h
      · split at h
        · injection h with h
          have h1 := congrArg (·.1) h
          dsimp only at h1
          rw [← h1, (allO_perm (List.getElem_mem (by omega))).length_eq, List.length_range]
        · exact ih (by omega) o p f h
  rw [best_scan h] at hb
  have := key _ (Nat.le_refl _) o p f hb
  omega
end Go.Ed
namespace Go.Proofs.Ytokdleanpkkdpaa
open Go.RowKit Go.Fh Go.Ed
set_option maxRecDepth 20000 in
set_option maxHeartbeats 4000000 in
theorem ref73_any (t : TitD) (x : TA) (zs : List ZonM) (w : World) (hs : Sizes t) (hT : TitAt w w.heap.size t x zs) (r : List Nat × Int × Int) (hr : r = fewP t) :
    Calls Try.prog 73 #[.agg #[.slice x.a t.colours.length x.ca, .slice x.b t.pairs.length x.cb, .slice x.z t.zones.length x.cz, .slice x.r t.ready.length x.cr, .int .i64 t.start, .int .i64 t.rate, .int .i64 t.stop, .int .i64 t.hang]] w fun e w' => ∃ (A : Option Addr) (c : Nat), e = .returned (.tuple #[.slice A r.1.length c, .int .i64 r.2.1, .int .i64 r.2.2]) ∧ Hid (Sl encInt 1 w' w'.heap.size A (casts r.1)) ∧ Hid (Below w.heap.size w w') := by
  obtain ⟨w1, gT, HW1, HGT, HB1, HTB⟩ := tit_box t x zs w hT
  obtain ⟨hT1, r0, r1, r2, r3, r4, r5, r6, r7⟩ := HTB.out w1 (Below.refl _ _)
  have HCK := Lib.hid (rcheck_any t x zs w1 hs hT1)
  unfold titV at *
  by_cases hc : checkT t = 0
  · skip
    have hr2 : r = (bestO (bestR t false), bestP (bestR t false), 0) := by rw [hr]; unfold fewP; rw [if_neg (by simpa using hc)]
    subst hr2
    clear hr
    have HBE := Lib.hid (fun W hb => rbest_any t x zs W hs (HTB.out W hb).1 hc false)
    obtain ⟨ob, hob⟩ : ∃ o, o = bestO (bestR t false) := ⟨_, rfl⟩
    obtain ⟨pb, hpb⟩ : ∃ o, o = bestP (bestR t false) := ⟨_, rfl⟩
    rw [← hob, ← hpb] at HBE ⊢
    rw [hc] at HCK
    clear hT hT1 hs hc hob hpb
    go_enter Try.func73, Try.ntmps73
    go_upto_region 1 with fail
    rw [← HW1.out, ← HGT.out]
    go_wp2_with first
      | (go_at_call 42; refine HCK.out.mono ?_; rintro e w2 ⟨rfl, hb2⟩; have HB2 := Lib.hid hb2; clear hb2 r0 r1 r2 r3 r4 r5 r6 r7; obtain ⟨-, r0, r1, r2, r3, r4, r5, r6, r7⟩ := HTB.out w2 HB2.out)
      | (go_at_call 116; refine (HBE.out _ HB2.out).mono ?_; rintro e w3 ⟨A3, c3, rfl, HS3, HB3⟩)
    go_ret3
    exact ⟨A3, c3, rfl, HS3, Lib.hid (HB1.out.trans ((HB2.out.trans (HB3.out.mono HB2.out.size)).mono HB1.out.size))⟩
  · skip
    have hr2 : r = ([], 0, checkT t) := by rw [hr]; unfold fewP; rw [if_pos hc]
    subst hr2
    clear hr
    obtain ⟨ck, hck⟩ : ∃ c, c = checkT t := ⟨_, rfl⟩
    rw [← hck] at HCK hc ⊢
    have ht : (ck != 0) = true := by simpa using hc
    have ht2 : (ck == 0) = false := by simpa using hc
    clear hT hT1 hs hc hck
    go_enter Try.func73, Try.ntmps73
    go_upto_region 1 with fail
    rw [← HW1.out, ← HGT.out]
    go_wp2_with (go_at_call 42; refine HCK.out.mono ?_; rintro e w2 ⟨rfl, hb2⟩; have HB2 := Lib.hid hb2; clear hb2)
    go_ret3
    exact ⟨none, 0, rfl, Lib.hid Sl.nil, Lib.hid (HB1.out.trans (HB2.out.mono HB1.out.size))⟩
set_option maxRecDepth 20000 in
set_option maxHeartbeats 4000000 in
theorem ref74_any (t : TitD) (x : TA) (zs : List ZonM) (w : World) (hs : Sizes t) (hT : TitAt w w.heap.size t x zs) (r : List Nat × Int × Int) (hr : r = besP t) :
    Calls Try.prog 74 #[.agg #[.slice x.a t.colours.length x.ca, .slice x.b t.pairs.length x.cb, .slice x.z t.zones.length x.cz, .slice x.r t.ready.length x.cr, .int .i64 t.start, .int .i64 t.rate, .int .i64 t.stop, .int .i64 t.hang]] w fun e w' => ∃ (A : Option Addr) (c : Nat), e = .returned (.tuple #[.slice A r.1.length c, .int .i64 r.2.1, .int .i64 r.2.2]) ∧ Hid (Sl encInt 1 w' w'.heap.size A (casts r.1)) ∧ Hid (Below w.heap.size w w') := by
  obtain ⟨w1, gT, HW1, HGT, HB1, HTB⟩ := tit_box t x zs w hT
  obtain ⟨hT1, r0, r1, r2, r3, r4, r5, r6, r7⟩ := HTB.out w1 (Below.refl _ _)
  have HCK := Lib.hid (rcheck_any t x zs w1 hs hT1)
  unfold titV at *
  by_cases hc : checkT t = 0
  · skip
    have hr2 : r = if (bestR t true).isSome then (bestO (bestR t true), bestP (bestR t true), 0) else ([], 0, 4) := by rw [hr]; unfold besP; rw [if_neg (by simpa using hc)]
    clear hr
    have hck := chk_ok hc
    have HBE := Lib.hid (fun W hb => rbest_any t x zs W hs (HTB.out W hb).1 hc true)
    obtain ⟨ob, hob⟩ : ∃ o, o = bestO (bestR t true) := ⟨_, rfl⟩
    obtain ⟨pb, hpb⟩ : ∃ o, o = bestP (bestR t true) := ⟨_, rfl⟩
    rw [← hob, ← hpb] at HBE
    rw [hc] at HCK
    cases hb : bestR t true
    · have hr3 : r = ([], 0, 4) := by rw [hr2, hb]; rfl
      subst hr3
      rw [hb] at hob
      have hb0 : ob = [] := hob
      subst hb0
      clear hb hr2 hck hT hT1 hs hc hob hpb
      go_enter Try.func74, Try.ntmps74
      go_upto_region 1 with fail
      rw [← HW1.out, ← HGT.out]
      go_wp2_with first
        | (go_at_call 42; refine HCK.out.mono ?_; rintro e w2 ⟨rfl, hb2⟩; have HB2 := Lib.hid hb2; clear hb2 r0 r1 r2 r3 r4 r5 r6 r7; obtain ⟨-, r0, r1, r2, r3, r4, r5, r6, r7⟩ := HTB.out w2 HB2.out)
        | (go_at_call 116; refine (HBE.out _ HB2.out).mono ?_; rintro e w3 ⟨A3, c3, rfl, HS3, HB3⟩)
      go_ret3
      exact ⟨none, 0, rfl, Lib.hid Sl.nil, Lib.hid (HB1.out.trans ((HB2.out.trans (HB3.out.mono HB2.out.size)).mono HB1.out.size))⟩
    · rename_i v
      obtain ⟨o', p', f'⟩ := v
      have hpos := (best_len hck true hb).2
      have hr3 : r = (ob, pb, 0) := by rw [hr2, hob, hpb, if_pos (by rw [hb]; rfl)]
      subst hr3
      rw [hb] at hob
      have hb0 : ob = o' := hob
      subst hb0
      have ht : ((ob.length : Int) == 0) = false := by simp; intro h; rw [h] at hpos; simp at hpos
      clear hb hr2 hck hpos hT hT1 hs hc hob hpb
      go_enter Try.func74, Try.ntmps74
      go_upto_region 1 with fail
      rw [← HW1.out, ← HGT.out]
      go_wp2_with first
        | (go_at_call 42; refine HCK.out.mono ?_; rintro e w2 ⟨rfl, hb2⟩; have HB2 := Lib.hid hb2; clear hb2 r0 r1 r2 r3 r4 r5 r6 r7; obtain ⟨-, r0, r1, r2, r3, r4, r5, r6, r7⟩ := HTB.out w2 HB2.out)
        | (go_at_call 116; refine (HBE.out _ HB2.out).mono ?_; rintro e w3 ⟨A3, c3, rfl, HS3, HB3⟩)
      go_ret3
      exact ⟨A3, c3, rfl, HS3, Lib.hid (HB1.out.trans ((HB2.out.trans (HB3.out.mono HB2.out.size)).mono HB1.out.size))⟩
  · skip
    have hr2 : r = ([], 0, checkT t) := by rw [hr]; unfold besP; rw [if_pos hc]
    subst hr2
    clear hr
    obtain ⟨ck, hck⟩ : ∃ c, c = checkT t := ⟨_, rfl⟩
    rw [← hck] at HCK hc ⊢
    have ht : (ck != 0) = true := by simpa using hc
    have ht2 : (ck == 0) = false := by simpa using hc
    clear hT hT1 hs hc hck
    go_enter Try.func74, Try.ntmps74
    go_upto_region 1 with fail
    rw [← HW1.out, ← HGT.out]
    go_wp2_with (go_at_call 42; refine HCK.out.mono ?_; rintro e w2 ⟨rfl, hb2⟩; have HB2 := Lib.hid hb2; clear hb2)
    go_ret3
    exact ⟨none, 0, rfl, Lib.hid Sl.nil, Lib.hid (HB1.out.trans (HB2.out.mono HB1.out.size))⟩
end Go.Proofs.Ytokdleanpkkdpaa
namespace Go.Ed
open Go.Fh Go.RowKit Go.Proofs.Ytokdleanpkkdpaa
theorem putV_b {es : List EdD} {old : Int} {s : SloD} {l1 l2 l3 : Bool} {du : Int} {e : Nat} (he : s.edition = (e : Int)) (hd : (es.getD e ed0).due = du) (h1 : decide (s.fin ≤ du) = l1) (h2 : decide (old < 0) = l2) (h3 : decide (s.fin < old) = l3) : putV es old s = if l1 && (l2 || l3) then s.fin else old := by
  unfold putV
  rw [late_due es s he, hd, h2, h3]
  have : (!decide (du < s.fin)) = l1 := by rw [← h1]; by_cases h : du < s.fin <;> simp [h] <;> omega
  rw [this]
end Go.Ed
namespace Go.Proofs.Ytokdleanpkkdpaa
open Go.RowKit Go.Fh Go.Ed
set_option maxRecDepth 20000 in
set_option maxHeartbeats 4000000 in
theorem least_any (t : TitD) (hc : ChkOk t) (hs : Sizes t) (x : TA) (zs : List ZonM) (B : Nat) (A : Option Addr) (c : Nat) (es : List EdM) (n : Nat) (hn : n = (edsR t).length) : ∀ (m S : Nat), S ≤ m → S < 2 ^ n → ∀ (last : Nat), last < n → ∀ (w : World), TitAt w w.heap.size t x zs → RefAt w B t A c es →
    Calls Try.prog 117 #[.agg #[.slice x.a t.colours.length x.ca, .slice x.b t.pairs.length x.cb, .slice x.z t.zones.length x.cz, .slice x.r t.ready.length x.cr, .int .i64 t.start, .int .i64 t.rate, .int .i64 t.stop, .int .i64 t.hang], .slice A n c, .int .i64 (S : Int), .int .i64 (last : Int)] w fun e w' => e = .returned (.int .i64 (leaT t (edsR t) S last)) ∧ Hid (Below w.heap.size w w') := by
  intro m
  induction m with
  | zero =>
    intro S hS hS2 last hl w hT hR
    obtain rfl : S = 0 := by omega
    obtain ⟨w1, gT, HW1, HGT, HB1, HTB⟩ := tit_box t x zs w hT
    have hv : leaT t (edsR t) 0 last = -1 := by rw [leaT_eq, if_pos (bit_zero last)]
    rw [hv]
    unfold titV at *
    have ba : bits .and .i64 (((0 : Nat) : Int) / 2 ^ last) 1 = 0 := bit_nil (by omega) (bit_zero last)
    have l0 : (0 : Int) ≤ (last : Int) := by omega
    clear hT hR hv hn hs hc
    go_enter Try.func117, Try.ntmps117
    go_wp2_with fail
    go_ret
    exact ⟨rfl, Lib.hid (balR (Below.refl _ _) _)⟩
  | succ m ih =>
    intro S hS hS2 last hl w hT hR
    obtain ⟨w1, gT, HW1, HGT, HB1, HTB⟩ := tit_box t x zs w hT
    have hn7 : n ≤ 7 := by rw [hn, edsR_len]; exact hc.n1
    have hS128 : S < 128 := Nat.lt_of_lt_of_le hS2 (pow_le128 hn7)
    have l0 : (0 : Int) ≤ (last : Int) := by omega
    have l1 : (last : Int) < (n : Int) := by omega
    have HLV := Lib.hid (leaT_eq t (edsR t) S last)
    have HR1 := Lib.hid (fun W (hb : Below w1.heap.size w1 W) => hR.below (HB1.out.trans (hb.mono HB1.out.size)))
    have hel : last < es.length := by rw [hR.len, ← hn]; exact hl
    have hen : es.length = n := by rw [hR.len, hn]
    have heds := hR.eds
    have hesd : ((edsR t).getD last ed0).due = es[last].1.due := by
      rw [← heds, eds_get hel]
    obtain ⟨du, hdu⟩ : ∃ d, d = es[last].1.due := ⟨_, rfl⟩
    obtain ⟨eb, eo, hea, heb, -, -, -, d3, -⟩ := Sl.atEd (HR1.out w1 (Below.refl _ _)).hE hel
    subst hea
    rw [← hdu] at d3 hesd
    have HED := Lib.hid hesd
    have HFO := Lib.hid (fun W (hb : Below w1.heap.size w1 W) (ob : Option Nat) (fin : Int) (hob : ∀ b, ob = some b → b < es.length) (h0 : 0 ≤ fin) (h1 : fin ≤ 86400) =>
      follow_any t hc.ok x (some ⟨eb, eo, none⟩) c es last ob fin W (by omega) hel (edsR_ok hc (by rw [← heds]; exact List.mem_map.2 ⟨_, List.getElem_mem hel, rfl⟩))
        (fun i h => (edsR_zn hc (show es[i].1 ∈ edsR t by rw [← heds]; exact List.mem_map.2 ⟨_, List.getElem_mem h, rfl⟩)).2.1) hob h0 (by omega) hs.s2 (HTB.out W hb).1.cA (HTB.out W hb).1.cB (HR1.out W hb).hE (HR1.out W hb).hV)
    rw [heds, hen] at HFO
    have HD := Lib.hid (show ∀ W, Below w1.heap.size w1 W → (W.cell? ⟨gT, 0, none⟩ = some (.slice x.a t.colours.length x.ca) ∧ W.cell? ⟨gT, 1, none⟩ = some (.slice x.b t.pairs.length x.cb) ∧ W.cell? ⟨gT, 2, none⟩ = some (.slice x.z t.zones.length x.cz) ∧ W.cell? ⟨gT, 3, none⟩ = some (.slice x.r t.ready.length x.cr) ∧ W.cell? ⟨gT, 4, none⟩ = some (.int .i64 t.start) ∧ W.cell? ⟨gT, 5, none⟩ = some (.int .i64 t.rate) ∧ W.cell? ⟨gT, 6, none⟩ = some (.int .i64 t.stop) ∧ W.cell? ⟨gT, 7, none⟩ = some (.int .i64 t.hang)) ∧ W.cell? ⟨eb, eo + last * 5 + 3, none⟩ = some (.int .i64 du) from fun W hb => ⟨(HTB.out W hb).2, (hb.cell (p := ⟨eb, eo + last * 5 + 3, none⟩) (by exact heb)).trans d3⟩)
    have HIH := Lib.hid (show ∀ S' b W, S' ≤ m → S' < 2 ^ n → b < n → Below w1.heap.size w1 W → Calls Try.prog 117 #[.agg #[.slice x.a t.colours.length x.ca, .slice x.b t.pairs.length x.cb, .slice x.z t.zones.length x.cz, .slice x.r t.ready.length x.cr, .int .i64 t.start, .int .i64 t.rate, .int .i64 t.stop, .int .i64 t.hang], .slice (some ⟨eb, eo, none⟩) n c, .int .i64 (S' : Int), .int .i64 (b : Int)] W fun e w' => e = .returned (.int .i64 (leaT t (edsR t) S' b)) ∧ Hid (Below W.heap.size W w') from fun S' b W h1 h2 h3 hb => ih S' h1 h2 b h3 W (HTB.out W hb).1 (HR1.out W hb))
    obtain ⟨⟨r0, r1, r2, r3, r4, r5, r6, r7⟩, e0⟩ := HD.out w1 (Below.refl _ _)
    have HC := Lib.hid hc
    have HN := Lib.hid hn
    have HEB := Lib.hid heb
    unfold titV at *
    clear hT hR hc hs hn ih hesd hdu heds hel hen heb d3
    cases hbt : bitB S last
    · skip
      have ba : bits .and .i64 ((S : Int) / 2 ^ last) 1 = 0 := bit_nil hS128 hbt
      have hv : leaT t (edsR t) S last = -1 := by rw [HLV.out, if_pos hbt]
      rw [hv]
      clear hv hbt
      go_enter Try.func117, Try.ntmps117
      go_wp2_with fail
      go_ret
      exact ⟨rfl, Lib.hid (balR (Below.refl _ _) _)⟩
    · skip
      have ba : bits .and .i64 ((S : Int) / 2 ^ last) 1 = 1 := bit_one hS128 hbt
      obtain ⟨pl, hpl⟩ : ∃ p, p = 2 ^ last := ⟨_, rfl⟩
      have sl : IntKind.i64.wrap ((2 : Int) ^ last) = (pl : Int) := shl_one (by omega) hpl
      have hple := bit_le hbt
      rw [← hpl] at hple
      have HLV2 := Lib.hid (show leaT t (edsR t) S last = if S = pl then putV (edsR t) (-1) (firstS t (edsR t) last) else leaG t (edsR t) (leaT t (edsR t) (S - pl)) last n by rw [HLV.out, if_neg (by simp [hbt]), hpl, HN.out])
      have HBS := Lib.hid (bit_sub S hS128 last (by omega) hbt)
      rw [← hpl] at HBS
      have hpl0 : 0 < pl := by rw [hpl]; exact Nat.two_pow_pos _
      clear hpl hbt
      by_cases hSp : S = pl
      · skip
        have he : ((S : Int) == (pl : Int)) = true := by simp [hSp]
        have hv : leaT t (edsR t) S last = putV (edsR t) (-1) (firstS t (edsR t) last) := by rw [HLV2.out, if_pos hSp]
        obtain ⟨s, hsf⟩ : ∃ s, s = firstS t (edsR t) last := ⟨_, rfl⟩
        rw [← hsf] at hv
        have hse : s.edition = (last : Int) := by rw [hsf]; rfl
        have H18 := Lib.hid (show ∀ W, Below w1.heap.size w1 W → Calls Try.prog 118 #[.agg #[.slice x.a t.colours.length x.ca, .slice x.b t.pairs.length x.cb, .slice x.z t.zones.length x.cz, .slice x.r t.ready.length x.cr, .int .i64 t.start, .int .i64 t.rate, .int .i64 t.stop, .int .i64 t.hang], .slice (some ⟨eb, eo, none⟩) n c, .int .i64 (last : Int), .int .i64 (-1), .int .i64 0] W fun r w' => r = .returned (.agg #[.int .i64 (last : Int), .int .i64 s.plates, .int .i64 s.beg, .int .i64 s.fin]) ∧ Hid (Below W.heap.size W w') from fun W hb =>
          (HFO.out W hb none 0 (fun b h => by cases h) (by omega) (by omega)).mono (by
            rintro r w' ⟨rfl, hb'⟩
            exact ⟨by rw [hsf]; rfl, hb'⟩))
        obtain ⟨t1, ht1⟩ : ∃ b, b = decide (s.fin ≤ du) := ⟨_, rfl⟩
        rw [hv, putV_b hse HED.out ht1.symm (l2 := true) (by simp) (l3 := decide (s.fin < -1)) rfl]
        have ht1' := ht1.symm
        clear hv hsf hse ht1 hSp
        go_enter Try.func117, Try.ntmps117
        go_upto_region 1 with fail
        rw [← HW1.out, ← HGT.out]
        go_upto_region 6 with (go_at_call 118; refine (H18.out _ (Below.refl _ _)).mono ?_; rintro e w2 ⟨rfl, HB2⟩)
        obtain ⟨w3, hw3⟩ : ∃ W, W = w2.alloc (.cells #[.int .i64 (last : Int), .int .i64 s.plates, .int .i64 s.beg, .int .i64 s.fin] 106) := ⟨_, rfl⟩
        obtain ⟨gS, hgS⟩ : ∃ g, g = w2.heap.size := ⟨_, rfl⟩
        rw [← hw3, ← hgS]
        have kS : Blk w3 gS 106 #[.int .i64 (last : Int), .int .i64 s.plates, .int .i64 s.beg, .int .i64 s.fin] := by rw [hw3, hgS]; exact Blk.new _ _ _
        have HB3 := Lib.hid (show Below w1.heap.size w1 w3 from by rw [hw3]; exact balR HB2.out _)
        have s3 := kS.cell 3
        simp at s3
        clear hw3 hgS kS r0 r1 r2 r3 r4 r5 r6 r7 e0
        obtain ⟨⟨r0, r1, r2, r3, r4, r5, r6, r7⟩, e0⟩ := HD.out w3 HB3.out
        go_quiet (fail)
        cases t1
        · go_wp2_with fail
          go_ret
          exact ⟨rfl, Lib.hid (HB1.out.trans ((below_drewN HB3.out _).mono HB1.out.size))⟩
        · go_wp2_with fail
          go_ret
          exact ⟨rfl, Lib.hid (HB1.out.trans ((below_drewN HB3.out _).mono HB1.out.size))⟩
      · skip
        have he : ((S : Int) == (pl : Int)) = false := by simp; omega
        have hv : leaT t (edsR t) S last = leaG t (edsR t) (leaT t (edsR t) (S - pl)) last n := by rw [HLV2.out, if_neg hSp]
        rw [hv]
        obtain ⟨S', hS'⟩ : ∃ s, s = S - pl := ⟨_, rfl⟩
        rw [← hS'] at HBS ⊢
        have hsb : (S : Int) - (pl : Int) = (S' : Int) := by omega
        have hsw : IntKind.i64.wrap ((S : Int) - (pl : Int)) = (S' : Int) := by rw [hsb, IntKind.wrap_i64]; omega
        have hS'w : IntKind.i64.wrap (S' : Int) = (S' : Int) := by rw [IntKind.wrap_i64]; omega
        have hS'm : S' ≤ m := by omega
        have HS2 := Lib.hid (show S' < 2 ^ n by omega)
        clear hv hS' hSp hS2 hS
        go_enter Try.func117, Try.ntmps117
        go_upto_region 1 with fail
        rw [← HW1.out, ← HGT.out]
        go_wp2_with fail
        clear r0 r1 r2 r3 r4 r5 r6 r7 e0
        go_loopw [9, 11] (fun u i wr => ∃ (b : Nat), b ≤ n ∧ i = .int .i64 b ∧ u = .int .i64 (leaG t (edsR t) (leaT t (edsR t) S') last b) ∧ Hid (Below w1.heap.size w1 wr)) (fun _ i _ => n - (intOf i).toNat)
        case atStart => exact ⟨0, Nat.zero_le _, rfl, rfl, Below.refl _ _⟩
        case round =>
          obtain ⟨b, hb, rfl, rfl, HB⟩ := hrel
          by_cases hlt : b < n
          · skip
            have HGS := Lib.hid (leaG_succ t (edsR t) (leaT t (edsR t) S') last b)
            have hge := leaT_ge (eds_posT HC.out) S' b
            have hle := leaT_le (t := t) (edsR_due HC.out) S' b
            have HLS := Lib.hid (leaT_eq t (edsR t) S' b)
            obtain ⟨gv, hgv⟩ : ∃ g, g = leaT t (edsR t) S' b := ⟨_, rfl⟩
            rw [← hgv] at HGS HLS hge hle
            obtain ⟨ov, hov⟩ : ∃ g, g = leaG t (edsR t) (leaT t (edsR t) S') last b := ⟨_, rfl⟩
            rw [← hov] at HGS ⊢
            have HOV := Lib.hid hov
            have i0 : (0 : Int) ≤ (b : Int) := by omega
            have i1 : (b : Int) < (n : Int) := by omega
            have HGV := Lib.hid hgv
            clear hgv hov
            obtain ⟨⟨r0, r1, r2, r3, r4, r5, r6, r7⟩, e0⟩ := HD.out wr HB.out
            by_cases hbl : b = last
            · skip
              have hz : gv < 0 := by rw [HLS.out, if_pos (by rw [hbl]; exact HBS.out.2.1)]; omega
              have HN2 := Lib.hid (show leaG t (edsR t) (leaT t (edsR t) S') last (b + 1) = ov by rw [HGS.out, if_pos hz])
              have hq : ((b : Int) == (last : Int)) = true := by simp [hbl]
              clear hz hbl hge hle
              go_wp2_with fail
              go_roundw
              case rel => exact ⟨b + 1, by omega, by go_num, by rw [HN2.out], HB⟩
              case measure => simp [intOf]; omega
            · skip
              have hq : ((b : Int) == (last : Int)) = false := by simp; omega
              cases hbb : bitB S b
              · skip
                have hz : gv < 0 := by rw [HLS.out, if_pos (by rw [HBS.out.2.2 b (by omega) hbl]; exact hbb)]; omega
                have HN2 := Lib.hid (show leaG t (edsR t) (leaT t (edsR t) S') last (b + 1) = ov by rw [HGS.out, if_pos hz])
                have bb : bits .and .i64 ((S : Int) / 2 ^ b) 1 = 0 := bit_nil hS128 hbb
                clear hz hbl hge hle hbb
                go_wp2_with fail
                go_roundw
                case rel => exact ⟨b + 1, by omega, by go_num, by rw [HN2.out], HB⟩
                case measure => simp [intOf]; omega
              · skip
                have bb : bits .and .i64 ((S : Int) / 2 ^ b) 1 = 1 := bit_one hS128 hbb
                have H17 := Lib.hid (show ∀ W, Below w1.heap.size w1 W → Calls Try.prog 117 #[.agg #[.slice x.a t.colours.length x.ca, .slice x.b t.pairs.length x.cb, .slice x.z t.zones.length x.cz, .slice x.r t.ready.length x.cr, .int .i64 t.start, .int .i64 t.rate, .int .i64 t.stop, .int .i64 t.hang], .slice (some ⟨eb, eo, none⟩) n c, .int .i64 (S' : Int), .int .i64 (b : Int)] W fun e w' => e = .returned (.int .i64 gv) ∧ Hid (Below W.heap.size W w') from fun W hb => by
                  rw [HGV.out]
                  exact HIH.out S' b W hS'm HS2.out hlt hb)
                clear hbb hbl
                go_upto_region 13 with fail
                clear r0 r1 r2 r3 r4 r5 r6 r7 e0
                go_region_held3 (fun W => W.cell? ⟨gT, 0, none⟩ = some (.slice x.a t.colours.length x.ca) ∧ W.cell? ⟨gT, 1, none⟩ = some (.slice x.b t.pairs.length x.cb) ∧ W.cell? ⟨gT, 2, none⟩ = some (.slice x.z t.zones.length x.cz) ∧ W.cell? ⟨gT, 3, none⟩ = some (.slice x.r t.ready.length x.cr) ∧ W.cell? ⟨gT, 4, none⟩ = some (.int .i64 t.start) ∧ W.cell? ⟨gT, 5, none⟩ = some (.int .i64 t.rate) ∧ W.cell? ⟨gT, 6, none⟩ = some (.int .i64 t.stop) ∧ W.cell? ⟨gT, 7, none⟩ = some (.int .i64 t.hang))
                  ((refine (HD.out _ ?_).1; (repeat (with_reducible first | exact HB.out | exact HB4.out | refine Below.drew ?_)); done))
                  ((go_at_call 117; with_reducible refine (H17.out _ (by repeat (with_reducible first | exact HB.out | refine Below.drew ?_))).mono ?_; rintro e w4 ⟨rfl, hb4⟩; have HB4 := Lib.hid (Below.trans (show Below w1.heap.size w1 _ from by repeat (with_reducible first | exact HB.out | refine Below.drew ?_)) (hb4.out.mono (by first | exact HB.out.size | (simp; exact HB.out.size)))); clear hb4))
                by_cases hg0 : gv < 0
                · have tg : decide (gv < 0) = true := by simpa using hg0
                  have HN2 := Lib.hid (show leaG t (edsR t) (leaT t (edsR t) S') last (b + 1) = ov by rw [HGS.out, if_pos hg0])
                  clear hg0 hge hle
                  go_wp2_with fail
                  go_roundw
                  case rel => exact ⟨b + 1, by omega, by go_num, by rw [HN2.out], HB4⟩
                  case measure => simp [intOf]; omega
                · have tg : decide (gv < 0) = false := by simpa using hg0
                  have HN2 := Lib.hid (show leaG t (edsR t) (leaT t (edsR t) S') last (b + 1) = putV (edsR t) ov (nextS t (edsR t) last b gv) by rw [HGS.out, if_neg hg0])
                  obtain ⟨s, hsf⟩ : ∃ s, s = nextS t (edsR t) last b gv := ⟨_, rfl⟩
                  rw [← hsf] at HN2
                  have hse : s.edition = (last : Int) := by rw [hsf]; rfl
                  have H18 := Lib.hid (show ∀ W, Below w1.heap.size w1 W → Calls Try.prog 118 #[.agg #[.slice x.a t.colours.length x.ca, .slice x.b t.pairs.length x.cb, .slice x.z t.zones.length x.cz, .slice x.r t.ready.length x.cr, .int .i64 t.start, .int .i64 t.rate, .int .i64 t.stop, .int .i64 t.hang], .slice (some ⟨eb, eo, none⟩) n c, .int .i64 (last : Int), .int .i64 (b : Int), .int .i64 gv] W fun r w' => r = .returned (.agg #[.int .i64 (last : Int), .int .i64 s.plates, .int .i64 s.beg, .int .i64 s.fin]) ∧ Hid (Below W.heap.size W w') from fun W hb' =>
                    (HFO.out W hb' (some b) gv (fun b' h => by injection h with h; omega) (by omega) (by omega)).mono (by
                      rintro r w' ⟨rfl, hb2⟩
                      exact ⟨by rw [hsf]; rfl, hb2⟩))
                  obtain ⟨t1, ht1⟩ : ∃ b, b = decide (s.fin ≤ du) := ⟨_, rfl⟩
                  obtain ⟨t2, ht2⟩ : ∃ b, b = decide (ov < 0) := ⟨_, rfl⟩
                  obtain ⟨t3, ht3⟩ : ∃ b, b = decide (s.fin < ov) := ⟨_, rfl⟩
                  have hp := putV_b hse HED.out ht1.symm ht2.symm ht3.symm
                  have HN3 := Lib.hid (HN2.out.trans hp)
                  have ht1' := ht1.symm
                  have ht2' := ht2.symm
                  have ht3' := ht3.symm
                  clear hp hsf hse ht1 ht2 ht3 hg0 hge hle HN2
                  obtain ⟨r0, r1, r2, r3, r4, r5, r6, r7⟩ := (HD.out w4 HB4.out).1
                  go_upto_region 16 with (go_at_call 118; refine (H18.out _ HB4.out).mono ?_; rintro e w5 ⟨rfl, hb5⟩; have HB5 := Lib.hid (HB4.out.trans (hb5.out.mono HB4.out.size)); clear hb5)
                  obtain ⟨w6, hw6⟩ : ∃ W, W = w5.alloc (.cells #[.int .i64 (last : Int), .int .i64 s.plates, .int .i64 s.beg, .int .i64 s.fin] 106) := ⟨_, rfl⟩
                  obtain ⟨gS, hgS⟩ : ∃ g, g = w5.heap.size := ⟨_, rfl⟩
                  rw [← hw6, ← hgS]
                  have kS : Blk w6 gS 106 #[.int .i64 (last : Int), .int .i64 s.plates, .int .i64 s.beg, .int .i64 s.fin] := by rw [hw6, hgS]; exact Blk.new _ _ _
                  have HB6 := Lib.hid (show Below w1.heap.size w1 w6 from by rw [hw6]; exact HB5.out.alloc HB5.out.size _)
                  have s3 := kS.cell 3
                  simp at s3
                  clear hw6 hgS kS r0 r1 r2 r3 r4 r5 r6 r7
                  obtain ⟨⟨r0, r1, r2, r3, r4, r5, r6, r7⟩, e0⟩ := HD.out w6 HB6.out
                  cases t1
                  · clear ht2' ht3'
                    go_quiet (fail)
                    go_wp2_with fail
                    go_roundw
                    case rel => exact ⟨b + 1, by omega, by go_num, by rw [HN3.out]; rfl, Lib.hid (below_drewN HB6.out _)⟩
                    case measure => simp [intOf]; omega
                  · cases t2
                    · cases t3
                      · go_quiet (fail)
                        go_wp2_with fail
                        go_roundw
                        case rel => exact ⟨b + 1, by omega, by go_num, by rw [HN3.out]; rfl, Lib.hid (below_drewN HB6.out _)⟩
                        case measure => simp [intOf]; omega
                      · go_quiet (fail)
                        go_wp2_with fail
                        go_roundw
                        case rel => exact ⟨b + 1, by omega, by go_num, by rw [HN3.out]; rfl, Lib.hid (below_drewN HB6.out _)⟩
                        case measure => simp [intOf]; omega
                    · clear ht3'
                      go_quiet (fail)
                      go_wp2_with fail
                      go_roundw
                      case rel => exact ⟨b + 1, by omega, by go_num, by rw [HN3.out]; rfl, Lib.hid (below_drewN HB6.out _)⟩
                      case measure => simp [intOf]; omega
          · skip
            obtain rfl : b = n := by omega
            go_wp2_with fail
            go_ret
            exact ⟨rfl, Lib.hid (HB1.out.trans (HB.out.mono HB1.out.size))⟩
end Go.Proofs.Ytokdleanpkkdpaa
namespace Go.Ed
open Go.Fh Go.RowKit Go.Proofs.Ytokdleanpkkdpaa
def whyP (t : TitD) : List Int × Int := if checkT t ≠ 0 then ([], checkT t) else if (bestR t true).isSome then ([], 9) else (tabL (edsR t).length (leaT t (edsR t)), 0)
theorem tabL_take {n S e : Nat} (f : Nat → Nat → Int) (hS : S < 2 ^ n) (he : e < n) : (tabL n f).take (S * n + e + 1) = (tabL n f).take (S * n + e) ++ [f S e] := by
  have h := at_lt hS he
  rw [List.take_succ_eq_append_getElem (by rw [tabL_len]; exact h), tabL_get f hS he]
end Go.Ed
namespace Go.Proofs.Ytokdleanpkkdpaa
open Go.RowKit Go.Fh Go.Ed
set_option maxRecDepth 20000 in
set_option maxHeartbeats 4000000 in
theorem why75_any (t : TitD) (x : TA) (zs : List ZonM) (w : World) (hs : Sizes t) (hT : TitAt w w.heap.size t x zs) (r : List Int × Int) (hr : r = whyP t) :
    Calls Try.prog 75 #[.agg #[.slice x.a t.colours.length x.ca, .slice x.b t.pairs.length x.cb, .slice x.z t.zones.length x.cz, .slice x.r t.ready.length x.cr, .int .i64 t.start, .int .i64 t.rate, .int .i64 t.stop, .int .i64 t.hang]] w fun e w' => ∃ (A : Option Addr) (c : Nat), e = .returned (.tuple #[.slice A r.1.length c, .int .i64 r.2]) ∧ Hid (Sl encInt 1 w' w'.heap.size A r.1) ∧ Hid (Below w.heap.size w w') := by
  obtain ⟨w1, gT, HW1, HGT, HB1, HTB⟩ := tit_box t x zs w hT
  obtain ⟨hT1, r0, r1, r2, r3, r4, r5, r6, r7⟩ := HTB.out w1 (Below.refl _ _)
  obtain ⟨b, hb⟩ : ∃ b, b = besP t := ⟨_, rfl⟩
  have HBE := Lib.hid (ref74_any t x zs w1 hs hT1 b hb)
  have HCK := Lib.hid (fun W hb => rcheck_any t x zs W hs (HTB.out W hb).1)
  unfold titV at *
  by_cases hc : checkT t = 0
  · by_cases hso : (bestR t true).isSome = true
    · skip
      have hr2 : r = ([], 9) := by rw [hr]; unfold whyP; rw [if_neg (by simpa using hc), if_pos hso]
      subst hr2
      have hb2 : b = (bestO (bestR t true), bestP (bestR t true), 0) := by rw [hb]; unfold besP; rw [if_neg (by simpa using hc), if_pos hso]
      obtain ⟨ob, hob⟩ : ∃ o, o = bestO (bestR t true) := ⟨_, rfl⟩
      obtain ⟨pb, hpb⟩ : ∃ o, o = bestP (bestR t true) := ⟨_, rfl⟩
      rw [← hob, ← hpb] at hb2
      subst hb2
      clear hr hb hob hpb hso hc hT hT1 hs
      go_enter Try.func75, Try.ntmps75
      go_upto_region 1 with fail
      rw [← HW1.out, ← HGT.out]
      go_wp2_with (go_at_call 74; refine HBE.out.mono ?_; rintro e w2 ⟨A2, c2, rfl, -, HB2⟩)
      go_ret2
      exact ⟨none, 0, rfl, Lib.hid Sl.nil, Lib.hid (HB1.out.trans (HB2.out.mono HB1.out.size))⟩
    · skip
      have hck := chk_ok hc
      have hb2 : b = ([], 0, 4) := by rw [hb]; unfold besP; rw [if_neg (by simpa using hc), if_neg hso]
      subst hb2
      have hr2 : r = (tabL (edsR t).length (leaT t (edsR t)), 0) := by rw [hr]; unfold whyP; rw [if_neg (by simpa using hc), if_neg hso]
      subst hr2
      obtain ⟨n, hn⟩ : ∃ n, n = (edsR t).length := ⟨_, rfl⟩
      have hn7 : n ≤ 7 := by rw [hn, edsR_len]; exact hck.n1
      have hn1 : 1 ≤ n := by rw [hn, edsR_len]; exact hck.n0
      obtain ⟨P, hP⟩ : ∃ P, P = 2 ^ n := ⟨_, rfl⟩
      have hP3 : P ≤ 128 := by rw [hP]; exact pow_le128 hn7
      have sh2 : IntKind.i64.wrap ((2 : Int) ^ n) = (P : Int) := shl_one hn7 hP
      rw [← hn]
      have HTLN := Lib.hid (show (tabL n (leaT t (edsR t))).length = n * P by rw [tabL_len, hP])
      obtain ⟨f, hf⟩ : ∃ f, f = leaT t (edsR t) := ⟨_, rfl⟩
      rw [← hf] at HTLN ⊢
      have HTK := Lib.hid (fun (S e : Nat) (hS : S < P) (he : e < n) => tabL_take (n := n) f (S := S) (e := e) (by rw [← hP]; exact hS) he)
      have HRE := Lib.hid (fun W hb => reds_any t x zs W hs (HTB.out W hb).1 hck.rgt)
      have HLE := Lib.hid (fun (S last : Nat) (hS : S < P) (hl : last < n) W (hb : Below w1.heap.size w1 W) B A c es (hR : RefAt W B t A c es) => least_any t hck hs x zs B A c es n hn S S (Nat.le_refl _) (by rw [← hP]; exact hS) last hl W (HTB.out W hb).1 hR)
      rw [← hf] at HLE
      have HHN := Lib.hid hn
      have HC := Lib.hid hc
      clear hr hb hso hc hT hT1 hs hn hP hf hck
      go_enter Try.func75, Try.ntmps75
      go_upto_region 1 with fail
      rw [← HW1.out, ← HGT.out]
      go_wp2_with first
        | (go_at_call 74; refine HBE.out.mono ?_; rintro e w2 ⟨A2, c2, rfl, -, HB2⟩; clear r0 r1 r2 r3 r4 r5 r6 r7; obtain ⟨-, r0, r1, r2, r3, r4, r5, r6, r7⟩ := HTB.out w2 HB2.out)
        | (go_at_call 42; refine (HCK.out _ HB2.out).mono ?_; rintro e w3 ⟨rfl, hb3⟩; rw [HC.out]; have HB3 := Lib.hid (HB2.out.trans (hb3.mono HB2.out.size)); clear hb3; clear r0 r1 r2 r3 r4 r5 r6 r7; obtain ⟨-, r0, r1, r2, r3, r4, r5, r6, r7⟩ := HTB.out w3 HB3.out)
        | (go_at_call 96; refine (HRE.out _ HB3.out).mono ?_; rintro e w4 ⟨A4, c4, es, rfl, hr4, hb4⟩; have HB4 := Lib.hid (HB3.out.trans (hb4.mono HB3.out.size)); have hln := hr4.len; rw [← HHN.out] at hln; have HR4 := Lib.hid hr4; clear hb4 hr4; rw [hln]; have HLN := Lib.hid hln; clear hln; clear r0 r1 r2 r3 r4 r5 r6 r7)
      obtain ⟨i3, hi3, z0, z1, z2⟩ := info_parts infoInt
      have HI3 := Lib.hid hi3
      clear hi3
      go_loopw [8, 9] (fun v u wr => ∃ (S : Nat) (A : Option Addr) (c : Nat), S ≤ P ∧ u = .int .i64 S ∧ v = .slice A (S * n) c ∧ Hid (wr.ownsRow w4.heap.size 3 1 (.slice A (S * n) c) (S * n) (((tabL n f).take (S * n)).map (Value.int .i64))) ∧ Hid (Below w4.heap.size w4 wr)) (fun _ u _ => P - (intOf u).toNat)
      case atStart => exact ⟨0, none, 0, Nat.zero_le _, rfl, by simp, by simpa using Lib.hid (World.ownsRow_nil w4 w4.heap.size 3 1), Below.refl _ _⟩
      case round =>
        obtain ⟨S, A, c, hS, rfl, rfl, HO, HB⟩ := hrel
        by_cases hSP : S < P
        · skip
          have s0 : (0 : Int) ≤ (S : Int) := by omega
          have s1 : (S : Int) < (P : Int) := by omega
          go_wp2_with fail
          go_loopw [8, 10] (fun v u wr2 => ∃ (q a : Nat) (A : Option Addr) (c : Nat), q ≤ n ∧ u = .int .i64 q ∧ a = S * n + q ∧ v = .slice A a c ∧ Hid (wr2.ownsRow w4.heap.size 3 1 (.slice A a c) a (((tabL n f).take a).map (Value.int .i64))) ∧ Hid (Below w4.heap.size w4 wr2)) (fun _ u _ => n - (intOf u).toNat)
          case atStart => exact ⟨0, S * n, A, c, Nat.zero_le _, rfl, rfl, rfl, HO, HB⟩
          case round =>
            obtain ⟨q, a, A, c, hq, rfl, ha, rfl, HO, HB⟩ := hrel
            by_cases hqn : q < n
            · skip
              have ha9 : a ≤ 2000 := by
                have : S * n ≤ 128 * 7 := Nat.mul_le_mul (by omega) hn7
                omega
              have HT := Lib.hid (show (tabL n f).take (a + 1) = (tabL n f).take a ++ [f S q] by rw [ha]; exact HTK.out S q hSP hqn)
              obtain ⟨y, hy⟩ : ∃ y, y = f S q := ⟨_, rfl⟩
              have H17 := Lib.hid (show Calls Try.prog 117 #[.agg #[.slice x.a t.colours.length x.ca, .slice x.b t.pairs.length x.cb, .slice x.z t.zones.length x.cz, .slice x.r t.ready.length x.cr, .int .i64 t.start, .int .i64 t.rate, .int .i64 t.stop, .int .i64 t.hang], .slice A4 n c4, .int .i64 (S : Int), .int .i64 (q : Int)] wr fun e w' => e = .returned (.int .i64 y) ∧ Hid (Below wr.heap.size wr w') from by
                rw [hy]
                exact HLE.out S q hSP hqn wr (HB4.out.trans (HB.out.mono HB4.out.size)) _ _ _ _ (HR4.out.below HB.out))
              rw [← hy] at HT
              obtain ⟨-, r0, r1, r2, r3, r4, r5, r6, r7⟩ := HTB.out wr (HB4.out.trans (HB.out.mono HB4.out.size))
              have HAA := Lib.hid ha
              have q0 : (0 : Int) ≤ (q : Int) := by omega
              have q1 : (q : Int) < (n : Int) := by omega
              have hm1 : a + 1 ≤ maxLen := by simp only [maxLen]; omega
              have hm2 : (a + 1) * 8 ≤ 140737488355328 := by omega
              have hsz := HB.out.size
              clear hy ha
              go_wp2_with first
                | (go_at_call 117; refine H17.out.mono ?_; rintro e w5 ⟨rfl, hb5⟩; have HB5 := Lib.hid (HB.out.trans (hb5.out.mono hsz)); have HO5 := Lib.hid (own_belowV HO.out hb5.out); have hs5 := HB5.out.size; clear hb5)
                | (at_builtin; refine wpList_append_lies _ rfl (.tmp 42) (.tmp 48) 22 rfl w4.heap.size 3 i3 _ 1 8 Try.underlying22 HI3.out z0 z1 z2 rfl (by decide) (.slice A a c) a (((tabL n f).take a).map (Value.int .i64)) rfl (HO5.out.alloc _) ⟨w5.heap.size, 0, none⟩ 1 1 [.int .i64 y] rfl rfl (news_of1 w5 3 #[.int .i64 y]) (by intro u hu; simp at hu; subst hu; rfl) (by decide) hm1 hm2 (by simp; omega) (w5.heap.size + 1) (by simp) ?_; intro g9 cap9 w9 hown9 hgrow9 hat9 hlt9; have hb9 := (HB5.out.alloc hs5 (.cells #[.int .i64 y] 3)).grown hgrow9 (by simp; omega) (fun p hp => (HO5.out.lt p hp).1); have HB9 := Lib.hid hb9; have HO9 := Lib.hid hown9; clear hb9 hown9 hgrow9 hat9)
              go_roundw
              case rel =>
                refine ⟨q + 1, a + 1, some ⟨g9, 0, none⟩, cap9, by omega, by go_num, by have := HAA.out; omega, rfl, Lib.hid ?_, HB9⟩
                rw [HT.out, List.map_append]
                exact HO9.out
              case measure => simp [intOf]; omega
            · skip
              obtain rfl : q = n := by omega
              have hab : a = (S + 1) * q := by rw [ha, Nat.succ_mul]
              subst hab
              clear ha
              go_wp2_with fail
              go_roundw
              case rel => exact ⟨S + 1, A, c, by omega, by go_num, rfl, HO, HB⟩
              case measure => simp [intOf]; omega
        · skip
          obtain rfl : S = P := by omega
          go_wp2_with fail
          go_ret2
          have hl := HTLN.out
          rw [hl, Nat.mul_comm n S]
          refine ⟨A, c, rfl, Lib.hid ?_, Lib.hid (HB1.out.trans ((HB4.out.trans (HB.out.mono HB4.out.size)).mono HB1.out.size))⟩
          have ho := HO.out
          rw [show S * n = (tabL n f).length by rw [hl, Nat.mul_comm], List.take_length] at ho
          exact own_sl ho
  · skip
    have hr2 : r = ([], checkT t) := by rw [hr]; unfold whyP; rw [if_pos hc]
    subst hr2
    have hb2 : b = ([], 0, checkT t) := by rw [hb]; unfold besP; rw [if_pos hc]
    subst hb2
    clear hr hb
    obtain ⟨ck, hck⟩ : ∃ c, c = checkT t := ⟨_, rfl⟩
    rw [← hck] at HCK HBE hc ⊢
    have ht : (ck != 0) = true := by simpa using hc
    have ht2 : (ck == 0) = false := by simpa using hc
    obtain ⟨c4, hc4⟩ : ∃ b, b = (ck != 4) := ⟨_, rfl⟩
    have hc4' := hc4.symm
    clear hT hT1 hs hc hck hc4
    cases c4
    all_goals
      go_enter Try.func75, Try.ntmps75
      go_upto_region 1 with fail
      rw [← HW1.out, ← HGT.out]
      go_wp2_with first
        | (go_at_call 74; refine HBE.out.mono ?_; rintro e w2 ⟨A2, c2, rfl, -, HB2⟩; clear r0 r1 r2 r3 r4 r5 r6 r7; obtain ⟨-, r0, r1, r2, r3, r4, r5, r6, r7⟩ := HTB.out w2 HB2.out)
        | (go_at_call 42; refine (HCK.out _ HB2.out).mono ?_; rintro e w3 ⟨rfl, hb3⟩; have HB3 := Lib.hid (HB2.out.trans (hb3.mono HB2.out.size)); clear hb3)
      go_ret2
      first
        | exact ⟨none, 0, rfl, Lib.hid Sl.nil, Lib.hid (HB1.out.trans (HB3.out.mono HB1.out.size))⟩
        | exact ⟨none, 0, rfl, Lib.hid Sl.nil, Lib.hid (HB1.out.trans (HB2.out.mono HB1.out.size))⟩
end Go.Proofs.Ytokdleanpkkdpaa
