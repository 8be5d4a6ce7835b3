/- The walk of EditionProved; conditions: bytes. -/
import Derived.Test.YtokdleanpkkdpaaSpecG
import Derived.Test.YtokdleanpkkdpaaT6
import Derived.Test.YtokdleanpkkdpaaQD
import Derived.Deep.QuietTactic
import Derived.BigQuiet
import Derived.Deep.DeepCutAuto
set_option linter.unusedSimpArgs false
set_option linter.unusedVariables false
namespace Go.Proofs.Ytokdleanpkkdpaa
open Go.RowKit Go.Fh Go.Ed Go.Shelf
theorem lateP (t : TitD) (es : List EdD) (o : List Nat) : (runE t es o).2.2 = false ↔ noLate t es o := by
  have key : ∀ k, k ≤ o.length → ((runE t es (o.take k)).2.2 = false ↔ ∀ i, i < k → lateAt t es o i = false) := by
    intro k
    induction k with
    | zero => intro _; simp [runE]
    | succ k ih =>
      intro hk
      have h1 := runE_last t es o (show k < o.length by omega)
      have h2 : lateAt t es o k = lateB es (slotE t es (runE t es (o.take k)).2.1 o[k]) := by
        unfold lateAt slotAt
        rw [h1]; rfl
      rw [List.take_succ_eq_append_getElem (by omega), runE_snoc]
      show ((runE t es (o.take k)).2.2 || lateB es (slotE t es (runE t es (o.take k)).2.1 o[k])) = false ↔ _
      rw [← h2, Bool.or_eq_false_iff, ih (by omega)]
      constructor
      · rintro ⟨a, b⟩ i hi
        by_cases e : i = k
        · subst e; exact b
        · exact a i (by omega)
      · intro a; exact ⟨fun i hi => a i (by omega), a k (by omega)⟩
  have := key o.length (Nat.le_refl _)
  rw [List.take_length] at this
  exact this
/-- InTime, in the walk's spelling -/
theorem intimeP_w (t : TitD) (x : TA) (zs : List ZonM) (w : World) (hs : Sizes t) (hc : checkT t = 0) (A : Option Addr) (c : Nat) (o : List Nat) (n : Nat) (hn : o.length = n) (hl : n ≤ 1000) (hA : Sl encInt 1 w w.heap.size A (o.map fun (e : Nat) => (e : Int))) (ho : ordersB (edsR t).length (o.map fun (e : Nat) => (e : Int)) = true) (hT : TitAt w w.heap.size t x zs) :
    Calls Try.prog 31 #[.agg #[.slice x.a t.colours.length x.ca, .slice x.b t.pairs.length x.cb, .slice x.z t.zones.length x.cz, .slice x.r t.ready.length x.cr, .int .i64 t.start, .int .i64 t.rate, .int .i64 t.stop, .int .i64 t.hang], .slice A n c] w fun e w' => ∃ m fc : Int, e = .returned (.tuple #[.int .i64 m, .int .i64 fc]) ∧ Hid ((fc = 0 ∧ (runE t (edsR t) o).2.2 = false ∧ m = endE (runE t (edsR t) o)) ∨ (fc = 12 ∧ (runE t (edsR t) o).2.2 = true)) ∧ Hid (Below w.heap.size w w') := by
  subst hn
  exact (InTime_ok t x zs w hs hT A c o hl hA hc ho).mono (by
    rintro e w' ⟨⟨h, h2⟩ | ⟨i, h, h2⟩, hb⟩
    · have hk : (runE t (edsR t) o).2.2 = false := by
        have := (lateP t (edsR t) o).2 h
        exact this
      exact ⟨_, 0, h2, Lib.hid (.inl ⟨rfl, hk, fin_end t (edsR t) o⟩), hb⟩
    · refine ⟨_, 12, h2, Lib.hid (.inr ⟨rfl, ?_⟩), hb⟩
      cases hk : (runE t (edsR t) o).2.2
      · have q := (lateP t (edsR t) o).1 hk i h.1
        rw [h.2.1] at q; cases q
      · rfl)
theorem why_w (t : TitD) (x : TA) (zs : List ZonM) (w : World) (hs : Sizes t) (hc : checkT t = 0) (hT : TitAt w w.heap.size t x zs) (hb : (bestR t true).isSome = true) :
    Calls Try.prog 35 #[.agg #[.slice x.a t.colours.length x.ca, .slice x.b t.pairs.length x.cb, .slice x.z t.zones.length x.cz, .slice x.r t.ready.length x.cr, .int .i64 t.start, .int .i64 t.rate, .int .i64 t.stop, .int .i64 t.hang]] w fun e w' => e = .returned (.tuple #[.slice none 0 0, .int .i64 9]) ∧ Hid (Below w.heap.size w w') := why_some t x zs w hs hT hc hb
theorem why0_w (t : TitD) (x : TA) (zs : List ZonM) (w : World) (hs : Sizes t) (hc : checkT t = 0) (hT : TitAt w w.heap.size t x zs) (hb : (bestR t true).isSome = false) (n m : Nat) (hn : n = (edsR t).length) (hm : m = n * 2 ^ n) :
    Calls Try.prog 35 #[.agg #[.slice x.a t.colours.length x.ca, .slice x.b t.pairs.length x.cb, .slice x.z t.zones.length x.cz, .slice x.r t.ready.length x.cr, .int .i64 t.start, .int .i64 t.rate, .int .i64 t.stop, .int .i64 t.hang]] w fun e w' => ∃ gA c, e = .returned (.tuple #[.slice (some ⟨gA, 0, none⟩) m c, .int .i64 0]) ∧ Hid (Sl encInt 1 w' w'.heap.size (some ⟨gA, 0, none⟩) (tabL n (leaT t (edsR t)))) ∧ Hid (Below w.heap.size w w') :=
  (why_none t x zs w hs hT hc hb n m hn hm).mono (by
    rintro e w' ⟨gA, c, h1, h2, h3⟩
    refine ⟨gA, c, h1, ?_, h3⟩
    have hl : (tabL n (leaT t (edsR t))).length = m := by rw [tabL_len, hm]
    exact own_sl (c := c) (B := w.heap.size) (by rw [hl]; exact h2))
theorem fewest_w (t : TitD) (x : TA) (zs : List ZonM) (w : World) (hs : Sizes t) (hc : checkT t = 0) (ob : List Nat) (p f : Int) (hb : bestR t false = some (ob, p, f)) (hT : TitAt w w.heap.size t x zs) :
    Calls Try.prog 32 #[.agg #[.slice x.a t.colours.length x.ca, .slice x.b t.pairs.length x.cb, .slice x.z t.zones.length x.cz, .slice x.r t.ready.length x.cr, .int .i64 t.start, .int .i64 t.rate, .int .i64 t.stop, .int .i64 t.hang]] w fun e w' => ∃ A' c', e = .returned (.tuple #[.slice A' ob.length c', .int .i64 p, .int .i64 0]) ∧ Hid (Below w.heap.size w w') :=
  (fewest_some t x zs w hs hT hc ob p f hb).mono (by
    rintro e w' ⟨A', c', h1, _, _, h2⟩
    exact ⟨A', c', h1, h2⟩)
theorem best_w (t : TitD) (x : TA) (zs : List ZonM) (w : World) (hs : Sizes t) (hc : checkT t = 0) (ob : List Nat) (p f : Int) (hb : bestR t true = some (ob, p, f)) (hT : TitAt w w.heap.size t x zs) :
    Calls Try.prog 33 #[.agg #[.slice x.a t.colours.length x.ca, .slice x.b t.pairs.length x.cb, .slice x.z t.zones.length x.cz, .slice x.r t.ready.length x.cr, .int .i64 t.start, .int .i64 t.rate, .int .i64 t.stop, .int .i64 t.hang]] w fun e w' => ∃ A' c', e = .returned (.tuple #[.slice A' ob.length c', .int .i64 p, .int .i64 0]) ∧ Hid (Sl encInt 1 w' w'.heap.size A' (ob.map fun (e : Nat) => (e : Int))) ∧ Hid (Below w.heap.size w w') :=
  (best_some t x zs w hs hT hc ob p f hb).mono (by
    rintro e w' ⟨A', c', h1, h2, _, h3⟩
    have hl : (ob.map fun (e : Nat) => (e : Int)).length = ob.length := by simp
    exact ⟨A', c', h1, own_sl (c := c') (B := w.heap.size) (by rw [hl]; exact h2), h3⟩)
theorem best0_w (t : TitD) (x : TA) (zs : List ZonM) (w : World) (hs : Sizes t) (hc : checkT t = 0) (hb : bestR t true = none) (hT : TitAt w w.heap.size t x zs) :
    Calls Try.prog 33 #[.agg #[.slice x.a t.colours.length x.ca, .slice x.b t.pairs.length x.cb, .slice x.z t.zones.length x.cz, .slice x.r t.ready.length x.cr, .int .i64 t.start, .int .i64 t.rate, .int .i64 t.stop, .int .i64 t.hang]] w fun e w' => e = .returned (.tuple #[.slice none 0 0, .int .i64 0, .int .i64 4]) ∧ Hid (Below w.heap.size w w') := best_none t x zs w hs hT hc hb
theorem proves_w (t : TitD) (x : TA) (zs : List ZonM) (w : World) (hs : Sizes t) (hc : checkT t = 0) (A : Option Addr) (c : Nat) (T : List Int) (n m : Nat) (hA : Sl encInt 1 w w.heap.size A T) (hn : n = (edsR t).length) (hmE : m = n * 2 ^ n) (hTl : T.length = m) (hTb : ∀ v ∈ T, -1 ≤ v ∧ v ≤ 86400) (hT : TitAt w w.heap.size t x zs) :
    Calls Try.prog 36 #[.agg #[.slice x.a t.colours.length x.ca, .slice x.b t.pairs.length x.cb, .slice x.z t.zones.length x.cz, .slice x.r t.ready.length x.cr, .int .i64 t.start, .int .i64 t.rate, .int .i64 t.stop, .int .i64 t.hang], .slice A m c] w fun e w' => ∃ b : Bool, e = .returned (.tuple #[.bool b, .int .i64 0]) ∧ Hid (b = true ↔ ProvOk t (edsR t) (tabI n T)) ∧ Hid (Below w.heap.size w w') :=
  Proves_ok t x zs w hs hT A c T n m hA hc hn hmE hTl hTb
set_option maxRecDepth 100000 in
set_option maxHeartbeats 8000000 in
theorem editionProved_walk (haw : ∀ w, Calls Try.prog 12 #[] w fun e w' => e = .returned (.bool true) ∧ Below w.heap.size w w') (A0 : Option Addr) (c0 : Nat) (l0 : List Nat) (A1 : Option Addr) (c1 : Nat) (l1 : List Nat) (at_ by_ : Int) (W : World)
    (hl0 : l0.length ≤ 9223372036854775807) (hl1 : l1.length ≤ 9223372036854775807) (hb0 : ∀ x ∈ l0, x ≤ 255) (hb1 : ∀ x ∈ l1, x ≤ 255) (s0 : Sl encBn 1 W W.heap.size A0 l0) (s1 : Sl encBn 1 W W.heap.size A1 l1) (hat0 : 0 ≤ at_) (hat1 : at_ ≤ 65535) (hby0 : -128 ≤ by_) (hby1 : by_ ≤ 127) :
    Calls Try.prog 9 #[.slice A0 l0.length c0, .slice A1 l1.length c1, .int .u16 at_, .int .i8 by_] W fun e w' => e = .returned (.bool true) ∧ Below W.heap.size W w' := by
  obtain ⟨t, ht⟩ : ∃ t, t = madeT l0 := ⟨_, rfl⟩
  have hc : checkT t = 0 := by rw [ht]; exact madeT_ok l0
  have hs : Sizes t := by rw [ht]; exact made_sizes l0
  have hch := chk_ok hc
  obtain ⟨n, hn⟩ : ∃ n, n = (edsR t).length := ⟨_, rfl⟩
  have hn7 := eds_le hc
  rw [← hn] at hn7
  obtain ⟨hn1, hn2⟩ := hn7
  obtain ⟨m, hm⟩ : ∃ m, m = n * 2 ^ n := ⟨_, rfl⟩
  have hm2 : m ≤ 1000 := by rw [hm]; exact Nat.le_trans (Nat.mul_le_mul hn2 (pow_le128 hn2)) (by omega)
  have hm1 : 1 ≤ m := by rw [hm]; exact Nat.mul_pos hn1 (Nat.two_pow_pos n)
  have sh1 : IntKind.i64.wrap ((n : Int) * 2 ^ n) = (m : Int) := by
    have : (n : Int) * 2 ^ n = (m : Int) := by rw [hm]; push_cast; rfl
    rw [this, IntKind.wrap_i64]; omega
  have t6 : decide ((n : Int) < 1) = false := by simp; omega
  have t7 : decide ((7 : Int) < (n : Int)) = false := by simp; omega
  obtain ⟨fo, fp, ff, hfb, hfl⟩ := fewest_ex hch
  have hpl : (permM l1 n).length = n := permM_len l1 n
  have HT0 := Lib.hid ht
  have HN := Lib.hid hn
  have HM := Lib.hid hm
  have HCH := Lib.hid hch
  have HSZ := Lib.hid hs
  have HC := Lib.hid hc
  have HFB := Lib.hid hfb
  have HFL := Lib.hid hfl
  have HS0 := Lib.hid s0
  have HS1 := Lib.hid s1
  have HB1' := Lib.hid hb1
  clear hch hs hc hn hm s0 s1 hb1 ht hfb hfl
  go_enter Try.func9, Try.ntmps9
  go_upto_region 1 with fail
  go_upto_region 2 with (go_at_call 14; refine (made_w A0 c0 l0 _ t HT0.out hl0 hb0 HS0.out).mono ?_; rintro e w1 ⟨x, zs, rfl, HT, HB⟩)
  obtain ⟨gT, hgT⟩ : ∃ g, g = w1.heap.size := ⟨_, rfl⟩
  obtain ⟨w2, hw2⟩ : ∃ W, W = w1.alloc (.cells #[.slice x.a t.colours.length x.ca, .slice x.b t.pairs.length x.cb, .slice x.z t.zones.length x.cz, .slice x.r t.ready.length x.cr, .int .i64 t.start, .int .i64 t.rate, .int .i64 t.stop, .int .i64 t.hang] 26) := ⟨_, rfl⟩
  have KT := Lib.hid (show Blk w2 gT 26 (titV t x) by rw [hw2, hgT]; exact Blk.new w1 26 (titV t x))
  have hb12 : Below w1.heap.size w1 w2 := by rw [hw2]; exact (Below.refl _ _).alloc (Nat.le_refl _) _
  have H2 := Lib.hid (HB.out.trans (hb12.mono HB.out.size))
  have HT2 := Lib.hid (show ∀ W', Below w2.heap.size w2 W' → TitAt W' W'.heap.size t x zs from fun W' hb => ((HT.out.below (hb12.trans (hb.mono hb12.size))).mono ((hb12.trans (hb.mono hb12.size)).size)))
  rw [← hw2, ← hgT]
  clear hw2 hgT hb12
  obtain ⟨a0, a1, a2, a3, a4, a5, a6, a7⟩ := tit_cells KT.out
  go_upto_region 3 with (go_at_call 15; refine (eds_w t x zs _ HSZ.out HC.out n HN.out (HT2.out _ (Below.refl _ _))).mono ?_; rintro e w3 ⟨k, rfl, HK, HB3⟩; obtain ⟨a0, a1, a2, a3, a4, a5, a6, a7⟩ := tit_cells (KT.out.below HB3.out KT.out.lt))
  go_upto_region 5 with fail
  go_upto_region 6 with (go_at_call 16; refine (perm_w A1 c1 n l1 _ (by omega) hl1 HB1'.out ((HS1.out.below (H2.out.trans (HB3.out.mono H2.out.size))).mono (H2.out.trans (HB3.out.mono H2.out.size)).size)).mono ?_; rintro e w4 ⟨Ao, co, rfl, HO, hb⟩; have H4 := Lib.hid (HB3.out.trans (hb.out.mono HB3.out.size)); clear hb; obtain ⟨a0, a1, a2, a3, a4, a5, a6, a7⟩ := tit_cells (KT.out.below H4.out KT.out.lt))
  obtain ⟨o, ho⟩ : ∃ o, o = permM l1 n := ⟨_, rfl⟩
  rw [← ho] at hpl HO
  have HOP := Lib.hid (show o.Perm (List.range (edsR t).length) from by rw [ho, ← HN.out]; exact permM_perm l1 n)
  have HOO := Lib.hid (show ordersB (edsR t).length (o.map fun (e : Nat) => (e : Int)) = true by rw [ho, ← HN.out]; exact permM_orders l1 n)
  have HPL := Lib.hid hpl
  clear ho hpl
  have HCS := Lib.hid (show Calls Try.prog 24 #[.agg #[.slice x.a t.colours.length x.ca, .slice x.b t.pairs.length x.cb, .slice x.z t.zones.length x.cz, .slice x.r t.ready.length x.cr, .int .i64 t.start, .int .i64 t.rate, .int .i64 t.stop, .int .i64 t.hang], .slice Ao n co] w4 fun e w' => ∃ A' c', e = .returned (.tuple #[.slice A' n c', .int .i64 0]) ∧ Hid (Sl encSlo 4 w' w'.heap.size A' (slotsD t (edsR t) o)) ∧ Hid (Below w4.heap.size w4 w') from by
    have := slots_w t x zs w4 HSZ.out HC.out Ao co o (by have := HPL.out; omega) HO.out HOO.out (HT2.out _ H4.out)
    rw [HPL.out] at this; exact this)
  go_upto_region 7 with (go_at_call 24; refine HCS.out.mono ?_; rintro e w5 ⟨As, cs, rfl, HS5, hb⟩; have H5 := Lib.hid (H4.out.trans (hb.out.mono H4.out.size)); have HB45 := Lib.hid hb.out; clear hb; obtain ⟨a0, a1, a2, a3, a4, a5, a6, a7⟩ := tit_cells (KT.out.below H5.out KT.out.lt))
  have HO5 := Lib.hid ((HO.out.below HB45.out).mono HB45.out.size)
  go_upto_region 8 with (go_at_call 31; refine (intimeP_w t x zs _ HSZ.out HC.out Ao co o n HPL.out (by omega) HO5.out HOO.out (HT2.out _ H5.out)).mono ?_; rintro e w6 ⟨im, fe, rfl, HIR, hb⟩; have H6 := Lib.hid (H5.out.trans (hb.out.mono H5.out.size)); have HB56 := Lib.hid hb.out; clear hb; obtain ⟨a0, a1, a2, a3, a4, a5, a6, a7⟩ := tit_cells (KT.out.below H6.out KT.out.lt))
  go_upto_region 9 with (go_at_call 32; refine (fewest_w t x zs _ HSZ.out HC.out fo fp ff HFB.out (HT2.out _ H6.out)).mono ?_; rintro e w7 ⟨Af, cf, rfl, hb⟩; have H7 := Lib.hid (H6.out.trans (hb.out.mono H6.out.size)); have HB57 := Lib.hid (HB56.out.trans (hb.out.mono HB56.out.size)); clear hb; obtain ⟨a0, a1, a2, a3, a4, a5, a6, a7⟩ := tit_cells (KT.out.below H7.out KT.out.lt))
  obtain ⟨ps, hps⟩ : ∃ p, p = (runE t (edsR t) o).1 := ⟨_, rfl⟩
  have hsl : (slotsD t (edsR t) o).length = n := by rw [← HPL.out]; exact upF_len _ _
  have HPS := Lib.hid (show ∀ W', Below w5.heap.size w5 W' → Calls Try.prog 34 #[.slice As n cs] W' fun e w' => e = .returned (.int .i64 ps) ∧ Below W'.heap.size W' w' from fun W' hb => by
    have := plates34_any As cs n (slotsD t (edsR t) o) W' hsl (by omega) (fun k hk => by
      have h1 : (slotsD t (edsR t) o)[k] = slotAt t (edsR t) o k := by simp [slotsD, upF]
      rw [h1]
      exact slotAt_pl HCH.out o (by have := HPL.out; omega)) ((HS5.out.below hb).mono hb.size)
    rw [slotsD_sum t (edsR t) o HPL.out, ← hps] at this
    exact this)
  have tps : decide (ps < fp) = false := by
    have := HFL.out o HOP.out
    rw [← hps] at this
    simp; omega
  have HPSV := Lib.hid hps
  clear hps hsl
  rcases hbr : bestR t true with _ | ⟨ob, bp, bf⟩
  · have HBR := Lib.hid hbr
    clear hbr
    go_upto_region 10 with (go_at_call 33; refine (best0_w t x zs _ HSZ.out HC.out HBR.out (HT2.out _ H7.out)).mono ?_; rintro e w8 ⟨rfl, hb⟩; have H8 := Lib.hid (H7.out.trans (hb.out.mono H7.out.size)); have HB58 := Lib.hid (HB57.out.trans (hb.out.mono HB57.out.size)); clear hb; obtain ⟨a0, a1, a2, a3, a4, a5, a6, a7⟩ := tit_cells (KT.out.below H8.out KT.out.lt))
    go_upto_region 12 with (go_at_call 34; refine (HPS.out _ HB58.out).mono ?_; rintro e w9 ⟨rfl, hb⟩; have H9 := Lib.hid (H8.out.trans (hb.mono H8.out.size)); clear hb; obtain ⟨a0, a1, a2, a3, a4, a5, a6, a7⟩ := tit_cells (KT.out.below H9.out KT.out.lt))
    have hfe : fe = 12 := by
      rcases HIR.out with ⟨_, h, _⟩ | ⟨h, _⟩
      · rw [best_nil HCH.out HBR.out o HOP.out] at h; cases h
      · exact h
    subst hfe
    go_upto_region 29 with (go_at_call 35; refine (why0_w t x zs _ HSZ.out HC.out (HT2.out _ H9.out) (by rw [HBR.out]; rfl) n m HN.out HM.out).mono ?_; rintro e w10 ⟨gA, cA, rfl, HTB, hb⟩; have H10 := Lib.hid (H9.out.trans (hb.out.mono H9.out.size)); clear hb; obtain ⟨a0, a1, a2, a3, a4, a5, a6, a7⟩ := tit_cells (KT.out.below H10.out KT.out.lt))
    have HPR := Lib.hid (proves_w t x zs w10 HSZ.out HC.out (some ⟨gA, 0, none⟩) cA (tabL n (leaT t (edsR t))) n m HTB.out HN.out HM.out (by rw [tabL_len, HM.out]) (fun v hv => by
      obtain ⟨i, _, rfl⟩ := List.mem_map.1 hv
      exact ⟨leaT_ge (eds_posT HCH.out) _ _, leaT_le (edsR_due HCH.out) _ _⟩) (HT2.out _ H10.out))
    have hpv : ProvOk t (edsR t) (tabI n (tabL n (leaT t (edsR t)))) := by
      have h7 : (edsR t).length ≤ 7 := by rw [← HN.out]; exact hn2
      refine provOk_congr h7 (fun S e hS he => ?_) (lea_prov h7 (eds_posT HCH.out) (fun o' ho' => best_nil HCH.out HBR.out o' ho'))
      rw [← HN.out] at hS he
      have h1 := tabI_get (T := tabL n (leaT t (edsR t))) (tabL_len _ _) hS he
      unfold tabI
      rw [h1.2]
      exact (tabL_get _ hS he).symm
    have HPV := Lib.hid hpv
    clear hpv
    go_upto_region 32 with (go_at_call 36; refine HPR.out.mono ?_; rintro e w11 ⟨b, rfl, HBB, hb⟩; have H11 := Lib.hid (H10.out.trans (hb.out.mono H10.out.size)); clear hb)
    have hbt : b = true := HBB.out.2 HPV.out
    subst hbt
    go_wp2_with (go_at_call 12; refine (haw _).mono ?_; rintro e wz ⟨rfl, hbz⟩; have HBZ := Lib.hid hbz; clear hbz)
    go_ret
    have hF := H2.out.trans (H11.out.mono H2.out.size)
    exact ⟨rfl, hF.trans (HBZ.out.mono hF.size)⟩
  · have HBR := Lib.hid hbr
    clear hbr
    obtain ⟨hobp, hbp, hbf, hbl, hleast⟩ := best_ok HCH.out HBR.out
    have hnb : ob.length = n := by rw [hobp.length_eq, HN.out]; simp
    have HOBP := Lib.hid hobp
    have HBPF := Lib.hid (And.intro hbp (And.intro hbf hbl))
    have HLEAST := Lib.hid hleast
    have HNB := Lib.hid hnb
    have HOBO := Lib.hid (orders_perm hobp)
    clear hobp hbp hbf hbl hleast
    have HBW := fun W' hb => best_w t x zs W' HSZ.out HC.out ob bp bf HBR.out (HT2.out W' hb)
    rw [hnb] at HBW
    have HBW2 := Lib.hid HBW
    clear HBW hnb
    go_upto_region 10 with (go_at_call 33; refine (HBW2.out _ H7.out).mono ?_; rintro e w8 ⟨Ab, cb, rfl, HSB, hb⟩; have H8 := Lib.hid (H7.out.trans (hb.out.mono H7.out.size)); have HB58 := Lib.hid (HB57.out.trans (hb.out.mono HB57.out.size)); clear hb; obtain ⟨a0, a1, a2, a3, a4, a5, a6, a7⟩ := tit_cells (KT.out.below H8.out KT.out.lt))
    go_upto_region 12 with (go_at_call 34; refine (HPS.out _ HB58.out).mono ?_; rintro e w9 ⟨rfl, hb⟩; have H9 := Lib.hid (H8.out.trans (hb.mono H8.out.size)); have HB89 := Lib.hid hb; clear hb; obtain ⟨a0, a1, a2, a3, a4, a5, a6, a7⟩ := tit_cells (KT.out.below H9.out KT.out.lt))
    go_upto_region 14 with (go_at_call 35; refine (why_w t x zs _ HSZ.out HC.out (HT2.out _ H9.out) (by rw [HBR.out]; rfl)).mono ?_; rintro e w10 ⟨rfl, hb⟩; have H10 := Lib.hid (H9.out.trans (hb.out.mono H9.out.size)); have HB810 := Lib.hid (HB89.out.trans (hb.out.mono HB89.out.size)); clear hb; obtain ⟨a0, a1, a2, a3, a4, a5, a6, a7⟩ := tit_cells (KT.out.below H10.out KT.out.lt))
    go_upto_region 15 with (go_at_call 31; refine (intimeP_w t x zs _ HSZ.out HC.out Ab cb ob n HNB.out (by omega) ((HSB.out.below HB810.out).mono HB810.out.size) HOBO.out (HT2.out _ H10.out)).mono ?_; rintro e w11 ⟨mb, eb, rfl, HIB, hb⟩; have H11 := Lib.hid (H10.out.trans (hb.out.mono H10.out.size)); have HB811 := Lib.hid (HB810.out.trans (hb.out.mono HB810.out.size)); clear hb; obtain ⟨a0, a1, a2, a3, a4, a5, a6, a7⟩ := tit_cells (KT.out.below H11.out KT.out.lt))
    have HB511 := Lib.hid (HB58.out.trans (HB811.out.mono HB58.out.size))
    go_upto_region 16 with (go_at_call 31; refine (intimeP_w t x zs _ HSZ.out HC.out Ao co o n HPL.out (by omega) ((HO5.out.below HB511.out).mono HB511.out.size) HOO.out (HT2.out _ H11.out)).mono ?_; rintro e w12 ⟨mo, ko, rfl, HIO, hb⟩; have H12 := Lib.hid (H11.out.trans (hb.out.mono H11.out.size)); have HB512 := Lib.hid (HB511.out.trans (hb.out.mono HB511.out.size)); clear hb)
    clear a0 a1 a2 a3 a4 a5 a6 a7
    have heb : eb = 0 ∧ mb = endE (runE t (edsR t) ob) := by
      rcases HIB.out with ⟨h, _, h2⟩ | ⟨_, h⟩
      · exact ⟨h, h2⟩
      · rw [HBPF.out.2.2] at h; cases h
    obtain ⟨rfl, hmb⟩ := heb
    have HMB := Lib.hid hmb
    clear hmb
    go_cut [140] (fun q wx => q = .bool false ∧ Hid (Below w12.heap.size w12 wx))
    case first =>
      rcases HIR.out with ⟨rfl, hI, -⟩ | ⟨rfl, -⟩
      · have hko : ko = 0 ∧ mo = endE (runE t (edsR t) o) := by
          rcases HIO.out with ⟨h, _, h2⟩ | ⟨_, h⟩
          · exact ⟨h, h2⟩
          · rw [hI] at h; cases h
        obtain ⟨rfl, hmo⟩ := hko
        have hl := HLEAST.out o HOP.out hI
        rw [← HPSV.out, ← hmo] at hl
        have hmbv : mb = bf := by rw [HMB.out, HBPF.out.2.1]
        have d1 : decide (ps < bp) = false := by simp; omega
        by_cases hq : ps = bp
        · have d2 : (ps == bp) = true := by simp [hq]
          have d3 : decide (mo < mb) = false := by simp; omega
          clear hI hmo hl hmbv hq
          go_wp2_with (go_at_call 34; refine (HPS.out _ (by first | exact HB512.out | exact HB5x.out)).mono ?_; rintro e w13 ⟨rfl, hb⟩; have HB5x := Lib.hid (Below.trans (by first | exact HB512.out | exact HB5x.out) (hb.mono (by first | exact HB512.out.size | exact HB5x.out.size)) : Below w5.heap.size w5 w13); have HBy := Lib.hid (show Below w12.heap.size w12 w13 from by first | exact HBy.out.trans (hb.mono HBy.out.size) | exact hb); clear hb)
          go_meet
          exact ⟨rfl, HBy⟩
        · have d2 : (ps == bp) = false := by simp [hq]
          clear hI hmo hl hmbv hq
          go_wp2_with (go_at_call 34; refine (HPS.out _ (by first | exact HB512.out | exact HB5x.out)).mono ?_; rintro e w13 ⟨rfl, hb⟩; have HB5x := Lib.hid (Below.trans (by first | exact HB512.out | exact HB5x.out) (hb.mono (by first | exact HB512.out.size | exact HB5x.out.size)) : Below w5.heap.size w5 w13); have HBy := Lib.hid (show Below w12.heap.size w12 w13 from by first | exact HBy.out.trans (hb.mono HBy.out.size) | exact hb); clear hb)
          go_meet
          exact ⟨rfl, HBy⟩
      · go_wp2_with fail
        go_meet
        exact ⟨rfl, Lib.hid (Below.refl _ _)⟩
    case rest =>
      obtain ⟨rfl, HBC⟩ := hcut
      obtain ⟨gZ, hgZ⟩ : ∃ g, g = wc.heap.size := ⟨_, rfl⟩
      have hmk := run_make_row' (P := Try.prog) 22 3 (.int .i64 0) 8 Try.underlying22 infoIntT rfl .i64 .i64 m (by omega) (by omega) wc
      obtain ⟨w14, hw14⟩ : ∃ W, W = wc.alloc (.cells (madeCells #[.int .i64 0] m) 3) := ⟨_, rfl⟩
      rw [← hw14, ← hgZ] at hmk
      have k14 : Blk w14 gZ 3 (List.replicate m (Value.int .i64 0)).toArray := by
        rw [hw14, hgZ, ← toList_madeCells_one]
        exact Blk.new wc 3 _
      have o14 : w14.ownsRow wc.heap.size 3 1 (.slice (some ⟨gZ, 0, none⟩) m m) m ((List.replicate m (0 : Int)).map (Value.int .i64)) := by
        rw [List.map_replicate]
        exact ⟨by simp, .inr ⟨gZ, m, _, rfl, by omega, k14, Nat.le_refl _, by simp only [maxLen]; omega, by simp, by simp⟩⟩
      have hb14 : Below wc.heap.size wc w14 := by rw [hw14]; exact (Below.refl _ _).alloc (Nat.le_refl _) _
      have O14 := Lib.hid o14
      have HB14 := Lib.hid hb14
      have ka : IntKind.i64.wrap at_ = at_ := by rw [IntKind.wrap_i64]; omega
      have kb : IntKind.i64.wrap by_ = by_ := by rw [IntKind.wrap_i64]; omega
      clear hw14 hgZ k14 o14 hb14
      go_upto_region 19 with fail
      clear hmk
      go_wp2_with fail
      go_loopw [149] (fun u wr => ∃ (i : Nat) (l : List Int), i ≤ m ∧ u = .int .i64 i ∧ l.length = m ∧ Hid (∀ v ∈ l, -1 ≤ v ∧ v ≤ 127) ∧ Hid (wr.ownsRow wc.heap.size 3 1 (.slice (some ⟨gZ, 0, none⟩) m m) m (l.map (Value.int .i64))) ∧ Hid (Below wc.heap.size wc wr)) (fun u _ => m - (intOf u).toNat)
      case atStart => exact ⟨0, List.replicate m 0, Nat.zero_le _, rfl, by simp, Lib.hid (fun v hv => by rw [(List.mem_replicate.1 hv).2]; omega), O14, HB14⟩
      case round =>
        obtain ⟨i, l, hi, rfl, hll, HL, HO2, HBr⟩ := hrel
        have HLL := Lib.hid hll
        clear hll
        by_cases hlt : i < m
        · have c0 := HO2.out.cellAt i (by omega)
          rw [List.getElem?_map, List.getElem?_eq_getElem (by rw [HLL.out]; exact hlt)] at c0
          simp only [Option.map_some] at c0
          have f0 := HO2.out.frozenAt i
          have z0 := (HO2.out.lt gZ rfl).2
          have i0 : (0 : Int) ≤ (i : Int) := by omega
          have i1 : (i : Int) < (m : Int) := by omega
          have HFIN := Lib.hid (show ∀ (v1 v2 : Int), -1 ≤ v2 → v2 ≤ 127 → ∀ W' : World, (∃ u1 u2 : Value, W' = ((wr.setCell ⟨gZ, i, none⟩ u1).setCell ⟨gZ, i, none⟩ u2).setCell ⟨gZ, i, none⟩ (.int .i64 v2) ∨ W' = (wr.setCell ⟨gZ, i, none⟩ u1).setCell ⟨gZ, i, none⟩ (.int .i64 v2)) →
              ∃ l' : List Int, l'.length = m ∧ (∀ v ∈ l', -1 ≤ v ∧ v ≤ 127) ∧ W'.ownsRow wc.heap.size 3 1 (.slice (some ⟨gZ, 0, none⟩) m m) m (l'.map (Value.int .i64)) ∧ Below wc.heap.size wc W' from fun v1 v2 h1 h2 W' hW => by
            have hz := (HO2.out.lt gZ rfl).1
            refine ⟨l.set i v2, by simp [HLL.out], fun v hv => ?_, ?_, ?_⟩
            · rcases List.mem_or_eq_of_mem_set hv with h | h
              · exact HL.out v h
              · subst h; exact ⟨h1, h2⟩
            · obtain ⟨u1, u2, rfl | rfl⟩ := hW
              · have := own_put (own_put (own_put HO2.out i u1) i u2) i (.int .i64 v2)
                rw [List.set_set, List.set_set, ← List.map_set] at this
                exact this
              · have := own_put (own_put HO2.out i u1) i (.int .i64 v2)
                rw [List.set_set, ← List.map_set] at this
                exact this
            · obtain ⟨u1, u2, rfl | rfl⟩ := hW
              · exact ((HBr.out.setCell (by exact hz) _).setCell (by exact hz) _).setCell (by exact hz) _
              · exact (HBr.out.setCell (by exact hz) _).setCell (by exact hz) _)
          by_cases ht : (i : Int) % 3 = at_ % 3
          · have t1 : ((i : Int) % 3 == at_ % 3) = true := by simpa using ht
            clear ht
            go_wp2_with fail
            obtain ⟨l', q1, q2, q3, q4⟩ := HFIN.out 0 (-1) (by omega) (by omega) _ ⟨_, _, .inl rfl⟩
            go_roundw
            case rel => exact ⟨i + 1, l', by omega, by go_num, q1, Lib.hid q2, Lib.hid q3, Lib.hid q4⟩
            case measure => simp [intOf]; omega
          · have t1 : ((i : Int) % 3 == at_ % 3) = false := by simpa using ht
            clear ht
            go_wp2_with fail
            obtain ⟨l', q1, q2, q3, q4⟩ := HFIN.out 0 (max by_ (-1)) (by omega) (by omega) _ ⟨_, .bool true, .inr rfl⟩
            go_roundw
            case rel => exact ⟨i + 1, l', by omega, by go_num, q1, Lib.hid q2, Lib.hid q3, Lib.hid q4⟩
            case measure => simp [intOf]; omega
        · obtain rfl : m = i := by omega
          have h2c : Below w2.heap.size w2 wr := H12.out.trans ((HBC.out.trans (HBr.out.mono HBC.out.size)).mono H12.out.size)
          have H2C := Lib.hid h2c
          have HPR := Lib.hid (proves_w t x zs wr HSZ.out HC.out (some ⟨gZ, 0, none⟩) m l n m (own_sl (c := m) (B := wc.heap.size) (by rw [HLL.out]; exact HO2.out)) HN.out HM.out HLL.out (fun v hv => by have := HL.out v hv; omega) (HT2.out _ h2c))
          obtain ⟨a0, a1, a2, a3, a4, a5, a6, a7⟩ := tit_cells (KT.out.below h2c KT.out.lt)
          clear h2c
          go_upto_region 28 with (go_at_call 36; refine HPR.out.mono ?_; rintro e w16 ⟨b, rfl, HBB, hb⟩; have H16 := Lib.hid (H2C.out.trans (hb.out.mono H2C.out.size)); clear hb)
          have hbt : b = false := by
            cases hb : b
            · rfl
            · exfalso
              have h1 := HBB.out.1 hb
              have h2 := prov_none (by rw [← HN.out]; exact hn2) (by rw [← HN.out]; exact hn1) h1 HOBP.out
              rw [HBPF.out.2.2] at h2; cases h2
          subst hbt
          go_wp2_with (go_at_call 12; refine (haw _).mono ?_; rintro e wz ⟨rfl, hbz⟩; have HBZ := Lib.hid hbz; clear hbz)
          go_ret
          have hF := H2.out.trans (H16.out.mono H2.out.size)
          exact ⟨rfl, hF.trans (HBZ.out.mono hF.size)⟩
end Go.Proofs.Ytokdleanpkkdpaa
