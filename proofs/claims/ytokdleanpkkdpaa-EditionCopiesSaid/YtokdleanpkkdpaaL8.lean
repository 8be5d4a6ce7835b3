/- The walk of EditionCopies; conditions: a title and an order in memory. Printed by a program. -/
import Derived.Test.YtokdleanpkkdpaaL7
set_option linter.unusedSimpArgs false
set_option linter.unusedVariables false
namespace Go.Proofs.Ytokdleanpkkdpaa
open Go.RowKit Go.Fh Go.Ed
theorem partsP_len (t : TitD) (l : List Int) (hl : l.length ≤ 12) : (partsP t l).length ≤ 1000 := by
  unfold partsP
  split
  · rename_i h
    have h1 : (partsL t (edsR t) (natL l)).length = (zoneL (edsR t) (natL l)).length := partsGo_len _ _ _
    have ho := h.2
    rw [ord_nat h.2] at ho
    have h2 := (zoneL_len (chk_ok h.1) (natL l) (ord_lt ho)).1
    rw [natL_len] at h2
    omega
  · simp
theorem copied_w (t : TitD) (x : TA) (zs : List ZonM) (w : World) (hs : Sizes t) (hT : TitAt w w.heap.size t x zs) :
    Calls Try.prog 39 #[.agg #[.slice x.a t.colours.length x.ca, .slice x.b t.pairs.length x.cb, .slice x.z t.zones.length x.cz, .slice x.r t.ready.length x.cr, .int .i64 t.start, .int .i64 t.rate, .int .i64 t.stop, .int .i64 t.hang]] w fun e w' => ∃ (y1 y2 : TA) (zs1 zs2 : List ZonM), e = .returned (.tuple #[.agg #[.slice y1.a t.colours.length y1.ca, .slice y1.b t.pairs.length y1.cb, .slice y1.z t.zones.length y1.cz, .slice y1.r t.ready.length y1.cr, .int .i64 t.start, .int .i64 t.rate, .int .i64 t.stop, .int .i64 t.hang], .agg #[.slice y2.a t.colours.length y2.ca, .slice y2.b t.pairs.length y2.cb, .slice y2.z t.zones.length y2.cz, .slice y2.r t.ready.length y2.cr, .int .i64 t.start, .int .i64 t.rate, .int .i64 t.stop, .int .i64 t.hang]]) ∧ Hid (TitAt w' w'.heap.size t y1 zs1) ∧ Hid (TitAt w' w'.heap.size t y2 zs2) ∧ Hid (Below w.heap.size w w') :=
  (copied_any t x zs w hs hT).mono (by
    rintro e w' ⟨y1, y2, zs1, zs2, rfl, h1, h2, hb⟩
    exact ⟨y1, y2, zs1, zs2, rfl, h1, h2, hb⟩)
theorem kept_w (t : TitD) (x y : TA) (zs ys : List ZonM) (w : World) (hs : Sizes t) (hT : TitAt w w.heap.size t x zs) (hY : TitAt w w.heap.size t y ys) :
    Calls Try.prog 52 #[.agg #[.slice x.a t.colours.length x.ca, .slice x.b t.pairs.length x.cb, .slice x.z t.zones.length x.cz, .slice x.r t.ready.length x.cr, .int .i64 t.start, .int .i64 t.rate, .int .i64 t.stop, .int .i64 t.hang], .agg #[.slice y.a t.colours.length y.ca, .slice y.b t.pairs.length y.cb, .slice y.z t.zones.length y.cz, .slice y.r t.ready.length y.cr, .int .i64 t.start, .int .i64 t.rate, .int .i64 t.stop, .int .i64 t.hang]] w fun e w' => e = .returned (.bool true) ∧ Hid (Below w.heap.size w w') := kept_any t x y zs ys w hs hT hY
set_option maxRecDepth 20000 in
set_option maxHeartbeats 2000000 in
theorem copies_any (t : TitD) (x : TA) (zs : List ZonM) (w : World) (hs : Sizes t) (hT : TitAt w w.heap.size t x zs) (A : Option Addr) (c n : Nat) (l : List Int) (hn : l.length = n) (hl : l.length ≤ 12) (hA : Sl encInt 1 w w.heap.size A l) (p v k : Int) :
    Calls Try.prog 13 #[.agg #[.slice x.a t.colours.length x.ca, .slice x.b t.pairs.length x.cb, .slice x.z t.zones.length x.cz, .slice x.r t.ready.length x.cr, .int .i64 t.start, .int .i64 t.rate, .int .i64 t.stop, .int .i64 t.hang], .slice A n c, .int .i64 p, .int .i64 v, .int .i64 k] w fun e w' => e = .returned (.bool true) ∧ Below w.heap.size w w' := by
  obtain ⟨w1, hw1⟩ : ∃ W, W = w.alloc (.cells #[.slice x.a t.colours.length x.ca, .slice x.b t.pairs.length x.cb, .slice x.z t.zones.length x.cz, .slice x.r t.ready.length x.cr, .int .i64 t.start, .int .i64 t.rate, .int .i64 t.stop, .int .i64 t.hang] 26) := ⟨_, rfl⟩
  have hb1 : Below w.heap.size w w1 := by rw [hw1]; exact balR (Below.refl _ _) _
  obtain ⟨gT, hgT⟩ : ∃ g, g = w.heap.size := ⟨_, rfl⟩
  have kT : Blk w1 gT 26 (titV t x) := by rw [hw1, hgT]; exact Blk.new _ _ _
  have HR0 := Lib.hid (fun W hb => boxE t x kT W hb)
  obtain ⟨r0, r1, r2, r3, r4, r5, r6, r7⟩ := HR0.out _ (Below.refl _ _)
  have HTX := Lib.hid (fun W (hb : Below w1.heap.size w1 W) => (hT.below (hb1.trans (hb.mono hb1.size))).mono ((hb1.trans (hb.mono hb1.size)).size))
  have HAX := Lib.hid (fun W (hb : Below w1.heap.size w1 W) => (hA.below (hb1.trans (hb.mono hb1.size))).mono ((hb1.trans (hb.mono hb1.size)).size))
  have hn9 : n ≤ 12 := by omega
  have HS := Lib.hid hs
  have HN := Lib.hid hn
  have HL := Lib.hid hl
  have HB1 := Lib.hid hb1
  have HW1 := Lib.hid hw1
  have HGT := Lib.hid hgT
  clear hb1 hw1 hgT kT hT hA hs hn hl
  go_enter Try.func13, Try.ntmps13
  go_upto_region 1 with fail
  rw [← HW1.out, ← HGT.out]
  go_upto_region 2 with (go_at_call 39; refine (copied_w t x zs _ HS.out (HTX.out _ (Below.refl _ _))).mono ?_; rintro e w2 ⟨y1, y2, zs1, zs2, rfl, HY1, HY2, HB2⟩; clear r0 r1 r2 r3 r4 r5 r6 r7)
  obtain ⟨w3, hw3⟩ : ∃ W, W = (w2.alloc (.cells #[.slice y1.a t.colours.length y1.ca, .slice y1.b t.pairs.length y1.cb, .slice y1.z t.zones.length y1.cz, .slice y1.r t.ready.length y1.cr, .int .i64 t.start, .int .i64 t.rate, .int .i64 t.stop, .int .i64 t.hang] 26)).alloc (.cells #[.slice y2.a t.colours.length y2.ca, .slice y2.b t.pairs.length y2.cb, .slice y2.z t.zones.length y2.cz, .slice y2.r t.ready.length y2.cr, .int .i64 t.start, .int .i64 t.rate, .int .i64 t.stop, .int .i64 t.hang] 88) := ⟨_, rfl⟩
  obtain ⟨gA, hgA⟩ : ∃ g, g = w2.heap.size := ⟨_, rfl⟩
  obtain ⟨gB, hgB⟩ : ∃ g, g = w2.heap.size + 1 := ⟨_, rfl⟩
  rw [← hw3, ← hgB, ← hgA]
  have hb23 : Below w2.heap.size w2 w3 := by rw [hw3]; exact balR (balR (Below.refl _ _) _) _
  have kA : Blk w3 gA 26 (titV t y1) := by rw [hw3, hgA]; exact (blkAt rfl 26 _).alloc _
  have kB : Blk w3 gB 88 (titV t y2) := by rw [hw3, hgB]; exact blkAt (by simp) 88 _
  have HB13 := Lib.hid (HB2.out.trans (hb23.mono HB2.out.size))
  have HY13 := Lib.hid ((HY1.out.below hb23).mono hb23.size)
  have HY23 := Lib.hid ((HY2.out.below hb23).mono hb23.size)
  have HA := Lib.hid (fun W hb => boxE t y1 kA W hb)
  have HB := Lib.hid (fun W hb => boxE t y2 kB W hb)
  have HC40 := Lib.hid (show Calls Try.prog 40 #[.slice A n c] w3 fun e w' => ∃ A' c', e = .returned (.slice A' n c') ∧ Hid (Sl encInt 1 w' w'.heap.size A' l) ∧ Hid (Below w3.heap.size w3 w') from by
    have h := cloneOwn_any A c l w3 (by have := HL.out; omega) (HAX.out _ HB13.out)
    rw [HN.out] at h
    refine h.mono ?_
    rintro e w' ⟨A', c', rfl, ho, hb⟩
    rw [← HN.out] at ho
    exact ⟨A', c', rfl, Lib.hid (own_sl ho), Lib.hid hb⟩)
  clear hw3 hgA hgB kA kB hb23 HY1 HY2
  go_upto_region 3 with (go_at_call 40; refine HC40.out.mono ?_; rintro e w4 ⟨A', c', rfl, HO, HB34⟩)
  have HBW := Lib.hid (HB13.out.trans (HB34.out.mono HB13.out.size))
  have HA4 := Lib.hid (fun W (hb : Below w4.heap.size w4 W) => HA.out W (HB34.out.trans (hb.mono HB34.out.size)))
  have HB4 := Lib.hid (fun W (hb : Below w4.heap.size w4 W) => HB.out W (HB34.out.trans (hb.mono HB34.out.size)))
  have HR4 := Lib.hid (fun W (hb : Below w4.heap.size w4 W) => HR0.out W (HBW.out.trans (hb.mono HBW.out.size)))
  have HTA := Lib.hid (fun W (hb : Below w4.heap.size w4 W) => (HY13.out.below (HB34.out.trans (hb.mono HB34.out.size))).mono ((HB34.out.trans (hb.mono HB34.out.size)).size))
  have HTB := Lib.hid (fun W (hb : Below w4.heap.size w4 W) => (HY23.out.below (HB34.out.trans (hb.mono HB34.out.size))).mono ((HB34.out.trans (hb.mono HB34.out.size)).size))
  have HTT := Lib.hid (fun W (hb : Below w4.heap.size w4 W) => HTX.out W (HBW.out.trans (hb.mono HBW.out.size)))
  have HOO := Lib.hid (fun W (hb : Below w4.heap.size w4 W) => (HO.out.below hb).mono hb.size)
  have HAA := Lib.hid (fun W (hb : Below w4.heap.size w4 W) => HAX.out W (HBW.out.trans (hb.mono HBW.out.size)))
  obtain ⟨m, hm⟩ : ∃ m, m = (partsP t l).length := ⟨_, rfl⟩
  have hm9 : m ≤ 1000000000 := by rw [hm]; have := partsP_len t l HL.out; omega
  obtain ⟨er, her⟩ : ∃ e, e = errP t l := ⟨_, rfl⟩
  obtain ⟨rr, hrr⟩ : ∃ r, r = whichP t l k := ⟨_, rfl⟩
  have H27 := Lib.hid (fun W hb => lat27_c t y1 zs1 W HS.out (HTA.out W hb) A' c' n l HN.out HL.out (HOO.out W hb) p v)
  have H55 := Lib.hid (fun W hb => lat55_c t y2 zs2 W HS.out (HTB.out W hb) A c n l HN.out HL.out (HAA.out W hb) p v)
  have H17 := Lib.hid (fun W hb => parts17_c t y1 zs1 W HS.out (HTA.out W hb) A' c' n l HN.out HL.out (HOO.out W hb) m hm)
  have H56 := Lib.hid (fun W hb => parts56_c t y2 zs2 W HS.out (HTB.out W hb) A c n l HN.out HL.out (HAA.out W hb) m hm)
  have H18 := Lib.hid (fun W hb => which18_c t y1 zs1 W HS.out (HTA.out W hb) A' c' n l HN.out HL.out (HOO.out W hb) k rr hrr)
  have H59 := Lib.hid (fun W hb => which59_c t y2 zs2 W HS.out (HTB.out W hb) A c n l HN.out HL.out (HAA.out W hb) k rr hrr)
  have H52 := Lib.hid (fun W hb => kept_w t y1 x zs1 zs W HS.out (HTA.out W hb) (HTT.out W hb))
  have H57 := Lib.hid (fun A5 A6 c5 c6 W h5 h6 => (eqf57_any A5 A6 c5 c6 (partsP t l) m W hm.symm hm9 h5 h6))
  have H19 := Lib.hid (show ∀ W, Below w4.heap.size w4 W → Calls Try.prog 19 #[.slice A' n c', .slice A n c] W fun e w' => e = .returned (.bool true) ∧ Hid (Below W.heap.size W w') from fun W hb => by
    have h := equalInts_any A' A c' c l l W (by have := HL.out; omega) (by have := HL.out; omega) (HOO.out W hb) (HAA.out W hb)
    rw [HN.out] at h
    have h2 : Calls Try.prog 19 #[.slice A' n c', .slice A n c] W fun e w' => e = .returned (.bool true) ∧ Below W.heap.size W w' := by simpa using h
    exact h2)
  rw [← her] at H17 H56
  have HBN := Lib.hid (Below.refl w4.heap.size w4)
  obtain ⟨a0, a1, a2, a3, a4, a5, a6, a7⟩ := HA4.out _ (Below.refl _ _)
  obtain ⟨b0, b1, b2, b3, b4, b5, b6, b7⟩ := HB4.out _ (Below.refl _ _)
  obtain ⟨r0, r1, r2, r3, r4, r5, r6, r7⟩ := HR4.out _ (Below.refl _ _)
  clear hm her hrr hm9
  go_wp2_with first
    | (go_at_call 27; with_reducible refine (H27.out _ HBN.out).mono ?_; rintro e wk ⟨m1, e1, rfl, HP1, hbk⟩; have HBN := Lib.hid (HBN.out.trans (hbk.out.mono HBN.out.size));  clear hbk; clear a0 a1 a2 a3 a4 a5 a6 a7; obtain ⟨a0, a1, a2, a3, a4, a5, a6, a7⟩ := HA4.out _ HBN.out; clear b0 b1 b2 b3 b4 b5 b6 b7; obtain ⟨b0, b1, b2, b3, b4, b5, b6, b7⟩ := HB4.out _ HBN.out; clear r0 r1 r2 r3 r4 r5 r6 r7; obtain ⟨r0, r1, r2, r3, r4, r5, r6, r7⟩ := HR4.out _ HBN.out)
    | (go_at_call 55; with_reducible refine (H55.out _ HBN.out).mono ?_; rintro e wk ⟨m2, e2, rfl, HP2, hbk⟩; have HBN := Lib.hid (HBN.out.trans (hbk.out.mono HBN.out.size)); obtain ⟨rfl, rfl⟩ := latP_uniq HP1.out HP2.out; clear hbk; clear a0 a1 a2 a3 a4 a5 a6 a7; obtain ⟨a0, a1, a2, a3, a4, a5, a6, a7⟩ := HA4.out _ HBN.out; clear b0 b1 b2 b3 b4 b5 b6 b7; obtain ⟨b0, b1, b2, b3, b4, b5, b6, b7⟩ := HB4.out _ HBN.out; clear r0 r1 r2 r3 r4 r5 r6 r7; obtain ⟨r0, r1, r2, r3, r4, r5, r6, r7⟩ := HR4.out _ HBN.out)
    | (go_at_call 17; with_reducible refine (H17.out _ HBN.out).mono ?_; rintro e wk ⟨A5, c5, rfl, HP5, hbk⟩; have HBN := Lib.hid (HBN.out.trans (hbk.out.mono HBN.out.size));  clear hbk; clear a0 a1 a2 a3 a4 a5 a6 a7; obtain ⟨a0, a1, a2, a3, a4, a5, a6, a7⟩ := HA4.out _ HBN.out; clear b0 b1 b2 b3 b4 b5 b6 b7; obtain ⟨b0, b1, b2, b3, b4, b5, b6, b7⟩ := HB4.out _ HBN.out; clear r0 r1 r2 r3 r4 r5 r6 r7; obtain ⟨r0, r1, r2, r3, r4, r5, r6, r7⟩ := HR4.out _ HBN.out)
    | (go_at_call 56; with_reducible refine (H56.out _ HBN.out).mono ?_; rintro e wk ⟨A6, c6, rfl, HP6, hbk⟩; have HBN := Lib.hid (HBN.out.trans (hbk.out.mono HBN.out.size)); have HP5 := Lib.hid ((HP5.out.below hbk.out).mono hbk.out.size); clear hbk; clear a0 a1 a2 a3 a4 a5 a6 a7; obtain ⟨a0, a1, a2, a3, a4, a5, a6, a7⟩ := HA4.out _ HBN.out; clear b0 b1 b2 b3 b4 b5 b6 b7; obtain ⟨b0, b1, b2, b3, b4, b5, b6, b7⟩ := HB4.out _ HBN.out; clear r0 r1 r2 r3 r4 r5 r6 r7; obtain ⟨r0, r1, r2, r3, r4, r5, r6, r7⟩ := HR4.out _ HBN.out)
    | (go_at_call 57; with_reducible refine (H57.out A5 A6 c5 c6 _ HP5.out HP6.out).mono ?_; rintro e wk ⟨rfl, hbk⟩; have HBN := Lib.hid (HBN.out.trans (hbk.mono HBN.out.size)); clear hbk; clear a0 a1 a2 a3 a4 a5 a6 a7; obtain ⟨a0, a1, a2, a3, a4, a5, a6, a7⟩ := HA4.out _ HBN.out; clear b0 b1 b2 b3 b4 b5 b6 b7; obtain ⟨b0, b1, b2, b3, b4, b5, b6, b7⟩ := HB4.out _ HBN.out; clear r0 r1 r2 r3 r4 r5 r6 r7; obtain ⟨r0, r1, r2, r3, r4, r5, r6, r7⟩ := HR4.out _ HBN.out)
    | (go_at_call 18; with_reducible refine (H18.out _ HBN.out).mono ?_; rintro e wk ⟨rfl, hbk⟩; have HBN := Lib.hid (HBN.out.trans (hbk.out.mono HBN.out.size));  clear hbk; clear a0 a1 a2 a3 a4 a5 a6 a7; obtain ⟨a0, a1, a2, a3, a4, a5, a6, a7⟩ := HA4.out _ HBN.out; clear b0 b1 b2 b3 b4 b5 b6 b7; obtain ⟨b0, b1, b2, b3, b4, b5, b6, b7⟩ := HB4.out _ HBN.out; clear r0 r1 r2 r3 r4 r5 r6 r7; obtain ⟨r0, r1, r2, r3, r4, r5, r6, r7⟩ := HR4.out _ HBN.out)
    | (go_at_call 59; with_reducible refine (H59.out _ HBN.out).mono ?_; rintro e wk ⟨rfl, hbk⟩; have HBN := Lib.hid (HBN.out.trans (hbk.out.mono HBN.out.size));  clear hbk; clear a0 a1 a2 a3 a4 a5 a6 a7; obtain ⟨a0, a1, a2, a3, a4, a5, a6, a7⟩ := HA4.out _ HBN.out; clear b0 b1 b2 b3 b4 b5 b6 b7; obtain ⟨b0, b1, b2, b3, b4, b5, b6, b7⟩ := HB4.out _ HBN.out; clear r0 r1 r2 r3 r4 r5 r6 r7; obtain ⟨r0, r1, r2, r3, r4, r5, r6, r7⟩ := HR4.out _ HBN.out)
    | (go_at_call 52; with_reducible refine (H52.out _ HBN.out).mono ?_; rintro e wk ⟨rfl, hbk⟩; have HBN := Lib.hid (HBN.out.trans (hbk.out.mono HBN.out.size));  clear hbk; clear a0 a1 a2 a3 a4 a5 a6 a7; obtain ⟨a0, a1, a2, a3, a4, a5, a6, a7⟩ := HA4.out _ HBN.out; clear b0 b1 b2 b3 b4 b5 b6 b7; obtain ⟨b0, b1, b2, b3, b4, b5, b6, b7⟩ := HB4.out _ HBN.out; clear r0 r1 r2 r3 r4 r5 r6 r7; obtain ⟨r0, r1, r2, r3, r4, r5, r6, r7⟩ := HR4.out _ HBN.out)
    | (go_at_call 19; with_reducible refine (H19.out _ HBN.out).mono ?_; rintro e wk ⟨rfl, hbk⟩; have HBN := Lib.hid (HBN.out.trans (hbk.out.mono HBN.out.size));  clear hbk; clear a0 a1 a2 a3 a4 a5 a6 a7; obtain ⟨a0, a1, a2, a3, a4, a5, a6, a7⟩ := HA4.out _ HBN.out; clear b0 b1 b2 b3 b4 b5 b6 b7; obtain ⟨b0, b1, b2, b3, b4, b5, b6, b7⟩ := HB4.out _ HBN.out; clear r0 r1 r2 r3 r4 r5 r6 r7; obtain ⟨r0, r1, r2, r3, r4, r5, r6, r7⟩ := HR4.out _ HBN.out)
  go_ret
  exact ⟨rfl, HB1.out.trans ((HBW.out.trans (HBN.out.mono HBW.out.size)).mono HB1.out.size)⟩
set_option maxRecDepth 20000 in
set_option maxHeartbeats 2000000 in
theorem editionCopies_walk (haw : ∀ w, Calls Try.prog 12 #[] w fun e w' => e = .returned (.bool true) ∧ Below w.heap.size w w') (t : TitD) (x : TA) (zs : List ZonM) (w : World) (hT : TitAt w w.heap.size t x zs) (A : Option Addr) (c n : Nat) (l : List Int) (hn : l.length = n) (hA : Sl encInt 1 w w.heap.size A l) (p v k : Int) :
    Calls Try.prog 4 #[.agg #[.slice x.a t.colours.length x.ca, .slice x.b t.pairs.length x.cb, .slice x.z t.zones.length x.cz, .slice x.r t.ready.length x.cr, .int .i64 t.start, .int .i64 t.rate, .int .i64 t.stop, .int .i64 t.hang], .slice A n c, .int .i64 p, .int .i64 v, .int .i64 k] w fun e w' => e = .returned (.bool true) ∧ Below w.heap.size w w' := by
  obtain ⟨w1, hw1⟩ : ∃ W, W = w.alloc (.cells #[.slice x.a t.colours.length x.ca, .slice x.b t.pairs.length x.cb, .slice x.z t.zones.length x.cz, .slice x.r t.ready.length x.cr, .int .i64 t.start, .int .i64 t.rate, .int .i64 t.stop, .int .i64 t.hang] 26) := ⟨_, rfl⟩
  have hb1 : Below w.heap.size w w1 := by rw [hw1]; exact balR (Below.refl _ _) _
  obtain ⟨gT, hgT⟩ : ∃ g, g = w.heap.size := ⟨_, rfl⟩
  have kT : Blk w1 gT 26 (titV t x) := by rw [hw1, hgT]; exact Blk.new _ _ _
  have HR0 := Lib.hid (fun W hb => boxE t x kT W hb)
  obtain ⟨r0, r1, r2, r3, r4, r5, r6, r7⟩ := HR0.out _ (Below.refl _ _)
  have HTX := Lib.hid (fun W (hb : Below w1.heap.size w1 W) => (hT.below (hb1.trans (hb.mono hb1.size))).mono ((hb1.trans (hb.mono hb1.size)).size))
  have HAX := Lib.hid (fun W (hb : Below w1.heap.size w1 W) => (hA.below (hb1.trans (hb.mono hb1.size))).mono ((hb1.trans (hb.mono hb1.size)).size))
  have HGR := Lib.hid (show Calls Try.prog 10 #[.agg #[.slice x.a t.colours.length x.ca, .slice x.b t.pairs.length x.cb, .slice x.z t.zones.length x.cz, .slice x.r t.ready.length x.cr, .int .i64 t.start, .int .i64 t.rate, .int .i64 t.stop, .int .i64 t.hang]] w1 fun e w' => e = .returned (.bool (greatB t)) ∧ Below w1.heap.size w1 w' from great_any t x zs w1 (HTX.out _ (Below.refl _ _)))
  obtain ⟨bn, hbn⟩ : ∃ b, b = decide ((12 : Int) < (n : Int)) := ⟨_, rfl⟩
  have hbd := hbn.symm
  have HBN := Lib.hid hbn
  have HN := Lib.hid hn
  have HB1 := Lib.hid hb1
  have HW1 := Lib.hid hw1
  have HGT := Lib.hid hgT
  have HAW := Lib.hid haw
  clear hb1 hw1 hgT kT hT hA hn haw hbn
  cases hg : greatB t
  · have HS := Lib.hid (great_ok hg)
    rw [hg] at HGR
    clear hg
    cases bn
    · have hl : l.length ≤ 12 := by have h1 := HBN.out; have h2 := HN.out; simp at h1; omega
      have HC13 := Lib.hid (show ∀ W, Below w1.heap.size w1 W → Calls Try.prog 13 #[.agg #[.slice x.a t.colours.length x.ca, .slice x.b t.pairs.length x.cb, .slice x.z t.zones.length x.cz, .slice x.r t.ready.length x.cr, .int .i64 t.start, .int .i64 t.rate, .int .i64 t.stop, .int .i64 t.hang], .slice A n c, .int .i64 p, .int .i64 v, .int .i64 k] W fun e w' => e = .returned (.bool true) ∧ Below W.heap.size W w' from fun W hb => copies_any t x zs W HS.out (HTX.out W hb) A c n l HN.out hl (HAX.out W hb) p v k)
      go_enter Try.func4, Try.ntmps4
      go_upto_region 1 with fail
      rw [← HW1.out, ← HGT.out]
      go_wp2_with first
        | (go_at_call 10; refine HGR.out.mono ?_; rintro e w2 ⟨rfl, hb2⟩; have HB2 := Lib.hid hb2; clear hb2 r0 r1 r2 r3 r4 r5 r6 r7; obtain ⟨r0, r1, r2, r3, r4, r5, r6, r7⟩ := HR0.out _ HB2.out)
        | (go_at_call 13; refine (HC13.out _ HB2.out).mono ?_; rintro e w3 ⟨rfl, hb3⟩; have HB3 := Lib.hid hb3; clear hb3)
        | (go_at_call 12; refine (HAW.out _).mono ?_; rintro e w4 ⟨rfl, hb4⟩; have HB4 := Lib.hid hb4; clear hb4)
      go_ret
      exact ⟨rfl, HB1.out.trans ((HB2.out.trans ((HB3.out.trans (HB4.out.mono HB3.out.size)).mono HB2.out.size)).mono HB1.out.size)⟩
    · go_enter Try.func4, Try.ntmps4
      go_upto_region 1 with fail
      rw [← HW1.out, ← HGT.out]
      go_wp2_with first
        | (go_at_call 10; refine HGR.out.mono ?_; rintro e w2 ⟨rfl, hb2⟩; have HB2 := Lib.hid hb2; clear hb2)
        | (go_at_call 12; refine (HAW.out _).mono ?_; rintro e w4 ⟨rfl, hb4⟩; have HB4 := Lib.hid hb4; clear hb4)
      go_ret
      exact ⟨rfl, HB1.out.trans ((HB2.out.trans (HB4.out.mono HB2.out.size)).mono HB1.out.size)⟩
  · rw [hg] at HGR
    clear hg
    go_enter Try.func4, Try.ntmps4
    go_upto_region 1 with fail
    rw [← HW1.out, ← HGT.out]
    go_wp2_with first
      | (go_at_call 10; refine HGR.out.mono ?_; rintro e w2 ⟨rfl, hb2⟩; have HB2 := Lib.hid hb2; clear hb2)
      | (go_at_call 12; refine (HAW.out _).mono ?_; rintro e w4 ⟨rfl, hb4⟩; have HB4 := Lib.hid hb4; clear hb4)
    go_ret
    exact ⟨rfl, HB1.out.trans ((HB2.out.trans (HB4.out.mono HB2.out.size)).mono HB1.out.size)⟩
end Go.Proofs.Ytokdleanpkkdpaa
