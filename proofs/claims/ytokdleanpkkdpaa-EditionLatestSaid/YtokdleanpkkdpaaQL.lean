/- The walk of EditionLatest; conditions: bytes. -/
import Derived.Test.YtokdleanpkkdpaaZ4
import Derived.Test.YtokdleanpkkdpaaQD
import Derived.Deep.QuietTactic
import Derived.BigQuiet
import Derived.BigRegion
import Derived.Deep.RegionHeld3
import Derived.Deep.DeepCutAuto
set_option linter.unusedSimpArgs false
set_option linter.unusedVariables false
namespace Go.Proofs.Ytokdleanpkkdpaa
open Go.RowKit Go.Fh Go.Ed Go.Shelf
/-- Latest, in the walk's spelling -/
theorem latest_w (t : TitD) (x : TA) (zs : List ZonM) (w : World) (hs : Sizes t) (hc : checkT t = 0) (A : Option Addr) (c : Nat) (o : List Nat) (n : Nat) (hn : o.length = n) (p v : Int) (hl : n ≤ 100) (hA : Sl encInt 1 w w.heap.size A (o.map fun (e : Nat) => (e : Int))) (ho : ordersB (edsR t).length (o.map fun (e : Nat) => (e : Int)) = true)
    (hp : 0 ≤ p ∧ p ≤ (t.colours.length : Int) - 1) (hv : 0 ≤ v ∧ v ≤ 9) (hT : TitAt w w.heap.size t x zs) :
    Calls Try.prog 27 #[.agg #[.slice x.a t.colours.length x.ca, .slice x.b t.pairs.length x.cb, .slice x.z t.zones.length x.cz, .slice x.r t.ready.length x.cr, .int .i64 t.start, .int .i64 t.rate, .int .i64 t.stop, .int .i64 t.hang], .slice A n c, .int .i64 p, .int .i64 v] w fun e w' => ∃ m ec : Int, e = .returned (.tuple #[.int .i64 m, .int .i64 ec]) ∧ Hid ((ec = 0 ∧ LatI t o p v m) ∨ (ec = 4 ∧ inTW t o p v 0 = false)) ∧ Hid (Below w.heap.size w w') := by
  subst hn
  exact (Latest_ok t x zs w hs hT A c o p v hl hA hc ho hp hv).mono (by
    rintro e w' ⟨h | ⟨n, h, h2⟩, hb⟩
    · exact ⟨0, 4, h.2, Lib.hid (.inr ⟨rfl, h.1⟩), hb⟩
    · exact ⟨n, 0, h2, Lib.hid (.inl ⟨rfl, h⟩), hb⟩)
theorem intime_w (t : TitD) (x : TA) (zs : List ZonM) (w : World) (hs : Sizes t) (hc : checkT t = 0) (A : Option Addr) (c : Nat) (o : List Nat) (n : Nat) (hn : o.length = n) (hl : n ≤ 1000) (hA : Sl encInt 1 w w.heap.size A (o.map fun (e : Nat) => (e : Int))) (ho : ordersB (edsR t).length (o.map fun (e : Nat) => (e : Int)) = true) (hT : TitAt w w.heap.size t x zs) :
    Calls Try.prog 31 #[.agg #[.slice x.a t.colours.length x.ca, .slice x.b t.pairs.length x.cb, .slice x.z t.zones.length x.cz, .slice x.r t.ready.length x.cr, .int .i64 t.start, .int .i64 t.rate, .int .i64 t.stop, .int .i64 t.hang], .slice A n c] w fun e w' => ∃ m fc : Int, e = .returned (.tuple #[.int .i64 m, .int .i64 fc]) ∧ Hid ((fc = 0 ∧ noLate t (edsR t) o ∧ m = finAt t (edsR t) o o.length) ∨ (fc = 12 ∧ ¬ noLate t (edsR t) o)) ∧ Hid (Below w.heap.size w w') := by
  subst hn
  exact (InTime_ok t x zs w hs hT A c o hl hA hc ho).mono (by
    rintro e w' ⟨⟨h, h2⟩ | ⟨i, h, h2⟩, hb⟩
    · exact ⟨_, 0, h2, Lib.hid (.inl ⟨rfl, h, rfl⟩), hb⟩
    · exact ⟨_, 12, h2, Lib.hid (.inr ⟨rfl, fun hn => by have q := hn i h.1; rw [h.2.1] at q; cases q⟩), hb⟩)
set_option maxRecDepth 100000 in
set_option maxHeartbeats 8000000 in
theorem editionLatest_walk (haw : ∀ w, Calls Try.prog 12 #[] w fun e w' => e = .returned (.bool true) ∧ Below w.heap.size w w') (A0 : Option Addr) (c0 : Nat) (l0 : List Nat) (A1 : Option Addr) (c1 : Nat) (l1 : List Nat) (pg vr at_ fa : Int) (W : World)
    (hl0 : l0.length ≤ 9223372036854775807) (hl1 : l1.length ≤ 9223372036854775807) (hb0 : ∀ x ∈ l0, x ≤ 255) (hb1 : ∀ x ∈ l1, x ≤ 255) (s0 : Sl encBn 1 W W.heap.size A0 l0) (s1 : Sl encBn 1 W W.heap.size A1 l1) (hpg0 : 0 ≤ pg) (hpg1 : pg ≤ 255) (hvr0 : 0 ≤ vr) (hvr1 : vr ≤ 255) (hat0 : 0 ≤ at_) (hat1 : at_ ≤ 65535) (hfa0 : 0 ≤ fa) (hfa1 : fa ≤ 255) :
    Calls Try.prog 8 #[.slice A0 l0.length c0, .slice A1 l1.length c1, .int .u8 pg, .int .u8 vr, .int .u16 at_, .int .u8 fa] W fun e w' => e = .returned (.bool true) ∧ Below W.heap.size W w' := by
  obtain ⟨t, ht⟩ : ∃ t, t = madeT l0 := ⟨_, rfl⟩
  have hc : checkT t = 0 := by rw [ht]; exact madeT_ok l0
  have hs : Sizes t := by rw [ht]; exact made_sizes l0
  have hrt : t.rate ≤ 219 := by rw [ht]; exact made_rate l0
  have hrd6 : t.ready.length ≤ 6 := by rw [ht]; exact Nat.le_trans (rdyM_ok l0 _ (pagesM l0)).1 (by have := pagesM_bd l0; omega)
  have hch := chk_ok hc
  obtain ⟨n, hn⟩ : ∃ n, n = (edsR t).length := ⟨_, rfl⟩
  have hn7 := eds_le hc
  rw [← hn] at hn7
  obtain ⟨hn1, hn2⟩ := hn7
  have hcl := hch.c0
  have hcu := hch.ok.c1
  obtain ⟨p, hp⟩ : ∃ p, p = pg % (t.colours.length : Int) := ⟨_, rfl⟩
  obtain ⟨v, hv⟩ : ∃ v, v = vr % 2 := ⟨_, rfl⟩
  have hp1 : 0 ≤ p ∧ p ≤ (t.colours.length : Int) - 1 := by
    have := Int.emod_nonneg pg (show (t.colours.length : Int) ≠ 0 by omega)
    have := Int.emod_lt_of_pos pg (show (0 : Int) < (t.colours.length : Int) by omega)
    omega
  have hv1 : 0 ≤ v ∧ v ≤ 9 := by omega
  have t6 : decide ((n : Int) < 1) = false := by simp; omega
  have t7 : decide ((7 : Int) < (n : Int)) = false := by simp; omega
  have hpl : (permM l1 n).length = n := permM_len l1 n
  have HPV := Lib.hid (And.intro hp hv)
  have HP1 := Lib.hid hp1
  have HV1 := Lib.hid hv1
  have HT0 := Lib.hid ht
  have HN := Lib.hid hn
  have HCH := Lib.hid hch
  have HSZ := Lib.hid hs
  have HC := Lib.hid hc
  have HRT := Lib.hid hrt
  have HS0 := Lib.hid s0
  have HS1 := Lib.hid s1
  have HB1' := Lib.hid hb1
  clear hp hv hp1 hv1 hch hs hc hn s0 s1 hb1 ht hrt
  go_enter Try.func8, Try.ntmps8
  go_upto_region 1 with fail
  go_upto_region 2 with (go_at_call 14; refine (made_w A0 c0 l0 _ t HT0.out hl0 hb0 HS0.out).mono ?_; rintro e w1 ⟨x, zs, rfl, HT, HB⟩)
  obtain ⟨gT, hgT⟩ : ∃ g, g = w1.heap.size := ⟨_, rfl⟩
  obtain ⟨w2, hw2⟩ : ∃ W, W = w1.alloc (.cells #[.slice x.a t.colours.length x.ca, .slice x.b t.pairs.length x.cb, .slice x.z t.zones.length x.cz, .slice x.r t.ready.length x.cr, .int .i64 t.start, .int .i64 t.rate, .int .i64 t.stop, .int .i64 t.hang] 26) := ⟨_, rfl⟩
  have KT := Lib.hid (show Blk w2 gT 26 (titV t x) by rw [hw2, hgT]; exact Blk.new w1 26 (titV t x))
  have hb12 : Below w1.heap.size w1 w2 := by rw [hw2]; exact (Below.refl _ _).alloc (Nat.le_refl _) _
  have H2 := Lib.hid (HB.out.trans (hb12.mono HB.out.size))
  have HT2 := Lib.hid (show ∀ W', Below w2.heap.size w2 W' → TitAt W' W'.heap.size t x zs from fun W' hb => ((HT.out.below (hb12.trans (hb.mono hb12.size))).mono ((hb12.trans (hb.mono hb12.size)).size)))
  have HB12 := Lib.hid hb12
  rw [← hw2, ← hgT]
  clear hw2 hgT hb12
  obtain ⟨a0, a1, a2, a3, a4, a5, a6, a7⟩ := tit_cells KT.out
  go_upto_region 3 with (go_at_call 15; refine (eds_w t x zs _ HSZ.out HC.out n HN.out (HT2.out _ (Below.refl _ _))).mono ?_; rintro e w3 ⟨k, rfl, HK, HB3⟩; obtain ⟨a0, a1, a2, a3, a4, a5, a6, a7⟩ := tit_cells (KT.out.below HB3.out KT.out.lt))
  go_upto_region 5 with fail
  go_upto_region 6 with (go_at_call 16; refine (perm_w A1 c1 n l1 _ (by omega) hl1 HB1'.out ((HS1.out.below (H2.out.trans (HB3.out.mono H2.out.size))).mono (H2.out.trans (HB3.out.mono H2.out.size)).size)).mono ?_; rintro e w4 ⟨Ao, co, rfl, HO, hb⟩; have H4 := Lib.hid (HB3.out.trans (hb.out.mono HB3.out.size)); clear hb; obtain ⟨a0, a1, a2, a3, a4, a5, a6, a7⟩ := tit_cells (KT.out.below H4.out KT.out.lt))
  obtain ⟨o, ho⟩ : ∃ o, o = permM l1 n := ⟨_, rfl⟩
  rw [← ho] at hpl HO
  have HOE := Lib.hid (show ∀ e ∈ o, e < (edsR t).length from by rw [ho, ← HN.out]; exact permM_lt l1 n)
  have HOO := Lib.hid (show ordersB (edsR t).length (o.map fun (e : Nat) => (e : Int)) = true by rw [ho, ← HN.out]; exact permM_orders l1 n)
  have HPL := Lib.hid hpl
  clear ho hpl
  go_upto_region 7 with fail
  rw [← HPV.out.1, ← HPV.out.2]
  obtain ⟨gp, hgp⟩ : ∃ g, g = w4.heap.size := ⟨_, rfl⟩
  obtain ⟨gv, hgv⟩ : ∃ g, g = w4.heap.size + 1 := ⟨_, rfl⟩
  obtain ⟨w5, hw5⟩ : ∃ W, W = (w4.alloc (.cells #[.int .i64 p] 3)).alloc (.cells #[.int .i64 v] 3) := ⟨_, rfl⟩
  rw [← hw5, ← hgv, ← hgp]
  have hb45 : Below w4.heap.size w4 w5 := by rw [hw5]; exact bal (bal (Below.refl _ _) _) _
  have KG := Lib.hid (show Blk w5 gp 3 #[.int .i64 p] by rw [hw5, hgp]; exact (blkAt rfl 3 _).alloc _)
  have KV := Lib.hid (show Blk w5 gv 3 #[.int .i64 v] by rw [hw5, hgv]; exact blkAt (by simp) 3 _)
  have H5 := Lib.hid (H4.out.trans (hb45.mono H4.out.size))
  have HO5 := Lib.hid ((HO.out.below hb45).mono hb45.size)
  clear hw5 hgp hgv hb45 a0 a1 a2 a3 a4 a5 a6 a7
  obtain ⟨a0, a1, a2, a3, a4, a5, a6, a7⟩ := tit_cells (KT.out.below H5.out KT.out.lt)
  have p0 := KG.out.cell 0
  have v0 := KV.out.cell 0
  simp at p0 v0
  have hgpl := KG.out.lt
  have hgvl := KV.out.lt
  go_upto_region 8 with (go_at_call 27; refine (latest_w t x zs _ HSZ.out HC.out Ao co o n HPL.out p v (by omega) HO5.out HOO.out HP1.out HV1.out (HT2.out _ H5.out)).mono ?_; rintro e w6 ⟨lm, le, rfl, HLR, hb⟩; have H6 := Lib.hid (H5.out.trans (hb.out.mono H5.out.size)); have HB56 := Lib.hid hb.out; clear hb; obtain ⟨a0, a1, a2, a3, a4, a5, a6, a7⟩ := tit_cells (KT.out.below H6.out KT.out.lt))
  go_upto_region 9 with fail
  obtain ⟨gX, hgX⟩ : ∃ g, g = w6.heap.size := ⟨_, rfl⟩
  obtain ⟨w7, hw7⟩ : ∃ W, W = w6.alloc (.cells #[.slice x.a t.colours.length x.ca, .slice x.b t.pairs.length x.cb, .slice x.z t.zones.length x.cz, .slice x.r t.ready.length x.cr, .int .i64 t.start, .int .i64 t.rate, .int .i64 t.stop, .int .i64 t.hang] 26) := ⟨_, rfl⟩
  rw [← hw7, ← hgX]
  have hb67 : Below w6.heap.size w6 w7 := by rw [hw7]; exact bal (Below.refl _ _) _
  have KX := Lib.hid (show Blk w7 gX 26 (titV t x) by rw [hw7, hgX]; exact Blk.new w6 26 (titV t x))
  have H7 := Lib.hid (H6.out.trans (hb67.mono H6.out.size))
  have HB57 := Lib.hid (HB56.out.trans (hb67.mono HB56.out.size))
  have hgX1 : w6.heap.size ≤ gX := by omega
  clear hw7 hgX hb67 a0 a1 a2 a3 a4 a5 a6 a7 p0 v0
  obtain ⟨fl, hfl⟩ : ∃ l, l = t.ready.filter (fun r => !hitR p v r) := ⟨_, rfl⟩
  have hrl : t.ready.length ≤ 200 := chk_ready HC.out
  have hfl1 : fl.length ≤ t.ready.length := by rw [hfl]; exact List.length_filter_le _ _
  have hrl24 : t.ready.length * 24 ≤ 140737488355328 := by omega
  have hfm1 : fl.length + 1 ≤ maxLen := by simp only [maxLen]; omega
  have hfm2 : (fl.length + 1) * 24 ≤ 140737488355328 := by omega
  have low : ∀ w', Below w7.heap.size w7 w' → Below w5.heap.size w5 w' := fun w' hs => HB57.out.trans (hs.mono HB57.out.size)
  have lowT : ∀ w', Below w7.heap.size w7 w' → Below w2.heap.size w2 w' := fun w' hs => H7.out.trans (hs.mono H7.out.size)
  have hgT := Nat.lt_of_lt_of_le KT.out.lt H6.out.size
  have h56 := HB56.out.size
  have SB := Lib.hid (show ∀ w', Below w7.heap.size w7 w' → w'.cell? ⟨gT, 3, none⟩ = some (.slice x.r t.ready.length x.cr) ∧ w'.cell? ⟨gp, 0, none⟩ = some (.int .i64 p) ∧ w'.cell? ⟨gv, 0, none⟩ = some (.int .i64 v) from fun w' hs =>
    ⟨by rw [(KT.out.below (lowT w' hs) KT.out.lt).cell]; rfl, by rw [(KG.out.below (low w' hs) KG.out.lt).cell]; rfl, by rw [(KV.out.below (low w' hs) KV.out.lt).cell]; rfl⟩)
  have SB2 := Lib.hid (show ∀ w' u, Below w7.heap.size w7 w' → (w'.setCell ⟨gX, 3, none⟩ u).cell? ⟨gT, 3, none⟩ = some (.slice x.r t.ready.length x.cr) ∧ (w'.setCell ⟨gX, 3, none⟩ u).cell? ⟨gp, 0, none⟩ = some (.int .i64 p) ∧ (w'.setCell ⟨gX, 3, none⟩ u).cell? ⟨gv, 0, none⟩ = some (.int .i64 v) from fun w' u hs =>
    ⟨by rw [((KT.out.below (lowT w' hs) KT.out.lt).far (by show gT ≠ gX; omega) u).cell]; rfl, by rw [((KG.out.below (low w' hs) KG.out.lt).far (by show gp ≠ gX; omega) u).cell]; rfl, by rw [((KV.out.below (low w' hs) KV.out.lt).far (by show gv ≠ gX; omega) u).cell]; rfl⟩)
  have HRTs := Lib.hid (show ∀ w', Below w7.heap.size w7 w' → Sl enc3 3 w' w'.heap.size x.r t.ready from fun w' hs => (HT2.out w' (lowT w' hs)).cR)
  have h57 := HB57.out.size
  have HDF := Lib.hid (show ∀ A5 c5 w', Below w7.heap.size w7 w' → w'.ownsRow w7.heap.size 69 3 (.slice A5 t.ready.length c5) t.ready.length (t.ready.flatMap enc3) →
      Calls Try.prog 28 #[.slice A5 t.ready.length c5, .func (.func 30) #[] #[.pointer (some ⟨gp, 0, none⟩), .pointer (some ⟨gv, 0, none⟩)]] w' fun e w'' => e = .returned (.slice A5 fl.length c5) ∧ w''.ownsRow w7.heap.size 69 3 (.slice A5 fl.length c5) fl.length (fl.flatMap enc3) ∧ w'.grownBy w'' (Value.slice A5 t.ready.length c5).ownBlock from fun A5 c5 w' hb ho => by
    have := deleteFunc30_any gp gv A5 c5 t.ready p v w' w7.heap.size (by omega) hb.size ho (SB.out w' hb).2.1 (SB.out w' hb).2.2 (fun e => by have := (ho.lt gp e).1; omega) (fun e => by have := (ho.lt gv e).1; omega)
    rw [← hfl] at this
    exact this)
  have LOWT := Lib.hid lowT
  have LOW := Lib.hid low
  have HFL := Lib.hid hfl
  have HB0 := Lib.hid (Below.refl w7.heap.size w7)
  have hX7 := KX.out.lt
  have HFW := Lib.hid (show ∀ w', Below w7.heap.size w7 w' → w'.frozen? ⟨gX, 3, none⟩ = false ∧ gX < w'.heap.size ∧ ∃ u, w'.cell? ⟨gX, 3, none⟩ = some u from fun w' hb => ⟨(KX.out.below hb hX7).frozen 3, (KX.out.below hb hX7).lt, _, by rw [(KX.out.below hb hX7).cell]; rfl⟩)
  obtain ⟨i69, hi69, xz0, xz1, xz2⟩ := info_parts infoRdyZ
  have HI69 := Lib.hid hi69
  clear low lowT hfl hi69
  go_cut [] (fun wx => ∃ (g9 cap9 : Nat) (w9 : World), Hid (Below w7.heap.size w7 w9) ∧ Hid (w9.ownsRow w7.heap.size 69 3 (.slice (some ⟨g9, 0, none⟩) (fl.length + 1) cap9) (fl.length + 1) ((fl ++ [(p, v, at_)]).flatMap enc3)) ∧ Hid (wx = w9.setCell ⟨gX, 3, none⟩ (.slice (some ⟨g9, 0, none⟩) (fl.length + 1) cap9)))
  case first =>
    have ka : IntKind.i64.wrap at_ = at_ := by rw [IntKind.wrap_i64]; omega
    go_region_held3 (fun w' => w'.cell? ⟨gT, 3, none⟩ = some (.slice x.r t.ready.length x.cr) ∧ w'.cell? ⟨gp, 0, none⟩ = some (.int .i64 p) ∧ w'.cell? ⟨gv, 0, none⟩ = some (.int .i64 v))
      (first | exact SB2.out _ _ HB9.out | (refine SB.out _ ?_; (repeat (first | exact HB0.out | exact HB5.out | exact HB6.out | exact HB9.out | refine Below.drew ?_ | refine bal ?_ _)); done))
      (first
        | (go_at_call 29; refine (cloneRdy_any x.r x.cr t.ready _ hrl24 (HRTs.out _ (by repeat (first | exact HB0.out | refine Below.drew ?_ | refine bal ?_ _)))).mono ?_; rintro e w8 ⟨A5, c5, rfl, ho5, hb5⟩
           have HB5 := Lib.hid (show Below w7.heap.size w7 w8 from Below.trans (by repeat (first | exact HB0.out | refine Below.drew ?_ | refine bal ?_ _)) (hb5.mono (by first | exact Nat.le_refl _ | simp)))
           have HO5' := Lib.hid (show w8.ownsRow w7.heap.size 69 3 (.slice A5 t.ready.length c5) t.ready.length (t.ready.flatMap enc3) from World.ownsRow.mono ho5 (by first | exact Nat.le_refl _ | simp))
           have HK5 := Lib.hid (fun g' t' cs' (h : Blk _ g' t' cs') => Blk.below h hb5 h.lt)
           have hz5 := hb5.size
           have HN5 := Lib.hid (show ∀ j, (Value.slice A5 t.ready.length c5).ownBlock = some j → _ ≤ j ∧ j < w8.heap.size from ho5.lt)
           clear ho5 hb5)
        | (go_at_call 28; refine (HDF.out A5 c5 _ (by repeat (first | exact HB5.out | refine Below.drew ?_ | refine bal ?_ _)) (by first | exact HO5'.out | exact HO5'.out.alloc _)).mono ?_; rintro e w8' ⟨rfl, ho6, hg6⟩
           have HB6 := Lib.hid (show Below w7.heap.size w7 w8' from Below.grown (by repeat (first | exact HB5.out | refine Below.drew ?_ | refine bal ?_ _)) hg6 (by first | exact HB5.out.size | (simp; have := HB5.out.size; omega)) (fun j e => (HO5'.out.lt j e).1))
           have HO6 := Lib.hid ho6
           have HK6 := Lib.hid (fun g' t' cs' (h : Blk _ g' t' cs') (hn : some g' ≠ (Value.slice A5 t.ready.length c5).ownBlock) => Blk.grown h hg6 hn)
           have hz6 := hg6.size
           clear ho6 hg6)
        | (refine step_append_lies _ rfl (.tmp 73) (.tmp 79) 24 rfl w7.heap.size 69 i69 _ 3 24 Try.underlying24 HI69.out xz0 xz1 xz2 rfl (by decide) (.slice A5 fl.length c5) fl.length (fl.flatMap enc3) (by rfl) (by first | exact HO6.out | exact HO6.out.alloc _) _ 1 1 [.int .i64 p, .int .i64 v, .int .i64 at_] (by rfl) rfl
             (World.news_of_block (cs := #[.int .i64 p, .int .i64 v, .int .i64 at_]) (t := 69) (fr := (0, 0)) (by
               show Blk _ _ 69 #[.int .i64 p, .int .i64 v, .int .i64 at_]
               first
                 | exact Blk.new _ _ _
                 | exact HK6.out _ _ _ (Blk.new _ _ _) (fun e => by have := (HN5.out _ e.symm).2; omega)
                 | exact HK6.out _ _ _ (HK5.out _ _ _ (Blk.new _ _ _)) (fun e => by have := (HN5.out _ e.symm).1; simp at this; omega)))
             (by intro u hu; simp at hu; rcases hu with rfl | rfl | rfl <;> rfl) (by decide) hfm1 hfm2 (by first | exact HB6.out.size | (simp; have := HB6.out.size; omega)) _ rfl ?_
           intro g9 cap9 w9 hown9 hgrow9 hat9 hlt9
           have HB9 := Lib.hid (show Below w7.heap.size w7 w9 from Below.grown (by repeat (first | exact HB6.out | refine Below.drew ?_ | refine bal ?_ _)) hgrow9 (by first | exact HB6.out.size | (simp; have := HB6.out.size; omega)) (fun j e => (HO6.out.lt j e).1))
           have HO9 := Lib.hid hown9
           have hz9 := HFW.out w9 HB9.out
           obtain ⟨f9, l9, u9, c9⟩ := hz9
           clear hown9 hgrow9 hat9))
    all_goals go_wp2
    all_goals go_meet
    all_goals
      refine ⟨g9, cap9, w9, HB9, ?_, Lib.hid rfl⟩
      have := HO9.out
      rw [show fl.flatMap enc3 ++ [.int .i64 p, .int .i64 v, .int .i64 at_] = (fl ++ [(p, v, at_)]).flatMap enc3 by simp [enc3]] at this
      exact this
  case rest =>
    obtain ⟨g9, cap9, w9, HB9, HO9, HWX⟩ := hcut
    obtain ⟨t2, ht2⟩ : ∃ z, z = withT t p v at_ := ⟨_, rfl⟩
    obtain ⟨x2, hx2⟩ : ∃ z, z = setX x (some ⟨g9, 0, none⟩) cap9 := ⟨_, rfl⟩
    have hrdy : t2.ready = fl ++ [(p, v, at_)] := by rw [ht2, HFL.out]; rfl
    have hrl2 : t2.ready.length = fl.length + 1 := by rw [hrdy]; simp
    have kXc : Blk wc gX 26 (titV t2 x2) := by
      have := (KX.out.below HB9.out hX7).set_ 3 (.slice (some ⟨g9, 0, none⟩) (fl.length + 1) cap9)
      rw [← HWX.out, ← hrl2, ht2] at this
      rw [ht2, hx2]
      exact this
    have hb5c : Below w5.heap.size w5 wc := by rw [HWX.out]; exact (LOW.out _ HB9.out).setCell (by show w5.heap.size ≤ gX; omega) _
    have hb2c : Below w2.heap.size w2 wc := H5.out.trans (hb5c.mono H5.out.size)
    have hb1c : Below w1.heap.size w1 wc := HB12.out.trans (hb2c.mono HB12.out.size)
    have tt := (HT.out.below hb1c).mono hb1c.size
    have oR : wc.ownsRow w7.heap.size 69 3 (.slice x2.r t2.ready.length x2.cr) t2.ready.length (t2.ready.flatMap enc3) := by
      have h1 := own_far HO9.out (p := ⟨gX, 3, none⟩) (by exact own_blk_ne HO9.out (KX.out.below HB9.out hX7) (by decide)) (.slice (some ⟨g9, 0, none⟩) (fl.length + 1) cap9)
      rw [← HWX.out] at h1
      rw [hrl2, hx2, hrdy]
      exact h1
    have tt2 : TitAt wc wc.heap.size t2 x2 zs := by
      refine ⟨?_, ?_, ?_, ?_, tt.cV, Sl.of_own (fun _ => rfl) oR⟩
      · rw [ht2]; exact tt.zeq
      · rw [ht2, hx2]; exact tt.cA
      · rw [ht2, hx2]; exact tt.cB
      · rw [hx2]; exact tt.cZ
    have hc2 : checkT t2 = 0 := by
      rw [ht2]
      refine with_check HC.out HP1.out HV1.out ⟨hat0, by omega⟩ ?_
      rw [← ht2, hrl2]; omega
    have hs2 : Sizes t2 := by rw [ht2]; exact ⟨HSZ.out.s1, HSZ.out.s2, HSZ.out.s3, by rw [← ht2, hrl2]; omega, HSZ.out.s5⟩
    have hln2 : (edsR t2).length = (edsR t).length := by rw [edsR_len, edsR_len, edsN_zones_only (t := t2) (t' := t) (by rw [ht2]; rfl), ht2]; rfl
    have hoo2 : ordersB (edsR t2).length (o.map fun (e : Nat) => (e : Int)) = true := by rw [hln2]; exact HOO.out
    have HTW := Lib.hid (show inTW t o p v at_ = true ↔ noLate t2 (edsR t2) o by rw [ht2]; exact inTW_iff t o p v at_)
    have HC2 := Lib.hid hc2
    have HS2 := Lib.hid hs2
    have HOO2 := Lib.hid hoo2
    have TT2 := Lib.hid tt2
    have HBC := Lib.hid hb2c
    have HB5C := Lib.hid hb5c
    have HO6' := Lib.hid ((HO5.out.below hb5c).mono hb5c.size)
    obtain ⟨a0, a1, a2, a3, a4, a5, a6, a7⟩ := tit_cells kXc
    clear ht2 hx2 hrdy hrl2 kXc hb5c hb2c hb1c tt oR tt2 hc2 hs2 hln2 hoo2
    go_upto_region 11 with (go_at_call 31; refine (intime_w t2 x2 zs _ HS2.out HC2.out Ao co o n HPL.out (by omega) HO6'.out HOO2.out TT2.out).mono ?_; rintro e w10 ⟨im, fe, rfl, HIR, hb⟩; have H10 := Lib.hid (HBC.out.trans (hb.out.mono HBC.out.size)); have HO10 := Lib.hid ((HO6'.out.below hb.out).mono hb.out.size); clear hb)
    clear a0 a1 a2 a3 a4 a5 a6 a7
    go_cut [106] (fun q wx => q = .bool false ∧ wx = w10)
    case first =>
      rcases HLR.out with ⟨rfl, hL⟩ | ⟨rfl, hN⟩
      · rcases HIR.out with ⟨rfl, hI, -⟩ | ⟨rfl, hI⟩
        · have hle : at_ ≤ lm := (latI_iff hL (by omega)).1 (HTW.out.2 hI)
          have tb : decide (at_ ≤ lm) = true := by simpa using hle
          clear hL hI hle
          go_wp2_with fail
          go_meet
          exact ⟨rfl, rfl⟩
        · have hle : ¬ at_ ≤ lm := fun h => hI (HTW.out.1 ((latI_iff hL (by omega)).2 h))
          have tb : decide (at_ ≤ lm) = false := by simpa using hle
          clear hL hI hle
          go_wp2_with fail
          go_meet
          exact ⟨rfl, rfl⟩
      · rcases HIR.out with ⟨rfl, hI, -⟩ | ⟨rfl, hI⟩
        · exact absurd (HTW.out.2 hI) (by rw [inTW_anti hat0 hN]; simp)
        · clear hN hI
          go_wp2_with fail
          go_meet
          exact ⟨rfl, rfl⟩
    case rest =>
      obtain ⟨rfl, rfl⟩ := hcut
      obtain ⟨a0, a1, a2, a3, a4, a5, a6, a7⟩ := tit_cells (KT.out.below H10.out KT.out.lt)
      go_upto_region 14 with fail
      obtain ⟨gY, hgY⟩ : ∃ g, g = wc.heap.size := ⟨_, rfl⟩
      obtain ⟨w11, hw11⟩ : ∃ W, W = wc.alloc (.cells #[.slice x.a t.colours.length x.ca, .slice x.b t.pairs.length x.cb, .slice x.z t.zones.length x.cz, .slice x.r t.ready.length x.cr, .int .i64 t.start, .int .i64 t.rate, .int .i64 t.stop, .int .i64 t.hang] 26) := ⟨_, rfl⟩
      rw [← hw11, ← hgY]
      have hb11 : Below wc.heap.size wc w11 := by rw [hw11]; exact bal (Below.refl _ _) _
      have KY := Lib.hid (show Blk w11 gY 26 (titV t x) by rw [hw11, hgY]; exact Blk.new wc 26 (titV t x))
      have H11 := Lib.hid (H10.out.trans (hb11.mono H10.out.size))
      have HBC1 := Lib.hid hb11
      have hgY1 : wc.heap.size ≤ gY := by omega
      have hgT2 := Nat.lt_of_lt_of_le KT.out.lt H10.out.size
      have low : ∀ w', Below w11.heap.size w11 w' → Below w2.heap.size w2 w' := fun w' hs => H11.out.trans (hs.mono H11.out.size)
      have hY11 := KY.out.lt
      clear hw11 hgY hb11 a0 a1 a2 a3 a4 a5 a6 a7
      have SB3 := Lib.hid (show ∀ w', Below w11.heap.size w11 w' → w'.cell? ⟨gT, 5, none⟩ = some (.int .i64 t.rate) ∧ w'.cell? ⟨gT, 3, none⟩ = some (.slice x.r t.ready.length x.cr) from fun w' hs =>
        ⟨by rw [(KT.out.below (low w' hs) KT.out.lt).cell]; rfl, by rw [(KT.out.below (low w' hs) KT.out.lt).cell]; rfl⟩)
      have SB4 := Lib.hid (show ∀ w' u, Below w11.heap.size w11 w' → (w'.setCell ⟨gY, 5, none⟩ u).cell? ⟨gT, 5, none⟩ = some (.int .i64 t.rate) ∧ (w'.setCell ⟨gY, 5, none⟩ u).cell? ⟨gT, 3, none⟩ = some (.slice x.r t.ready.length x.cr) from fun w' u hs =>
        ⟨by rw [((KT.out.below (low w' hs) KT.out.lt).far (by show gT ≠ gY; omega) u).cell]; rfl, by rw [((KT.out.below (low w' hs) KT.out.lt).far (by show gT ≠ gY; omega) u).cell]; rfl⟩)
      have SB5 := Lib.hid (show ∀ w' u u2, Below w11.heap.size w11 w' → ((w'.setCell ⟨gY, 5, none⟩ u).setCell ⟨gY, 3, none⟩ u2).cell? ⟨gT, 5, none⟩ = some (.int .i64 t.rate) ∧ ((w'.setCell ⟨gY, 5, none⟩ u).setCell ⟨gY, 3, none⟩ u2).cell? ⟨gT, 3, none⟩ = some (.slice x.r t.ready.length x.cr) from fun w' u u2 hs =>
        ⟨by rw [(((KT.out.below (low w' hs) KT.out.lt).far (by show gT ≠ gY; omega) u).far (by show gT ≠ gY; omega) u2).cell]; rfl, by rw [(((KT.out.below (low w' hs) KT.out.lt).far (by show gT ≠ gY; omega) u).far (by show gT ≠ gY; omega) u2).cell]; rfl⟩)
      have HRT3 := Lib.hid (show ∀ w', Below w11.heap.size w11 w' → Sl enc3 3 w' w'.heap.size x.r t.ready from fun w' hs => (HT2.out w' (low w' hs)).cR)
      have HFY := Lib.hid (show ∀ w', Below w11.heap.size w11 w' → ∃ u5 u3, w'.cell? ⟨gY, 5, none⟩ = some u5 ∧ w'.frozen? ⟨gY, 5, none⟩ = false ∧ gY < w'.heap.size ∧ (∀ u, (w'.setCell ⟨gY, 5, none⟩ u).cell? ⟨gY, 3, none⟩ = some u3) ∧ (∀ u, (w'.setCell ⟨gY, 5, none⟩ u).frozen? ⟨gY, 3, none⟩ = false) from fun w' hs =>
        ⟨_, _, by rw [(KY.out.below hs hY11).cell]; rfl, (KY.out.below hs hY11).frozen 5, (KY.out.below hs hY11).lt, fun u => by rw [((KY.out.below hs hY11).set_ 5 u).cell]; rfl, fun u => ((KY.out.below hs hY11).set_ 5 u).frozen 3⟩)
      have HB11 := Lib.hid (Below.refl w11.heap.size w11)
      have LOW2 := Lib.hid low
      have hrt0 := HCH.out.ok.rate0
      have hrt1 := HRT.out
      have kr : IntKind.i64.wrap (t.rate + fa) = t.rate + fa := by rw [IntKind.wrap_i64]; omega
      have kf : IntKind.i64.wrap fa = fa := by rw [IntKind.wrap_i64]; omega
      clear low
      go_region_held3 (fun w' => w'.cell? ⟨gT, 5, none⟩ = some (.int .i64 t.rate) ∧ w'.cell? ⟨gT, 3, none⟩ = some (.slice x.r t.ready.length x.cr))
        (first | exact SB4.out _ _ HB12'.out | exact SB5.out _ _ _ HB12'.out | (refine SB3.out _ ?_; (repeat (first | exact HB11.out | exact HB12'.out | refine Below.drew ?_ | refine bal ?_ _)); done))
        (first
          | (go_at_call 29; refine (cloneRdy_any x.r x.cr t.ready _ hrl24 (HRT3.out _ (by repeat (first | exact HB11.out | refine Below.drew ?_)))).mono ?_; rintro e w12 ⟨A6, c6, rfl, ho6, hb6⟩
             have HB12' := Lib.hid (show Below w11.heap.size w11 w12 from (HB11.out.drew).trans hb6)
             have HO12 := Lib.hid (show w12.ownsRow w11.heap.size 69 3 (.slice A6 t.ready.length c6) t.ready.length (t.ready.flatMap enc3) from ho6)
             obtain ⟨u5, u3, c5, f5, l5, c3, f3⟩ := HFY.out w12 HB12'.out
             clear ho6 hb6))
      obtain ⟨wy, hwy⟩ : ∃ W, W = (w12.setCell ⟨gY, 5, none⟩ (.int .i64 (t.rate + fa))).setCell ⟨gY, 3, none⟩ (.slice A6 t.ready.length c6) := ⟨_, rfl⟩
      rw [← hwy]
      obtain ⟨tq, htq⟩ : ∃ z, z = quickT t at_ fa := ⟨_, rfl⟩
      obtain ⟨xq, hxq⟩ : ∃ z, z = setX x A6 c6 := ⟨_, rfl⟩
      have hqr : tq.ready = t.ready.map (earl at_) := by rw [htq]; rfl
      have hql : tq.ready.length = t.ready.length := by rw [hqr, List.length_map]
      have kY2 : Blk wy gY 26 (titV tq xq) := by
        have := ((KY.out.below HB12'.out hY11).set_ 5 (.int .i64 (t.rate + fa))).set_ 3 (.slice A6 t.ready.length c6)
        rw [← hwy, ← hql, htq] at this
        rw [htq, hxq]
        exact this
      have oY := own_far (own_far HO12.out (p := ⟨gY, 5, none⟩) (by exact own_blk_ne HO12.out (KY.out.below HB12'.out hY11) (by decide)) (.int .i64 (t.rate + fa))) (p := ⟨gY, 3, none⟩) (by exact own_blk_ne HO12.out (KY.out.below HB12'.out hY11) (by decide)) (.slice A6 t.ready.length c6)
      rw [← hwy] at oY
      have hby : Below wc.heap.size wc wy := by
        rw [hwy]
        have h1 : Below wc.heap.size wc w12 := HBC1.out.trans (HB12'.out.mono HBC1.out.size)
        exact (h1.setCell (by exact hgY1) _).setCell (by exact hgY1) _
      have HTQ := Lib.hid (And.intro htq hxq)
      have HQL := Lib.hid (And.intro hqr hql)
      have KY2 := Lib.hid kY2
      have OY := Lib.hid oY
      have HBY := Lib.hid hby
      have HRD := Lib.hid (show ∀ k (h : k < t.ready.length), 0 ≤ t.ready[k].2.2 ∧ t.ready[k].2.2 ≤ 86400 from fun k h => ((errR_iff h).1 (HCH.out.er k h)).2.2.1)
      have y3 : wy.cell? ⟨gY, 3, none⟩ = some (.slice A6 t.ready.length c6) := by
        have := kY2.cell 3
        rw [hxq] at this
        simpa [titV, hql, setX] using this
      have hYl := kY2.lt
      clear hwy htq hxq hqr hql kY2 oY hby kr kf hrt0 hrt1 c5 f5 l5 c3 f3
      go_wp2_with fail
      clear y3
      go_loopw [121] (fun ik wr => ∃ q : Nat, q ≤ t.ready.length ∧ ik = .int .i64 q ∧ Hid (wr.ownsRow w11.heap.size 69 3 (.slice A6 t.ready.length c6) t.ready.length ((earlL at_ t.ready q).flatMap enc3)) ∧ Hid (Blk wr gY 26 (titV tq xq)) ∧ Hid (Below wc.heap.size wc wr)) (fun ik _ => t.ready.length - (intOf ik).toNat)
      case atStart => exact ⟨0, Nat.zero_le _, rfl, by simpa [earlL] using OY, KY2, HBY⟩
      case round =>
        obtain ⟨q, hq, rfl, HOq, HKq, HBq⟩ := hrel
        have y3 : wr.cell? ⟨gY, 3, none⟩ = some (.slice A6 t.ready.length c6) := by
          have := HKq.out.cell 3
          rw [HTQ.out.2] at this
          simpa [titV, HQL.out.2, setX] using this
        have hYr := HKq.out.lt
        by_cases hlt : q < t.ready.length
        · obtain ⟨g6, c6', hv6, hB6, hl6⟩ := HOq.out.form (by omega)
          have hv6' : A6 = some ⟨g6, 0, none⟩ ∧ c6 = c6' := by injection hv6 with q1 q2 q3; exact ⟨q1, q3⟩
          obtain ⟨rfl, rfl⟩ := hv6'
          obtain ⟨b6, o6, hA6, hb6, e0, e1, e2⟩ := Sl.at3 (Sl.of_own (c := c6) (l := earlL at_ t.ready q) (fun _ => rfl) (by rw [earlL_len]; exact HOq.out)) (k := q) (by rw [earlL_len]; exact hlt)
          injection hA6 with hA6; injection hA6 with h1 h2
          subst h1 h2
          rw [earlL_get hlt] at e2
          obtain ⟨r3, hr3⟩ : ∃ r, r = t.ready[q].2.2 := ⟨_, rfl⟩
          have hrb := HRD.out q hlt
          rw [← hr3] at e2 hrb
          obtain ⟨hrb0, hrb1⟩ := hrb
          have f2 := HOq.out.frozenAt (q * 3 + 2)
          have i0 : (0 : Int) ≤ (q : Int) := by omega
          have i1 : (q : Int) < (t.ready.length : Int) := by omega
          simp only [Nat.zero_add] at e2
          have HR3 := Lib.hid hr3
          clear e0 e1 hr3 hv6
          have hmod : 0 ≤ at_ % (r3 + 1) ∧ at_ % (r3 + 1) ≤ r3 := by
            have m1 := Int.emod_nonneg at_ (show r3 + 1 ≠ 0 by omega)
            have m2 := Int.emod_lt_of_pos at_ (show 0 < r3 + 1 by omega)
            omega
          have hw := IntWalk.i64_in (r3 - at_ % (r3 + 1)) (by omega)
          clear hmod
          go_upto_region 18 with fail
          go_region
          all_goals
            clear hw e2 f2 y3
            have o2 := own_put HOq.out (q * 3 + 2) (.int .i64 (r3 - at_ % (r3 + 1)))
            rw [show ((earlL at_ t.ready q).flatMap enc3).set (q * 3 + 2) (.int .i64 (r3 - at_ % (r3 + 1))) = (earlL at_ t.ready (q + 1)).flatMap enc3 from by
              rw [earlL_succ hlt, flat3_set2 _ q (earl at_ t.ready[q]) (by rw [earlL_len]; exact hlt) (by rw [earlL_get hlt]; rfl) (by rw [earlL_get hlt]; rfl), HR3.out]
              rfl] at o2
            have hne6 : gY ≠ g6 := fun e => own_blk_ne HOq.out HKq.out (by decide) (by rw [e]; rfl)
            have O2 := Lib.hid o2
            have K2 := Lib.hid (HKq.out.far (p := ⟨g6, q * 3 + 2, none⟩) (by exact hne6) (.int .i64 (r3 - at_ % (r3 + 1))))
            have B2 := Lib.hid (HBq.out.setCell (p := ⟨g6, q * 3 + 2, none⟩) (by exact Nat.le_trans HBC1.out.size hB6) (.int .i64 (r3 - at_ % (r3 + 1))))
            clear o2
            go_wp2_with fail
            go_roundw
            case rel => exact ⟨q + 1, by omega, by go_num, Lib.hid O2.out, Lib.hid K2.out.drew, Lib.hid B2.out.drew⟩
            case measure => simp [intOf]; omega
        · obtain rfl : q = t.ready.length := by omega
          have hq5 : checkT tq = 0 := by
            rw [HTQ.out.1]
            refine check_of (quick_ok HCH.out hfa0 (by have := HRT.out; omega)) ?_
            show (t.ready.map (earl at_)).length ≤ 200
            rw [List.length_map]; exact hrl
          have hsq : Sizes tq := by rw [HTQ.out.1]; exact ⟨HSZ.out.s1, HSZ.out.s2, HSZ.out.s3, by rw [← HTQ.out.1, HQL.out.2]; exact HSZ.out.s4, HSZ.out.s5⟩
          have hlq : (edsR tq).length = (edsR t).length := by rw [edsR_len, edsR_len, edsN_zones_only (t := tq) (t' := t) (by rw [HTQ.out.1]; rfl), HTQ.out.1]; rfl
          have hooq : ordersB (edsR tq).length (o.map fun (e : Nat) => (e : Int)) = true := by rw [hlq]; exact HOO.out
          have hb2 : Below w2.heap.size w2 wr := H10.out.trans (HBq.out.mono H10.out.size)
          have oq := HOq.out
          rw [earlL_all, ← HQL.out.1, ← HQL.out.2] at oq
          have sq0 : Sl enc3 3 wr wr.heap.size A6 tq.ready := Sl.of_own (c := c6) (fun _ => rfl) oq
          have HTTq := Lib.hid (show ∀ W', Below wr.heap.size wr W' → TitAt W' W'.heap.size tq xq zs from fun W' hb => by
            have tt := HT2.out W' (hb2.trans (hb.mono hb2.size))
            have sr : Sl enc3 3 W' W'.heap.size A6 tq.ready := (sq0.below hb).mono hb.size
            refine ⟨?_, ?_, ?_, ?_, tt.cV, ?_⟩
            · rw [HTQ.out.1]; exact tt.zeq
            · rw [HTQ.out.1, HTQ.out.2]; exact tt.cA
            · rw [HTQ.out.1, HTQ.out.2]; exact tt.cB
            · rw [HTQ.out.2]; exact tt.cZ
            · rw [HTQ.out.2]; exact sr)
          have HCQ := Lib.hid hq5
          have HSQ := Lib.hid hsq
          have HOOQ := Lib.hid hooq
          have HB2 := Lib.hid hb2
          have HOr := Lib.hid (show ∀ W', Below wr.heap.size wr W' → Sl encInt 1 W' W'.heap.size Ao (o.map fun (e : Nat) => (e : Int)) from fun W' hb => (HO10.out.below (HBq.out.trans (hb.mono HBq.out.size))).mono (HBq.out.trans (hb.mono HBq.out.size)).size)
          clear hq5 hsq hlq hooq hb2 oq y3 sq0
          have hYr2 := HKq.out.lt
          have HSW := Lib.hid (show Calls Try.prog 24 #[.agg #[.slice x.a t.colours.length x.ca, .slice x.b t.pairs.length x.cb, .slice x.z t.zones.length x.cz, .slice x.r t.ready.length x.cr, .int .i64 t.start, .int .i64 t.rate, .int .i64 t.stop, .int .i64 t.hang], .slice Ao n co] wr fun e w' => ∃ A' c', e = .returned (.tuple #[.slice A' n c', .int .i64 0]) ∧ Hid (Sl encSlo 4 w' w'.heap.size A' (slotsD t (edsR t) o)) ∧ Hid (Below wr.heap.size wr w') from by
            have := slots_w t x zs wr HSZ.out HC.out Ao co o (by have := HPL.out; omega) (HOr.out wr (Below.refl _ _)) HOO.out (HT2.out _ HB2.out)
            rw [HPL.out] at this; exact this)
          have HSV := Lib.hid (show ∀ W', Below wr.heap.size wr W' → Calls Try.prog 24 #[.agg #[.slice xq.a tq.colours.length xq.ca, .slice xq.b tq.pairs.length xq.cb, .slice xq.z tq.zones.length xq.cz, .slice xq.r tq.ready.length xq.cr, .int .i64 tq.start, .int .i64 tq.rate, .int .i64 tq.stop, .int .i64 tq.hang], .slice Ao n co] W' fun e w' => ∃ A' c', e = .returned (.tuple #[.slice A' n c', .int .i64 0]) ∧ Hid (Sl encSlo 4 w' w'.heap.size A' (slotsD tq (edsR tq) o)) ∧ Hid (Below W'.heap.size W' w') from fun W' hb => by
            have := slots_w tq xq zs W' HSQ.out HCQ.out Ao co o (by have := HPL.out; omega) (HOr.out W' hb) HOOQ.out (HTTq.out _ hb)
            rw [HPL.out] at this; exact this)
          obtain ⟨a0, a1, a2, a3, a4, a5, a6, a7⟩ := tit_cells (KT.out.below HB2.out KT.out.lt)
          go_upto_region 21 with (go_at_call 24; refine HSW.out.mono ?_; rintro e w20 ⟨A7, c7, rfl, HS7, hb⟩; have HB20 := Lib.hid hb.out; clear hb)
          clear a0 a1 a2 a3 a4 a5 a6 a7
          obtain ⟨a0, a1, a2, a3, a4, a5, a6, a7⟩ := tit_cells (HKq.out.below HB20.out hYr2)
          go_upto_region 22 with (go_at_call 24; refine (HSV.out _ HB20.out).mono ?_; rintro e w21 ⟨A8, c8, rfl, HS8, hb⟩; have HB21 := Lib.hid hb.out; clear hb)
          clear a0 a1 a2 a3 a4 a5 a6 a7
          have HS7' := Lib.hid ((HS7.out.below HB21.out).mono HB21.out.size)
          go_upto_region 24 with fail
          go_wp2_with fail
          have hsl7 : (slotsD t (edsR t) o).length = n := by rw [← HPL.out]; exact upF_len _ _
          have hsl8 : (slotsD tq (edsR tq) o).length = n := by rw [← HPL.out]; exact upF_len _ _
          go_loopw [171] (fun ik wr => ∃ q : Nat, q ≤ n ∧ ik = .int .i64 q ∧ Hid (Below w21.heap.size w21 wr)) (fun ik _ => n - (intOf ik).toNat)
          case atStart => exact ⟨0, Nat.zero_le _, rfl, Lib.hid (Below.refl _ _)⟩
          case round =>
            obtain ⟨q, hq, rfl, HBR⟩ := hrel
            by_cases hlt : q < n
            · obtain ⟨sb, so, rfl, hsb, e0, e1, e2, e3⟩ := Sl.atSlo (HS7'.out.below HBR.out) (k := q) (by omega)
              obtain ⟨qb, qo, rfl, hqb, g0, g1, g2, g3⟩ := Sl.atSlo (HS8.out.below HBR.out) (k := q) (by omega)
              obtain ⟨sl, hsl0⟩ : ∃ s, s = slotAt t (edsR t) o q := ⟨_, rfl⟩
              obtain ⟨sq, hsq0⟩ : ∃ s, s = slotAt tq (edsR tq) o q := ⟨_, rfl⟩
              have hsg : (slotsD t (edsR t) o)[q]'(by omega) = sl := by rw [hsl0]; simp [slotsD, upF]
              have hsg2 : (slotsD tq (edsR tq) o)[q]'(by omega) = sq := by rw [hsq0]; simp [slotsD, upF]
              rw [hsg] at e1 e3
              rw [hsg2] at g1 g3
              have hcmp := quick_slots HCH.out (at_ := at_) (fa := fa) hfa0 o (i := q) (by have := HPL.out; omega)
              rw [← HTQ.out.1, ← hsl0, ← hsq0] at hcmp
              have tf : decide (sl.fin < sq.fin) = false := by have := hcmp.1; simp; omega
              have tp : (sq.plates != sl.plates) = false := by rw [hcmp.2]; simp
              have i0 : (0 : Int) ≤ (q : Int) := by omega
              have i1 : (q : Int) < (n : Int) := by omega
              clear hsl0 hsq0 hsg hsg2 hcmp e0 e2 g0 g2
              go_upto_region 27 with fail
              go_quiet (fail)
              go_wp2_with fail
              go_roundw
              case rel => exact ⟨q + 1, by omega, by go_num, Lib.hid (by repeat (first | exact HBR.out | refine below_drewN ?_ _ | refine Below.drew ?_))⟩
              case measure => simp [intOf]; omega
            · go_wp2_with (go_at_call 12; refine (haw _).mono ?_; rintro e wz ⟨rfl, hbz⟩; have HBZ := Lib.hid hbz; clear hbz)
              go_ret
              have hF := H2.out.trans ((HB2.out.trans ((HB20.out.trans ((HB21.out.trans (HBR.out.mono HB21.out.size)).mono HB20.out.size)).mono HB2.out.size)).mono H2.out.size)
              exact ⟨rfl, hF.trans (HBZ.out.mono hF.size)⟩
end Go.Proofs.Ytokdleanpkkdpaa
