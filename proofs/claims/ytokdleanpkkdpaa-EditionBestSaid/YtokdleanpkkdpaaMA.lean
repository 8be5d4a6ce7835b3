/- Contract of EditionBest's comparison, and the walk of the law; conditions: a title and a table in memory. Printed by a program. -/
import Derived.Test.YtokdleanpkkdpaaM8
import Derived.Test.YtokdleanpkkdpaaL7
set_option linter.unusedSimpArgs false
set_option linter.unusedVariables false
namespace Go.Proofs.Ytokdleanpkkdpaa
open Go.RowKit Go.Fh Go.Ed
theorem tit_box26 (t : TitD) (x : TA) (zs : List ZonM) (w : World) (hT : TitAt w w.heap.size t x zs) : ∃ w1 gT, Hid (w1 = w.alloc (.cells (titV t x) 26)) ∧ Hid (gT = w.heap.size) ∧ Hid (Below w.heap.size w w1) ∧ Hid (∀ W, Below w1.heap.size w1 W → TitAt W W.heap.size t x zs ∧ W.cell? ⟨gT, 0, none⟩ = some (.slice x.a t.colours.length x.ca) ∧ W.cell? ⟨gT, 1, none⟩ = some (.slice x.b t.pairs.length x.cb) ∧ W.cell? ⟨gT, 2, none⟩ = some (.slice x.z t.zones.length x.cz) ∧ W.cell? ⟨gT, 3, none⟩ = some (.slice x.r t.ready.length x.cr) ∧ W.cell? ⟨gT, 4, none⟩ = some (.int .i64 t.start) ∧ W.cell? ⟨gT, 5, none⟩ = some (.int .i64 t.rate) ∧ W.cell? ⟨gT, 6, none⟩ = some (.int .i64 t.stop) ∧ W.cell? ⟨gT, 7, none⟩ = some (.int .i64 t.hang)) := by
  refine ⟨w.alloc (.cells (titV t x) 26), w.heap.size, rfl, rfl, (Below.refl _ _).alloc (Nat.le_refl _) _, Lib.hid fun W hb => ?_⟩
  have hb1 : Below w.heap.size w (w.alloc (.cells (titV t x) 26)) := (Below.refl _ _).alloc (Nat.le_refl _) _
  have kT : Blk (w.alloc (.cells (titV t x) 26)) w.heap.size 26 (titV t x) := Blk.new _ _ _
  have hgl := kT.lt
  have r0 := (kT.below hb hgl).cell 0
  have r1 := (kT.below hb hgl).cell 1
  have r2 := (kT.below hb hgl).cell 2
  have r3 := (kT.below hb hgl).cell 3
  have r4 := (kT.below hb hgl).cell 4
  have r5 := (kT.below hb hgl).cell 5
  have r6 := (kT.below hb hgl).cell 6
  have r7 := (kT.below hb hgl).cell 7
  simp [titV] at r0 r1 r2 r3 r4 r5 r6 r7
  have hb2 := hb1.trans (hb.mono hb1.size)
  exact ⟨(hT.below hb2).mono hb2.size, r0, r1, r2, r3, r4, r5, r6, r7⟩
theorem intsV_sl {W : World} {b c : Nat} {A : Option Addr} {o : List Nat} (h : W.ownsRow b 3 1 (.slice A o.length c) o.length (intsV o)) : Sl encInt 1 W W.heap.size A (casts o) := by
  have h2 : W.ownsRow b 3 1 (.slice A (casts o).length c) (casts o).length ((casts o).map (Value.int .i64)) := by
    rw [casts_len]
    have : (casts o).map (Value.int .i64) = intsV o := by unfold casts intsV; simp
    rw [this]; exact h
  exact own_sl h2
theorem few32_c (t : TitD) (x : TA) (zs : List ZonM) (w : World) (hs : Sizes t) (hT : TitAt w w.heap.size t x zs) (r : List Nat × Int × Int) (hr : r = fewP t) :
    Calls Try.prog 32 #[.agg #[.slice x.a t.colours.length x.ca, .slice x.b t.pairs.length x.cb, .slice x.z t.zones.length x.cz, .slice x.r t.ready.length x.cr, .int .i64 t.start, .int .i64 t.rate, .int .i64 t.stop, .int .i64 t.hang]] w fun e w' => ∃ (A : Option Addr) (c : Nat), e = .returned (.tuple #[.slice A r.1.length c, .int .i64 r.2.1, .int .i64 r.2.2]) ∧ Hid (Sl encInt 1 w' w'.heap.size A (casts r.1)) ∧ Hid (Below w.heap.size w w') := by
  by_cases hc : checkT t = 0
  · obtain ⟨ob, p, f, hb, -⟩ := fewest_ex (chk_ok hc)
    have hr2 : r = (ob, p, 0) := by rw [hr]; unfold fewP; rw [if_neg (by simpa using hc), hb]; rfl
    subst hr2
    refine (fewest_some t x zs w hs hT hc ob p f hb).mono ?_
    rintro e w' ⟨A, c, rfl, ho, _, hb'⟩
    exact ⟨A, c, rfl, Lib.hid (intsV_sl ho), Lib.hid hb'⟩
  · have hr2 : r = ([], 0, checkT t) := by rw [hr]; unfold fewP; rw [if_pos hc]
    subst hr2
    refine (fewest_bad t x zs w hs hT hc).mono ?_
    rintro e w' ⟨rfl, hb'⟩
    exact ⟨none, 0, rfl, Lib.hid Sl.nil, Lib.hid hb'⟩
theorem bes33_c (t : TitD) (x : TA) (zs : List ZonM) (w : World) (hs : Sizes t) (hT : TitAt w w.heap.size t x zs) (r : List Nat × Int × Int) (hr : r = besP t) :
    Calls Try.prog 33 #[.agg #[.slice x.a t.colours.length x.ca, .slice x.b t.pairs.length x.cb, .slice x.z t.zones.length x.cz, .slice x.r t.ready.length x.cr, .int .i64 t.start, .int .i64 t.rate, .int .i64 t.stop, .int .i64 t.hang]] w fun e w' => ∃ (A : Option Addr) (c : Nat), e = .returned (.tuple #[.slice A r.1.length c, .int .i64 r.2.1, .int .i64 r.2.2]) ∧ Hid (Sl encInt 1 w' w'.heap.size A (casts r.1)) ∧ Hid (Below w.heap.size w w') := by
  by_cases hc : checkT t = 0
  · cases hb : bestR t true with
    | none =>
      have hr2 : r = ([], 0, 4) := by rw [hr]; unfold besP; rw [if_neg (by simpa using hc), hb]; rfl
      subst hr2
      refine (best_none t x zs w hs hT hc hb).mono ?_
      rintro e w' ⟨rfl, hb'⟩
      exact ⟨none, 0, rfl, Lib.hid Sl.nil, Lib.hid hb'⟩
    | some v =>
      obtain ⟨ob, p, f⟩ := v
      have hr2 : r = (ob, p, 0) := by rw [hr]; unfold besP; rw [if_neg (by simpa using hc), hb]; rfl
      subst hr2
      refine (best_some t x zs w hs hT hc ob p f hb).mono ?_
      rintro e w' ⟨A, c, rfl, ho, _, hb'⟩
      exact ⟨A, c, rfl, Lib.hid (intsV_sl ho), Lib.hid hb'⟩
  · have hr2 : r = ([], 0, checkT t) := by rw [hr]; unfold besP; rw [if_pos hc]
    subst hr2
    refine (best_bad t x zs w hs hT hc).mono ?_
    rintro e w' ⟨rfl, hb'⟩
    exact ⟨none, 0, rfl, Lib.hid Sl.nil, Lib.hid hb'⟩
set_option maxRecDepth 20000 in
set_option maxHeartbeats 4000000 in
theorem why35_c (t : TitD) (x : TA) (zs : List ZonM) (w : World) (hs : Sizes t) (hT : TitAt w w.heap.size t x zs) (r : List Int × Int) (hr : r = whyP t) :
    Calls Try.prog 35 #[.agg #[.slice x.a t.colours.length x.ca, .slice x.b t.pairs.length x.cb, .slice x.z t.zones.length x.cz, .slice x.r t.ready.length x.cr, .int .i64 t.start, .int .i64 t.rate, .int .i64 t.stop, .int .i64 t.hang]] w fun e w' => ∃ (A : Option Addr) (c : Nat), e = .returned (.tuple #[.slice A r.1.length c, .int .i64 r.2]) ∧ Hid (Sl encInt 1 w' w'.heap.size A r.1) ∧ Hid (Below w.heap.size w w') := by
  by_cases hc : checkT t = 0
  · by_cases hb : (bestR t true).isSome = true
    · have hr2 : r = ([], 9) := by rw [hr]; unfold whyP; rw [if_neg (by simpa using hc), if_pos hb]
      subst hr2
      refine (why_some t x zs w hs hT hc hb).mono ?_
      rintro e w' ⟨rfl, hb'⟩
      exact ⟨none, 0, rfl, Lib.hid Sl.nil, Lib.hid hb'⟩
    · have hr2 : r = (tabL (edsR t).length (leaT t (edsR t)), 0) := by rw [hr]; unfold whyP; rw [if_neg (by simpa using hc), if_neg hb]
      subst hr2
      refine (why_none t x zs w hs hT hc (by simpa using hb) _ _ rfl rfl).mono ?_
      rintro e w' ⟨gA, c, rfl, ho, hb'⟩
      have hl := tabL_len (edsR t).length (leaT t (edsR t))
      refine ⟨_, c, by rw [hl], Lib.hid ?_, Lib.hid hb'⟩
      rw [← hl] at ho
      exact own_sl ho
  · have hr2 : r = ([], checkT t) := by rw [hr]; unfold whyP; rw [if_pos hc]
    subst hr2
    clear hr
    obtain ⟨w1, gT, HW1, HGT, HB1, HTB⟩ := tit_box26 t x zs w hT
    obtain ⟨hT1, r0, r1, r2, r3, r4, r5, r6, r7⟩ := HTB.out w1 (Below.refl _ _)
    have HCK := Lib.hid (open_bad t x zs w1 hs hT1 hc)
    obtain ⟨ck, hck⟩ : ∃ c, c = checkT t := ⟨_, rfl⟩
    rw [← hck] at HCK hc ⊢
    have ht : (ck != 0) = true := by simpa using hc
    unfold titV at *
    clear hT hT1 hs hc hck
    go_enter Try.func35, Try.ntmps35
    go_upto_region 1 with fail
    rw [← HW1.out, ← HGT.out]
    go_wp2_with (go_at_call 61; refine HCK.out.mono ?_; rintro e w2 ⟨rfl, hb2⟩; have HB2 := Lib.hid hb2; clear hb2)
    go_ret2
    exact ⟨none, 0, rfl, Lib.hid Sl.nil, Lib.hid (HB1.out.trans (HB2.out.mono HB1.out.size))⟩
set_option maxRecDepth 20000 in
set_option maxHeartbeats 4000000 in
theorem prov36_c (t : TitD) (x : TA) (zs : List ZonM) (w : World) (hs : Sizes t) (hT : TitAt w w.heap.size t x zs) (A : Option Addr) (c k : Nat) (T : List Int) (hk : T.length = k) (hk9 : k ≤ 1000000) (hA : Sl encInt 1 w w.heap.size A T) :
    Calls Try.prog 36 #[.agg #[.slice x.a t.colours.length x.ca, .slice x.b t.pairs.length x.cb, .slice x.z t.zones.length x.cz, .slice x.r t.ready.length x.cr, .int .i64 t.start, .int .i64 t.rate, .int .i64 t.stop, .int .i64 t.hang], .slice A k c] w fun e w' => PrvR t T w e w' := by
  by_cases hc : checkT t = 0
  · have hck := chk_ok hc
    obtain ⟨n, hn⟩ : ∃ n, n = (edsR t).length := ⟨_, rfl⟩
    have hn7 : n ≤ 7 := by rw [hn, edsR_len]; exact hck.n1
    have hn1 : 1 ≤ n := by rw [hn, edsR_len]; exact hck.n0
    obtain ⟨m, hm⟩ : ∃ m, m = n * 2 ^ n := ⟨_, rfl⟩
    have hm1 : 1 ≤ m := by rw [hm]; exact Nat.mul_pos hn1 (Nat.two_pow_pos n)
    have hm2 : m ≤ 1000 := by rw [hm]; exact Nat.le_trans (Nat.mul_le_mul hn7 (pow_le128 hn7)) (by omega)
    have htok : tabOk t T = (decide (k = m) && T.all fun v => inB v (-1) 86400) := by unfold tabOk; rw [hk, ← hn, ← hm]
    have HPRV := Lib.hid (show ∀ b e, PrvP t T b e ↔ if tabOk t T = false then b = false ∧ e = 1 else e = 0 ∧ (b = true ↔ ProvOk t (edsR t) (tabI n T)) from fun b e => by unfold PrvP; rw [if_neg (by simpa using hc), ← hn])
    cases hto : tabOk t T
    · skip
      have HPA := Lib.hid (show PrvP t T false 1 from (HPRV.out _ _).2 (by rw [if_pos hto]; exact ⟨rfl, rfl⟩))
      have sh1 : IntKind.i64.wrap ((n : Int) * 2 ^ n) = (m : Int) := by
        have : (n : Int) * 2 ^ n = (m : Int) := by rw [hm]; push_cast; rfl
        rw [this, IntKind.wrap_i64]; omega
      obtain ⟨w1, hw1⟩ : ∃ W, W = (w.alloc (.cells (titV t x) 26)).alloc (.cells #[.slice A k c] 22) := ⟨_, rfl⟩
      have hb1 : Below w.heap.size w w1 := by rw [hw1]; exact balT (balT (Below.refl _ _) _) _
      obtain ⟨gT, hgT⟩ : ∃ g, g = w.heap.size := ⟨_, rfl⟩
      obtain ⟨gO, hgO⟩ : ∃ g, g = w.heap.size + 1 := ⟨_, rfl⟩
      have kT : Blk w1 gT 26 (titV t x) := by rw [hw1, hgT]; exact (Blk.new _ _ _).alloc _
      have kO : Blk w1 gO 22 #[.slice A k c] := by rw [hw1, hgO]; exact blkAt (by simp) 22 _
      have HCK := Lib.hid (open_any t x zs w1 hs ((hT.below hb1).mono hb1.size) hc)
      have HR0 := Lib.hid (fun W hb => boxE t x kT W hb)
      obtain ⟨r0, r1, r2, r3, r4, r5, r6, r7⟩ := HR0.out _ (Below.refl _ _)
      have HB1 := Lib.hid hb1
      have HW1 := Lib.hid (And.intro hw1 (And.intro hgT hgO))
      have KO := Lib.hid kO
      have HA := Lib.hid (fun W (hb : Below w1.heap.size w1 W) => (hA.below (hb1.trans (hb.mono hb1.size))).mono ((hb1.trans (hb.mono hb1.size)).size))
      have HCH := Lib.hid hck
      have HN := Lib.hid hn
      have HKT := Lib.hid hk
      have HTK := Lib.hid (htok.symm.trans hto)
      have hgOl := kO.lt
      clear hb1 hw1 hgT hgO kT kO hT hs hc hA hck hn hm hto htok hk
      unfold titV at *
      go_enter Try.func36, Try.ntmps36
      go_upto_region 1 with fail
      rw [← HW1.out.1, ← HW1.out.2.2, ← HW1.out.2.1]
      go_upto_region 4 with (go_at_call 61; refine HCK.out.mono ?_; rintro e w2 ⟨kk, rfl, hk, hb2⟩; have HK := Lib.hid hk; have HB2 := Lib.hid hb2; clear hb2 hk)
      clear r0 r1 r2 r3 r4 r5 r6 r7
      obtain ⟨gP, hgP⟩ : ∃ g, g = w2.heap.size := ⟨_, rfl⟩
      obtain ⟨w3, hw3⟩ : ∃ W, W = w2.alloc (.cells #[.pointer (some ⟨kk.g, 0, none⟩)] 124) := ⟨_, rfl⟩
      rw [← hw3, ← hgP]
      have hb23 : Below w2.heap.size w2 w3 := by rw [hw3]; exact balT (Below.refl _ _) _
      have kP3 : Blk w3 gP 124 #[.pointer (some ⟨kk.g, 0, none⟩)] := by rw [hw3, hgP]; exact blkAt rfl 124 _
      have hk3 := HK.out.below hb23
      have hkn : kk.es.length = n := by rw [HN.out, HK.out.len]
      have y8 := hk3.hk.cell 8
      simp [workV] at y8
      rw [hkn] at y8
      have p0 := kP3.cell 0
      simp at p0
      have hlk := hk3.hk.lt
      have hlP := kP3.lt
      have HKN := Lib.hid hkn
      clear hw3 hgP hkn
      go_upto_region 5 with fail
      have hkn := HKN.out
      obtain ⟨gN, hgN⟩ : ∃ g, g = w3.heap.size := ⟨_, rfl⟩
      obtain ⟨w4, hw4⟩ : ∃ W, W = w3.alloc (.cells #[.int .i64 n] 3) := ⟨_, rfl⟩
      rw [← hw4, ← hgN]
      have hb34 : Below w3.heap.size w3 w4 := by rw [hw4]; exact balT (Below.refl _ _) _
      have hb14 : Below w1.heap.size w1 w4 := HB2.out.trans ((hb23.trans (hb34.mono hb23.size)).mono HB2.out.size)
      have kN : Blk w4 gN 3 #[.int .i64 n] := by rw [hw4, hgN]; exact blkAt rfl 3 _
      have kO : Blk w4 gO 22 #[.slice A k c] := KO.out.below hb14 KO.out.lt
      have HB14 := Lib.hid hb14
      have SA2 := Lib.hid (show ∀ W', Below w4.heap.size w4 W' → W'.cell? ⟨gO, 0, none⟩ = some (.slice A k c) ∧ W'.cell? ⟨gN, 0, none⟩ = some (.int .i64 n) from fun W' hb => ⟨by rw [(kO.below hb kO.lt).cell]; rfl, by rw [(kN.below hb kN.lt).cell]; rfl⟩)
      have HBN := Lib.hid (Below.refl w4.heap.size w4)
      have BT := Lib.hid (show (T.all fun v => inB v (-1) 86400) = false → ∀ W', Below w4.heap.size w4 W' → Calls Try.prog 84 #[.slice A k c, .func (.func 85) #[] #[]] W' fun e w' => e = .returned (.bool true) ∧ Hid (Below W'.heap.size W' w') from fun hal W' hb => by
        have hlk := HKT.out
        have := badTab_any A c T W' (by omega) (HA.out W' (HB14.out.trans (hb.mono HB14.out.size)))
        rw [hlk, show (T.any fun v => !inB v (-1) 86400) = true from by
          rw [List.any_eq_true]
          obtain ⟨v, hv, h⟩ := List.all_eq_false.1 hal
          exact ⟨v, hv, by simpa using h⟩] at this
        exact this)
      clear hw4 hgN hb23 hb34 hb14 kP3 hk3 kN kO y8 p0 hkn hlk hlP
      by_cases hkm : k = m
      · have hal : (T.all fun v => inB v (-1) 86400) = false := by have := HTK.out; simpa [hkm] using this
        have BT2 := Lib.hid (BT.out hal)
        have hne : ((k : Int) != (m : Int)) = false := by simp [hkm]
        clear hkm hal BT
        go_region_held3 (fun W' => W'.cell? ⟨gO, 0, none⟩ = some (.slice A k c) ∧ W'.cell? ⟨gN, 0, none⟩ = some (.int .i64 n))
          ((refine SA2.out _ ?_; (repeat (first | exact HBN.out | exact HB5.out | refine Below.drew ?_)); done))
          (first
            | (go_at_call 84; refine (BT2.out _ (by repeat (first | exact HBN.out | refine Below.drew ?_))).mono ?_; rintro e w5 ⟨rfl, hb5⟩; have HB5 := Lib.hid (show Below w4.heap.size w4 w5 from (HBN.out.drew).trans hb5.out); clear hb5))
        go_wp2_with fail
        go_ret2
        exact prvR_mk false 1 rfl HPA (Lib.hid (HB1.out.trans ((HB14.out.trans (HB5.out.mono HB14.out.size)).mono HB1.out.size)))
      · have hne : ((k : Int) != (m : Int)) = true := by simp; omega
        clear hkm BT
        obtain ⟨o0, n0⟩ := SA2.out _ (Below.refl _ _)
        go_quiet (fail)
        go_wp2_with fail
        go_ret2
        exact prvR_mk false 1 rfl HPA (Lib.hid (HB1.out.trans ((below_drewN HB14.out _).mono HB1.out.size)))
    · rw [hto] at htok
      have h2 := htok.symm
      simp only [Bool.and_eq_true, decide_eq_true_eq] at h2
      have h3 : ∀ v ∈ T, -1 ≤ v ∧ v ≤ 86400 := fun v hv => inB_iff.1 (List.all_eq_true.1 h2.2 v hv)
      have h := Proves_ok t x zs w hs hT A c T n m hA hc hn hm (hk.trans h2.1) h3
      rw [← h2.1] at h
      refine h.mono ?_
      rintro e w' ⟨b, rfl, hb, hbl⟩
      exact prvR_mk b 0 rfl (Lib.hid ((HPRV.out _ _).2 (by rw [if_neg (by rw [hto]; simp)]; rw [hn]; exact ⟨rfl, by rw [← hn]; exact hb⟩))) (Lib.hid hbl)
  · skip
    have HPC := Lib.hid (show PrvP t T false (checkT t) by unfold PrvP; rw [if_pos hc]; exact ⟨rfl, rfl⟩)
    obtain ⟨w1, hw1⟩ : ∃ W, W = (w.alloc (.cells (titV t x) 26)).alloc (.cells #[.slice A k c] 22) := ⟨_, rfl⟩
    have hb1 : Below w.heap.size w w1 := by rw [hw1]; exact balT (balT (Below.refl _ _) _) _
    obtain ⟨gT, hgT⟩ : ∃ g, g = w.heap.size := ⟨_, rfl⟩
    obtain ⟨gO, hgO⟩ : ∃ g, g = w.heap.size + 1 := ⟨_, rfl⟩
    have kT : Blk w1 gT 26 (titV t x) := by rw [hw1, hgT]; exact (Blk.new _ _ _).alloc _
    have HCK := Lib.hid (open_bad t x zs w1 hs ((hT.below hb1).mono hb1.size) hc)
    obtain ⟨r0, r1, r2, r3, r4, r5, r6, r7⟩ := boxE t x kT _ (Below.refl _ _)
    obtain ⟨ck, hck⟩ : ∃ c, c = checkT t := ⟨_, rfl⟩
    rw [← hck] at HCK hc HPC
    have ht : (ck != 0) = true := by simpa using hc
    have HB1 := Lib.hid hb1
    have HW1 := Lib.hid (And.intro hw1 (And.intro hgT hgO))
    clear hb1 hw1 hgT hgO kT hT hs hc hA hck
    unfold titV at *
    go_enter Try.func36, Try.ntmps36
    go_upto_region 1 with fail
    rw [← HW1.out.1, ← HW1.out.2.2, ← HW1.out.2.1]
    go_wp2_with (go_at_call 61; refine HCK.out.mono ?_; rintro e w2 ⟨rfl, hb2⟩; have HB2 := Lib.hid hb2; clear hb2)
    go_ret2
    exact prvR_mk false ck rfl HPC (Lib.hid (HB1.out.trans ((balR HB2.out _).mono HB1.out.size)))
end Go.Proofs.Ytokdleanpkkdpaa
namespace Go.Ed
open Go.Fh Go.RowKit Go.Proofs.Ytokdleanpkkdpaa
theorem whyP_len (t : TitD) : (whyP t).1.length ≤ 2000 := by
  unfold whyP
  split
  · simp
  · rename_i hc
    split
    · simp
    · have h := chk_ok (t := t) (by simpa using hc)
      have h7 : (edsR t).length ≤ 7 := by rw [edsR_len]; exact h.n1
      show (tabL _ _).length ≤ 2000
      rw [tabL_len]
      exact Nat.le_trans (Nat.mul_le_mul h7 (pow_le128 h7)) (by omega)
theorem best_le {t : TitD} (hc : ¬ checkT t ≠ 0) (m : Bool) : (bestO (bestR t m)).length ≤ 1000000 := by
  have h := chk_ok (t := t) (by simpa using hc)
  have h7 : (edsR t).length ≤ 7 := by rw [edsR_len]; exact h.n1
  cases hb : bestR t m with
  | none => exact Nat.zero_le _
  | some v =>
    obtain ⟨o, p, f⟩ := v
    have := (best_len h m hb).1
    show o.length ≤ _
    omega
theorem fewP_len (t : TitD) : (fewP t).1.length ≤ 1000000 := by
  unfold fewP
  split
  · simp
  · rename_i hc; exact best_le hc _
theorem besP_len (t : TitD) : (besP t).1.length ≤ 1000000 := by
  unfold besP
  split
  · simp
  · rename_i hc
    split
    · exact best_le hc _
    · simp
end Go.Ed
namespace Go.Proofs.Ytokdleanpkkdpaa
open Go.RowKit Go.Fh Go.Ed
theorem eq19_c (A A' : Option Addr) (c c' n : Nat) (l : List Int) (hn : l.length = n) (h9 : n ≤ 1000000) (W : World) (h : Sl encInt 1 W W.heap.size A l) (h' : Sl encInt 1 W W.heap.size A' l) :
    Calls Try.prog 19 #[.slice A n c, .slice A' n c'] W fun e w' => e = .returned (.bool true) ∧ Hid (Below W.heap.size W w') := by
  have h1 := equalInts_any A A' c c' l l W (by omega) (by omega) h h'
  rw [hn] at h1
  have h2 : Calls Try.prog 19 #[.slice A n c, .slice A' n c'] W fun e w' => e = .returned (.bool true) ∧ Below W.heap.size W w' := by simpa using h1
  exact h2
theorem clone40_c (A : Option Addr) (c n : Nat) (l : List Int) (hn : l.length = n) (h9 : n ≤ 1000000) (W : World) (h : Sl encInt 1 W W.heap.size A l) :
    Calls Try.prog 40 #[.slice A n c] W fun e w' => ∃ A' c', e = .returned (.slice A' n c') ∧ Hid (Sl encInt 1 w' w'.heap.size A' l) ∧ Hid (Below W.heap.size W w') := by
  have h := cloneOwn_any A c l W (by omega) h
  rw [hn] at h
  refine h.mono ?_
  rintro e w' ⟨A', c', rfl, ho, hb⟩
  rw [← hn] at ho
  exact ⟨A', c', rfl, Lib.hid (own_sl ho), Lib.hid hb⟩
set_option maxRecDepth 20000 in
set_option maxHeartbeats 4000000 in
theorem bestLaw_any (t : TitD) (x : TA) (zs : List ZonM) (w : World) (hs : Sizes t) (hT : TitAt w w.heap.size t x zs) (A : Option Addr) (c n : Nat) (l : List Int) (hn : l.length = n) (hl : n ≤ 2000) (hA : Sl encInt 1 w w.heap.size A l) :
    Calls Try.prog 26 #[.agg #[.slice x.a t.colours.length x.ca, .slice x.b t.pairs.length x.cb, .slice x.z t.zones.length x.cz, .slice x.r t.ready.length x.cr, .int .i64 t.start, .int .i64 t.rate, .int .i64 t.stop, .int .i64 t.hang], .slice A n c] w fun e w' => e = .returned (.bool true) ∧ Below w.heap.size w w' := by
  obtain ⟨w1, hw1⟩ : ∃ W, W = w.alloc (.cells #[.slice x.a t.colours.length x.ca, .slice x.b t.pairs.length x.cb, .slice x.z t.zones.length x.cz, .slice x.r t.ready.length x.cr, .int .i64 t.start, .int .i64 t.rate, .int .i64 t.stop, .int .i64 t.hang] 26) := ⟨_, rfl⟩
  have hb1 : Below w.heap.size w w1 := by rw [hw1]; exact balR (Below.refl _ _) _
  obtain ⟨gT, hgT⟩ : ∃ g, g = w.heap.size := ⟨_, rfl⟩
  have kT : Blk w1 gT 26 (titV t x) := by rw [hw1, hgT]; exact Blk.new _ _ _
  have HR0 := Lib.hid (fun W hb => boxE t x kT W hb)
  obtain ⟨r0, r1, r2, r3, r4, r5, r6, r7⟩ := HR0.out _ (Below.refl _ _)
  have HTX := Lib.hid (fun W (hb : Below w1.heap.size w1 W) => (hT.below (hb1.trans (hb.mono hb1.size))).mono ((hb1.trans (hb.mono hb1.size)).size))
  have HAX := Lib.hid (fun W (hb : Below w1.heap.size w1 W) => (hA.below (hb1.trans (hb.mono hb1.size))).mono ((hb1.trans (hb.mono hb1.size)).size))
  have HS := Lib.hid hs
  have HN := Lib.hid hn
  have HB1 := Lib.hid hb1
  have HW1 := Lib.hid hw1
  have HGT := Lib.hid hgT
  clear hb1 hw1 hgT kT hT hA hs hn
  go_enter Try.func26, Try.ntmps26
  go_upto_region 1 with fail
  rw [← HW1.out, ← HGT.out]
  go_upto_region 2 with (go_at_call 39; refine (copied_w t x zs _ HS.out (HTX.out _ (Below.refl _ _))).mono ?_; rintro e w2 ⟨y1, y2, zs1, zs2, rfl, HY1, HY2, HB2⟩; clear r0 r1 r2 r3 r4 r5 r6 r7)
  obtain ⟨w3, hw3⟩ : ∃ W, W = (w2.alloc (.cells #[.slice y1.a t.colours.length y1.ca, .slice y1.b t.pairs.length y1.cb, .slice y1.z t.zones.length y1.cz, .slice y1.r t.ready.length y1.cr, .int .i64 t.start, .int .i64 t.rate, .int .i64 t.stop, .int .i64 t.hang] 26)).alloc (.cells #[.slice y2.a t.colours.length y2.ca, .slice y2.b t.pairs.length y2.cb, .slice y2.z t.zones.length y2.cz, .slice y2.r t.ready.length y2.cr, .int .i64 t.start, .int .i64 t.rate, .int .i64 t.stop, .int .i64 t.hang] 88) := ⟨_, rfl⟩
  obtain ⟨gA, hgA⟩ : ∃ g, g = w2.heap.size := ⟨_, rfl⟩
  obtain ⟨gB, hgB⟩ : ∃ g, g = w2.heap.size + 1 := ⟨_, rfl⟩
  rw [← hw3, ← hgB, ← hgA]
  have hb23 : Below w2.heap.size w2 w3 := by rw [hw3]; exact balR (balR (Below.refl _ _) _) _
  have kA : Blk w3 gA 26 (titV t y1) := by rw [hw3, hgA]; exact (blkAt rfl 26 _).alloc _
  have kB : Blk w3 gB 88 (titV t y2) := by rw [hw3, hgB]; exact blkAt (by simp) 88 _
  have HB13 := Lib.hid (HB2.out.trans (hb23.mono HB2.out.size))
  have HTA := Lib.hid (fun W (hb : Below w3.heap.size w3 W) => (HY1.out.below (hb23.trans (hb.mono hb23.size))).mono ((hb23.trans (hb.mono hb23.size)).size))
  have HTB := Lib.hid (fun W (hb : Below w3.heap.size w3 W) => (HY2.out.below (hb23.trans (hb.mono hb23.size))).mono ((hb23.trans (hb.mono hb23.size)).size))
  have HA := Lib.hid (fun W hb => boxE t y1 kA W hb)
  have HB := Lib.hid (fun W hb => boxE t y2 kB W hb)
  have HR := Lib.hid (fun W (hb : Below w3.heap.size w3 W) => HR0.out W (HB13.out.trans (hb.mono HB13.out.size)))
  have HTT := Lib.hid (fun W (hb : Below w3.heap.size w3 W) => HTX.out W (HB13.out.trans (hb.mono HB13.out.size)))
  have HAA := Lib.hid (fun W (hb : Below w3.heap.size w3 W) => HAX.out W (HB13.out.trans (hb.mono HB13.out.size)))
  clear hw3 hgA hgB kA kB hb23 HY1 HY2
  obtain ⟨⟨fo, fn, fe⟩, fh⟩ : ∃ r, r = fewP t := ⟨_, rfl⟩
  obtain ⟨⟨bo, bn, be⟩, bh⟩ : ∃ r, r = besP t := ⟨_, rfl⟩
  obtain ⟨⟨yo, ye⟩, yh⟩ : ∃ r, r = whyP t := ⟨_, rfl⟩
  have hfl : fo.length ≤ 1000000 := by have := fewP_len t; rw [← fh] at this; exact this
  have hbl : bo.length ≤ 1000000 := by have := besP_len t; rw [← bh] at this; exact this
  have hyl : yo.length ≤ 2000 := by have := whyP_len t; rw [← yh] at this; exact this
  obtain ⟨yn, hyn⟩ : ∃ m, m = yo.length := ⟨_, rfl⟩
  have HYN := Lib.hid hyn.symm
  rw [← hyn] at hyl
  clear hyn
  have H32 := Lib.hid (show ∀ W, Below w3.heap.size w3 W → Calls Try.prog 32 #[.agg #[.slice y1.a t.colours.length y1.ca, .slice y1.b t.pairs.length y1.cb, .slice y1.z t.zones.length y1.cz, .slice y1.r t.ready.length y1.cr, .int .i64 t.start, .int .i64 t.rate, .int .i64 t.stop, .int .i64 t.hang]] W fun e w' => ∃ (A : Option Addr) (c : Nat), e = .returned (.tuple #[.slice A fo.length c, .int .i64 fn, .int .i64 fe]) ∧ Hid (Sl encInt 1 w' w'.heap.size A (casts fo)) ∧ Hid (Below W.heap.size W w') from fun W hb => few32_c t y1 zs1 W HS.out (HTA.out W hb) (fo, fn, fe) fh)
  have H73 := Lib.hid (show ∀ W, Below w3.heap.size w3 W → Calls Try.prog 73 #[.agg #[.slice y2.a t.colours.length y2.ca, .slice y2.b t.pairs.length y2.cb, .slice y2.z t.zones.length y2.cz, .slice y2.r t.ready.length y2.cr, .int .i64 t.start, .int .i64 t.rate, .int .i64 t.stop, .int .i64 t.hang]] W fun e w' => ∃ (A : Option Addr) (c : Nat), e = .returned (.tuple #[.slice A fo.length c, .int .i64 fn, .int .i64 fe]) ∧ Hid (Sl encInt 1 w' w'.heap.size A (casts fo)) ∧ Hid (Below W.heap.size W w') from fun W hb => ref73_any t y2 zs2 W HS.out (HTB.out W hb) (fo, fn, fe) fh)
  have H33 := Lib.hid (show ∀ W, Below w3.heap.size w3 W → Calls Try.prog 33 #[.agg #[.slice y1.a t.colours.length y1.ca, .slice y1.b t.pairs.length y1.cb, .slice y1.z t.zones.length y1.cz, .slice y1.r t.ready.length y1.cr, .int .i64 t.start, .int .i64 t.rate, .int .i64 t.stop, .int .i64 t.hang]] W fun e w' => ∃ (A : Option Addr) (c : Nat), e = .returned (.tuple #[.slice A bo.length c, .int .i64 bn, .int .i64 be]) ∧ Hid (Sl encInt 1 w' w'.heap.size A (casts bo)) ∧ Hid (Below W.heap.size W w') from fun W hb => bes33_c t y1 zs1 W HS.out (HTA.out W hb) (bo, bn, be) bh)
  have H74 := Lib.hid (show ∀ W, Below w3.heap.size w3 W → Calls Try.prog 74 #[.agg #[.slice y2.a t.colours.length y2.ca, .slice y2.b t.pairs.length y2.cb, .slice y2.z t.zones.length y2.cz, .slice y2.r t.ready.length y2.cr, .int .i64 t.start, .int .i64 t.rate, .int .i64 t.stop, .int .i64 t.hang]] W fun e w' => ∃ (A : Option Addr) (c : Nat), e = .returned (.tuple #[.slice A bo.length c, .int .i64 bn, .int .i64 be]) ∧ Hid (Sl encInt 1 w' w'.heap.size A (casts bo)) ∧ Hid (Below W.heap.size W w') from fun W hb => ref74_any t y2 zs2 W HS.out (HTB.out W hb) (bo, bn, be) bh)
  have H35 := Lib.hid (show ∀ W, Below w3.heap.size w3 W → Calls Try.prog 35 #[.agg #[.slice y1.a t.colours.length y1.ca, .slice y1.b t.pairs.length y1.cb, .slice y1.z t.zones.length y1.cz, .slice y1.r t.ready.length y1.cr, .int .i64 t.start, .int .i64 t.rate, .int .i64 t.stop, .int .i64 t.hang]] W fun e w' => ∃ (A : Option Addr) (c : Nat), e = .returned (.tuple #[.slice A yn c, .int .i64 ye]) ∧ Hid (Sl encInt 1 w' w'.heap.size A yo) ∧ Hid (Below W.heap.size W w') from fun W hb => by
    have h := why35_c t y1 zs1 W HS.out (HTA.out W hb) (yo, ye) yh
    dsimp only at h
    rw [HYN.out] at h
    exact h)
  have H75 := Lib.hid (show ∀ W, Below w3.heap.size w3 W → Calls Try.prog 75 #[.agg #[.slice y2.a t.colours.length y2.ca, .slice y2.b t.pairs.length y2.cb, .slice y2.z t.zones.length y2.cz, .slice y2.r t.ready.length y2.cr, .int .i64 t.start, .int .i64 t.rate, .int .i64 t.stop, .int .i64 t.hang]] W fun e w' => ∃ (A : Option Addr) (c : Nat), e = .returned (.tuple #[.slice A yn c, .int .i64 ye]) ∧ Hid (Sl encInt 1 w' w'.heap.size A yo) ∧ Hid (Below W.heap.size W w') from fun W hb => by
    have h := why75_any t y2 zs2 W HS.out (HTB.out W hb) (yo, ye) yh
    dsimp only at h
    rw [HYN.out] at h
    exact h)
  have H19 := Lib.hid (fun (A A' : Option Addr) (c c' : Nat) (o : List Nat) (h9 : o.length ≤ 1000000) W => eq19_c A A' c c' o.length (casts o) (casts_len o) h9 W)
  have H52 := Lib.hid (fun W hb => kept_w t y1 x zs1 zs W HS.out (HTA.out W hb) (HTT.out W hb))
  have HBN := Lib.hid (Below.refl w3.heap.size w3)
  obtain ⟨a0, a1, a2, a3, a4, a5, a6, a7⟩ := HA.out _ (Below.refl _ _)
  obtain ⟨b0, b1, b2, b3, b4, b5, b6, b7⟩ := HB.out _ (Below.refl _ _)
  obtain ⟨r0, r1, r2, r3, r4, r5, r6, r7⟩ := HR.out _ (Below.refl _ _)
  clear fh bh yh
  go_upto_region 6 with first
    | (go_at_call 32; with_reducible refine (H32.out _ HBN.out).mono ?_; rintro e wk ⟨A1, c1, rfl, HP1, hbk⟩; have HBN := Lib.hid (HBN.out.trans (hbk.out.mono HBN.out.size)); clear hbk; clear a0 a1 a2 a3 a4 a5 a6 a7; obtain ⟨a0, a1, a2, a3, a4, a5, a6, a7⟩ := HA.out _ HBN.out; clear b0 b1 b2 b3 b4 b5 b6 b7; obtain ⟨b0, b1, b2, b3, b4, b5, b6, b7⟩ := HB.out _ HBN.out; clear r0 r1 r2 r3 r4 r5 r6 r7; obtain ⟨r0, r1, r2, r3, r4, r5, r6, r7⟩ := HR.out _ HBN.out)
    | (go_at_call 73; with_reducible refine (H73.out _ HBN.out).mono ?_; rintro e wk ⟨A2, c2, rfl, HP2, hbk⟩; have HP1 := Lib.hid ((HP1.out.below hbk.out).mono hbk.out.size); have HBN := Lib.hid (HBN.out.trans (hbk.out.mono HBN.out.size)); clear hbk; clear a0 a1 a2 a3 a4 a5 a6 a7; obtain ⟨a0, a1, a2, a3, a4, a5, a6, a7⟩ := HA.out _ HBN.out; clear b0 b1 b2 b3 b4 b5 b6 b7; obtain ⟨b0, b1, b2, b3, b4, b5, b6, b7⟩ := HB.out _ HBN.out; clear r0 r1 r2 r3 r4 r5 r6 r7; obtain ⟨r0, r1, r2, r3, r4, r5, r6, r7⟩ := HR.out _ HBN.out)
    | (go_at_call 19; with_reducible refine (H19.out A1 A2 c1 c2 fo hfl _ HP1.out HP2.out).mono ?_; rintro e wk ⟨rfl, hbk⟩; have HBN := Lib.hid (HBN.out.trans (hbk.out.mono HBN.out.size)); clear hbk; clear a0 a1 a2 a3 a4 a5 a6 a7; obtain ⟨a0, a1, a2, a3, a4, a5, a6, a7⟩ := HA.out _ HBN.out; clear b0 b1 b2 b3 b4 b5 b6 b7; obtain ⟨b0, b1, b2, b3, b4, b5, b6, b7⟩ := HB.out _ HBN.out; clear r0 r1 r2 r3 r4 r5 r6 r7; obtain ⟨r0, r1, r2, r3, r4, r5, r6, r7⟩ := HR.out _ HBN.out)
  go_upto_region 10 with first
    | (go_at_call 33; with_reducible refine (H33.out _ HBN.out).mono ?_; rintro e wk ⟨A3, c3, rfl, HP3, hbk⟩; have HBN := Lib.hid (HBN.out.trans (hbk.out.mono HBN.out.size)); clear hbk; clear a0 a1 a2 a3 a4 a5 a6 a7; obtain ⟨a0, a1, a2, a3, a4, a5, a6, a7⟩ := HA.out _ HBN.out; clear b0 b1 b2 b3 b4 b5 b6 b7; obtain ⟨b0, b1, b2, b3, b4, b5, b6, b7⟩ := HB.out _ HBN.out; clear r0 r1 r2 r3 r4 r5 r6 r7; obtain ⟨r0, r1, r2, r3, r4, r5, r6, r7⟩ := HR.out _ HBN.out)
    | (go_at_call 74; with_reducible refine (H74.out _ HBN.out).mono ?_; rintro e wk ⟨A4, c4, rfl, HP4, hbk⟩; have HP3 := Lib.hid ((HP3.out.below hbk.out).mono hbk.out.size); have HBN := Lib.hid (HBN.out.trans (hbk.out.mono HBN.out.size)); clear hbk; clear a0 a1 a2 a3 a4 a5 a6 a7; obtain ⟨a0, a1, a2, a3, a4, a5, a6, a7⟩ := HA.out _ HBN.out; clear b0 b1 b2 b3 b4 b5 b6 b7; obtain ⟨b0, b1, b2, b3, b4, b5, b6, b7⟩ := HB.out _ HBN.out; clear r0 r1 r2 r3 r4 r5 r6 r7; obtain ⟨r0, r1, r2, r3, r4, r5, r6, r7⟩ := HR.out _ HBN.out)
    | (go_at_call 19; with_reducible refine (H19.out A3 A4 c3 c4 bo hbl _ HP3.out HP4.out).mono ?_; rintro e wk ⟨rfl, hbk⟩; have HBN := Lib.hid (HBN.out.trans (hbk.out.mono HBN.out.size)); clear hbk; clear a0 a1 a2 a3 a4 a5 a6 a7; obtain ⟨a0, a1, a2, a3, a4, a5, a6, a7⟩ := HA.out _ HBN.out; clear b0 b1 b2 b3 b4 b5 b6 b7; obtain ⟨b0, b1, b2, b3, b4, b5, b6, b7⟩ := HB.out _ HBN.out; clear r0 r1 r2 r3 r4 r5 r6 r7; obtain ⟨r0, r1, r2, r3, r4, r5, r6, r7⟩ := HR.out _ HBN.out)
  have H19Y := Lib.hid (fun (A A' : Option Addr) (c c' : Nat) W => eq19_c A A' c c' yn yo HYN.out (by omega) W)
  go_upto_region 14 with first
    | (go_at_call 35; with_reducible refine (H35.out _ HBN.out).mono ?_; rintro e wk ⟨A5, c5, rfl, HP5, hbk⟩; have HBN := Lib.hid (HBN.out.trans (hbk.out.mono HBN.out.size)); clear hbk; clear a0 a1 a2 a3 a4 a5 a6 a7; obtain ⟨a0, a1, a2, a3, a4, a5, a6, a7⟩ := HA.out _ HBN.out; clear b0 b1 b2 b3 b4 b5 b6 b7; obtain ⟨b0, b1, b2, b3, b4, b5, b6, b7⟩ := HB.out _ HBN.out; clear r0 r1 r2 r3 r4 r5 r6 r7; obtain ⟨r0, r1, r2, r3, r4, r5, r6, r7⟩ := HR.out _ HBN.out)
    | (go_at_call 75; with_reducible refine (H75.out _ HBN.out).mono ?_; rintro e wk ⟨A6, c6, rfl, HP6, hbk⟩; have HP5 := Lib.hid ((HP5.out.below hbk.out).mono hbk.out.size); have HBN := Lib.hid (HBN.out.trans (hbk.out.mono HBN.out.size)); clear hbk; clear a0 a1 a2 a3 a4 a5 a6 a7; obtain ⟨a0, a1, a2, a3, a4, a5, a6, a7⟩ := HA.out _ HBN.out; clear b0 b1 b2 b3 b4 b5 b6 b7; obtain ⟨b0, b1, b2, b3, b4, b5, b6, b7⟩ := HB.out _ HBN.out; clear r0 r1 r2 r3 r4 r5 r6 r7; obtain ⟨r0, r1, r2, r3, r4, r5, r6, r7⟩ := HR.out _ HBN.out)
    | (go_at_call 19; with_reducible refine (H19Y.out A5 A6 c5 c6 _ HP5.out HP6.out).mono ?_; rintro e wk ⟨rfl, hbk⟩; have HBN := Lib.hid (HBN.out.trans (hbk.out.mono HBN.out.size)); have HP5 := Lib.hid ((HP5.out.below hbk.out).mono hbk.out.size); clear hbk; clear a0 a1 a2 a3 a4 a5 a6 a7; obtain ⟨a0, a1, a2, a3, a4, a5, a6, a7⟩ := HA.out _ HBN.out; clear b0 b1 b2 b3 b4 b5 b6 b7; obtain ⟨b0, b1, b2, b3, b4, b5, b6, b7⟩ := HB.out _ HBN.out; clear r0 r1 r2 r3 r4 r5 r6 r7; obtain ⟨r0, r1, r2, r3, r4, r5, r6, r7⟩ := HR.out _ HBN.out)
  clear a0 a1 a2 a3 a4 a5 a6 a7 b0 b1 b2 b3 b4 b5 b6 b7 r0 r1 r2 r3 r4 r5 r6 r7
  obtain ⟨w7, hw7⟩ : ∃ W, W = wk := ⟨_, rfl⟩
  rw [← hw7] at HBN HP5 ⊢
  clear hw7
  obtain ⟨w8, hw8⟩ : ∃ W, W = w7.alloc (.cells #[.slice A n c, .slice A5 yn c5] 22) := ⟨_, rfl⟩
  obtain ⟨gL, hgL⟩ : ∃ g, g = w7.heap.size := ⟨_, rfl⟩
  have kL : Blk w8 gL 22 #[.slice A n c, .slice A5 yn c5] := by rw [hw8, hgL]; exact Blk.new _ _ _
  have hb78 : Below w7.heap.size w7 w8 := by rw [hw8]; exact balR (Below.refl _ _) _
  have HB38 := Lib.hid (HBN.out.trans (hb78.mono HBN.out.size))
  have HLI := Lib.hid (show ∀ j, j < 2 → ∃ (Ax : Option Addr) (nx cx : Nat) (Tx : List Int), (∀ W, Below w8.heap.size w8 W → W.cell? ⟨gL, j, none⟩ = some (.slice Ax nx cx)) ∧ Tx.length = nx ∧ nx ≤ 2000 ∧ ∀ W, Below w8.heap.size w8 W → Sl encInt 1 W W.heap.size Ax Tx from fun j hj => by
    match j, hj with
    | 0, _ => exact ⟨A, n, c, l, fun W hb => by rw [(kL.below hb kL.lt).cell]; rfl, HN.out, hl, fun W hb => HAA.out W (HB38.out.trans (hb.mono HB38.out.size))⟩
    | 1, _ => exact ⟨A5, yn, c5, yo, fun W hb => by rw [(kL.below hb kL.lt).cell]; rfl, HYN.out, hyl, fun W hb => (HP5.out.below (hb78.trans (hb.mono hb78.size))).mono (hb78.trans (hb.mono hb78.size)).size⟩)
  have HW8 := Lib.hid hw8
  have HGL := Lib.hid hgL
  have HB8 := Lib.hid (fun W (hb : Below w8.heap.size w8 W) => HB38.out.trans (hb.mono HB38.out.size))
  have HA8 := Lib.hid (fun W (hb : Below w8.heap.size w8 W) => HA.out W (HB8.out W hb))
  have HB8b := Lib.hid (fun W (hb : Below w8.heap.size w8 W) => HB.out W (HB8.out W hb))
  have HR8 := Lib.hid (fun W (hb : Below w8.heap.size w8 W) => HR.out W (HB8.out W hb))
  have H52 := Lib.hid (fun W (hb : Below w8.heap.size w8 W) => H52.out W (HB8.out W hb))
  clear hw8 hgL kL hb78 HBN
  go_wp2_with fail
  rw [← HW8.out, ← HGL.out]
  go_loopw [102] (fun u wr => ∃ j : Nat, j ≤ 2 ∧ u = .int .i64 j ∧ Hid (Below w8.heap.size w8 wr)) (fun u _ => 2 - (intOf u).toNat)
  case atStart => exact ⟨0, by omega, rfl, Below.refl _ _⟩
  case round =>
    obtain ⟨j, hj, rfl, HBN⟩ := hrel
    by_cases hj2 : j < 2
    · skip
      obtain ⟨Ax, nx, cx, Tx, hcx, hnx, hn9, hsx⟩ := HLI.out j hj2
      have c0 := hcx wr HBN.out
      have HSX := Lib.hid hsx
      have HNX := Lib.hid hnx
      have H40 := Lib.hid (fun W hb => clone40_c Ax cx nx Tx hnx (by omega) W (hsx W hb))
      have H36 := Lib.hid (fun (Ay : Option Addr) (cy : Nat) W (hb : Below w8.heap.size w8 W) (h : Sl encInt 1 W W.heap.size Ay Tx) => show Calls Try.prog 36 #[.agg #[.slice y1.a t.colours.length y1.ca, .slice y1.b t.pairs.length y1.cb, .slice y1.z t.zones.length y1.cz, .slice y1.r t.ready.length y1.cr, .int .i64 t.start, .int .i64 t.rate, .int .i64 t.stop, .int .i64 t.hang], .slice Ay nx cy] W fun e w' => ∃ (b : Bool) (er : Int), e = .returned (.tuple #[.bool b, .int .i64 er]) ∧ Hid (PrvP t Tx b er) ∧ Hid (Below W.heap.size W w') from prov36_c t y1 zs1 W HS.out (HTA.out W (HB8.out W hb)) Ay cy nx Tx hnx (by omega) h)
      have H76 := Lib.hid (fun W (hb : Below w8.heap.size w8 W) => show Calls Try.prog 76 #[.agg #[.slice y2.a t.colours.length y2.ca, .slice y2.b t.pairs.length y2.cb, .slice y2.z t.zones.length y2.cz, .slice y2.r t.ready.length y2.cr, .int .i64 t.start, .int .i64 t.rate, .int .i64 t.stop, .int .i64 t.hang], .slice Ax nx cx] W fun e w' => ∃ (b : Bool) (er : Int), e = .returned (.tuple #[.bool b, .int .i64 er]) ∧ Hid (PrvP t Tx b er) ∧ Hid (Below W.heap.size W w') from prov76_any t y2 zs2 W HS.out (HTB.out W (HB8.out W hb)) Ax cx nx Tx hnx (by omega) (hsx W hb))
      have H19X := Lib.hid (fun (Ay : Option Addr) (cy : Nat) W (hb : Below w8.heap.size w8 W) (h : Sl encInt 1 W W.heap.size Ay Tx) => eq19_c Ax Ay cx cy nx Tx hnx (by omega) W (hsx W hb) h)
      have i0 : (0 : Int) ≤ (j : Int) := by omega
      have i1 : (j : Int) < 2 := by omega
      obtain ⟨a0, a1, a2, a3, a4, a5, a6, a7⟩ := HA8.out _ HBN.out
      obtain ⟨b0, b1, b2, b3, b4, b5, b6, b7⟩ := HB8b.out _ HBN.out
      obtain ⟨r0, r1, r2, r3, r4, r5, r6, r7⟩ := HR8.out _ HBN.out
      clear hcx hsx hnx
      go_wp2_with first
        | (go_at_call 40; with_reducible refine (H40.out _ HBN.out).mono ?_; rintro e wk ⟨Ay, cy, rfl, HPY, hbk⟩; have HBN := Lib.hid (HBN.out.trans (hbk.out.mono HBN.out.size)); clear hbk; clear a0 a1 a2 a3 a4 a5 a6 a7; obtain ⟨a0, a1, a2, a3, a4, a5, a6, a7⟩ := HA8.out _ HBN.out; clear b0 b1 b2 b3 b4 b5 b6 b7; obtain ⟨b0, b1, b2, b3, b4, b5, b6, b7⟩ := HB8b.out _ HBN.out; clear r0 r1 r2 r3 r4 r5 r6 r7; obtain ⟨r0, r1, r2, r3, r4, r5, r6, r7⟩ := HR8.out _ HBN.out)
        | (go_at_call 36; with_reducible refine (H36.out Ay cy _ HBN.out HPY.out).mono ?_; rintro e wk ⟨pv1, pe1, rfl, HQ1, hbk⟩; have HPY := Lib.hid ((HPY.out.below hbk.out).mono hbk.out.size); have HBN := Lib.hid (HBN.out.trans (hbk.out.mono HBN.out.size)); clear hbk; clear a0 a1 a2 a3 a4 a5 a6 a7; obtain ⟨a0, a1, a2, a3, a4, a5, a6, a7⟩ := HA8.out _ HBN.out; clear b0 b1 b2 b3 b4 b5 b6 b7; obtain ⟨b0, b1, b2, b3, b4, b5, b6, b7⟩ := HB8b.out _ HBN.out; clear r0 r1 r2 r3 r4 r5 r6 r7; obtain ⟨r0, r1, r2, r3, r4, r5, r6, r7⟩ := HR8.out _ HBN.out)
        | (go_at_call 76; with_reducible refine (H76.out _ HBN.out).mono ?_; rintro e wk ⟨pv2, pe2, rfl, HQ2, hbk⟩; have HPY := Lib.hid ((HPY.out.below hbk.out).mono hbk.out.size); obtain ⟨rfl, rfl⟩ := prvP_uniq HQ1.out HQ2.out; have HBN := Lib.hid (HBN.out.trans (hbk.out.mono HBN.out.size)); clear hbk; clear a0 a1 a2 a3 a4 a5 a6 a7; obtain ⟨a0, a1, a2, a3, a4, a5, a6, a7⟩ := HA8.out _ HBN.out; clear b0 b1 b2 b3 b4 b5 b6 b7; obtain ⟨b0, b1, b2, b3, b4, b5, b6, b7⟩ := HB8b.out _ HBN.out; clear r0 r1 r2 r3 r4 r5 r6 r7; obtain ⟨r0, r1, r2, r3, r4, r5, r6, r7⟩ := HR8.out _ HBN.out)
        | (go_at_call 19; with_reducible refine (H19X.out Ay cy _ HBN.out HPY.out).mono ?_; rintro e wk ⟨rfl, hbk⟩; have HBN := Lib.hid (HBN.out.trans (hbk.out.mono HBN.out.size)); clear hbk; clear a0 a1 a2 a3 a4 a5 a6 a7; obtain ⟨a0, a1, a2, a3, a4, a5, a6, a7⟩ := HA8.out _ HBN.out; clear b0 b1 b2 b3 b4 b5 b6 b7; obtain ⟨b0, b1, b2, b3, b4, b5, b6, b7⟩ := HB8b.out _ HBN.out; clear r0 r1 r2 r3 r4 r5 r6 r7; obtain ⟨r0, r1, r2, r3, r4, r5, r6, r7⟩ := HR8.out _ HBN.out)
      go_roundw
      case rel => exact ⟨j + 1, by omega, by go_num, HBN⟩
      case measure => simp [intOf]; omega
    · skip
      obtain rfl : j = 2 := by omega
      obtain ⟨a0, a1, a2, a3, a4, a5, a6, a7⟩ := HA8.out _ HBN.out
      obtain ⟨r0, r1, r2, r3, r4, r5, r6, r7⟩ := HR8.out _ HBN.out
      go_wp2_with (go_at_call 52; with_reducible refine (H52.out _ HBN.out).mono ?_; rintro e wk ⟨rfl, hbk⟩; have HBN := Lib.hid (HBN.out.trans (hbk.out.mono HBN.out.size)); clear hbk)
      go_ret
      exact ⟨rfl, HB1.out.trans ((HB13.out.trans ((HB8.out _ HBN.out).mono HB13.out.size)).mono HB1.out.size)⟩
set_option maxRecDepth 20000 in
set_option maxHeartbeats 4000000 in
theorem editionBest_walk (haw : ∀ w, Calls Try.prog 12 #[] w fun e w' => e = .returned (.bool true) ∧ Below w.heap.size w w') (t : TitD) (x : TA) (zs : List ZonM) (w : World) (hT : TitAt w w.heap.size t x zs) (A : Option Addr) (c n : Nat) (l : List Int) (hn : l.length = n) (hA : Sl encInt 1 w w.heap.size A l) :
    Calls Try.prog 7 #[.agg #[.slice x.a t.colours.length x.ca, .slice x.b t.pairs.length x.cb, .slice x.z t.zones.length x.cz, .slice x.r t.ready.length x.cr, .int .i64 t.start, .int .i64 t.rate, .int .i64 t.stop, .int .i64 t.hang], .slice A n c] w fun e w' => e = .returned (.bool true) ∧ Below w.heap.size w w' := by
  obtain ⟨w1, hw1⟩ : ∃ W, W = w.alloc (.cells #[.slice x.a t.colours.length x.ca, .slice x.b t.pairs.length x.cb, .slice x.z t.zones.length x.cz, .slice x.r t.ready.length x.cr, .int .i64 t.start, .int .i64 t.rate, .int .i64 t.stop, .int .i64 t.hang] 26) := ⟨_, rfl⟩
  have hb1 : Below w.heap.size w w1 := by rw [hw1]; exact balR (Below.refl _ _) _
  obtain ⟨gT, hgT⟩ : ∃ g, g = w.heap.size := ⟨_, rfl⟩
  have kT : Blk w1 gT 26 (titV t x) := by rw [hw1, hgT]; exact Blk.new _ _ _
  have HR0 := Lib.hid (fun W hb => boxE t x kT W hb)
  obtain ⟨r0, r1, r2, r3, r4, r5, r6, r7⟩ := HR0.out _ (Below.refl _ _)
  have HTX := Lib.hid (fun W (hb : Below w1.heap.size w1 W) => (hT.below (hb1.trans (hb.mono hb1.size))).mono ((hb1.trans (hb.mono hb1.size)).size))
  have HAX := Lib.hid (fun W (hb : Below w1.heap.size w1 W) => (hA.below (hb1.trans (hb.mono hb1.size))).mono ((hb1.trans (hb.mono hb1.size)).size))
  have HGR := Lib.hid (show Calls Try.prog 10 #[.agg #[.slice x.a t.colours.length x.ca, .slice x.b t.pairs.length x.cb, .slice x.z t.zones.length x.cz, .slice x.r t.ready.length x.cr, .int .i64 t.start, .int .i64 t.rate, .int .i64 t.stop, .int .i64 t.hang]] w1 fun e w' => e = .returned (.bool (greatB t)) ∧ Below w1.heap.size w1 w' from great_any t x zs w1 (HTX.out _ (Below.refl _ _)))
  obtain ⟨bn, hbn⟩ : ∃ b, b = decide ((2000 : Int) < (n : Int)) := ⟨_, rfl⟩
  have hbd := hbn.symm
  have HBN := Lib.hid hbn
  have HN := Lib.hid hn
  have HB1 := Lib.hid hb1
  have HW1 := Lib.hid hw1
  have HGT := Lib.hid hgT
  have HAW := Lib.hid haw
  clear hb1 hw1 hgT kT hT hA hn haw hbn
  cases hg : greatB t
  · have HS := Lib.hid (great_ok hg)
    have HFW := Lib.hid (fun W hb => few_any t x zs W hg (HTX.out W hb))
    rw [hg] at HGR
    clear hg
    cases bn
    · have hl : n ≤ 2000 := by have h1 := HBN.out; simp at h1; omega
      have HC26 := Lib.hid (fun W hb => bestLaw_any t x zs W HS.out (HTX.out W hb) A c n l HN.out hl (HAX.out W hb))
      go_enter Try.func7, Try.ntmps7
      go_upto_region 1 with fail
      rw [← HW1.out, ← HGT.out]
      go_wp2_with first
        | (go_at_call 10; refine HGR.out.mono ?_; rintro e w2 ⟨rfl, hb2⟩; have HB2 := Lib.hid hb2; clear hb2 r0 r1 r2 r3 r4 r5 r6 r7; obtain ⟨r0, r1, r2, r3, r4, r5, r6, r7⟩ := HR0.out _ HB2.out)
        | (go_at_call 25; with_reducible refine (HFW.out _ HB2.out).mono ?_; rintro e w3 ⟨bf, rfl, hb3⟩; have HB3 := Lib.hid (HB2.out.trans (hb3.mono HB2.out.size)); clear hb3 r0 r1 r2 r3 r4 r5 r6 r7; obtain ⟨r0, r1, r2, r3, r4, r5, r6, r7⟩ := HR0.out _ HB3.out; cases bf)
        | (go_at_call 26; with_reducible refine (HC26.out _ HB3.out).mono ?_; rintro e w4 ⟨rfl, hb4⟩; have HB3 := Lib.hid (HB3.out.trans (hb4.mono HB3.out.size)); clear hb4)
        | (go_at_call 12; refine (HAW.out _).mono ?_; rintro e w5 ⟨rfl, hb5⟩; have HB3 := Lib.hid (HB3.out.trans (hb5.mono HB3.out.size)); clear hb5)
      all_goals
        go_ret
        exact ⟨rfl, HB1.out.trans (HB3.out.mono HB1.out.size)⟩
    · go_enter Try.func7, Try.ntmps7
      go_upto_region 1 with fail
      rw [← HW1.out, ← HGT.out]
      go_wp2_with first
        | (go_at_call 10; refine HGR.out.mono ?_; rintro e w2 ⟨rfl, hb2⟩; have HB2 := Lib.hid hb2; clear hb2 r0 r1 r2 r3 r4 r5 r6 r7; obtain ⟨r0, r1, r2, r3, r4, r5, r6, r7⟩ := HR0.out _ HB2.out)
        | (go_at_call 25; with_reducible refine (HFW.out _ HB2.out).mono ?_; rintro e w3 ⟨bf, rfl, hb3⟩; have HB3 := Lib.hid (HB2.out.trans (hb3.mono HB2.out.size)); clear hb3 r0 r1 r2 r3 r4 r5 r6 r7; obtain ⟨r0, r1, r2, r3, r4, r5, r6, r7⟩ := HR0.out _ HB3.out; cases bf)
        | (go_at_call 12; refine (HAW.out _).mono ?_; rintro e w5 ⟨rfl, hb5⟩; have HB3 := Lib.hid (HB3.out.trans (hb5.mono HB3.out.size)); clear hb5)
      all_goals
        go_ret
        exact ⟨rfl, HB1.out.trans (HB3.out.mono HB1.out.size)⟩
  · rw [hg] at HGR
    clear hg
    go_enter Try.func7, Try.ntmps7
    go_upto_region 1 with fail
    rw [← HW1.out, ← HGT.out]
    go_wp2_with first
      | (go_at_call 10; refine HGR.out.mono ?_; rintro e w2 ⟨rfl, hb2⟩; have HB2 := Lib.hid hb2; clear hb2)
      | (go_at_call 12; refine (HAW.out _).mono ?_; rintro e w4 ⟨rfl, hb4⟩; have HB4 := Lib.hid hb4; clear hb4)
    go_ret
    exact ⟨rfl, HB1.out.trans ((HB2.out.trans (HB4.out.mono HB2.out.size)).mono HB1.out.size)⟩
end Go.Proofs.Ytokdleanpkkdpaa
