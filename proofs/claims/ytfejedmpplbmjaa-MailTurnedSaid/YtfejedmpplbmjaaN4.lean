/- The contract of open; conditions: lists within lengths. Printed by a program. -/
import Derived.Test.YtfejedmpplbmjaaN3
set_option linter.unusedSimpArgs false
set_option linter.unusedVariables false
namespace Go.Proofs.Ytfejedmpplbmjaa
open Go.RowKit Go.Fh Go.Ml
theorem Sl.at3F {B : Nat} {w : World} {A : Option Addr} {l : List (Int × Int × Bool)} (h : Sl encF 3 w B A l) {k : Nat} (hk : k < l.length) :
    ∃ b off, A = some ⟨b, off, none⟩ ∧ b < B ∧ w.cell? ⟨b, off + k * 3, none⟩ = some (.int .i64 l[k].1) ∧ w.cell? ⟨b, off + k * 3 + 1, none⟩ = some (.int .i64 l[k].2.1) ∧ w.cell? ⟨b, off + k * 3 + 2, none⟩ = some (.bool l[k].2.2) := by
  obtain ⟨b, off, hA, hb, hc⟩ := h.at_ hk
  exact ⟨b, off, hA, hb, hc 0 _ rfl, hc 1 _ rfl, hc 2 _ rfl⟩
theorem step_updI {P : Program} {κ ν : Type} [DecidableEq κ] {ek : κ → Value} {ev : ν → Value} {ops : Array Oper} {E : Prop} {w : World} {g : Nat} {m : List (κ × ν)} {o : Oper} {a : Act} {K : Act → World → Prop} {Q : Exit → Act → World → Prop} (hgd : o.guard = none) (mx kx vx : Operand) (T : TypeId)
    (ho : o.op = .mapUpdate T mx kx vx) {Kt Et : TypeId} (hT : P.underlying T = some (.map Kt Et)) (L : KeyLaw P Kt ek)
    (h : MapIs ek ev w g m) (x : κ) (v : ν) (hm : a.eval mx = .map (some g)) (hx : a.eval kx = ek x) (hv : a.eval vx = ev v)
    (hK : ∀ w', MapIs ek ev w' g (mset m x v) → w.grownBy w' (some g) → w'.heap.size = w.heap.size → K (a.put o.dst undef) w') : if Region.wanted o (yielded ops a.tmps) = true then Oper.wp P o a w K Q else E := by
  have hw : Region.wanted o (yielded ops a.tmps) = true := by simp [Region.wanted, hgd]
  rw [if_pos hw]
  exact step_update mx kx vx T ho hT L h x v hm hx hv hK
theorem blk_map_ne {κ ν : Type} {ek : κ → Value} {ev : ν → Value} {w : World} {g t : Nat} {gm : Nat} {cs : Array Value} {m : List (κ × ν)} (h : Blk w g t cs) (hm : MapIs ek ev w gm m) : some g ≠ some gm := by
  intro e
  injection e with e
  subst e
  obtain ⟨es, cl, hh, -⟩ := hm
  have := h.symm.trans hh
  cases this
theorem flt_at {fs : List (Int × Int × Bool)} {k : Nat} (hk : k < fs.length) : fltAt fs k = fs[k] := by unfold fltAt; rw [List.getD_eq_getElem?_getD, List.getElem?_eq_getElem hk]; rfl
set_option maxRecDepth 20000 in
set_option maxHeartbeats 16000000 in
theorem open_any (d : LnD) (x : LA) (zs : List Int) (zA : Option Addr) (zc : Nat) (fs : List (Int × Int × Bool)) (fA : Option Addr) (fc : Nat) (w : World) (h : LnAt w w.heap.size d x) (hl : d.hops.length ≤ 1000000000 ∧ d.zones.length ≤ 1000000000 ∧ d.rep.length ≤ 1000000000) (hz : ∀ z, z ∈ d.zones → z.length ≤ 9223372036854775807)
    (hZ : Sl encInt 1 w w.heap.size zA zs) (hF : Sl encF 3 w w.heap.size fA fs) (hzl : zs.length ≤ 1000000) (hfl : fs.length ≤ 1000000) (er : Int) (her : er = openE d zs fs) :
    Calls Try.prog 46 #[lineV d x, .slice zA zs.length zc, .slice fA fs.length fc] w fun e w' => ∃ p, e = .returned (.tuple #[.pointer p, .int .i64 er]) ∧ (er ≠ 0 → p = none) ∧ Hid (er = 0 → ∃ g, p = some ⟨g, 0, none⟩ ∧ RunM d x zs zA zc fs g w') ∧ Hid (Below w.heap.size w w') := by
  obtain ⟨w1, g1, HW1, HG1, HB1, HT1⟩ := ln_box 29 d x w h
  have HBOX := Lib.hid (show LBox d x g1 w1 from ⟨by rw [HG1.out, HW1.out]; simp, HT1.out⟩)
  obtain ⟨ce, hce⟩ : ∃ e, e = chkL d := ⟨_, rfl⟩
  have H53 := Lib.hid (fun X (hX : Below w1.heap.size w1 X) => check_any d x X (HT1.out X hX).1 hl hz ce hce)
  obtain ⟨hA, r0, r1, r2, r3⟩ := HT1.out w1 (Below.refl _ _)
  have HZS := Lib.hid (fun X (hX : Below w1.heap.size w1 X) => (hZ.below (HB1.out.trans (hX.mono HB1.out.size))).mono (Nat.le_trans HB1.out.size hX.size))
  have HFS := Lib.hid (fun X (hX : Below w1.heap.size w1 X) => (hF.below (HB1.out.trans (hX.mono HB1.out.size))).mono (Nat.le_trans HB1.out.size hX.size))
  obtain ⟨zb, hzb⟩ : ∃ b, b = zs.any (fun z => !inB z 0 ((d.zones.length : Int) - 1)) := ⟨_, rfl⟩
  have H20 := Lib.hid (fun X (hX : Below w1.heap.size w1 X) => con20_97 zA zc zs.length g1 (fun z => !inB z 0 ((d.zones.length : Int) - 1)) zs X rfl (by omega) (HZS.out X hX) zb hzb (fun z hz Y hY => clo97 d x g1 z Y (HBOX.out.below (bstep hX hY)) hl.2.1))
  have HCE := Lib.hid hce
  have HZB := Lib.hid hzb
  have HER := Lib.hid her
  clear h hA hce hzb hz hZ hF her
  by_cases hc0 : ce = 0
  · obtain ⟨hv1, hv2, hv3, -, -, hv4⟩ := chk_ok (HCE.out.symm.trans hc0)
    have HOK := Lib.hid (HCE.out.symm.trans hc0)
    by_cases hbig : 5000 < zs.length ∨ 5000 < fs.length
    · have he : er = 2 := by rw [HER.out]; unfold openE; rw [if_neg (by rw [← HCE.out]; simpa using hc0), if_pos hbig]
      obtain ⟨b1, hb1⟩ : ∃ b, b = decide (5000 < zs.length) := ⟨_, rfl⟩
      obtain ⟨b2, hb2⟩ : ∃ b, b = decide (5000 < fs.length) := ⟨_, rfl⟩
      have t1 : decide ((zs.length : Int) > 5000) = b1 := by rw [hb1, decide_eq_decide]; omega
      have t2 : decide ((fs.length : Int) > 5000) = b2 := by rw [hb2, decide_eq_decide]; omega
      have t1' : decide (5000 < (zs.length : Int)) = b1 := by rw [hb1, decide_eq_decide]; omega
      have t2' : decide (5000 < (fs.length : Int)) = b2 := by rw [hb2, decide_eq_decide]; omega
      have t1n : decide (5000 < zs.length) = b1 := hb1.symm
      have t2n : decide (5000 < fs.length) = b2 := hb2.symm
      have tor : b1 = true ∨ b2 = true := by rw [hb1, hb2]; simpa using hbig
      subst hc0 he
      clear hb1 hb2 hbig
      unfold lineV at *
      --@1
      cases b1
      · cases b2
        · simp at tor
        · clear tor
          go_enter Try.func46, Try.ntmps46
          go_upto_region 1 with fail
          rw [← HW1.out, ← HG1.out]
          go_wp2_with (go_at_call 53; with_reducible refine (H53.out _ (Below.refl _ _)).mono ?_; rintro e w2 ⟨rfl, HB2⟩; clear r0 r1 r2 r3; obtain ⟨-, r0, r1, r2, r3⟩ := HT1.out w2 HB2.out)
          go_ret2
          exact ⟨none, rfl, fun _ => rfl, Lib.hid (fun h => by cases h), Lib.hid (HB1.out.trans (HB2.out.mono HB1.out.size))⟩
      · clear tor
        go_enter Try.func46, Try.ntmps46
        go_upto_region 1 with fail
        rw [← HW1.out, ← HG1.out]
        go_wp2_with (go_at_call 53; with_reducible refine (H53.out _ (Below.refl _ _)).mono ?_; rintro e w2 ⟨rfl, HB2⟩; clear r0 r1 r2 r3; obtain ⟨-, r0, r1, r2, r3⟩ := HT1.out w2 HB2.out)
        go_ret2
        exact ⟨none, rfl, fun _ => rfl, Lib.hid (fun h => by cases h), Lib.hid (HB1.out.trans (HB2.out.mono HB1.out.size))⟩
      --@end
    · have h5 : zs.length ≤ 5000 ∧ fs.length ≤ 5000 := by omega
      have t1 : decide ((zs.length : Int) > 5000) = false := by simp; omega
      have t2 : decide ((fs.length : Int) > 5000) = false := by simp; omega
      have t1' : decide (5000 < (zs.length : Int)) = false := by simp; omega
      have t2' : decide (5000 < (fs.length : Int)) = false := by simp; omega
      have t1n : decide (5000 < zs.length) = false := by simp; omega
      have t2n : decide (5000 < fs.length) = false := by simp; omega
      by_cases hzt : zb = true
      · have he : er = 6 := by rw [HER.out]; unfold openE; rw [if_neg (by rw [← HCE.out]; simpa using hc0), if_neg hbig, if_pos (by rw [← HZB.out]; exact hzt)]
        subst hc0 he hzt
        clear hbig
        unfold lineV at *
        --@2
        go_enter Try.func46, Try.ntmps46
        go_upto_region 1 with fail
        rw [← HW1.out, ← HG1.out]
        go_wp2_with first
          | (go_at_call 53; with_reducible refine (H53.out _ (Below.refl _ _)).mono ?_; rintro e w2 ⟨rfl, HB2⟩; clear r0 r1 r2 r3; obtain ⟨-, r0, r1, r2, r3⟩ := HT1.out w2 HB2.out)
          | (go_at_call 20; with_reducible refine (H20.out _ HB2.out).mono ?_; rintro e w3 ⟨rfl, HB3⟩)
        go_ret2
        exact ⟨none, rfl, fun _ => rfl, Lib.hid (fun h => by cases h), Lib.hid (HB1.out.trans ((bstep HB2.out HB3.out).mono HB1.out.size))⟩
        --@end
      · have hzf : zb = false := by simpa using hzt
        have he : er = firstErr (fE d zs fs) fs.length := by rw [HER.out]; unfold openE; rw [if_neg (by rw [← HCE.out]; simpa using hc0), if_neg hbig, if_neg (by rw [← HZB.out]; exact hzt)]
        have hzr : ∀ z, z ∈ zs → 0 ≤ z ∧ z ≤ (d.zones.length : Int) - 1 := fun z hz => by
          have := List.any_eq_false.1 (HZB.out.symm.trans hzf) z hz
          simp at this
          exact inB_iff.1 this
        have HZR := Lib.hid hzr
        have HE := Lib.hid he
        subst hc0 hzf
        clear hbig hzt hzr he
        have HEQL := Lib.hid (show lineV d x = .agg #[.slice x.a d.hops.length x.ca, .slice x.b d.rep.length x.cb, .int .i64 d.batch, .slice x.z d.zones.length x.cz] from rfl)
        unfold lineV at *
        --@3
        have hmm := @run_makeMap Try.prog
        go_enter Try.func46, Try.ntmps46
        go_upto_region 1 with fail
        rw [← HW1.out, ← HG1.out]
        go_upto_region 8 with first
          | (go_at_call 53; with_reducible refine (H53.out _ (Below.refl _ _)).mono ?_; rintro e w2 ⟨rfl, HB2⟩; clear r0 r1 r2 r3; obtain ⟨-, r0, r1, r2, r3⟩ := HT1.out w2 HB2.out)
          | (go_at_call 20; with_reducible refine (H20.out _ HB2.out).mono ?_; rintro e w3 ⟨rfl, HB3⟩; clear r0 r1 r2 r3; have HB3' := Lib.hid (bstep HB2.out HB3.out); obtain ⟨-, r0, r1, r2, r3⟩ := HT1.out w3 HB3'.out)
        go_upto_region 9 with fail
        clear hmm
        refine wp_world (fun W => Below w1.heap.size w1 W ∧ Blk W (w3.heap.size + 1) 191 #[.slice x.a d.hops.length x.ca, .slice x.b d.rep.length x.cb, .int .i64 d.batch, .slice x.z d.zones.length x.cz, .slice zA zs.length zc, .map (some w3.heap.size)] ∧ MapIs ekF fV W w3.heap.size []) ?_ ?_
        · refine ⟨?_, ?_, ?_⟩
          · repeat (with_reducible first | exact HB3'.out | refine balR ?_ _ | refine Below.drew ?_)
          · first | exact blkAt (by simp) _ _ | exact (blkAt (by simp) _ _).drew
          · first | exact (MapIs.new w3 _ _).alloc _ | exact ((MapIs.new w3 _ _).alloc _).drew
        intro w4 hW4
        have HW4 := Lib.hid hW4
        have hsz3 := HB3'.out.size
        obtain ⟨gM, hgM⟩ : ∃ g, g = w3.heap.size := ⟨_, rfl⟩
        obtain ⟨gR, hgR⟩ : ∃ g, g = w3.heap.size + 1 := ⟨_, rfl⟩
        rw [← hgR, ← hgM] at HW4
        rw [← hgM] at hsz3
        rw [← hgR]
        have HGM := Lib.hid hsz3
        clear hW4 hsz3 r0 r1 r2 r3 hgM hgR
        go_wp2_with fail
        go_loopw [38] (fun u wr => ∃ (k : Nat) (m : FMap), k ≤ fs.length ∧ u = .int .i64 (k : Int) ∧ Hid (∀ i, i < k → fE d zs fs i = 0) ∧ Hid (MapsF m (fs.take k)) ∧ Hid (Below w1.heap.size w1 wr) ∧ Hid (Blk wr gR 191 #[.slice x.a d.hops.length x.ca, .slice x.b d.rep.length x.cb, .int .i64 d.batch, .slice x.z d.zones.length x.cz, .slice zA zs.length zc, .map (some gM)] ∧ MapIs ekF fV wr gM m)) (fun i _ => fs.length - (intOf i).toNat)
        case atStart => exact ⟨0, [], Nat.zero_le _, rfl, Lib.hid (fun i hi => by omega), Lib.hid (fun k h => by simp [mget]), Lib.hid HW4.out.1, Lib.hid HW4.out.2⟩
        case round =>
          obtain ⟨k, m, hk, rfl, HP, HMF, HB, HRM⟩ := hrel
          by_cases hlt : k < fs.length
          · obtain ⟨bf, off, rfl, hbf, c0, c1, c2⟩ := Sl.at3F (HFS.out wr HB.out) hlt
            obtain ⟨fc, fh, fd, hf⟩ : ∃ a b c, fs[k] = (a, b, c) := ⟨_, _, _, rfl⟩
            rw [hf] at c0 c1 c2
            dsimp only at c0 c1 c2
            have HFK := Lib.hid (show fltAt fs k = (fc, fh, fd) from (flt_at hlt).trans hf)
            have HTK := Lib.hid (show fs.take (k + 1) = fs.take k ++ [(fc, fh, fd)] from by rw [List.take_succ_eq_append_getElem hlt, hf])
            clear hf
            obtain ⟨ib, hib⟩ : ∃ b, b = inB fc 0 ((zs.length : Int) - 1) := ⟨_, rfl⟩
            have H54 := Lib.hid (fun W => within_val fc 0 ((zs.length : Int) - 1) ib hib W)
            have p0 : IntKind.i64.wrap ((zs.length : Int) - 1) = (zs.length : Int) - 1 := by rw [IntKind.wrap_i64]; omega
            have HIB := Lib.hid hib
            have HSTOP := Lib.hid (fun v (hv : fE d zs fs k = v) (hv0 : v ≠ 0) => show er = v from by rw [HE.out, firstErr_stop (firstErr_all k HP.out) (by rw [hv]; exact hv0) hlt, hv])
            clear hib
            --@4
            go_upto_region 13 with fail
            refine wp_world (fun W => Below wr.heap.size wr W ∧ Blk W wr.heap.size 47 #[.int .i64 fc, .int .i64 fh, .bool fd] ∧ Blk W (wr.heap.size + 1) 192 #[.int .i64 fc, .int .i64 fh]) ?_ ?_
            · refine ⟨?_, ?_, ?_⟩
              · repeat (with_reducible first | exact Below.refl _ _ | refine balR ?_ _ | refine Below.drew ?_ | refine bset ?_ (by simp) _ _)
              · first | exact blkAt (by simp) _ _ | exact (blkAt (by simp) _ _).drew | exact (blkAt (by simp) _ _).alloc _ | exact ((blkAt (by simp) _ _).alloc _).far (by simp) _
              · first | exact blkAt (by simp) _ _ | exact (blkAt (by simp) _ _).drew
            intro wq hWQ
            obtain ⟨hq1, hq2, hq3⟩ := hWQ
            obtain ⟨gF, hgF⟩ : ∃ g, g = wr.heap.size := ⟨_, rfl⟩
            obtain ⟨gK, hgK⟩ : ∃ g, g = wr.heap.size + 1 := ⟨_, rfl⟩
            rw [← hgF] at hq2
            rw [← hgK] at hq3
            rw [← hgK, ← hgF]
            have HQ2 := Lib.hid hq2
            have HQ3 := Lib.hid hq3
            have HBW := Lib.hid hq1
            have HBQ := Lib.hid (Below.refl wq.heap.size wq)
            have HB1Q := Lib.hid (show Below w1.heap.size w1 wq from HB.out.trans (hq1.mono HB.out.size))
            clear hq1 hq2 hq3 hgF hgK c0 c1 c2
            have HRQ := Lib.hid (show Blk wq gR 191 _ ∧ MapIs ekF fV wq gM m from ⟨HRM.out.1.below HBW.out HRM.out.1.lt, HRM.out.2.below HBW.out HRM.out.2.lt⟩)
            have HS := Lib.hid (show ∀ W, Below wq.heap.size wq W → W.cell? ⟨gF, 0, none⟩ = some (.int .i64 fc) ∧ W.cell? ⟨gF, 1, none⟩ = some (.int .i64 fh) ∧ W.cell? ⟨gF, 2, none⟩ = some (.bool fd) from fun W hW => by
              have k1 := HQ2.out.below hW HQ2.out.lt
              have a0 := k1.cell 0
              have a1 := k1.cell 1
              have a2 := k1.cell 2
              simp at a0 a1 a2
              exact ⟨a0, a1, a2⟩)
            have HSK := Lib.hid (show ∀ W, Below wq.heap.size wq W → W.cell? ⟨gK, 0, none⟩ = some (.int .i64 fc) ∧ W.cell? ⟨gK, 1, none⟩ = some (.int .i64 fh) from fun W hW => by
              have k1 := HQ3.out.below hW HQ3.out.lt
              have a0 := k1.cell 0
              have a1 := k1.cell 1
              simp at a0 a1
              exact ⟨a0, a1⟩)
            cases ib
            · have hfe : fE d zs fs k = 1 := by unfold fE; rw [HFK.out]; simp [← HIB.out]
              have HER1 := Lib.hid (HSTOP.out 1 hfe (by omega))
              have hne : er ≠ 0 := by rw [HER1.out]; omega
              clear hfe
              --@5
              refine wp_region_noPanic ?_
              refine wp_region_held_drew (S := (fun W => W.cell? ⟨gF, 0, none⟩ = some (.int .i64 fc))) (by kernel_rfl) ?_ (fun hHeld => ?_)
              · (try dsimp only); (exact (HS.out _ (by repeat (with_reducible first | exact HBQ.out | refine Below.drew ?_))).1)
              refine wpAnyH_takeD (i := 0) (v := ?_) (some 47) rfl rfl (by kernel_rfl) (by kernel_rfl) (by kernel_rfl) (fun _ _ _ h => h) (Or.inl ⟨by rfl, ?_⟩) (by assumption) ?_
              rotate_left
              · intro w hSw; (try dsimp only at hSw); go_simp; (try with_reducible rfl)
              try simp only [Act.put, List.setIfInBounds_toArray, List.set_cons_zero, List.set_cons_succ]
              refine wpAnyH_takeD (i := 1) (v := ?_) (some 48) rfl rfl (by kernel_rfl) (by kernel_rfl) (by kernel_rfl) (fun _ _ _ h => h) (Or.inl ⟨by rfl, ?_⟩) (by assumption) ?_
              rotate_left
              · intro w hSw; (try dsimp only at hSw); go_simp; (try with_reducible rfl)
              try simp only [Act.put, List.setIfInBounds_toArray, List.set_cons_zero, List.set_cons_succ]
              refine wpAnyH_takeD (i := 2) (v := ?_) (some 49) rfl rfl (by kernel_rfl) (by kernel_rfl) (by kernel_rfl) (fun _ _ _ h => h) (Or.inl ⟨by rfl, ?_⟩) (by assumption) ?_
              rotate_left
              · intro w hSw; (try dsimp only at hSw); go_simp; (try with_reducible rfl)
              try simp only [Act.put, List.setIfInBounds_toArray, List.set_cons_zero, List.set_cons_succ]
              refine wpAnyH_takeD (i := 3) (v := ?_) (some 50) rfl rfl (by kernel_rfl) (by kernel_rfl) (by kernel_rfl) (fun _ _ _ h => h) (Or.inl ⟨by rfl, ?_⟩) (by assumption) ?_
              rotate_left
              · intro w hSw; (try dsimp only at hSw); go_simp; (try with_reducible rfl)
              try simp only [Act.put, List.setIfInBounds_toArray, List.set_cons_zero, List.set_cons_succ]
              refine wpAnyH_takeD (i := 4) (v := ?_) (some 51) rfl rfl (by kernel_rfl) (by kernel_rfl) (by kernel_rfl) (fun _ _ _ h => h) (Or.inl ⟨by rfl, ?_⟩) (by assumption) ?_
              rotate_left
              · intro w hSw; (try dsimp only at hSw); go_simp; (try with_reducible rfl)
              try simp only [Act.put, List.setIfInBounds_toArray, List.set_cons_zero, List.set_cons_succ]
              refine wpAnyH_ready (rs := [5]) (by kernel_rfl) (by simp) ?_
              refine AllReadyH.cons rfl (fun K hK => ?_) AllReadyH.nil
              (go_simp; go_at_call 54; with_reducible refine (H54.out _).mono ?_; rintro e wz ⟨rfl, rfl⟩; go_wp2_with fail)
              refine hK.out _ _ ?_ (fun hHeld => ?_)
              · (try dsimp only); (exact (HS.out _ (by repeat (with_reducible first | exact HBQ.out | refine Below.drew ?_))).1)
              clear hK K
              try simp only [List.getElem_toArray, List.getElem_cons_succ, List.getElem_cons_zero]
              try simp only [Act.put, List.setIfInBounds_toArray, List.set_cons_zero, List.set_cons_succ]
              refine wpAnyH_takeD (i := 6) (v := ?_) (some 53) rfl rfl (by kernel_rfl) (by kernel_rfl) (by kernel_rfl) (fun _ _ _ h => h) (Or.inl ⟨by rfl, ?_⟩) (by assumption) ?_
              rotate_left
              · intro w hSw; (try dsimp only at hSw); go_simp; (try with_reducible rfl)
              try simp only [Act.put, List.setIfInBounds_toArray, List.set_cons_zero, List.set_cons_succ]
              refine wpAnyH_takeD (i := 7) (v := .bool true) (some 54) rfl rfl (by kernel_rfl) (by kernel_rfl) (by kernel_rfl) (fun _ _ _ h => h) (Or.inl ⟨by rfl, ?_⟩) (by assumption) ?_
              · intro w hSw; (try dsimp only at hSw); (go_simp; (try simp)); (try with_reducible rfl)
              try simp only [Act.put, List.setIfInBounds_toArray, List.set_cons_zero, List.set_cons_succ]
              refine wpAnyH_takeD (i := 8) (v := undef) (some 55) rfl rfl (by kernel_rfl) (by kernel_rfl) (by kernel_rfl) (fun _ _ _ h => h) (Or.inr ⟨by kernel_rfl, rfl⟩) (by assumption) ?_
              try simp only [Act.put, List.setIfInBounds_toArray, List.set_cons_zero, List.set_cons_succ]
              refine wpAnyH_takeD (i := 9) (v := undef) (some 56) rfl rfl (by kernel_rfl) (by kernel_rfl) (by kernel_rfl) (fun _ _ _ h => h) (Or.inr ⟨by kernel_rfl, rfl⟩) (by assumption) ?_
              try simp only [Act.put, List.setIfInBounds_toArray, List.set_cons_zero, List.set_cons_succ]
              refine wpAnyH_takeD (i := 10) (v := undef) (some 57) rfl rfl (by kernel_rfl) (by kernel_rfl) (by kernel_rfl) (fun _ _ _ h => h) (Or.inr ⟨by kernel_rfl, rfl⟩) (by assumption) ?_
              try simp only [Act.put, List.setIfInBounds_toArray, List.set_cons_zero, List.set_cons_succ]
              refine wpAnyH_takeD (i := 11) (v := undef) (some 58) rfl rfl (by kernel_rfl) (by kernel_rfl) (by kernel_rfl) (fun _ _ _ h => h) (Or.inr ⟨by kernel_rfl, rfl⟩) (by assumption) ?_
              try simp only [Act.put, List.setIfInBounds_toArray, List.set_cons_zero, List.set_cons_succ]
              refine wpAnyH_takeD (i := 12) (v := undef) (some 59) rfl rfl (by kernel_rfl) (by kernel_rfl) (by kernel_rfl) (fun _ _ _ h => h) (Or.inr ⟨by kernel_rfl, rfl⟩) (by assumption) ?_
              try simp only [Act.put, List.setIfInBounds_toArray, List.set_cons_zero, List.set_cons_succ]
              refine wpAnyH_takeD (i := 13) (v := undef) (some 60) rfl rfl (by kernel_rfl) (by kernel_rfl) (by kernel_rfl) (fun _ _ _ h => h) (Or.inr ⟨by kernel_rfl, rfl⟩) (by assumption) ?_
              try simp only [Act.put, List.setIfInBounds_toArray, List.set_cons_zero, List.set_cons_succ]
              refine wpAnyH_takeD (i := 14) (v := undef) (some 61) rfl rfl (by kernel_rfl) (by kernel_rfl) (by kernel_rfl) (fun _ _ _ h => h) (Or.inr ⟨by kernel_rfl, rfl⟩) (by assumption) ?_
              try simp only [Act.put, List.setIfInBounds_toArray, List.set_cons_zero, List.set_cons_succ]
              refine wpAnyH_takeD (i := 15) (v := undef) (some 62) rfl rfl (by kernel_rfl) (by kernel_rfl) (by kernel_rfl) (fun _ _ _ h => h) (Or.inr ⟨by kernel_rfl, rfl⟩) (by assumption) ?_
              try simp only [Act.put, List.setIfInBounds_toArray, List.set_cons_zero, List.set_cons_succ]
              refine wpAnyH_takeD (i := 16) (v := undef) (some 63) rfl rfl (by kernel_rfl) (by kernel_rfl) (by kernel_rfl) (fun _ _ _ h => h) (Or.inr ⟨by kernel_rfl, rfl⟩) (by assumption) ?_
              try simp only [Act.put, List.setIfInBounds_toArray, List.set_cons_zero, List.set_cons_succ]
              refine wpAnyH_takeD (i := 17) (v := undef) (some 64) rfl rfl (by kernel_rfl) (by kernel_rfl) (by kernel_rfl) (fun _ _ _ h => h) (Or.inr ⟨by kernel_rfl, rfl⟩) (by assumption) ?_
              try simp only [Act.put, List.setIfInBounds_toArray, List.set_cons_zero, List.set_cons_succ]
              refine wpAnyH_takeD (i := 18) (v := undef) (some 65) rfl rfl (by kernel_rfl) (by kernel_rfl) (by kernel_rfl) (fun _ _ _ h => h) (Or.inr ⟨by kernel_rfl, rfl⟩) (by assumption) ?_
              try simp only [Act.put, List.setIfInBounds_toArray, List.set_cons_zero, List.set_cons_succ]
              refine wpAnyH_takeD (i := 19) (v := ?_) (some 66) rfl rfl (by kernel_rfl) (by kernel_rfl) (by kernel_rfl) (fun _ _ _ h => h) (Or.inl ⟨by rfl, ?_⟩) (by assumption) ?_
              rotate_left
              · intro w hSw; (try dsimp only at hSw); go_simp; (try with_reducible rfl)
              try simp only [Act.put, List.setIfInBounds_toArray, List.set_cons_zero, List.set_cons_succ]
              refine wpAnyH_done (by kernel_rfl) ?_ _
              refine NoPanic.normal ?_
              go_wp2_with fail
              go_ret2
              refine ⟨none, by rw [HER1.out]; rfl, fun _ => rfl, Lib.hid (fun h => absurd h hne), Lib.hid (HB1.out.trans (HB1Q.out.drew.mono HB1.out.size))⟩
              --@end
            · have hin := inB_iff.1 HIB.out.symm
              obtain ⟨c, rfl⟩ : ∃ c : Nat, (c : Int) = fc := ⟨fc.toNat, by omega⟩
              have hcl : c < zs.length := by omega
              obtain ⟨bz, oz, hzA, hbz, cz⟩ := (HZS.out wq HB1Q.out).at1 hcl
              have hzb := HZR.out zs[c] (List.getElem_mem hcl)
              obtain ⟨zN, hzN⟩ : ∃ z : Nat, (z : Int) = zs[c] := ⟨zs[c].toNat, by omega⟩
              rw [← hzN] at cz hzb
              have hzl2 : zN < d.zones.length := by omega
              have HZAT := Lib.hid (show zAt zs (c : Int) = (zN : Int) from by unfold zAt; rw [Int.toNat_natCast, List.getD_eq_getElem?_getD, List.getElem?_eq_getElem hcl, hzN]; rfl)
              have HS2 := Lib.hid (show ∀ W, Below wq.heap.size wq W → (W.cell? ⟨gF, 0, none⟩ = some (.int .i64 (c : Int)) ∧ W.cell? ⟨gF, 1, none⟩ = some (.int .i64 fh)) ∧ (W.cell? ⟨g1, 0, none⟩ = some (.slice x.a d.hops.length x.ca) ∧ W.cell? ⟨g1, 1, none⟩ = some (.slice x.b d.rep.length x.cb) ∧ W.cell? ⟨g1, 2, none⟩ = some (.int .i64 d.batch) ∧ W.cell? ⟨g1, 3, none⟩ = some (.slice x.z d.zones.length x.cz)) ∧ W.cell? ⟨bz, oz + c, none⟩ = some (.int .i64 (zN : Int)) from fun W hW => by
                obtain ⟨a0, a1, a2⟩ := HS.out W hW
                obtain ⟨-, e0, e1, e2, e3⟩ := HT1.out W (bstep HB1Q.out hW)
                exact ⟨⟨a0, a1⟩, ⟨e0, e1, e2, e3⟩, ((bcell hW).1 _ _ hbz).trans cz⟩)
              obtain ⟨L, hL⟩ : ∃ L, L = (d.zones[zN]).map (fdS d.hops) := ⟨_, rfl⟩
              have hln := zn_len HOK.out (List.getElem_mem hzl2)
              have hLl : L.length ≤ 16 := by rw [hL]; simpa using hln
              have H55 := Lib.hid (show ∀ W, Below wq.heap.size wq W → Calls Try.prog 55 #[.agg #[.slice x.a d.hops.length x.ca, .slice x.b d.rep.length x.cb, .int .i64 d.batch, .slice x.z d.zones.length x.cz], .int .i64 (zN : Int)] W fun e w' => ∃ A c, e = .returned (.slice A L.length c) ∧ Hid (w'.ownsRow W.heap.size 3 1 (.slice A L.length c) L.length (L.map (Value.int .i64))) ∧ Hid (Below W.heap.size W w') from fun W hW => feeds_any d x zN W (HT1.out W (bstep HB1Q.out hW)).1 hzl2 hl.2.1 hl.1 _ L rfl (by omega) hL)
              obtain ⟨hb, hhb⟩ : ∃ b, b = L.any fun y => fh == y := ⟨_, rfl⟩
              have H17 := Lib.hid (fun (A : Option Addr) (cc : Nat) (W : World) (hS : Sl encInt 1 W W.heap.size A L) => contains_val A cc L.length L fh W rfl (by omega) hS hb hhb)
              have HFD := Lib.hid (show fdsS d (zN : Int) = L from by unfold fdsS; rw [Int.toNat_natCast, List.getD_eq_getElem?_getD, List.getElem?_eq_getElem hzl2, hL]; rfl)
              have HHB := Lib.hid hhb
              have q0 : (0 : Int) ≤ (c : Int) := by omega
              have q1 : (c : Int) < (zs.length : Int) := by omega
              subst hzA
              clear hin cz hzN hL hhb hzb
              --@6
              refine wp_region_noPanic ?_
              refine wp_region_held_drew (S := (fun W => (W.cell? ⟨gF, 0, none⟩ = some (.int .i64 (c : Int)) ∧ W.cell? ⟨gF, 1, none⟩ = some (.int .i64 fh)) ∧ (W.cell? ⟨g1, 0, none⟩ = some (.slice x.a d.hops.length x.ca) ∧ W.cell? ⟨g1, 1, none⟩ = some (.slice x.b d.rep.length x.cb) ∧ W.cell? ⟨g1, 2, none⟩ = some (.int .i64 d.batch) ∧ W.cell? ⟨g1, 3, none⟩ = some (.slice x.z d.zones.length x.cz)) ∧ W.cell? ⟨bz, oz + c, none⟩ = some (.int .i64 (zN : Int)))) (by kernel_rfl) ?_ (fun hHeld => ?_)
              · (try dsimp only); (exact HS2.out _ (by repeat (with_reducible first | exact HBQ.out | refine Below.drew ?_)))
              refine wpAnyH_takeD (i := 0) (v := ?_) (some 47) rfl rfl (by kernel_rfl) (by kernel_rfl) (by kernel_rfl) (fun _ _ _ h => h) (Or.inl ⟨by rfl, ?_⟩) (by assumption) ?_
              rotate_left
              · intro w hSw; (try dsimp only at hSw); go_simp; (try with_reducible rfl)
              try simp only [Act.put, List.setIfInBounds_toArray, List.set_cons_zero, List.set_cons_succ]
              refine wpAnyH_takeD (i := 1) (v := ?_) (some 48) rfl rfl (by kernel_rfl) (by kernel_rfl) (by kernel_rfl) (fun _ _ _ h => h) (Or.inl ⟨by rfl, ?_⟩) (by assumption) ?_
              rotate_left
              · intro w hSw; (try dsimp only at hSw); go_simp; (try with_reducible rfl)
              try simp only [Act.put, List.setIfInBounds_toArray, List.set_cons_zero, List.set_cons_succ]
              refine wpAnyH_takeD (i := 2) (v := ?_) (some 49) rfl rfl (by kernel_rfl) (by kernel_rfl) (by kernel_rfl) (fun _ _ _ h => h) (Or.inl ⟨by rfl, ?_⟩) (by assumption) ?_
              rotate_left
              · intro w hSw; (try dsimp only at hSw); go_simp; (try with_reducible rfl)
              try simp only [Act.put, List.setIfInBounds_toArray, List.set_cons_zero, List.set_cons_succ]
              refine wpAnyH_takeD (i := 3) (v := ?_) (some 50) rfl rfl (by kernel_rfl) (by kernel_rfl) (by kernel_rfl) (fun _ _ _ h => h) (Or.inl ⟨by rfl, ?_⟩) (by assumption) ?_
              rotate_left
              · intro w hSw; (try dsimp only at hSw); go_simp; (try with_reducible rfl)
              try simp only [Act.put, List.setIfInBounds_toArray, List.set_cons_zero, List.set_cons_succ]
              refine wpAnyH_takeD (i := 4) (v := ?_) (some 51) rfl rfl (by kernel_rfl) (by kernel_rfl) (by kernel_rfl) (fun _ _ _ h => h) (Or.inl ⟨by rfl, ?_⟩) (by assumption) ?_
              rotate_left
              · intro w hSw; (try dsimp only at hSw); go_simp; (try with_reducible rfl)
              try simp only [Act.put, List.setIfInBounds_toArray, List.set_cons_zero, List.set_cons_succ]
              refine wpAnyH_ready (rs := [5]) (by kernel_rfl) (by simp) ?_
              refine AllReadyH.cons rfl (fun K hK => ?_) AllReadyH.nil
              (go_simp; go_at_call 54; with_reducible refine (H54.out _).mono ?_; rintro e wz ⟨rfl, rfl⟩; go_wp2_with fail)
              refine hK.out _ _ ?_ (fun hHeld => ?_)
              · (try dsimp only); (exact HS2.out _ (by repeat (with_reducible first | exact HBQ.out | refine Below.drew ?_)))
              clear hK K
              try simp only [List.getElem_toArray, List.getElem_cons_succ, List.getElem_cons_zero]
              try simp only [Act.put, List.setIfInBounds_toArray, List.set_cons_zero, List.set_cons_succ]
              refine wpAnyH_takeD (i := 6) (v := ?_) (some 53) rfl rfl (by kernel_rfl) (by kernel_rfl) (by kernel_rfl) (fun _ _ _ h => h) (Or.inl ⟨by rfl, ?_⟩) (by assumption) ?_
              rotate_left
              · intro w hSw; (try dsimp only at hSw); go_simp; (try with_reducible rfl)
              try simp only [Act.put, List.setIfInBounds_toArray, List.set_cons_zero, List.set_cons_succ]
              refine wpAnyH_takeD (i := 7) (v := .bool false) (some 54) rfl rfl (by kernel_rfl) (by kernel_rfl) (by kernel_rfl) (fun _ _ _ h => h) (Or.inl ⟨by rfl, ?_⟩) (by assumption) ?_
              · intro w hSw; (try dsimp only at hSw); (go_simp; (try simp)); (try with_reducible rfl)
              try simp only [Act.put, List.setIfInBounds_toArray, List.set_cons_zero, List.set_cons_succ]
              refine wpAnyH_takeD (i := 8) (v := ?_) (some 55) rfl rfl (by kernel_rfl) (by kernel_rfl) (by kernel_rfl) (fun _ _ _ h => h) (Or.inl ⟨by rfl, ?_⟩) (by assumption) ?_
              rotate_left
              · intro w hSw; (try dsimp only at hSw); go_simp; (try with_reducible rfl)
              try simp only [Act.put, List.setIfInBounds_toArray, List.set_cons_zero, List.set_cons_succ]
              refine wpAnyH_takeD (i := 9) (v := ?_) (some 56) rfl rfl (by kernel_rfl) (by kernel_rfl) (by kernel_rfl) (fun _ _ _ h => h) (Or.inl ⟨by rfl, ?_⟩) (by assumption) ?_
              rotate_left
              · intro w hSw; (try dsimp only at hSw); go_simp; (try with_reducible rfl)
              try simp only [Act.put, List.setIfInBounds_toArray, List.set_cons_zero, List.set_cons_succ]
              refine wpAnyH_takeD (i := 10) (v := ?_) (some 57) rfl rfl (by kernel_rfl) (by kernel_rfl) (by kernel_rfl) (fun _ _ _ h => h) (Or.inl ⟨by rfl, ?_⟩) (by assumption) ?_
              rotate_left
              · intro w hSw; (try dsimp only at hSw); go_simp; (try with_reducible rfl)
              try simp only [Act.put, List.setIfInBounds_toArray, List.set_cons_zero, List.set_cons_succ]
              refine wpAnyH_takeD (i := 11) (v := ?_) (some 58) rfl rfl (by kernel_rfl) (by kernel_rfl) (by kernel_rfl) (fun _ _ _ h => h) (Or.inl ⟨by rfl, ?_⟩) (by assumption) ?_
              rotate_left
              · intro w hSw; (try dsimp only at hSw); go_simp; (try with_reducible rfl)
              try simp only [Act.put, List.setIfInBounds_toArray, List.set_cons_zero, List.set_cons_succ]
              refine wpAnyH_takeD (i := 12) (v := ?_) (some 59) rfl rfl (by kernel_rfl) (by kernel_rfl) (by kernel_rfl) (fun _ _ _ h => h) (Or.inl ⟨by rfl, ?_⟩) (by assumption) ?_
              rotate_left
              · intro w hSw; (try dsimp only at hSw); go_simp; (try with_reducible rfl)
              try simp only [Act.put, List.setIfInBounds_toArray, List.set_cons_zero, List.set_cons_succ]
              refine wpAnyH_takeD (i := 13) (v := ?_) (some 60) rfl rfl (by kernel_rfl) (by kernel_rfl) (by kernel_rfl) (fun _ _ _ h => h) (Or.inl ⟨by rfl, ?_⟩) (by assumption) ?_
              rotate_left
              · intro w hSw; (try dsimp only at hSw); go_simp; (try with_reducible rfl)
              try simp only [Act.put, List.setIfInBounds_toArray, List.set_cons_zero, List.set_cons_succ]
              refine wpAnyH_takeD (i := 15) (v := ?_) (some 62) rfl rfl (by kernel_rfl) (by kernel_rfl) (by kernel_rfl) (fun _ _ _ h => h) (Or.inl ⟨by rfl, ?_⟩) (by assumption) ?_
              rotate_left
              · intro w hSw; (try dsimp only at hSw); go_simp; (try with_reducible rfl)
              try simp only [Act.put, List.setIfInBounds_toArray, List.set_cons_zero, List.set_cons_succ]
              refine wpAnyH_takeD (i := 16) (v := ?_) (some 63) rfl rfl (by kernel_rfl) (by kernel_rfl) (by kernel_rfl) (fun _ _ _ h => h) (Or.inl ⟨by rfl, ?_⟩) (by assumption) ?_
              rotate_left
              · intro w hSw; (try dsimp only at hSw); go_simp; (try with_reducible rfl)
              try simp only [Act.put, List.setIfInBounds_toArray, List.set_cons_zero, List.set_cons_succ]
              refine wpAnyH_ready (rs := [14]) (by kernel_rfl) (by simp) ?_
              refine AllReadyH.cons rfl (fun K hK => ?_) AllReadyH.nil
              (go_simp; go_at_call 55; with_reducible refine (H55.out _ (by repeat (with_reducible first | exact HBQ.out | refine Below.drew ?_))).mono ?_; rintro e w5 ⟨A5, c5, rfl, HO5, hb5⟩; have HB5 := Lib.hid (show Below wq.heap.size wq w5 from bstep (by repeat (with_reducible first | exact HBQ.out | refine Below.drew ?_)) hb5.out); clear hb5; go_wp2_with fail)
              refine hK.out _ _ ?_ (fun hHeld => ?_)
              · (try dsimp only); (exact HS2.out _ HB5.out)
              clear hK K
              try simp only [List.getElem_toArray, List.getElem_cons_succ, List.getElem_cons_zero]
              try simp only [Act.put, List.setIfInBounds_toArray, List.set_cons_zero, List.set_cons_succ]
              refine wpAnyH_ready (rs := [17]) (by kernel_rfl) (by simp) ?_
              refine AllReadyH.cons rfl (fun K hK => ?_) AllReadyH.nil
              (go_simp; go_at_call 17; with_reducible refine (H17.out _ _ _ (own_sl HO5.out)).mono ?_; rintro e w6 ⟨rfl, hb6⟩; have HB6 := Lib.hid (bstep HB5.out hb6.out); clear hb6; go_wp2_with fail)
              refine hK.out _ _ ?_ (fun hHeld => ?_)
              · (try dsimp only); (exact HS2.out _ HB6.out)
              clear hK K
              try simp only [List.getElem_toArray, List.getElem_cons_succ, List.getElem_cons_zero]
              try simp only [Act.put, List.setIfInBounds_toArray, List.set_cons_zero, List.set_cons_succ]
              refine wpAnyH_takeD (i := 18) (v := ?_) (some 65) rfl rfl (by kernel_rfl) (by kernel_rfl) (by kernel_rfl) (fun _ _ _ h => h) (Or.inl ⟨by rfl, ?_⟩) (by assumption) ?_
              rotate_left
              · intro w hSw; (try dsimp only at hSw); go_simp; (try with_reducible rfl)
              try simp only [Act.put, List.setIfInBounds_toArray, List.set_cons_zero, List.set_cons_succ]
              refine wpAnyH_takeD (i := 19) (v := ?_) (some 66) rfl rfl (by kernel_rfl) (by kernel_rfl) (by kernel_rfl) (fun _ _ _ h => h) (Or.inl ⟨by rfl, ?_⟩) (by assumption) ?_
              rotate_left
              · intro w hSw; (try dsimp only at hSw); go_simp; (try with_reducible rfl)
              try simp only [Act.put, List.setIfInBounds_toArray, List.set_cons_zero, List.set_cons_succ]
              refine wpAnyH_done (by kernel_rfl) ?_ _
              refine NoPanic.normal ?_
              --@7
              cases hb
              · have hfe : fE d zs fs k = 1 := by
                  unfold fE; rw [HFK.out]; dsimp only; rw [HZAT.out, HFD.out, ← HHB.out]; simp
                have HER1 := Lib.hid (HSTOP.out 1 hfe (by omega))
                have hne : er ≠ 0 := by rw [HER1.out]; omega
                clear hfe
                --@8
                go_wp2_with fail
                go_ret2
                refine ⟨none, by rw [HER1.out]; rfl, fun _ => rfl, Lib.hid (fun h => absurd h hne), Lib.hid (HB1.out.trans ((bstep HB1Q.out HB6.out).mono HB1.out.size))⟩
                --@end
              · obtain ⟨dup, hdup⟩ : ∃ b, b = (fs.take k).any (fun g => decide (g.1 = (c : Int) ∧ g.2.1 = fh)) := ⟨_, rfl⟩
                have HDUP := Lib.hid (show (mget m ⟨[(c : Int), fh], rfl⟩).isSome = dup from by rw [HMF.out.has, hdup])
                have HDU := Lib.hid hdup
                obtain ⟨z1, z2, z3, hfz⟩ : ∃ a b e, ((mget m ⟨[(c : Int), fh], rfl⟩).map fV).getD (fV (0, 0, false)) = .agg #[.int .i64 a, .int .i64 b, .bool e] := by
                  cases mget m ⟨[(c : Int), fh], rfl⟩ with
                  | none => exact ⟨_, _, _, rfl⟩
                  | some v => exact ⟨_, _, _, rfl⟩
                have HFZ := Lib.hid hfz
                clear hfz
                have HS3 := Lib.hid (show ∀ W, Below w6.heap.size w6 W → W.cell? ⟨gR, 5, none⟩ = some (.map (some gM)) ∧ (W.cell? ⟨gK, 0, none⟩ = some (.int .i64 (c : Int)) ∧ W.cell? ⟨gK, 1, none⟩ = some (.int .i64 fh)) ∧ MapIs ekF fV W gM m from fun W hW => by
                  have hb := bstep HB6.out hW
                  have e := (HRQ.out.1.below hb HRQ.out.1.lt).cell 5
                  simp at e
                  exact ⟨e, HSK.out W hb, HRQ.out.2.below hb HRQ.out.2.lt⟩)
                clear hdup
                --@9
                go_upto_region 15 with fail
                refine wp_region_noPanic ?_
                refine wp_region_held_drew (S := (fun W => W.cell? ⟨gR, 5, none⟩ = some (.map (some gM)) ∧ (W.cell? ⟨gK, 0, none⟩ = some (.int .i64 (c : Int)) ∧ W.cell? ⟨gK, 1, none⟩ = some (.int .i64 fh)) ∧ MapIs ekF fV W gM m)) (by kernel_rfl) ?_ (fun hHeld => ?_)
                · (try dsimp only); (exact HS3.out _ (by repeat (with_reducible first | exact Below.refl _ _ | refine balR ?_ _ | refine Below.drew ?_ | refine bset ?_ (Nat.le_refl _) _ _)))
                refine wpAnyH_takeD (i := 0) (v := ?_) (some 68) rfl rfl (by kernel_rfl) (by kernel_rfl) (by kernel_rfl) (fun _ _ _ h => h) (Or.inl ⟨by rfl, ?_⟩) (by assumption) ?_
                rotate_left
                · intro w hSw; (try dsimp only at hSw); go_simp; (try with_reducible rfl)
                try simp only [Act.put, List.setIfInBounds_toArray, List.set_cons_zero, List.set_cons_succ]
                refine wpAnyH_takeD (i := 1) (v := ?_) (some 69) rfl rfl (by kernel_rfl) (by kernel_rfl) (by kernel_rfl) (fun _ _ _ h => h) (Or.inl ⟨by rfl, ?_⟩) (by assumption) ?_
                rotate_left
                · intro w hSw; (try dsimp only at hSw); go_simp; (try with_reducible rfl)
                try simp only [Act.put, List.setIfInBounds_toArray, List.set_cons_zero, List.set_cons_succ]
                refine wpAnyH_takeD (i := 2) (v := ?_) (some 70) rfl rfl (by kernel_rfl) (by kernel_rfl) (by kernel_rfl) (fun _ _ _ h => h) (Or.inl ⟨by rfl, ?_⟩) (by assumption) ?_
                rotate_left
                · intro w hSw; (try dsimp only at hSw); go_simp; (try with_reducible rfl)
                try simp only [Act.put, List.setIfInBounds_toArray, List.set_cons_zero, List.set_cons_succ]
                refine wpAnyH_takeD (i := 3) (v := ?_) (some 71) rfl rfl (by kernel_rfl) (by kernel_rfl) (by kernel_rfl) (fun _ _ _ h => h) (Or.inl ⟨by rfl, ?_⟩) (by assumption) ?_
                rotate_left
                · intro w hSw; (try dsimp only at hSw); go_simp; (try with_reducible rfl)
                try simp only [Act.put, List.setIfInBounds_toArray, List.set_cons_zero, List.set_cons_succ]
                refine wpAnyH_takeD (i := 4) (v := ?_) (some 72) rfl rfl (by kernel_rfl) (by kernel_rfl) (by kernel_rfl) (fun _ _ _ h => h) (Or.inl ⟨by rfl, ?_⟩) (by assumption) ?_
                rotate_left
                · intro w hSw; (try dsimp only at hSw); go_simp; (try with_reducible rfl)
                try simp only [Act.put, List.setIfInBounds_toArray, List.set_cons_zero, List.set_cons_succ]
                refine wpAnyH_takeD (i := 5) (v := .tuple #[.agg #[.int .i64 z1, .int .i64 z2, .bool z3], .bool dup]) (some 73) rfl rfl (by kernel_rfl) (by kernel_rfl) (by kernel_rfl) (fun _ _ _ h => h) (Or.inl ⟨by rfl, ?_⟩) (by assumption) ?_
                · intro w hSw; (try dsimp only at hSw); (obtain ⟨hs1, hs2, hs3⟩ := hSw; have hq := hs3.lookup Try.underlying189 keyLaw192 zero47 ⟨[(c : Int), fh], rfl⟩ true; rw [if_pos rfl, HDUP.out] at hq; rw [HFZ.out] at hq; simp [execOp, Act.eval, arrV, go_sem] at hq ⊢; exact (congrArg (fun r => r.andThen fun a w => Result.ok (Next.value a) w) hq).trans rfl); (try with_reducible rfl)
                try simp only [Act.put, List.setIfInBounds_toArray, List.set_cons_zero, List.set_cons_succ]
                refine wpAnyH_takeD (i := 6) (v := ?_) (some 67) rfl rfl (by kernel_rfl) (by kernel_rfl) (by kernel_rfl) (fun _ _ _ h => h) (Or.inl ⟨by rfl, ?_⟩) (by assumption) ?_
                rotate_left
                · intro w hSw; (try dsimp only at hSw); go_simp; (try with_reducible rfl)
                try simp only [Act.put, List.setIfInBounds_toArray, List.set_cons_zero, List.set_cons_succ]
                refine wpAnyH_takeD (i := 7) (v := ?_) (some 74) rfl rfl (by kernel_rfl) (by kernel_rfl) (by kernel_rfl) (fun _ _ _ h => h) (Or.inl ⟨by rfl, ?_⟩) (by assumption) ?_
                rotate_left
                · intro w hSw; (try dsimp only at hSw); go_simp; (try with_reducible rfl)
                try simp only [Act.put, List.setIfInBounds_toArray, List.set_cons_zero, List.set_cons_succ]
                refine wpAnyH_takeD (i := 8) (v := ?_) (some 75) rfl rfl (by kernel_rfl) (by kernel_rfl) (by kernel_rfl) (fun _ _ _ h => h) (Or.inl ⟨by rfl, ?_⟩) (by assumption) ?_
                rotate_left
                · intro w hSw; (try dsimp only at hSw); go_simp; (try with_reducible rfl)
                try simp only [Act.put, List.setIfInBounds_toArray, List.set_cons_zero, List.set_cons_succ]
                refine wpAnyH_ready (rs := [9]) (by kernel_rfl) (by simp) ?_
                refine AllReadyH.cons rfl (fun K hK => ?_) AllReadyH.nil
                go_simp
                refine hK.out _ _ ?_ (fun hHeld => ?_)
                · (try dsimp only); (exact HS3.out _ (by repeat (with_reducible first | exact Below.refl _ _ | refine balR ?_ _ | refine Below.drew ?_ | refine bset ?_ (Nat.le_refl _) _ _)))
                clear hK K
                try simp only [List.getElem_toArray, List.getElem_cons_succ, List.getElem_cons_zero]
                try simp only [Act.put, List.setIfInBounds_toArray, List.set_cons_zero, List.set_cons_succ]
                refine wpAnyH_ready (rs := [10]) (by kernel_rfl) (by simp) ?_
                refine AllReadyH.cons rfl (fun K hK => ?_) AllReadyH.nil
                go_simp
                refine hK.out _ _ ?_ (fun hHeld => ?_)
                · (try dsimp only); (exact HS3.out _ (by repeat (with_reducible first | exact Below.refl _ _ | refine balR ?_ _ | refine Below.drew ?_ | refine bset ?_ (Nat.le_refl _) _ _)))
                clear hK K
                try simp only [List.getElem_toArray, List.getElem_cons_succ, List.getElem_cons_zero]
                try simp only [Act.put, List.setIfInBounds_toArray, List.set_cons_zero, List.set_cons_succ]
                refine wpAnyH_takeD (i := 11) (v := ?_) (some 14) rfl rfl (by kernel_rfl) (by kernel_rfl) (by kernel_rfl) (fun _ _ _ h => h) (Or.inl ⟨by rfl, ?_⟩) (by assumption) ?_
                rotate_left
                · intro w hSw; (try dsimp only at hSw); go_simp; (try with_reducible rfl)
                try simp only [Act.put, List.setIfInBounds_toArray, List.set_cons_zero, List.set_cons_succ]
                refine wpAnyH_done (by kernel_rfl) ?_ _
                refine NoPanic.normal ?_
                go_upto_region 16 with fail
                refine wp_world (fun W => Below w6.heap.size w6 W) ?_ ?_
                · repeat (with_reducible first | exact Below.refl _ _ | refine balR ?_ _ | refine Below.drew ?_ | refine bset ?_ (Nat.le_refl _) _ _)
                intro w8 hw8
                have HB8 := Lib.hid (bstep HB6.out hw8)
                have HB8' := Lib.hid hw8
                clear hw8
                cases dup
                · have HFE := Lib.hid (show fE d zs fs k = 0 from by
                    unfold fE; rw [HFK.out]; dsimp only; rw [HZAT.out, HFD.out, ← HHB.out, ← HDU.out, ← HIB.out]; simp)
                  --@10
                  go_upto_region 18 with fail
                  refine wp_world (fun W => Below w6.heap.size w6 W) ?_ ?_
                  · repeat (with_reducible first | exact HB8'.out | refine Below.drew ?_)
                  intro wv hwv
                  have HBV := Lib.hid hwv
                  clear hwv
                  have HV6 := Lib.hid (bstep HB6.out HBV.out)
                  have HM6 := Lib.hid (show ∀ W, Below wv.heap.size wv W → MapIs ekF fV W gM m from fun W hW => (HS3.out _ (bstep HBV.out hW)).2.2)
                  have HR6 := Lib.hid (show Blk wv gR 191 _ from HRQ.out.1.below HV6.out HRQ.out.1.lt)
                  have HF6 := Lib.hid (show Blk wv gF 47 _ from HQ2.out.below HV6.out HQ2.out.lt)
                  have HK6 := Lib.hid (show Blk wv gK 192 _ from HQ3.out.below HV6.out HQ3.out.lt)
                  have HS4 := Lib.hid (show ∀ W, Blk W gR 191 #[.slice x.a d.hops.length x.ca, .slice x.b d.rep.length x.cb, .int .i64 d.batch, .slice x.z d.zones.length x.cz, .slice (some ⟨bz, oz, none⟩) zs.length zc, .map (some gM)] ∧ Blk W gF 47 #[.int .i64 (c : Int), .int .i64 fh, .bool fd] ∧ Blk W gK 192 #[.int .i64 (c : Int), .int .i64 fh] → W.cell? ⟨gR, 5, none⟩ = some (.map (some gM)) ∧ (W.cell? ⟨gK, 0, none⟩ = some (.int .i64 (c : Int)) ∧ W.cell? ⟨gK, 1, none⟩ = some (.int .i64 fh)) ∧ (W.cell? ⟨gF, 0, none⟩ = some (.int .i64 (c : Int)) ∧ W.cell? ⟨gF, 1, none⟩ = some (.int .i64 fh) ∧ W.cell? ⟨gF, 2, none⟩ = some (.bool fd)) from fun W ⟨k1, k2, k3⟩ => by
                    have e5 := k1.cell 5
                    have a0 := k2.cell 0
                    have a1 := k2.cell 1
                    have a2 := k2.cell 2
                    have b0 := k3.cell 0
                    have b1 := k3.cell 1
                    simp at e5 a0 a1 a2 b0 b1
                    exact ⟨e5, ⟨b0, b1⟩, a0, a1, a2⟩)
                  have HNE := Lib.hid (show some gR ≠ some gM ∧ some gF ≠ some gM ∧ some gK ≠ some gM from by
                    have hq := (HM6.out wv (Below.refl _ _))
                    exact ⟨blk_map_ne HR6.out hq, blk_map_ne HF6.out hq, blk_map_ne HK6.out hq⟩)
                  refine wp_region_noPanic ?_
                  refine wp_region_held_drew (S := (fun W => W.cell? ⟨gR, 5, none⟩ = some (.map (some gM)) ∧ (W.cell? ⟨gK, 0, none⟩ = some (.int .i64 (c : Int)) ∧ W.cell? ⟨gK, 1, none⟩ = some (.int .i64 fh)) ∧ (W.cell? ⟨gF, 0, none⟩ = some (.int .i64 (c : Int)) ∧ W.cell? ⟨gF, 1, none⟩ = some (.int .i64 fh) ∧ W.cell? ⟨gF, 2, none⟩ = some (.bool fd)))) (by kernel_rfl) ?_ (fun hHeld => ?_)
                  · (try dsimp only); (exact HS4.out _ ⟨HR6.out.drew, HF6.out.drew, HK6.out.drew⟩)
                  refine wpAnyH_takeD (i := 0) (v := ?_) (some 77) rfl rfl (by kernel_rfl) (by kernel_rfl) (by kernel_rfl) (fun _ _ _ h => h) (Or.inl ⟨by rfl, ?_⟩) (by assumption) ?_
                  rotate_left
                  · intro w hSw; (try dsimp only at hSw); go_simp; (try with_reducible rfl)
                  try simp only [Act.put, List.setIfInBounds_toArray, List.set_cons_zero, List.set_cons_succ]
                  refine wpAnyH_takeD (i := 1) (v := ?_) (some 78) rfl rfl (by kernel_rfl) (by kernel_rfl) (by kernel_rfl) (fun _ _ _ h => h) (Or.inl ⟨by rfl, ?_⟩) (by assumption) ?_
                  rotate_left
                  · intro w hSw; (try dsimp only at hSw); go_simp; (try with_reducible rfl)
                  try simp only [Act.put, List.setIfInBounds_toArray, List.set_cons_zero, List.set_cons_succ]
                  refine wpAnyH_takeD (i := 2) (v := ?_) (some 79) rfl rfl (by kernel_rfl) (by kernel_rfl) (by kernel_rfl) (fun _ _ _ h => h) (Or.inl ⟨by rfl, ?_⟩) (by assumption) ?_
                  rotate_left
                  · intro w hSw; (try dsimp only at hSw); go_simp; (try with_reducible rfl)
                  try simp only [Act.put, List.setIfInBounds_toArray, List.set_cons_zero, List.set_cons_succ]
                  refine wpAnyH_takeD (i := 3) (v := ?_) (some 80) rfl rfl (by kernel_rfl) (by kernel_rfl) (by kernel_rfl) (fun _ _ _ h => h) (Or.inl ⟨by rfl, ?_⟩) (by assumption) ?_
                  rotate_left
                  · intro w hSw; (try dsimp only at hSw); go_simp; (try with_reducible rfl)
                  try simp only [Act.put, List.setIfInBounds_toArray, List.set_cons_zero, List.set_cons_succ]
                  refine wpAnyH_takeD (i := 4) (v := ?_) (some 81) rfl rfl (by kernel_rfl) (by kernel_rfl) (by kernel_rfl) (fun _ _ _ h => h) (Or.inl ⟨by rfl, ?_⟩) (by assumption) ?_
                  rotate_left
                  · intro w hSw; (try dsimp only at hSw); go_simp; (try with_reducible rfl)
                  try simp only [Act.put, List.setIfInBounds_toArray, List.set_cons_zero, List.set_cons_succ]
                  refine wpAnyH_takeD (i := 5) (v := ?_) (some 82) rfl rfl (by kernel_rfl) (by kernel_rfl) (by kernel_rfl) (fun _ _ _ h => h) (Or.inl ⟨by rfl, ?_⟩) (by assumption) ?_
                  rotate_left
                  · intro w hSw; (try dsimp only at hSw); go_simp; (try with_reducible rfl)
                  try simp only [Act.put, List.setIfInBounds_toArray, List.set_cons_zero, List.set_cons_succ]
                  refine wpAnyH_ready (rs := [6]) (by kernel_rfl) (by simp) ?_
                  refine AllReadyH.cons rfl (fun K hK => ?_) AllReadyH.nil
                  (refine step_updI rfl (.tmp 80) (.tmp 81) (.tmp 82) 189 rfl Try.underlying189 keyLaw192 (HM6.out _ (Below.refl _ _).drew) ⟨[(c : Int), fh], rfl⟩ ((c : Int), fh, fd) rfl rfl rfl ?_; intro w7 hm7 hg7 hs7; have HM7 := Lib.hid hm7; have HG7 := Lib.hid hg7; have HS7 := Lib.hid hs7; clear hm7 hg7 hs7)
                  refine hK.out _ _ ?_ (fun hHeld => ?_)
                  · (try dsimp only); (exact HS4.out _ ⟨HR6.out.drew.grown HG7.out HNE.out.1, HF6.out.drew.grown HG7.out HNE.out.2.1, HK6.out.drew.grown HG7.out HNE.out.2.2⟩)
                  clear hK K
                  try simp only [List.getElem_toArray, List.getElem_cons_succ, List.getElem_cons_zero]
                  try simp only [Act.put, List.setIfInBounds_toArray, List.set_cons_zero, List.set_cons_succ]
                  refine wpAnyH_done (by kernel_rfl) ?_ _
                  refine NoPanic.normal ?_
                  go_wp2_with fail
                  go_roundw
                  case rel =>
                    refine ⟨k + 1, _, by omega, by go_num, Lib.hid (fun i hi => ?_), Lib.hid ?_, Lib.hid ?_, Lib.hid ⟨?_, HM7.out⟩⟩
                    · by_cases e : i = k
                      · subst e; exact HFE.out
                      · exact HP.out i (by omega)
                    · rw [HTK.out]; exact HMF.out.add ((c : Int), fh, fd) HDU.out.symm
                    · have h1 := (bstep HB1Q.out HV6.out).drew
                      exact h1.grown HG7.out h1.size (fun q hq => by injection hq with hq; rw [← hq]; exact HGM.out)
                    · exact HR6.out.drew.grown HG7.out HNE.out.1
                  case measure => simp [intOf]; omega
                  --@end
                · have hfe : fE d zs fs k = 10 := by
                    unfold fE; rw [HFK.out]; dsimp only; rw [HZAT.out, HFD.out, ← HHB.out, ← HDU.out, ← HIB.out]; simp
                  have HER1 := Lib.hid (HSTOP.out 10 hfe (by omega))
                  have hne : er ≠ 0 := by rw [HER1.out]; omega
                  clear hfe
                  --@11
                  go_wp2_with fail
                  go_ret2
                  refine ⟨none, by rw [HER1.out]; rfl, fun _ => rfl, Lib.hid (fun h => absurd h hne), Lib.hid (HB1.out.trans ((bstep HB1Q.out HB8.out).mono HB1.out.size))⟩
                  --@end
                --@end
              --@end
              --@end
            --@end
          · obtain rfl : k = fs.length := by omega
            --@12
            go_wp2_with fail
            go_ret2
            have he0 : er = 0 := by rw [HE.out]; exact firstErr_all _ HP.out
            refine ⟨some ⟨gR, 0, none⟩, by rw [he0]; rfl, fun h => absurd he0 h, Lib.hid (fun _ => ⟨gR, rfl, HRM.out.1.lt, gM, m, ?_, fun W hW => ?_⟩), Lib.hid (HB1.out.trans (HB.out.mono HB1.out.size))⟩
            · have := HMF.out
              rwa [List.take_of_length_le (Nat.le_refl _)] at this
            · have k1 := HRM.out.1.below hW HRM.out.1.lt
              have a0 := k1.cell 0
              have a1 := k1.cell 1
              have a2 := k1.cell 2
              have a3 := k1.cell 3
              have a4 := k1.cell 4
              have a5 := k1.cell 5
              simp at a0 a1 a2 a3 a4 a5
              exact ⟨(HT1.out W (bstep HB.out hW)).1, HZS.out W (bstep HB.out hW), ⟨a0, a1, a2, a3, a4, a5⟩, HRM.out.2.below hW HRM.out.2.lt⟩
            --@end
        --@end
  · have he : er = ce := by rw [HER.out]; unfold openE; rw [if_pos (by rw [← HCE.out]; exact hc0)]; exact HCE.out.symm
    have tc : (ce != 0) = true := by simpa using hc0
    have hcn : ¬ ce = 0 := hc0
    subst he
    unfold lineV at *
    --@0
    go_enter Try.func46, Try.ntmps46
    go_upto_region 1 with fail
    rw [← HW1.out, ← HG1.out]
    go_wp2_with (go_at_call 53; with_reducible refine (H53.out _ (Below.refl _ _)).mono ?_; rintro e w2 ⟨rfl, HB2⟩; clear r0 r1 r2 r3; obtain ⟨-, r0, r1, r2, r3⟩ := HT1.out w2 HB2.out)
    go_ret2
    exact ⟨none, rfl, fun _ => rfl, Lib.hid (fun h => absurd h hc0), Lib.hid (HB1.out.trans (HB2.out.mono HB1.out.size))⟩
    --@end
end Go.Proofs.Ytfejedmpplbmjaa
