/- The contract of Run; conditions: lists within lengths. Printed by a program. -/
import Derived.Test.YtfejedmpplbmjaaNB
import Derived.Deep.CutRange
set_option linter.unusedSimpArgs false
set_option linter.unusedVariables false
namespace Go.Ml
open Go.RowKit Go.Fh
def keepK (d : LnD) (zs : List Int) (fs : List (Int × Int × Bool)) (n : Nat) : List Nat := (List.range n).filter fun k => !(cpS d zs fs (k : Int)).thrown
def thrK (d : LnD) (zs : List Int) (fs : List (Int × Int × Bool)) (n : Nat) : List Nat := (List.range n).filter fun k => (cpS d zs fs (k : Int)).thrown
def repK (d : LnD) (zs : List Int) (fs : List (Int × Int × Bool)) (n : Nat) : List Nat := (List.range n).filter fun k => !(cpS d zs fs (k : Int)).thrown && (cpS d zs fs (k : Int)).repaired
def decK (d : LnD) (zs : List Int) (fs : List (Int × Int × Bool)) (bt nb : Nat) : List Nat := (List.range nb).filter (decS d zs fs bt)
def natI (l : List Nat) : List Int := l.map fun k : Nat => (k : Int)
def bareK (d : LnD) (zs : List Int) (fs : List (Int × Int × Bool)) (n : Nat) : List (Int × Int × List Int × Bool) := (keepK d zs fs n).map fun k : Nat => ((k : Int), zAt zs k, (cpS d zs fs k).parts, (cpS d zs fs k).right)
theorem natI_len (l : List Nat) : (natI l).length = l.length := by simp [natI]
theorem filt_len {p : Nat → Bool} {n : Nat} : ((List.range n).filter p).length ≤ n := by
  have := List.length_filter_le p (List.range n)
  rwa [List.length_range] at this
/-- what Run leaves, if it errs in nothing -/
structure FlowP (d : LnD) (zs : List Int) (fs : List (Int × Int × Bool)) (bt : Nat) (w' : World) (lo : Nat) (vC v1 v2 v3 : Value) : Prop where
  ex : ∃ base B rows, lo ≤ base ∧ FlM w' base B rows (natI (thrK d zs fs zs.length)) (natI (repK d zs fs zs.length)) (natI (decK d zs fs bt ((zs.length + bt - 1) / bt))) vC v1 v2 v3 ∧ rows.map CpR.bare = bareK d zs fs zs.length
end Go.Ml
namespace Go.Proofs.Ytfejedmpplbmjaa
open Go.RowKit Go.Fh Go.Ml
theorem infoCp : (Try.prog.info? 44).map (fun i => (i.zero, i.size, i.bytes)) = some (some (.agg #[.int .i64 0, .int .i64 0, .slice none 0 0, .bool false]), 4, 48) := by kernel_rfl
set_option maxRecDepth 100000 in
set_option maxHeartbeats 8000000 in
theorem run_any (d : LnD) (x : LA) (zs : List Int) (zA : Option Addr) (zc : Nat) (fs : List (Int × Int × Bool)) (fA : Option Addr) (fc : Nat) (w : World) (h : LnAt w w.heap.size d x) (hl : d.hops.length ≤ 1000000000 ∧ d.zones.length ≤ 1000000000 ∧ d.rep.length ≤ 1000000000) (hz : ∀ z, z ∈ d.zones → z.length ≤ 9223372036854775807)
    (hZ : Sl encInt 1 w w.heap.size zA zs) (hF : Sl encF 3 w w.heap.size fA fs) (hzl : zs.length ≤ 1000000) (hfl : fs.length ≤ 1000000) (bt : Nat) (hbt : d.batch = (bt : Int) ∨ openE d zs fs ≠ 0) (er : Int) (her : er = openE d zs fs) :
    Calls Try.prog 13 #[lineV d x, .slice zA zs.length zc, .slice fA fs.length fc] w fun e w' => ∃ vC v1 v2 v3, e = .returned (.tuple #[.agg #[vC, v1, v2, v3], .int .i64 er]) ∧ (er ≠ 0 → vC = .slice none 0 0 ∧ v1 = .slice none 0 0 ∧ v2 = .slice none 0 0 ∧ v3 = .slice none 0 0) ∧ Hid (er = 0 → FlowP d zs fs bt w' w.heap.size vC v1 v2 v3) ∧ Hid (Below w.heap.size w w') := by
  obtain ⟨w1, g1, HW1, HG1, HB1, HT1⟩ := ln_box 29 d x w h
  obtain ⟨-, r0, r1, r2, r3⟩ := HT1.out w1 (Below.refl _ _)
  obtain ⟨w2, hw2⟩ : ∃ W, W = w1.alloc (.cells #[.slice none 0 0, .slice none 0 0, .slice none 0 0, .slice none 0 0] 36) := ⟨_, rfl⟩
  obtain ⟨gF, hgF⟩ : ∃ g, g = w1.heap.size := ⟨_, rfl⟩
  have kF : Blk w2 gF 36 #[.slice none 0 0, .slice none 0 0, .slice none 0 0, .slice none 0 0] := by rw [hw2, hgF]; exact Blk.new w1 36 _
  have hb2 : Below w1.heap.size w1 w2 := by rw [hw2]; exact balR (Below.refl _ _) _
  have HB2 := Lib.hid (show Below w.heap.size w w2 from bstep HB1.out hb2)
  have H46 := Lib.hid (open_any d x zs zA zc fs fA fc w2 (HT1.out w2 hb2).1 hl hz ((hZ.below HB2.out).mono HB2.out.size) ((hF.below HB2.out).mono HB2.out.size) hzl hfl er her)
  obtain ⟨-, s0, s1, s2, s3⟩ := HT1.out w2 hb2
  have HKF := Lib.hid kF
  have HW2 := Lib.hid hw2
  have HGF := Lib.hid (show gF = g1 + 1 from by rw [hgF, HW1.out, HG1.out]; simp)
  have HGF2 := Lib.hid (show gF < w2.heap.size from kF.lt)
  have HER := Lib.hid her
  obtain ⟨iT, hi, hz0, hz1, hz2⟩ := info_parts infoInt
  obtain ⟨iC, hiC, hc0, hc1, hc2⟩ := info_parts infoCp
  have HI := Lib.hid hi
  have HIC := Lib.hid hiC
  have HBT := Lib.hid hbt
  unfold lineV at *
  clear h hw2 hgF kF hb2 hZ hF hi hiC hbt her
  by_cases he : er = 0
  · have hop : openE d zs fs = 0 := by rw [← HER.out]; exact he
    have hch : chkL d = 0 := by
      unfold openE at hop
      by_cases hc : chkL d = 0
      · exact hc
      · rw [if_pos hc] at hop; exact absurd hop hc
    have hzr : ∀ z ∈ zs, 0 ≤ z ∧ z < (d.zones.length : Int) := by
      unfold openE at hop
      rw [if_neg (by rw [hch]; simp)] at hop
      split at hop
      · cases hop
      · split at hop
        · cases hop
        · rename_i hzz
          intro z hz'
          have h1 : zs.any (fun z => !inB z 0 ((d.zones.length : Int) - 1)) = false := by simpa using hzz
          have h2 := List.any_eq_false.1 h1 z hz'
          unfold inB at h2
          simp at h2
          omega
    have hbt : d.batch = (bt : Int) := by rcases HBT.out with h | h; exact h; exact absurd hop h
    have hbb : 1 ≤ bt ∧ bt ≤ 1000 := by have := (chk_ok hch).2.2.1; omega
    subst he
    have HCH := Lib.hid hch
    have HZR := Lib.hid hzr
    have HBQ := Lib.hid hbt
    clear hop HER HBT hch hzr hbt
    go_enter Try.func13, Try.ntmps13
    go_upto_region 1 with fail
    rw [← HW1.out, ← HG1.out, ← HW2.out, ← HGF.out]
    clear r0 r1 r2 r3
    go_upto_region 4 with (go_at_call 46; refine H46.out.mono ?_; rintro e w3 ⟨p, rfl, -, HRN, HB3⟩; obtain ⟨g, rfl, hRM⟩ := HRN.out rfl; clear HRN; have HRM := Lib.hid hRM; clear hRM)
    obtain ⟨base, hbase⟩ : ∃ b, b = w3.heap.size := ⟨_, rfl⟩
    have HBA := Lib.hid hbase
    clear hbase
    have HW3 := Lib.hid (show Below w.heap.size w w3 from bstep HB2.out HB3.out)
    have HK3 := Lib.hid (HKF.out.below HB3.out HKF.out.lt)
    have H47 := Lib.hid (fun (X : World) (hX : Below w3.heap.size w3 X) (k : Nat) (hk : k < zs.length) => copy_any d x zs zA zc fs g X (HRM.out.below hX) HCH.out HZR.out k hk hzl (cpS d zs fs k) rfl)
    have H48 := Lib.hid (fun (X : World) (hX : Below w3.heap.size w3 X) => batches_any d x zs zA zc fs g X (HRM.out.below hX) bt HBQ.out hbb hzl ((zs.length + bt - 1) / bt) rfl)
    have H49 := Lib.hid (fun (X : World) (hX : Below w3.heap.size w3 X) (b : Nat) (hb : b ≤ 1000000) => declared_any d x zs zA zc fs g X (HRM.out.below hX) HCH.out HZR.out bt b HBQ.out hzl hb (decS d zs fs bt b) rfl)
    have HFL0 := Lib.hid (show FlM (w3.alloc (.cells #[.slice none 0 0, .slice none 0 0, .slice none 0 0, .slice none 0 0] 36)) base base [] (natI (thrK d zs fs 0)) (natI (repK d zs fs 0)) [] (.slice none 0 0) (.slice none 0 0) (.slice none 0 0) (.slice none 0 0) from by
      rw [HBA.out]
      exact ⟨Blk.new w3 36 _, World.ownsRow_nil _ _ _ _, World.ownsRow_nil _ _ _ _, World.ownsRow_nil _ _ _ _, World.ownsRow_nil _ _ _ _, (fun b h => by simp [Value.ownBlock] at h), (fun b h => by simp [Value.ownBlock] at h), (fun b h => by simp [Value.ownBlock] at h), (fun r hr => by cases hr), (fun r hr => by cases hr), by simp, Nat.le_refl _⟩)
    go_upto_region 5 with fail
    rw [← HBA.out]
    go_upto_region 7 with fail
    go_loopw [32] (fun u wr => ∃ (q : Nat) (rows : List CpR) (vC v1 v2 : Value), q ≤ zs.length ∧ u = .int .i64 (q : Int) ∧ Hid (FlM wr base base rows (natI (thrK d zs fs q)) (natI (repK d zs fs q)) [] vC v1 v2 (.slice none 0 0)) ∧ Hid (rows.map CpR.bare = bareK d zs fs q) ∧ Hid (Below w3.heap.size w3 wr)) (fun i _ => zs.length + 1 - (intOf i).toNat)
    case atStart => exact ⟨0, [], _, _, _, Nat.zero_le _, rfl, HFL0, Lib.hid rfl, Lib.hid (balR (Below.refl _ _) _)⟩
    case round =>
      obtain ⟨q, rows, vC, v1, v2, hq, rfl, HFL, HBR, HWR⟩ := hrel
      by_cases hlt : q < zs.length
      · have t1 : decide ((q : Int) < (zs.length : Int)) = true := decide_eq_true (by omega)
        obtain ⟨s9, hs9⟩ : ∃ s, s = cpS d zs fs (q : Int) := ⟨_, rfl⟩
        obtain ⟨zq, hzq⟩ : ∃ z, z = zAt zs (q : Int) := ⟨_, rfl⟩
        have H47q := H47.out wr HWR.out q hlt
        rw [← hs9, ← hzq] at H47q
        obtain ⟨ps, rt, th, rp⟩ := s9
        dsimp only at H47q
        have H47Q := Lib.hid H47q
        have hl1 : (thrK d zs fs q).length ≤ 1000000 := Nat.le_trans filt_len (by omega)
        have hl2 : (repK d zs fs q).length ≤ 1000000 := Nat.le_trans filt_len (by omega)
        have HT1' := Lib.hid (show thrK d zs fs (q + 1) = thrK d zs fs q ++ (if th then [q] else []) from by unfold thrK; rw [List.range_succ, List.filter_append]; simp only [List.filter_cons, List.filter_nil, ← hs9])
        have HT2' := Lib.hid (show repK d zs fs (q + 1) = repK d zs fs q ++ (if !th && rp then [q] else []) from by unfold repK; rw [List.range_succ, List.filter_append]; simp only [List.filter_cons, List.filter_nil, ← hs9])
        have HT3' := Lib.hid (show bareK d zs fs (q + 1) = bareK d zs fs q ++ (if th then [] else [((q : Int), zq, ps, rt)]) from by unfold bareK keepK; rw [List.range_succ, List.filter_append, List.map_append]; simp only [List.filter_cons, List.filter_nil, ← hs9]; cases th <;> simp [← hs9, hzq])
        clear hs9 hzq H47q
        go_upto_region 10 with (go_at_call 47; refine H47Q.out.mono ?_; rintro e w5 ⟨AP, cP, rfl, HOP, HB5⟩)
        obtain ⟨w6, hw6⟩ : ∃ W, W = w5.alloc (.cells #[.int .i64 (q : Int), .int .i64 zq, .slice AP ps.length cP, .bool rt] 44) := ⟨_, rfl⟩
        have hbp6 : Below w5.heap.size w5 w6 := by rw [hw6]; exact balR (Below.refl _ _) _
        have HB6 := Lib.hid (show Below wr.heap.size wr w6 from bstep HB5.out hbp6)
        have HF6 := Lib.hid (HFL.out.below HB6.out)
        have HO6 := Lib.hid (own_belowV HOP.out hbp6)
        have HK6 := Lib.hid (show Blk w6 w5.heap.size 44 #[.int .i64 (q : Int), .int .i64 zq, .slice AP ps.length cP, .bool rt] from by rw [hw6]; exact Blk.new w5 44 _)
        rw [← hw6]
        obtain ⟨gq, hgq⟩ : ∃ g, g = w5.heap.size := ⟨_, rfl⟩
        rw [← hgq] at HK6 ⊢
        clear hw6 hgq hbp6
        have HW6 := Lib.hid (show Below w3.heap.size w3 w6 from HWR.out.trans (HB6.out.mono (HWR.out.size)))
        have y0 := HF6.out.kB.cell 0
        have y1 := HF6.out.kB.cell 1
        have y2 := HF6.out.kB.cell 2
        simp at y0 y1 y2
        have HXD := Lib.hid (show ∀ b o, AP = some ⟨b, o, none⟩ → b ≠ base ∧ vC.ownBlock ≠ some b ∧ v1.ownBlock ≠ some b ∧ v2.ownBlock ≠ some b ∧ (Value.slice none 0 0).ownBlock ≠ some b from fun b o hA => by
          have hob : (Value.slice AP ps.length cP).ownBlock = some b := by rw [hA]; rfl
          have h5 := (own_at HOP.out hob).2
          have hlow : ∀ (v : Value) (e : TypeId) (s n : Nat) (xs : List Value), wr.ownsRow base e s v n xs → v.ownBlock ≠ some b := fun v e s n xs ho2 e2 => by
            obtain ⟨⟨cs, hc⟩, _⟩ := own_at ho2 e2
            have := lt_of_heap hc
            omega
          have hkb := HFL.out.kB.lt
          exact ⟨by omega, hlow _ _ _ _ _ HFL.out.rC, hlow _ _ _ _ _ HFL.out.r1, hlow _ _ _ _ _ HFL.out.r2, by simp [Value.ownBlock]⟩)
        cases th
        · have hff : True := trivial
          have HR2 := Lib.hid (show natI (repK d zs fs (q + 1)) = natI (repK d zs fs q) ++ (if rp then [(q : Int)] else []) from by rw [HT2'.out]; unfold natI; cases rp <;> simp)
          go_upto_if 49 with fail
          go_cut [] from 42 to 61 (fun wx => ∃ v2', Hid (FlM wx base base rows (natI (thrK d zs fs q)) (natI (repK d zs fs (q + 1))) [] vC v1 v2' (.slice none 0 0)) ∧ Hid (Below w3.heap.size w3 wx) ∧ Hid (Blk wx gq 44 #[.int .i64 (q : Int), .int .i64 zq, .slice AP ps.length cP, .bool rt]) ∧ Hid (wx.ownsRow wr.heap.size 3 1 (.slice AP ps.length cP) ps.length (ps.map (Value.int .i64))) ∧ Hid (∀ b o, AP = some ⟨b, o, none⟩ → v2'.ownBlock ≠ some b))
          case first =>
            cases rp
            · go_wp2
              go_meet
              exact ⟨v2, Lib.hid (by rw [HR2.out, if_neg (by decide), List.append_nil]; exact HF6.out), HW6, HK6, HO6, Lib.hid fun b o hA => (HXD.out b o hA).2.2.2.1⟩
            · have hbA := balR (Below.refl w6.heap.size w6) (.cells #[.int .i64 (q : Int)] 3)
              have HA7 := Lib.hid (HF6.out.below hbA)
              clear hbA
              go_wp2_with (at_builtin; refine wpList_append_lies _ rfl (.tmp 51) (.tmp 53) 22 rfl base 3 iT _ 1 8 Try.underlying22 HI.out hz0 hz1 hz2 rfl (by decide) v2 (natI (repK d zs fs q)).length (List.map (Value.int .i64) (natI (repK d zs fs q))) rfl (HA7.out.r2) ⟨w6.heap.size, 0, none⟩ 1 1 [.int .i64 (q : Int)] rfl rfl (news_of1 w6 3 #[.int .i64 (q : Int)]) (by intro u hu; simp at hu; subst hu; rfl) (by decide) (by simp only [maxLen, natI_len]; omega) (by rw [natI_len]; omega) (HA7.out.hb) (w6.heap.size + 1) (by simp) ?_; intro g9 c9 w9 hown9 hg9 hat9 hlt9; have k9 := kb_grown HA7.out.r2 HA7.out.kB (by decide) hg9; have z9 := k9.cell 2; have f9 := k9.frozen 2; simp at z9; have H9 := Lib.hid hown9; have HG9 := Lib.hid hg9; have HAT9 := Lib.hid hat9; clear hown9 hg9 hat9 k9 hlt9)
              go_meet
              have hap := HF6.out.app2 (x := (q : Int)) (balR (Below.refl _ _) _) HG9.out (by rw [List.length_append, List.map_append]; exact H9.out) (at_next HAT9.out rfl)
              have h3 := HBA.out
              have h4 := HW6.out.size
              have ho7 := own_belowV HO6.out (balR (Below.refl w6.heap.size w6) (.cells #[.int .i64 (q : Int)] 3))
              refine ⟨_, Lib.hid (by rw [HR2.out]; exact hap), Lib.hid ?_, Lib.hid ?_, Lib.hid ?_, Lib.hid ?_⟩
              · exact ((HW6.out.alloc h4 _).grown HG9.out (by simp; omega) (fun j hj => by have := own_at2 HA7.out.r2 hj; omega)).setCell (p := ⟨base, 2, none⟩) (by dsimp only; omega) _
              · exact (kt_grown HA7.out.r2 (HK6.out.alloc _) (by decide) HG9.out).far (by have := HK6.out.ne_ HF6.out.kB (by decide); dsimp only; exact this) _
              · exact own_set (ho7.kept HG9.out (own_apart ho7 (fun b o hA => (HXD.out b o hA).2.2.2.1))) (kb_grown HA7.out.r2 HA7.out.kB (by decide) HG9.out) (by decide)
              · intro b o hA
                have hob : (Value.slice AP ps.length cP).ownBlock = some b := by rw [hA]; rfl
                obtain ⟨⟨cs, hc⟩, _⟩ := own_at HO6.out hob
                exact next_apart HAT9.out (HXD.out b o hA).2.2.2.1 (lt_of_heap hc)
          case rest =>
            obtain ⟨v2', HFC, HWC, HKC, HOC, HV2⟩ := hcut
            have hbA := balR (Below.refl wc.heap.size wc) (.cells #[.int .i64 (q : Int), .int .i64 zq, .slice AP ps.length cP, .bool rt] 44)
            have HA7 := Lib.hid (HFC.out.below hbA)
            have hrl : rows.length ≤ 1000000 := by
              have h1 : rows.length = (bareK d zs fs q).length := by rw [← HBR.out, List.length_map]
              have h2 : (bareK d zs fs q).length ≤ q := by unfold bareK keepK; rw [List.length_map]; exact filt_len
              omega
            have hoA := Lib.hid (own_belowV HOC.out hbA)
            clear hbA y0 y1 y2
            have y0 := HFC.out.kB.cell 0
            have x0 := HKC.out.cell 0
            have x1 := HKC.out.cell 1
            have x2 := HKC.out.cell 2
            have x3 := HKC.out.cell 3
            simp at y0 x0 x1 x2 x3
            go_wp2_with (at_builtin; refine wpList_append_lies _ rfl (.tmp 57) (.tmp 59) 34 rfl base 44 iC _ 4 48 Try.underlying34 HIC.out hc0 hc1 hc2 rfl (by decide) vC rows.length (rows.flatMap encC) rfl (HA7.out.rC) ⟨wc.heap.size, 0, none⟩ 1 1 [.int .i64 (q : Int), .int .i64 zq, .slice AP ps.length cP, .bool rt] rfl rfl (news_of1 wc 44 #[.int .i64 (q : Int), .int .i64 zq, .slice AP ps.length cP, .bool rt]) (by intro u hu; simp at hu; rcases hu with rfl | rfl | rfl | rfl <;> rfl) (by decide) (by simp only [maxLen]; omega) (by omega) (HA7.out.hb) (wc.heap.size + 1) (by simp) ?_; intro g9 c9 w9 hown9 hg9 hat9 hlt9; have k9 := kb_grown HA7.out.rC HA7.out.kB (by decide) hg9; have z9 := k9.cell 0; have f9 := k9.frozen 0; simp at z9; have H9 := Lib.hid hown9; have HG9 := Lib.hid hg9; have HAT9 := Lib.hid hat9; clear hown9 hg9 hat9 k9 hlt9)
            go_roundw
            case rel =>
              have hap := HFC.out.appC (x := ⟨(q : Int), zq, AP, cP, ps, rt⟩) (balR (Below.refl _ _) _) HG9.out (by rw [List.length_append, List.flatMap_append]; simpa [encC] using H9.out) (at_next HAT9.out rfl) (own_low hoA.out HFL.out.hb)
                (fun b o hA => ⟨(HXD.out b o hA).1, (HXD.out b o hA).2.1, (HXD.out b o hA).2.2.1, HV2.out b o hA, (HXD.out b o hA).2.2.2.2⟩)
              have h3 := HBA.out
              have h4 := HWC.out.size
              refine ⟨q + 1, rows ++ [⟨(q : Int), zq, AP, cP, ps, rt⟩], .slice (some ⟨g9, 0, none⟩) (rows.length + 1) c9, v1, v2', by omega, by go_num, Lib.hid ?_, Lib.hid ?_, Lib.hid ?_⟩
              · rw [HT1'.out, if_neg (by decide), List.append_nil]; exact hap
              · rw [HT3'.out, List.map_append, HBR.out]; rfl
              · exact ((HWC.out.alloc h4 _).grown HG9.out (by simp; omega) (fun j hj => by have := own_at2 HA7.out.rC hj; omega)).setCell (p := ⟨base, 0, none⟩) (by dsimp only; omega) _
            case measure => simp [intOf]; omega
        · have hff : True := trivial
          have HR1 := Lib.hid (show natI (thrK d zs fs (q + 1)) = natI (thrK d zs fs q) ++ [(q : Int)] from by rw [HT1'.out]; unfold natI; simp)
          have HR2 := Lib.hid (show repK d zs fs (q + 1) = repK d zs fs q from by rw [HT2'.out]; simp)
          have HA7 := Lib.hid (HF6.out.below (balR (Below.refl _ _) (.cells #[.int .i64 (q : Int)] 3)))
          go_wp2_with (at_builtin; refine wpList_append_lies _ rfl (.tmp 44) (.tmp 46) 22 rfl base 3 iT _ 1 8 Try.underlying22 HI.out hz0 hz1 hz2 rfl (by decide) v1 (natI (thrK d zs fs q)).length (List.map (Value.int .i64) (natI (thrK d zs fs q))) rfl (HA7.out.r1) ⟨w6.heap.size, 0, none⟩ 1 1 [.int .i64 (q : Int)] rfl rfl (news_of1 w6 3 #[.int .i64 (q : Int)]) (by intro u hu; simp at hu; subst hu; rfl) (by decide) (by simp only [maxLen, natI_len]; omega) (by rw [natI_len]; omega) (HA7.out.hb) (w6.heap.size + 1) (by simp) ?_; intro g9 c9 w9 hown9 hg9 hat9 hlt9; have k9 := kb_grown HA7.out.r1 HA7.out.kB (by decide) hg9; have z9 := k9.cell 1; have f9 := k9.frozen 1; simp at z9; have H9 := Lib.hid hown9; have HG9 := Lib.hid hg9; have HAT9 := Lib.hid hat9; clear hown9 hg9 hat9 k9 hlt9)
          go_roundw
          case rel =>
            have hap := HF6.out.app1 (x := (q : Int)) (balR (Below.refl _ _) _) HG9.out (by rw [List.length_append, List.map_append]; exact H9.out) (at_next HAT9.out rfl)
            have h3 := HBA.out
            have h4 := HW6.out.size
            refine ⟨q + 1, rows, vC, .slice (some ⟨g9, 0, none⟩) ((natI (thrK d zs fs q)).length + 1) c9, v2, by omega, by go_num, Lib.hid ?_, Lib.hid ?_, Lib.hid ?_⟩
            · rw [HR1.out, HR2.out]; exact hap
            · rw [HT3'.out, if_pos rfl, List.append_nil]; exact HBR.out
            · exact ((HW6.out.alloc h4 _).grown HG9.out (by simp; omega) (fun j hj => by have := own_at2 HA7.out.r1 hj; omega)).setCell (p := ⟨base, 1, none⟩) (by dsimp only; omega) _
          case measure => simp [intOf]; omega
      · obtain rfl : q = zs.length := by omega
        have t1 : decide ((zs.length : Int) < (zs.length : Int)) = false := by simp
        obtain ⟨nb, hnb⟩ : ∃ n, n = (zs.length + bt - 1) / bt := ⟨_, rfl⟩
        have hnbb : nb ≤ 1001000 := by rw [hnb]; exact Nat.le_trans (Nat.div_le_self _ _) (by omega)
        have h48 := H48.out wr HWR.out
        rw [← hnb] at h48
        have H48R := Lib.hid h48
        have HNB := Lib.hid hnb
        have hnb6 : nb ≤ 1000000 := by
          rw [hnb]
          refine Nat.div_le_of_le_mul ?_
          obtain ⟨e, he⟩ : ∃ e, bt = e + 1 := ⟨bt - 1, by omega⟩
          rw [he]
          omega
        clear hnb h48
        go_upto_region 17 with (go_at_call 48; refine H48R.out.mono ?_; rintro e w5 ⟨rfl, HB5⟩)
        have HF5 := Lib.hid (HFL.out.below HB5.out)
        have HW5 := Lib.hid (show Below w3.heap.size w3 w5 from HWR.out.trans (HB5.out.mono HWR.out.size))
        go_loopw [65] (fun u wy => ∃ (q : Nat) (v3 : Value), q ≤ nb ∧ u = .int .i64 (q : Int) ∧ Hid (FlM wy base base rows (natI (thrK d zs fs zs.length)) (natI (repK d zs fs zs.length)) (natI (decK d zs fs bt q)) vC v1 v2 v3) ∧ Hid (Below w3.heap.size w3 wy)) (fun i _ => nb + 1 - (intOf i).toNat)
        case atStart => exact ⟨0, _, Nat.zero_le _, rfl, HF5, HW5⟩
        case round =>
          obtain ⟨q, v3, hq2, rfl, HFY, HWY⟩ := hrel
          by_cases hlt2 : q < nb
          · have t2 : decide ((q : Int) < (nb : Int)) = true := decide_eq_true (by omega)
            obtain ⟨dv, hdv⟩ : ∃ b, b = decS d zs fs bt q := ⟨_, rfl⟩
            have h49 := H49.out wr HWY.out q (by omega)
            rw [← hdv] at h49
            have H49R := Lib.hid h49
            have hl3 : (decK d zs fs bt q).length ≤ 1001000 := Nat.le_trans filt_len (by omega)
            have HT4' := Lib.hid (show decK d zs fs bt (q + 1) = decK d zs fs bt q ++ (if dv then [q] else []) from by unfold decK; rw [List.range_succ, List.filter_append]; simp only [List.filter_cons, List.filter_nil, ← hdv])
            clear hdv h49
            cases dv
            · have hff : True := trivial
              go_wp2_with (go_at_call 49; refine H49R.out.mono ?_; rintro e w6 ⟨rfl, HB6⟩)
              go_roundw
              case rel => exact ⟨q + 1, v3, by omega, by go_num, Lib.hid (by rw [HT4'.out, if_neg (by decide), List.append_nil]; exact HFY.out.below HB6.out), Lib.hid (HWY.out.trans (HB6.out.mono HWY.out.size))⟩
              case measure => simp [intOf]; omega
            · have HR3 := Lib.hid (show natI (decK d zs fs bt (q + 1)) = natI (decK d zs fs bt q) ++ [(q : Int)] from by rw [HT4'.out]; unfold natI; simp)
              go_wp2_with first
                | (go_at_call 49; refine H49R.out.mono ?_; rintro e w6 ⟨rfl, HB6⟩; have hf6 := HFY.out.below HB6.out; have y3 := hf6.kB.cell 3; simp at y3; have HF6 := Lib.hid hf6; have HW6 := Lib.hid (HWY.out.trans (HB6.out.mono HWY.out.size)); have HA7 := Lib.hid (hf6.below (balR (Below.refl _ _) (.cells #[.int .i64 (q : Int)] 3))); clear hf6)
                | (at_builtin; refine wpList_append_lies _ rfl (.tmp 72) (.tmp 74) 22 rfl base 3 iT _ 1 8 Try.underlying22 HI.out hz0 hz1 hz2 rfl (by decide) v3 (natI (decK d zs fs bt q)).length (List.map (Value.int .i64) (natI (decK d zs fs bt q))) rfl (HA7.out.r3) ⟨w6.heap.size, 0, none⟩ 1 1 [.int .i64 (q : Int)] rfl rfl (news_of1 w6 3 #[.int .i64 (q : Int)]) (by intro u hu; simp at hu; subst hu; rfl) (by decide) (by simp only [maxLen, natI_len]; omega) (by rw [natI_len]; omega) (HA7.out.hb) (w6.heap.size + 1) (by simp) ?_; intro g9 c9 w9 hown9 hg9 hat9 hlt9; have k9 := kb_grown HA7.out.r3 HA7.out.kB (by decide) hg9; have z9 := k9.cell 3; have f9 := k9.frozen 3; simp at z9; have H9 := Lib.hid hown9; have HG9 := Lib.hid hg9; have HAT9 := Lib.hid hat9; clear hown9 hg9 hat9 k9 hlt9)
              go_roundw
              case rel =>
                have hap := HF6.out.app3 (x := (q : Int)) (balR (Below.refl _ _) _) HG9.out (by rw [List.length_append, List.map_append]; exact H9.out) (at_next HAT9.out rfl)
                have h3 := HBA.out
                have h4 := HW6.out.size
                refine ⟨q + 1, .slice (some ⟨g9, 0, none⟩) ((natI (decK d zs fs bt q)).length + 1) c9, by omega, by go_num, Lib.hid ?_, Lib.hid ?_⟩
                · rw [HR3.out]; exact hap
                · exact ((HW6.out.alloc h4 _).grown HG9.out (by simp; omega) (fun j hj => by have := own_at2 HA7.out.r3 hj; omega)).setCell (p := ⟨base, 3, none⟩) (by dsimp only; omega) _
              case measure => simp [intOf]; omega
          · obtain rfl : q = nb := by omega
            have t2 : decide ((q : Int) < (q : Int)) = false := by simp
            obtain ⟨AC, cC, hvC⟩ := own_shape HFY.out.rC
            obtain ⟨A1, c1, hv1⟩ := own_shape HFY.out.r1
            obtain ⟨A2, c2, hv2⟩ := own_shape HFY.out.r2
            obtain ⟨A3, c3, hv3⟩ := own_shape HFY.out.r3
            subst hvC
            subst hv1
            subst hv2
            subst hv3
            have y0 := HFY.out.kB.cell 0
            have y1 := HFY.out.kB.cell 1
            have y2 := HFY.out.kB.cell 2
            have y3 := HFY.out.kB.cell 3
            have kG := HK3.out.below HWY.out HK3.out.lt
            have z0 := kG.cell 0
            have z1 := kG.cell 1
            have z2 := kG.cell 2
            have z3 := kG.cell 3
            have f0 := kG.frozen 0
            have f1 := kG.frozen 1
            have f2 := kG.frozen 2
            have f3 := kG.frozen 3
            simp at y0 y1 y2 y3 z0 z1 z2 z3
            have KG := Lib.hid kG
            clear kG
            go_wp2
            obtain ⟨X, hX⟩ : ∃ X, X = (((wr.setCell ⟨gF, 0, none⟩ (.slice AC rows.length cC)).setCell ⟨gF, 1, none⟩ (.slice A1 (natI (thrK d zs fs zs.length)).length c1)).setCell ⟨gF, 2, none⟩ (.slice A2 (natI (repK d zs fs zs.length)).length c2)).setCell ⟨gF, 3, none⟩ (.slice A3 (natI (decK d zs fs bt q)).length c3) := ⟨_, rfl⟩
            rw [← hX]
            have hgb : gF < base := by rw [HBA.out]; exact HK3.out.lt
            have HKX := Lib.hid (show Blk X gF 36 #[.slice AC rows.length cC, .slice A1 (natI (thrK d zs fs zs.length)).length c1, .slice A2 (natI (repK d zs fs zs.length)).length c2, .slice A3 (natI (decK d zs fs bt q)).length c3] from by rw [hX]; exact (((KG.out.set_ 0 _).set_ 1 _).set_ 2 _).set_ 3 _)
            have HFX := Lib.hid (show FlM X base base rows (natI (thrK d zs fs zs.length)) (natI (repK d zs fs zs.length)) (natI (decK d zs fs bt q)) (.slice AC rows.length cC) (.slice A1 (natI (thrK d zs fs zs.length)).length c1) (.slice A2 (natI (repK d zs fs zs.length)).length c2) (.slice A3 (natI (decK d zs fs bt q)).length c3) from by rw [hX]; exact (((HFY.out.low hgb _).low hgb _).low hgb _).low hgb _)
            have HWX := Lib.hid (show Below w.heap.size w X from by
              rw [hX]
              have h1 : w.heap.size ≤ gF := by rw [HGF.out, HG1.out]; omega
              have h2 : Below w.heap.size w wr := HW3.out.trans (HWY.out.mono HW3.out.size)
              exact (((h2.setCell (p := ⟨gF, 0, none⟩) h1 _).setCell (p := ⟨gF, 1, none⟩) h1 _).setCell (p := ⟨gF, 2, none⟩) h1 _).setCell (p := ⟨gF, 3, none⟩) h1 _)
            clear z0 z1 z2 z3
            have z0 := HKX.out.cell 0
            have z1 := HKX.out.cell 1
            have z2 := HKX.out.cell 2
            have z3 := HKX.out.cell 3
            simp at z0 z1 z2 z3
            have hwb : w.heap.size ≤ base := by rw [HBA.out]; exact HW3.out.size
            clear hX
            refine bodyPost_ret (v := .tuple #[.agg #[.slice AC rows.length cC, .slice A1 (natI (thrK d zs fs zs.length)).length c1, .slice A2 (natI (repK d zs fs zs.length)).length c2, .slice A3 (natI (decK d zs fs bt q)).length c3], .int .i64 0]) ?_ rfl ⟨_, _, _, _, rfl, fun h => absurd rfl h, Lib.hid (fun _ => ⟨base, base, rows, hwb, by rw [← HNB.out]; exact HFX.out, HBR.out⟩), HWX⟩
            simp [results, Try.f13, Try.results13, go_sem, z0, z1, z2, z3]
  · clear HBT
    go_enter Try.func13, Try.ntmps13
    go_upto_region 1 with fail
    rw [← HW1.out, ← HG1.out, ← HW2.out, ← HGF.out]
    clear r0 r1 r2 r3
    go_wp2_with (go_at_call 46; refine H46.out.mono ?_; rintro e w3 ⟨p, rfl, hp0, HRM, HB3⟩; have hp1 := hp0 he; subst hp1; clear HRM hp0; have k3 := HKF.out.below HB3.out HKF.out.lt; have z0 := k3.cell 0; have z1 := k3.cell 1; have z2 := k3.cell 2; have z3 := k3.cell 3; have f0 := k3.frozen 0; have f1 := k3.frozen 1; have f2 := k3.frozen 2; have f3 := k3.frozen 3; simp at z0 z1 z2 z3; have K3 := Lib.hid k3; clear k3)
    obtain ⟨X, hX⟩ : ∃ X, X = (((w3.setCell ⟨gF, 0, none⟩ (.slice none 0 0)).setCell ⟨gF, 1, none⟩ (.slice none 0 0)).setCell ⟨gF, 2, none⟩ (.slice none 0 0)).setCell ⟨gF, 3, none⟩ (.slice none 0 0) := ⟨_, rfl⟩
    rw [← hX]
    have HKX := Lib.hid (show Blk X gF 36 #[.slice none 0 0, .slice none 0 0, .slice none 0 0, .slice none 0 0] from by rw [hX]; exact (((K3.out.set_ 0 _).set_ 1 _).set_ 2 _).set_ 3 _)
    have HWX := Lib.hid (show Below w.heap.size w X from by
      rw [hX]
      have h1 : w.heap.size ≤ gF := by rw [HGF.out, HG1.out]; omega
      exact ((((bstep HB2.out HB3.out).setCell (p := ⟨gF, 0, none⟩) h1 _).setCell (p := ⟨gF, 1, none⟩) h1 _).setCell (p := ⟨gF, 2, none⟩) h1 _).setCell (p := ⟨gF, 3, none⟩) h1 _)
    clear z0 z1 z2 z3
    have z0 := HKX.out.cell 0
    have z1 := HKX.out.cell 1
    have z2 := HKX.out.cell 2
    have z3 := HKX.out.cell 3
    simp at z0 z1 z2 z3
    clear hX
    refine bodyPost_ret (v := .tuple #[.agg #[.slice none 0 0, .slice none 0 0, .slice none 0 0, .slice none 0 0], .int .i64 er]) ?_ rfl ⟨_, _, _, _, rfl, fun _ => ⟨rfl, rfl, rfl, rfl⟩, Lib.hid (fun h => absurd h he), HWX⟩
    simp [results, Try.f13, Try.results13, go_sem, z0, z1, z2, z3]
end Go.Proofs.Ytfejedmpplbmjaa
