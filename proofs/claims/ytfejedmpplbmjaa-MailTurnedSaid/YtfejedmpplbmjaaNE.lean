/- The contract of Bundles where it errs in nothing; conditions: as it says. Printed by a program. -/
import Derived.Test.YtfejedmpplbmjaaNU
import Derived.Test.YtfejedmpplbmjaaM6
set_option linter.unusedSimpArgs false
set_option linter.unusedVariables false
namespace Go.Ml
open Go.RowKit Go.Fh Go.Proofs.Ytfejedmpplbmjaa
theorem getv_eq (m : List (Int × Value)) (z : Int) : ((mget m z).map vId).getD (.slice none 0 0) = getv m z := by
  unfold getv
  cases mget m z <;> rfl
theorem sl_take {α : Type} {enc : α → List Value} {size B : Nat} {w : World} {A : Option Addr} {l : List α} (h : Sl enc size w B A l) (n : Nat) : Sl enc size w B A (l.take n) := fun hne => by
  obtain ⟨b, off, hA, hb, hc⟩ := h (by intro e; rw [e] at hne; simp at hne)
  refine ⟨b, off, hA, hb, fun k x hk j u hu => hc k x ?_ j u hu⟩
  rw [List.getElem?_take] at hk
  split at hk
  · exact hk
  · cases hk
theorem SfM.cut2 {W3 W W' : World} {gO : Nat} {m : List (Int × Value)} {rem : Int → List Int} (h : SfM W3 W gO m rem) {z : Int} {n : Nat} {b o o2 c : Nat} (hn : n ≤ (rem z).length) (h2 : (rem z).length ≤ n ∨ o2 = o + n) (hv : getv m z = .slice (some ⟨b, o, none⟩) (rem z).length c)
    (hm : MapIs ekI vId W' gO (mset m z (.slice (some ⟨b, o2, none⟩) ((rem z).length - n) (c - n)))) : SfM W3 W' gO (mset m z (.slice (some ⟨b, o2, none⟩) ((rem z).length - n) (c - n))) (fun y => if y = z then (rem z).drop n else rem y) := by
  rcases h2 with h2 | rfl
  · refine ⟨hm, fun y => ?_⟩
    obtain ⟨A, c', h1, hc2, h3, h4⟩ := h.sf y
    rw [getv_mset]
    by_cases hy : y = z
    · subst hy
      rw [hv] at h1
      injection h1 with hA _ hc
      subst hA hc
      refine ⟨some ⟨b, o2, none⟩, c - n, by simp, by simp; omega, fun hne => ?_, fun b' o' e => ?_⟩
      · simp only [if_true] at hne
        exact absurd (List.drop_eq_nil_of_le h2) hne
      · injection e with e
        injection e with e1 _
        subst e1
        exact h4 b o rfl
    · simp only [if_neg hy]
      exact ⟨A, c', h1, hc2, h3, h4⟩
  · exact h.cut hn hv hm
theorem own_five {W : World} {base B n : Nat} {v : Value} {xs : List Value} {cs : Array Value} {u0 u1 u2 u3 u4 : Value} (h : W.ownsRow base 3 1 v n xs) (kB : Blk W B 94 cs) : (((((W.setCell ⟨B, 0, none⟩ u0).setCell ⟨B, 1, none⟩ u1).setCell ⟨B, 2, none⟩ u2).setCell ⟨B, 3, none⟩ u3).setCell ⟨B, 4, none⟩ u4).ownsRow base 3 1 v n xs :=
  own_turn (row := none) h kB (by decide) (fun j _ h1 _ => (Below.heap_setCell _ ⟨B, 4, none⟩ _ j h1).trans ((Below.heap_setCell _ ⟨B, 3, none⟩ _ j h1).trans ((Below.heap_setCell _ ⟨B, 2, none⟩ _ j h1).trans ((Below.heap_setCell _ ⟨B, 1, none⟩ _ j h1).trans (Below.heap_setCell _ ⟨B, 0, none⟩ _ j h1))))) (fun b hv => by simp)
theorem own_sl2 {w : World} {B n : Nat} {A : Option Addr} {c : Nat} {l : List Int} (h : w.ownsRow B 3 1 (.slice A n c) n (l.map (Value.int .i64))) (e : n = l.length) : Sl encInt 1 w w.heap.size A l := by
  subst e
  exact own_sl h
theorem own_gO {W W2 : World} {base gO n : Nat} {e : TypeId} {s : Nat} {v : Value} {xs : List Value} (h : W.ownsRow base e s v n xs) (hg : W.grownBy W2 (some gO)) (hl : gO < base) : W2.ownsRow base e s v n xs := h.kept hg (by
  cases hv : v.ownBlock with
  | none => exact .inl rfl
  | some b => exact .inr fun e => by injection e with e; have := own_at2 h hv; omega)
theorem vId_map (o : Option Value) : o.map vId = o := by cases o <;> rfl
theorem sl_at4 {B : Nat} {w : World} {A : Option Addr} {l : List CpR} (h : Sl encC 4 w B A l) {k : Nat} (hk : k < l.length) : ∃ b off, A = some ⟨b, off, none⟩ ∧ b < B ∧ w.cell? ⟨b, off + k * 4, none⟩ = some (.int .i64 l[k].num) ∧ w.cell? ⟨b, off + k * 4 + 1, none⟩ = some (.int .i64 l[k].zone) ∧ w.cell? ⟨b, off + k * 4 + 2, none⟩ = some (.slice l[k].a l[k].parts.length l[k].c) ∧ w.cell? ⟨b, off + k * 4 + 3, none⟩ = some (.bool l[k].right) := by
  obtain ⟨b, off, hA, hb, hc⟩ := h.at_ hk
  exact ⟨b, off, hA, hb, hc 0 _ rfl, hc 1 _ rfl, hc 2 _ rfl, hc 3 _ rfl⟩
theorem Off2.grown {lo p q : Nat} {A B C : World} (h : Off2 lo p q A B) (hg : B.grownBy C (some p)) (hp : lo ≤ p) : Off2 lo p q A C :=
  ⟨h.1, h.2.1.grown hg (Nat.le_trans h.1 h.2.1.size) (fun k hk => by injection hk with hk; omega), fun j hj h1 h2 => (hg.block j (Nat.lt_of_lt_of_le hj h.2.1.size) (fun e => by injection e with e; exact h1 e)).trans (h.2.2 j hj h1 h2)⟩
theorem Off2.own {lo p q : Nat} {A B C : World} {base : Nat} {e : TypeId} {s n : Nat} {v : Value} {xs : List Value} (h : Off2 lo p q A B) (ho : B.ownsRow base e s v n xs) (hg : B.grownBy C v.ownBlock) (hb : A.heap.size ≤ base) (hl : lo ≤ base) : Off2 lo p q A C :=
  ⟨h.1, h.2.1.grown hg (Nat.le_trans h.1 h.2.1.size) (fun k hk => by have := own_at2 ho hk; omega), fun j hj h1 h2 => (hg.block j (Nat.lt_of_lt_of_le hj h.2.1.size) (fun e => by have := own_at2 ho e.symm; omega)).trans (h.2.2 j hj h1 h2)⟩
end Go.Ml
namespace Go.Proofs.Ytfejedmpplbmjaa
open Go.RowKit Go.Fh Go.Ml
theorem infoBd : (Try.prog.info? 94).map (fun i => (i.zero, i.size, i.bytes)) = some (some (.agg #[.int .i64 0, .int .i64 0, .int .i64 0, .slice none 0 0, .bool false]), 5, 56) := by kernel_rfl
set_option maxRecDepth 100000 in
set_option maxHeartbeats 8000000 in
theorem bundles_ok (d : LnD) (x : LA) (rows : List CpR) (AC A1 A2 A3 AD : Option Addr) (cC n1 c1 n2 c2 c3 cD : Nat) (dl : List Int) (ds : List Drp) (size least : Int) (w : World) (h : LnAt w w.heap.size d x) (hch : chkL d = 0)
    (hC : Sl encC 4 w w.heap.size AC rows) (h3 : Sl encInt 1 w w.heap.size A3 dl) (hD : Sl enc3 3 w w.heap.size AD ds) (hrl : rows.length ≤ 1000000) (hdl : dl.length ≤ 1000000) (hds : ds.length ≤ 100)
    (hdr : ∀ y ∈ ds, (0 ≤ y.1 ∧ y.1 ≤ 1000000) ∧ (0 ≤ y.2.1 ∧ y.2.1 < (d.zones.length : Int)) ∧ 0 ≤ y.2.2 ∧ y.2.2 ≤ 5000) (hnd : ∀ i (hi : i < ds.length), (ds.take i).any (fun y => decide (y.1 = ds[i].1)) = false)
    (hw : wrgB size least = false) (hri : risB 9223372036854775807 (rows.map CpR.num) = true) (hcl : clmB dl = true) (l : List (Int × Int)) (hl : l = rows.map fun r => (r.num, r.zone))
    (hen : ∀ j (hj : j < ds.length), (ds[j].2.2).toNat ≤ (remZ l (ds.take j) ds[j].2.1).length) (bt : Nat) (hbt : d.batch = (bt : Int)) :
    Calls Try.prog 35 #[lineV d x, .agg #[.slice AC rows.length cC, .slice A1 n1 c1, .slice A2 n2 c2, .slice A3 dl.length c3], .slice AD ds.length cD, .agg #[.int .i64 size, .int .i64 least]] w fun e w' => ∃ (A : Option Addr) (c : Nat) (bs : List BdR) (base : Nat), e = .returned (.tuple #[.slice A bs.length c, .int .i64 0]) ∧ bs.map BdR.bare = bunS bt dl size least l ds ds.length ∧ w.heap.size ≤ base ∧ Hid (BuM w' base bs (.slice A bs.length c)) ∧ Hid (Below w.heap.size w w') := by
  have hck := chk_ok hch
  obtain ⟨w1, g1, HW1, HG1, HB1, HT1⟩ := ln_box 29 d x w h
  have HW1 := Lib.hid (show w1 = w.alloc (.cells #[.slice x.a d.hops.length x.ca, .slice x.b d.rep.length x.cb, .int .i64 (bt : Int), .slice x.z d.zones.length x.cz] 29) from by rw [← hbt]; exact HW1.out)
  obtain ⟨w2, hw2⟩ : ∃ W, W = (w1.alloc (.cells #[.slice AC rows.length cC, .slice A1 n1 c1, .slice A2 n2 c2, .slice A3 dl.length c3] 36)).alloc (.cells #[.int .i64 size, .int .i64 least] 92) := ⟨_, rfl⟩
  have hs1 : w1.heap.size = g1 + 1 := by rw [HW1.out, HG1.out]; simp
  have hs2 : w2.heap.size = g1 + 3 := by rw [hw2]; simp [hs1]
  have k5 : Blk w2 (g1 + 1) 36 #[.slice AC rows.length cC, .slice A1 n1 c1, .slice A2 n2 c2, .slice A3 dl.length c3] := by rw [hw2]; exact (blkAt hs1 36 _).alloc _
  have k7 : Blk w2 (g1 + 1 + 1) 92 #[.int .i64 size, .int .i64 least] := by rw [hw2]; exact blkAt (by simp [hs1]) 92 _
  have hb12 : Below w1.heap.size w1 w2 := by rw [hw2]; repeat (with_reducible first | exact Below.refl _ _ | refine balR ?_ _)
  have HB2 := Lib.hid (show Below w.heap.size w w2 from bstep HB1.out hb12)
  have HLN := Lib.hid (show ∀ W, Below w2.heap.size w2 W → LnAt W W.heap.size d x ∧ W.cell? ⟨g1, 0, none⟩ = some (.slice x.a d.hops.length x.ca) ∧ W.cell? ⟨g1, 1, none⟩ = some (.slice x.b d.rep.length x.cb) ∧ W.cell? ⟨g1, 2, none⟩ = some (.int .i64 (bt : Int)) ∧ W.cell? ⟨g1, 3, none⟩ = some (.slice x.z d.zones.length x.cz) from fun W hb => by have := HT1.out W (bstep hb12 hb); rw [hbt] at this; exact this)
  have HFL := Lib.hid (show ∀ W, Below w2.heap.size w2 W → Blk W (g1 + 1) 36 #[.slice AC rows.length cC, .slice A1 n1 c1, .slice A2 n2 c2, .slice A3 dl.length c3] ∧ Blk W (g1 + 1 + 1) 92 #[.int .i64 size, .int .i64 least] ∧ Sl encC 4 W w.heap.size AC rows ∧ Sl encInt 1 W w.heap.size A3 dl ∧ Sl enc3 3 W w.heap.size AD ds from fun W hb => by
    have hb' := HB2.out.trans (hb.mono HB2.out.size)
    exact ⟨k5.below hb k5.lt, k7.below hb k7.lt, hC.below hb', h3.below hb', hD.below hb'⟩)
  have H53 := Lib.hid (show Calls Try.prog 53 #[.agg #[.slice x.a d.hops.length x.ca, .slice x.b d.rep.length x.cb, .int .i64 (bt : Int), .slice x.z d.zones.length x.cz]] w2 fun e w' => e = .returned (.int .i64 0) ∧ Hid (Below w2.heap.size w2 w') from by
    have h1 := check_any d x w2 (HT1.out w2 hb12).1 ⟨by omega, by omega, by have := ris_len hck.2.2.2.2.1 (by omega); omega⟩ (fun z hz => by have := zn_len hch hz; omega) 0 hch.symm
    unfold lineV at h1
    rw [hbt] at h1
    exact h1)
  obtain ⟨-, r0, r1, r2, r3⟩ := HLN.out w2 (Below.refl _ _)
  have hnz : d.zones.length ≤ 12 := hck.2.1.2
  have hbb : 1 ≤ bt ∧ bt ≤ 1000 := by have := hck.2.2.1; omega
  have HW2 := Lib.hid hw2
  have HS2 := Lib.hid (show w2.heap.size = g1 + 3 from hs2)
  have HG1' := Lib.hid (show g1 = w.heap.size from HG1.out)
  have HDR := Lib.hid hdr
  have HND := Lib.hid hnd
  have HRI := Lib.hid hri
  have HCL := Lib.hid hcl
  have HWG := Lib.hid hw
  have HL := Lib.hid hl
  have HEN := Lib.hid hen
  obtain ⟨iT, hi, hz0, hz1, hz2⟩ := info_parts infoInt
  obtain ⟨iB, hiB, hc0, hc1, hc2⟩ := info_parts infoBd
  have HI := Lib.hid hi
  have HIB := Lib.hid hiB
  have hmm := @run_makeMap Try.prog
  unfold lineV
  rw [hbt]
  clear hck h hch hC h3 hD hdr hnd hw hri hcl hl hen hbt hw2 hs1 hs2 k5 k7 hb12 hi hiB
  go_enter Try.func35, Try.ntmps35
  go_upto_region 1 with fail
  rw [← HW1.out, ← HG1.out, ← HW2.out]
  go_upto_region 8 with (go_at_call 53; refine H53.out.mono ?_; rintro e w3 ⟨rfl, HB3⟩)
  obtain ⟨w4, hw4⟩ : ∃ W, W = w3.alloc (.map #[] 0) := ⟨_, rfl⟩
  obtain ⟨gI, hgI⟩ : ∃ g, g = w3.heap.size := ⟨_, rfl⟩
  have HM4 := Lib.hid (show MapIs ekI bV w4 gI [] from by rw [hw4, hgI]; exact MapIs.new w3 ekI bV)
  have HB4 := Lib.hid (show Below w2.heap.size w2 w4 from by rw [hw4]; exact bstep HB3.out (balR (Below.refl _ _) _))
  have HGI := Lib.hid (show w2.heap.size ≤ gI ∧ gI < w4.heap.size from by rw [hgI, hw4]; exact ⟨HB3.out.size, by simp⟩)
  rw [← hw4, ← hgI]
  clear hw4 hgI r0 r1 r2 r3
  go_loopw [39] (fun u wr => ∃ (q : Nat) (m : List (Int × Bool)), q ≤ ds.length ∧ u = .int .i64 (q : Int) ∧ Hid (MapIs ekI bV wr gI m) ∧ Hid (∀ v, (mget m v).isSome = (ds.take q).any fun y => decide (y.1 = v)) ∧ Hid (Off2 w2.heap.size gI gI w4 wr)) (fun i _ => ds.length + 1 - (intOf i).toNat)
  case atStart => exact ⟨0, [], Nat.zero_le _, rfl, HM4, Lib.hid (fun v => rfl), Lib.hid (Off2.refl HB4.out.size)⟩
  case round =>
    obtain ⟨q, m, hq, rfl, HM, HMQ, HOF⟩ := hrel
    have HBW := Lib.hid (show Below w2.heap.size w2 wr from HB4.out.trans HOF.out.2.1)
    by_cases hlt : q < ds.length
    · have t1 : decide ((q : Int) < (ds.length : Int)) = true := decide_eq_true (by omega)
      obtain ⟨y, hy⟩ : ∃ y, y = ds[q] := ⟨_, rfl⟩
      have hyr := HDR.out _ (List.getElem_mem hlt)
      rw [← hy] at hyr
      have hno := HND.out q hlt
      rw [← hy] at hno
      obtain ⟨bD, oD, hAD, hbD, e0, e1, e2⟩ := (HFL.out wr HBW.out).2.2.2.2.at3 hlt
      rw [← hy] at e0 e1 e2
      subst hAD
      have htk : ds.take (q + 1) = ds.take q ++ [y] := by rw [hy]; simp
      obtain ⟨id, zo, co⟩ := y
      dsimp only at hyr hno e0 e1 e2
      have HTK := Lib.hid htk
      have HNO := Lib.hid (show mget m id = none from by have h1 := HMQ.out id; rw [hno] at h1; cases hg : mget m id with | none => rfl | some v => rw [hg] at h1; cases h1)
      have H54a := Lib.hid (fun W => within_val id 0 1000000 true (inB_iff.2 hyr.1).symm W)
      have H54b := Lib.hid (fun W => within_val zo 0 ((d.zones.length : Int) - 1) true (inB_iff.2 (by omega)).symm W)
      have H54c := Lib.hid (fun W => within_val co 0 5000 true (inB_iff.2 hyr.2.2).symm W)
      have p1 : IntKind.i64.wrap ((d.zones.length : Int) - 1) = (d.zones.length : Int) - 1 := by rw [IntKind.wrap_i64]; omega
      clear hy hno htk hyr
      go_upto_region 10 with fail
      obtain ⟨w6, hw6⟩ : ∃ W, W = wr.alloc (.cells #[.int .i64 id, .int .i64 zo, .int .i64 co] 87) := ⟨_, rfl⟩
      have k6 : Blk w6 wr.heap.size 87 #[.int .i64 id, .int .i64 zo, .int .i64 co] := by rw [hw6]; exact Blk.new wr 87 _
      have HB6 := Lib.hid (show Below wr.heap.size wr w6 from by rw [hw6]; exact balR (Below.refl _ _) _)
      rw [← hw6]
      have z0 := k6.cell 0
      have z1 := k6.cell 1
      have z2 := k6.cell 2
      simp at z0 z1 z2
      obtain ⟨-, -, -, -, y3⟩ := HLN.out w6 (bstep HBW.out HB6.out)
      have HM6 := Lib.hid (HM.out.below HB6.out HM.out.lt)
      clear hw6 k6 e0 e1 e2
      go_wp2_with first
        | (go_at_call 54; with_reducible refine (H54a.out _).mono ?_; rintro e wz ⟨rfl, rfl⟩)
        | (go_at_call 54; with_reducible refine (H54b.out _).mono ?_; rintro e wz ⟨rfl, rfl⟩)
        | (go_at_call 54; with_reducible refine (H54c.out _).mono ?_; rintro e wz ⟨rfl, rfl⟩)
        | (at_lookup; refine wpList_lookup rfl (.tmp 63) (.tmp 65) 180 false rfl Try.underlying180 keyI zero4 HM6.out id rfl rfl ?_; simp only [HNO.out, Option.map_none, Option.getD_none, Bool.false_eq_true, if_false])
        | (at_mapUpdate; refine wpList_update rfl (.tmp 67) (.tmp 69) (.const (.bool true)) 180 rfl Try.underlying180 keyI HM6.out id true rfl rfl rfl ?_; intro w7 hm7 hg7 hs7; have HM7 := Lib.hid hm7; have HG7 := Lib.hid hg7; clear hm7 hg7 hs7)
      go_roundw
      case rel =>
        refine ⟨q + 1, mset m id true, by omega, by go_num, HM7, Lib.hid (fun v => ?_), Lib.hid ((HOF.out.below HB6.out).grown HG7.out HGI.out.1)⟩
        rw [mget_mset, HTK.out, List.any_append, ← HMQ.out v]
        by_cases hv : v = id
        · subst hv; simp
        · rw [if_neg hv]; have hv2 : ¬ id = v := fun e => hv e.symm; simp [hv2]
      case measure => simp [intOf]; omega
    · obtain rfl : q = ds.length := by omega
      have t1 : decide ((ds.length : Int) < (ds.length : Int)) = false := by simp
      clear HM HMQ
      have hmm := @run_makeMap Try.prog
      go_upto_region 18 with fail
      clear hmm
      obtain ⟨w5, hw5⟩ : ∃ W, W = wr.alloc (.map #[] 0) := ⟨_, rfl⟩
      obtain ⟨gO, hgO⟩ : ∃ g, g = wr.heap.size := ⟨_, rfl⟩
      obtain ⟨base, hba⟩ : ∃ b, b = w5.heap.size := ⟨_, rfl⟩
      have HOF0 := Lib.hid (show OfM w5 gO base (.slice none 0 0) [] (l.take 0) (l.take 0) from by
        refine ⟨by rw [hw5, hgO]; exact MapIs.new wr ekI vId, World.ownsRow_nil _ _ _ _, fun z => World.ownsRow_nil _ _ _ _, (fun z b h => by simp [Value.ownBlock] at h), (fun z z' _ b h => by simp [getv, mget, Value.ownBlock] at h), by rw [hba]; exact Nat.le_refl _, by rw [hba, hw5, hgO]; simp⟩)
      have HB5 := Lib.hid (show Below w2.heap.size w2 w5 from by rw [hw5]; exact HBW.out.alloc HBW.out.size _)
      have HGO := Lib.hid (show w2.heap.size ≤ gO ∧ gO < base ∧ base = w5.heap.size from by rw [hgO, hba, hw5]; exact ⟨HBW.out.size, by simp, rfl⟩)
      rw [← hw5, ← hgO]
      have HLL := Lib.hid (show l.length = rows.length from by rw [HL.out, List.length_map])
      have y0 := (HFL.out w5 HB5.out).1.cell 0
      simp at y0
      clear hw5 hgO hba HOF HBW
      go_upto_region 19 with fail
      go_loopw [14, 75] (fun u14 u wy => ∃ (q : Nat) (vN : Value) (m : List (Int × Value)), q ≤ rows.length ∧ vN = u14 ∧ u = .int .i64 (q : Int) ∧ Hid (OfM wy gO base vN m (l.take q) (l.take q)) ∧ Hid (Off2 w2.heap.size gO gO w5 wy)) (fun _ i _ => rows.length + 1 - (intOf i).toNat)
      case atStart => exact ⟨0, _, [], Nat.zero_le _, rfl, rfl, HOF0, Lib.hid (Off2.refl HB5.out.size)⟩
      case round =>
        obtain ⟨q, vN, m, hq, rfl, rfl, HOFm, HO2⟩ := hrel
        have HBY := Lib.hid (show Below w2.heap.size w2 wr from HB5.out.trans HO2.out.2.1)
        by_cases hlt : q < rows.length
        · have t2 : decide ((q : Int) < (rows.length : Int)) = true := decide_eq_true (by omega)
          obtain ⟨r, hr⟩ : ∃ r, r = rows[q] := ⟨_, rfl⟩
          obtain ⟨bC, oC, hAC, hbC, e0, e1, e2, e3⟩ := sl_at4 (HFL.out wr HBY.out).2.2.1 hlt
          rw [← hr] at e0 e1 e2 e3
          subst hAC
          have hlq : q < l.length := by have := HLL.out; omega
          have hlr : l[q] = (r.num, r.zone) := by rw [hr]; simp [HL.out]
          have htk : l.take (q + 1) = l.take q ++ [(r.num, r.zone)] := by rw [← hlr]; simp
          obtain ⟨rn, rz, rA, rC, rps, rrt⟩ := r
          dsimp only at e0 e1 e2 e3 htk
          obtain ⟨lq, hlqd⟩ : ∃ x, x = l.take q := ⟨_, rfl⟩
          have hlql : lq.length = q := by rw [hlqd, List.length_take]; have := HLL.out; omega
          have hzl : (nzZ lq rz).length ≤ 1000000 := by unfold nzZ; rw [List.length_map]; exact Nat.le_trans (List.length_filter_le _ _) (by omega)
          rw [← hlqd] at HOFm htk
          have HTK := Lib.hid htk
          have HLQ := Lib.hid hlql
          clear hr hlr htk hlqd hlql
          go_upto_region 21 with fail
          obtain ⟨w6, hw6⟩ : ∃ W, W = wr.alloc (.cells #[.int .i64 rn, .int .i64 rz, .slice rA rps.length rC, .bool rrt] 44) := ⟨_, rfl⟩
          obtain ⟨g17, hg17⟩ : ∃ g, g = wr.heap.size := ⟨_, rfl⟩
          have k6 : Blk w6 g17 44 #[.int .i64 rn, .int .i64 rz, .slice rA rps.length rC, .bool rrt] := by rw [hw6, hg17]; exact Blk.new wr 44 _
          have HB6 := Lib.hid (show Below wr.heap.size wr w6 from by rw [hw6]; exact balR (Below.refl _ _) _)
          rw [← hw6, ← hg17]
          have z0 := k6.cell 0
          simp at z0
          have HK6 := Lib.hid k6
          have HM6 := Lib.hid (HOFm.out.below HB6.out)
          have hbA6 := balR (Below.refl w6.heap.size w6) (.cells #[.int .i64 rn] 3)
          have HA6a := Lib.hid (HM6.out.below hbA6)
          have HK6a := Lib.hid (HK6.out.alloc (.cells #[.int .i64 rn] 3))
          clear hw6 hg17 k6 e0 e1 e2 e3 hbA6
          go_upto_region 22 with (at_builtin; refine wpList_append_lies _ rfl (.tmp 79) (.tmp 82) 22 rfl base 3 iT _ 1 8 Try.underlying22 HI.out hz0 hz1 hz2 rfl (by decide) vN lq.length ((lq.map (·.1)).map (Value.int .i64)) rfl HA6a.out.rN ⟨w6.heap.size, 0, none⟩ 1 1 [.int .i64 rn] rfl rfl (news_of1 w6 3 #[.int .i64 rn]) (by intro u hu; simp at hu; subst hu; rfl) (by decide) (by simp only [maxLen]; have := HLQ.out; omega) (by have := HLQ.out; omega) HA6a.out.hb (w6.heap.size + 1) (by simp) ?_; intro g8 c8 wq hown8 hg8 hat8 hlt8; have H8 := Lib.hid hown8; have HG8 := Lib.hid hg8; have HAT8 := Lib.hid hat8; clear hown8 hg8 hat8 hlt8)
          have HA6 := Lib.hid (HM6.out.stepN (x := (rn, rz)) (balR (Below.refl _ _) (.cells #[.int .i64 rn] 3)) HG8.out (by rw [List.length_append, List.map_append, List.map_append]; exact H8.out) (at_next HAT8.out rfl))
          have HK8 := Lib.hid (kt_grown HA6a.out.rN HK6a.out (by decide) HG8.out)
          have HO8 := Lib.hid (show Off2 w2.heap.size gO gO w5 wq from by
            have h1 := HGO.out
            exact ((HO2.out.below HB6.out).below (balR (Below.refl _ _) _)).own HA6a.out.rN HG8.out (by omega) (by omega))
          have hbA8 := balR (Below.refl wq.heap.size wq) (.cells #[.int .i64 rn] 3)
          have HA8 := Lib.hid (HA6.out.below hbA8)
          have HK8a := Lib.hid (HK8.out.alloc (.cells #[.int .i64 rn] 3))
          have HCA := Lib.hid (show wq.cell? ⟨g17, 0, none⟩ = some (.int .i64 rn) ∧ wq.cell? ⟨g17, 1, none⟩ = some (.int .i64 rz) from by
            have z0 := HK8.out.cell 0
            have z1 := HK8.out.cell 1
            simp at z0 z1
            exact ⟨z0, z1⟩)
          have HCB := Lib.hid (show (wq.alloc (.cells #[.int .i64 rn] 3)).cell? ⟨g17, 0, none⟩ = some (.int .i64 rn) ∧ (wq.alloc (.cells #[.int .i64 rn] 3)).cell? ⟨g17, 1, none⟩ = some (.int .i64 rz) from by
            have z0 := HK8a.out.cell 0
            have z1 := HK8a.out.cell 1
            simp at z0 z1
            exact ⟨z0, z1⟩)
          have HC9 := Lib.hid (show ∀ W, (wq.alloc (.cells #[.int .i64 rn] 3)).grownBy W (getv m rz).ownBlock → W.cell? ⟨g17, 0, none⟩ = some (.int .i64 rn) ∧ W.cell? ⟨g17, 1, none⟩ = some (.int .i64 rz) from fun W hW => by
            have k := kt_grown (HA8.out.rZ rz) HK8a.out (by decide) hW
            have z0 := k.cell 0
            have z1 := k.cell 1
            simp at z0 z1
            exact ⟨z0, z1⟩)
          clear hbA8
          refine wp_region_noPanic ?_
          refine wp_region_T (S := (fun W => (W.cell? ⟨g17, 0, none⟩ = some (.int .i64 rn) ∧ W.cell? ⟨g17, 1, none⟩ = some (.int .i64 rz)) ∧ MapIs ekI vId W gO m)) (T := (fun _ => True)) 11 (by kernel_rfl) ?_ (fun hHeld hHeldT => ?_)
          · (try dsimp only); (exact ⟨⟨HCA.out, HA6.out.mp⟩, trivial⟩)
          refine wpAnyT_takeW (i := 0) (v := ?_) (some 84) rfl rfl (by kernel_rfl) (by kernel_rfl) (by kernel_rfl) (by kernel_rfl) (fun _ _ _ h => h) (Or.inl ⟨by rfl, ?_⟩) (by assumption) (by assumption) ?_
          rotate_left
          · intro w hSw; (try dsimp only at hSw); go_simp; (try with_reducible rfl)
          try simp only [Act.put, List.setIfInBounds_toArray, List.set_cons_zero, List.set_cons_succ]
          refine wpAnyT_takeW (i := 1) (v := ?_) (some 85) rfl rfl (by kernel_rfl) (by kernel_rfl) (by kernel_rfl) (by kernel_rfl) (fun _ _ _ h => h) (Or.inl ⟨by rfl, ?_⟩) (by assumption) (by assumption) ?_
          rotate_left
          · intro w hSw; (try dsimp only at hSw); go_simp; (try with_reducible rfl)
          try simp only [Act.put, List.setIfInBounds_toArray, List.set_cons_zero, List.set_cons_succ]
          refine wpAnyT_takeD (i := 2) (v := ?_) (some 86) rfl rfl (by kernel_rfl) (by kernel_rfl) (by kernel_rfl) (by kernel_rfl) (fun _ _ _ h => h) (Or.inl ⟨by rfl, ?_⟩) (by assumption) (by assumption) ?_
          rotate_left
          · intro w hSw; (try dsimp only at hSw); go_simp; (try with_reducible rfl)
          try simp only [Act.put, List.setIfInBounds_toArray, List.set_cons_zero, List.set_cons_succ]
          refine wpAnyT_takeW (i := 3) (v := ?_) (some 87) rfl rfl (by kernel_rfl) (by kernel_rfl) (by kernel_rfl) (by kernel_rfl) (fun _ _ _ h => h) (Or.inl ⟨by rfl, ?_⟩) (by assumption) (by assumption) ?_
          rotate_left
          · intro w hSw; (try dsimp only at hSw); go_simp; (try with_reducible rfl)
          try simp only [Act.put, List.setIfInBounds_toArray, List.set_cons_zero, List.set_cons_succ]
          refine wpAnyT_takeW (i := 4) (v := ?_) (some 88) rfl rfl (by kernel_rfl) (by kernel_rfl) (by kernel_rfl) (by kernel_rfl) (fun _ _ _ h => h) (Or.inl ⟨by rfl, ?_⟩) (by assumption) (by assumption) ?_
          rotate_left
          · intro w hSw; (try dsimp only at hSw); go_simp; (try with_reducible rfl)
          try simp only [Act.put, List.setIfInBounds_toArray, List.set_cons_zero, List.set_cons_succ]
          refine wpAnyT_takeD (i := 5) (v := ?_) (some 89) rfl rfl (by kernel_rfl) (by kernel_rfl) (by kernel_rfl) (by kernel_rfl) (fun _ _ _ h => h) (Or.inl ⟨by rfl, ?_⟩) (by assumption) (by assumption) ?_
          rotate_left
          · intro w hSw; (try dsimp only at hSw); go_simp; (try with_reducible rfl)
          try simp only [Act.put, List.setIfInBounds_toArray, List.set_cons_zero, List.set_cons_succ]
          refine wpAnyT_takeD (i := 6) (v := getv m rz) (some 90) rfl rfl (by kernel_rfl) (by kernel_rfl) (by kernel_rfl) (by kernel_rfl) (fun _ _ _ h => h) (Or.inl ⟨by rfl, ?_⟩) (by assumption) (by assumption) ?_
          · intro w hSw; (try dsimp only at hSw); (obtain ⟨hs1, hs2⟩ := hSw; have hq := hs2.lookup Try.underlying181 keyI zero22 rz false; simp [execOp, Act.eval, go_sem, ekI, getv_eq] at hq ⊢; exact (congrArg (fun r => r.andThen fun a w => Result.ok (Next.value a) w) hq).trans rfl); (try with_reducible rfl)
          try simp only [Act.put, List.setIfInBounds_toArray, List.set_cons_zero, List.set_cons_succ]
          refine wpAnyT_takeW (i := 7) (v := ?_) (some 91) rfl rfl (by kernel_rfl) (by kernel_rfl) (by kernel_rfl) (by kernel_rfl) (fun _ _ _ h => h) (Or.inl ⟨by rfl, ?_⟩) (by assumption) (by assumption) ?_
          rotate_left
          · intro w hSw; (try dsimp only at hSw); go_simp; (try with_reducible rfl)
          try simp only [Act.put, List.setIfInBounds_toArray, List.set_cons_zero, List.set_cons_succ]
          refine wpAnyT_takeD (i := 8) (v := ?_) (some 92) rfl rfl (by kernel_rfl) (by kernel_rfl) (by kernel_rfl) (by kernel_rfl) (fun _ _ _ h => h) (Or.inl ⟨by rfl, ?_⟩) (by assumption) (by assumption) ?_
          rotate_left
          · intro w hSw; (try dsimp only at hSw); go_simp; (try with_reducible rfl)
          try simp only [Act.put, List.setIfInBounds_toArray, List.set_cons_zero, List.set_cons_succ]
          refine wpAnyT_ready (rs := [9]) (by kernel_rfl) (by simp) ?_
          refine AllReadyT.cons rfl (fun K hK => ?_) AllReadyT.nil
          go_simp
          refine hK.out _ _ ?_ (fun hHeld hHeldT => ?_)
          · (try dsimp only); (exact ⟨⟨HCB.out, HA8.out.mp⟩, trivial⟩)
          clear hK K
          try simp only [List.getElem_toArray, List.getElem_cons_succ, List.getElem_cons_zero]
          try simp only [Act.put, List.setIfInBounds_toArray, List.set_cons_zero, List.set_cons_succ]
          refine wpAnyT_ready (rs := [10]) (by kernel_rfl) (by simp) ?_
          refine AllReadyT.cons rfl (fun K hK => ?_) AllReadyT.nil
          (refine step_append_lies _ rfl (.tmp 90) (.tmp 93) 22 rfl base 3 iT _ 1 8 Try.underlying22 HI.out hz0 hz1 hz2 rfl (by decide) (getv m rz) (nzZ lq rz).length ((nzZ lq rz).map (Value.int .i64)) (by rfl) ((HA8.out.rZ rz)) ⟨wq.heap.size, 0, none⟩ 1 1 [.int .i64 rn] (by rfl) rfl (news_of1 wq 3 #[.int .i64 rn]) (by intro u hu; simp at hu; subst hu; rfl) (by decide) (by simp only [maxLen]; omega) (by omega) (HA8.out.hb) (wq.heap.size + 1) (by simp) ?_; intro g9 c9 w9 hown9 hg9d hat9 hlt9; have hg9 := gr_trans (gr_drew (gr_refl (wq.alloc (.cells #[.int .i64 rn] 3)) (getv m rz).ownBlock)) hg9d; clear hg9d; have HM9 := Lib.hid (HA8.out.mp.same (hg9.block _ HA8.out.mp.lt (fun e => by have h1 := own_at2 (HA8.out.rZ rz) e.symm; have h2 := HA8.out.hg; omega))); have HB9 := Lib.hid (show (w9.cell? ⟨g17, 0, none⟩ = some (.int .i64 rn) ∧ w9.cell? ⟨g17, 1, none⟩ = some (.int .i64 rz)) from HC9.out w9 hg9); have H9 := Lib.hid hown9; have HG9 := Lib.hid hg9; have HAT9 := Lib.hid hat9; clear hown9 hg9 hat9 hlt9)
          refine hK.out _ _ ?_ (fun hHeld hHeldT => ?_)
          · (try dsimp only); (exact ⟨⟨HB9.out, HM9.out⟩, trivial⟩)
          clear hK K
          try simp only [List.getElem_toArray, List.getElem_cons_succ, List.getElem_cons_zero]
          try simp only [Act.put, List.setIfInBounds_toArray, List.set_cons_zero, List.set_cons_succ]
          refine wpAnyT_ready (rs := [11]) (by kernel_rfl) (by simp) ?_
          refine AllReadyT.past rfl (by kernel_rfl) (fun K hK => ?_)
          (refine step_updI rfl (.tmp 84) (.tmp 86) (.tmp 94) 181 rfl Try.underlying181 keyI HM9.out rz (.slice (some ⟨g9, 0, none⟩) ((nzZ lq rz).length + 1) c9) rfl rfl rfl ?_; intro w10 hm10 hg10 hs10; have HM10 := Lib.hid hm10; have HG10 := Lib.hid hg10; clear hm10 hg10 hs10)
          refine hK.out _ _ ?_ ?_
          · (try dsimp only); (try exact trivial)
          clear hK K
          try simp only [List.getElem_toArray, List.getElem_cons_succ, List.getElem_cons_zero]
          try simp only [Act.put, List.setIfInBounds_toArray, List.set_cons_zero, List.set_cons_succ]
          refine wpAnyT_done (by kernel_rfl) ?_ _
          refine NoPanic.normal ?_
          have HZ10 := Lib.hid (show OfM w10 gO base (.slice (some ⟨g8, 0, none⟩) (lq.length + 1) c8) (mset m rz (.slice (some ⟨g9, 0, none⟩) ((nzZ lq rz).length + 1) c9)) (lq ++ [(rn, rz)]) (lq ++ [(rn, rz)]) from
            HA6.out.stepZ (x := (rn, rz)) (balR (Below.refl _ _) (.cells #[.int .i64 rn] 3)) HG9.out H9.out (at_next HAT9.out rfl) HM10.out HG10.out)
          have HO10 := Lib.hid (show Off2 w2.heap.size gO gO w5 w10 from by
            have h1 := HGO.out
            exact ((HO8.out.below (balR (Below.refl _ _) _)).own (HA8.out.rZ rz) HG9.out (by omega) (by omega)).grown HG10.out h1.1)
          go_wp2
          go_roundw
          case rel => exact ⟨q + 1, _, _, by omega, rfl, by go_num, Lib.hid (by rw [HTK.out]; exact HZ10.out), HO10⟩
          case measure => simp [intOf]; omega
        · obtain rfl : q = rows.length := by omega
          have t2 : decide ((rows.length : Int) < (rows.length : Int)) = false := by simp
          have hlt0 : l.take rows.length = l := by rw [← HLL.out]; exact List.take_length
          rw [hlt0] at HOFm
          obtain ⟨AN, cN, hvN⟩ := own_shape HOFm.out.rN
          subst hvN
          have hmr : l.map (·.1) = rows.map CpR.num := by rw [HL.out, List.map_map]; rfl
          have H84 := Lib.hid (fun W => wrong_any size least false HWG.out.symm W)
          have H85 := Lib.hid (fun (W : World) (hW : Below wr.heap.size wr W) => rising_any AN cN l.length (l.map (·.1)) 9223372036854775807 W (by rw [List.length_map]) (by have := HLL.out; omega) (by have h := own_belowV HOFm.out.rN hW; have e : (l.map (·.1)).length = l.length := List.length_map _; rw [← e] at h; exact own_sl h) true (by rw [hmr]; exact HRI.out.symm))
          have H86 := Lib.hid (fun (W : World) (hW : Below w2.heap.size w2 W) => climbing_any A3 c3 dl.length dl W rfl (by omega) ((HFL.out W hW).2.2.2.1.mono (by have := (HB2.out.trans (hW.mono HB2.out.size)).size; exact this)) true HCL.out.symm)
          obtain ⟨-, k7, -⟩ := HFL.out wr HBY.out
          have x0 := k7.cell 0
          have x1 := k7.cell 1
          simp at x0 x1
          clear k7 hmr hlt0
          go_upto_region 26 with first
            | (go_at_call 84; with_reducible refine (H84.out _).mono ?_; rintro e w6 ⟨rfl, HB6⟩)
            | (go_at_call 85; with_reducible refine (H85.out _ HB6.out).mono ?_; rintro e w7 ⟨rfl, HB7⟩; have HBT := Lib.hid (bstep HBY.out (bstep HB6.out HB7.out)); have x2 := (HFL.out w7 HBT.out).1.cell 3; simp at x2)
            | (go_at_call 86; with_reducible refine (H86.out _ HBT.out).mono ?_; rintro e w8 ⟨rfl, HB8⟩)
          have HB8W := Lib.hid (show Below wr.heap.size wr w8 from bstep (bstep HB6.out HB7.out) HB8.out)
          have hmm := @run_makeMap Try.prog
          go_upto_region 27 with fail
          clear hmm
          obtain ⟨w9, hw9⟩ : ∃ W, W = (w8.alloc (.map #[] 0)).alloc (.cells #[.map (some w8.heap.size)] 180) := ⟨_, rfl⟩
          obtain ⟨gD, hgD⟩ : ∃ g, g = w8.heap.size := ⟨_, rfl⟩
          have hb9 : Below w8.heap.size w8 w9 := by rw [hw9]; exact balR (balR (Below.refl _ _) _) _
          have HB9 := Lib.hid (show Below wr.heap.size wr w9 from bstep HB8W.out hb9)
          have HBZ := Lib.hid (show Below w2.heap.size w2 w9 from bstep HBY.out HB9.out)
          have HM9 := Lib.hid (show MapIs ekI bV w9 gD [] from by rw [hw9, hgD]; exact (MapIs.new w8 ekI bV).alloc _)
          have HK9 := Lib.hid (show Blk w9 (gD + 1) 180 #[.map (some gD)] from by rw [hw9, hgD]; exact blkAt (by simp) 180 _)
          have HO9 := Lib.hid (HOFm.out.below HB9.out)
          have HGD := Lib.hid (show w2.heap.size ≤ gD ∧ gO < gD ∧ gD + 2 = w9.heap.size from by
            have h1 := HGO.out
            have h2 := HB8W.out.size
            have h3 := HBY.out.size
            have h4 := HOFm.out.mp.lt
            rw [hgD, hw9]
            exact ⟨by omega, by omega, by simp⟩)
          rw [← hw9, ← hgD]
          have x3 := (HFL.out w9 HBZ.out).1.cell 3
          simp at x3
          clear hw9 hgD hb9 x0 x1 HB9 HOFm HO2
          go_upto_region 28 with fail
          go_loopw [113] (fun u wy => ∃ (q : Nat) (m : List (Int × Bool)), q ≤ dl.length ∧ u = .int .i64 (q : Int) ∧ Hid (MapIs ekI bV wy gD m) ∧ Hid (∀ v, mget m v = if v ∈ dl.take q then some true else none) ∧ Hid (Off2 w2.heap.size gD gD w9 wy)) (fun i _ => dl.length + 1 - (intOf i).toNat)
          case atStart => exact ⟨0, [], Nat.zero_le _, rfl, HM9, Lib.hid (fun v => by simp [mget]), Lib.hid (Off2.refl HBZ.out.size)⟩
          case round =>
            obtain ⟨q, mD, hq, rfl, HMD, HMQ, HO3⟩ := hrel
            have HBV := Lib.hid (show Below w2.heap.size w2 wr from HBZ.out.trans HO3.out.2.1)
            by_cases hlt : q < dl.length
            · have t3 : decide ((q : Int) < (dl.length : Int)) = true := decide_eq_true (by omega)
              obtain ⟨k, hk⟩ : ∃ k, k = dl[q] := ⟨_, rfl⟩
              obtain ⟨b3, o3, hA3, hb3, e0⟩ := (HFL.out wr HBV.out).2.2.2.1.at1 hlt
              rw [← hk] at e0
              have HTK := Lib.hid (show dl.take (q + 1) = dl.take q ++ [k] from by rw [hk]; simp)
              have e1 := (HO3.out.blk HK9.out (by omega) (by omega)).cell 0
              simp at e1
              clear hk
              subst hA3
              go_wp2_with (at_mapUpdate; refine wpList_update rfl (.tmp 117) (.tmp 118) (.const (.bool true)) 180 rfl Try.underlying180 keyI HMD.out k true rfl rfl rfl ?_; intro w7 hm7 hg7 hs7; have HM7 := Lib.hid hm7; have HG7 := Lib.hid hg7; clear hm7 hg7 hs7)
              go_roundw
              case rel =>
                refine ⟨q + 1, mset mD k true, by omega, by go_num, HM7, Lib.hid (fun v => ?_), Lib.hid (HO3.out.grown HG7.out HGD.out.1)⟩
                rw [mget_mset, HTK.out, HMQ.out v]
                by_cases hv : v = k
                · subst hv; simp
                · simp [hv]
              case measure => simp [intOf]; omega
            · obtain rfl : q = dl.length := by omega
              have t3 : decide ((dl.length : Int) < (dl.length : Int)) = false := by simp
              rw [List.take_length] at HMQ
              obtain ⟨wd, hwd⟩ : ∃ W, W = wr := ⟨_, rfl⟩
              subst hwd
              have HOD := Lib.hid (HO9.out.off HO3.out (by have := HGD.out; omega) HM9.out)
              have HSD := Lib.hid (SfM.of HOD.out)
              have HKD := Lib.hid (HO3.out.blk HK9.out (by omega) (by omega))
              obtain ⟨b2, hb2⟩ : ∃ b, b = wd.heap.size := ⟨_, rfl⟩
              have HB2Z := Lib.hid (show b2 = wd.heap.size ∧ w2.heap.size ≤ b2 ∧ gO < b2 ∧ gD + 2 ≤ b2 from ⟨hb2, by rw [hb2]; exact HBV.out.size, by rw [hb2]; exact HOD.out.mp.lt, by rw [hb2]; have := HGD.out; have := HO3.out.size; omega⟩)
              have hNb : ∀ r ∈ rows, 0 ≤ r.num ∧ r.num ≤ 9223372036854775807 := fun r hr => by
                have h1 := HRI.out
                unfold risB at h1
                obtain ⟨i, hi, he⟩ := List.getElem_of_mem (List.mem_map_of_mem (f := CpR.num) hr)
                have h2 := List.all_eq_true.1 h1 i (List.mem_range.2 hi)
                rw [Bool.and_eq_true] at h2
                have h3 := inB_iff.1 h2.1
                rw [List.getD_eq_getElem?_getD, List.getElem?_eq_getElem hi, Option.getD_some, he] at h3
                exact h3
              have HNB := Lib.hid (show ∀ z, ∀ k ∈ nzZ l z, 0 ≤ k ∧ k ≤ 9223372036854775807 from fun z k hk => by
                unfold nzZ at hk
                obtain ⟨p, hp, rfl⟩ := List.mem_map.1 hk
                have hp2 := (List.mem_filter.1 hp).1
                rw [HL.out] at hp2
                obtain ⟨r, hr, rfl⟩ := List.mem_map.1 hp2
                exact hNb r hr)
              have HCLO := Lib.hid (show ∀ W, Off2 w2.heap.size gO gO wd W → ∀ k, 0 ≤ k ∧ k ≤ 9223372036854775807 → Calls Try.prog 88 #[.int .i64 k, .pointer (some ⟨gD + 1, 0, none⟩), .pointer (some ⟨g1, 0, none⟩)] W fun e w' => e = .returned (.bool (decide (k.tdiv (bt : Int) ∈ dl))) ∧ Hid (Below W.heap.size W w') from fun W hW k hk => by
                have hgd := HGD.out
                have z := (hW.blk HKD.out (by omega) (by omega)).cell 0
                simp at z
                refine clo88 k bt (gD + 1) g1 gD mD W z (HLN.out W (HBV.out.trans hW.2.1)).2.2.2.1 (HMD.out.same (hW.2.2 gD HMD.out.lt (by omega) (by omega))) hbb hk _ ?_
                rw [HMQ.out]
                by_cases h : k.tdiv (bt : Int) ∈ dl
                · rw [if_pos h]; simp [h]
                · rw [if_neg h]; simp [h])
              have HBU0 := Lib.hid (show BuM wd b2 [] (.slice none 0 0) from ⟨World.ownsRow_nil _ _ _ _, fun r hr => by cases hr⟩)
              have HUSE := Lib.hid hbb
              clear hb2 hNb HMQ HO9 HM9 HK9 HO3 x3 y0
              go_upto_region 34 with fail
              go_loopw [21, 122] (fun u21 u wy => ∃ (q : Nat) (vB : Value) (m : List (Int × Value)) (bs : List BdR), q ≤ ds.length ∧ vB = u21 ∧ u = .int .i64 (q : Int) ∧ Hid (SfM wd wy gO m (remZ l (ds.take q))) ∧ Hid (BuM wy b2 bs vB) ∧ Hid (bs.map BdR.bare = bunS bt dl size least l ds q ∧ bs.length ≤ 5003 * q) ∧ Hid (Off2 w2.heap.size gO gO wd wy)) (fun _ i _ => ds.length + 1 - (intOf i).toNat)
              case atStart => exact ⟨0, _, m, [], Nat.zero_le _, rfl, rfl, HSD, HBU0, Lib.hid ⟨rfl, Nat.zero_le _⟩, Lib.hid (Off2.refl HBV.out.size)⟩
              case round =>
                obtain ⟨q, vB, mz, bs, hq, rfl, rfl, HSF, HBU, HBB, HOD2⟩ := hrel
                have HBR := Lib.hid (show Below w2.heap.size w2 wr from HBV.out.trans HOD2.out.2.1)
                by_cases hlt : q < ds.length
                · have t4 : decide ((q : Int) < (ds.length : Int)) = true := decide_eq_true (by omega)
                  obtain ⟨y, hy⟩ : ∃ y, y = ds[q] := ⟨_, rfl⟩
                  have hyr := HDR.out _ (List.getElem_mem hlt)
                  rw [← hy] at hyr
                  have hen := HEN.out q hlt
                  rw [← hy] at hen
                  obtain ⟨bD, oD, hAD, hbD, e0, e1, e2⟩ := (HFL.out wr HBR.out).2.2.2.2.at3 hlt
                  rw [← hy] at e0 e1 e2
                  have htk : ds.take (q + 1) = ds.take q ++ [y] := by rw [hy]; simp
                  have hgd : ds.getD q (0, 0, 0) = y := by rw [List.getD_eq_getElem?_getD, List.getElem?_eq_getElem hlt, hy]; rfl
                  subst hAD
                  obtain ⟨id, zo, co⟩ := y
                  dsimp only at hyr hen e0 e1 e2
                  obtain ⟨rem, hrem⟩ : ∃ r, r = remZ l (ds.take q) := ⟨_, rfl⟩
                  rw [← hrem] at hen HSF
                  obtain ⟨L, hL⟩ : ∃ L, L = szS size least co := ⟨_, rfl⟩
                  have hLall := szS_all HWG.out hyr.2.2.1
                  rw [← hL] at hLall
                  have hLlen : L.length ≤ 5002 := by
                    rw [hL]
                    refine szS_len size least co ?_ hyr.2.2.1 hyr.2.2.2
                    have hw := HWG.out
                    unfold wrgB at hw
                    rw [Bool.or_eq_false_iff] at hw
                    exact (inB_iff.1 (by simpa using hw.1)).1
                  have HTK := Lib.hid (show remZ l (ds.take (q + 1)) = fun z => if z = zo then (rem zo).drop co.toNat else rem z from by rw [htk, remZ_succ, ← hrem])
                  have HBS := Lib.hid (show bunS bt dl size least l ds (q + 1) = bunS bt dl size least l ds q ++ bunI bt dl L (rem zo) id L.length from by rw [bunS_succ]; unfold bunJ; rw [hgd, ← hrem]; dsimp only; rw [← hL])
                  obtain ⟨AZ, cZ, hvz, hcz, -, -⟩ := HSF.out.sf zo
                  have HVZ := Lib.hid hvz
                  obtain ⟨nr, hnr⟩ : ∃ n, n = (rem zo).length := ⟨_, rfl⟩
                  rw [← hnr] at HVZ hen
                  have t5 : decide ((nr : Int) < co) = false := decide_eq_false (by omega)
                  have H87 := Lib.hid (fun W => sizes_own size least co W HWG.out hyr.2.2.1 hyr.2.2.2 L hL)
                  have HRM := Lib.hid (show ∀ z, ∀ k ∈ rem z, 0 ≤ k ∧ k ≤ 9223372036854775807 from fun z k hk => by rw [hrem] at hk; exact HNB.out z k (List.mem_of_mem_drop hk))
                  have HNR := Lib.hid hnr
                  have HLA := Lib.hid hLall
                  have HEQ := Lib.hid hen
                  have HCO := Lib.hid (show co.toNat ≤ 5000 by omega)
                  clear hy hyr htk hgd hrem hL hLall hvz hcz hnr
                  go_upto_region 36 with fail
                  obtain ⟨w6, hw6⟩ : ∃ W, W = wr.alloc (.cells #[.int .i64 id, .int .i64 zo, .int .i64 co] 87) := ⟨_, rfl⟩
                  obtain ⟨g23, hg23⟩ : ∃ g, g = wr.heap.size := ⟨_, rfl⟩
                  have k6 : Blk w6 g23 87 #[.int .i64 id, .int .i64 zo, .int .i64 co] := by rw [hw6, hg23]; exact Blk.new wr 87 _
                  have HB6 := Lib.hid (show Below wr.heap.size wr w6 from by rw [hw6]; exact balR (Below.refl _ _) _)
                  rw [← hw6, ← hg23]
                  have z1 := k6.cell 1
                  have z2 := k6.cell 2
                  simp at z1 z2
                  have HK6 := Lib.hid k6
                  have HS6 := Lib.hid (HSF.out.keep HB6.out)
                  have HG23 := Lib.hid (show b2 ≤ g23 from by rw [hg23, HB2Z.out.1]; exact HOD2.out.size)
                  obtain ⟨-, k7, -⟩ := HFL.out w6 (bstep HBR.out HB6.out)
                  have x0 := k7.cell 0
                  have x1 := k7.cell 1
                  simp at x0 x1
                  clear hw6 hg23 k6 e0 e1 e2 k7
                  go_upto_region 40 with first
                    | (at_lookup; refine wpList_lookup rfl (.tmp 126) (.tmp 128) 181 false rfl Try.underlying181 keyI zero22 HS6.out.mp zo rfl rfl ?_; simp only [Bool.false_eq_true, if_false, getv_eq, HVZ.out])
                    | (go_at_call 87; refine (H87.out _).mono ?_; rintro e w7 ⟨AL, cL, rfl, HLO, HB7⟩)
                  have HB7W := Lib.hid (show Below wr.heap.size wr w7 from bstep HB6.out HB7.out)
                  have HB7b := Lib.hid (show b2 ≤ w6.heap.size from Nat.le_trans (Nat.le_trans (Nat.le_of_eq HB2Z.out.1) HOD2.out.size) HB6.out.size)
                  have HG7 := Lib.hid (show w6.heap.size ≤ w7.heap.size from HB7.out.size)
                  have HS7 := Lib.hid (show SfM wd w7 gO mz (fun z => if z = zo then (rem zo).drop (offZ L 0) else rem z) from by
                    have e : (fun z => if z = zo then (rem zo).drop (offZ L 0) else rem z) = rem := by
                      funext z
                      by_cases h : z = zo
                      · subst h; simp [offZ]
                      · simp [h]
                    rw [e]
                    exact HS6.out.keep HB7.out)
                  go_loopw [21, 140] (fun u21 u wz => ∃ (i : Nat) (vB2 : Value) (m2 : List (Int × Value)) (bs2 : List BdR), i ≤ L.length ∧ vB2 = u21 ∧ u = .int .i64 (i : Int) ∧ Hid (SfM wd wz gO m2 (fun z => if z = zo then (rem zo).drop (offZ L i) else rem z)) ∧ Hid (BuM wz b2 bs2 vB2) ∧
                    Hid (bs2.map BdR.bare = bunS bt dl size least l ds q ++ bunI bt dl L (rem zo) id i ∧ bs2.length ≤ 5003 * q + i) ∧ Hid (Off2 w2.heap.size gO gO wd wz) ∧ Hid (Blk wz g23 87 #[.int .i64 id, .int .i64 zo, .int .i64 co] ∧ wz.ownsRow w6.heap.size 3 1 (.slice AL L.length cL) L.length (L.map (Value.int .i64)))) (fun _ j _ => L.length + 1 - (intOf j).toNat)
                  case atStart => exact ⟨0, _, mz, bs, Nat.zero_le _, rfl, rfl, HS7, Lib.hid (HBU.out.below HB7W.out), Lib.hid ⟨by rw [HBB.out.1]; simp [bunI], by have := HBB.out.2; omega⟩, Lib.hid (HOD2.out.below HB7W.out), Lib.hid ⟨HK6.out.below HB7.out HK6.out.lt, HLO.out⟩⟩
                  case round =>
                    obtain ⟨i, vB2, m2, bs2, hi, rfl, rfl, HSI, HBI, HBBI, HOI, HKI⟩ := hrel
                    by_cases hlti : i < L.length
                    · have t6 : decide ((i : Int) < (L.length : Int)) = true := decide_eq_true (by omega)
                      obtain ⟨nn, hnn⟩ : ∃ n : Nat, L[i] = (n : Int) := ⟨L[i].toNat, by have := HLA.out.1 _ (List.getElem_mem hlti); omega⟩
                      have hn1 : 1 ≤ nn := by have := HLA.out.1 _ (List.getElem_mem hlti); omega
                      have hgn : L.getD i 0 = (nn : Int) := by rw [List.getD_eq_getElem?_getD, List.getElem?_eq_getElem hlti, hnn]; rfl
                      obtain ⟨oi, hoi⟩ : ∃ o, o = offZ L i := ⟨_, rfl⟩
                      have hos : offZ L (i + 1) = oi + nn := by rw [offZ_succ L hlti, ← hoi, hgn]; simp
                      have hole : oi + nn ≤ nr := by
                        have h1 := offZ_le L (i + 1)
                        rw [hos, HLA.out.2] at h1
                        have := HEQ.out
                        omega
                      have hn5 : nn ≤ 5000 := by
                        have h1 := offZ_le L (i + 1)
                        rw [hos, HLA.out.2] at h1
                        have := HCO.out
                        omega
                      obtain ⟨cl, hcl⟩ : ∃ c, c = (rem zo).drop oi := ⟨_, rfl⟩
                      obtain ⟨ncl, hncl⟩ : ∃ n, n = cl.length := ⟨_, rfl⟩
                      have hnc : ncl = nr - oi := by rw [hncl, hcl, List.length_drop, ← HNR.out]
                      have hcut : cutZ L (rem zo) i = cl.take nn := by unfold cutZ; rw [hgn, ← hoi, ← hcl]; simp
                      rw [← hoi] at HSI
                      obtain ⟨Az, cz, hvz, hczl, hslz, hbz⟩ := HSI.out.sf zo
                      simp only [if_true] at hvz hczl hslz
                      rw [← hcl] at hvz hczl hslz
                      rw [← hncl] at hvz hczl
                      obtain ⟨bz, oz, hAz, hbzl, -⟩ := hslz (by intro e; rw [e] at hncl; simp at hncl; omega)
                      subst hAz
                      have hbzO := hbz bz oz rfl
                      have HSLX := Lib.hid (show ∀ X, Below wr.heap.size wr X → Sl encInt 1 X X.heap.size (some ⟨bz, oz, none⟩) (cl.take nn) from fun X hX => by
                        refine sl_turn (sl_take hslz nn) (Nat.le_trans HOI.out.size hX.size) (fun b o hA hl => ?_)
                        injection hA with hA
                        injection hA with e1 _
                        subst e1
                        exact (hX.block _ (Nat.lt_of_lt_of_le hl HOI.out.size)).trans (HOI.out.2.2 _ hl hbzO hbzO))
                      have hctl : (cl.take nn).length = nn := by rw [List.length_take]; omega
                      have HCTL := Lib.hid hctl
                      have H39 := Lib.hid (show ∀ X, Below wr.heap.size wr X → Calls Try.prog 39 #[.slice (some ⟨bz, oz, none⟩) nn cz] X fun e w' => ∃ A' c', e = .returned (.slice A' nn c') ∧ Hid (w'.ownsRow wr.heap.size 3 1 (.slice A' nn c') nn ((cl.take nn).map (Value.int .i64))) ∧ Hid (Below X.heap.size X w') from fun X hX => by
                        have h1 := cloneOwn_any (some ⟨bz, oz, none⟩) cz (cl.take nn) X (by omega) (HSLX.out X hX)
                        rw [hctl] at h1
                        exact h1.mono (by rintro e w' ⟨A', c', q1, q2, q3⟩; exact ⟨A', c', q1, Lib.hid (own_low q2 hX.size), Lib.hid q3⟩))
                      obtain ⟨bl, ol, hAL, hbl, e0⟩ := (own_sl HKI.out.2).at1 hlti
                      rw [hnn] at e0
                      subst hAL
                      obtain ⟨dv, hdv⟩ : ∃ b, b = decB bt dl (cl.take nn) := ⟨_, rfl⟩
                      obtain ⟨on, hon⟩ : ∃ o, o = if cz = nn then oz else oz + nn := ⟨_, rfl⟩
                      have HON := Lib.hid hon
                      have hto : ncl ≤ nn ∨ on = oz + nn := by
                        rw [hon]
                        by_cases hcn : cz = nn
                        · exact Or.inl (by omega)
                        · exact Or.inr (if_neg hcn)
                      have HSN := Lib.hid (show ∀ (m3 : List (Int × Value)) (W : World), MapIs ekI vId W gO (mset m2 zo (.slice (some ⟨bz, on, none⟩) (ncl - nn) (cz - nn))) → SfM wd W gO (mset m2 zo (.slice (some ⟨bz, on, none⟩) (ncl - nn) (cz - nn))) (fun z => if z = zo then (rem zo).drop (offZ L (i + 1)) else rem z) from fun m3 W hm => by
                        have e1 : ((fun z => if z = zo then (rem zo).drop oi else rem z) zo).length = ncl := by simp only [if_true]; rw [← hcl, hncl]
                        have h1 := SfM.cut2 (W' := W) (z := zo) (n := nn) (b := bz) (o := oz) (o2 := on) (c := cz) HSI.out (by rw [e1]; omega) (by rw [e1]; exact hto) (by rw [e1]; exact hvz) (by rw [e1]; exact hm)
                        rw [e1] at h1
                        have e2 : (fun y => if y = zo then ((fun z => if z = zo then (rem zo).drop oi else rem z) zo).drop nn else (fun z => if z = zo then (rem zo).drop oi else rem z) y) = (fun z => if z = zo then (rem zo).drop (offZ L (i + 1)) else rem z) := by
                          funext z
                          by_cases h : z = zo
                          · simp only [if_pos h, if_true, hos, List.drop_drop]
                          · simp only [if_neg h]
                        rw [e2] at h1
                        exact h1)
                      have HBN := Lib.hid (show bunI bt dl L (rem zo) id (i + 1) = bunI bt dl L (rem zo) id i ++ [(id, (i : Int) + 1, (L.length : Int), cl.take nn, dv)] from by rw [bunI_succ, hcut, ← hdv])
                      have HS42 := Lib.hid (show ∀ X, Below wr.heap.size wr X → (X.cell? ⟨g23, 0, none⟩ = some (.int .i64 id) ∧ X.cell? ⟨g23, 1, none⟩ = some (.int .i64 zo)) ∧ MapIs ekI vId X gO m2 from fun X hX => by
                        have k := HKI.out.1.below hX HKI.out.1.lt
                        have z0 := k.cell 0
                        have z1 := k.cell 1
                        simp at z0 z1
                        exact ⟨⟨z0, z1⟩, HSI.out.mp.below hX HSI.out.mp.lt⟩)
                      have HVZ2 := Lib.hid hvz
                      have HKB := Lib.hid (show ∀ k ∈ cl.take nn, 0 ≤ k ∧ k ≤ 9223372036854775807 from fun k hk => by have := List.mem_of_mem_take hk; rw [hcl] at this; exact HRM.out zo k (List.mem_of_mem_drop this))
                      have HDV := Lib.hid hdv
                      have q0 : (0 : Int) ≤ (nn : Int) := by omega
                      have q1 : (nn : Int) ≤ (ncl : Int) := by omega
                      have q1' : (nn : Int) ≤ (cz : Int) := by omega
                      have p1 : IntKind.i64.wrap ((i : Int) + 1) = (i : Int) + 1 := by rw [IntKind.wrap_i64]; omega
                      have HP1 := Lib.hid p1
                      have HLB := Lib.hid (show (q ≤ 100 ∧ i ≤ 5002) ∧ bs2.length ≤ 5003 * q + i from ⟨⟨by omega, by omega⟩, HBBI.out.2⟩)
                      have HQS := Lib.hid (show (0 : Int) ≤ (nn : Int) ∧ (nn : Int) ≤ (ncl : Int) ∧ (nn : Int) ≤ (cz : Int) ∧ ncl ≤ cz ∧ nn ≤ ncl from ⟨q0, q1, q1', hczl, by omega⟩)
                      clear hto hon hnn hgn hoi hos hole hcl hncl hnc hcut hvz hslz hbz hbzl hbzO hctl hdv p1 q0 q1 q1' hczl
                      go_upto_region 42 with fail
                      have p1 := HP1.out
                      obtain ⟨q0, q1, q1', q2, q3⟩ := HQS.out
                      go_cut [27] from 145 to 158 (fun u wx => ∃ (g27 : Nat) (A9 : Option Addr) (c9 : Nat), u = .pointer (some ⟨g27, 0, none⟩) ∧ Hid (Below wr.heap.size wr wx) ∧ Hid (Blk wx g27 94 #[.int .i64 id, .int .i64 ((i : Int) + 1), .int .i64 (L.length : Int), .slice A9 nn c9, .bool false]) ∧ Hid (wx.ownsRow wr.heap.size 3 1 (.slice A9 nn c9) nn ((cl.take nn).map (Value.int .i64))) ∧ Hid (wr.heap.size ≤ g27))
                      case first =>
                        refine wp_region_noPanic ?_
                        refine wp_region_held_drew (S := (fun W => (W.cell? ⟨g23, 0, none⟩ = some (.int .i64 id) ∧ W.cell? ⟨g23, 1, none⟩ = some (.int .i64 zo)) ∧ MapIs ekI vId W gO m2)) (by kernel_rfl) ?_ (fun hHeld => ?_)
                        · (try dsimp only); (exact HS42.out _ (by repeat (with_reducible first | exact Below.refl _ _ | refine Below.drew ?_ | refine balR ?_ _)))
                        refine wpAnyH_takeD (i := 0) (v := ?_) (some 145) rfl rfl (by kernel_rfl) (by kernel_rfl) (by kernel_rfl) (fun _ _ _ h => h) (Or.inl ⟨by rfl, ?_⟩) (by assumption) ?_
                        rotate_left
                        · intro w hSw; (try dsimp only at hSw); go_simp; (try with_reducible rfl)
                        try simp only [Act.put, List.setIfInBounds_toArray, List.set_cons_zero, List.set_cons_succ]
                        refine wpAnyH_takeD (i := 1) (v := ?_) (some 146) rfl rfl (by kernel_rfl) (by kernel_rfl) (by kernel_rfl) (fun _ _ _ h => h) (Or.inl ⟨by rfl, ?_⟩) (by assumption) ?_
                        rotate_left
                        · intro w hSw; (try dsimp only at hSw); go_simp; (try with_reducible rfl)
                        try simp only [Act.put, List.setIfInBounds_toArray, List.set_cons_zero, List.set_cons_succ]
                        refine wpAnyH_takeD (i := 2) (v := ?_) (some 147) rfl rfl (by kernel_rfl) (by kernel_rfl) (by kernel_rfl) (fun _ _ _ h => h) (Or.inl ⟨by rfl, ?_⟩) (by assumption) ?_
                        rotate_left
                        · intro w hSw; (try dsimp only at hSw); go_simp; (try with_reducible rfl)
                        try simp only [Act.put, List.setIfInBounds_toArray, List.set_cons_zero, List.set_cons_succ]
                        refine wpAnyH_takeD (i := 3) (v := ?_) (some 148) rfl rfl (by kernel_rfl) (by kernel_rfl) (by kernel_rfl) (fun _ _ _ h => h) (Or.inl ⟨by rfl, ?_⟩) (by assumption) ?_
                        rotate_left
                        · intro w hSw; (try dsimp only at hSw); (go_simp; (try simp [p1])); (try with_reducible rfl)
                        try simp only [Act.put, List.setIfInBounds_toArray, List.set_cons_zero, List.set_cons_succ]
                        refine wpAnyH_takeD (i := 4) (v := ?_) (some 149) rfl rfl (by kernel_rfl) (by kernel_rfl) (by kernel_rfl) (fun _ _ _ h => h) (Or.inl ⟨by rfl, ?_⟩) (by assumption) ?_
                        rotate_left
                        · intro w hSw; (try dsimp only at hSw); go_simp; (try with_reducible rfl)
                        try simp only [Act.put, List.setIfInBounds_toArray, List.set_cons_zero, List.set_cons_succ]
                        refine wpAnyH_takeD (i := 5) (v := ?_) (some 150) rfl rfl (by kernel_rfl) (by kernel_rfl) (by kernel_rfl) (fun _ _ _ h => h) (Or.inl ⟨by rfl, ?_⟩) (by assumption) ?_
                        rotate_left
                        · intro w hSw; (try dsimp only at hSw); go_simp; (try with_reducible rfl)
                        try simp only [Act.put, List.setIfInBounds_toArray, List.set_cons_zero, List.set_cons_succ]
                        refine wpAnyH_takeD (i := 6) (v := ?_) (some 151) rfl rfl (by kernel_rfl) (by kernel_rfl) (by kernel_rfl) (fun _ _ _ h => h) (Or.inl ⟨by rfl, ?_⟩) (by assumption) ?_
                        rotate_left
                        · intro w hSw; (try dsimp only at hSw); go_simp; (try with_reducible rfl)
                        try simp only [Act.put, List.setIfInBounds_toArray, List.set_cons_zero, List.set_cons_succ]
                        refine wpAnyH_takeD (i := 7) (v := ?_) (some 152) rfl rfl (by kernel_rfl) (by kernel_rfl) (by kernel_rfl) (fun _ _ _ h => h) (Or.inl ⟨by rfl, ?_⟩) (by assumption) ?_
                        rotate_left
                        · intro w hSw; (try dsimp only at hSw); go_simp; (try with_reducible rfl)
                        try simp only [Act.put, List.setIfInBounds_toArray, List.set_cons_zero, List.set_cons_succ]
                        refine wpAnyH_takeD (i := 8) (v := ?_) (some 153) rfl rfl (by kernel_rfl) (by kernel_rfl) (by kernel_rfl) (fun _ _ _ h => h) (Or.inl ⟨by rfl, ?_⟩) (by assumption) ?_
                        rotate_left
                        · intro w hSw; (try dsimp only at hSw); go_simp; (try with_reducible rfl)
                        try simp only [Act.put, List.setIfInBounds_toArray, List.set_cons_zero, List.set_cons_succ]
                        refine wpAnyH_takeD (i := 9) (v := .slice (some ⟨bz, oz, none⟩) ncl cz) (some 154) rfl rfl (by kernel_rfl) (by kernel_rfl) (by kernel_rfl) (fun _ _ _ h => h) (Or.inl ⟨by rfl, ?_⟩) (by assumption) ?_
                        · intro w hSw; (try dsimp only at hSw); (obtain ⟨hs1, hs2⟩ := hSw; have hq := hs2.lookup Try.underlying181 keyI zero22 zo false; simp [execOp, Act.eval, go_sem, ekI, getv_eq, HVZ2.out] at hq ⊢; exact (congrArg (fun r => r.andThen fun a w => Result.ok (Next.value a) w) hq).trans rfl); (try with_reducible rfl)
                        try simp only [Act.put, List.setIfInBounds_toArray, List.set_cons_zero, List.set_cons_succ]
                        refine wpAnyH_takeD (i := 10) (v := ?_) (some 155) rfl rfl (by kernel_rfl) (by kernel_rfl) (by kernel_rfl) (fun _ _ _ h => h) (Or.inl ⟨by rfl, ?_⟩) (by assumption) ?_
                        rotate_left
                        · intro w hSw; (try dsimp only at hSw); go_simp; (try with_reducible rfl)
                        try simp only [Act.put, List.setIfInBounds_toArray, List.set_cons_zero, List.set_cons_succ]
                        refine wpAnyH_takeD (i := 11) (v := .slice (some ⟨bz, oz, none⟩) nn cz) (some 156) rfl rfl (by kernel_rfl) (by kernel_rfl) (by kernel_rfl) (fun _ _ _ h => h) (Or.inl ⟨by rfl, ?_⟩) (by assumption) ?_
                        · intro w hSw; (try dsimp only at hSw); (go_simp; (try simp [q0, q1, q1', q2, q3])); (try with_reducible rfl)
                        try simp only [Act.put, List.setIfInBounds_toArray, List.set_cons_zero, List.set_cons_succ]
                        refine wpAnyH_ready (rs := [12, 14]) (by kernel_rfl) (by simp) ?_
                        refine AllReadyH.cons rfl (fun K hK => ?_) (AllReadyH.cons rfl (fun K hK => ?_) AllReadyH.nil)
                        · (go_simp; go_at_call 39; with_reducible refine (H39.out _ (by repeat (with_reducible first | exact Below.refl _ _ | refine Below.drew ?_ | refine balR ?_ _))).mono ?_; rintro e w8 ⟨A9, c9, rfl, HC8, hb8⟩; have HB8 := Lib.hid (show Below wr.heap.size wr w8 from bstep (by repeat (with_reducible first | exact Below.refl _ _ | refine Below.drew ?_ | refine balR ?_ _)) hb8.out); clear hb8; go_wp2_with fail)
                          refine hK.out _ _ ?_ (fun hHeld => ?_)
                          · (try dsimp only); (exact HS42.out _ (by repeat (with_reducible first | exact Below.refl _ _ | exact HB8.out | refine Below.drew ?_ | refine balR ?_ _ | refine bset ?_ (Nat.le_refl _) _ _)))
                          clear hK K
                          try simp only [List.getElem_toArray, List.getElem_cons_succ, List.getElem_cons_zero]
                          try simp only [Act.put, List.setIfInBounds_toArray, List.set_cons_zero, List.set_cons_succ]
                          refine wpAnyH_takeD (i := 13) (v := ?_) (some 158) rfl rfl (by kernel_rfl) (by kernel_rfl) (by kernel_rfl) (fun _ _ _ h => h) (Or.inl ⟨by rfl, ?_⟩) (by assumption) ?_
                          rotate_left
                          · intro w hSw; (try dsimp only at hSw); go_simp; (try with_reducible rfl)
                          try simp only [Act.put, List.setIfInBounds_toArray, List.set_cons_zero, List.set_cons_succ]
                          refine wpAnyH_ready (rs := [14]) (by kernel_rfl) (by simp) ?_
                          refine AllReadyH.cons rfl (fun K hK => ?_) AllReadyH.nil
                          go_simp
                          refine hK.out _ _ ?_ (fun hHeld => ?_)
                          · (try dsimp only); (exact HS42.out _ (by repeat (with_reducible first | exact Below.refl _ _ | exact HB8.out | refine Below.drew ?_ | refine balR ?_ _ | refine bset ?_ (Nat.le_refl _) _ _)))
                          clear hK K
                          try simp only [List.getElem_toArray, List.getElem_cons_succ, List.getElem_cons_zero]
                          try simp only [Act.put, List.setIfInBounds_toArray, List.set_cons_zero, List.set_cons_succ]
                          refine wpAnyH_ready (rs := [15]) (by kernel_rfl) (by simp) ?_
                          refine AllReadyH.cons rfl (fun K hK => ?_) AllReadyH.nil
                          go_simp
                          refine hK.out _ _ ?_ (fun hHeld => ?_)
                          · (try dsimp only); (exact HS42.out _ (by repeat (with_reducible first | exact Below.refl _ _ | exact HB8.out | refine Below.drew ?_ | refine balR ?_ _ | refine bset ?_ (Nat.le_refl _) _ _)))
                          clear hK K
                          try simp only [List.getElem_toArray, List.getElem_cons_succ, List.getElem_cons_zero]
                          try simp only [Act.put, List.setIfInBounds_toArray, List.set_cons_zero, List.set_cons_succ]
                          refine wpAnyH_done (by kernel_rfl) ?_ _
                          refine NoPanic.normal ?_
                          go_wp2
                          go_meet
                          exact ⟨w8.heap.size, A9, c9, rfl, Lib.hid (balR HB8.out _), Lib.hid (Blk.new w8 94 _), Lib.hid (own_belowV HC8.out (balR (Below.refl w8.heap.size w8) _)), Lib.hid HB8.out.size⟩
                        · go_simp
                          refine hK.out _ _ ?_ (fun hHeld => ?_)
                          · (try dsimp only); (exact HS42.out _ (by repeat (with_reducible first | exact Below.refl _ _ | exact HB8.out | refine Below.drew ?_ | refine balR ?_ _ | refine bset ?_ (Nat.le_refl _) _ _)))
                          clear hK K
                          try simp only [List.getElem_toArray, List.getElem_cons_succ, List.getElem_cons_zero]
                          try simp only [Act.put, List.setIfInBounds_toArray, List.set_cons_zero, List.set_cons_succ]
                          refine wpAnyH_ready (rs := [12]) (by kernel_rfl) (by simp) ?_
                          refine AllReadyH.cons rfl (fun K hK => ?_) AllReadyH.nil
                          (go_simp; go_at_call 39; with_reducible refine (H39.out _ (by repeat (with_reducible first | exact Below.refl _ _ | refine Below.drew ?_ | refine balR ?_ _))).mono ?_; rintro e w8 ⟨A9, c9, rfl, HC8, hb8⟩; have HB8 := Lib.hid (show Below wr.heap.size wr w8 from bstep (by repeat (with_reducible first | exact Below.refl _ _ | refine Below.drew ?_ | refine balR ?_ _)) hb8.out); have kq : Blk ((wr.alloc (.cells #[.int .i64 0, .int .i64 0, .int .i64 0, .slice none 0 0, .bool false] 94)).drew) wr.heap.size 94 #[.int .i64 0, .int .i64 0, .int .i64 0, .slice none 0 0, .bool false] := (Blk.new wr 94 _).drew; have k27 := kq.below hb8.out kq.lt; clear kq; have z0 := k27.cell 0; have f0 := k27.frozen 0; have z1 := k27.cell 1; have f1 := k27.frozen 1; have z2 := k27.cell 2; have f2 := k27.frozen 2; have z3 := k27.cell 3; have f3 := k27.frozen 3; have z4 := k27.cell 4; have f4 := k27.frozen 4; simp at z0 z1 z2 z3 z4; have K27 := Lib.hid k27; clear k27; clear hb8; go_wp2_with fail)
                          refine hK.out _ _ ?_ (fun hHeld => ?_)
                          · (try dsimp only); (exact HS42.out _ (by repeat (with_reducible first | exact Below.refl _ _ | exact HB8.out | refine Below.drew ?_ | refine balR ?_ _ | refine bset ?_ (Nat.le_refl _) _ _)))
                          clear hK K
                          try simp only [List.getElem_toArray, List.getElem_cons_succ, List.getElem_cons_zero]
                          try simp only [Act.put, List.setIfInBounds_toArray, List.set_cons_zero, List.set_cons_succ]
                          refine wpAnyH_takeD (i := 13) (v := ?_) (some 158) rfl rfl (by kernel_rfl) (by kernel_rfl) (by kernel_rfl) (fun _ _ _ h => h) (Or.inl ⟨by rfl, ?_⟩) (by assumption) ?_
                          rotate_left
                          · intro w hSw; (try dsimp only at hSw); go_simp; (try with_reducible rfl)
                          try simp only [Act.put, List.setIfInBounds_toArray, List.set_cons_zero, List.set_cons_succ]
                          refine wpAnyH_ready (rs := [15]) (by kernel_rfl) (by simp) ?_
                          refine AllReadyH.cons rfl (fun K hK => ?_) AllReadyH.nil
                          go_simp
                          refine hK.out _ _ ?_ (fun hHeld => ?_)
                          · (try dsimp only); (exact HS42.out _ (by repeat (with_reducible first | exact Below.refl _ _ | exact HB8.out | refine Below.drew ?_ | refine balR ?_ _ | refine bset ?_ (Nat.le_refl _) _ _)))
                          clear hK K
                          try simp only [List.getElem_toArray, List.getElem_cons_succ, List.getElem_cons_zero]
                          try simp only [Act.put, List.setIfInBounds_toArray, List.set_cons_zero, List.set_cons_succ]
                          refine wpAnyH_done (by kernel_rfl) ?_ _
                          refine NoPanic.normal ?_
                          go_wp2
                          go_meet
                          exact ⟨wr.heap.size, A9, c9, rfl, Lib.hid (by repeat (with_reducible first | exact Below.refl _ _ | exact HB8.out | refine Below.drew ?_ | refine balR ?_ _ | refine bset ?_ (Nat.le_refl _) _ _)), Lib.hid (((((K27.out.set_ 0 _).set_ 1 _).set_ 2 _).set_ 3 _).set_ 4 _), Lib.hid (own_five HC8.out K27.out), Lib.hid (Nat.le_refl _)⟩
                      case rest =>
                        obtain ⟨g27, A9, c9, rfl, HBX, HKX, HOX, HGX⟩ := hcut
                        have x3 := HKX.out.cell 3
                        simp at x3
                        have HOF := Lib.hid (show Off2 w2.heap.size gO gO wd wc from HOI.out.below HBX.out)
                        have H20 := Lib.hid (con20_88 A9 c9 nn (gD + 1) g1 (fun k => decide (k.tdiv (bt : Int) ∈ dl)) (cl.take nn) wc HCTL.out.symm (by omega) (own_sl2 HOX.out HCTL.out.symm) dv (by rw [HDV.out]; rfl) (fun k hk Y hY => HCLO.out Y (HOF.out.below hY) k (HKB.out k hk)))
                        go_upto_region 44 with (go_at_call 20; refine H20.out.mono ?_; rintro e w12 ⟨rfl, HB12⟩; have k27 := HKX.out.below HB12.out HKX.out.lt; have z4 := k27.cell 4; have f4 := k27.frozen 4; simp at z4; have K27 := Lib.hid k27; clear k27)
                        obtain ⟨w13, hw13⟩ : ∃ W, W = w12.setCell ⟨g27, 4, none⟩ (.bool dv) := ⟨_, rfl⟩
                        rw [← hw13]
                        have HK13 := Lib.hid (show Blk w13 g27 94 #[.int .i64 id, .int .i64 ((i : Int) + 1), .int .i64 (L.length : Int), .slice A9 nn c9, .bool dv] from by rw [hw13]; exact K27.out.set_ 4 _)
                        have HB13 := Lib.hid (show Below wr.heap.size wr w13 from by rw [hw13]; exact (bstep HBX.out HB12.out).setCell (p := ⟨g27, 4, none⟩) HGX.out _)
                        have HO13 := Lib.hid (show w13.ownsRow wr.heap.size 3 1 (.slice A9 nn c9) nn ((cl.take nn).map (Value.int .i64)) from by rw [hw13]; exact own_set (own_belowV HOX.out HB12.out) K27.out (by decide))
                        have HM13 := Lib.hid (HS42.out _ HB13.out).2
                        have HBU13 := Lib.hid (HBI.out.below HB13.out)
                        have HK13g := Lib.hid (HKI.out.1.below HB13.out HKI.out.1.lt)
                        have HO13L := Lib.hid (own_belowV HKI.out.2 HB13.out)
                        have HOF13 := Lib.hid (HOI.out.below HB13.out)
                        clear hw13 x3 z4 f4 H20
                        refine wp_region_noPanic ?_
                        refine wp_region_T (S := (fun W => (W.cell? ⟨g23, 0, none⟩ = some (.int .i64 id) ∧ W.cell? ⟨g23, 1, none⟩ = some (.int .i64 zo)) ∧ MapIs ekI vId W gO m2)) (T := (fun _ => True)) 9 (by kernel_rfl) ?_ (fun hHeld hHeldT => ?_)
                        · (try dsimp only); (exact ⟨HS42.out _ HB13.out.drew, trivial⟩)
                        refine wpAnyT_takeW (i := 0) (v := ?_) (some 164) rfl rfl (by kernel_rfl) (by kernel_rfl) (by kernel_rfl) (by kernel_rfl) (fun _ _ _ h => h) (Or.inl ⟨by rfl, ?_⟩) (by assumption) (by assumption) ?_
                        rotate_left
                        · intro w hSw; (try dsimp only at hSw); go_simp; (try with_reducible rfl)
                        try simp only [Act.put, List.setIfInBounds_toArray, List.set_cons_zero, List.set_cons_succ]
                        refine wpAnyT_takeW (i := 1) (v := ?_) (some 165) rfl rfl (by kernel_rfl) (by kernel_rfl) (by kernel_rfl) (by kernel_rfl) (fun _ _ _ h => h) (Or.inl ⟨by rfl, ?_⟩) (by assumption) (by assumption) ?_
                        rotate_left
                        · intro w hSw; (try dsimp only at hSw); go_simp; (try with_reducible rfl)
                        try simp only [Act.put, List.setIfInBounds_toArray, List.set_cons_zero, List.set_cons_succ]
                        refine wpAnyT_takeD (i := 2) (v := ?_) (some 166) rfl rfl (by kernel_rfl) (by kernel_rfl) (by kernel_rfl) (by kernel_rfl) (fun _ _ _ h => h) (Or.inl ⟨by rfl, ?_⟩) (by assumption) (by assumption) ?_
                        rotate_left
                        · intro w hSw; (try dsimp only at hSw); go_simp; (try with_reducible rfl)
                        try simp only [Act.put, List.setIfInBounds_toArray, List.set_cons_zero, List.set_cons_succ]
                        refine wpAnyT_takeW (i := 3) (v := ?_) (some 167) rfl rfl (by kernel_rfl) (by kernel_rfl) (by kernel_rfl) (by kernel_rfl) (fun _ _ _ h => h) (Or.inl ⟨by rfl, ?_⟩) (by assumption) (by assumption) ?_
                        rotate_left
                        · intro w hSw; (try dsimp only at hSw); go_simp; (try with_reducible rfl)
                        try simp only [Act.put, List.setIfInBounds_toArray, List.set_cons_zero, List.set_cons_succ]
                        refine wpAnyT_takeW (i := 4) (v := ?_) (some 168) rfl rfl (by kernel_rfl) (by kernel_rfl) (by kernel_rfl) (by kernel_rfl) (fun _ _ _ h => h) (Or.inl ⟨by rfl, ?_⟩) (by assumption) (by assumption) ?_
                        rotate_left
                        · intro w hSw; (try dsimp only at hSw); go_simp; (try with_reducible rfl)
                        try simp only [Act.put, List.setIfInBounds_toArray, List.set_cons_zero, List.set_cons_succ]
                        refine wpAnyT_takeD (i := 5) (v := ?_) (some 169) rfl rfl (by kernel_rfl) (by kernel_rfl) (by kernel_rfl) (by kernel_rfl) (fun _ _ _ h => h) (Or.inl ⟨by rfl, ?_⟩) (by assumption) (by assumption) ?_
                        rotate_left
                        · intro w hSw; (try dsimp only at hSw); go_simp; (try with_reducible rfl)
                        try simp only [Act.put, List.setIfInBounds_toArray, List.set_cons_zero, List.set_cons_succ]
                        refine wpAnyT_takeD (i := 6) (v := .slice (some ⟨bz, oz, none⟩) ncl cz) (some 170) rfl rfl (by kernel_rfl) (by kernel_rfl) (by kernel_rfl) (by kernel_rfl) (fun _ _ _ h => h) (Or.inl ⟨by rfl, ?_⟩) (by assumption) (by assumption) ?_
                        · intro w hSw; (try dsimp only at hSw); (obtain ⟨hs1, hs2⟩ := hSw; have hq := hs2.lookup Try.underlying181 keyI zero22 zo false; simp [execOp, Act.eval, go_sem, ekI, getv_eq, HVZ2.out] at hq ⊢; exact (congrArg (fun r => r.andThen fun a w => Result.ok (Next.value a) w) hq).trans rfl); (try with_reducible rfl)
                        try simp only [Act.put, List.setIfInBounds_toArray, List.set_cons_zero, List.set_cons_succ]
                        refine wpAnyT_takeW (i := 7) (v := ?_) (some 171) rfl rfl (by kernel_rfl) (by kernel_rfl) (by kernel_rfl) (by kernel_rfl) (fun _ _ _ h => h) (Or.inl ⟨by rfl, ?_⟩) (by assumption) (by assumption) ?_
                        rotate_left
                        · intro w hSw; (try dsimp only at hSw); go_simp; (try with_reducible rfl)
                        try simp only [Act.put, List.setIfInBounds_toArray, List.set_cons_zero, List.set_cons_succ]
                        refine wpAnyT_takeW (i := 8) (v := .slice (some ⟨bz, on, none⟩) (ncl - nn) (cz - nn)) (some 172) rfl rfl (by kernel_rfl) (by kernel_rfl) (by kernel_rfl) (by kernel_rfl) (fun _ _ _ h => h) (Or.inl ⟨by rfl, ?_⟩) (by assumption) (by assumption) ?_
                        · intro w hSw; (try dsimp only at hSw); (go_simp; (try simp [q0, q1, q1', q2, q3]); (try (rw [HON.out]; split <;> rfl))); (try with_reducible rfl)
                        try simp only [Act.put, List.setIfInBounds_toArray, List.set_cons_zero, List.set_cons_succ]
                        refine wpAnyT_ready (rs := [9]) (by kernel_rfl) (by simp) ?_
                        refine AllReadyT.past rfl (by kernel_rfl) (fun K hK => ?_)
                        (refine step_updI rfl (.tmp 164) (.tmp 166) (.tmp 172) 181 rfl Try.underlying181 keyI HM13.out.drew zo (.slice (some ⟨bz, on, none⟩) (ncl - nn) (cz - nn)) rfl rfl rfl ?_; intro w14 hm14 hg14 hs14; have HM14 := Lib.hid hm14; have HG14 := Lib.hid (gr_trans (gr_drew (gr_refl w13 (some gO))) hg14); have HZ14 := Lib.hid hs14; clear hm14 hg14 hs14)
                        refine hK.out _ _ ?_ ?_
                        · (try dsimp only); (try exact trivial)
                        clear hK K
                        try simp only [List.getElem_toArray, List.getElem_cons_succ, List.getElem_cons_zero]
                        try simp only [Act.put, List.setIfInBounds_toArray, List.set_cons_zero, List.set_cons_succ]
                        refine wpAnyT_done (by kernel_rfl) ?_ _
                        refine NoPanic.normal ?_
                        have hB := HB2Z.out
                        have hG := HGX.out
                        have hG2 := HOI.out.size
                        have HBU14 := Lib.hid (HBU13.out.far HG14.out hB.2.2.1)
                        have HK14 := Lib.hid (HK13.out.grown HG14.out (fun e => by injection e with e; omega))
                        have HKg14 := Lib.hid (HK13g.out.grown HG14.out (fun e => by injection e with e; have := HG23.out; omega))
                        have HO14 := Lib.hid (own_gO HO13.out HG14.out (by omega))
                        have HOL14 := Lib.hid (own_gO HO13L.out HG14.out (by have := HB7b.out; omega))
                        have HOF14 := Lib.hid (HOF13.out.grown HG14.out (by have := HGO.out; omega))
                        have HS14 := Lib.hid (HSN.out m2 w14 HM14.out)
                        have hbA := balR (Below.refl w14.heap.size w14) (.cells #[.int .i64 id, .int .i64 ((i : Int) + 1), .int .i64 (L.length : Int), .slice A9 nn c9, .bool dv] 94)
                        have HBU15 := Lib.hid (HBU14.out.below hbA)
                        have HO15 := Lib.hid (own_belowV HO14.out hbA)
                        have HOL15 := Lib.hid (own_belowV HOL14.out hbA)
                        have HKg15 := Lib.hid (HKg14.out.below hbA HKg14.out.lt)
                        have HS15 := Lib.hid (HS14.out.keep hbA)
                        have HOF15 := Lib.hid (HOF14.out.below hbA)
                        have x0 := HK14.out.cell 0
                        have x1 := HK14.out.cell 1
                        have x2 := HK14.out.cell 2
                        have x3 := HK14.out.cell 3
                        have x4 := HK14.out.cell 4
                        simp at x0 x1 x2 x3 x4
                        have HSZ := Lib.hid (show b2 ≤ w14.heap.size from by rw [HZ14.out]; show b2 ≤ w13.heap.size; have := HB13.out.size; omega)
                        have HSW := Lib.hid (show w2.heap.size ≤ b2 ∧ wd.heap.size ≤ b2 ∧ b2 ≤ wr.heap.size from ⟨hB.2.1, Nat.le_of_eq hB.1.symm, by omega⟩)
                        clear hbA hB hG hG2
                        go_wp2_with (at_builtin; refine wpList_append_lies _ rfl (.tmp 173) (.tmp 175) 88 rfl b2 94 iB _ 5 56 Try.underlying88 HIB.out hc0 hc1 hc2 rfl (by decide) vB2 bs2.length (bs2.flatMap encB) rfl (HBU15.out.rB) ⟨w14.heap.size, 0, none⟩ 1 1 [.int .i64 id, .int .i64 ((i : Int) + 1), .int .i64 (L.length : Int), .slice A9 nn c9, .bool dv] rfl rfl (news_of1 w14 94 #[.int .i64 id, .int .i64 ((i : Int) + 1), .int .i64 (L.length : Int), .slice A9 nn c9, .bool dv]) (by intro u hu; simp at hu; rcases hu with rfl | rfl | rfl | rfl | rfl <;> rfl) (by decide) (by simp only [maxLen]; have := HLB.out; omega) (by have := HLB.out; omega) (by have := HSZ.out; simp; omega) (w14.heap.size + 1) (by simp) ?_; intro g9 cc9 w9x hown9 hg9 hat9 hlt9; have H9 := Lib.hid hown9; have HG9 := Lib.hid hg9; clear hown9 hg9 hat9 hlt9)
                        go_roundw
                        case rel =>
                          have hap := HBU14.out.app (x := ⟨id, (i : Int) + 1, (L.length : Int), A9, c9, cl.take nn, dv⟩) (balR (Below.refl w14.heap.size w14) (.cells #[.int .i64 id, .int .i64 ((i : Int) + 1), .int .i64 (L.length : Int), .slice A9 nn c9, .bool dv] 94)) (by have h := own_low HO15.out HSW.out.2.2; have e := HCTL.out; dsimp only; rw [e]; exact h) HG9.out (by rw [List.length_append, List.flatMap_append]; have e := HCTL.out; simpa [encB, e] using H9.out)
                          refine ⟨i + 1, .slice (some ⟨g9, 0, none⟩) (bs2.length + 1) cc9, mset m2 zo (.slice (some ⟨bz, on, none⟩) (ncl - nn) (cz - nn)), bs2 ++ [⟨id, (i : Int) + 1, (L.length : Int), A9, c9, cl.take nn, dv⟩], by omega, rfl, by go_num, Lib.hid ?_, Lib.hid hap, Lib.hid ⟨?_, ?_⟩, Lib.hid ?_, Lib.hid ⟨?_, ?_⟩⟩
                          · exact ⟨HS15.out.mp.same (HG9.out.block _ HS15.out.mp.lt (fun e => by have h1 := own_at2 HBU15.out.rB e.symm; have := HB2Z.out; omega)), HS15.out.sf⟩
                          · rw [HBN.out, List.map_append, HBBI.out.1, List.append_assoc]; rfl
                          · rw [List.length_append]; have := HLB.out.2; simp; omega
                          · exact HOF15.out.own HBU15.out.rB HG9.out HSW.out.2.1 HSW.out.1
                          · exact kt_grown HBU15.out.rB HKg15.out (by decide) HG9.out
                          · exact HOL15.out.kept HG9.out (own_own_ne HOL15.out HBU15.out.rB (by decide))
                        case measure => simp [intOf]; omega
                    · obtain rfl : i = L.length := by omega
                      have t6 : decide ((L.length : Int) < (L.length : Int)) = false := by simp
                      go_wp2
                      go_roundw
                      case rel =>
                        refine ⟨q + 1, vB2, m2, bs2, by omega, rfl, by go_num, ?_, HBI, Lib.hid ⟨?_, ?_⟩, HOI⟩
                        · rw [HTK.out]
                          have h1 := HSI.out
                          rw [offZ_all, HLA.out.2] at h1
                          exact Lib.hid h1
                        · rw [HBS.out]; exact HBBI.out.1
                        · have := HBBI.out.2; omega
                      case measure => simp [intOf]; omega
                · obtain rfl : q = ds.length := by omega
                  have t4 : decide ((ds.length : Int) < (ds.length : Int)) = false := by simp
                  obtain ⟨AB, cB, hvB⟩ := own_shape HBU.out.rB
                  subst hvB
                  go_wp2
                  go_ret2
                  refine ⟨AB, cB, bs, b2, rfl, HBB.out.1, ?_, HBU, ?_⟩
                  · have := HB2Z.out; have := HB2.out.size; omega
                  · exact Lib.hid (HB2.out.trans (HBR.out.mono HB2.out.size))
end Go.Proofs.Ytfejedmpplbmjaa
