/- Contract of the reference's with; conditions: a title in memory. -/
import Derived.Test.YtokdleanpkkdpaaU8
import Derived.Test.YtokdleanpkkdpaaSpecR
set_option linter.unusedSimpArgs false
set_option linter.unusedVariables false
namespace Go.Ed
open Go.Fh Go.RowKit Go.Proofs.Ytokdleanpkkdpaa
/-- the ready seconds that are kept, of so many -/
def rdyK (l : List (Int × Int × Int)) (p v : Int) (q : Nat) : List (Int × Int × Int) := (l.take q).filter fun r => !(r.1 == p && r.2.1 == v)
theorem rdyK_yes {l : List (Int × Int × Int)} {p v : Int} {q : Nat} (h : q < l.length) (hk : (l[q].1 == p && l[q].2.1 == v) = false) : rdyK l p v (q + 1) = rdyK l p v q ++ [l[q]] := by
  unfold rdyK
  rw [List.take_succ_eq_append_getElem h, List.filter_append]
  simp only [List.filter_cons, hk, Bool.not_false, Bool.not_true, Bool.false_eq_true, ↓reduceIte, List.filter_nil, List.append_nil]
theorem rdyK_no {l : List (Int × Int × Int)} {p v : Int} {q : Nat} (h : q < l.length) (hk : (l[q].1 == p && l[q].2.1 == v) = true) : rdyK l p v (q + 1) = rdyK l p v q := by
  unfold rdyK
  rw [List.take_succ_eq_append_getElem h, List.filter_append]
  simp only [List.filter_cons, hk, Bool.not_false, Bool.not_true, Bool.false_eq_true, ↓reduceIte, List.filter_nil, List.append_nil]
theorem rdyK_all (l : List (Int × Int × Int)) (p v a : Int) : rdyK l p v l.length ++ [(p, v, a)] = rdyW l p v a := by simp [rdyK, rdyW]
theorem rdyK_len (l : List (Int × Int × Int)) (p v : Int) (q : Nat) : (rdyK l p v q).length ≤ l.length := Nat.le_trans (List.length_filter_le _ _) (by rw [List.length_take]; omega)
end Go.Ed
namespace Go.Proofs.Ytokdleanpkkdpaa
open Go.RowKit Go.Fh Go.Ed
theorem infoRrdy : (Try.prog.info? 161).map (fun i => (i.zero, i.size, i.bytes)) = some (some (.agg #[.int .i64 0, .int .i64 0, .int .i64 0]), 3, 24) := by kernel_rfl
theorem own_rw {W : World} {b : Nat} {e : TypeId} {s n m c : Nat} {A : Option Addr} {xs ys : List Value} (h : W.ownsRow b e s (.slice A n c) n xs) (hn : n = m) (hx : xs = ys) : W.ownsRow b e s (.slice A m c) m ys := by subst hn hx; exact h
theorem tit_z (W : World) (gR : Nat) (h : Blk W gR 88 #[.slice none 0 0, .slice none 0 0, .slice none 0 0, .slice none 0 0, .int .i64 0, .int .i64 0, .int .i64 0, .int .i64 0]) (v0 v1 v2 v3 v4 v5 v6 v7 : Value) :
    Blk ((((((((W.setCell ⟨gR, 0, none⟩ v0).setCell ⟨gR, 1, none⟩ v1).setCell ⟨gR, 2, none⟩ v2).setCell ⟨gR, 3, none⟩ v3).setCell ⟨gR, 4, none⟩ v4).setCell ⟨gR, 5, none⟩ v5).setCell ⟨gR, 6, none⟩ v6).setCell ⟨gR, 7, none⟩ v7) gR 88 #[v0, v1, v2, v3, v4, v5, v6, v7] := by
  have := (((((((h.set_ 0 v0).set_ 1 v1).set_ 2 v2).set_ 3 v3).set_ 4 v4).set_ 5 v5).set_ 6 v6).set_ 7 v7
  simpa using this
set_option maxRecDepth 20000 in
set_option maxHeartbeats 1500000 in
theorem rwith_any (t : TitD) (x : TA) (zs : List ZonM) (w : World) (hs : Sizes t) (hT : TitAt w w.heap.size t x zs) (p v a : Int) :
    Calls Try.prog 105 #[.agg (titV t x), .int .i64 p, .int .i64 v, .int .i64 a] w fun e w' => ∃ (r : Option Addr) (cr : Nat), e = .returned (.agg (titV (withT t p v a) (setX x r cr))) ∧ TitAt w' w'.heap.size (withT t p v a) (setX x r cr) zs ∧ Below w.heap.size w w' := by
  obtain ⟨w1, hw1⟩ : ∃ W, W = (w.alloc (.cells (titV t x) 88)).alloc (.cells #[.slice none 0 0, .slice none 0 0, .slice none 0 0, .slice none 0 0, .int .i64 0, .int .i64 0, .int .i64 0, .int .i64 0] 88) := ⟨_, rfl⟩
  have hb1 : Below w.heap.size w w1 := by rw [hw1]; exact balR (balR (Below.refl _ _) _) _
  obtain ⟨gT, hgT⟩ : ∃ g, g = w.heap.size := ⟨_, rfl⟩
  obtain ⟨gR, hgR⟩ : ∃ g, g = w.heap.size + 1 := ⟨_, rfl⟩
  have kT : Blk w1 gT 88 (titV t x) := by rw [hw1, hgT]; exact (blkAt rfl 88 _).alloc _
  have kR : Blk w1 gR 88 #[.slice none 0 0, .slice none 0 0, .slice none 0 0, .slice none 0 0, .int .i64 0, .int .i64 0, .int .i64 0, .int .i64 0] := by rw [hw1, hgR]; exact blkAt (by simp) 88 _
  have hgl := kT.lt
  have hgrl := kR.lt
  have hne : gR ≠ gT := by omega
  have hgT0 : w.heap.size ≤ gT := by omega
  have hgR0 : w.heap.size ≤ gR := by omega
  have s4 := hs.s4
  have HTT := Lib.hid hT
  have HB1 := Lib.hid hb1
  have HW1 := Lib.hid hw1
  have HGT := Lib.hid hgT
  have HGR := Lib.hid hgR
  have KT := Lib.hid kT
  have KR := Lib.hid kR
  clear hb1 hw1 hgT hgR kT kR hT hs
  unfold titV at *
  go_enter Try.func105, Try.ntmps105
  go_upto_region 1 with fail
  rw [← HW1.out, ← HGR.out, ← HGT.out]
  go_wp2_with fail
  go_loopw [9, 10] (fun u i wr => ∃ q : Nat, q ≤ t.ready.length ∧ i = .int .i64 q ∧ Hid (wr.ownsRow w1.heap.size 161 3 u (rdyK t.ready p v q).length ((rdyK t.ready p v q).flatMap enc3)) ∧ Hid (Below w1.heap.size w1 wr)) (fun _ i _ => t.ready.length - (intOf i).toNat)
  case atStart => exact ⟨0, Nat.zero_le _, rfl, Lib.hid (by simpa [rdyK] using World.ownsRow_nil _ _ _ _), Below.refl _ _⟩
  case round =>
    obtain ⟨q, hq, rfl, HV, HB⟩ := hrel
    obtain ⟨AR, cR, hvr⟩ := own_shape HV.out
    subst hvr
    have kr := KT.out.below HB.out hgl
    have r3 := kr.cell 3
    simp at r3
    have hKl := rdyK_len t.ready p v q
    by_cases hlt : q < t.ready.length
    · have hk3 := ((HTT.out.below (HB1.out.trans (HB.out.mono HB1.out.size))).cR).at3 hlt
      obtain ⟨yb, yo, hya, hyb, c0, c1, c2⟩ := hk3
      rw [hya] at r3
      have hyes := rdyK_yes (l := t.ready) (p := p) (v := v) hlt
      have hno := rdyK_no (l := t.ready) (p := p) (v := v) hlt
      obtain ⟨⟨pp, vv, aa⟩, hrq⟩ : ∃ r, r = t.ready[q] := ⟨_, rfl⟩
      rw [← hrq] at c0 c1 c2 hyes hno
      dsimp only at c0 c1 c2 hyes hno
      obtain ⟨n, hn⟩ : ∃ n, n = (rdyK t.ready p v q).length := ⟨_, rfl⟩
      obtain ⟨kl, hkl⟩ : ∃ l, l = rdyK t.ready p v q := ⟨_, rfl⟩
      rw [← hn] at hKl
      have hn2 : n = kl.length := by rw [hn, hkl]
      rw [← hkl] at HV hyes hno
      rw [← hn2] at HV
      obtain ⟨wq, hwq⟩ : ∃ W, W = wr := ⟨_, rfl⟩
      rw [← hwq] at HV HB r3 c0 c1 c2 ⊢
      have hsz := HB.out.size
      have HYES := Lib.hid hyes
      have HNO := Lib.hid hno
      have HN2 := Lib.hid hn2
      rw [← hkl]
      rw [← hn2]
      clear hrq hn hkl hwq kr hya hyes hno hn2
      obtain ⟨i0, hi, hq0, hq1, hq2⟩ := info_parts infoRrdy
      have HI := Lib.hid hi
      have hm1 : n + 1 ≤ maxLen := by simp only [maxLen]; omega
      have hm2 : (n + 1) * 24 ≤ 140737488355328 := by omega
      have i1 : (0 : Int) ≤ (q : Int) := by omega
      have i2 : (q : Int) < (t.ready.length : Int) := by omega
      clear hi
      cases h1 : (pp == p)
      · skip
        have HY := Lib.hid (HYES.out (by rw [h1]; rfl))
        go_wp2_with (at_builtin; refine wpList_append_lies _ rfl (.tmp 36) (.tmp 42) 86 rfl w1.heap.size 161 i0 _ 3 24 Try.underlying86 HI.out hq0 hq1 hq2 rfl (by decide) (.slice AR n cR) n (kl.flatMap enc3) rfl (HV.out.alloc _) ⟨wq.heap.size, 0, none⟩ 1 1 [.int .i64 pp, .int .i64 vv, .int .i64 aa] rfl rfl (news_of1 wq 161 #[.int .i64 pp, .int .i64 vv, .int .i64 aa]) (by intro u hu; simp at hu; rcases hu with rfl | rfl | rfl <;> rfl) (by decide) hm1 hm2 (by simp; omega) (wq.heap.size + 1) (by simp) ?_; intro g7 cap7 w7 hown7 hgrow7 hat7 hlt7; have hb7 := (HB.out.alloc hsz (.cells #[.int .i64 pp, .int .i64 vv, .int .i64 aa] 161)).grown hgrow7 (by simp; omega) (fun p hp => (HV.out.lt p hp).1); have HO7 := Lib.hid hown7; have HB7 := Lib.hid hb7; clear hown7 hgrow7 hat7 hb7 r3 c0 c1 c2)
        go_roundw
        case rel =>
          refine ⟨q + 1, by omega, by go_num, ?_, HB7.out⟩
          rw [HY.out, List.length_append, List.flatMap_append, ← HN2.out]
          exact Lib.hid HO7.out
        case measure => simp [intOf]; omega
      · have HYES2 := Lib.hid (fun (h2 : (vv == v) = false) => HYES.out (by rw [h1, h2]; rfl))
        have HNO2 := Lib.hid (fun (h2 : (vv == v) = true) => HNO.out (by rw [h1, h2]; rfl))
        obtain rfl : pp = p := by simpa using h1
        clear h1
        cases h2 : (vv == v)
        · skip
          have HY := Lib.hid (HYES2.out h2)
          go_wp2_with (at_builtin; refine wpList_append_lies _ rfl (.tmp 36) (.tmp 42) 86 rfl w1.heap.size 161 i0 _ 3 24 Try.underlying86 HI.out hq0 hq1 hq2 rfl (by decide) (.slice AR n cR) n (kl.flatMap enc3) rfl (HV.out.alloc _) ⟨wq.heap.size, 0, none⟩ 1 1 [.int .i64 pp, .int .i64 vv, .int .i64 aa] rfl rfl (news_of1 wq 161 #[.int .i64 pp, .int .i64 vv, .int .i64 aa]) (by intro u hu; simp at hu; rcases hu with rfl | rfl | rfl <;> rfl) (by decide) hm1 hm2 (by simp; omega) (wq.heap.size + 1) (by simp) ?_; intro g7 cap7 w7 hown7 hgrow7 hat7 hlt7; have hb7 := (HB.out.alloc hsz (.cells #[.int .i64 pp, .int .i64 vv, .int .i64 aa] 161)).grown hgrow7 (by simp; omega) (fun p hp => (HV.out.lt p hp).1); have HO7 := Lib.hid hown7; have HB7 := Lib.hid hb7; clear hown7 hgrow7 hat7 hb7 r3 c0 c1 c2)
          go_roundw
          case rel =>
            refine ⟨q + 1, by omega, by go_num, ?_, HB7.out⟩
            rw [HY.out, List.length_append, List.flatMap_append, ← HN2.out]
            exact Lib.hid HO7.out
          case measure => simp [intOf]; omega
        · skip
          have HY := Lib.hid (HNO2.out h2)
          obtain rfl : vv = v := by simpa using h2
          clear h2
          go_wp2_with fail
          go_roundw
          case rel =>
            refine ⟨q + 1, by omega, by go_num, ?_, HB.out⟩
            rw [HY.out, ← HN2.out]
            exact Lib.hid HV.out
          case measure => simp [intOf]; omega
    · obtain rfl : q = t.ready.length := by omega
      have hall := rdyK_all t.ready p v a
      obtain ⟨kl, hkl⟩ : ∃ l, l = rdyK t.ready p v t.ready.length := ⟨_, rfl⟩
      rw [← hkl] at HV hKl hall ⊢
      obtain ⟨n, hn⟩ : ∃ n, n = kl.length := ⟨_, rfl⟩
      rw [← hn] at HV hKl ⊢
      have hal : (rdyW t.ready p v a).length = n + 1 := by rw [← hall]; simp [hn]
      have HALL := Lib.hid hall
      have HAL := Lib.hid hal
      obtain ⟨i0, hi, hq0, hq1, hq2⟩ := info_parts infoRrdy
      have HI := Lib.hid hi
      have hm1 : n + 1 ≤ maxLen := by simp only [maxLen]; omega
      have hm2 : (n + 1) * 24 ≤ 140737488355328 := by omega
      have hsz := HB.out.size
      obtain ⟨wq, hwq⟩ : ∃ W, W = wr := ⟨_, rfl⟩
      rw [← hwq] at HV HB r3 kr hsz ⊢
      have KRR := Lib.hid (KR.out.below HB.out hgrl)
      have KTR := Lib.hid kr
      clear hkl hn hwq hi hall hal kr
      have hgTq : gT < wq.heap.size := Nat.lt_of_lt_of_le hgl hsz
      have hgRq : gR < wq.heap.size := Nat.lt_of_lt_of_le hgrl hsz
      have HBN := Lib.hid (show ∀ j, (Value.slice AR n cR).ownBlock = some j → w1.heap.size ≤ j from fun j e => (HV.out.lt j e).1)
      go_upto_region 8 with (at_builtin; refine wpList_append_lies _ rfl (.tmp 44) (.tmp 49) 86 rfl w1.heap.size 161 i0 _ 3 24 Try.underlying86 HI.out hq0 hq1 hq2 rfl (by decide) (.slice AR n cR) n (kl.flatMap enc3) rfl (HV.out.alloc _) ⟨wq.heap.size, 0, none⟩ 1 1 [.int .i64 p, .int .i64 v, .int .i64 a] rfl rfl (news_of1 wq 161 #[.int .i64 p, .int .i64 v, .int .i64 a]) (by intro u hu; simp at hu; rcases hu with rfl | rfl | rfl <;> rfl) (by decide) hm1 hm2 (by simp; omega) (wq.heap.size + 1) (by simp) ?_; intro g7 cap7 w7 hown7 hgrow7 hat7 hlt7; have HO7 := Lib.hid hown7; have hb7 := (HB.out.alloc hsz (.cells #[.int .i64 p, .int .i64 v, .int .i64 a] 161)).grown hgrow7 (by simp; omega) (fun p hp => HBN.out p hp); have HB7 := Lib.hid hb7; have kT7 := (KTR.out.alloc (.cells #[.int .i64 p, .int .i64 v, .int .i64 a] 161)).grown hgrow7 (fun e => by have := HBN.out _ e.symm; omega); have kR7 := (KRR.out.alloc (.cells #[.int .i64 p, .int .i64 v, .int .i64 a] 161)).grown hgrow7 (fun e => by have := HBN.out _ e.symm; omega); have KT7 := Lib.hid (kT7.set_ 3 (.slice (some ⟨g7, 0, none⟩) (n + 1) cap7)); have KR7 := Lib.hid (kR7.far (p := ⟨gT, 3, none⟩) (by exact hne) (.slice (some ⟨g7, 0, none⟩) (n + 1) cap7)); have HO8 := Lib.hid (own_far hown7 (p := ⟨gT, 3, none⟩) (fun e => by have h1 := (hown7.lt _ e.symm).1; simp at h1; omega) (.slice (some ⟨g7, 0, none⟩) (n + 1) cap7)); have f3 := kT7.frozen 3; have q3 := kT7.cell 3; simp at q3; clear r3 hown7 hgrow7 hat7 hb7 kT7 kR7)
      obtain ⟨w8, hw8⟩ : ∃ W, W = w7.setCell ⟨gT, 3, none⟩ (.slice (some ⟨g7, 0, none⟩) (n + 1) cap7) := ⟨_, rfl⟩
      rw [← hw8] at HO8 KT7 KR7 ⊢
      have HB8 := Lib.hid (show Below w.heap.size w w8 from by rw [hw8]; exact (HB1.out.trans (HB7.out.mono HB1.out.size)).setCell (by exact hgT0) _)
      clear hw8 f3 q3
      have hT8 := KT7.out
      have hR8 := KR7.out
      have r0 := hT8.cell 0
      have r1 := hT8.cell 1
      have r2 := hT8.cell 2
      have r3 := hT8.cell 3
      have r4 := hT8.cell 4
      have r5 := hT8.cell 5
      have r6 := hT8.cell 6
      have r7 := hT8.cell 7
      have b0 := hR8.cell 0
      have y0 := hR8.frozen 0
      have b1 := hR8.cell 1
      have y1 := hR8.frozen 1
      have b2 := hR8.cell 2
      have y2 := hR8.frozen 2
      have b3 := hR8.cell 3
      have y3 := hR8.frozen 3
      have b4 := hR8.cell 4
      have y4 := hR8.frozen 4
      have b5 := hR8.cell 5
      have y5 := hR8.frozen 5
      have b6 := hR8.cell 6
      have y6 := hR8.frozen 6
      have b7 := hR8.cell 7
      have y7 := hR8.frozen 7
      simp at r0 r1 r2 r3 r4 r5 r6 r7 b0 b1 b2 b3 b4 b5 b6 b7
      have kf := ((((((((hR8.set_ 0 (.slice x.a t.colours.length x.ca)).set_ 1 (.slice x.b t.pairs.length x.cb)).set_ 2 (.slice x.z t.zones.length x.cz)).set_ 3 (.slice (some ⟨g7, 0, none⟩) (n + 1) cap7)).set_ 4 (.int .i64 t.start)).set_ 5 (.int .i64 t.rate)).set_ 6 (.int .i64 t.stop)).set_ 7 (.int .i64 t.hang))
      have HNE7 := Lib.hid (show some gR ≠ (Value.slice (some ⟨g7, 0, none⟩) (n + 1) cap7).ownBlock from own_blk_ne HO8.out hR8 (by decide))
      have HBF := Lib.hid ((((((((HB8.out.setCell (p := ⟨gR, 0, none⟩) (by exact hgR0) (.slice x.a t.colours.length x.ca)).setCell (p := ⟨gR, 1, none⟩) (by exact hgR0) (.slice x.b t.pairs.length x.cb)).setCell (p := ⟨gR, 2, none⟩) (by exact hgR0) (.slice x.z t.zones.length x.cz)).setCell (p := ⟨gR, 3, none⟩) (by exact hgR0) (.slice (some ⟨g7, 0, none⟩) (n + 1) cap7)).setCell (p := ⟨gR, 4, none⟩) (by exact hgR0) (.int .i64 t.start)).setCell (p := ⟨gR, 5, none⟩) (by exact hgR0) (.int .i64 t.rate)).setCell (p := ⟨gR, 6, none⟩) (by exact hgR0) (.int .i64 t.stop)).setCell (p := ⟨gR, 7, none⟩) (by exact hgR0) (.int .i64 t.hang))
      have HOF := Lib.hid (own_far (own_far (own_far (own_far (own_far (own_far (own_far (own_far HO8.out (p := ⟨gR, 0, none⟩) (by exact HNE7.out) (.slice x.a t.colours.length x.ca)) (p := ⟨gR, 1, none⟩) (by exact HNE7.out) (.slice x.b t.pairs.length x.cb)) (p := ⟨gR, 2, none⟩) (by exact HNE7.out) (.slice x.z t.zones.length x.cz)) (p := ⟨gR, 3, none⟩) (by exact HNE7.out) (.slice (some ⟨g7, 0, none⟩) (n + 1) cap7)) (p := ⟨gR, 4, none⟩) (by exact HNE7.out) (.int .i64 t.start)) (p := ⟨gR, 5, none⟩) (by exact HNE7.out) (.int .i64 t.rate)) (p := ⟨gR, 6, none⟩) (by exact HNE7.out) (.int .i64 t.stop)) (p := ⟨gR, 7, none⟩) (by exact HNE7.out) (.int .i64 t.hang))
      clear hT8 hR8
      go_wp2_with fail
      refine bodyPost_ret (v := .agg #[.slice x.a t.colours.length x.ca, .slice x.b t.pairs.length x.cb, .slice x.z t.zones.length x.cz, .slice (some ⟨g7, 0, none⟩) (n + 1) cap7, .int .i64 t.start, .int .i64 t.rate, .int .i64 t.stop, .int .i64 t.hang]) ?_ rfl ⟨some ⟨g7, 0, none⟩, cap7, ?_, ?_, ?_⟩
      · have c0 := kf.cell 0
        have c1 := kf.cell 1
        have c2 := kf.cell 2
        have c3 := kf.cell 3
        have c4 := kf.cell 4
        have c5 := kf.cell 5
        have c6 := kf.cell 6
        have c7 := kf.cell 7
        simp at c0 c1 c2 c3 c4 c5 c6 c7
        clear r0 r1 r2 r3 r4 r5 r6 r7 b0 b1 b2 b3 b4 b5 b6 b7 y0 y1 y2 y3 y4 y5 y6 y7
        generalize World.setCell _ _ _ = W at c0 c1 c2 c3 c4 c5 c6 c7 ⊢
        simp [results, Try.results105, go_sem, c0, c1, c2, c3, c4, c5, c6, c7]
      · show _ = Ending.returned (.agg #[.slice x.a t.colours.length x.ca, .slice x.b t.pairs.length x.cb, .slice x.z t.zones.length x.cz, .slice (some ⟨g7, 0, none⟩) (rdyW t.ready p v a).length cap7, .int .i64 t.start, .int .i64 t.rate, .int .i64 t.stop, .int .i64 t.hang])
        rw [HAL.out]
      · have hTF := (HTT.out.below HBF.out).mono HBF.out.size
        refine ⟨hTF.zeq, hTF.cA, hTF.cB, hTF.cZ, hTF.cV, ?_⟩
        have hx : kl.flatMap enc3 ++ [.int .i64 p, .int .i64 v, .int .i64 a] = (rdyW t.ready p v a).flatMap enc3 := by rw [← HALL.out]; simp [enc3]
        exact Sl.of_own (enc := enc3) (l := rdyW t.ready p v a) (fun _ => rfl) (own_rw HOF.out HAL.out.symm hx)
      · exact HBF.out
end Go.Proofs.Ytokdleanpkkdpaa
