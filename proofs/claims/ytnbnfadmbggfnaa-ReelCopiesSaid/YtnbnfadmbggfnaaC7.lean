/- Contract of thrown; conditions: a right press in memory. -/
import Derived.Test.YtnbnfadmbggfnaaCB
import Derived.Test.YtnbnfadmbggfnaaC8
set_option linter.unusedSimpArgs false
set_option linter.unusedVariables false
namespace Go.Rl
open Go.Fh Go.RowKit
/-- between two splices: the row of spans, its box, and the blocks that stay -/
def IThr (B : Nat) (w : Go.World) (d : Nat) (Bs : List (Nat × Go.Obj)) (L0 : List (Int × Int)) (f : Int → List (Int × Int)) (pre : List Int) (W : Go.World) : Prop :=
  ∃ vv, Go.Boxed W (B + 2) 31 vv ∧ W.ownsRow B 43 2 vv (L0 ++ pre.flatMap f).length ((L0 ++ pre.flatMap f).flatMap enc2) ∧ (∀ r, d ≤ r → r ≤ d + 2 → vv.ownBlock ≠ some r) ∧ Below B w W ∧ Cov Bs W
theorem cov_grow {Bs : List (Nat × Go.Obj)} {X Y : Go.World} {r : Nat} (h : Cov Bs X) (hg : X.grownBy Y (some r)) (hr : ∀ b ∈ Bs, b.1 ≠ r) : Cov Bs Y := fun b hb =>
  (hg.block b.1 (lt_of_heap (h b hb)) (fun e => hr b hb (by injection e))).trans (h b hb)
theorem cov_below {Bs : List (Nat × Go.Obj)} {X Y : Go.World} (h : Cov Bs X) (hg : Below X.heap.size X Y) : Cov Bs Y := fun b hb => (hg.block b.1 (lt_of_heap (h b hb))).trans (h b hb)
theorem bset {w W : Go.World} {b : Nat} (h : Below w.heap.size w W) (hb : w.heap.size ≤ b) (o : Nat) (u : Go.Value) : Below w.heap.size w (W.setCell ⟨b, o, none⟩ u) :=
  h.grown (gr_set W b o u) h.size (fun j hj => by injection hj with hj; omega)
section
variable {B d : Nat} {w : Go.World} {Bs : List (Nat × Go.Obj)} {L0 : List (Int × Int)} {f : Int → List (Int × Int)} {pre : List Int}
theorem ithr_grow {X Y : Go.World} {r : Nat} (hd : B + 3 ≤ d) (hB : ∀ b ∈ Bs, b.1 < d) (h1 : d ≤ r) (h2 : r ≤ d + 2) (h : IThr B w d Bs L0 f pre X) (hg : X.grownBy Y (some r)) (hw : B = w.heap.size) : IThr B w d Bs L0 f pre Y := by
  obtain ⟨vv, q1, q2, q3, q4, q5⟩ := h
  subst hw
  exact ⟨vv, q1.kept hg (fun e => by injection e with e; omega), q2.kept hg (.inr (q3 r h1 h2)), q3, q4.grown hg q4.size (fun j hj => by injection hj with hj; omega), cov_grow q5 hg fun b hb e => by have := hB b hb; omega⟩
theorem ithr_end {W W2 W' : Go.World} {vv vv' : Go.Value} {L : List (Int × Int)} {x : Int} (hd : B + 3 ≤ d) (hsz : d + 2 < W.heap.size) (hg2 : W.grownBy W2 (some (d + 1))) (hB : ∀ b ∈ Bs, b.1 < d ∧ b.1 ≠ B + 2 ∧ ∀ cs fr, b.2 ≠ .cells cs 43 fr)
    (hbx : Go.Boxed W2 (B + 2) 31 vv) (hrow : W2.ownsRow B 43 2 vv L.length (L.flatMap enc2)) (hv : ∀ r, d ≤ r → r ≤ d + 2 → vv.ownBlock ≠ some r) (hb : Below B w W) (hc : Cov Bs W)
    (hk : Keeps W2 W' (B + 2) vv) (h1 : Go.Boxed W' (B + 2) 31 vv') (h2 : W'.ownsRow B 43 2 vv' (L ++ f x).length ((L ++ f x).flatMap enc2)) (h3 : ∀ r, d ≤ r → r ≤ d + 2 → vv'.ownBlock ≠ some r) (hL : L = L0 ++ pre.flatMap f) :
    Two d W2 W' ∧ KpI B (d + 2) W W' ∧ IThr B w d Bs L0 f (pre ++ [x]) W' := by
  have h := rnd_end (lo := B) (w := B) hg2 hk hrow hv (Nat.le_refl _) (by omega) (by omega) (fun cs fr e => by
    have e0 : W2.heap[B + 2]? = some (.cells #[vv] 31 (0, 0)) := hbx
    rw [e0] at e
    injection e with e
    injection e with _ e _
    exact absurd e (by decide)) hsz hc hB
  have e : L0 ++ (pre ++ [x]).flatMap f = L ++ f x := by rw [hL, List.flatMap_append]; simp
  refine ⟨h.1, h.2.1, vv', h1, ?_, h3, hb.trans h.2.2.2, h.2.2.1⟩
  rw [e]; exact h2
end
theorem app_end {W2 wB w9 : Go.World} {B : Nat} {vv v9 : Go.Value} {nL : Nat} {xs : List Go.Value} {cs : Array Go.Value} (hb : Below W2.heap.size W2 wB) (hbx : Go.Boxed W2 (B + 2) 31 vv) (hrow : W2.ownsRow B 43 2 vv nL xs) (hg : (wB.alloc (.cells cs 43)).grownBy w9 vv.ownBlock) :
    Go.Boxed w9 (B + 2) 31 vv ∧ Keeps W2 (w9.setCell ⟨B + 2, 0, none⟩ v9) (B + 2) vv := by
  have hne : some (B + 2) ≠ vv.ownBlock := hbx.not_row (by decide) hrow
  have h1 : Below W2.heap.size W2 (wB.alloc (.cells cs 43)) := balR hb _
  have hk : ∀ j, j < W2.heap.size → vv.ownBlock ≠ some j → w9.heap[j]? = W2.heap[j]? := fun j hj hv => by
    rw [hg.block j (Nat.lt_of_lt_of_le hj h1.size) (fun e => hv e.symm), h1.block j hj]
  refine ⟨?_, hg.os.trans h1.os, hg.tape.trans h1.tape, hg.output.trans h1.output, ?_, fun j hj h2 h3 => ?_⟩
  · exact (hk _ hbx.lt (fun e => hne e.symm)).trans hbx
  · have := h1.size; have := hg.size; simp [Go.World.setCell]; omega
  · rw [Below.heap_setCell w9 _ v9 j (by exact h2)]; exact hk j hj h3
end Go.Rl
namespace Go.Proofs.Ytnbnfadmbggfnaa
open Go.RowKit Go.Fh Go.Rl Go.Shelf
attribute [local go_sem] Oper.semAt_some
set_option maxRecDepth 100000 in
set_option maxHeartbeats 8000000 in
theorem thrown_any (p : PrsD) (A : Option Addr) (c m : Nat) (ms : List WebM) (w : World) (hp : PrsOk p) (hT : PrsAt w w.heap.size p A ms) (hm : m = ms.length) (n : Int) (hn0 : 0 ≤ n) (hn1 : n ≤ 1000000000) :
    Calls Try.prog 42 #[.agg #[.int .i64 p.cut, .int .i64 p.margin, .slice A m c], .int .i64 n] w fun e w' => ∃ A' c', e = .returned (.slice A' (thrP p n).length c') ∧ w'.ownsRow w.heap.size 43 2 (.slice A' (thrP p n).length c') (thrP p n).length ((thrP p n).flatMap enc2) ∧ Hid (Below w.heap.size w w') := by
  obtain ⟨w1, hw1⟩ : ∃ W, W = w.alloc (.cells #[.int .i64 p.cut, .int .i64 p.margin, .slice A m c] 26) := ⟨_, rfl⟩
  obtain ⟨w3, hw3⟩ : ∃ W, W = (w1.alloc (.cells #[.int .i64 n] 3)).alloc (.cells #[.slice none 0 0] 31) := ⟨_, rfl⟩
  obtain ⟨B, hB⟩ : ∃ g, g = w.heap.size := ⟨_, rfl⟩
  have hs1 : w1.heap.size = B + 1 := by rw [hw1, hB]; simp
  have hs3 : w3.heap.size = B + 3 := by rw [hw3]; simp [hs1]
  have hb3 : Below B w w3 := by rw [hw3, hw1, hB]; exact balR (balR (balR (Below.refl _ _) _) _) _
  have kc : Cov [(B, .cells #[.int .i64 p.cut, .int .i64 p.margin, .slice A m c] 26 (0, 0)), (B + 1, .cells #[.int .i64 n] 3 (0, 0))] w3 := by
    have a0 : Blk w3 B 26 #[.int .i64 p.cut, .int .i64 p.margin, .slice A m c] := by rw [hw3, hw1, hB]; exact ((Blk.new _ _ _).alloc _).alloc _
    have a1 : Blk w3 (B + 1) 3 #[.int .i64 n] := by rw [hw3]; exact (blkAt hs1 _ _).alloc _
    intro b hb
    simp only [List.mem_cons, List.not_mem_nil, or_false] at hb
    rcases hb with rfl | rfl
    · exact a0
    · exact a1
  have b5 : Boxed w3 (B + 2) 31 (.slice none 0 0) := by rw [hw3]; exact blkAt (by simp [hs1]) _ _
  have HT := Lib.hid (fun W (hb : Below B w W) => (hT.below (by rw [hB] at hb; exact hb) : PrsAt W w.heap.size p A ms))
  have HP := Lib.hid hp
  have hml : m = p.webs.length := by rw [hm, hT.len]
  have HM := Lib.hid hm
  have HML := Lib.hid hml
  have hm6 := hp.n1
  rw [← hml] at hm6
  have HB3 := Lib.hid hb3
  have HKC := Lib.hid kc
  have HB5 := Lib.hid b5
  have HW3 := Lib.hid hw3
  have HW1 := Lib.hid hw1
  have HBB := Lib.hid hB
  have HS3 := Lib.hid hs3
  have r2 : w3.cell? ⟨B, 2, none⟩ = some (.slice A m c) := by
    have a0 : Blk w3 B 26 #[.int .i64 p.cut, .int .i64 p.margin, .slice A m c] := kc (B, .cells #[.int .i64 p.cut, .int .i64 p.margin, .slice A m c] 26 (0, 0)) (by simp)
    have := a0.cell 2
    simpa using this
  have HS1 := Lib.hid hs1
  clear hT hp hm hml hb3 kc b5 hw3 hw1 hB hs3 hs1
  obtain ⟨i0, hi, hz0, hz1, hz2⟩ := info_parts infoSp
  have HI := Lib.hid hi
  clear hi
  refine (callsIn_wide (n := 3)).1 ?_
  refine callsIn_of_wp_marks Try.func42 rfl trivial ?_ rfl
  simp only [Try.ntmps42, List.size_toArray, List.length_cons, List.length_nil, Nat.reduceAdd, Nat.reduceSub, Array.replicate_succ, Array.replicate_zero, List.push_toArray, List.append_toArray, List.nil_append, List.cons_append]
  gi_upto_region 2 with fail
  rw [← HW1.out, ← HBB.out]
  rw [show B + 1 + 1 = B + 2 from rfl, ← HW3.out]
  gi_wp2
  refine wpIn_loop (fun a wr => ∃ (q : Nat) (rs : List Nat) (u7 u8 u9 u14 u15 u16 u17 u18 u19 u20 u21 u22 u23 u24 u25 u26 u27 u28 u29 u30 u31 u32 u33 u34 u35 u36 u37 u38 u39 u40 u41 u42 u43 u44 u45 u46 u47 u48 u49 u50 u51 u52 u53 u54 u55 u56 u57 u58 u59 u60 u61 u62 u63 u64 u65 u66 u67 u68 u69 u70 u71 u72 u73 : Value), Hid (q ≤ m) ∧ Hid (rs.Nodup ∧ ∀ r ∈ rs, w3.heap.size ≤ r ∧ wr.heap[r]? = some (.deferred (some []))) ∧ Hid (∃ vv, Boxed wr (B + 2) 31 vv ∧ wr.ownsRow B 43 2 vv (rawK p n q).length ((rawK p n q).flatMap enc2)) ∧ Hid (Below B w wr) ∧ Hid (B + 3 ≤ wr.heap.size) ∧ Hid (Cov [(B, .cells #[.int .i64 p.cut, .int .i64 p.margin, .slice A m c] 26 (0, 0)), (B + 1, .cells #[.int .i64 n] 3 (0, 0))] wr) ∧ a = { tmps := List.toArray [.agg #[.int .i64 p.cut, .int .i64 p.margin, .slice A m c], .int .i64 n, .pointer (some ⟨B, 0, none⟩), .pointer (some ⟨B + 1, 0, none⟩), .slice none 0 0, .pointer (some ⟨B + 2, 0, none⟩), undef, u7, u8, u9, .pointer (some ⟨B, 2, none⟩), .slice A m c, .int .i64 (m : Int), .int .i64 (q : Int), u14, u15, u16, u17, u18, u19, u20, u21, u22, u23, u24, u25, u26, u27, u28, u29, u30, u31, u32, u33, u34, u35, u36, u37, u38, u39, u40, u41, u42, u43, u44, u45, u46, u47, u48, u49, u50, u51, u52, u53, u54, u55, u56, u57, u58, u59, u60, u61, u62, u63, u64, u65, u66, u67, u68, u69, u70, u71, u72, u73, undef, undef], defers := rs.map Go.Rl.mark }) (fun a _ => m - (intOf (a.tmps.getD 13 undef)).toNat) ?start ?round
  case start =>
    exact ⟨0, [], undef, undef, undef, undef, undef, undef, undef, undef, undef, undef, undef, undef, undef, undef, undef, undef, undef, undef, undef, undef, undef, undef, undef, undef, undef, undef, undef, undef, undef, undef, undef, undef, undef, undef, undef, undef, undef, undef, undef, undef, undef, undef, undef, undef, undef, undef, undef, undef, undef, undef, undef, undef, undef, undef, undef, undef, undef, undef, undef, undef, undef, undef, undef, Nat.zero_le _, ⟨List.nodup_nil, fun r hr => by simp at hr⟩, ⟨_, HB5.out, World.ownsRow_nil _ _ _ _⟩, HB3.out, Nat.le_of_eq HS3.out.symm, HKC.out, rfl⟩
  case round =>
    clear r2
    rintro a wr ⟨q, rs, u7, u8, u9, u14, u15, u16, u17, u18, u19, u20, u21, u22, u23, u24, u25, u26, u27, u28, u29, u30, u31, u32, u33, u34, u35, u36, u37, u38, u39, u40, u41, u42, u43, u44, u45, u46, u47, u48, u49, u50, u51, u52, u53, u54, u55, u56, u57, u58, u59, u60, u61, u62, u63, u64, u65, u66, u67, u68, u69, u70, u71, u72, u73, HQ, HRS, HROW, HBL, HSZ, HC, rfl⟩
    dsimp only
    by_cases hlt : q < m
    · have hkm : q < ms.length := by have := HM.out; omega
      have hkp : q < p.webs.length := by have := HML.out; omega
      have hT2 := HT.out wr HBL.out
      obtain ⟨b, off, hba, hbb, c0, c1, c2, c3⟩ := web_at hT2.cW hkm
      subst hba
      have hwe : ms[q].1 = p.webs[q] := by
        have h1 : (ms.map (·.1))[q]'(by simpa using hkm) = p.webs[q] := List.getElem_of_eq hT2.eq _
        rw [List.getElem_map] at h1; exact h1
      have hwo := HP.out.w p.webs[q] (List.getElem_mem hkp)
      have hcw := (HT.out w (by rw [HBB.out]; exact Below.refl _ _)).cR q hkm
      have hrs := rawK_s n hkp
      rw [← hwe] at hwo hrs
      obtain ⟨⟨v, vA, vc⟩, hv⟩ : ∃ v, v = ms[q] := ⟨_, rfl⟩
      rw [← hv] at c0 c1 c2 c3 hwo hrs hcw
      dsimp only at c0 c1 c2 c3 hwo hrs hcw
      have HWO := Lib.hid hwo
      have HRW := Lib.hid hrs
      have HCR := Lib.hid (show Sl encReel 4 w w.heap.size vA v.reels from hcw)
      clear hwe hv hrs hcw hT2 hwo
      obtain ⟨g7, hg7⟩ : ∃ g, g = wr.heap.size := ⟨_, rfl⟩
      obtain ⟨w5, hw5⟩ : ∃ W, W = wr.alloc (.cells #[.slice vA v.reels.length vc, .int .i64 v.off, .int .i64 v.bef, .int .i64 v.aft] 41) := ⟨_, rfl⟩
      have k7 : Blk w5 g7 41 #[.slice vA v.reels.length vc, .int .i64 v.off, .int .i64 v.bef, .int .i64 v.aft] := by rw [hw5, hg7]; exact Blk.new _ _ _
      obtain ⟨W7, hW7⟩ : ∃ W, W = w5.alloc (.cells #[.slice vA v.reels.length vc, .int .i64 v.off, .int .i64 v.bef, .int .i64 v.aft] 41) := ⟨_, rfl⟩
      obtain ⟨gW, hgW⟩ : ∃ g, g = w5.heap.size := ⟨_, rfl⟩
      have kW : Blk W7 gW 41 #[.slice vA v.reels.length vc, .int .i64 v.off, .int .i64 v.bef, .int .i64 v.aft] := by rw [hW7, hgW]; exact Blk.new _ _ _
      have k77 : Blk W7 g7 41 #[.slice vA v.reels.length vc, .int .i64 v.off, .int .i64 v.bef, .int .i64 v.aft] := by rw [hW7]; exact k7.alloc _
      have hs5 : w5.heap.size = g7 + 1 := by rw [hw5, hg7]; simp
      have hs7 : W7.heap.size = g7 + 2 := by rw [hW7]; simp [hs5]
      have hb7 : Below wr.heap.size wr W7 := by rw [hW7, hw5]; exact balR (balR (Below.refl _ _) _) _
      have y0 := k7.cell 0
      have y1 := k7.cell 1
      have y2 := k7.cell 2
      have y3 := k7.cell 3
      simp at y0 y1 y2 y3
      have HB7 := Lib.hid hb7
      have HW7 := Lib.hid hW7
      have HW5 := Lib.hid hw5
      have HG7 := Lib.hid hg7
      have HGW := Lib.hid hgW
      have HKW := Lib.hid kW
      have HK7 := Lib.hid k77
      have HS7 := Lib.hid hs7
      have j0 : (0 : Int) ≤ (q : Int) := by omega
      have j1 : (q : Int) < (m : Int) := by omega
      clear hb7 hW7 hw5 hg7 hgW kW k77 hs7 hs5 k7
      gi_upto_region 5 with fail
      rw [← HW5.out, ← HG7.out]
      clear c0 c1 c2 c3
      gi_wp2_with (refine ⟨trivial, ?_⟩; gi_at_call 50; refine (callsIn_wide.2 (splices50_any _ _ rfl)).mono ?_; rintro e wz ⟨rfl, hwz⟩; have HWZ := Lib.hid hwz; clear hwz)
      obtain rfl : wz = W7 := HWZ.out.trans HW7.out.symm
      rw [← HGW.out]
      have HBS := Lib.hid (show ∀ bb ∈ ((B, .cells #[.int .i64 p.cut, .int .i64 p.margin, .slice (some ⟨b, off, none⟩) m c] 26 (0, 0)) :: (B + 1, .cells #[.int .i64 n] 3 (0, 0)) :: (g7, .cells #[.slice vA v.reels.length vc, .int .i64 v.off, .int .i64 v.bef, .int .i64 v.aft] 41 (0, 0)) :: rs.map (fun r => (r, Obj.deferred (some [])))), bb.1 < wz.heap.size ∧ bb.1 ≠ B + 2 ∧ ∀ cs fr, bb.2 ≠ .cells cs 43 fr from by
        have h1 := HSZ.out
        have h2 := HS7.out
        have h3 := HG7.out
        intro b hb
        simp only [List.mem_cons, List.mem_map] at hb
        rcases hb with rfl | rfl | rfl | ⟨r, hr, rfl⟩
        · exact ⟨by dsimp only; omega, by dsimp only; omega, fun cs fr e => by injection e with _ e _; exact absurd e (by decide)⟩
        · exact ⟨by dsimp only; omega, by dsimp only; omega, fun cs fr e => by injection e with _ e _; exact absurd e (by decide)⟩
        · exact ⟨by dsimp only; omega, by dsimp only; omega, fun cs fr e => by injection e with _ e _; exact absurd e (by decide)⟩
        · have h4 := (HRS.out.2 r hr).1
          have h5 := lt_of_heap (HRS.out.2 r hr).2
          have h6 := HS3.out
          exact ⟨by dsimp only; omega, by dsimp only; omega, fun cs fr e => by cases e⟩)
      have HD3 := Lib.hid (show B + 3 ≤ wz.heap.size from by have := HS7.out; have := HSZ.out; have := HG7.out; omega)
      have h0 : IThr B w wz.heap.size ((B, .cells #[.int .i64 p.cut, .int .i64 p.margin, .slice (some ⟨b, off, none⟩) m c] 26 (0, 0)) :: (B + 1, .cells #[.int .i64 n] 3 (0, 0)) :: (g7, .cells #[.slice vA v.reels.length vc, .int .i64 v.off, .int .i64 v.bef, .int .i64 v.aft] 41 (0, 0)) :: rs.map (fun r => (r, Obj.deferred (some [])))) (rawK p n q) (spnS p n v) [] wz := by
        obtain ⟨vv, q1, q2⟩ := HROW.out
        refine ⟨vv, q1.kept (gr_below HB7.out none) (by simp), ?_, fun r h1 h2 e => ?_, HBL.out.trans (HB7.out.mono (by have := HSZ.out; omega)), fun b hb => ?_⟩
        · rw [List.flatMap_nil, List.append_nil]; exact own_belowV q2 HB7.out
        · have := (q2.lt r e).2; have := HS7.out; have := HG7.out; omega
        · simp only [List.mem_cons, List.mem_map] at hb
          rcases hb with rfl | rfl | rfl | ⟨r, hr, rfl⟩
          · exact cov_below HC.out HB7.out _ (by simp)
          · exact cov_below HC.out HB7.out _ (by simp)
          · exact HK7.out
          · exact (HB7.out.block r (lt_of_heap (HRS.out.2 r hr).2)).trans (HRS.out.2 r hr).2
      have HSEQ := Lib.hid (splices_in 2 (by omega) v vA vc gW w wz HWO.out HCR.out (by rw [← HBB.out]; exact HBL.out.trans (HB7.out.mono (by have := HSZ.out; omega))) HKW.out (fun x => 0 ≤ x ∧ x ≤ 400000000) (fun i hi => plcF_bd HWO.out.r HWO.out.n hi))
      refine range_cell rfl (by omega) (gf := 95) (lb := #[.pointer (some ⟨gW, 0, none⟩)]) rfl trivial (enters_of Try.func95 (by kernel_rfl) rfl)
        HSEQ.out (Below.refl _ _) (fun _ => rfl) ?kl (IThr B w wz.heap.size ((B, .cells #[.int .i64 p.cut, .int .i64 p.margin, .slice (some ⟨b, off, none⟩) m c] 26 (0, 0)) :: (B + 1, .cells #[.int .i64 n] 3 (0, 0)) :: (g7, .cells #[.slice vA v.reels.length vc, .int .i64 v.off, .int .i64 v.bef, .int .i64 v.aft] 41 (0, 0)) :: rs.map (fun r => (r, Obj.deferred (some [])))) (rawK p n q) (spnS p n v)) (fun _ _ _ => False) ?hI (fun _ _ _ _ _ _ _ h _ => h) h0 ?round ?done (fun _ _ _ _ h _ => h.elim)
      case kl =>
        rintro X Y Z hsz ⟨h1, h2⟩ hg
        have h3 := HBB.out
        have h4 := HD3.out
        have h5 := h1.size
        exact ⟨h1.grown hg (by omega) (fun j hj => by injection hj with hj; omega), fun g cs hg2 hk => (h2 g cs hg2 hk).grown hg (fun e => by injection e with e; omega)⟩
      case hI => exact fun s X Y r h1 h2 h hg => ithr_grow HD3.out (fun b hb => (HBS.out b hb).1) h1 h2 h hg HBB.out
      case done =>
        rintro xs W rfl ⟨vv, q1, q2, q3, q4, q5⟩ hK
        have hs7 := q4.size
        gi_wp2
        go_roundw
        case rel =>
          refine ⟨q + 1, wz.heap.size :: rs, _, _, _, _, _, _, _, _, _, _, _, _, _, _, _, _, _, _, _, _, _, _, _, _, _, _, _, _, _, _, _, _, _, _, _, _, _, _, _, _, _, _, _, _, _, _, _, _, _, _, _, _, _, _, _, _, _, _, _, _, _, _, _, ?_, ⟨?_, ?_⟩, ⟨vv, q1, ?_⟩, q4, ?_, ?_, rfl⟩
          · show q + 1 ≤ m; omega
          · exact List.nodup_cons.2 ⟨fun h => by have := (HBS.out (wz.heap.size, Obj.deferred (some [])) (by simp [h])).1; simp at this, HRS.out.1⟩
          · intro r hr
            rcases List.mem_cons.1 hr with rfl | hr
            · exact ⟨by have := HS3.out; have := HD3.out; omega, hK⟩
            · exact ⟨(HRS.out.2 r hr).1, q5 (r, Obj.deferred (some [])) (by simp [hr])⟩
          · have e : rawK p n (q + 1) = rawK p n q ++ (plcs v.reels).flatMap (spnS p n v) := HRW.out
            rw [e]; exact q2
          · have := lt_of_heap hK; have := HD3.out; show B + 3 ≤ W.heap.size; omega
          · intro b hb
            exact q5 b (by simp at hb ⊢; rcases hb with h | h <;> simp [h])
        case measure => simp [intOf]; omega
      case round =>
        rintro l pre x W ⟨hx0, hx1⟩ ⟨vv, q1, q2, q3, q4, q5⟩ hlen hsz
        dsimp only [encsI]
        gi_wp2
        refine ⟨⟨rfl, rfl⟩, fun W2 hg2 hs2 => ?_⟩
        obtain ⟨d, hd⟩ : ∃ d, d = wz.heap.size := ⟨_, rfl⟩
        rw [← hd] at q3 hsz hg2 ⊢
        have hd3 : B + 3 ≤ d := by rw [hd]; exact HD3.out
        have hbs : ∀ bb ∈ ((B, .cells #[.int .i64 p.cut, .int .i64 p.margin, .slice (some ⟨b, off, none⟩) m c] 26 (0, 0)) :: (B + 1, .cells #[.int .i64 n] 3 (0, 0)) :: (g7, .cells #[.slice vA v.reels.length vc, .int .i64 v.off, .int .i64 v.bef, .int .i64 v.aft] 41 (0, 0)) :: rs.map (fun r => (r, Obj.deferred (some [])))), bb.1 < d ∧ bb.1 ≠ B + 2 ∧ ∀ cs fr, bb.2 ≠ .cells cs 43 fr := by rw [hd]; exact HBS.out
        have b5 : Boxed W2 (B + 2) 31 vv := q1.kept hg2 (fun e => by injection e with e; omega)
        obtain ⟨L, hL⟩ : ∃ L, L = rawK p n q ++ pre.flatMap (spnS p n v) := ⟨_, rfl⟩
        rw [← hL] at q2
        have row2 : W2.ownsRow B 43 2 vv L.length (L.flatMap enc2) := q2.kept hg2 (.inr (q3 (d + 1) (by omega) (by omega)))
        have hLl : L.length ≤ 200 := by
          rw [hL, List.length_append]
          have h1 := rawK_len n (fun v hv => (HP.out.w v hv).n) (p := p) q
          have h2 := spns_len p n v pre
          have h3 := HWO.out.n
          omega
        have hc2 : Cov ((B, .cells #[.int .i64 p.cut, .int .i64 p.margin, .slice (some ⟨b, off, none⟩) m c] 26 (0, 0)) :: (B + 1, .cells #[.int .i64 n] 3 (0, 0)) :: (g7, .cells #[.slice vA v.reels.length vc, .int .i64 v.off, .int .i64 v.bef, .int .i64 v.aft] 41 (0, 0)) :: rs.map (fun r => (r, Obj.deferred (some [])))) W2 := cov_grow q5 hg2 (fun b hb => by have := (hbs b hb).1; omega)
        have g7k : Blk W2 g7 41 #[.slice vA v.reels.length vc, .int .i64 v.off, .int .i64 v.bef, .int .i64 v.aft] := hc2 (g7, .cells #[.slice vA v.reels.length vc, .int .i64 v.off, .int .i64 v.bef, .int .i64 v.aft] 41 (0, 0)) (by simp)
        have gBk : Blk W2 B 26 #[.int .i64 p.cut, .int .i64 p.margin, .slice (some ⟨b, off, none⟩) m c] := hc2 (B, .cells #[.int .i64 p.cut, .int .i64 p.margin, .slice (some ⟨b, off, none⟩) m c] 26 (0, 0)) (by simp)
        have gNk : Blk W2 (B + 1) 3 #[.int .i64 n] := hc2 (B + 1, .cells #[.int .i64 n] 3 (0, 0)) (by simp)
        have HE := Lib.hid (show ∀ (W' : World) (vv' : Value), Keeps W2 W' (B + 2) vv → Boxed W' (B + 2) 31 vv' → W'.ownsRow B 43 2 vv' (L ++ spnS p n v x).length ((L ++ spnS p n v x).flatMap enc2) → (∀ r, d ≤ r → r ≤ d + 2 → vv'.ownBlock ≠ some r) → Two d W2 W' ∧ KpI w.heap.size (d + 2) W W' ∧ IThr B w d ((B, .cells #[.int .i64 p.cut, .int .i64 p.margin, .slice (some ⟨b, off, none⟩) m c] 26 (0, 0)) :: (B + 1, .cells #[.int .i64 n] 3 (0, 0)) :: (g7, .cells #[.slice vA v.reels.length vc, .int .i64 v.off, .int .i64 v.bef, .int .i64 v.aft] 41 (0, 0)) :: rs.map (fun r => (r, Obj.deferred (some [])))) (rawK p n q) (spnS p n v) (pre ++ [x]) W' from fun W' vv' h1 h2 h3 h4 => by
          have := ithr_end hd3 hsz hg2 hbs b5 row2 q3 q4 q5 h1 h2 h3 h4 hL
          rw [HBB.out] at this ⊢
          exact this)
        have HQ3 := Lib.hid q3
        have HB5' := Lib.hid b5
        have HROW2 := Lib.hid row2
        have HG7K := Lib.hid g7k
        have HGBK := Lib.hid gBk
        have HGNK := Lib.hid gNk
        have HD := Lib.hid hd
        have HLT := Lib.hid (show g7 < W2.heap.size ∧ B < W2.heap.size ∧ B + 1 < W2.heap.size from ⟨g7k.lt, gBk.lt, gNk.lt⟩)
        have hgw2 : d + 2 < W2.heap.size := by omega
        have hwb := HWO.out
        have o0 := hwb.o0
        have o1 := hwb.o1
        have b0 := hwb.b0
        have b1 := hwb.b1
        have a0 := hwb.a0
        have a1 := hwb.a1
        have pc0 := HP.out.c0
        have pc1 := HP.out.c1
        have pm0 := HP.out.m0
        have pm1 := HP.out.m1
        have y2 := g7k.cell 2
        have y3 := g7k.cell 3
        simp at y2 y3
        clear q1 q2 q3 q4 q5 b5 row2 g7k gBk gNk hc2 hbs hL hd hwb hg2 hs2 hsz hlen
        have s1 : IntKind.i64.wrap (v.bef + v.aft) = v.bef + v.aft := by rw [IntKind.wrap_i64]; omega
        by_cases hz : v.bef + v.aft = 0
        · have t1 : (v.bef + v.aft == 0) = true := by simpa using hz
          have HZ := Lib.hid hz
          gi_wp2
          refine HE.out W2 vv (Keeps.refl _ _ _) HB5'.out ?_ HQ3.out
          have e : spnS p n v x = [] := by unfold spnS; rw [if_pos HZ.out]
          rw [e, List.append_nil]; exact HROW2.out
        · have t1 : (v.bef + v.aft == 0) = false := by simpa using hz
          have HZ := Lib.hid hz
          obtain ⟨f1, hf1⟩ : ∃ f, f = (x - v.bef - v.off) / p.cut := ⟨_, rfl⟩
          obtain ⟨f2, hf2⟩ : ∃ f, f = (x + v.aft - 1 - v.off) / p.cut := ⟨_, rfl⟩
          have HF1 := Lib.hid (show ∀ W, Calls Try.prog 89 #[.int .i64 (x - v.bef - v.off), .int .i64 p.cut] W fun e w' => e = .returned (.int .i64 f1) ∧ W = w' from fun W => by rw [hf1]; exact floor_any _ _ _ (by omega) (by omega) (by omega) (by omega))
          have HF2 := Lib.hid (show ∀ W, Calls Try.prog 89 #[.int .i64 (x + v.aft - 1 - v.off), .int .i64 p.cut] W fun e w' => e = .returned (.int .i64 f2) ∧ W = w' from fun W => by rw [hf2]; exact floor_any _ _ _ (by omega) (by omega) (by omega) (by omega))
          have d1 := div_bd (b := p.cut) (a := x - v.bef - v.off) (by omega) (by omega) (by omega)
          have d2 := div_bd (b := p.cut) (a := x + v.aft - 1 - v.off) (by omega) (by omega) (by omega)
          rw [← hf1] at d1
          rw [← hf2] at d2
          have s2 : IntKind.i64.wrap (x - v.bef) = x - v.bef := by rw [IntKind.wrap_i64]; omega
          have s3 : IntKind.i64.wrap (x - v.bef - v.off) = x - v.bef - v.off := by rw [IntKind.wrap_i64]; omega
          have s4 : IntKind.i64.wrap (f1 - p.margin) = f1 - p.margin := by rw [IntKind.wrap_i64]; omega
          have s5 : IntKind.i64.wrap (x + v.aft) = x + v.aft := by rw [IntKind.wrap_i64]; omega
          have s6 : IntKind.i64.wrap (x + v.aft - 1) = x + v.aft - 1 := by rw [IntKind.wrap_i64]; omega
          have s7 : IntKind.i64.wrap (x + v.aft - 1 - v.off) = x + v.aft - 1 - v.off := by rw [IntKind.wrap_i64]; omega
          have s8 : IntKind.i64.wrap (f2 + p.margin) = f2 + p.margin := by rw [IntKind.wrap_i64]; omega
          have s9 : IntKind.i64.wrap (n - 1) = n - 1 := by rw [IntKind.wrap_i64]; omega
          have HLO := Lib.hid (show loS p v x = max (f1 - p.margin) 0 from by rw [hf1]; rfl)
          have HHI := Lib.hid (show hiS p v n x = min (f2 + p.margin) (n - 1) from by rw [hf2]; rfl)
          clear hf1 hf2 hz d1 d2
          have HS8 := Lib.hid (show ∀ X, Below W2.heap.size W2 X → (X.cell? ⟨g7, 1, none⟩ = some (.int .i64 v.off) ∧ X.cell? ⟨g7, 2, none⟩ = some (.int .i64 v.bef) ∧ X.cell? ⟨g7, 3, none⟩ = some (.int .i64 v.aft)) ∧ X.cell? ⟨B, 0, none⟩ = some (.int .i64 p.cut) ∧ X.cell? ⟨B, 1, none⟩ = some (.int .i64 p.margin) from fun X hX => by
            have k1 := HG7K.out.below hX HLT.out.1
            have k2 := HGBK.out.below hX HLT.out.2.1
            have z1 := k1.cell 1
            have z2 := k1.cell 2
            have z3 := k1.cell 3
            have z4 := k2.cell 0
            have z5 := k2.cell 1
            simp at z1 z2 z3 z4 z5
            exact ⟨⟨z1, z2, z3⟩, z4, z5⟩)
          gi_upto_region 8 with fail
          clear y2 y3
          obtain ⟨gX, hgX⟩ : ∃ g, g = W2.heap.size := ⟨_, rfl⟩
          have HGX := Lib.hid hgX
          clear hgX
          gi_cut [9] from 26 (fun pv wx => pv = .pointer (some ⟨gX, 0, none⟩) ∧ Hid (Blk wx gX 43 #[.int .i64 (f1 - p.margin), .int .i64 (f2 + p.margin)]) ∧ Hid (Below W2.heap.size W2 wx))
          case first =>
            refine region_round_held (S := (fun X => (X.cell? ⟨g7, 1, none⟩ = some (.int .i64 v.off) ∧ X.cell? ⟨g7, 2, none⟩ = some (.int .i64 v.bef) ∧ X.cell? ⟨g7, 3, none⟩ = some (.int .i64 v.aft)) ∧ X.cell? ⟨B, 0, none⟩ = some (.int .i64 p.cut) ∧ X.cell? ⟨B, 1, none⟩ = some (.int .i64 p.margin))) (by kernel_rfl) (by kernel_rfl) ?_ (fun hHeld => ?_)
            · (try dsimp only); (refine HS8.out _ ?_; (repeat (with_reducible first | exact Below.refl _ _ | refine Below.drew ?_ | refine balR ?_ _ | refine bset ?_ (by simp) _ _)); done)
            refine wpAnyH_takeD (i := 0) (v := ?_) (some 26) rfl rfl (by kernel_rfl) (by kernel_rfl) (by kernel_rfl) (fun _ _ _ h => h) (Or.inl ⟨by rfl, ?_⟩) (by assumption) ?_
            rotate_left
            · intro w hSw; (try dsimp only at hSw); go_simp; (try with_reducible rfl)
            try simp only [Act.put, List.setIfInBounds_toArray, List.set_cons_zero, List.set_cons_succ]
            refine wpAnyH_takeD (i := 1) (v := ?_) (some 27) rfl rfl (by kernel_rfl) (by kernel_rfl) (by kernel_rfl) (fun _ _ _ h => h) (Or.inl ⟨by rfl, ?_⟩) (by assumption) ?_
            rotate_left
            · intro w hSw; (try dsimp only at hSw); go_simp; (try with_reducible rfl)
            try simp only [Act.put, List.setIfInBounds_toArray, List.set_cons_zero, List.set_cons_succ]
            refine wpAnyH_takeD (i := 2) (v := ?_) (some 28) rfl rfl (by kernel_rfl) (by kernel_rfl) (by kernel_rfl) (fun _ _ _ h => h) (Or.inl ⟨by rfl, ?_⟩) (by assumption) ?_
            rotate_left
            · intro w hSw; (try dsimp only at hSw); go_simp; (try with_reducible rfl)
            try simp only [Act.put, List.setIfInBounds_toArray, List.set_cons_zero, List.set_cons_succ]
            refine wpAnyH_takeD (i := 3) (v := ?_) (some 29) rfl rfl (by kernel_rfl) (by kernel_rfl) (by kernel_rfl) (fun _ _ _ h => h) (Or.inl ⟨by rfl, ?_⟩) (by assumption) ?_
            rotate_left
            · intro w hSw; (try dsimp only at hSw); go_simp; (try with_reducible rfl)
            try simp only [Act.put, List.setIfInBounds_toArray, List.set_cons_zero, List.set_cons_succ]
            refine wpAnyH_takeD (i := 4) (v := ?_) (some 30) rfl rfl (by kernel_rfl) (by kernel_rfl) (by kernel_rfl) (fun _ _ _ h => h) (Or.inl ⟨by rfl, ?_⟩) (by assumption) ?_
            rotate_left
            · intro w hSw; (try dsimp only at hSw); go_simp; (try with_reducible rfl)
            try simp only [Act.put, List.setIfInBounds_toArray, List.set_cons_zero, List.set_cons_succ]
            refine wpAnyH_takeD (i := 5) (v := ?_) (some 31) rfl rfl (by kernel_rfl) (by kernel_rfl) (by kernel_rfl) (fun _ _ _ h => h) (Or.inl ⟨by rfl, ?_⟩) (by assumption) ?_
            rotate_left
            · intro w hSw; (try dsimp only at hSw); go_simp; (try with_reducible rfl)
            try simp only [Act.put, List.setIfInBounds_toArray, List.set_cons_zero, List.set_cons_succ]
            refine wpAnyH_takeD (i := 6) (v := ?_) (some 32) rfl rfl (by kernel_rfl) (by kernel_rfl) (by kernel_rfl) (fun _ _ _ h => h) (Or.inl ⟨by rfl, ?_⟩) (by assumption) ?_
            rotate_left
            · intro w hSw; (try dsimp only at hSw); go_simp; (try with_reducible rfl)
            try simp only [Act.put, List.setIfInBounds_toArray, List.set_cons_zero, List.set_cons_succ]
            refine wpAnyH_takeD (i := 7) (v := ?_) (some 33) rfl rfl (by kernel_rfl) (by kernel_rfl) (by kernel_rfl) (fun _ _ _ h => h) (Or.inl ⟨by rfl, ?_⟩) (by assumption) ?_
            rotate_left
            · intro w hSw; (try dsimp only at hSw); go_simp; (try with_reducible rfl)
            try simp only [Act.put, List.setIfInBounds_toArray, List.set_cons_zero, List.set_cons_succ]
            refine wpAnyH_takeD (i := 8) (v := ?_) (some 34) rfl rfl (by kernel_rfl) (by kernel_rfl) (by kernel_rfl) (fun _ _ _ h => h) (Or.inl ⟨by rfl, ?_⟩) (by assumption) ?_
            rotate_left
            · intro w hSw; (try dsimp only at hSw); go_simp; (try with_reducible rfl)
            try simp only [Act.put, List.setIfInBounds_toArray, List.set_cons_zero, List.set_cons_succ]
            refine wpAnyH_takeD (i := 10) (v := ?_) (some 36) rfl rfl (by kernel_rfl) (by kernel_rfl) (by kernel_rfl) (fun _ _ _ h => h) (Or.inl ⟨by rfl, ?_⟩) (by assumption) ?_
            rotate_left
            · intro w hSw; (try dsimp only at hSw); go_simp; (try with_reducible rfl)
            try simp only [Act.put, List.setIfInBounds_toArray, List.set_cons_zero, List.set_cons_succ]
            refine wpAnyH_takeD (i := 11) (v := ?_) (some 37) rfl rfl (by kernel_rfl) (by kernel_rfl) (by kernel_rfl) (fun _ _ _ h => h) (Or.inl ⟨by rfl, ?_⟩) (by assumption) ?_
            rotate_left
            · intro w hSw; (try dsimp only at hSw); go_simp; (try with_reducible rfl)
            try simp only [Act.put, List.setIfInBounds_toArray, List.set_cons_zero, List.set_cons_succ]
            refine wpAnyH_takeD (i := 13) (v := ?_) (some 39) rfl rfl (by kernel_rfl) (by kernel_rfl) (by kernel_rfl) (fun _ _ _ h => h) (Or.inl ⟨by rfl, ?_⟩) (by assumption) ?_
            rotate_left
            · intro w hSw; (try dsimp only at hSw); go_simp; (try with_reducible rfl)
            try simp only [Act.put, List.setIfInBounds_toArray, List.set_cons_zero, List.set_cons_succ]
            refine wpAnyH_takeD (i := 14) (v := ?_) (some 40) rfl rfl (by kernel_rfl) (by kernel_rfl) (by kernel_rfl) (fun _ _ _ h => h) (Or.inl ⟨by rfl, ?_⟩) (by assumption) ?_
            rotate_left
            · intro w hSw; (try dsimp only at hSw); go_simp; (try with_reducible rfl)
            try simp only [Act.put, List.setIfInBounds_toArray, List.set_cons_zero, List.set_cons_succ]
            refine wpAnyH_takeD (i := 15) (v := ?_) (some 41) rfl rfl (by kernel_rfl) (by kernel_rfl) (by kernel_rfl) (fun _ _ _ h => h) (Or.inl ⟨by rfl, ?_⟩) (by assumption) ?_
            rotate_left
            · intro w hSw; (try dsimp only at hSw); go_simp; (try with_reducible rfl)
            try simp only [Act.put, List.setIfInBounds_toArray, List.set_cons_zero, List.set_cons_succ]
            refine wpAnyH_takeD (i := 16) (v := ?_) (some 42) rfl rfl (by kernel_rfl) (by kernel_rfl) (by kernel_rfl) (fun _ _ _ h => h) (Or.inl ⟨by rfl, ?_⟩) (by assumption) ?_
            rotate_left
            · intro w hSw; (try dsimp only at hSw); go_simp; (try with_reducible rfl)
            try simp only [Act.put, List.setIfInBounds_toArray, List.set_cons_zero, List.set_cons_succ]
            refine wpAnyH_takeD (i := 17) (v := ?_) (some 43) rfl rfl (by kernel_rfl) (by kernel_rfl) (by kernel_rfl) (fun _ _ _ h => h) (Or.inl ⟨by rfl, ?_⟩) (by assumption) ?_
            rotate_left
            · intro w hSw; (try dsimp only at hSw); go_simp; (try with_reducible rfl)
            try simp only [Act.put, List.setIfInBounds_toArray, List.set_cons_zero, List.set_cons_succ]
            refine wpAnyH_takeD (i := 18) (v := ?_) (some 44) rfl rfl (by kernel_rfl) (by kernel_rfl) (by kernel_rfl) (fun _ _ _ h => h) (Or.inl ⟨by rfl, ?_⟩) (by assumption) ?_
            rotate_left
            · intro w hSw; (try dsimp only at hSw); go_simp; (try with_reducible rfl)
            try simp only [Act.put, List.setIfInBounds_toArray, List.set_cons_zero, List.set_cons_succ]
            refine wpAnyH_takeD (i := 19) (v := ?_) (some 45) rfl rfl (by kernel_rfl) (by kernel_rfl) (by kernel_rfl) (fun _ _ _ h => h) (Or.inl ⟨by rfl, ?_⟩) (by assumption) ?_
            rotate_left
            · intro w hSw; (try dsimp only at hSw); go_simp; (try with_reducible rfl)
            try simp only [Act.put, List.setIfInBounds_toArray, List.set_cons_zero, List.set_cons_succ]
            refine wpAnyH_takeD (i := 20) (v := ?_) (some 46) rfl rfl (by kernel_rfl) (by kernel_rfl) (by kernel_rfl) (fun _ _ _ h => h) (Or.inl ⟨by rfl, ?_⟩) (by assumption) ?_
            rotate_left
            · intro w hSw; (try dsimp only at hSw); go_simp; (try with_reducible rfl)
            try simp only [Act.put, List.setIfInBounds_toArray, List.set_cons_zero, List.set_cons_succ]
            refine wpAnyH_takeD (i := 21) (v := ?_) (some 47) rfl rfl (by kernel_rfl) (by kernel_rfl) (by kernel_rfl) (fun _ _ _ h => h) (Or.inl ⟨by rfl, ?_⟩) (by assumption) ?_
            rotate_left
            · intro w hSw; (try dsimp only at hSw); go_simp; (try with_reducible rfl)
            try simp only [Act.put, List.setIfInBounds_toArray, List.set_cons_zero, List.set_cons_succ]
            refine wpAnyH_takeD (i := 22) (v := ?_) (some 48) rfl rfl (by kernel_rfl) (by kernel_rfl) (by kernel_rfl) (fun _ _ _ h => h) (Or.inl ⟨by rfl, ?_⟩) (by assumption) ?_
            rotate_left
            · intro w hSw; (try dsimp only at hSw); go_simp; (try with_reducible rfl)
            try simp only [Act.put, List.setIfInBounds_toArray, List.set_cons_zero, List.set_cons_succ]
            refine wpAnyH_takeD (i := 24) (v := ?_) (some 50) rfl rfl (by kernel_rfl) (by kernel_rfl) (by kernel_rfl) (fun _ _ _ h => h) (Or.inl ⟨by rfl, ?_⟩) (by assumption) ?_
            rotate_left
            · intro w hSw; (try dsimp only at hSw); go_simp; (try with_reducible rfl)
            try simp only [Act.put, List.setIfInBounds_toArray, List.set_cons_zero, List.set_cons_succ]
            refine wpAnyH_takeD (i := 25) (v := ?_) (some 51) rfl rfl (by kernel_rfl) (by kernel_rfl) (by kernel_rfl) (fun _ _ _ h => h) (Or.inl ⟨by rfl, ?_⟩) (by assumption) ?_
            rotate_left
            · intro w hSw; (try dsimp only at hSw); go_simp; (try with_reducible rfl)
            try simp only [Act.put, List.setIfInBounds_toArray, List.set_cons_zero, List.set_cons_succ]
            refine wpAnyH_ready (rs := [9, 28]) (by kernel_rfl) (by simp) ?_
            refine AllReadyH.cons rfl (fun K hK => ?_) (AllReadyH.cons rfl (fun K hK => ?_) AllReadyH.nil)
            · (go_simp; go_at_call 89; with_reducible refine (HF1.out _).mono ?_; rintro e wz ⟨rfl, rfl⟩; go_wp2_with fail)
              refine hK.out _ _ ?_ (fun hHeld => ?_)
              · (try dsimp only); (refine HS8.out _ ?_; (repeat (with_reducible first | exact Below.refl _ _ | refine Below.drew ?_ | refine balR ?_ _ | refine bset ?_ (by simp) _ _)); done)
              clear hK K
              try simp only [List.getElem_toArray, List.getElem_cons_succ, List.getElem_cons_zero]
              try simp only [Act.put, List.setIfInBounds_toArray, List.set_cons_zero, List.set_cons_succ]
              refine wpAnyH_takeD (i := 12) (v := ?_) (some 38) rfl rfl (by kernel_rfl) (by kernel_rfl) (by kernel_rfl) (fun _ _ _ h => h) (Or.inl ⟨by rfl, ?_⟩) (by assumption) ?_
              rotate_left
              · intro w hSw; (try dsimp only at hSw); go_simp; (try with_reducible rfl)
              try simp only [Act.put, List.setIfInBounds_toArray, List.set_cons_zero, List.set_cons_succ]
              refine wpAnyH_ready (rs := [23, 28]) (by kernel_rfl) (by simp) ?_
              refine AllReadyH.cons rfl (fun K hK => ?_) (AllReadyH.cons rfl (fun K hK => ?_) AllReadyH.nil)
              · (go_simp; go_at_call 89; with_reducible refine (HF2.out _).mono ?_; rintro e wz ⟨rfl, rfl⟩; go_wp2_with fail)
                refine hK.out _ _ ?_ (fun hHeld => ?_)
                · (try dsimp only); (refine HS8.out _ ?_; (repeat (with_reducible first | exact Below.refl _ _ | refine Below.drew ?_ | refine balR ?_ _ | refine bset ?_ (by simp) _ _)); done)
                clear hK K
                try simp only [List.getElem_toArray, List.getElem_cons_succ, List.getElem_cons_zero]
                try simp only [Act.put, List.setIfInBounds_toArray, List.set_cons_zero, List.set_cons_succ]
                refine wpAnyH_takeD (i := 26) (v := ?_) (some 52) rfl rfl (by kernel_rfl) (by kernel_rfl) (by kernel_rfl) (fun _ _ _ h => h) (Or.inl ⟨by rfl, ?_⟩) (by assumption) ?_
                rotate_left
                · intro w hSw; (try dsimp only at hSw); go_simp; (try with_reducible rfl)
                try simp only [Act.put, List.setIfInBounds_toArray, List.set_cons_zero, List.set_cons_succ]
                refine wpAnyH_takeD (i := 27) (v := ?_) (some 53) rfl rfl (by kernel_rfl) (by kernel_rfl) (by kernel_rfl) (fun _ _ _ h => h) (Or.inl ⟨by rfl, ?_⟩) (by assumption) ?_
                rotate_left
                · intro w hSw; (try dsimp only at hSw); go_simp; (try with_reducible rfl)
                try simp only [Act.put, List.setIfInBounds_toArray, List.set_cons_zero, List.set_cons_succ]
                refine wpAnyH_ready (rs := [28]) (by kernel_rfl) (by simp) ?_
                refine AllReadyH.cons rfl (fun K hK => ?_) AllReadyH.nil
                go_simp
                refine hK.out _ _ ?_ (fun hHeld => ?_)
                · (try dsimp only); (refine HS8.out _ ?_; (repeat (with_reducible first | exact Below.refl _ _ | refine Below.drew ?_ | refine balR ?_ _ | refine bset ?_ (by simp) _ _)); done)
                clear hK K
                try simp only [List.getElem_toArray, List.getElem_cons_succ, List.getElem_cons_zero]
                try simp only [Act.put, List.setIfInBounds_toArray, List.set_cons_zero, List.set_cons_succ]
                refine wpAnyH_ready (rs := [29]) (by kernel_rfl) (by simp) ?_
                refine AllReadyH.cons rfl (fun K hK => ?_) AllReadyH.nil
                go_simp
                refine hK.out _ _ ?_ (fun hHeld => ?_)
                · (try dsimp only); (refine HS8.out _ ?_; (repeat (with_reducible first | exact Below.refl _ _ | refine Below.drew ?_ | refine balR ?_ _ | refine bset ?_ (by simp) _ _)); done)
                clear hK K
                try simp only [List.getElem_toArray, List.getElem_cons_succ, List.getElem_cons_zero]
                try simp only [Act.put, List.setIfInBounds_toArray, List.set_cons_zero, List.set_cons_succ]
                refine wpAnyH_done (by kernel_rfl) ?_ _
                refine Calm.normal ?_
                gi_wp2
                gi_meet
                exact ⟨by rw [HGX.out], Lib.hid (by rw [HGX.out]; exact (Blk.new W2 43 _).drew), Lib.hid (balR (Below.refl _ _) _).drew⟩
              · go_simp
                refine hK.out _ _ ?_ (fun hHeld => ?_)
                · (try dsimp only); (refine HS8.out _ ?_; (repeat (with_reducible first | exact Below.refl _ _ | refine Below.drew ?_ | refine balR ?_ _ | refine bset ?_ (by simp) _ _)); done)
                clear hK K
                try simp only [List.getElem_toArray, List.getElem_cons_succ, List.getElem_cons_zero]
                try simp only [Act.put, List.setIfInBounds_toArray, List.set_cons_zero, List.set_cons_succ]
                refine wpAnyH_ready (rs := [23]) (by kernel_rfl) (by simp) ?_
                refine AllReadyH.cons rfl (fun K hK => ?_) AllReadyH.nil
                (go_simp; go_at_call 89; with_reducible refine (HF2.out _).mono ?_; rintro e wz ⟨rfl, rfl⟩; go_wp2_with fail)
                refine hK.out _ _ ?_ (fun hHeld => ?_)
                · (try dsimp only); (refine HS8.out _ ?_; (repeat (with_reducible first | exact Below.refl _ _ | refine Below.drew ?_ | refine balR ?_ _ | refine bset ?_ (by simp) _ _)); done)
                clear hK K
                try simp only [List.getElem_toArray, List.getElem_cons_succ, List.getElem_cons_zero]
                try simp only [Act.put, List.setIfInBounds_toArray, List.set_cons_zero, List.set_cons_succ]
                refine wpAnyH_takeD (i := 26) (v := ?_) (some 52) rfl rfl (by kernel_rfl) (by kernel_rfl) (by kernel_rfl) (fun _ _ _ h => h) (Or.inl ⟨by rfl, ?_⟩) (by assumption) ?_
                rotate_left
                · intro w hSw; (try dsimp only at hSw); go_simp; (try with_reducible rfl)
                try simp only [Act.put, List.setIfInBounds_toArray, List.set_cons_zero, List.set_cons_succ]
                refine wpAnyH_takeD (i := 27) (v := ?_) (some 53) rfl rfl (by kernel_rfl) (by kernel_rfl) (by kernel_rfl) (fun _ _ _ h => h) (Or.inl ⟨by rfl, ?_⟩) (by assumption) ?_
                rotate_left
                · intro w hSw; (try dsimp only at hSw); go_simp; (try with_reducible rfl)
                try simp only [Act.put, List.setIfInBounds_toArray, List.set_cons_zero, List.set_cons_succ]
                refine wpAnyH_ready (rs := [29]) (by kernel_rfl) (by simp) ?_
                refine AllReadyH.cons rfl (fun K hK => ?_) AllReadyH.nil
                go_simp
                refine hK.out _ _ ?_ (fun hHeld => ?_)
                · (try dsimp only); (refine HS8.out _ ?_; (repeat (with_reducible first | exact Below.refl _ _ | refine Below.drew ?_ | refine balR ?_ _ | refine bset ?_ (by simp) _ _)); done)
                clear hK K
                try simp only [List.getElem_toArray, List.getElem_cons_succ, List.getElem_cons_zero]
                try simp only [Act.put, List.setIfInBounds_toArray, List.set_cons_zero, List.set_cons_succ]
                refine wpAnyH_done (by kernel_rfl) ?_ _
                refine Calm.normal ?_
                gi_wp2
                gi_meet
                exact ⟨by rw [HGX.out], Lib.hid (by rw [HGX.out]; exact (Blk.new W2 43 _).drew), Lib.hid (balR (Below.refl _ _) _).drew⟩
            · go_simp
              refine hK.out _ _ ?_ (fun hHeld => ?_)
              · (try dsimp only); (refine HS8.out _ ?_; (repeat (with_reducible first | exact Below.refl _ _ | refine Below.drew ?_ | refine balR ?_ _ | refine bset ?_ (by simp) _ _)); done)
              clear hK K
              try simp only [List.getElem_toArray, List.getElem_cons_succ, List.getElem_cons_zero]
              try simp only [Act.put, List.setIfInBounds_toArray, List.set_cons_zero, List.set_cons_succ]
              refine wpAnyH_ready (rs := [9]) (by kernel_rfl) (by simp) ?_
              refine AllReadyH.cons rfl (fun K hK => ?_) AllReadyH.nil
              (go_simp; go_at_call 89; with_reducible refine (HF1.out _).mono ?_; rintro e wz ⟨rfl, rfl⟩; go_wp2_with fail)
              refine hK.out _ _ ?_ (fun hHeld => ?_)
              · (try dsimp only); (refine HS8.out _ ?_; (repeat (with_reducible first | exact Below.refl _ _ | refine Below.drew ?_ | refine balR ?_ _ | refine bset ?_ (by simp) _ _)); done)
              clear hK K
              try simp only [List.getElem_toArray, List.getElem_cons_succ, List.getElem_cons_zero]
              try simp only [Act.put, List.setIfInBounds_toArray, List.set_cons_zero, List.set_cons_succ]
              refine wpAnyH_takeD (i := 12) (v := ?_) (some 38) rfl rfl (by kernel_rfl) (by kernel_rfl) (by kernel_rfl) (fun _ _ _ h => h) (Or.inl ⟨by rfl, ?_⟩) (by assumption) ?_
              rotate_left
              · intro w hSw; (try dsimp only at hSw); go_simp; (try with_reducible rfl)
              try simp only [Act.put, List.setIfInBounds_toArray, List.set_cons_zero, List.set_cons_succ]
              refine wpAnyH_ready (rs := [23]) (by kernel_rfl) (by simp) ?_
              refine AllReadyH.cons rfl (fun K hK => ?_) AllReadyH.nil
              (go_simp; go_at_call 89; with_reducible refine (HF2.out _).mono ?_; rintro e wz ⟨rfl, rfl⟩; go_wp2_with fail)
              refine hK.out _ _ ?_ (fun hHeld => ?_)
              · (try dsimp only); (refine HS8.out _ ?_; (repeat (with_reducible first | exact Below.refl _ _ | refine Below.drew ?_ | refine balR ?_ _ | refine bset ?_ (by simp) _ _)); done)
              clear hK K
              try simp only [List.getElem_toArray, List.getElem_cons_succ, List.getElem_cons_zero]
              try simp only [Act.put, List.setIfInBounds_toArray, List.set_cons_zero, List.set_cons_succ]
              refine wpAnyH_takeD (i := 26) (v := ?_) (some 52) rfl rfl (by kernel_rfl) (by kernel_rfl) (by kernel_rfl) (fun _ _ _ h => h) (Or.inl ⟨by rfl, ?_⟩) (by assumption) ?_
              rotate_left
              · intro w hSw; (try dsimp only at hSw); go_simp; (try with_reducible rfl)
              try simp only [Act.put, List.setIfInBounds_toArray, List.set_cons_zero, List.set_cons_succ]
              refine wpAnyH_takeD (i := 27) (v := ?_) (some 53) rfl rfl (by kernel_rfl) (by kernel_rfl) (by kernel_rfl) (fun _ _ _ h => h) (Or.inl ⟨by rfl, ?_⟩) (by assumption) ?_
              rotate_left
              · intro w hSw; (try dsimp only at hSw); go_simp; (try with_reducible rfl)
              try simp only [Act.put, List.setIfInBounds_toArray, List.set_cons_zero, List.set_cons_succ]
              refine wpAnyH_ready (rs := [29]) (by kernel_rfl) (by simp) ?_
              refine AllReadyH.cons rfl (fun K hK => ?_) AllReadyH.nil
              go_simp
              refine hK.out _ _ ?_ (fun hHeld => ?_)
              · (try dsimp only); (refine HS8.out _ ?_; (repeat (with_reducible first | exact Below.refl _ _ | refine Below.drew ?_ | refine balR ?_ _ | refine bset ?_ (by simp) _ _)); done)
              clear hK K
              try simp only [List.getElem_toArray, List.getElem_cons_succ, List.getElem_cons_zero]
              try simp only [Act.put, List.setIfInBounds_toArray, List.set_cons_zero, List.set_cons_succ]
              refine wpAnyH_done (by kernel_rfl) ?_ _
              refine Calm.normal ?_
              gi_wp2
              gi_meet
              exact ⟨by rw [HGX.out], Lib.hid (by rw [HGX.out]; exact (Blk.new W2 43 _).drew), Lib.hid (balR (Below.refl _ _) _).drew⟩
          case rest =>
            obtain ⟨rfl, HXB, HXL⟩ := hcut
            have hgN : gX ≠ B + 1 := by rw [HGX.out]; have := HLT.out.2.2; omega
            have n9 := HGNK.out.below HXL.out HLT.out.2.2
            have z0 := HXB.out.cell 0
            have z1 := HXB.out.cell 1
            have zf0 := HXB.out.frozen 0
            have zf1 := HXB.out.frozen 1
            have xn := n9.cell 0
            simp at z0 z1 xn
            have HN9 := Lib.hid (show ∀ (X : World) (o : Nat) (u : Value), X.cell? ⟨B + 1, 0, none⟩ = some (.int .i64 n) → (X.setCell ⟨gX, o, none⟩ u).cell? ⟨B + 1, 0, none⟩ = some (.int .i64 n) from fun X o u h => by rw [World.cell?_setCell_far _ _ _ _ (by exact hgN)]; exact h)
            have z2 : ∀ u, (wc.setCell ⟨gX, 0, none⟩ u).cell? ⟨gX, 1, none⟩ = some (.int .i64 (f2 + p.margin)) := fun u => by
              have := (HXB.out.set_ 0 u).cell 1
              simpa using this
            have zf2 : ∀ u, (wc.setCell ⟨gX, 0, none⟩ u).frozen? ⟨gX, 1, none⟩ = false := fun u => (HXB.out.set_ 0 u).frozen 1
            clear n9
            gi_upto_region 9 with fail
            gi_cut [] from 54 (fun wx => Hid (Blk wx gX 43 #[.int .i64 (max (f1 - p.margin) 0), .int .i64 (min (f2 + p.margin) (n - 1))]) ∧ Hid (Below W2.heap.size W2 wx))
            case first =>
              refine region_round_held (S := (fun X => X.cell? ⟨B + 1, 0, none⟩ = some (.int .i64 n))) (by kernel_rfl) (by kernel_rfl) ?_ (fun hHeld => ?_)
              · (try dsimp only); (exact xn)
              refine wpAnyH_takeD (i := 0) (v := ?_) (some 54) rfl rfl (by kernel_rfl) (by kernel_rfl) (by kernel_rfl) (fun _ _ _ h => h) (Or.inl ⟨by rfl, ?_⟩) (by assumption) ?_
              rotate_left
              · intro w hSw; (try dsimp only at hSw); go_simp; (try with_reducible rfl)
              try simp only [Act.put, List.setIfInBounds_toArray, List.set_cons_zero, List.set_cons_succ]
              refine wpAnyH_takeD (i := 3) (v := ?_) (some 57) rfl rfl (by kernel_rfl) (by kernel_rfl) (by kernel_rfl) (fun _ _ _ h => h) (Or.inl ⟨by rfl, ?_⟩) (by assumption) ?_
              rotate_left
              · intro w hSw; (try dsimp only at hSw); go_simp; (try with_reducible rfl)
              try simp only [Act.put, List.setIfInBounds_toArray, List.set_cons_zero, List.set_cons_succ]
              refine wpAnyH_takeD (i := 5) (v := ?_) (some 59) rfl rfl (by kernel_rfl) (by kernel_rfl) (by kernel_rfl) (fun _ _ _ h => h) (Or.inl ⟨by rfl, ?_⟩) (by assumption) ?_
              rotate_left
              · intro w hSw; (try dsimp only at hSw); go_simp; (try with_reducible rfl)
              try simp only [Act.put, List.setIfInBounds_toArray, List.set_cons_zero, List.set_cons_succ]
              refine wpAnyH_takeD (i := 6) (v := ?_) (some 60) rfl rfl (by kernel_rfl) (by kernel_rfl) (by kernel_rfl) (fun _ _ _ h => h) (Or.inl ⟨by rfl, ?_⟩) (by assumption) ?_
              rotate_left
              · intro w hSw; (try dsimp only at hSw); go_simp; (try with_reducible rfl)
              try simp only [Act.put, List.setIfInBounds_toArray, List.set_cons_zero, List.set_cons_succ]
              refine wpAnyH_ready (rs := [1, 4]) (by kernel_rfl) (by simp) ?_
              refine AllReadyH.cons rfl (fun K hK => ?_) (AllReadyH.cons rfl (fun K hK => ?_) AllReadyH.nil)
              · go_simp
                refine hK.out _ _ ?_ (fun hHeld => ?_)
                · (try dsimp only); (exact hHeld)
                clear hK K
                try simp only [List.getElem_toArray, List.getElem_cons_succ, List.getElem_cons_zero]
                try simp only [Act.put, List.setIfInBounds_toArray, List.set_cons_zero, List.set_cons_succ]
                refine wpAnyH_takeD (i := 2) (v := ?_) (some 56) rfl rfl (by kernel_rfl) (by kernel_rfl) (by kernel_rfl) (fun _ _ _ h => h) (Or.inl ⟨by rfl, ?_⟩) (by assumption) ?_
                rotate_left
                · intro w hSw; (try dsimp only at hSw); go_simp; (try with_reducible rfl)
                try simp only [Act.put, List.setIfInBounds_toArray, List.set_cons_zero, List.set_cons_succ]
                refine wpAnyH_ready (rs := [4]) (by kernel_rfl) (by simp) ?_
                refine AllReadyH.cons rfl (fun K hK => ?_) AllReadyH.nil
                go_simp
                refine hK.out _ _ ?_ (fun hHeld => ?_)
                · (try dsimp only); (exact hHeld)
                clear hK K
                try simp only [List.getElem_toArray, List.getElem_cons_succ, List.getElem_cons_zero]
                try simp only [Act.put, List.setIfInBounds_toArray, List.set_cons_zero, List.set_cons_succ]
                refine wpAnyH_takeD (i := 7) (v := ?_) (some 61) rfl rfl (by kernel_rfl) (by kernel_rfl) (by kernel_rfl) (fun _ _ _ h => h) (Or.inl ⟨by rfl, ?_⟩) (by assumption) ?_
                rotate_left
                · intro w hSw; (try dsimp only at hSw); go_simp; (try with_reducible rfl)
                try simp only [Act.put, List.setIfInBounds_toArray, List.set_cons_zero, List.set_cons_succ]
                refine wpAnyH_takeD (i := 8) (v := ?_) (some 62) rfl rfl (by kernel_rfl) (by kernel_rfl) (by kernel_rfl) (fun _ _ _ h => h) (Or.inl ⟨by rfl, ?_⟩) (by assumption) ?_
                rotate_left
                · intro w hSw; (try dsimp only at hSw); go_simp; (try with_reducible rfl)
                try simp only [Act.put, List.setIfInBounds_toArray, List.set_cons_zero, List.set_cons_succ]
                refine wpAnyH_ready (rs := [9]) (by kernel_rfl) (by simp) ?_
                refine AllReadyH.cons rfl (fun K hK => ?_) AllReadyH.nil
                go_simp
                refine hK.out _ _ ?_ (fun hHeld => ?_)
                · (try dsimp only); (exact HN9.out _ _ _ hHeld)
                clear hK K
                try simp only [List.getElem_toArray, List.getElem_cons_succ, List.getElem_cons_zero]
                try simp only [Act.put, List.setIfInBounds_toArray, List.set_cons_zero, List.set_cons_succ]
                refine wpAnyH_takeD (i := 10) (v := ?_) (some 63) rfl rfl (by kernel_rfl) (by kernel_rfl) (by kernel_rfl) (fun _ _ _ h => h) (Or.inl ⟨by rfl, ?_⟩) (by assumption) ?_
                rotate_left
                · intro w hSw; (try dsimp only at hSw); go_simp; (try with_reducible rfl)
                try simp only [Act.put, List.setIfInBounds_toArray, List.set_cons_zero, List.set_cons_succ]
                refine wpAnyH_ready (rs := [11]) (by kernel_rfl) (by simp) ?_
                refine AllReadyH.cons rfl (fun K hK => ?_) AllReadyH.nil
                go_simp
                refine hK.out _ _ ?_ (fun hHeld => ?_)
                · (try dsimp only); (exact HN9.out _ _ _ hHeld)
                clear hK K
                try simp only [List.getElem_toArray, List.getElem_cons_succ, List.getElem_cons_zero]
                try simp only [Act.put, List.setIfInBounds_toArray, List.set_cons_zero, List.set_cons_succ]
                refine wpAnyH_done (by kernel_rfl) ?_ _
                refine Calm.normal ?_
                gi_wp2
                gi_meet
                exact ⟨Lib.hid ((HXB.out.set_ 0 _).set_ 1 _), Lib.hid (Below.drew (bset (b := gX) (bset (b := gX) HXL.out (Nat.le_of_eq HGX.out.symm) _ _) (Nat.le_of_eq HGX.out.symm) _ _))⟩
              · go_simp
                refine hK.out _ _ ?_ (fun hHeld => ?_)
                · (try dsimp only); (exact hHeld)
                clear hK K
                try simp only [List.getElem_toArray, List.getElem_cons_succ, List.getElem_cons_zero]
                try simp only [Act.put, List.setIfInBounds_toArray, List.set_cons_zero, List.set_cons_succ]
                refine wpAnyH_takeD (i := 7) (v := ?_) (some 61) rfl rfl (by kernel_rfl) (by kernel_rfl) (by kernel_rfl) (fun _ _ _ h => h) (Or.inl ⟨by rfl, ?_⟩) (by assumption) ?_
                rotate_left
                · intro w hSw; (try dsimp only at hSw); go_simp; (try with_reducible rfl)
                try simp only [Act.put, List.setIfInBounds_toArray, List.set_cons_zero, List.set_cons_succ]
                refine wpAnyH_ready (rs := [1]) (by kernel_rfl) (by simp) ?_
                refine AllReadyH.cons rfl (fun K hK => ?_) AllReadyH.nil
                go_simp
                refine hK.out _ _ ?_ (fun hHeld => ?_)
                · (try dsimp only); (exact hHeld)
                clear hK K
                try simp only [List.getElem_toArray, List.getElem_cons_succ, List.getElem_cons_zero]
                try simp only [Act.put, List.setIfInBounds_toArray, List.set_cons_zero, List.set_cons_succ]
                refine wpAnyH_takeD (i := 2) (v := ?_) (some 56) rfl rfl (by kernel_rfl) (by kernel_rfl) (by kernel_rfl) (fun _ _ _ h => h) (Or.inl ⟨by rfl, ?_⟩) (by assumption) ?_
                rotate_left
                · intro w hSw; (try dsimp only at hSw); go_simp; (try with_reducible rfl)
                try simp only [Act.put, List.setIfInBounds_toArray, List.set_cons_zero, List.set_cons_succ]
                refine wpAnyH_takeD (i := 8) (v := ?_) (some 62) rfl rfl (by kernel_rfl) (by kernel_rfl) (by kernel_rfl) (fun _ _ _ h => h) (Or.inl ⟨by rfl, ?_⟩) (by assumption) ?_
                rotate_left
                · intro w hSw; (try dsimp only at hSw); go_simp; (try with_reducible rfl)
                try simp only [Act.put, List.setIfInBounds_toArray, List.set_cons_zero, List.set_cons_succ]
                refine wpAnyH_ready (rs := [9]) (by kernel_rfl) (by simp) ?_
                refine AllReadyH.cons rfl (fun K hK => ?_) AllReadyH.nil
                go_simp
                refine hK.out _ _ ?_ (fun hHeld => ?_)
                · (try dsimp only); (exact HN9.out _ _ _ hHeld)
                clear hK K
                try simp only [List.getElem_toArray, List.getElem_cons_succ, List.getElem_cons_zero]
                try simp only [Act.put, List.setIfInBounds_toArray, List.set_cons_zero, List.set_cons_succ]
                refine wpAnyH_takeD (i := 10) (v := ?_) (some 63) rfl rfl (by kernel_rfl) (by kernel_rfl) (by kernel_rfl) (fun _ _ _ h => h) (Or.inl ⟨by rfl, ?_⟩) (by assumption) ?_
                rotate_left
                · intro w hSw; (try dsimp only at hSw); go_simp; (try with_reducible rfl)
                try simp only [Act.put, List.setIfInBounds_toArray, List.set_cons_zero, List.set_cons_succ]
                refine wpAnyH_ready (rs := [11]) (by kernel_rfl) (by simp) ?_
                refine AllReadyH.cons rfl (fun K hK => ?_) AllReadyH.nil
                go_simp
                refine hK.out _ _ ?_ (fun hHeld => ?_)
                · (try dsimp only); (exact HN9.out _ _ _ hHeld)
                clear hK K
                try simp only [List.getElem_toArray, List.getElem_cons_succ, List.getElem_cons_zero]
                try simp only [Act.put, List.setIfInBounds_toArray, List.set_cons_zero, List.set_cons_succ]
                refine wpAnyH_done (by kernel_rfl) ?_ _
                refine Calm.normal ?_
                gi_wp2
                gi_meet
                exact ⟨Lib.hid ((HXB.out.set_ 0 _).set_ 1 _), Lib.hid (Below.drew (bset (b := gX) (bset (b := gX) HXL.out (Nat.le_of_eq HGX.out.symm) _ _) (Nat.le_of_eq HGX.out.symm) _ _))⟩
            case rest =>
              obtain ⟨HYB, HYL⟩ := hcut
              clear z0 z1 zf0 zf1 xn z2 zf2
              obtain ⟨lo, hlo⟩ : ∃ z, z = max (f1 - p.margin) 0 := ⟨_, rfl⟩
              obtain ⟨hi, hhi⟩ : ∃ z, z = min (f2 + p.margin) (n - 1) := ⟨_, rfl⟩
              rw [← hlo] at HLO HYB
              rw [← hhi] at HHI HYB
              clear hlo hhi
              have u0 := HYB.out.cell 0
              have u1 := HYB.out.cell 1
              simp at u0 u1
              by_cases hlh : lo ≤ hi
              · have tl : decide (lo ≤ hi) = true := by simpa using hlh
                have HE1 := Lib.hid (show spnS p n v x = [(lo, hi)] from by unfold spnS; rw [if_neg HZ.out, HLO.out, HHI.out, if_pos hlh])
                obtain ⟨A1, c1, hv⟩ := own_shape HROW2.out
                subst hv
                have w5 := HB5'.out.kept (gr_below HYL.out none) (by simp)
                have e5 := w5.cell
                have HOY := Lib.hid (own_belowV HROW2.out HYL.out)
                have hm1 : L.length + 1 ≤ maxLen := by simp only [maxLen]; omega
                have hm2 : (L.length + 1) * 16 ≤ 140737488355328 := by omega
                have HM3 := Lib.hid (show B ≤ (wc.alloc (.cells #[.int .i64 lo, .int .i64 hi] 43)).heap.size from by have := HYL.out.size; have := HLT.out.2.1; simp; omega)
                clear w5
                gi_wp2_with (gi_at_builtin; refine wpListIn_append_own_at _ rfl (.tmp 69) (.tmp 71) 31 rfl B 43 i0 _ 2 16 Try.underlying31 HI.out hz0 hz1 hz2 rfl (by decide) (.slice A1 L.length c1) L.length (L.flatMap enc2) rfl (HOY.out.alloc _) ⟨wc.heap.size, 0, none⟩ 1 1 [.int .i64 lo, .int .i64 hi] rfl rfl (news_of1 wc 43 #[.int .i64 lo, .int .i64 hi]) (by intro u hu; simp at hu; rcases hu with rfl | rfl <;> rfl) hm1 hm2 HM3.out ?_; intro v9 w9 hown9 hgrow9 hiff9 hat9; obtain ⟨g9, c9, hv9⟩ := ownsRow_succ hown9; subst hv9; have h9 := app_end (v9 := .slice (some ⟨g9, 0, none⟩) (L.length + 1) c9) HYL.out HB5'.out HROW2.out hgrow9; have e9 := h9.1.cell; have f9 := h9.1.frozen; have H9 := Lib.hid h9; have HO9 := Lib.hid hown9; have HAT := Lib.hid hat9; clear h9 hown9 hgrow9 hiff9 hat9)
                refine HE.out _ (.slice (some ⟨g9, 0, none⟩) (L.length + 1) c9) H9.out.2 (H9.out.1.set _) ?_ (fun r h1 h2 e => ?_)
                · rw [HE1.out, List.length_append, List.flatMap_append]
                  exact HO9.out.kept (grownBy_setCell' w9 (B + 2) _) (.inr (fun e => H9.out.1.not_row (by decide) HO9.out e.symm))
                · rcases HAT.out with h | h
                  · rw [h] at e; exact HQ3.out r h1 h2 e
                  · rw [h] at e
                    injection e with e
                    have := HYL.out.size
                    simp at e
                    omega
              · have tl : decide (lo ≤ hi) = false := by simpa using hlh
                have HE1 := Lib.hid (show spnS p n v x = [] from by unfold spnS; rw [if_neg HZ.out, HLO.out, HHI.out, if_neg hlh])
                gi_wp2
                refine HE.out _ vv (Keeps.of_below HYL.out) (HB5'.out.kept (gr_below HYL.out none) (by simp)) ?_ HQ3.out
                rw [HE1.out, List.append_nil]; exact own_belowV HROW2.out HYL.out
    · have hqm : q = m := by have := HQ.out; omega
      subst hqm
      have hl : ∀ s ∈ rawK p n q, 0 ≤ s.1 ∧ s.1 ≤ s.2 ∧ s.2 ≤ 1000000000 := fun s hs => by have := rawK_bd hs; omega
      have hll : (rawK p n q).length ≤ 1000000 := by have := rawK_len n (fun v hv => (HP.out.w v hv).n) (p := p) q; omega
      obtain ⟨vv, q1, q2⟩ := HROW.out
      obtain ⟨A1, c1, hv⟩ := own_shape q2
      subst hv
      have e5 := q1.cell
      have HJ := Lib.hid (joined_any _ A1 c1 B wr hl hll q2)
      have HTR := Lib.hid (show thrP p n = joinC (rawK p n q) from by rw [HML.out]; rfl)
      obtain ⟨L, hL⟩ : ∃ L, L = rawK p n q := ⟨_, rfl⟩
      have HQ2 := Lib.hid q2
      rw [← hL] at HJ HTR HQ2 e5
      clear q1 q2 hl hll hL
      gi_wp2_with (refine ⟨trivial, ?_⟩; gi_at_call 90; refine (callsIn_wide.2 HJ.out).mono ?_; rintro e w9 ⟨A', c', rfl, ho, hg⟩; have HO := Lib.hid ho; have HG := Lib.hid hg; clear ho hg)
      rw [HTR.out]
      refine leaves_marks (fun W => W.ownsRow B 43 2 (.slice A' (joinC L).length c') (joinC L).length ((joinC L).flatMap enc2) ∧ Below B w W) B ?_ ?_ rs HRS.out.1 _ ⟨?_, ?_⟩ ?_
      · rintro r W hr ⟨h1, h2⟩ hk
        exact ⟨ownsRow_putObj h1 (.deferred none) hk rfl, h2.os, h2.tape, h2.output, by have := h2.size; simpa [World.putObj] using this, fun j hj => (World.putObj_heap_other (by omega)).trans (h2.block j hj)⟩
      · rintro W ⟨h1, h2⟩
        refine ⟨.slice A' (joinC L).length c', by simp [results, Try.f42, go_sem], ⟨A', c', rfl, ?_, ?_⟩⟩
        · rw [← HBB.out]; exact h1
        · rw [← HBB.out]; exact Lib.hid h2
      · exact World.ownsRow.mono HO.out (by have := HSZ.out; omega)
      · exact HBL.out.grown HG.out (by have := HSZ.out; omega) (fun j hj => (own_at HQ2.out hj).2)
      · intro r hr
        obtain ⟨h1, h2⟩ := HRS.out.2 r hr
        refine ⟨by have := HS3.out; omega, (HG.out.block r (lt_of_heap h2) (fun e => ?_)).trans h2⟩
        obtain ⟨⟨cs, hcs⟩, -⟩ := own_at HQ2.out e.symm
        rw [h2] at hcs
        cases hcs
end Go.Proofs.Ytnbnfadmbggfnaa
