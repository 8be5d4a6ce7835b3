/- The iterator of a web's splices; conditions: right reels. -/
import Derived.Test.YtnbnfadmbggfnaaC1
import Derived.Test.YtnbnfadmbggfnaaB1
import Derived.Shelf.Abstract
import Derived.OwnWalkIn
import Derived.TacticsInMore
import Derived.LoopNIn
import Derived.LoopIn
import Derived.RangeFuncCalls
import Derived.Sort.CutIn
set_option linter.unusedSimpArgs false
set_option linter.unusedVariables false
namespace Go.Rl
open Go.Fh Go.RowKit
/-- where a web's splices lie -/
def plcF (l : List ReelD) (i : Nat) : Int := gsum l (i + 1)
def plcs (l : List ReelD) : List Int := upF (plcF l) (l.length - 1)
theorem plcF_bd {l : List ReelD} (h : ∀ r ∈ l, ReelOk r) (hl : l.length ≤ 20) {i : Nat} (hi : i < l.length) : 0 ≤ plcF l i ∧ plcF l i ≤ 400000000 := by
  have := gsum_bd h (i + 1)
  unfold plcF; omega
def encsI (x : Int) : Array Go.Value := #[.int .i64 x]
/-- the blocks of reels that are newer stay -/
def KpI (lo l : Nat) (A B : Go.World) : Prop := Below lo A B ∧ ∀ g cs, l ≤ g → Blk A g 54 cs → Blk B g 54 cs
end Go.Rl
namespace Go.Proofs.Ytnbnfadmbggfnaa
open Go.RowKit Go.Fh Go.Rl Go.Shelf
attribute [local go_sem] Oper.semAt_some
theorem splices50_any (v : Array Value) (w : World) (hv : v.size = 4) :
    Calls Try.prog 50 #[.agg v] w fun e w' => e = .returned (.func (.func 95) #[] #[.pointer (some ⟨w.heap.size, 0, none⟩)]) ∧ w' = w.alloc (.cells v 41) := by
  obtain ⟨a, b, c, d, rfl⟩ : ∃ a b c d, v = #[a, b, c, d] := by
    obtain ⟨l⟩ := v
    match l, hv with
    | [a, b, c, d], _ => exact ⟨a, b, c, d, rfl⟩
  go_enter Try.func50, Try.ntmps50
  go_wp2_with fail
  go_ret
  exact ⟨rfl, rfl⟩
set_option maxRecDepth 100000 in
set_option maxHeartbeats 4000000 in
theorem splices_in (n : Nat) (hn : 1 ≤ n) (v : WebD) (A : Option Addr) (c gW : Nat) (w w0 : World) (hv : WebOk v) (hA : Sl encReel 4 w w.heap.size A v.reels) (hw0 : Below w.heap.size w w0)
    (hG : Blk w0 gW 41 #[.slice A v.reels.length c, .int .i64 v.off, .int .i64 v.bef, .int .i64 v.aft]) (G : Int → Prop) (hGG : ∀ i, i < v.reels.length → G (plcF v.reels i)) :
    SeqC Fence.wide n Try.prog 95 #[.pointer (some ⟨gW, 0, none⟩)] encsI (KpI w.heap.size) G (fun ys => ys = plcs v.reels) (fun _ => True) v.reels.length w0 := by
  intro l J Jx W hb hJ hJx hY h0
  have hgW := hG.lt
  have kW := hG.below hb hgW
  have hwW := hw0.trans (hb.mono hw0.size)
  have HA := Lib.hid (fun X (h : Below w.heap.size w X) => hA.below h)
  have HV := Lib.hid hv
  have HGG := Lib.hid hGG
  have HJ := Lib.hid hJ
  have HY := Lib.hid hY
  have H0 := Lib.hid h0
  have HWW := Lib.hid hwW
  have hsW : w.heap.size ≤ W.heap.size := hwW.size
  have y1 := kW.cell 0
  simp at y1
  obtain ⟨m, hm⟩ : ∃ m, m = v.reels.length := ⟨_, rfl⟩
  have hm20 := hv.n
  rw [← hm] at hm20 y1
  have HM := Lib.hid hm
  clear kW hwW hA hv hJ hJx hY h0 hG hb hw0 hGG hm
  refine callsIn_of_wp Try.func95 rfl trivial ?_ rfl
  simp only [Try.ntmps95, List.size_toArray, List.length_cons, List.length_nil, Nat.reduceAdd, Nat.reduceSub, Array.replicate_succ, Array.replicate_zero, List.push_toArray, List.append_toArray, List.nil_append, List.cons_append]
  gi_wp2
  clear y1
  gi_loopw [3, 9] (fun u i wr => ∃ q : Nat, q ≤ m ∧ i = .int .i64 (q : Int) ∧ u = .int .i64 (gsum v.reels q) ∧ Hid (J (upF (plcF v.reels) (q - 1)) wr) ∧ Hid (Below w.heap.size w wr) ∧ W.heap.size ≤ wr.heap.size) (fun _ i _ => m - (intOf i).toNat)
  case atStart => exact ⟨0, Nat.zero_le _, rfl, rfl, H0, HWW, Nat.le_refl _⟩
  case round =>
    obtain ⟨q, hq, rfl, rfl, HJs, HBL, hsz⟩ := hrel
    by_cases hlt : q < m
    · have hkl : q < v.reels.length := by have := HM.out; omega
      obtain ⟨b, off, hba, hbb, c0, c1, c2, c3⟩ := reel_at (HA.out wr HBL.out) hkl
      subst hba
      have hro := HV.out.r _ (List.getElem_mem hkl)
      have hgs := gsum_s hkl
      have hgb := gsum_bd HV.out.r q
      have hgb2 := gsum_bd HV.out.r (q + 1)
      obtain ⟨r, hr⟩ : ∃ r, r = v.reels[q] := ⟨_, rfl⟩
      rw [← hr] at c0 c1 c2 c3 hro hgs
      obtain ⟨sk, hsk⟩ : ∃ z, z = gsum v.reels q := ⟨_, rfl⟩
      rw [← hsk] at hgb hgs ⊢
      obtain ⟨g, hg⟩ : ∃ z, z = giv r := ⟨_, rfl⟩
      have G51 := Lib.hid (fun W => gives_any r W hro)
      rw [← hg] at G51 hgs
      rw [hgs] at hgb2
      have sw : IntKind.i64.wrap (sk + g) = sk + g := by rw [IntKind.wrap_i64]; omega
      have i0 : (0 : Int) ≤ (q : Int) := by omega
      have i1 : (q : Int) < (m : Int) := by omega
      have HGS := Lib.hid hgs
      have HSK := Lib.hid hsk
      have hszr := HBL.out.size
      obtain ⟨g5, hg5⟩ : ∃ g, g = wr.heap.size := ⟨_, rfl⟩
      obtain ⟨w5, hw5⟩ : ∃ W, W = wr.alloc (.cells #[.int .i64 r.id, .int .i64 r.width, .int .i64 r.len, .int .i64 r.core] 54) := ⟨_, rfl⟩
      have k5 : Blk w5 g5 54 #[.int .i64 r.id, .int .i64 r.width, .int .i64 r.len, .int .i64 r.core] := by rw [hw5, hg5]; exact Blk.new _ _ _
      have hb5 : Below wr.heap.size wr w5 := by rw [hw5]; exact balR (Below.refl _ _) _
      have HW5 := Lib.hid hw5
      have HG5 := Lib.hid hg5
      have HB5 := Lib.hid hb5
      have hs5 : wr.heap.size < w5.heap.size := by rw [hw5]; simp
      have hJ5 := HJ.out _ _ _ HJs.out (gr_below hb5 (some W.heap.size))
      have HJ5 := Lib.hid hJ5
      clear hr hsk hg hgs hw5 hb5 hJ5 hg5
      gi_upto_region 4 with fail
      rw [← HW5.out, ← HG5.out]
      clear c0 c1 c2 c3
      by_cases hq0 : q = 0
      · have t15 : decide ((q : Int) > 0) = false := by simp [hq0]
        have t16 : decide ((0 : Int) < (q : Int)) = false := by simp [hq0]
        have t17 : ¬ (0 : Int) < (q : Int) := by simp [hq0]
        have t18 : (q : Int) ≤ 0 := by simp [hq0]
        have s0 := k5.cell 0
        have s1 := k5.cell 1
        have s2 := k5.cell 2
        have s3 := k5.cell 3
        simp at s0 s1 s2 s3
        have HQ0 := Lib.hid hq0
        clear hq0 k5
        gi_upto_region 5 with (refine ⟨fun _ h => (by cases h), ?_⟩)
        gi_wp2_with (refine ⟨trivial, ?_⟩; gi_at_call 51; refine (callsIn_wide.2 (G51.out _)).mono ?_; rintro e w6 ⟨rfl, hb6⟩; have HB6 := hb6; clear hb6)
        go_roundw
        case rel =>
          refine ⟨q + 1, by omega, by go_num, by rw [HGS.out], ?_, HBL.out.trans ((HB5.out.trans (HB6.out.mono HB5.out.size)).mono HBL.out.size), by have := HB6.out.size; omega⟩
          have := HJ.out _ _ _ HJ5.out (gr_below HB6.out (some W.heap.size))
          rw [HQ0.out] at this ⊢
          exact this
        case measure => simp [intOf]; omega
      · have t15 : decide ((q : Int) > 0) = true := by simp; omega
        have t16 : decide ((0 : Int) < (q : Int)) = true := by simp; omega
        have t17 : (0 : Int) < (q : Int) := by omega
        obtain ⟨p, rfl⟩ : ∃ p, q = p + 1 := ⟨q - 1, by omega⟩
        have hup : upF (plcF v.reels) (p + 1) = upF (plcF v.reels) p ++ [sk] := by rw [upF_succ, HSK.out]; rfl
        have hgg : G sk := by have := HGG.out p (by have := HM.out; omega); rw [HSK.out]; exact this
        have hY1 := HY.out (upF (plcF v.reels) p) sk w5 hgg (by have := HJ5.out; exact this) (by rw [upF_len]; have := HM.out; omega) (by omega)
        obtain ⟨fn, tmps, assign, body, hy, hR⟩ := hY1
        dsimp only [encsI] at hy
        have HR := Lib.hid hR
        have HUP := Lib.hid hup
        have K5 := Lib.hid k5
        have hgs5 : W.heap.size ≤ g5 := by rw [HG5.out]; exact hsz
        clear hR hup hgg k5 hq0
        gi_wp2
        refine HR.out.mono ?_
        rintro e W4 (⟨rfl, hJ4, hk4⟩ | ⟨rfl, hJx4⟩)
        · have HJ4 := Lib.hid hJ4
          have k4 := hk4.2 _ _ hgs5 K5.out
          have HK4 := Lib.hid hk4.1
          have s0 := k4.cell 0
          have s1 := k4.cell 1
          have s2 := k4.cell 2
          have s3 := k4.cell 3
          simp at s0 s1 s2 s3
          clear hJ4 hk4 hy k4
          gi_wp2_with (refine ⟨trivial, ?_⟩; gi_at_call 51; refine (callsIn_wide.2 (G51.out _)).mono ?_; rintro e w6 ⟨rfl, hb6⟩; have HB6 := hb6; clear hb6)
          go_roundw
          case rel =>
            have hb4 := (HBL.out.trans (HB5.out.mono HBL.out.size)).trans HK4.out
            refine ⟨p + 1 + 1, by omega, by go_num, by rw [HGS.out], ?_, hb4.trans (HB6.out.mono hb4.size), ?_⟩
            · have := HJ.out _ _ _ HJ4.out (gr_below HB6.out (some W.heap.size))
              rw [← HUP.out] at this
              exact this
            · have h1 := HB6.out.size
              have h2 := HK4.out.size
              omega
          case measure => simp [intOf]; omega
        · have HJ4 := Lib.hid hJx4
          clear hJx4 hy
          gi_wp2
          refine bodyPost_ret (results_none rfl _ _ _) rfl ?_
          exact ⟨⟨_, rfl⟩, .inr ⟨_, trivial, HJ4.out⟩⟩
    · obtain rfl : q = m := by omega
      gi_wp2
      go_end0
      refine ⟨⟨_, rfl⟩, .inl ⟨_, rfl, ?_⟩⟩
      have := HJs.out
      rw [HM.out] at this
      exact this
end Go.Proofs.Ytnbnfadmbggfnaa
