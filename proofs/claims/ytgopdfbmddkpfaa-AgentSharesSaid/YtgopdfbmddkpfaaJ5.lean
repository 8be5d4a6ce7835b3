/- Contract of the law's shared; conditions: none. -/
import Derived.Test.YtgopdfbmddkpfaaJ3
import Derived.Test.YtgopdfbmddkpfaaJ4
import Derived.Test.YtgopdfbmddkpfaaE1
import Derived.Test.YtgopdfbmddkpfaaE2
set_option linter.unusedSimpArgs false
set_option linter.unusedVariables false
namespace Go.Proofs.Ytgopdfbmddkpfaa
open Go.RowKit Go.Fh Go.Ag
theorem info125 : (Try.prog.info? 125).map (fun i => (i.zero, i.size, i.bytes)) = some (some (.agg #[.int .i64 0, .int .i64 0, .int .i64 0]), 3, 24) := by kernel_rfl
theorem shareL_bd (l : List Ord3) (copies : Int) : (shareL l copies).length ≤ l.length := by
  unfold shareL
  split
  · simp
  · simp

set_option maxRecDepth 20000 in
set_option maxHeartbeats 4000000 in
theorem sharedL_any (A : Option Addr) (c : Nat) (l : List Ord3) (copies : Int) (S : Option Addr) (cs : Nat) (sh : List Int) (w : World) (hl : l.length ≤ 60) (hls : sh.length ≤ 100) (hc1 : copies ≤ 9223372036854775807) (hA : Sl enc3 3 w w.heap.size A l) (hS : Sl encInt 1 w w.heap.size S sh) :
    Calls Try.prog 23 #[.slice A l.length c, .int .i64 copies, .slice S sh.length cs] w fun e w' => e = .returned (.bool true) ∧ Below w.heap.size w w' := by
  obtain ⟨i0, hi0, hz0, hz1, hz2⟩ := info_parts info125
  have HI0 := Lib.hid hi0
  have HA := Lib.hid hA
  have HSH := Lib.hid hS
  clear hi0 hA hS
  go_enter Try.func23, Try.ntmps23
  go_wp2_with fail
  refine (cloneOrder_any A c l w (by omega) HA.out).mono ?_
  rintro e w1 ⟨A1, c1, rfl, hs1, hb1⟩
  have HA1 := Lib.hid hs1
  have HB1 := Lib.hid hb1
  clear hs1 hb1
  go_wp2_with fail
  go_loopw [8, 26] (fun v i wr => ∃ k : Nat, k ≤ l.length ∧ i = .int .i64 k ∧ (∃ A' c', v = .slice A' k c') ∧ wr.ownsRow w1.heap.size 125 3 v k ((l.take k).flatMap enc3) ∧ Below w1.heap.size w1 wr) (fun _ i _ => l.length - (intOf i).toNat)
  case atStart => exact ⟨0, Nat.zero_le _, rfl, ⟨none, 0, rfl⟩, World.ownsRow_nil _ _ _ _, Below.refl _ _⟩
  case round =>
    obtain ⟨k, hk, rfl, ⟨R1, cc, rfl⟩, hown, hB⟩ := hrel
    have HOWN := Lib.hid hown
    clear hown
    by_cases hlt : k < l.length
    · obtain ⟨b, off, rfl, hb, d0, d1, d2⟩ := (HA.out.below (HB1.out.trans (hB.mono HB1.out.size))).at3 hlt
      have hsz := hB.size
      have hsz1 := HB1.out.size
      have hbw : b < wr.heap.size := by omega
      obtain ⟨x, hx⟩ : ∃ x, x = l[k] := ⟨_, rfl⟩
      rw [← hx] at d0 d1 d2
      have HX := Lib.hid hx
      clear hx
      have hown2 := (HOWN.out.alloc (.cells #[.int .i64 x.1, .int .i64 x.2.1, .int .i64 x.2.2] 44)).alloc (.cells #[.int .i64 x.1, .int .i64 x.2.1, .int .i64 x.2.2] 125)
      have HOWN2 := Lib.hid hown2
      have HNEWS := Lib.hid (news_of2 wr (.cells #[.int .i64 x.1, .int .i64 x.2.1, .int .i64 x.2.2] 44) 125 #[.int .i64 x.1, .int .i64 x.2.1, .int .i64 x.2.2])
      have hone : ∀ u ∈ enc3 x, u.oneCell' = true := by intro u hu; simp [enc3] at hu; rcases hu with rfl | rfl | rfl <;> rfl
      have hm1 : k + 1 ≤ maxLen := by simp only [maxLen]; omega
      have hm2 : (k + 1) * 24 ≤ 140737488355328 := by omega
      have hm3 : w1.heap.size ≤ ((wr.alloc (.cells #[.int .i64 x.1, .int .i64 x.2.1, .int .i64 x.2.2] 44)).alloc (.cells #[.int .i64 x.1, .int .i64 x.2.1, .int .i64 x.2.2] 125)).heap.size := by simp; omega
      have HM3 := Lib.hid hm3
      have HONE := Lib.hid hone
      clear hown2 hm3 hone
      go_wp2_with (at_builtin; refine wpList_append_own _ rfl (.tmp 30) (.tmp 32) 124 rfl w1.heap.size 125 i0 (.agg #[.int .i64 0, .int .i64 0, .int .i64 0]) 3 24 Try.underlying124 HI0.out hz0 hz1 hz2 rfl (by decide) (.slice R1 k cc) k ((l.take k).flatMap enc3) rfl HOWN2.out ⟨wr.heap.size + 1, 0, none⟩ 1 1 (enc3 x) rfl rfl HNEWS.out HONE.out hm1 hm2 HM3.out ?_; intro v' w3 hown1 hg1 _)
      have HG1 := Lib.hid hg1
      have HO1 := Lib.hid hown1
      obtain ⟨A', c', rfl⟩ := own_shape hown1
      clear hg1 hown1
      go_wp2
      go_roundw
      case rel =>
        refine ⟨k + 1, by omega, by go_num, ⟨A', c', rfl⟩, ?_, ?_⟩
        · rw [List.take_succ_eq_append_getElem hlt, List.flatMap_append, ← HX.out]; simpa using HO1.out
        · exact (((hB.alloc hB.size _).alloc (by simp; omega) _).grown HG1.out (by simp; omega) (fun j hj => (HOWN.out.lt j hj).1))
      case measure => simp [intOf]; omega
    · obtain rfl : k = l.length := by omega
      have hR : Sl enc3 3 wr wr.heap.size R1 l := by
        have := HOWN.out
        rw [List.take_length] at this
        exact Sl.of_own (enc := enc3) (fun _ => rfl) this
      obtain ⟨w0, hw0⟩ : ∃ w0, w0 = wr := ⟨_, rfl⟩
      rw [← hw0] at hR hB ⊢
      have hsz1 := HB1.out.size
      have HBW := Lib.hid (HB1.out.trans (hB.mono hsz1))
      have HAr := Lib.hid ((HA.out.below HBW.out).mono HBW.out.size)
      have HSr := Lib.hid ((HSH.out.below HBW.out).mono HBW.out.size)
      have HA1r := Lib.hid ((HA1.out.below hB).mono hB.size)
      have HRr := Lib.hid hR
      have hlen60 := shareL_bd l copies
      clear hw0 hR hB HA1 HA HSH HOWN HI0 hz0 hz1 hz2
      -- all from here on is kept from the world w0
      have hshare := fun W (hW : Below w0.heap.size w0 W) => share_any A1 c1 l copies W (by omega) hc1 ((HA1r.out.below hW).mono hW.size)
      have hrshare := fun W (hW : Below w0.heap.size w0 W) => rshare_any R1 cc l copies W (by omega) hc1 ((HRr.out.below hW).mono hW.size)
      have HSHARE := Lib.hid hshare
      have HRSHARE := Lib.hid hrshare
      clear hshare hrshare
      obtain ⟨a, ha⟩ : ∃ a, a = shareL l copies := ⟨_, rfl⟩
      obtain ⟨er, her⟩ : ∃ er, er = sharedE l copies := ⟨_, rfl⟩
      rw [← ha] at HSHARE HRSHARE hlen60
      rw [← her] at HSHARE HRSHARE
      clear ha her
      go_wp2_with fail
      refine (HSHARE.out _ (Below.refl _ _)).mono ?_
      rintro e w2 ⟨Aa, ca, rfl, hSa, _, hb2⟩
      have H2 := Lib.hid hb2
      have HSa := Lib.hid hSa
      clear hb2 hSa
      go_wp2_with fail
      refine (HRSHARE.out _ H2.out).mono ?_
      rintro e w3 ⟨Ab, cb, rfl, hSb, _, hb3⟩
      have H3 := Lib.hid (H2.out.trans (hb3.mono H2.out.size))
      have HSa3 := Lib.hid ((HSa.out.below hb3).mono hb3.size)
      have HSb := Lib.hid hSb
      clear hb3 hSb HSa H2
      go_wp2_with fail
      refine (equalInts_any Aa Ab ca cb a a _ (by omega) (by omega) HSa3.out HSb.out).mono ?_
      rw [show decide (a = a) = true by simp]
      rintro e w4 ⟨rfl, hb4⟩
      have h4 := H3.out.trans (hb4.mono H3.out.size)
      have hSa4 := (HSa3.out.below hb4).mono hb4.size
      obtain ⟨w5, hw5⟩ : ∃ w5, w5 = w4.alloc (.cells #[.slice S sh.length cs, .slice Aa a.length ca] 37) := ⟨_, rfl⟩
      obtain ⟨g, hg⟩ : ∃ g, g = w4.heap.size := ⟨_, rfl⟩
      have h45 : Below w4.heap.size w4 w5 := by rw [hw5]; exact (Below.refl _ _).alloc (Nat.le_refl _) _
      have H5 := Lib.hid (h4.trans (h45.mono h4.size))
      have HSa5 := Lib.hid ((hSa4.below h45).mono h45.size)
      have HKG := Lib.hid (show Blk w5 g 37 #[.slice S sh.length cs, .slice Aa a.length ca] by rw [hw5, hg]; exact Blk.new _ _ _)
      have HW5 := Lib.hid hw5
      have HGG := Lib.hid hg
      clear hb4 h4 hSa4 h45 hw5 hg HSHARE HRSHARE HSa3 HSb H3
      go_wp2_with fail
      rw [← HW5.out, ← HGG.out]
      go_loopw [60] (fun i wr => ∃ k : Nat, k ≤ 2 ∧ i = .int .i64 k ∧ Below w5.heap.size w5 wr) (fun i _ => 2 - (intOf i).toNat)
      case atStart => exact ⟨0, by omega, rfl, Below.refl _ _⟩
      case round =>
        obtain ⟨k, hk, rfl, hB⟩ := hrel
        have hkg := Blk.below HKG.out hB HKG.out.lt
        have hz5 := H5.out.size
        have hBr := H5.out.trans (hB.mono hz5)
        by_cases hlt : k < 2
        · obtain ⟨X, cX, xs, hcell, hXs, hxl⟩ : ∃ X cX, ∃ xs : List Int, wr.cell? ⟨g, k, none⟩ = some (.slice X xs.length cX) ∧ Sl encInt 1 wr wr.heap.size X xs ∧ xs.length ≤ 100 := by
            have hc := hkg.cell k
            by_cases h0 : k = 0
            · subst h0
              exact ⟨S, cs, sh, by simpa using hc, (HSr.out.below hBr).mono hBr.size, hls⟩
            · obtain rfl : k = 1 := by omega
              exact ⟨Aa, ca, a, by simpa using hc, (HSa5.out.below hB).mono hB.size, by omega⟩
          have HXS := Lib.hid hXs
          have hfair := fun Y cy W (hW : Below wr.heap.size wr W) hY => fair_any A1 c1 l copies Y cy xs W (by omega) (by omega) ((HA1r.out.below (hBr.trans (hW.mono hBr.size))).mono (Nat.le_trans hBr.size hW.size)) hY
          have hrfair := fun W (hW : Below wr.heap.size wr W) => rfair_any R1 cc l copies X cX xs W (by omega) (by omega) ((HRr.out.below (hBr.trans (hW.mono hBr.size))).mono (Nat.le_trans hBr.size hW.size)) ((HXS.out.below hW).mono hW.size)
          obtain ⟨fr, hfr⟩ : ∃ fr, fr = fairR l copies xs := ⟨_, rfl⟩
          simp only [← hfr] at hfair hrfair
          obtain ⟨f1, f2⟩ := fr
          have HFAIR := Lib.hid hfair
          have HRFAIR := Lib.hid hrfair
          clear hfair hrfair hfr hXs hkg
          go_wp2_with fail
          refine (cloneInt_any X cX xs _ (by omega) HXS.out).mono ?_
          rintro e w6 ⟨Y, cy, rfl, hY, hb6⟩
          have H6 := Lib.hid hb6
          have HY := Lib.hid hY
          clear hb6 hY
          go_wp2_with fail
          refine (HFAIR.out Y cy _ H6.out HY.out).mono ?_
          rintro e w7 ⟨rfl, hb7⟩
          have H7 := Lib.hid (H6.out.trans (hb7.mono H6.out.size))
          have HY7 := Lib.hid ((HY.out.below hb7).mono hb7.size)
          clear hb7 H6 HY
          go_wp2_with fail
          refine (HRFAIR.out _ H7.out).mono ?_
          rintro e w8 ⟨rfl, hb8⟩
          have H8 := Lib.hid (H7.out.trans (hb8.mono H7.out.size))
          have HY8 := Lib.hid ((HY7.out.below hb8).mono hb8.size)
          have HX8 := Lib.hid ((HXS.out.below H8.out).mono H8.out.size)
          clear hb8 H7 HY7
          go_wp2_with fail
          refine (equalInts_any X Y cX cy xs xs _ (by omega) (by omega) HX8.out HY8.out).mono ?_
          rw [show decide (xs = xs) = true by simp]
          rintro e w9 ⟨rfl, hb9⟩
          have H9 := Lib.hid (H8.out.trans (hb9.mono H8.out.size))
          clear hb9
          go_wp2_with fail
          go_roundw
          case rel => exact ⟨k + 1, by omega, by go_num, hB.trans (H9.out.mono hB.size)⟩
          case measure => simp [intOf]; omega
        · obtain rfl : k = 2 := by omega
          go_wp2_with fail
          refine (equalOrder_any A1 A c1 c l l _ (by omega) (by omega) ((HA1r.out.below hBr).mono hBr.size) ((HAr.out.below hBr).mono hBr.size)).mono ?_
          rw [show decide (l = l) = true by simp]
          rintro e w9 ⟨rfl, hb9⟩
          have h9 := HBW.out.trans ((hBr.trans (hb9.mono hBr.size)).mono HBW.out.size)
          clear hb9
          go_wp2_with fail
          go_ret
          exact ⟨rfl, h9⟩
end Go.Proofs.Ytgopdfbmddkpfaa
