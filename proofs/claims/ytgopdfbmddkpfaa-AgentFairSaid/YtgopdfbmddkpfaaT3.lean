/- Contract of orders, which makes orders of numbers; conditions: none. -/
import Derived.Test.YtgopdfbmddkpfaaT1
import Derived.Test.YtgopdfbmddkpfaaSpec9
import Derived.Deep.RegionHeld3
import Derived.Deep.DeepCutAuto
import Derived.Deep.DeepMust
set_option linter.unusedSimpArgs false
set_option linter.unusedVariables false
namespace Go.Proofs.Ytgopdfbmddkpfaa
open Go.RowKit Go.Fh Go.Ag
theorem info44 : (Try.prog.info? 44).map (fun i => (i.zero, i.size, i.bytes)) = some (some (.agg #[.int .i64 0, .int .i64 0, .int .i64 0]), 3, 24) := by kernel_rfl

set_option maxRecDepth 20000 in
set_option maxHeartbeats 4000000 in
theorem orders_any (A : Option Addr) (c : Nat) (l : List Int) (w : World) (hl : l.length ≤ 9223372036854775807) (hb : ∀ n ∈ l, 0 ≤ n ∧ n ≤ 255) (hA : Sl encB 1 w w.heap.size A l) :
    Calls Try.prog 18 #[.slice A l.length c] w fun e w' => ∃ A' c', e = .returned (.slice A' (ordD l).length c') ∧ Sl enc3 3 w' w'.heap.size A' (ordD l) ∧ Fr w.heap.size A' ∧ Below w.heap.size w w' := by
  obtain ⟨i0, hi0, hz0, hz1, hz2⟩ := info_parts info44
  have HA := Lib.hid hA
  have HBD := Lib.hid hb
  have HI0 := Lib.hid hi0
  clear hA hb hi0
  go_enter Try.func18, Try.ntmps18
  go_wp2
  go_loopw [3, 4] (fun v i wr => ∃ k j : Nat, k ≤ ordN l ∧ j = 2 * k ∧ i = .int .i64 j ∧ (∃ A' c', v = .slice A' k c') ∧ wr.ownsRow w.heap.size 44 3 v k ((uptoF (ordF l) k).flatMap enc3) ∧ Below w.heap.size w wr) (fun _ i _ => 121 - (intOf i).toNat)
  case atStart => exact ⟨0, 0, Nat.zero_le _, rfl, rfl, ⟨none, 0, rfl⟩, World.ownsRow_nil _ _ _ _, Below.refl _ _⟩
  case round =>
    obtain ⟨k, j, hk, hj, rfl, ⟨A1, cc, rfl⟩, hown, hB⟩ := hrel
    have HOWN := Lib.hid hown
    clear hown
    by_cases hlt : k < ordN l
    · have hn : 2 * k + 1 < l.length ∧ 2 * k < 24 ∧ k < 12 := by unfold ordN at hlt; omega
      have hk60 : k < 12 := hn.2.2
      obtain ⟨b, off, rfl, hb, hc⟩ := (HA.out.below hB).atB (k := j) (by omega)
      have hsz := hB.size
      have hbw : b < wr.heap.size := by omega
      obtain ⟨x, hx⟩ : ∃ x, x = l.getD j 0 := ⟨_, rfl⟩
      obtain ⟨y, hy⟩ : ∃ y, y = l.getD (j + 1) 0 := ⟨_, rfl⟩
      have c0 := hc j (by omega)
      have c1 := hc (j + 1) (by omega)
      rw [← hx] at c0
      rw [← hy] at c1
      have hxb : 0 ≤ x ∧ x ≤ 255 := HBD.out x (by rw [hx, List.getD_eq_getElem?_getD, List.getElem?_eq_getElem (by omega)]; exact List.getElem_mem _)
      have hyb : 0 ≤ y ∧ y ≤ 255 := HBD.out y (by rw [hy, List.getD_eq_getElem?_getD, List.getElem?_eq_getElem (by omega)]; exact List.getElem_mem _)
      have hd : ordF l k = (3 * (j : Int), x % 60, y % (x % 60 + 1) / 3) := by unfold ordF; rw [← hj, ← hx, ← hy]; simp only [Prod.mk.injEq, and_true]; omega
      have HD := Lib.hid hd
      have HJ := Lib.hid hj
      have hj1 : (j : Int) + 1 < l.length := by omega
      have hj2 : (j : Int) < 24 := by omega
      have g1 := IntWalk.i64_in ((j : Int) + 1) (by omega)
      have g2 := IntWalk.i64_in ((j : Int) + 2) (by omega)
      have g4 := IntWalk.i64_in (3 * (j : Int)) (by omega)
      obtain ⟨hx1, hx2⟩ := hxb
      obtain ⟨hy1, hy2⟩ := hyb
      have g3 := IntWalk.i64_in (x % 60 + 1) (by omega)
      have hz : ((x % 60 + 1) == 0) = false := by simp; omega
      have hp : 0 ≤ y % (x % 60 + 1) := Int.emod_nonneg _ (by omega)
      have hp2 : y % (x % 60 + 1) < x % 60 + 1 := Int.emod_lt_of_pos _ (by omega)
      have HBWR := Lib.hid hB
      clear hc hx hy hj hn hd
      go_upto_region 6 with fail
      go_cut [28] (fun p wx => wx = (wr.alloc (.cells #[.int .i64 (3 * (j : Int)), .int .i64 (x % 60), .int .i64 (y % (x % 60 + 1) / 3)] 44)).drew)
      case first =>
        clear HOWN HI0 HA HBD HD HJ
        go_region
        all_goals go_wp2_with fail
        all_goals go_meet
        all_goals rfl
      case rest =>
        obtain rfl := hcut
        have hown2 : (((wr.alloc (.cells #[.int .i64 (3 * (j : Int)), .int .i64 (x % 60), .int .i64 (y % (x % 60 + 1) / 3)] 44)).alloc (.cells #[.int .i64 (3 * (j : Int)), .int .i64 (x % 60), .int .i64 (y % (x % 60 + 1) / 3)] 44)).drew).ownsRow w.heap.size 44 3 (.slice A1 k cc) k ((uptoF (ordF l) k).flatMap enc3) := (HOWN.out.alloc (.cells #[.int .i64 (3 * (j : Int)), .int .i64 (x % 60), .int .i64 (y % (x % 60 + 1) / 3)] 44)).alloc (.cells #[.int .i64 (3 * (j : Int)), .int .i64 (x % 60), .int .i64 (y % (x % 60 + 1) / 3)] 44)
        have HOWN2 := Lib.hid hown2
        have hnews : ∀ j' u, (enc3 (3 * (j : Int), x % 60, y % (x % 60 + 1) / 3))[j']? = some u → (((wr.alloc (.cells #[.int .i64 (3 * (j : Int)), .int .i64 (x % 60), .int .i64 (y % (x % 60 + 1) / 3)] 44)).alloc (.cells #[.int .i64 (3 * (j : Int)), .int .i64 (x % 60), .int .i64 (y % (x % 60 + 1) / 3)] 44)).drew).cell? ((⟨wr.heap.size + 1, 0, none⟩ : Addr).add j') = some u := news_of2 wr (.cells #[.int .i64 (3 * (j : Int)), .int .i64 (x % 60), .int .i64 (y % (x % 60 + 1) / 3)] 44) 44 #[.int .i64 (3 * (j : Int)), .int .i64 (x % 60), .int .i64 (y % (x % 60 + 1) / 3)]
        have HNEWS := Lib.hid hnews
        have hone : ∀ u ∈ enc3 (3 * (j : Int), x % 60, y % (x % 60 + 1) / 3), u.oneCell' = true := by intro u hu; simp [enc3] at hu; rcases hu with rfl | rfl | rfl <;> rfl
        have hm1 : k + 1 ≤ maxLen := by simp only [maxLen]; omega
        have hm2 : (k + 1) * 24 ≤ 140737488355328 := by omega
        have hm3 : w.heap.size ≤ (((wr.alloc (.cells #[.int .i64 (3 * (j : Int)), .int .i64 (x % 60), .int .i64 (y % (x % 60 + 1) / 3)] 44)).alloc (.cells #[.int .i64 (3 * (j : Int)), .int .i64 (x % 60), .int .i64 (y % (x % 60 + 1) / 3)] 44)).drew).heap.size := by show w.heap.size ≤ ((wr.alloc (.cells #[.int .i64 (3 * (j : Int)), .int .i64 (x % 60), .int .i64 (y % (x % 60 + 1) / 3)] 44)).alloc (.cells #[.int .i64 (3 * (j : Int)), .int .i64 (x % 60), .int .i64 (y % (x % 60 + 1) / 3)] 44)).heap.size; simp; omega
        have hbz : Below w.heap.size w (((wr.alloc (.cells #[.int .i64 (3 * (j : Int)), .int .i64 (x % 60), .int .i64 (y % (x % 60 + 1) / 3)] 44)).alloc (.cells #[.int .i64 (3 * (j : Int)), .int .i64 (x % 60), .int .i64 (y % (x % 60 + 1) / 3)] 44)).drew) := ((HBWR.out.alloc HBWR.out.size _).alloc (by simp; omega) _).drew
        have HBZ := Lib.hid hbz
        have HM3 := Lib.hid hm3
        have HONE := Lib.hid hone
        clear hown2 hnews hm3 hone hbz
        go_wp2_with (at_builtin; refine wpList_append_own _ rfl (.tmp 38) (.tmp 40) 39 rfl w.heap.size 44 i0 (.agg #[.int .i64 0, .int .i64 0, .int .i64 0]) 3 24 Try.underlying39 HI0.out hz0 hz1 hz2 rfl (by decide) (.slice A1 k cc) k ((uptoF (ordF l) k).flatMap enc3) rfl HOWN2.out ⟨wr.heap.size + 1, 0, none⟩ 1 1 (enc3 (3 * (j : Int), x % 60, y % (x % 60 + 1) / 3)) rfl rfl HNEWS.out HONE.out hm1 hm2 HM3.out ?_; intro v' w1 hown1 hg1 _)
        have HG1 := Lib.hid hg1
        have HO1 := Lib.hid hown1
        obtain ⟨A', c', rfl⟩ := own_shape hown1
        clear hg1 hown1
        go_wp2
        go_roundw
        case rel =>
          refine ⟨k + 1, j + 2, by omega, by have := HJ.out; omega, by go_num, ⟨A', c', rfl⟩, ?_, ?_⟩
          · rw [uptoF_succ, List.flatMap_append, HD.out]; simpa using HO1.out
          · exact (HBZ.out.grown HG1.out (by have := HM3.out; omega) (fun j hj => (HOWN.out.lt j hj).1))
        case measure => simp [intOf]; omega
    · obtain rfl : k = ordN l := by omega
      have hn : ¬ ((j : Int) + 1 < l.length ∧ (j : Int) < 24) := by unfold ordN at hj; omega
      have hjb : j ≤ 24 := by unfold ordN at hj; omega
      have g1 := IntWalk.i64_in ((j : Int) + 1) (by omega)
      have hlen : (ordD l).length = ordN l := (ordD_len l).1
      by_cases ha : (j : Int) + 1 < l.length
      · have hb' : decide ((j : Int) < 24) = false := by simp; omega
        clear hj
        go_wp2
        go_ret
        refine ⟨A1, cc, by rw [hlen]; rfl, ?_, Fr.own HOWN.out (Nat.le_refl _), hB⟩
        exact Sl.of_own (enc := enc3) (c := cc) (fun _ => rfl) (by rw [hlen]; exact HOWN.out)
      · have ha' : decide ((j : Int) + 1 < (l.length : Int)) = false := by simp; omega
        clear hj
        go_wp2
        go_ret
        refine ⟨A1, ⟨cc, rfl⟩, ?_, Fr.own HOWN.out (Nat.le_refl _), hB⟩
        exact Sl.of_own (enc := enc3) (c := cc) (fun _ => rfl) (by rw [hlen]; exact HOWN.out)
end Go.Proofs.Ytgopdfbmddkpfaa
