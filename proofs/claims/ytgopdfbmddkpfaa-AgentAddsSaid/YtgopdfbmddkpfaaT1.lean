/- Contract of history, which makes days of numbers; conditions: none. -/
import Derived.Test.YtgopdfbmddkpfaaB2
import Derived.Test.YtgopdfbmddkpfaaR1
import Derived.Test.YtgopdfbmddkpfaaA5
import Derived.Test.YtgopdfbmddkpfaaSpec5
set_option linter.unusedSimpArgs false
set_option linter.unusedVariables false
namespace Go.Ag
def dayOf (a b : Int) : Int × Int := (a % 60, if 0 < b % 3 then b % (a % 60 + 1) else 0)
def histN (l : List Int) : Nat := min (l.length / 2) 60
def histF (l : List Int) (k : Nat) : Int × Int := dayOf (l.getD (2 * k) 0) (l.getD (2 * k + 1) 0)
def histD (l : List Int) : List (Int × Int) := uptoF (histF l) (histN l)
theorem histD_len (l : List Int) : (histD l).length ≤ 60 := by simp [histD, uptoF, histN]; omega
theorem dayOf_ok {a b : Int} : 0 ≤ (dayOf a b).1 ∧ (dayOf a b).1 < 60 ∧ 0 ≤ (dayOf a b).2 ∧ (dayOf a b).2 ≤ (dayOf a b).1 := by
  unfold dayOf
  have h1 : 0 ≤ a % 60 := Int.emod_nonneg _ (by decide)
  have h2 : a % 60 < 60 := Int.emod_lt_of_pos _ (by decide)
  refine ⟨h1, h2, ?_⟩
  dsimp only
  split
  · have h3 : 0 ≤ b % (a % 60 + 1) := Int.emod_nonneg _ (by omega)
    have h4 : b % (a % 60 + 1) < a % 60 + 1 := Int.emod_lt_of_pos _ (by omega)
    omega
  · omega
theorem histD_ok (l : List Int) : ∀ d ∈ histD l, OkDay d ∧ d.1 < 60 := by
  intro d hd
  simp only [histD, uptoF, List.mem_map] at hd
  obtain ⟨k, _, rfl⟩ := hd
  have := dayOf_ok (a := l.getD (2 * k) 0) (b := l.getD (2 * k + 1) 0)
  unfold OkDay histF
  omega
end Go.Ag
namespace Go.Fh
def encB (n : Int) : List Value := [.int .u8 n]
theorem Sl.atB {B : Nat} {w : World} {A : Option Addr} {l : List Int} (h : Sl encB 1 w B A l) {k : Nat} (hk : k < l.length) :
    ∃ b off, A = some ⟨b, off, none⟩ ∧ b < B ∧ ∀ j, j < l.length → w.cell? ⟨b, off + j, none⟩ = some (.int .u8 (l.getD j 0)) := by
  obtain ⟨b, off, hA, hb, hc⟩ := h (by intro e; subst e; simp at hk)
  refine ⟨b, off, hA, hb, fun j hj => ?_⟩
  have := hc j _ (List.getElem?_eq_getElem hj) 0 _ rfl
  rw [List.getD_eq_getElem?_getD, List.getElem?_eq_getElem hj, Option.getD_some]
  simpa using this
end Go.Fh
namespace Go.Proofs.Ytgopdfbmddkpfaa
open Go.RowKit Go.Fh Go.Ag
theorem info33 : (Try.prog.info? 33).map (fun i => (i.zero, i.size, i.bytes)) = some (some (.agg #[.int .i64 0, .int .i64 0]), 2, 16) := by kernel_rfl

set_option maxRecDepth 20000 in
set_option maxHeartbeats 2000000 in
theorem history_any (A : Option Addr) (c : Nat) (l : List Int) (w : World) (hl : l.length ≤ 9223372036854775807) (hb : ∀ n ∈ l, 0 ≤ n ∧ n ≤ 255) (hA : Sl encB 1 w w.heap.size A l) :
    Calls Try.prog 13 #[.slice A l.length c] w fun e w' => ∃ A' c', e = .returned (.slice A' (histD l).length c') ∧ Sl enc2 2 w' w'.heap.size A' (histD l) ∧ Fr w.heap.size A' ∧ Below w.heap.size w w' := by
  obtain ⟨i0, hi0, hz0, hz1, hz2⟩ := info_parts info33
  have HA := Lib.hid hA
  have HBD := Lib.hid hb
  have HI0 := Lib.hid hi0
  clear hA hb hi0
  go_enter Try.func13, Try.ntmps13
  go_wp2
  go_loopw [3, 4] (fun v i wr => ∃ k j : Nat, k ≤ histN l ∧ j = 2 * k ∧ i = .int .i64 j ∧ (∃ A' c', v = .slice A' k c') ∧ wr.ownsRow w.heap.size 33 2 v k ((uptoF (histF l) k).flatMap enc2) ∧ Below w.heap.size w wr) (fun _ i _ => 121 - (intOf i).toNat)
  case atStart => exact ⟨0, 0, Nat.zero_le _, rfl, rfl, ⟨none, 0, rfl⟩, World.ownsRow_nil _ _ _ _, Below.refl _ _⟩
  case round =>
    obtain ⟨k, j, hk, hj, rfl, ⟨A1, cc, rfl⟩, hown, hB⟩ := hrel
    have HOWN := Lib.hid hown
    clear hown
    by_cases hlt : k < histN l
    · have hn : 2 * k + 1 < l.length ∧ 2 * k < 120 ∧ k < 60 := by unfold histN at hlt; omega
      have hk60 : k < 60 := hn.2.2
      obtain ⟨b, off, rfl, hb, hc⟩ := (HA.out.below hB).atB (k := j) (by omega)
      have hsz := hB.size
      have hbw : b < wr.heap.size := by omega
      obtain ⟨x, hx⟩ : ∃ x, x = l.getD j 0 := ⟨_, rfl⟩
      obtain ⟨y, hy⟩ : ∃ y, y = l.getD (j + 1) 0 := ⟨_, rfl⟩
      have c0 := hc j (by omega)
      have c1 := hc (j + 1) (by omega)
      rw [← hx] at c0
      rw [← hy] at c1
      have hxb : 0 ≤ x ∧ x ≤ 255 := HBD.out x (by rw [hx, List.getD_eq_getElem?_getD, List.getElem?_eq_getElem (by omega)]; exact List.getElem_mem _)
      have hyb : 0 ≤ y ∧ y ≤ 255 := HBD.out y (by rw [hy, List.getD_eq_getElem?_getD, List.getElem?_eq_getElem (by omega)]; exact List.getElem_mem _)
      have HX := Lib.hid hx
      have HY := Lib.hid hy
      have HJ := Lib.hid hj
      have hj1 : (j : Int) + 1 < l.length := by omega
      have hj2 : (j : Int) < 120 := by omega
      have g1 := IntWalk.i64_in ((j : Int) + 1) (by omega)
      have g2 := IntWalk.i64_in ((j : Int) + 2) (by omega)
      obtain ⟨hx1, hx2⟩ := hxb
      obtain ⟨hy1, hy2⟩ := hyb
      clear hc hx hy hj hn
      by_cases h3 : 0 < y % 3
      · have g3 := IntWalk.i64_in (x % 60 + 1) (by omega)
        have hz : ((x % 60 + 1) == 0) = false := by simp; omega
        go_wp2_with fail
        have hd : histF l k = (x % 60, y % (x % 60 + 1)) := by unfold histF dayOf; rw [← HJ.out, ← HX.out, ← HY.out, if_pos h3]
        have HD := Lib.hid hd
        have hown2 : (((wr.alloc (.cells #[.int .i64 (x % 60), .int .i64 (y % (x % 60 + 1))] 33)).alloc (.cells #[.int .i64 (x % 60), .int .i64 (y % (x % 60 + 1))] 33)).drew).ownsRow w.heap.size 33 2 (.slice A1 k cc) k ((uptoF (histF l) k).flatMap enc2) := (HOWN.out.alloc (.cells #[.int .i64 (x % 60), .int .i64 (y % (x % 60 + 1))] 33)).alloc (.cells #[.int .i64 (x % 60), .int .i64 (y % (x % 60 + 1))] 33)
        have HOWN2 := Lib.hid hown2
        have hnews : ∀ j u, (enc2 (x % 60, y % (x % 60 + 1)))[j]? = some u → (((wr.alloc (.cells #[.int .i64 (x % 60), .int .i64 (y % (x % 60 + 1))] 33)).alloc (.cells #[.int .i64 (x % 60), .int .i64 (y % (x % 60 + 1))] 33)).drew).cell? ((⟨wr.heap.size + 1, 0, none⟩ : Addr).add j) = some u := news_of2 wr (.cells #[.int .i64 (x % 60), .int .i64 (y % (x % 60 + 1))] 33) 33 #[.int .i64 (x % 60), .int .i64 (y % (x % 60 + 1))]
        have HNEWS := Lib.hid hnews
        have hone : ∀ u ∈ enc2 (x % 60, y % (x % 60 + 1)), u.oneCell' = true := by intro u hu; simp [enc2] at hu; rcases hu with rfl | rfl <;> rfl
        have hm1 : k + 1 ≤ maxLen := by simp only [maxLen]; omega
        have hm2 : (k + 1) * 16 ≤ 140737488355328 := by omega
        have hm3 : w.heap.size ≤ (((wr.alloc (.cells #[.int .i64 (x % 60), .int .i64 (y % (x % 60 + 1))] 33)).alloc (.cells #[.int .i64 (x % 60), .int .i64 (y % (x % 60 + 1))] 33)).drew).heap.size := by show w.heap.size ≤ ((wr.alloc (.cells #[.int .i64 (x % 60), .int .i64 (y % (x % 60 + 1))] 33)).alloc (.cells #[.int .i64 (x % 60), .int .i64 (y % (x % 60 + 1))] 33)).heap.size; simp; omega
        have hbz : Below w.heap.size w (((wr.alloc (.cells #[.int .i64 (x % 60), .int .i64 (y % (x % 60 + 1))] 33)).alloc (.cells #[.int .i64 (x % 60), .int .i64 (y % (x % 60 + 1))] 33)).drew) := ((hB.alloc hB.size _).alloc (by simp; omega) _).drew
        have HBZ := Lib.hid hbz
        have HM3 := Lib.hid hm3
        have HONE := Lib.hid hone
        clear hown2 hnews hm3 hone hd hbz
        go_region
        all_goals go_wp2_with (at_builtin; refine wpList_append_own _ rfl (.tmp 42) (.tmp 44) 24 rfl w.heap.size 33 i0 (.agg #[.int .i64 0, .int .i64 0]) 2 16 Try.underlying24 HI0.out hz0 hz1 hz2 rfl (by decide) (.slice A1 k cc) k ((uptoF (histF l) k).flatMap enc2) rfl HOWN2.out ⟨wr.heap.size + 1, 0, none⟩ 1 1 (enc2 (x % 60, y % (x % 60 + 1))) rfl rfl HNEWS.out HONE.out hm1 hm2 HM3.out ?_; intro v' w1 hown1 hg1 _)
        all_goals
          have HG1 := Lib.hid hg1
          have HO1 := Lib.hid hown1
          obtain ⟨A', c', rfl⟩ := own_shape hown1
          clear hg1 hown1
          go_wp2
          go_roundw
          case rel =>
            refine ⟨k + 1, j + 2, by omega, by have := HJ.out; omega, by go_num, ⟨A', c', rfl⟩, ?_, ?_⟩
            · rw [uptoF_succ, List.flatMap_append, HD.out]; simpa using HO1.out
            · exact (HBZ.out.grown HG1.out (by have := HM3.out; omega) (fun j hj => (HOWN.out.lt j hj).1))
          case measure => simp [intOf]; omega
      · have h3' : y % 3 ≤ 0 := by omega
        have hd : histF l k = (x % 60, 0) := by unfold histF dayOf; rw [← HJ.out, ← HX.out, ← HY.out, if_neg h3]
        have HD := Lib.hid hd
        have hown2 := (HOWN.out.alloc (.cells #[.int .i64 (x % 60), .int .i64 0] 33)).alloc (.cells #[.int .i64 (x % 60), .int .i64 0] 33)
        have HOWN2 := Lib.hid hown2
        have HNEWS := Lib.hid (news_of2 wr (.cells #[.int .i64 (x % 60), .int .i64 0] 33) 33 #[.int .i64 (x % 60), .int .i64 0])
        have hone : ∀ u ∈ enc2 (x % 60, 0), u.oneCell' = true := by intro u hu; simp [enc2] at hu; rcases hu with rfl | rfl <;> rfl
        have hm1 : k + 1 ≤ maxLen := by simp only [maxLen]; omega
        have hm2 : (k + 1) * 16 ≤ 140737488355328 := by omega
        have hm3 : w.heap.size ≤ ((wr.alloc (.cells #[.int .i64 (x % 60), .int .i64 0] 33)).alloc (.cells #[.int .i64 (x % 60), .int .i64 0] 33)).heap.size := by simp; omega
        have HM3 := Lib.hid hm3
        have HONE := Lib.hid hone
        clear hown2 hm3 hone hd
        go_wp2_with (at_builtin; refine wpList_append_own _ rfl (.tmp 42) (.tmp 44) 24 rfl w.heap.size 33 i0 (.agg #[.int .i64 0, .int .i64 0]) 2 16 Try.underlying24 HI0.out hz0 hz1 hz2 rfl (by decide) (.slice A1 k cc) k ((uptoF (histF l) k).flatMap enc2) rfl HOWN2.out ⟨wr.heap.size + 1, 0, none⟩ 1 1 (enc2 (x % 60, 0)) rfl rfl HNEWS.out HONE.out hm1 hm2 HM3.out ?_; intro v' w1 hown1 hg1 _)
        have HG1 := Lib.hid hg1
        have HO1 := Lib.hid hown1
        obtain ⟨A', c', rfl⟩ := own_shape hown1
        clear hg1 hown1
        go_wp2
        go_roundw
        case rel =>
          refine ⟨k + 1, j + 2, by omega, by have := HJ.out; omega, by go_num, ⟨A', c', rfl⟩, ?_, ?_⟩
          · rw [uptoF_succ, List.flatMap_append, HD.out]; simpa using HO1.out
          · exact (((hB.alloc hB.size _).alloc (by simp; omega) _).grown HG1.out (by simp; omega) (fun j hj => (HOWN.out.lt j hj).1))
        case measure => simp [intOf]; omega
    · obtain rfl : k = histN l := by omega
      have hn : ¬ ((j : Int) + 1 < l.length ∧ (j : Int) < 120) := by unfold histN at hj; omega
      have hjb : j ≤ 120 := by unfold histN at hj; omega
      have g1 := IntWalk.i64_in ((j : Int) + 1) (by omega)
      have hlen : (histD l).length = histN l := by simp [histD, uptoF]
      by_cases ha : (j : Int) + 1 < l.length
      · have hb' : decide ((j : Int) < 120) = false := by simp; omega
        clear hj
        go_wp2
        go_ret
        refine ⟨A1, cc, by rw [hlen]; rfl, ?_, Fr.own HOWN.out (Nat.le_refl _), hB⟩
        exact Sl.of_own (enc := enc2) (c := cc) (fun _ => rfl) (by rw [hlen]; exact HOWN.out)
      · have ha' : decide ((j : Int) + 1 < (l.length : Int)) = false := by simp; omega
        clear hj
        go_wp2
        go_ret
        refine ⟨A1, ⟨cc, rfl⟩, ?_, Fr.own HOWN.out (Nat.le_refl _), hB⟩
        exact Sl.of_own (enc := enc2) (c := cc) (fun _ => rfl) (by rw [hlen]; exact HOWN.out)
end Go.Proofs.Ytgopdfbmddkpfaa
