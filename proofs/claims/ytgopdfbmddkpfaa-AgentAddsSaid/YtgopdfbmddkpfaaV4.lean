/- Contract of subscribers, which makes subscribers of numbers; conditions: none. -/
import Derived.Test.YtgopdfbmddkpfaaV1
import Derived.Test.YtgopdfbmddkpfaaT1
import Derived.Test.YtgopdfbmddkpfaaSpec9
import Derived.Deep.RegionHeld3
import Derived.Deep.DeepCutAuto
import Derived.Deep.DeepMust
set_option linter.unusedSimpArgs false
set_option linter.unusedVariables false
namespace Go.Proofs.Ytgopdfbmddkpfaa
open Go.RowKit Go.Fh Go.Ag
theorem info63 : (Try.prog.info? 63).map (fun i => (i.zero, i.size, i.bytes)) = some (some (.agg #[.int .i64 0, .int .i64 0, .int .i64 0, .int .i64 0, .slice none 0 0]), 5, 56) := by kernel_rfl
def HolAt (W : World) (y : SubM) : Prop := y.1.hol = [] ∨ ∃ hb d, y.2.1 = some ⟨hb, 0, none⟩ ∧ y.1.hol = [d] ∧ Blk W hb 88 #[.int .i64 d.1, .int .i64 d.2]
theorem HolAt.sl {W : World} {y : SubM} (h : HolAt W y) : Sl enc2 2 W W.heap.size y.2.1 y.1.hol := by
  rcases h with h | ⟨hb, d, e1, e2, e3⟩
  · rw [h]; exact Sl.nil
  · rw [e1, e2]; exact Sl.of_blk (fun _ => rfl) (by simp [maxLen]) e3 rfl

set_option maxRecDepth 20000 in
set_option maxHeartbeats 8000000 in
theorem subscribers_any (A : Option Addr) (c : Nat) (l : List Int) (w : World) (hl : l.length ≤ 9223372036854775807) (hb : ∀ n ∈ l, 0 ≤ n ∧ n ≤ 255) (hA : Sl encB 1 w w.heap.size A l) :
    Calls Try.prog 25 #[.slice A l.length c] w fun e w' => ∃ (lm : List SubM) (A' : Option Addr) (c' : Nat), e = .returned (.slice A' lm.length c') ∧ lm.map Prod.fst = subD l ∧ Sl encSub 5 w' w'.heap.size A' lm ∧ (∀ y ∈ lm, Sl enc2 2 w' w'.heap.size y.2.1 y.1.hol) ∧ Below w.heap.size w w' := by
  obtain ⟨i0, hi0, hz0, hz1, hz2⟩ := info_parts info63
  have HA := Lib.hid hA
  have HBD := Lib.hid hb
  have HI0 := Lib.hid hi0
  clear hA hb hi0
  go_enter Try.func25, Try.ntmps25
  go_wp2
  go_loopw [3, 4] (fun v i wr => ∃ (k j : Nat) (lm : List SubM), k ≤ subN l ∧ j = 4 * k ∧ i = .int .i64 j ∧ (∃ A' c', v = .slice A' k c') ∧ lm.map Prod.fst = uptoF (subF l) k ∧ wr.ownsRow w.heap.size 63 5 v k (lm.flatMap encSub) ∧ (∀ y ∈ lm, HolAt wr y) ∧ Below w.heap.size w wr) (fun _ i _ => 121 - (intOf i).toNat)
  case atStart => exact ⟨0, 0, [], Nat.zero_le _, rfl, rfl, ⟨none, 0, rfl⟩, rfl, World.ownsRow_nil _ _ _ _, by simp, Below.refl _ _⟩
  case round =>
    obtain ⟨k, j, lm, hk, hj, rfl, ⟨A1, cc, rfl⟩, hlm, hown, hhol, hB⟩ := hrel
    have HOWN := Lib.hid hown
    have HLM := Lib.hid hlm
    have HHOL := Lib.hid hhol
    clear hown hlm hhol
    by_cases hlt : k < subN l
    · have hn : 4 * k + 3 < l.length ∧ 4 * k < 40 ∧ k < 10 := by unfold subN at hlt; omega
      have hk60 : k < 10 := hn.2.2
      obtain ⟨b, off, rfl, hb, hc⟩ := (HA.out.below hB).atB (k := j) (by omega)
      have hsz := hB.size
      have hbw : b < wr.heap.size := by omega
      obtain ⟨x0, hx0⟩ : ∃ x, x = l.getD j 0 := ⟨_, rfl⟩
      obtain ⟨x1, hx1⟩ : ∃ x, x = l.getD (j + 1) 0 := ⟨_, rfl⟩
      obtain ⟨x2, hx2⟩ : ∃ x, x = l.getD (j + 2) 0 := ⟨_, rfl⟩
      obtain ⟨x3, hx3⟩ : ∃ x, x = l.getD (j + 3) 0 := ⟨_, rfl⟩
      have c0 := hc j (by omega)
      have c1 := hc (j + 1) (by omega)
      have c2 := hc (j + 2) (by omega)
      have c3 := hc (j + 3) (by omega)
      rw [← hx0] at c0
      rw [← hx1] at c1
      rw [← hx2] at c2
      rw [← hx3] at c3
      have hmem : ∀ i, i < l.length → 0 ≤ l.getD i 0 ∧ l.getD i 0 ≤ 255 := fun i hi => HBD.out _ (by rw [List.getD_eq_getElem?_getD, List.getElem?_eq_getElem hi]; exact List.getElem_mem _)
      have b0 := hmem j (by omega)
      have b1 := hmem (j + 1) (by omega)
      have b2 := hmem (j + 2) (by omega)
      have b3 := hmem (j + 3) (by omega)
      rw [← hx0] at b0
      rw [← hx1] at b1
      rw [← hx2] at b2
      rw [← hx3] at b3
      have hd : subF l k = ⟨(j : Int), x0 % 40, x0 % 40 + x1 % 60, 1 + x2 % 127, holF x3 x2⟩ := by unfold subF; rw [← hj, ← hx0, ← hx1, ← hx2, ← hx3]; congr 1; omega
      have HDD := Lib.hid hd
      have HJ := Lib.hid hj
      have hj1 : (j : Int) + 3 < l.length := by omega
      have hj2 : (j : Int) < 40 := by omega
      have hj3 : (j : Int) + 1 < l.length := by omega
      have hj4 : (j : Int) + 2 < l.length := by omega
      have hj5 : (j : Int) < l.length := by omega
      have g1 := IntWalk.i64_in ((j : Int) + 1) (by omega)
      have g2 := IntWalk.i64_in ((j : Int) + 2) (by omega)
      have g3 := IntWalk.i64_in ((j : Int) + 3) (by omega)
      have g4 := IntWalk.i64_in ((j : Int) + 4) (by omega)
      obtain ⟨b0, b0'⟩ := b0
      obtain ⟨b1, b1'⟩ := b1
      obtain ⟨b2, b2'⟩ := b2
      obtain ⟨b3, b3'⟩ := b3
      have g5 := IntWalk.i64_in (1 + x2 % 127) (by omega)
      have g6 := IntWalk.i64_in (x0 % 40 + x1 % 60) (by omega)
      have g7 := IntWalk.i64_in (x3 % 50 + x2 % 9) (by omega)
      have HBWR := Lib.hid hB
      clear hc hx0 hx1 hx2 hx3 hj hn hd hmem
      go_upto_region 5 with fail
      go_cut [5] (fun p wx => p = .pointer (some ⟨wr.heap.size, 0, none⟩) ∧ wx = (wr.alloc (.cells #[.int .i64 (j : Int), .int .i64 (x0 % 40), .int .i64 0, .int .i64 (1 + x2 % 127), .slice none 0 0] 63)).drew)
      case first =>
        clear HOWN HI0 HA HBD HDD HJ HLM HHOL
        go_region
        all_goals go_wp2_with fail
        all_goals go_meet
        all_goals exact ⟨rfl, rfl⟩
      case rest =>
        obtain ⟨rfl, rfl⟩ := hcut
        go_upto_region 6 with fail
        go_cut [43] (fun p wx => wx = (wr.alloc (.cells #[.int .i64 (j : Int), .int .i64 (x0 % 40), .int .i64 (x0 % 40 + x1 % 60), .int .i64 (1 + x2 % 127), .slice none 0 0] 63)).drew.drew)
        case first =>
          clear HOWN HI0 HA HBD HDD HJ HLM HHOL
          go_region
          all_goals go_wp2_with fail
          all_goals go_meet
          all_goals rfl
        case rest =>
        obtain rfl := hcut
        by_cases h60 : 60 < x3
        · have hd : subF l k = ⟨(j : Int), x0 % 40, x0 % 40 + x1 % 60, 1 + x2 % 127, [(x3 % 50, x3 % 50 + x2 % 9)]⟩ := by rw [HDD.out]; simp [holF, h60]
          have HD := Lib.hid hd
          have t1 : decide (60 < x3) = true := decide_eq_true h60
          clear hd h60
          go_upto_region 8 with fail
          go_cut [74] (fun p wx => wx = ((wr.alloc (.cells #[.int .i64 (j : Int), .int .i64 (x0 % 40), .int .i64 (x0 % 40 + x1 % 60), .int .i64 (1 + x2 % 127), .slice (some ⟨wr.heap.size + 1, 0, none⟩) 1 1] 63)).alloc (.cells #[.int .i64 (x3 % 50), .int .i64 (x3 % 50 + x2 % 9)] 88)).drew.drew.drew)
          case first =>
            clear HOWN HI0 HA HBD HDD HJ HLM HHOL HD
            go_region
            all_goals go_wp2_with fail
            all_goals go_meet
            all_goals rfl
          case rest =>
            obtain rfl := hcut
            have hown2 : ((((wr.alloc (.cells #[.int .i64 (j : Int), .int .i64 (x0 % 40), .int .i64 (x0 % 40 + x1 % 60), .int .i64 (1 + x2 % 127), .slice (some ⟨wr.heap.size + 1, 0, none⟩) 1 1] 63)).alloc (.cells #[.int .i64 (x3 % 50), .int .i64 (x3 % 50 + x2 % 9)] 88)).alloc (.cells #[.int .i64 (j : Int), .int .i64 (x0 % 40), .int .i64 (x0 % 40 + x1 % 60), .int .i64 (1 + x2 % 127), .slice (some ⟨wr.heap.size + 1, 0, none⟩) 1 1] 63)).drew.drew.drew).ownsRow w.heap.size 63 5 (.slice A1 k cc) k (lm.flatMap encSub) := ((HOWN.out.alloc (.cells #[.int .i64 (j : Int), .int .i64 (x0 % 40), .int .i64 (x0 % 40 + x1 % 60), .int .i64 (1 + x2 % 127), .slice (some ⟨wr.heap.size + 1, 0, none⟩) 1 1] 63)).alloc (.cells #[.int .i64 (x3 % 50), .int .i64 (x3 % 50 + x2 % 9)] 88)).alloc (.cells #[.int .i64 (j : Int), .int .i64 (x0 % 40), .int .i64 (x0 % 40 + x1 % 60), .int .i64 (1 + x2 % 127), .slice (some ⟨wr.heap.size + 1, 0, none⟩) 1 1] 63)
            have HOWN2 := Lib.hid hown2
            have hnews : ∀ j' u, (encSub (⟨(j : Int), x0 % 40, x0 % 40 + x1 % 60, 1 + x2 % 127, [(x3 % 50, x3 % 50 + x2 % 9)]⟩, some ⟨wr.heap.size + 1, 0, none⟩, 1))[j']? = some u → ((((wr.alloc (.cells #[.int .i64 (j : Int), .int .i64 (x0 % 40), .int .i64 (x0 % 40 + x1 % 60), .int .i64 (1 + x2 % 127), .slice (some ⟨wr.heap.size + 1, 0, none⟩) 1 1] 63)).alloc (.cells #[.int .i64 (x3 % 50), .int .i64 (x3 % 50 + x2 % 9)] 88)).alloc (.cells #[.int .i64 (j : Int), .int .i64 (x0 % 40), .int .i64 (x0 % 40 + x1 % 60), .int .i64 (1 + x2 % 127), .slice (some ⟨wr.heap.size + 1, 0, none⟩) 1 1] 63)).drew.drew.drew).cell? ((⟨wr.heap.size + 2, 0, none⟩ : Addr).add j') = some u := by
              have h0 := news_of1 ((wr.alloc (.cells #[.int .i64 (j : Int), .int .i64 (x0 % 40), .int .i64 (x0 % 40 + x1 % 60), .int .i64 (1 + x2 % 127), .slice (some ⟨wr.heap.size + 1, 0, none⟩) 1 1] 63)).alloc (.cells #[.int .i64 (x3 % 50), .int .i64 (x3 % 50 + x2 % 9)] 88)) 63 #[.int .i64 (j : Int), .int .i64 (x0 % 40), .int .i64 (x0 % 40 + x1 % 60), .int .i64 (1 + x2 % 127), .slice (some ⟨wr.heap.size + 1, 0, none⟩) 1 1]
              simp only [World.size_alloc] at h0
              exact h0
            have HNEWS := Lib.hid hnews
            have hone : ∀ u ∈ encSub (⟨(j : Int), x0 % 40, x0 % 40 + x1 % 60, 1 + x2 % 127, [(x3 % 50, x3 % 50 + x2 % 9)]⟩, some ⟨wr.heap.size + 1, 0, none⟩, 1), u.oneCell' = true := by intro u hu; simp [encSub] at hu; rcases hu with rfl | rfl | rfl | rfl | rfl <;> rfl
            have hm1 : k + 1 ≤ maxLen := by simp only [maxLen]; omega
            have hm2 : (k + 1) * 56 ≤ 140737488355328 := by omega
            have hm3 : w.heap.size ≤ ((((wr.alloc (.cells #[.int .i64 (j : Int), .int .i64 (x0 % 40), .int .i64 (x0 % 40 + x1 % 60), .int .i64 (1 + x2 % 127), .slice (some ⟨wr.heap.size + 1, 0, none⟩) 1 1] 63)).alloc (.cells #[.int .i64 (x3 % 50), .int .i64 (x3 % 50 + x2 % 9)] 88)).alloc (.cells #[.int .i64 (j : Int), .int .i64 (x0 % 40), .int .i64 (x0 % 40 + x1 % 60), .int .i64 (1 + x2 % 127), .slice (some ⟨wr.heap.size + 1, 0, none⟩) 1 1] 63)).drew.drew.drew).heap.size := by show w.heap.size ≤ ((((wr.alloc (.cells #[.int .i64 (j : Int), .int .i64 (x0 % 40), .int .i64 (x0 % 40 + x1 % 60), .int .i64 (1 + x2 % 127), .slice (some ⟨wr.heap.size + 1, 0, none⟩) 1 1] 63)).alloc (.cells #[.int .i64 (x3 % 50), .int .i64 (x3 % 50 + x2 % 9)] 88)).alloc (.cells #[.int .i64 (j : Int), .int .i64 (x0 % 40), .int .i64 (x0 % 40 + x1 % 60), .int .i64 (1 + x2 % 127), .slice (some ⟨wr.heap.size + 1, 0, none⟩) 1 1] 63))).heap.size; simp; omega
            have hbz : Below w.heap.size w ((((wr.alloc (.cells #[.int .i64 (j : Int), .int .i64 (x0 % 40), .int .i64 (x0 % 40 + x1 % 60), .int .i64 (1 + x2 % 127), .slice (some ⟨wr.heap.size + 1, 0, none⟩) 1 1] 63)).alloc (.cells #[.int .i64 (x3 % 50), .int .i64 (x3 % 50 + x2 % 9)] 88)).alloc (.cells #[.int .i64 (j : Int), .int .i64 (x0 % 40), .int .i64 (x0 % 40 + x1 % 60), .int .i64 (1 + x2 % 127), .slice (some ⟨wr.heap.size + 1, 0, none⟩) 1 1] 63)).drew.drew.drew) := ((((HBWR.out.alloc HBWR.out.size _).alloc (by simp; omega) _).alloc (by simp; omega) _).drew.drew).drew
            have HBZ := Lib.hid hbz
            have HM3 := Lib.hid hm3
            have HONE := Lib.hid hone
            clear hown2 hnews hm3 hone hbz
            go_wp2_with (at_builtin; refine wpList_append_own _ rfl (.tmp 75) (.tmp 77) 58 rfl w.heap.size 63 i0 (.agg #[.int .i64 0, .int .i64 0, .int .i64 0, .int .i64 0, .slice none 0 0]) 5 56 Try.underlying58 HI0.out hz0 hz1 hz2 rfl (by decide) (.slice A1 k cc) k (lm.flatMap encSub) rfl HOWN2.out ⟨wr.heap.size + 2, 0, none⟩ 1 1 (encSub (⟨(j : Int), x0 % 40, x0 % 40 + x1 % 60, 1 + x2 % 127, [(x3 % 50, x3 % 50 + x2 % 9)]⟩, some ⟨wr.heap.size + 1, 0, none⟩, 1)) rfl rfl HNEWS.out HONE.out hm1 hm2 HM3.out ?_; intro v' w1 hown1 hg1 _)
            have HG1 := Lib.hid hg1
            have HO1 := Lib.hid hown1
            obtain ⟨A', c', rfl⟩ := own_shape hown1
            clear hg1 hown1
            go_wp2
            go_roundw
            case rel =>
              refine ⟨k + 1, j + 4, lm ++ [(⟨(j : Int), x0 % 40, x0 % 40 + x1 % 60, 1 + x2 % 127, [(x3 % 50, x3 % 50 + x2 % 9)]⟩, some ⟨wr.heap.size + 1, 0, none⟩, 1)], by omega, by have := HJ.out; omega, by go_num, ⟨A', c', rfl⟩, ?_, ?_, ?_, ?_⟩
              · rw [List.map_append, HLM.out, uptoF_succ, HD.out]; rfl
              · rw [List.flatMap_append]; simpa using HO1.out
              · intro y hy
                rcases List.mem_append.1 hy with hy | hy
                · rcases HHOL.out y hy with h | ⟨hb, d, e1, e2, e3⟩
                  · exact .inl h
                  · refine .inr ⟨hb, d, e1, e2, ?_⟩
                    have e4 : Blk ((((wr.alloc (.cells #[.int .i64 (j : Int), .int .i64 (x0 % 40), .int .i64 (x0 % 40 + x1 % 60), .int .i64 (1 + x2 % 127), .slice (some ⟨wr.heap.size + 1, 0, none⟩) 1 1] 63)).alloc (.cells #[.int .i64 (x3 % 50), .int .i64 (x3 % 50 + x2 % 9)] 88)).alloc (.cells #[.int .i64 (j : Int), .int .i64 (x0 % 40), .int .i64 (x0 % 40 + x1 % 60), .int .i64 (1 + x2 % 127), .slice (some ⟨wr.heap.size + 1, 0, none⟩) 1 1] 63)).drew.drew.drew) hb 88 #[.int .i64 d.1, .int .i64 d.2] := ((e3.alloc _).alloc _).alloc _
                    exact e4.grown HG1.out (own_blk_ne HOWN2.out e4 (by decide))
                · simp only [List.mem_singleton] at hy
                  subst hy
                  refine .inr ⟨wr.heap.size + 1, (x3 % 50, x3 % 50 + x2 % 9), rfl, rfl, ?_⟩
                  have e4 : Blk (((wr.alloc (.cells #[.int .i64 (j : Int), .int .i64 (x0 % 40), .int .i64 (x0 % 40 + x1 % 60), .int .i64 (1 + x2 % 127), .slice (some ⟨wr.heap.size + 1, 0, none⟩) 1 1] 63)).alloc (.cells #[.int .i64 (x3 % 50), .int .i64 (x3 % 50 + x2 % 9)] 88)).alloc (.cells #[.int .i64 (j : Int), .int .i64 (x0 % 40), .int .i64 (x0 % 40 + x1 % 60), .int .i64 (1 + x2 % 127), .slice (some ⟨wr.heap.size + 1, 0, none⟩) 1 1] 63)).drew.drew.drew (wr.heap.size + 1) 88 #[.int .i64 (x3 % 50), .int .i64 (x3 % 50 + x2 % 9)] := by
                    have h0 := Blk.new (wr.alloc (.cells #[.int .i64 (j : Int), .int .i64 (x0 % 40), .int .i64 (x0 % 40 + x1 % 60), .int .i64 (1 + x2 % 127), .slice (some ⟨wr.heap.size + 1, 0, none⟩) 1 1] 63)) 88 #[.int .i64 (x3 % 50), .int .i64 (x3 % 50 + x2 % 9)]
                    rw [World.size_alloc] at h0
                    exact h0.alloc _
                  exact e4.grown HG1.out (own_blk_ne HOWN2.out e4 (by decide))
              · exact (HBZ.out.grown HG1.out (by have := HM3.out; omega) (fun j hj => (HOWN.out.lt j hj).1))
            case measure => simp [intOf]; omega

        · have hd : subF l k = ⟨(j : Int), x0 % 40, x0 % 40 + x1 % 60, 1 + x2 % 127, []⟩ := by rw [HDD.out]; simp [holF, h60]
          have HD := Lib.hid hd
          have t1 : decide (60 < x3) = false := decide_eq_false h60
          clear hd h60
          have hown2 : (((wr.alloc (.cells #[.int .i64 (j : Int), .int .i64 (x0 % 40), .int .i64 (x0 % 40 + x1 % 60), .int .i64 (1 + x2 % 127), .slice none 0 0] 63)).alloc (.cells #[.int .i64 (j : Int), .int .i64 (x0 % 40), .int .i64 (x0 % 40 + x1 % 60), .int .i64 (1 + x2 % 127), .slice none 0 0] 63)).drew.drew).ownsRow w.heap.size 63 5 (.slice A1 k cc) k (lm.flatMap encSub) := (HOWN.out.alloc (.cells #[.int .i64 (j : Int), .int .i64 (x0 % 40), .int .i64 (x0 % 40 + x1 % 60), .int .i64 (1 + x2 % 127), .slice none 0 0] 63)).alloc (.cells #[.int .i64 (j : Int), .int .i64 (x0 % 40), .int .i64 (x0 % 40 + x1 % 60), .int .i64 (1 + x2 % 127), .slice none 0 0] 63)
          have HOWN2 := Lib.hid hown2
          have hnews : ∀ j' u, (encSub (⟨(j : Int), x0 % 40, x0 % 40 + x1 % 60, 1 + x2 % 127, []⟩, none, 0))[j']? = some u → (((wr.alloc (.cells #[.int .i64 (j : Int), .int .i64 (x0 % 40), .int .i64 (x0 % 40 + x1 % 60), .int .i64 (1 + x2 % 127), .slice none 0 0] 63)).alloc (.cells #[.int .i64 (j : Int), .int .i64 (x0 % 40), .int .i64 (x0 % 40 + x1 % 60), .int .i64 (1 + x2 % 127), .slice none 0 0] 63)).drew.drew).cell? ((⟨wr.heap.size + 1, 0, none⟩ : Addr).add j') = some u := by
            have h0 := news_of1 (wr.alloc (.cells #[.int .i64 (j : Int), .int .i64 (x0 % 40), .int .i64 (x0 % 40 + x1 % 60), .int .i64 (1 + x2 % 127), .slice none 0 0] 63)) 63 #[.int .i64 (j : Int), .int .i64 (x0 % 40), .int .i64 (x0 % 40 + x1 % 60), .int .i64 (1 + x2 % 127), .slice none 0 0]
            simp only [World.size_alloc] at h0
            exact h0
          have HNEWS := Lib.hid hnews
          have hone : ∀ u ∈ encSub (⟨(j : Int), x0 % 40, x0 % 40 + x1 % 60, 1 + x2 % 127, []⟩, none, 0), u.oneCell' = true := by intro u hu; simp [encSub] at hu; rcases hu with rfl | rfl | rfl | rfl | rfl <;> rfl
          have hm1 : k + 1 ≤ maxLen := by simp only [maxLen]; omega
          have hm2 : (k + 1) * 56 ≤ 140737488355328 := by omega
          have hm3 : w.heap.size ≤ (((wr.alloc (.cells #[.int .i64 (j : Int), .int .i64 (x0 % 40), .int .i64 (x0 % 40 + x1 % 60), .int .i64 (1 + x2 % 127), .slice none 0 0] 63)).alloc (.cells #[.int .i64 (j : Int), .int .i64 (x0 % 40), .int .i64 (x0 % 40 + x1 % 60), .int .i64 (1 + x2 % 127), .slice none 0 0] 63)).drew.drew).heap.size := by show w.heap.size ≤ (((wr.alloc (.cells #[.int .i64 (j : Int), .int .i64 (x0 % 40), .int .i64 (x0 % 40 + x1 % 60), .int .i64 (1 + x2 % 127), .slice none 0 0] 63)).alloc (.cells #[.int .i64 (j : Int), .int .i64 (x0 % 40), .int .i64 (x0 % 40 + x1 % 60), .int .i64 (1 + x2 % 127), .slice none 0 0] 63))).heap.size; simp; omega
          have hbz : Below w.heap.size w (((wr.alloc (.cells #[.int .i64 (j : Int), .int .i64 (x0 % 40), .int .i64 (x0 % 40 + x1 % 60), .int .i64 (1 + x2 % 127), .slice none 0 0] 63)).alloc (.cells #[.int .i64 (j : Int), .int .i64 (x0 % 40), .int .i64 (x0 % 40 + x1 % 60), .int .i64 (1 + x2 % 127), .slice none 0 0] 63)).drew.drew) := (((HBWR.out.alloc HBWR.out.size _).alloc (by simp; omega) _).drew).drew
          have HBZ := Lib.hid hbz
          have HM3 := Lib.hid hm3
          have HONE := Lib.hid hone
          clear hown2 hnews hm3 hone hbz
          go_wp2_with (at_builtin; refine wpList_append_own _ rfl (.tmp 75) (.tmp 77) 58 rfl w.heap.size 63 i0 (.agg #[.int .i64 0, .int .i64 0, .int .i64 0, .int .i64 0, .slice none 0 0]) 5 56 Try.underlying58 HI0.out hz0 hz1 hz2 rfl (by decide) (.slice A1 k cc) k (lm.flatMap encSub) rfl HOWN2.out ⟨wr.heap.size + 1, 0, none⟩ 1 1 (encSub (⟨(j : Int), x0 % 40, x0 % 40 + x1 % 60, 1 + x2 % 127, []⟩, none, 0)) rfl rfl HNEWS.out HONE.out hm1 hm2 HM3.out ?_; intro v' w1 hown1 hg1 _)
          have HG1 := Lib.hid hg1
          have HO1 := Lib.hid hown1
          obtain ⟨A', c', rfl⟩ := own_shape hown1
          clear hg1 hown1
          go_wp2
          go_roundw
          case rel =>
            refine ⟨k + 1, j + 4, lm ++ [(⟨(j : Int), x0 % 40, x0 % 40 + x1 % 60, 1 + x2 % 127, []⟩, none, 0)], by omega, by have := HJ.out; omega, by go_num, ⟨A', c', rfl⟩, ?_, ?_, ?_, ?_⟩
            · rw [List.map_append, HLM.out, uptoF_succ, HD.out]; rfl
            · rw [List.flatMap_append]; simpa using HO1.out
            · intro y hy
              rcases List.mem_append.1 hy with hy | hy
              · rcases HHOL.out y hy with h | ⟨hb, d, e1, e2, e3⟩
                · exact .inl h
                · refine .inr ⟨hb, d, e1, e2, ?_⟩
                  have e4 : Blk (((wr.alloc (.cells #[.int .i64 (j : Int), .int .i64 (x0 % 40), .int .i64 (x0 % 40 + x1 % 60), .int .i64 (1 + x2 % 127), .slice none 0 0] 63)).alloc (.cells #[.int .i64 (j : Int), .int .i64 (x0 % 40), .int .i64 (x0 % 40 + x1 % 60), .int .i64 (1 + x2 % 127), .slice none 0 0] 63)).drew.drew) hb 88 #[.int .i64 d.1, .int .i64 d.2] := (e3.alloc _).alloc _
                  exact e4.grown HG1.out (own_blk_ne HOWN2.out e4 (by decide))
              · simp only [List.mem_singleton] at hy
                subst hy
                exact .inl rfl
            · exact (HBZ.out.grown HG1.out (by have := HM3.out; omega) (fun j hj => (HOWN.out.lt j hj).1))
          case measure => simp [intOf]; omega

    · obtain rfl : k = subN l := by omega
      have hn : ¬ ((j : Int) + 3 < l.length ∧ (j : Int) < 40) := by unfold subN at hj; omega
      have hjb : j ≤ 40 := by unfold subN at hj; omega
      have g1 := IntWalk.i64_in ((j : Int) + 3) (by omega)
      have hml : lm.map Prod.fst = subD l := HLM.out
      have hlen : lm.length = subN l := by rw [← (subD_len l).1, ← hml]; simp
      have hsl : Sl encSub 5 wr wr.heap.size A1 lm := Sl.of_own (enc := encSub) (c := cc) (fun _ => rfl) (by rw [hlen]; exact HOWN.out)
      have hho : ∀ y ∈ lm, Sl enc2 2 wr wr.heap.size y.2.1 y.1.hol := fun y hy => (HHOL.out y hy).sl
      have HFIN := Lib.hid (And.intro hml (And.intro hsl (And.intro hho hB)))
      rw [← hlen]
      clear hj hml hsl hho
      by_cases ha : (j : Int) + 3 < l.length
      · have hb' : decide ((j : Int) < 40) = false := by simp; omega
        go_wp2
        go_ret
        exact ⟨lm, A1, cc, by first | rfl | (rw [hlen]; rfl), HFIN.out.1, HFIN.out.2.1, HFIN.out.2.2.1, HFIN.out.2.2.2⟩
      · have ha' : decide ((j : Int) + 3 < (l.length : Int)) = false := by simp; omega
        go_wp2
        go_ret
        exact ⟨lm, A1, ⟨cc, by first | rfl | (rw [hlen]; rfl)⟩, HFIN.out.1, HFIN.out.2.1, (fun a a1 b hab => HFIN.out.2.2.1 (a, a1, b) hab), HFIN.out.2.2.2⟩
end Go.Proofs.Ytgopdfbmddkpfaa
