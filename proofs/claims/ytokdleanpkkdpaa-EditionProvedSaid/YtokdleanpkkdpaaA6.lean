/- Contract of the reference's plates; conditions: right pairs and colours. -/
import Derived.Test.YtokdleanpkkdpaaA5
set_option linter.unusedSimpArgs false
set_option linter.unusedVariables false
namespace Go.Proofs.Ytokdleanpkkdpaa
open Go.RowKit Go.Fh Go.Ed

set_option maxRecDepth 20000 in
set_option maxHeartbeats 2000000 in
theorem rplates_any (t : TitD) (x : TA) (w : World) (hc : t.colours.length ≤ 1000) (hcc : ∀ c ∈ t.colours, 1 ≤ c ∧ c ≤ 4) (hpl : t.pairs.length ≤ 1000000000) (hg : GoodP t.colours.length t.pairs) (hn : ∀ q ∈ t.pairs, 0 ≤ q) (hA : Sl encInt 1 w w.heap.size x.a t.colours) (hB : Sl encInt 1 w w.heap.size x.b t.pairs) :
    Calls Try.prog 98 #[.agg (titV t x)] w fun e w' => e = .returned (.int .i64 (allB t)) ∧ Below w.heap.size w w' := by
  obtain ⟨w1, hw1⟩ : ∃ W, W = w.alloc (.cells (titV t x) 88) := ⟨_, rfl⟩
  have hb1 : Below w.heap.size w w1 := by rw [hw1]; exact (Below.refl _ _).alloc (Nat.le_refl _) _
  have kT : Blk w1 w.heap.size 88 (titV t x) := by rw [hw1]; exact Blk.new _ _ _
  obtain ⟨gT, hgT⟩ : ∃ g, g = w.heap.size := ⟨_, rfl⟩
  rw [← hgT] at kT
  have HA := Lib.hid hA
  have HB1 := Lib.hid hb1
  have HW1 := Lib.hid hw1
  have HGT := Lib.hid hgT
  have KT := Lib.hid kT
  have HN := Lib.hid hn
  have HAL := Lib.hid (allB_owners hg)
  have hgl : gT < w1.heap.size := kT.lt
  have HO := Lib.hid (fun p W (hp : p ≤ 1000) (h : Below w.heap.size w W) => owner_any t x p W hp hpl hn ((hB.below h).mono h.size))
  have HCC := Lib.hid hcc
  obtain ⟨f, hf⟩ : ∃ f : Nat → Int, f = fun i => if ownerN t.pairs i = i then t.colours.getD i 0 else 0 := ⟨_, rfl⟩
  rw [← hf] at HAL
  have HF := Lib.hid hf
  have hbd : ∀ k, k ≤ t.colours.length → 0 ≤ sumN f k ∧ sumN f k ≤ 4 * k := by
    intro k hk
    refine sumN_bd fun i hi => ?_
    rw [hf]
    have e : t.colours.getD i 0 = t.colours[i]'(by omega) := by simp [show i < t.colours.length by omega]
    have := hcc _ (List.getElem_mem (show i < t.colours.length by omega))
    dsimp only
    rw [e]
    split <;> omega
  have HBD := Lib.hid hbd
  clear hA hB hb1 hw1 hgT kT hn hcc hf hbd hg
  unfold titV at *
  go_enter Try.func98, Try.ntmps98
  go_upto_region 1 with fail
  rw [← HW1.out, ← HGT.out]
  go_wp2_with fail
  go_loopw [3, 4] (fun n i wr => ∃ k : Nat, k ≤ t.colours.length ∧ i = .int .i64 k ∧ n = .int .i64 (sumN f k) ∧ Below w1.heap.size w1 wr) (fun _ i _ => t.colours.length - (intOf i).toNat)
  case atStart => exact ⟨0, Nat.zero_le _, rfl, rfl, Below.refl _ _⟩
  case round =>
    obtain ⟨k, hk, rfl, rfl, hB⟩ := hrel
    have hBw := HB1.out.trans (hB.mono HB1.out.size)
    have HBW := Lib.hid hBw
    have HBR := Lib.hid hB
    have kr := KT.out.below hB hgl
    have r0 := kr.cell 0
    have r1 := kr.cell 1
    have r2 := kr.cell 2
    have r3 := kr.cell 3
    have r4 := kr.cell 4
    have r5 := kr.cell 5
    have r6 := kr.cell 6
    have r7 := kr.cell 7
    simp at r0 r1 r2 r3 r4 r5 r6 r7
    clear kr hBw hB
    by_cases hlt : k < t.colours.length
    · have hown := HO.out k wr (by omega) HBW.out
      have HOW := Lib.hid hown
      have hs : sumN f (k + 1) = sumN f k + f k := rfl
      have hb0 := HBD.out k hk
      have hb9 := HBD.out (k + 1) hlt
      have e : t.colours.getD k 0 = t.colours[k] := by simp [hlt]
      have hck := HCC.out _ (List.getElem_mem hlt)
      by_cases ho : ownerN t.pairs k = k
      · have hfk : f k = t.colours[k] := by rw [HF.out]; dsimp only; rw [if_pos ho, e]
        have HS := Lib.hid (hs.trans (by rw [hfk]))
        have f1 := IntWalk.i64_in (sumN f k + t.colours[k]) (by omega)
        have t1 : (((ownerN t.pairs k : Nat) : Int) == (k : Int)) = true := by simp [ho]
        clear hown hs hb9 e ho hfk
        go_wp2_with fail
        refine HOW.out.mono ?_
        rintro e' w2 ⟨rfl, hb2⟩
        have H2 := Lib.hid (HBR.out.trans (hb2.mono HBR.out.size))
        have hz : w1.heap.size ≤ wr.heap.size := HBR.out.size
        have s0 := (hb2.cell (p := ⟨gT, 0, none⟩) (by show gT < _; omega)).trans r0
        obtain ⟨ab, ao, hxa, hab, g1⟩ := (HA.out.below (HB1.out.trans (H2.out.mono HB1.out.size))).at1 hlt
        rw [hxa] at s0
        clear hb2 r0 r1 r2 r3 r4 r5 r6 r7 hxa
        go_wp2_with fail
        go_roundw
        case rel => exact ⟨k + 1, by omega, by go_num, int_eq (by rw [HS.out]), H2.out⟩
        case measure => simp [intOf]; omega
      · have hfk : f k = 0 := by rw [HF.out]; dsimp only; rw [if_neg ho]
        have HS := Lib.hid (hs.trans (by rw [hfk]))
        have t1 : (((ownerN t.pairs k : Nat) : Int) == (k : Int)) = false := by rw [beq_eq_false_iff_ne]; omega
        clear hown hs hb9 e ho hfk
        go_wp2_with fail
        refine HOW.out.mono ?_
        rintro e' w2 ⟨rfl, hb2⟩
        have H2 := Lib.hid (HBR.out.trans (hb2.mono HBR.out.size))
        clear hb2 r0 r1 r2 r3 r4 r5 r6 r7
        go_wp2_with fail
        go_roundw
        case rel => exact ⟨k + 1, by omega, by go_num, int_eq (by rw [HS.out]; omega), H2.out⟩
        case measure => simp [intOf]; omega
    · obtain rfl : k = t.colours.length := by omega
      go_wp2_with fail
      go_ret
      exact ⟨ret_int (by rw [HAL.out]), HBW.out⟩
end Go.Proofs.Ytokdleanpkkdpaa
