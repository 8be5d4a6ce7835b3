/- Contract of the reference's change; conditions: right pairs and colours, variants of all pages. -/
import Derived.Test.YtokdleanpkkdpaaA6
set_option linter.unusedSimpArgs false
set_option linter.unusedVariables false
namespace Go.Ed
/-- where an edition's lists lie -/
structure EA where
  z : Option Go.Addr
  cz : Nat
  v : Option Go.Addr
  cv : Nat
def edV (e : EdD) (y : EA) : Array Go.Value := #[.slice y.z e.zones.length y.cz, .int .i64 e.copies, .int .i64 e.ready, .int .i64 e.due, .slice y.v e.variants.length y.cv]
end Go.Ed
namespace Go.Proofs.Ytokdleanpkkdpaa
open Go.RowKit Go.Fh Go.Ed

set_option maxRecDepth 20000 in
set_option maxHeartbeats 4000000 in
theorem rchange_any (t : TitD) (x : TA) (e1 e2 : EdD) (y1 y2 : EA) (w : World) (hc : t.colours.length ≤ 1000) (hcc : ∀ c ∈ t.colours, 1 ≤ c ∧ c ≤ 4) (hpl : t.pairs.length ≤ 1000000000) (hg : GoodP t.colours.length t.pairs) (hn : ∀ q ∈ t.pairs, 0 ≤ q)
    (hv1 : e1.variants.length = t.colours.length) (hv2 : e2.variants.length = t.colours.length) (hA : Sl encInt 1 w w.heap.size x.a t.colours) (hB : Sl encInt 1 w w.heap.size x.b t.pairs) (hV1 : Sl encInt 1 w w.heap.size y1.v e1.variants) (hV2 : Sl encInt 1 w w.heap.size y2.v e2.variants) :
    Calls Try.prog 97 #[.agg (titV t x), .agg (edV e1 y1), .agg (edV e2 y2)] w fun e w' => e = .returned (.int .i64 (changeB t e1 e2)) ∧ Below w.heap.size w w' := by
  obtain ⟨w1, hw1⟩ : ∃ W, W = ((w.alloc (.cells (titV t x) 88)).alloc (.cells (edV e1 y1) 98)).alloc (.cells (edV e2 y2) 98) := ⟨_, rfl⟩
  have hb1 : Below w.heap.size w w1 := by rw [hw1]; exact (((Below.refl _ _).alloc (Nat.le_refl _) _).alloc (by simp) _).alloc (by simp; omega) _
  obtain ⟨gT, hgT⟩ : ∃ g, g = w.heap.size := ⟨_, rfl⟩
  obtain ⟨gA, hgA⟩ : ∃ g, g = w.heap.size + 1 := ⟨_, rfl⟩
  obtain ⟨gB, hgB⟩ : ∃ g, g = w.heap.size + 1 + 1 := ⟨_, rfl⟩
  have kT : Blk w1 gT 88 (titV t x) := by rw [hw1, hgT]; exact ((Blk.new _ _ _).alloc _).alloc _
  have kA : Blk w1 gA 98 (edV e1 y1) := by
    rw [hw1, hgA]
    have h0 := Blk.new (w.alloc (.cells (titV t x) 88)) 98 (edV e1 y1)
    rw [World.size_alloc] at h0
    exact h0.alloc _
  have kB : Blk w1 gB 98 (edV e2 y2) := by
    rw [hw1, hgB]
    have h0 := Blk.new ((w.alloc (.cells (titV t x) 88)).alloc (.cells (edV e1 y1) 98)) 98 (edV e2 y2)
    rw [World.size_alloc, World.size_alloc] at h0
    exact h0
  have hmk := run_make_row' (P := Try.prog) 193 4 (.bool false) 1 Try.underlying193 infoBool rfl .i64 .i64 t.colours.length (by omega) (by omega) w1
  obtain ⟨w2, hw2⟩ : ∃ W, W = w1.alloc (.cells (madeCells #[.bool false] t.colours.length) 4) := ⟨_, rfl⟩
  rw [← hw2] at hmk
  have hr0 : w2.rowIs w1.heap.size 4 t.colours.length (fun _ => .bool false) := by rw [hw2]; exact World.rowIs_made w1 (.bool false) t.colours.length 4
  have hb12 : Below w1.heap.size w1 w2 := by rw [hw2]; exact (Below.refl _ _).alloc (Nat.le_refl _) _
  obtain ⟨gK, hgK⟩ : ∃ g, g = w1.heap.size := ⟨_, rfl⟩
  rw [← hgK] at hmk hr0
  obtain ⟨h, hh⟩ : ∃ h : Nat → Bool, h = fun p => decide (e1.variants.getD p (-1) ≠ e2.variants.getD p (-1)) := ⟨_, rfl⟩
  have hres : changeB t e1 e2 = sumN (fun i => if marksN t.pairs h t.colours.length i then t.colours.getD i 0 else 0) t.colours.length := by rw [hh]; exact platesB_marks hg _
  have HA := Lib.hid hA
  have HV1 := Lib.hid hV1
  have HV2 := Lib.hid hV2
  have HB1 := Lib.hid hb1
  have HW1 := Lib.hid hw1
  have HGT := Lib.hid hgT
  have HGA := Lib.hid hgA
  have HGB := Lib.hid hgB
  have HGK := Lib.hid hgK
  have KT := Lib.hid kT
  have KA := Lib.hid kA
  have KB := Lib.hid kB
  have HR0 := Lib.hid hr0
  have HB12 := Lib.hid hb12
  have HRES := Lib.hid hres
  have HH := Lib.hid hh
  have HCC := Lib.hid hcc
  have HL := Lib.hid (And.intro hv1 hv2)
  have hlT : gT < w1.heap.size := kT.lt
  have hlA : gA < w1.heap.size := kA.lt
  have hlB : gB < w1.heap.size := kB.lt
  have HO := Lib.hid (fun p W (hp : p ≤ 1000) (h : Below w.heap.size w W) => owner_any t x p W hp hpl hn ((hB.below h).mono h.size))
  have r0 := kT.cell 0
  simp [titV] at r0
  clear hA hB hV1 hV2 hb1 hw1 hw2 hgT hgA hgB hgK kT kA kB hr0 hb12 hres hh hcc hn hg hv1 hv2
  unfold titV edV at *
  go_enter Try.func97, Try.ntmps97
  go_upto_region 1 with fail
  rw [← HW1.out, ← HGB.out, ← HGA.out, ← HGT.out]
  go_upto_region 2 with fail
  go_wp2_with fail
  clear hmk r0
  go_loopw [8] (fun i wr => ∃ k : Nat, k ≤ t.colours.length ∧ i = .int .i64 k ∧ Hid (wr.rowIs gK 4 t.colours.length (fun j => .bool (marksN t.pairs h k j))) ∧ Below w1.heap.size w1 wr) (fun i _ => t.colours.length - (intOf i).toNat)
  case atStart => exact ⟨0, Nat.zero_le _, rfl, by simpa [Hid, marksN] using HR0.out, HB12.out⟩
  case round =>
    obtain ⟨k, hk, rfl, HR, hB⟩ := hrel
    have HBW := Lib.hid (HB1.out.trans (hB.mono HB1.out.size))
    have HBR := Lib.hid hB
    have kr := KT.out.below hB hlT
    have ka := KA.out.below hB hlA
    have kb := KB.out.below hB hlB
    have r0 := kr.cell 0
    have r1 := kr.cell 1
    have r2 := kr.cell 2
    have r3 := kr.cell 3
    have r4 := kr.cell 4
    have r5 := kr.cell 5
    have r6 := kr.cell 6
    have r7 := kr.cell 7
    have a4 := ka.cell 4
    have b4 := kb.cell 4
    simp at r0 r1 r2 r3 r4 r5 r6 r7 a4 b4
    clear kr ka kb hB
    by_cases hlt : k < t.colours.length
    · have hv1 : k < e1.variants.length := by have := HL.out.1; omega
      have hv2 : k < e2.variants.length := by have := HL.out.2; omega
      obtain ⟨vb1, vo1, hq1, hz1, g1⟩ := (HV1.out.below HBW.out).at1 hv1
      obtain ⟨vb2, vo2, hq2, hz2, g2⟩ := (HV2.out.below HBW.out).at1 hv2
      have hhk : h k = decide (e1.variants[k] ≠ e2.variants[k]) := by rw [HH.out]; simp [hv1, hv2]
      rw [hq1] at a4 ⊢
      rw [hq2] at b4 ⊢
      obtain ⟨u, hu⟩ : ∃ u, u = e1.variants[k] := ⟨_, rfl⟩
      obtain ⟨v, hv⟩ : ∃ v, v = e2.variants[k] := ⟨_, rfl⟩
      rw [← hu] at g1 hhk
      rw [← hv] at g2 hhk
      have hms := fun i => marksN_succ t.pairs h k i
      have HMS := Lib.hid hms
      have HHK := Lib.hid hhk
      have HQ1 := Lib.hid hq1
      have HQ2 := Lib.hid hq2
      clear hu hv hq1 hq2 hhk hms
      by_cases he : u = v
      · have t1 : (u != v) = false := by simp [he]
        have hk0 : h k = false := by rw [HHK.out]; simp [he]
        have HK0 := Lib.hid hk0
        clear he hk0
        go_wp2_with fail
        go_quiet (fail)
        go_wp2_with fail
        go_roundw
        case rel =>
          refine ⟨k + 1, by omega, by go_num, ?_, below_drewN HBR.out _⟩
          refine World.rowIs.congr (World.rowIs.of_block HR.out rfl) fun j hj => ?_
          rw [HMS.out, HK0.out]; simp
        case measure => simp [intOf]; omega
      · have t1 : (u != v) = true := by simp [he]
        have hk1 : h k = true := by rw [HHK.out]; simp [he]
        have HK1 := Lib.hid hk1
        have hol : ownerN t.pairs k < t.colours.length := owner_lt hlt
        clear he hk1
        go_wp2_with fail
        go_quiet (fail)
        have HOW := Lib.hid (HO.out k (wr.drewN nq) (by omega) (below_drewN HBW.out _))
        go_wp2_with fail
        refine HOW.out.mono ?_
        rintro e' w5 ⟨rfl, hb5⟩
        have hr5 : w5.rowIs gK 4 t.colours.length (fun j => .bool (marksN t.pairs h k j)) := World.rowIs.of_block HR.out (hb5.block gK HR.out.lt)
        have z1 := hr5.frozen (ownerN t.pairs k)
        have z2 := hr5.cell hol
        have HR5 := Lib.hid hr5
        have H5 := Lib.hid ((below_drewN HBR.out nq).trans (hb5.mono (by exact HBR.out.size)))
        clear hb5 hr5
        go_wp2_with fail
        go_roundw
        case rel =>
          refine ⟨k + 1, by omega, by go_num, ?_, H5.out.setCell (by rw [HGK.out]; exact Nat.le_refl _) _⟩
          refine World.rowIs.congr (HR5.out.set (ownerN t.pairs k) (.bool true)) fun j hj => ?_
          rw [HMS.out, HK1.out]
          by_cases e : j = ownerN t.pairs k
          · subst e; simp
          · simp [e, Ne.symm e]
        case measure => simp [intOf]; omega
    · obtain rfl : k = t.colours.length := by omega
      obtain ⟨f, hf⟩ : ∃ f : Nat → Int, f = fun i => if marksN t.pairs h t.colours.length i then t.colours.getD i 0 else 0 := ⟨_, rfl⟩
      have hres := HRES.out
      rw [← hf] at hres
      have hbd : ∀ k, k ≤ t.colours.length → 0 ≤ sumN f k ∧ sumN f k ≤ 4 * k := by
        intro k hk
        refine sumN_bd fun i hi => ?_
        rw [hf]
        have e : t.colours.getD i 0 = t.colours[i]'(by omega) := by simp [show i < t.colours.length by omega]
        have := HCC.out _ (List.getElem_mem (show i < t.colours.length by omega))
        dsimp only
        rw [e]
        split <;> omega
      have HF := Lib.hid hf
      have HRS := Lib.hid hres
      have HBD := Lib.hid hbd
      obtain ⟨wq, hwq⟩ : ∃ W, W = wr := ⟨_, rfl⟩
      rw [← hwq] at HR HBW HBR r0 ⊢
      clear hf hres hbd hwq r1 r2 r3 r4 r5 r6 r7 a4 b4
      go_wp2_with fail
      go_loopw [9, 10] (fun n i wr => ∃ k : Nat, k ≤ t.colours.length ∧ i = .int .i64 k ∧ n = .int .i64 (sumN f k) ∧ Below wq.heap.size wq wr) (fun _ i _ => t.colours.length - (intOf i).toNat)
      case atStart => exact ⟨0, Nat.zero_le _, rfl, rfl, Below.refl _ _⟩
      case round =>
        obtain ⟨k, hk, rfl, rfl, hB⟩ := hrel
        have hlq : gT < wq.heap.size := by have := HBR.out.size; omega
        have s0 := (hB.cell (p := ⟨gT, 0, none⟩) hlq).trans r0
        by_cases hlt : k < t.colours.length
        · have hrow : wr.rowIs gK 4 t.colours.length (fun j => .bool (marksN t.pairs h t.colours.length j)) := World.rowIs.of_block HR.out (hB.block gK HR.out.lt)
          have d0 := hrow.cell hlt
          have hs : sumN f (k + 1) = sumN f k + f k := rfl
          have hb0 := HBD.out k hk
          have hck := HCC.out _ (List.getElem_mem hlt)
          have e : t.colours.getD k 0 = t.colours[k] := by simp [hlt]
          obtain ⟨ab, ao, hxa, hab, g1⟩ := (HA.out.below (HBW.out.trans (hB.mono HBW.out.size))).at1 hlt
          rw [hxa] at s0
          clear hxa
          cases hm : marksN t.pairs h t.colours.length k
          · rw [hm] at d0
            have hfk : f k = 0 := by rw [HF.out]; dsimp only; rw [hm]; simp
            have HS := Lib.hid (hs.trans (by rw [hfk]))
            clear hs e hfk hrow
            go_wp2_with fail
            go_roundw
            case rel => exact ⟨k + 1, by omega, by go_num, int_eq (by rw [HS.out]; omega), hB⟩
            case measure => simp [intOf]; omega
          · rw [hm] at d0
            have hfk : f k = t.colours[k] := by rw [HF.out]; dsimp only; rw [hm, e]; simp
            have HS := Lib.hid (hs.trans (by rw [hfk]))
            have f1 := IntWalk.i64_in (sumN f k + t.colours[k]) (by omega)
            clear hs e hfk hrow
            go_wp2_with fail
            go_roundw
            case rel => exact ⟨k + 1, by omega, by go_num, int_eq (by rw [HS.out]), hB⟩
            case measure => simp [intOf]; omega
        · obtain rfl : k = t.colours.length := by omega
          have hbb := HBW.out.trans (hB.mono HBW.out.size)
          go_wp2_with fail
          go_ret
          exact ⟨ret_int (by rw [HRS.out]), hbb⟩
end Go.Proofs.Ytokdleanpkkdpaa
