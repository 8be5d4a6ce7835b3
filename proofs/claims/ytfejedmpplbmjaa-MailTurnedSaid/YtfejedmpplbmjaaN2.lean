/- Check of the mailroom; conditions: lists within the machine's lengths. Printed by a program. -/
import Derived.Test.YtfejedmpplbmjaaN1
set_option linter.unusedSimpArgs false
set_option linter.unusedVariables false
namespace Go.Ml
def hopW (h : Int × Int) : Bool := !inB h.1 0 15 || !inB h.2 0 2
def znW (hops : List (Int × Int)) (z : List Int) : Bool := !risB 15 z || z.any fun p => decide (fdS hops p < 0)
/-- what Check says -/
def chkL (d : LnD) : Int :=
  if !inB d.hops.length 1 8 || !inB d.zones.length 1 12 then 2 else if !inB d.batch 1 1000 then 6 else if d.hops.any hopW || !risB 15 d.rep then 1 else if d.zones.any (znW d.hops) then 1 else 0
end Go.Ml
namespace Go.Proofs.Ytfejedmpplbmjaa
open Go.RowKit Go.Fh Go.Ml
set_option maxRecDepth 20000 in
set_option maxHeartbeats 2000000 in
theorem clo101 (h : Int × Int) (W : World) :
    Calls Try.prog 101 #[.agg #[.int .i64 h.1, .int .i64 h.2]] W fun e w' => e = .returned (.bool (hopW h)) ∧ Hid (Below W.heap.size W w') := by
  obtain ⟨a, b⟩ := h
  unfold hopW
  dsimp only
  obtain ⟨b1, hb1⟩ : ∃ t, t = inB a 0 15 := ⟨_, rfl⟩
  obtain ⟨b2, hb2⟩ : ∃ t, t = inB b 0 2 := ⟨_, rfl⟩
  have H1 := Lib.hid (fun W => within_val a 0 15 b1 hb1 W)
  have H2 := Lib.hid (fun W => within_val b 0 2 b2 hb2 W)
  rw [← hb1, ← hb2]
  obtain ⟨w1, hw1⟩ : ∃ X, X = W.alloc (.cells #[.int .i64 a, .int .i64 b] 49) := ⟨_, rfl⟩
  have k1 : Blk w1 W.heap.size 49 #[.int .i64 a, .int .i64 b] := by rw [hw1]; exact Blk.new _ _ _
  have r0 := k1.cell 0
  have r1 := k1.cell 1
  simp at r0 r1
  have HB1 := Lib.hid (show Below W.heap.size W w1 from by rw [hw1]; exact balR (Below.refl _ _) _)
  have HW1 := Lib.hid hw1
  clear k1 hw1 hb1 hb2
  cases b1 <;> cases b2
  all_goals
    go_enter Try.func101, Try.ntmps101
    go_upto_region 1 with fail
    rw [← HW1.out]
    go_wp2_with first
      | (go_at_call 54; with_reducible refine (H1.out _).mono ?_; rintro e w2 ⟨rfl, rfl⟩)
      | (go_at_call 54; with_reducible refine (H2.out _).mono ?_; rintro e w2 ⟨rfl, rfl⟩)
    go_ret
    exact ⟨rfl, HB1⟩
/-- a box of a line, in every later world -/
def LBox (d : LnD) (x : LA) (g : Nat) (w : World) : Prop := g < w.heap.size ∧ ∀ W, Below w.heap.size w W → LnAt W W.heap.size d x ∧ W.cell? ⟨g, 0, none⟩ = some (.slice x.a d.hops.length x.ca) ∧ W.cell? ⟨g, 1, none⟩ = some (.slice x.b d.rep.length x.cb) ∧ W.cell? ⟨g, 2, none⟩ = some (.int .i64 d.batch) ∧ W.cell? ⟨g, 3, none⟩ = some (.slice x.z d.zones.length x.cz)
theorem LBox.below {d : LnD} {x : LA} {g : Nat} {w W : World} (h : LBox d x g w) (hb : Below w.heap.size w W) : LBox d x g W := ⟨Nat.lt_of_lt_of_le h.1 hb.size, fun X hX => h.2 X (bstep hb hX)⟩
set_option maxRecDepth 20000 in
set_option maxHeartbeats 2000000 in
theorem clo103 (d : LnD) (x : LA) (g : Nat) (p : Int) (W : World) (hB : LBox d x g W) (hl : d.hops.length ≤ 1000000000) :
    Calls Try.prog 103 #[.int .i64 p, .pointer (some ⟨g, 0, none⟩)] W fun e w' => e = .returned (.bool (decide (fdS d.hops p < 0))) ∧ Hid (Below W.heap.size W w') := by
  obtain ⟨hA, r0, r1, r2, r3⟩ := hB.2 W (Below.refl _ _)
  obtain ⟨f, hf⟩ : ∃ f, f = fdS d.hops p := ⟨_, rfl⟩
  have H1 := Lib.hid (feeder_any d x p W hA hl f hf)
  rw [← hf]
  unfold lineV at *
  clear hA hB hf
  go_enter Try.func103, Try.ntmps103
  go_wp2_with (go_at_call 104; with_reducible refine H1.out.mono ?_; rintro e w5 ⟨rfl, hb5⟩)
  go_ret
  exact ⟨rfl, hb5⟩
set_option maxRecDepth 20000 in
set_option maxHeartbeats 2000000 in
theorem clo102 (d : LnD) (x : LA) (g : Nat) (r : Option Addr × Nat × List Int) (W : World) (hB : LBox d x g W) (hl : d.hops.length ≤ 1000000000) (hr : r.2.2.length ≤ 9223372036854775807) (hR : Sl encInt 1 W W.heap.size r.1 r.2.2) :
    Calls Try.prog 102 #[.slice r.1 r.2.2.length r.2.1, .pointer (some ⟨g, 0, none⟩)] W fun e w' => e = .returned (.bool (znW d.hops r.2.2)) ∧ Hid (Below W.heap.size W w') := by
  obtain ⟨A, c, l⟩ := r
  dsimp only at hr hR ⊢
  obtain ⟨b1, hb1⟩ : ∃ t, t = risB 15 l := ⟨_, rfl⟩
  obtain ⟨b2, hb2⟩ : ∃ t, t = l.any fun p => decide (fdS d.hops p < 0) := ⟨_, rfl⟩
  have H1 := Lib.hid (rising_any A c l.length l 15 W rfl hr hR b1 hb1)
  have H2 := Lib.hid (fun X (hX : Below W.heap.size W X) => con20_103 A c l.length g (fun p => decide (fdS d.hops p < 0)) l X rfl hr ((hR.below hX).mono hX.size) b2 hb2 (fun p hp Y hY => clo103 d x g p Y (hB.below (bstep hX hY)) hl))
  have he : znW d.hops l = (!b1 || b2) := by rw [hb1, hb2]; rfl
  have HBW := Lib.hid (Below.refl W.heap.size W)
  rw [he]
  clear hB hR hb1 hb2 he
  cases b1
  · go_enter Try.func102, Try.ntmps102
    go_wp2_with (go_at_call 85; with_reducible refine H1.out.mono ?_; rintro e w5 ⟨rfl, hb5⟩)
    go_ret
    exact ⟨by simp, hb5⟩
  · cases b2
    all_goals
      go_enter Try.func102, Try.ntmps102
      go_wp2_with first
        | (go_at_call 85; with_reducible refine H1.out.mono ?_; rintro e w5 ⟨rfl, hb5⟩; have HB5 := hb5; clear hb5)
        | (go_at_call 20; with_reducible refine (H2.out _ HB5.out).mono ?_; rintro e w6 ⟨rfl, hb6⟩)
      go_ret
      exact ⟨by simp, Lib.hid (bstep HB5.out hb6.out)⟩
set_option maxRecDepth 20000 in
set_option maxHeartbeats 8000000 in
theorem check_any (d : LnD) (x : LA) (w : World) (h : LnAt w w.heap.size d x) (hl : d.hops.length ≤ 1000000000 ∧ d.zones.length ≤ 1000000000 ∧ d.rep.length ≤ 1000000000) (hz : ∀ z, z ∈ d.zones → z.length ≤ 9223372036854775807) (er : Int) (her : er = chkL d) :
    Calls Try.prog 53 #[lineV d x] w fun e w' => e = .returned (.int .i64 er) ∧ Hid (Below w.heap.size w w') := by
  obtain ⟨w1, g1, HW1, HG1, HB1, HT1⟩ := ln_box 29 d x w h
  obtain ⟨hA, r0, r1, r2, r3⟩ := HT1.out w1 (Below.refl _ _)
  have hbox : LBox d x g1 w1 := ⟨by rw [HG1.out, HW1.out]; simp, HT1.out⟩
  obtain ⟨b1, hb1⟩ : ∃ t, t = inB d.hops.length 1 8 := ⟨_, rfl⟩
  obtain ⟨b2, hb2⟩ : ∃ t, t = inB d.zones.length 1 12 := ⟨_, rfl⟩
  obtain ⟨b3, hb3⟩ : ∃ t, t = inB d.batch 1 1000 := ⟨_, rfl⟩
  obtain ⟨b4, hb4⟩ : ∃ t, t = d.hops.any hopW := ⟨_, rfl⟩
  obtain ⟨b5, hb5⟩ : ∃ t, t = risB 15 d.rep := ⟨_, rfl⟩
  obtain ⟨b6, hb6⟩ : ∃ t, t = d.zones.any (znW d.hops) := ⟨_, rfl⟩
  have he : er = if !b1 || !b2 then 2 else if !b3 then 6 else if b4 || !b5 then 1 else if b6 then 1 else 0 := by rw [her, hb1, hb2, hb3, hb4, hb5, hb6]; rfl
  have hlen := h.len
  have hb6' : b6 = x.rows.any (fun r => znW d.hops r.2.2) := by rw [hb6, ← h.hE, List.any_map]; rfl
  have H1 := Lib.hid (fun W => within_val d.hops.length 1 8 b1 hb1 W)
  have H2 := Lib.hid (fun W => within_val d.zones.length 1 12 b2 hb2 W)
  have H3 := Lib.hid (fun W => within_val d.batch 1 1000 b3 hb3 W)
  have H4 := Lib.hid (con100_101 x.a x.ca d.hops.length hopW d.hops w1 rfl (by omega) hA.hH b4 hb4 (fun y hy W hW => clo101 y W))
  have H5 := Lib.hid (fun X (hX : Below w1.heap.size w1 X) => rising_any x.b x.cb d.rep.length d.rep 15 X rfl (by omega) (HT1.out X hX).1.hR b5 hb5)
  have H6 := Lib.hid (fun X (hX : Below w1.heap.size w1 X) => con57_102 x.z x.cz d.zones.length g1 (fun r => znW d.hops r.2.2) x.rows X hlen.symm (by omega) (HT1.out X hX).1.hZ b6 hb6' (fun r hr Y hY => clo102 d x g1 r Y (hbox.below (bstep hX hY)) (by omega) (hz _ (by rw [← h.hE]; exact List.mem_map_of_mem (f := fun r : Option Addr × Nat × List Int => r.2.2) hr)) ((HT1.out Y (bstep hX hY)).1.hI r hr)))
  have HBN := Lib.hid (Below.refl w1.heap.size w1)
  rw [he]
  unfold lineV
  clear h hA hbox hb1 hb2 hb3 hb4 hb5 hb6 hb6' he her hlen hz
  cases b1
  · skip
    go_enter Try.func53, Try.ntmps53
    go_upto_region 1 with fail
    rw [← HW1.out, ← HG1.out]
    go_wp2_with first
      | (go_at_call 54; with_reducible refine (H1.out _).mono ?_; rintro e w2 ⟨rfl, rfl⟩)
      | (go_at_call 54; with_reducible refine (H2.out _).mono ?_; rintro e w2 ⟨rfl, rfl⟩)
      | (go_at_call 54; with_reducible refine (H3.out _).mono ?_; rintro e w2 ⟨rfl, rfl⟩)
      | (go_at_call 100; with_reducible refine H4.out.mono ?_; rintro e w2 ⟨rfl, hb2⟩; have HBN := hb2; clear hb2; clear r0 r1 r2 r3; obtain ⟨-, r0, r1, r2, r3⟩ := HT1.out w2 HBN.out)
      | (go_at_call 85; with_reducible refine (H5.out _ HBN.out).mono ?_; rintro e w3 ⟨rfl, hb2⟩; have HBN := Lib.hid (bstep HBN.out hb2.out); clear hb2; clear r0 r1 r2 r3; obtain ⟨-, r0, r1, r2, r3⟩ := HT1.out w3 HBN.out)
      | (go_at_call 57; with_reducible refine (H6.out _ HBN.out).mono ?_; rintro e w4 ⟨rfl, hb2⟩; have HBN := Lib.hid (bstep HBN.out hb2.out); clear hb2; clear r0 r1 r2 r3; obtain ⟨-, r0, r1, r2, r3⟩ := HT1.out w4 HBN.out)
    go_ret
    exact ⟨by simp, Lib.hid (HB1.out.trans (HBN.out.mono HB1.out.size))⟩
  · cases b2
    · skip
      go_enter Try.func53, Try.ntmps53
      go_upto_region 1 with fail
      rw [← HW1.out, ← HG1.out]
      go_wp2_with first
        | (go_at_call 54; with_reducible refine (H1.out _).mono ?_; rintro e w2 ⟨rfl, rfl⟩)
        | (go_at_call 54; with_reducible refine (H2.out _).mono ?_; rintro e w2 ⟨rfl, rfl⟩)
        | (go_at_call 54; with_reducible refine (H3.out _).mono ?_; rintro e w2 ⟨rfl, rfl⟩)
        | (go_at_call 100; with_reducible refine H4.out.mono ?_; rintro e w2 ⟨rfl, hb2⟩; have HBN := hb2; clear hb2; clear r0 r1 r2 r3; obtain ⟨-, r0, r1, r2, r3⟩ := HT1.out w2 HBN.out)
        | (go_at_call 85; with_reducible refine (H5.out _ HBN.out).mono ?_; rintro e w3 ⟨rfl, hb2⟩; have HBN := Lib.hid (bstep HBN.out hb2.out); clear hb2; clear r0 r1 r2 r3; obtain ⟨-, r0, r1, r2, r3⟩ := HT1.out w3 HBN.out)
        | (go_at_call 57; with_reducible refine (H6.out _ HBN.out).mono ?_; rintro e w4 ⟨rfl, hb2⟩; have HBN := Lib.hid (bstep HBN.out hb2.out); clear hb2; clear r0 r1 r2 r3; obtain ⟨-, r0, r1, r2, r3⟩ := HT1.out w4 HBN.out)
      go_ret
      exact ⟨by simp, Lib.hid (HB1.out.trans (HBN.out.mono HB1.out.size))⟩
    · cases b3
      · skip
        go_enter Try.func53, Try.ntmps53
        go_upto_region 1 with fail
        rw [← HW1.out, ← HG1.out]
        go_wp2_with first
          | (go_at_call 54; with_reducible refine (H1.out _).mono ?_; rintro e w2 ⟨rfl, rfl⟩)
          | (go_at_call 54; with_reducible refine (H2.out _).mono ?_; rintro e w2 ⟨rfl, rfl⟩)
          | (go_at_call 54; with_reducible refine (H3.out _).mono ?_; rintro e w2 ⟨rfl, rfl⟩)
          | (go_at_call 100; with_reducible refine H4.out.mono ?_; rintro e w2 ⟨rfl, hb2⟩; have HBN := hb2; clear hb2; clear r0 r1 r2 r3; obtain ⟨-, r0, r1, r2, r3⟩ := HT1.out w2 HBN.out)
          | (go_at_call 85; with_reducible refine (H5.out _ HBN.out).mono ?_; rintro e w3 ⟨rfl, hb2⟩; have HBN := Lib.hid (bstep HBN.out hb2.out); clear hb2; clear r0 r1 r2 r3; obtain ⟨-, r0, r1, r2, r3⟩ := HT1.out w3 HBN.out)
          | (go_at_call 57; with_reducible refine (H6.out _ HBN.out).mono ?_; rintro e w4 ⟨rfl, hb2⟩; have HBN := Lib.hid (bstep HBN.out hb2.out); clear hb2; clear r0 r1 r2 r3; obtain ⟨-, r0, r1, r2, r3⟩ := HT1.out w4 HBN.out)
        go_ret
        exact ⟨by simp, Lib.hid (HB1.out.trans (HBN.out.mono HB1.out.size))⟩
      · cases b4
        · cases b5
          · skip
            go_enter Try.func53, Try.ntmps53
            go_upto_region 1 with fail
            rw [← HW1.out, ← HG1.out]
            go_wp2_with first
              | (go_at_call 54; with_reducible refine (H1.out _).mono ?_; rintro e w2 ⟨rfl, rfl⟩)
              | (go_at_call 54; with_reducible refine (H2.out _).mono ?_; rintro e w2 ⟨rfl, rfl⟩)
              | (go_at_call 54; with_reducible refine (H3.out _).mono ?_; rintro e w2 ⟨rfl, rfl⟩)
              | (go_at_call 100; with_reducible refine H4.out.mono ?_; rintro e w2 ⟨rfl, hb2⟩; have HBN := hb2; clear hb2; clear r0 r1 r2 r3; obtain ⟨-, r0, r1, r2, r3⟩ := HT1.out w2 HBN.out)
              | (go_at_call 85; with_reducible refine (H5.out _ HBN.out).mono ?_; rintro e w3 ⟨rfl, hb2⟩; have HBN := Lib.hid (bstep HBN.out hb2.out); clear hb2; clear r0 r1 r2 r3; obtain ⟨-, r0, r1, r2, r3⟩ := HT1.out w3 HBN.out)
              | (go_at_call 57; with_reducible refine (H6.out _ HBN.out).mono ?_; rintro e w4 ⟨rfl, hb2⟩; have HBN := Lib.hid (bstep HBN.out hb2.out); clear hb2; clear r0 r1 r2 r3; obtain ⟨-, r0, r1, r2, r3⟩ := HT1.out w4 HBN.out)
            go_ret
            exact ⟨by simp, Lib.hid (HB1.out.trans (HBN.out.mono HB1.out.size))⟩
          · cases b6
            all_goals
              go_enter Try.func53, Try.ntmps53
              go_upto_region 1 with fail
              rw [← HW1.out, ← HG1.out]
              go_wp2_with first
                | (go_at_call 54; with_reducible refine (H1.out _).mono ?_; rintro e w2 ⟨rfl, rfl⟩)
                | (go_at_call 54; with_reducible refine (H2.out _).mono ?_; rintro e w2 ⟨rfl, rfl⟩)
                | (go_at_call 54; with_reducible refine (H3.out _).mono ?_; rintro e w2 ⟨rfl, rfl⟩)
                | (go_at_call 100; with_reducible refine H4.out.mono ?_; rintro e w2 ⟨rfl, hb2⟩; have HBN := hb2; clear hb2; clear r0 r1 r2 r3; obtain ⟨-, r0, r1, r2, r3⟩ := HT1.out w2 HBN.out)
                | (go_at_call 85; with_reducible refine (H5.out _ HBN.out).mono ?_; rintro e w3 ⟨rfl, hb2⟩; have HBN := Lib.hid (bstep HBN.out hb2.out); clear hb2; clear r0 r1 r2 r3; obtain ⟨-, r0, r1, r2, r3⟩ := HT1.out w3 HBN.out)
                | (go_at_call 57; with_reducible refine (H6.out _ HBN.out).mono ?_; rintro e w4 ⟨rfl, hb2⟩; have HBN := Lib.hid (bstep HBN.out hb2.out); clear hb2; clear r0 r1 r2 r3; obtain ⟨-, r0, r1, r2, r3⟩ := HT1.out w4 HBN.out)
              go_ret
              exact ⟨by simp, Lib.hid (HB1.out.trans (HBN.out.mono HB1.out.size))⟩
        · skip
          go_enter Try.func53, Try.ntmps53
          go_upto_region 1 with fail
          rw [← HW1.out, ← HG1.out]
          go_wp2_with first
            | (go_at_call 54; with_reducible refine (H1.out _).mono ?_; rintro e w2 ⟨rfl, rfl⟩)
            | (go_at_call 54; with_reducible refine (H2.out _).mono ?_; rintro e w2 ⟨rfl, rfl⟩)
            | (go_at_call 54; with_reducible refine (H3.out _).mono ?_; rintro e w2 ⟨rfl, rfl⟩)
            | (go_at_call 100; with_reducible refine H4.out.mono ?_; rintro e w2 ⟨rfl, hb2⟩; have HBN := hb2; clear hb2; clear r0 r1 r2 r3; obtain ⟨-, r0, r1, r2, r3⟩ := HT1.out w2 HBN.out)
            | (go_at_call 85; with_reducible refine (H5.out _ HBN.out).mono ?_; rintro e w3 ⟨rfl, hb2⟩; have HBN := Lib.hid (bstep HBN.out hb2.out); clear hb2; clear r0 r1 r2 r3; obtain ⟨-, r0, r1, r2, r3⟩ := HT1.out w3 HBN.out)
            | (go_at_call 57; with_reducible refine (H6.out _ HBN.out).mono ?_; rintro e w4 ⟨rfl, hb2⟩; have HBN := Lib.hid (bstep HBN.out hb2.out); clear hb2; clear r0 r1 r2 r3; obtain ⟨-, r0, r1, r2, r3⟩ := HT1.out w4 HBN.out)
          go_ret
          exact ⟨by simp, Lib.hid (HB1.out.trans (HBN.out.mono HB1.out.size))⟩
end Go.Proofs.Ytfejedmpplbmjaa
