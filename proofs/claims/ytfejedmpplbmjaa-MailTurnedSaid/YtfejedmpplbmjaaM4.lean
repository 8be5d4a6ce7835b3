/- Contracts of sizes and Sizes; conditions: as each says. -/
import Derived.Test.YtfejedmpplbmjaaM3
set_option linter.unusedSimpArgs false
set_option linter.unusedVariables false
namespace Go.Ml
open Go.Fh
/-- the sizes of the bundles of n copies -/
def szS (size least n : Int) : List Int :=
  if n = 0 then [] else if n ≤ size then [n] else
  if least ≤ n % size then List.replicate (n / size).toNat size ++ [n % size] else
  if 0 < n % size then List.replicate ((n / size).toNat - 1) size ++ [size + n % size - (size + n % size) / 2, (size + n % size) / 2] else List.replicate (n / size).toNat size
def szO (size least n : Int) : List Int × Int := if wrgB size least || !inB n 0 5000 then ([], 1) else (szS size least n, 0)
theorem szS_len (size least n : Int) (h : 1 ≤ size) (h0 : 0 ≤ n) (h1 : n ≤ 5000) : (szS size least n).length ≤ 5002 := by
  have hq : (n / size) ≤ n := Int.ediv_le_self _ h0
  unfold szS
  split
  · simp
  · split
    · simp
    · split
      · simp; omega
      · split <;> simp <;> omega
theorem rowF_own {W : Go.World} {g m base : Nat} {f : Nat → Int} (h : RowF W g f m) (hb : base ≤ g) (hm : m ≤ Go.maxLen) : W.ownsRow base 3 1 (.slice (some ⟨g, 0, none⟩) m m) m ((upF f m).map (Go.Value.int .i64)) := by
  refine ⟨by simp [upF], .inr ⟨g, m, _, rfl, hb, h, Nat.le_refl _, hm, by simp, ?_⟩⟩
  rw [Nat.mul_one, List.take_of_length_le (by simp)]
  simp [upF, Function.comp_def]
theorem upF_repl (u : Int) (m : Nat) : upF (fun _ => u) m = List.replicate m u := by
  unfold upF
  refine List.ext_getElem (by simp) fun i h1 h2 => by simp
end Go.Ml
namespace Go.Proofs.Ytfejedmpplbmjaa
open Go.RowKit Go.Fh Go.Ml
theorem own_at {w : Go.World} {b : Nat} {e : Go.TypeId} {s n : Nat} {v : Go.Value} {xs : List Go.Value} (h : w.ownsRow b e s v n xs) {g : Nat} (hg : v.ownBlock = some g) : (∃ cs, w.heap[g]? = some (.cells cs e (0, 0))) ∧ b ≤ g := by
  rcases h.2 with ⟨rfl, _⟩ | ⟨g', cap, cur, rfl, h1, h2, _⟩
  · simp [Go.Value.ownBlock] at hg
  · simp [Go.Value.ownBlock] at hg
    subst hg
    exact ⟨⟨_, h2⟩, h1⟩
set_option maxRecDepth 20000 in
set_option maxHeartbeats 8000000 in
theorem sizes_any (size least n : Int) (w : World) (hw : wrgB size least = false) (h0 : 0 ≤ n) (h1 : n ≤ 5000) (L : List Int) (hL : L = szS size least n) :
    Calls Try.prog 87 #[.agg #[.int .i64 size, .int .i64 least], .int .i64 n] w fun e w' => ∃ A' c', e = .returned (.slice A' L.length c') ∧ Hid (Sl encInt 1 w' w'.heap.size A' L) ∧ Hid (Below w.heap.size w w') := by
  have hs : 1 ≤ size ∧ size ≤ 200 ∧ 1 ≤ least := by
    unfold wrgB at hw
    rw [Bool.or_eq_false_iff] at hw
    have a := inB_iff.1 (by simpa using hw.1)
    have b := inB_iff.1 (by simpa using hw.2)
    exact ⟨a.1, a.2, b.1⟩
  obtain ⟨hs1, hs2, hs3⟩ := hs
  obtain ⟨w1, hw1⟩ : ∃ W, W = w.alloc (.cells #[.int .i64 size, .int .i64 least] 92) := ⟨_, rfl⟩
  obtain ⟨g2, hg2⟩ : ∃ g, g = w.heap.size := ⟨_, rfl⟩
  have k1 : Blk w1 g2 92 #[.int .i64 size, .int .i64 least] := by rw [hw1, hg2]; exact Blk.new _ _ _
  have HB1 := Lib.hid (show Below w.heap.size w w1 from by rw [hw1]; exact balR (Below.refl _ _) _)
  have HC := Lib.hid (show ∀ W, Below w1.heap.size w1 W → W.cell? ⟨g2, 0, none⟩ = some (.int .i64 size) ∧ W.cell? ⟨g2, 1, none⟩ = some (.int .i64 least) from fun W hb => by
    have k := k1.below hb k1.lt
    have a0 := k.cell 0
    have a1 := k.cell 1
    simp at a0 a1
    exact ⟨a0, a1⟩)
  obtain ⟨r0, r1⟩ := HC.out w1 (Below.refl _ _)
  have HW1 := Lib.hid hw1
  have HG2 := Lib.hid hg2
  have HL := Lib.hid hL
  unfold szS at hL
  clear k1 hw hw1 hg2
  by_cases c0 : n = 0
  · rw [if_pos c0] at hL
    subst hL
    have t1 : (n == 0) = true := by simpa using c0
    have HNIL := Lib.hid (fun (W : World) => (Sl.nil : Sl encInt 1 W W.heap.size none []))
    clear c0 HL
    go_enter Try.func87, Try.ntmps87
    go_upto_region 1 with fail
    rw [← HW1.out, ← HG2.out]
    go_wp2_with fail
    go_ret
    exact ⟨none, 0, rfl, Lib.hid (HNIL.out _), HB1⟩
  rw [if_neg c0] at hL
  have t1 : (n == 0) = false := by simpa using c0
  by_cases c1 : n ≤ size
  · rw [if_pos c1] at hL
    subst hL
    have t2 : decide (n ≤ size) = true := by simpa using c1
    clear c0 c1 HL
    go_enter Try.func87, Try.ntmps87
    go_upto_region 1 with fail
    rw [← HW1.out, ← HG2.out]
    go_wp2_with fail
    go_ret
    refine ⟨some ⟨w1.heap.size, 0, none⟩, 1, rfl, Lib.hid ?_, Lib.hid (balR HB1.out _)⟩
    exact Sl.of_blk (enc := encInt) (fun _ => rfl) (by simp [maxLen]) (Blk.new w1 3 #[.int .i64 n]) rfl
  rw [if_neg c1] at hL
  have t2 : decide (n ≤ size) = false := by simpa using c1
  obtain ⟨q, hq⟩ : ∃ q : Nat, (q : Int) = n / size := ⟨(n / size).toNat, by have := Int.ediv_nonneg h0 (show 0 ≤ size by omega); omega⟩
  obtain ⟨lf, hlf⟩ : ∃ x, x = n % size := ⟨_, rfl⟩
  have hm0 := Int.emod_nonneg n (show size ≠ 0 by omega)
  have hm1 := Int.emod_lt_of_pos n (show 0 < size by omega)
  have hqn : n / size ≤ n := Int.ediv_le_self _ h0
  have hq1 : 1 ≤ n / size := by
    rw [Int.le_ediv_iff_mul_le (by omega)]; omega
  have hqN : (n / size).toNat = q := by omega
  rw [hqN] at hL
  rw [← hlf] at hL hm0 hm1
  have d1 : IntKind.i64.wrap (n.tdiv size) = (q : Int) := by rw [Int.tdiv_eq_ediv_of_nonneg h0, ← hq, IntKind.wrap_i64]; omega
  have d2 : IntKind.i64.wrap (n / size) = (q : Int) := by rw [← hq, IntKind.wrap_i64]; omega
  have e1 : IntKind.i64.wrap (n.tmod size) = lf := by rw [Int.tmod_eq_emod_of_nonneg h0, ← hlf, IntKind.wrap_i64]; omega
  have e2 : IntKind.i64.wrap (n % size) = lf := by rw [← hlf, IntKind.wrap_i64]; omega
  have z1 : (size == 0) = false := by simp; omega
  have z2 : ¬ size = 0 := by omega
  have H83 := Lib.hid (show ∀ W : World, Calls Try.prog 83 #[.slice (some ⟨W.heap.size, 0, none⟩) 1 1, .int .i64 (q : Int)] (W.alloc (.cells #[.int .i64 size] 3)).drew fun e w' => ∃ g, e = .returned (.slice (some ⟨g, 0, none⟩) q q) ∧ W.heap.size < g ∧ Hid (RowF w' g (fun _ => size) q) ∧ Hid (Below W.heap.size W w') from fun W => by
    have k : Blk (W.alloc (.cells #[.int .i64 size] 3)).drew W.heap.size 3 #[.int .i64 size] := (Blk.new W 3 #[.int .i64 size]).drew
    refine (repeat_any (some ⟨W.heap.size, 0, none⟩) 1 size q (W.alloc (.cells #[.int .i64 size] 3)).drew (by omega) (by omega) (Sl.of_blk (enc := encInt) (fun _ => rfl) (by simp [maxLen]) k rfl)).mono ?_
    rintro e w' ⟨g, rfl, hg, hk, hb⟩
    have hb0 : Below W.heap.size W (W.alloc (.cells #[.int .i64 size] 3)).drew := (balR (Below.refl _ _) _).drew
    exact ⟨g, rfl, (by have h : (W.alloc (.cells #[.int .i64 size] 3)).drew.heap.size = W.heap.size + 1 := (by simp); omega), Lib.hid (rowF_repl hk), Lib.hid (bstep hb0 hb)⟩)
  have hq5 : q ≤ 5000 := by omega
  have hqp : 1 ≤ q := by omega
  have f1 : IntKind.i64.wrap (size + lf) = size + lf := by rw [IntKind.wrap_i64]; omega
  obtain ⟨hf, hhf⟩ : ∃ x, x = (size + lf) / 2 := ⟨_, rfl⟩
  have f2 : IntKind.i64.wrap ((size + lf).tdiv 2) = hf := by rw [Int.tdiv_eq_ediv_of_nonneg (by omega), ← hhf, IntKind.wrap_i64]; omega
  have f3 : IntKind.i64.wrap ((size + lf) / 2) = hf := by rw [← hhf, IntKind.wrap_i64]; omega
  have f4 : IntKind.i64.wrap (size + lf - hf) = size + lf - hf := by rw [IntKind.wrap_i64]; omega
  have f5 : 0 ≤ size + lf := by omega
  rw [← hhf] at hL
  obtain ⟨iT, hi, hz0, hz1, hz2⟩ := info_parts infoInt
  have HI := Lib.hid hi
  have HLE := Lib.hid hL
  have HLF := Lib.hid hlf
  have j0 : (0 : Int) ≤ (q : Int) - 1 := by omega
  have j1 : (q : Int) - 1 ≤ (q : Int) := by omega
  have j2 : IntKind.i64.wrap ((q : Int) - 1) = (q : Int) - 1 := by rw [IntKind.wrap_i64]; omega
  have j3 : ((q : Int) - 1).toNat = q - 1 := by omega
  have j4 : (1 : Int) ≤ (q : Int) := by omega
  have hml : q + 2 ≤ maxLen := by simp only [maxLen]; omega
  clear c0 c1 hL hq hlf hqn hq1 hqN hhf hi HL
  go_enter Try.func87, Try.ntmps87
  go_upto_region 1 with fail
  rw [← HW1.out, ← HG2.out]
  go_upto_region 5 with fail
  --@1
  go_region_held3 (fun W => W.cell? ⟨g2, 0, none⟩ = some (.int .i64 size) ∧ W.cell? ⟨g2, 1, none⟩ = some (.int .i64 least))
    (exact HC.out _ (by (repeat (with_reducible first | exact Below.refl _ _ | exact HB3.out | refine Below.drew ?_ | refine balR ?_ _))))
    ((go_at_call 83; with_reducible refine (H83.out _).mono ?_; rintro e w3 ⟨g3, rfl, hg3, HF3, hb3⟩; have HB3 := Lib.hid (bstep (show Below w1.heap.size w1 w1 from Below.refl _ _) hb3.out); have HG3 := Lib.hid hg3; clear hb3 hg3))
  all_goals
    clear r0 r1
    obtain ⟨r0, r1⟩ := HC.out w3 HB3.out
    have HGW := Lib.hid (show w1.heap.size ≤ g3 from by have := HG3.out; omega)
    have HO3 := Lib.hid (rowF_own HF3.out HGW.out (by omega))
    have HBW := Lib.hid (HB1.out.trans (HB3.out.mono HB1.out.size))
    go_upto_region 7 with fail
    rw [← HLF.out]
    by_cases c2 : least ≤ lf
    · have t3 : decide (lf ≥ least) = true := by simpa using c2
      have t3' : decide (least ≤ lf) = true := by simpa using c2
      have HX := Lib.hid (show L = List.replicate q size ++ [lf] from by rw [HLE.out, if_pos c2])
      have hsz := HB3.out.size
      clear c2
      --@2
      go_wp2_with (at_builtin; refine wpList_append_lies _ rfl (.tmp 35) (.tmp 37) 22 rfl w1.heap.size 3 iT _ 1 8 Try.underlying22 HI.out hz0 hz1 hz2 rfl (by decide) (.slice (some ⟨g3, 0, none⟩) q q) q ((upF (fun _ => size) q).map (Value.int .i64)) rfl (HO3.out.alloc _) ⟨w3.heap.size, 0, none⟩ 1 1 [.int .i64 lf] rfl rfl (news_of1 w3 3 #[.int .i64 lf]) (by intro u hu; simp at hu; subst hu; rfl) (by decide) (by omega) (by omega) (by simp; omega) (w3.heap.size + 1) (by simp) ?_; intro g9 c9 w9 hown9 hg9 hat9 hlt9; have H9 := Lib.hid hown9; have HG9 := Lib.hid hg9; clear hown9 hg9 hat9 hlt9)
      go_ret
      have hl : L.length = q + 1 := by rw [HX.out]; simp
      rw [hl]
      refine ⟨some ⟨g9, 0, none⟩, c9, rfl, Lib.hid ?_, Lib.hid ((balR HBW.out _).grown HG9.out (balR HBW.out _).size (fun j hj => Nat.le_trans HB1.out.size (own_at HO3.out hj).2))⟩
      refine own_sl (B := w1.heap.size) (c := c9) ?_
      rw [hl, HX.out, List.map_append, ← upF_repl]
      exact H9.out
      --@end
    · have t3 : decide (lf ≥ least) = false := by simpa using c2
      have t3' : decide (least ≤ lf) = false := by simpa using c2
      by_cases c3 : 0 < lf
      · have t4 : decide (lf > 0) = true := by simpa using c3
        have t4' : decide (0 < lf) = true := by simpa using c3
        have HX := Lib.hid (show L = List.replicate (q - 1) size ++ [size + lf - hf, hf] from by rw [HLE.out, if_neg c2, if_pos c3])
        have hsz := HB3.out.size
        have HOP := Lib.hid (show w3.ownsRow w1.heap.size 3 1 (.slice (some ⟨g3, 0, none⟩) (q - 1) q) (q - 1) ((upF (fun _ => size) (q - 1)).map (Value.int .i64)) from by
          have h := HO3.out
          obtain ⟨k, rfl⟩ : ∃ k, q = k + 1 := ⟨q - 1, by omega⟩
          rw [upF_succ, List.map_append] at h
          exact ownsRow_pop (by simp [upF]) h)
        clear c2 c3
        --@3
        go_upto_region 11 with fail
        go_wp2_with (at_builtin; refine wpList_append_lies _ rfl (.tmp 50) (.tmp 57) 22 rfl w1.heap.size 3 iT _ 1 8 Try.underlying22 HI.out hz0 hz1 hz2 rfl (by decide) (.slice (some ⟨g3, 0, none⟩) (q - 1) q) (q - 1) ((upF (fun _ => size) (q - 1)).map (Value.int .i64)) rfl (HOP.out.alloc _) ⟨w3.heap.size, 0, none⟩ 2 2 [.int .i64 (size + lf - hf), .int .i64 hf] rfl rfl (news_of1 w3 3 #[.int .i64 (size + lf - hf), .int .i64 hf]) (by intro u hu; simp at hu; rcases hu with rfl | rfl <;> rfl) (by decide) (by omega) (by omega) (by simp; omega) (w3.heap.size + 1) (by simp) ?_; intro g9 c9 w9 hown9 hg9 hat9 hlt9; have H9 := Lib.hid hown9; have HG9 := Lib.hid hg9; clear hown9 hg9 hat9 hlt9)
        go_ret
        have hl : L.length = q - 1 + 2 := by rw [HX.out]; simp
        rw [hl]
        refine ⟨some ⟨g9, 0, none⟩, c9, rfl, Lib.hid ?_, Lib.hid ((balR HBW.out _).grown HG9.out (balR HBW.out _).size (fun j hj => Nat.le_trans HB1.out.size (own_at HO3.out hj).2))⟩
        refine own_sl (B := w1.heap.size) (c := c9) ?_
        rw [hl, HX.out, List.map_append, ← upF_repl]
        exact H9.out
        --@end
      · have t4 : decide (lf > 0) = false := by simpa using c3
        have t4' : decide (0 < lf) = false := by simpa using c3
        have HX := Lib.hid (show L = List.replicate q size from by rw [HLE.out, if_neg c2, if_neg c3])
        clear c2 c3
        --@4
        go_wp2_with fail
        go_ret
        have hl : L.length = q := by rw [HX.out]; simp
        rw [hl]
        refine ⟨some ⟨g3, 0, none⟩, q, rfl, Lib.hid ?_, HBW⟩
        rw [HX.out, ← upF_repl]
        exact HF3.out.sl
        --@end
  --@end
set_option maxRecDepth 20000 in
set_option maxHeartbeats 8000000 in
theorem sizes43_any (size least n : Int) (w : World) (L : List Int) (er : Int) (hL : (L, er) = szO size least n) :
    Calls Try.prog 43 #[.agg #[.int .i64 size, .int .i64 least], .int .i64 n] w fun e w' => ∃ A' c', e = .returned (.tuple #[.slice A' L.length c', .int .i64 er]) ∧ Hid (Sl encInt 1 w' w'.heap.size A' L) ∧ Hid (Below w.heap.size w w') := by
  obtain ⟨w1, hw1⟩ : ∃ W, W = w.alloc (.cells #[.int .i64 size, .int .i64 least] 92) := ⟨_, rfl⟩
  obtain ⟨g2, hg2⟩ : ∃ g, g = w.heap.size := ⟨_, rfl⟩
  have k1 : Blk w1 g2 92 #[.int .i64 size, .int .i64 least] := by rw [hw1, hg2]; exact Blk.new _ _ _
  have HB1 := Lib.hid (show Below w.heap.size w w1 from by rw [hw1]; exact balR (Below.refl _ _) _)
  have HC := Lib.hid (show ∀ W, Below w1.heap.size w1 W → W.cell? ⟨g2, 0, none⟩ = some (.int .i64 size) ∧ W.cell? ⟨g2, 1, none⟩ = some (.int .i64 least) from fun W hb => by
    have k := k1.below hb k1.lt
    have a0 := k.cell 0
    have a1 := k.cell 1
    simp at a0 a1
    exact ⟨a0, a1⟩)
  obtain ⟨r0, r1⟩ := HC.out w1 (Below.refl _ _)
  have HW1 := Lib.hid hw1
  have HG2 := Lib.hid hg2
  obtain ⟨b1, hb1⟩ : ∃ b, b = wrgB size least := ⟨_, rfl⟩
  obtain ⟨b2, hb2⟩ : ∃ b, b = inB n 0 5000 := ⟨_, rfl⟩
  unfold szO at hL
  rw [← hb1, ← hb2] at hL
  have H84 := Lib.hid (fun W => wrong_any size least b1 hb1 W)
  have H54 := Lib.hid (fun W => within_val _ _ _ b2 hb2 W)
  have HNIL := Lib.hid (fun (W : World) => (Sl.nil : Sl encInt 1 W W.heap.size none []))
  clear k1 hw1 hg2
  cases b1
  · cases b2
    · simp at hL
      obtain ⟨rfl, rfl⟩ := hL
      clear hb1 hb2
      go_enter Try.func43, Try.ntmps43
      go_upto_region 1 with fail
      rw [← HW1.out, ← HG2.out]
      go_wp2_with first
        | (go_at_call 84; with_reducible refine (H84.out _).mono ?_; rintro e w2 ⟨rfl, HB2⟩)
        | (go_at_call 54; with_reducible refine (H54.out _).mono ?_; rintro e wz ⟨rfl, rfl⟩)
      go_ret2
      exact ⟨none, 0, rfl, Lib.hid (HNIL.out _), Lib.hid (HB1.out.trans (HB2.out.mono HB1.out.size))⟩
    · obtain ⟨n0, n1⟩ := inB_iff.1 hb2.symm
      simp at hL
      obtain ⟨hL, rfl⟩ := hL
      have H87 := Lib.hid (fun W => sizes_any size least n W hb1.symm n0 n1 L hL)
      clear hb1 hb2 hL
      go_enter Try.func43, Try.ntmps43
      go_upto_region 1 with fail
      rw [← HW1.out, ← HG2.out]
      go_wp2_with first
        | (go_at_call 84; with_reducible refine (H84.out _).mono ?_; rintro e w2 ⟨rfl, HB2⟩; clear r0 r1; obtain ⟨r0, r1⟩ := HC.out w2 HB2.out)
        | (go_at_call 54; with_reducible refine (H54.out _).mono ?_; rintro e wz ⟨rfl, rfl⟩)
        | (go_at_call 87; with_reducible refine (H87.out _).mono ?_; rintro e w3 ⟨A', c', rfl, HS3, HB3⟩)
      go_ret2
      exact ⟨A', c', rfl, HS3, Lib.hid (HB1.out.trans ((bstep HB2.out HB3.out).mono HB1.out.size))⟩
  · simp at hL
    obtain ⟨rfl, rfl⟩ := hL
    clear hb1 hb2
    go_enter Try.func43, Try.ntmps43
    go_upto_region 1 with fail
    rw [← HW1.out, ← HG2.out]
    go_wp2_with (go_at_call 84; with_reducible refine (H84.out _).mono ?_; rintro e w2 ⟨rfl, HB2⟩)
    go_ret2
    exact ⟨none, 0, rfl, Lib.hid (HNIL.out _), Lib.hid (HB1.out.trans (HB2.out.mono HB1.out.size))⟩
end Go.Proofs.Ytfejedmpplbmjaa
