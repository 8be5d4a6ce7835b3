/- Contracts of the reference's Thrown and Run; conditions: a press in memory. -/
import Derived.Test.YtnbnfadmbggfnaaUD
set_option linter.unusedSimpArgs false
set_option linter.unusedVariables false
namespace Go.Rl
open Go.Fh
theorem flat_set1 (S : List (Int × Int)) (b1 b2 k : Int) : ((S ++ [(b1, b2)]).flatMap enc2).set (S.length * 2 + 1) (.int .i64 k) = (S ++ [(b1, k)]).flatMap enc2 := by
  have hl : (S.flatMap enc2).length = S.length * 2 := by
    induction S with
    | nil => rfl
    | cons a S ih => rw [List.flatMap_cons, List.length_append, ih]; simp [enc2]; omega
  rw [List.flatMap_append, List.flatMap_append, List.set_append_right _ _ (by omega), hl]
  simp [enc2]
end Go.Rl
namespace Go.Proofs.Ytnbnfadmbggfnaa
open Go.RowKit Go.Fh Go.Rl
theorem infoSpan43 : (Try.prog.info? 43).map (fun i => (i.zero, i.size, i.bytes)) = some (some (.agg #[.int .i64 0, .int .i64 0]), 2, 16) := by kernel_rfl
set_option maxRecDepth 20000 in
set_option maxHeartbeats 8000000 in
theorem rthrown_any (p : PrsD) (A : Option Addr) (c m : Nat) (ms : List WebM) (w : World) (hT : PrsAt w w.heap.size p A ms) (hm : m = ms.length) (hm9 : m ≤ 1000000) (n : Int) (hn : n ≤ 9223372036854775807) (er : Int) (her : er = askE p n 9223372036854775807) (S : List (Int × Int)) (hS : S = thrO p n) :
    Calls Try.prog 70 #[.agg #[.int .i64 p.cut, .int .i64 p.margin, .slice A m c], .int .i64 n] w fun e w' => ∃ A' c', e = .returned (.tuple #[.slice A' S.length c', .int .i64 er]) ∧ Hid (Sl enc2 2 w' w'.heap.size A' S) ∧ Hid (Below w.heap.size w w') := by
  obtain ⟨w1, gT, HW1, HGT, HB1, HTP, HTC⟩ := mp_box 131 p w A c ms w hT m hm
  obtain ⟨r0, r1, r2⟩ := HTC.out w1 (Below.refl _ _)
  have HA := Lib.hid (rask_any p A c m ms w1 (HTP.out w1 (Below.refl _ _)) hm hm9 n hn er her)
  unfold thrO at hS
  rw [← her] at hS
  by_cases hz : er = 0
  · obtain ⟨q1, q2, -, q4⟩ := ask0 (her.symm.trans hz)
    have hpo := prs_ok q1
    have hrb := rch_bd q1
    obtain ⟨N, rfl⟩ : ∃ N : Nat, n = (N : Int) := ⟨n.toNat, by omega⟩
    rw [if_neg (by simpa using hz), ← thR_eq hpo] at hS
    have H110 := Lib.hid (fun W (hb : Below w1.heap.size w1 W) (k : Nat) (hk : k < N) (z : Bool) hz => rout_any p A c m ms W hpo (HTP.out W hb) hm (k : Int) (by omega) (by omega) z hz)
    have hN6 : N ≤ 1000000 := by omega
    have HS := Lib.hid hS
    subst hz
    obtain ⟨i0, hi, hz0, hz1, hz2⟩ := info_parts infoSpan43
    have HI := Lib.hid hi
    clear hT hm hm9 her hS q1 q2 q4 hpo hrb hi
    go_enter Try.func70, Try.ntmps70
    go_upto_region 1 with fail
    rw [← HW1.out, ← HGT.out]
    go_wp2_with (go_at_call 109; with_reducible refine HA.out.mono ?_; rintro e w2 ⟨rfl, HB2⟩)
    clear r0 r1 r2
    go_loopw [7, 8] (fun u7 u wr => ∃ (k n7 : Nat) (A7 : Option Addr) (c7 : Nat), k ≤ N ∧ u = .int .i64 (k : Int) ∧ u7 = .slice A7 n7 c7 ∧ n7 ≤ k ∧ Hid (n7 = (thR p k).length) ∧ Hid (wr.ownsRow w1.heap.size 43 2 (.slice A7 n7 c7) n7 ((thR p k).flatMap enc2)) ∧ Hid (Below w1.heap.size w1 wr)) (fun _ u _ => N - (intOf u).toNat)
    case atStart => exact ⟨0, 0, none, 0, Nat.zero_le _, rfl, rfl, Nat.zero_le _, Lib.hid rfl, Lib.hid (World.ownsRow_nil _ _ _ _), HB2⟩
    case round =>
      obtain ⟨k, n7, A7, c7, hk, rfl, rfl, hn7, HN, HO, HB⟩ := hrel
      obtain ⟨r0, r1, r2⟩ := HTC.out wr HB.out
      by_cases hlt : k < N
      · obtain ⟨z, hz⟩ : ∃ z, z = ouB p k := ⟨_, rfl⟩
        have HC := Lib.hid (H110.out wr HB.out k hlt z hz)
        cases z
        · have HTN := Lib.hid (thR_no hz.symm)
          clear hz
          go_wp2_with (go_at_call 110; with_reducible refine HC.out.mono ?_; rintro e w5 ⟨rfl, HB5⟩)
          go_roundw
          case rel => exact ⟨k + 1, n7, A7, c7, by omega, by go_num, rfl, by omega, Lib.hid (by rw [HTN.out]; exact HN.out), Lib.hid (by rw [HTN.out]; exact own_belowV HO.out HB5.out), Lib.hid (bstep HB.out HB5.out)⟩
          case measure => simp [intOf]; omega
        · have HTY := Lib.hid (thR_yes hz.symm)
          have hm1 : n7 + 1 ≤ maxLen := by simp only [maxLen]; omega
          have hm2 : (n7 + 1) * 16 ≤ 140737488355328 := by omega
          clear hz
          by_cases hn0 : n7 = 0
          · have HTE := Lib.hid (show thR p k = [] from List.eq_nil_of_length_eq_zero (by rw [← HN.out, hn0]))
            have HTX := Lib.hid (show thR p (k + 1) = thR p k ++ [((k : Int), (k : Int))] by rw [HTY.out, HTE.out, jnS_nil]; rfl)
            have j0 : decide ((n7 : Int) > 0) = false := by simp; omega
            have j1 : decide ((0 : Int) < (n7 : Int)) = false := by simp; omega
            have j1n : decide (0 < n7) = false := by simp; omega
            have j1m : ¬ 0 < n7 := by omega
            clear hn0
            go_upto_region 9 with (go_at_call 110; with_reducible refine HC.out.mono ?_; rintro e w5 ⟨rfl, HB5⟩)
            have HBQ := Lib.hid (bstep HB.out HB5.out)
            have HO5 := Lib.hid (own_belowV HO.out HB5.out)
            have HM3 := Lib.hid (show w1.heap.size ≤ (w5.alloc (.cells #[.int .i64 (k : Int), .int .i64 (k : Int)] 43)).heap.size from by have := HBQ.out.size; simp; omega)
            go_wp2_with (at_builtin; refine wpList_append_own _ rfl (.tmp 46) (.tmp 50) 31 rfl w1.heap.size 43 i0 (.agg #[.int .i64 0, .int .i64 0]) 2 16 Try.underlying31 HI.out hz0 hz1 hz2 rfl (by decide) (.slice A7 n7 c7) n7 ((thR p k).flatMap enc2) rfl (HO5.out.alloc _) ⟨w5.heap.size, 0, none⟩ 1 1 [.int .i64 (k : Int), .int .i64 (k : Int)] rfl rfl (news_of1 w5 43 #[.int .i64 (k : Int), .int .i64 (k : Int)]) (by intro u hu; simp at hu; rcases hu with rfl | rfl <;> rfl) hm1 hm2 HM3.out ?_; intro v9 w9 hown9 hg9 _; obtain ⟨g9', c9, hv9⟩ := ownsRow_succ hown9; subst hv9; have H9 := Lib.hid hown9; have HG9' := Lib.hid hg9; clear hown9 hg9)
            go_roundw
            case rel => exact ⟨k + 1, n7 + 1, some ⟨g9', 0, none⟩, c9, by omega, by go_num, rfl, by omega, Lib.hid (by rw [HTX.out, List.length_append, ← HN.out]; rfl), Lib.hid (by rw [HTX.out, List.flatMap_append]; exact H9.out), Lib.hid ((balR HBQ.out _).grown HG9'.out (balR HBQ.out _).size (fun j hj => (own_at HO5.out hj).2))⟩
            case measure => simp [intOf]; omega
          · obtain ⟨S0, ⟨b1, b2⟩, hSb⟩ : ∃ S0 b, thR p k = S0 ++ [b] := by
              rcases List.eq_nil_or_concat (thR p k) with e | ⟨o, b, e⟩
              · exact absurd HN.out (by rw [e]; simpa using hn0)
              · exact ⟨o, b, by rw [e, List.concat_eq_append]⟩
            have hbb := thR_bd (p := p) (k := k) (s := (b1, b2)) (by rw [hSb]; simp)
            dsimp only at hbb
            have hn1 : S0.length = n7 - 1 := by rw [HN.out, hSb]; simp
            obtain ⟨gq, hgq⟩ : ∃ gq, A7 = some ⟨gq, 0, none⟩ := by
              rcases HO.out.2 with ⟨e0, _⟩ | ⟨g', cap, cur, e0, _⟩
              · injection e0 with _ h _; omega
              · injection e0 with h _ _; exact ⟨_, h⟩
            subst hgq
            have HSB := Lib.hid hSb
            have HTJ := Lib.hid (show thR p (k + 1) = if b2 = (k : Int) - 1 then S0 ++ [(b1, (k : Int))] else thR p k ++ [((k : Int), (k : Int))] from by
              rw [HTY.out, hSb, jnS_snoc]
              dsimp only
              by_cases hk : b2 = (k : Int) - 1
              · rw [if_pos (show (k : Int) ≤ b2 + 1 by omega), if_pos hk, show max b2 (k : Int) = k by omega]
              · rw [if_neg (show ¬ (k : Int) ≤ b2 + 1 by omega), if_neg hk])
            have HLC := Lib.hid (show ∀ X, Below wr.heap.size wr X → X.cell? ⟨gq, (n7 - 1) * 2 + 1, none⟩ = some (.int .i64 b2) ∧ X.frozen? ⟨gq, (n7 - 1) * 2 + 1, none⟩ = false from fun X hX => by
              have ho := own_belowV HO.out hX
              obtain ⟨⟨cs, hcs⟩, -⟩ := own_at ho (g := gq) rfl
              have hbk : Blk X gq 43 cs := hcs
              refine ⟨?_, hbk.frozen _⟩
              have h2 := ho
              rw [hSb] at h2
              have hl2 : n7 = (S0 ++ [(b1, b2)]).length := by rw [List.length_append, hn1]; simp; omega
              rw [hl2] at h2
              obtain ⟨bq, oq, hq1, hq2, hq3, hq4⟩ := Sl.at2 (Sl.of_own (fun _ => rfl) h2 : Sl enc2 2 X X.heap.size (some ⟨gq, 0, none⟩) (S0 ++ [(b1, b2)])) (k := n7 - 1) (by simp; omega)
              injection hq1 with hq1
              injection hq1 with e1 e2
              subst e1 e2
              have hlast : (S0 ++ [(b1, b2)])[n7 - 1]'(by simp; omega) = (b1, b2) := by
                have : (S0 ++ [(b1, b2)])[n7 - 1]? = some (b1, b2) := by rw [← hn1]; simp
                exact (List.getElem?_eq_some_iff.1 this).2
              rw [hlast, Nat.zero_add] at hq4
              exact hq4)
            have HN1 := Lib.hid hn1
            have j0 : decide ((n7 : Int) > 0) = true := by simp; omega
            have j1 : decide ((0 : Int) < (n7 : Int)) = true := by simp; omega
            have j1n : decide (0 < n7) = true := by simp; omega
            have j1m : 0 < n7 := by omega
            have j6 : IntKind.i64.wrap ((k : Int) - 1) = (k : Int) - 1 := by rw [IntKind.wrap_i64]; omega
            have HN0 := Lib.hid hn0
            clear hSb hn1 hn0
            by_cases hbk : b2 = (k : Int) - 1
            · have t1 : (b2 == (k : Int) - 1) = true := by simpa using hbk
              have HTX := Lib.hid (show thR p (k + 1) = S0 ++ [(b1, (k : Int))] from by rw [HTJ.out, if_pos hbk])
              clear hbk
              go_upto_region 9 with (go_at_call 110; with_reducible refine HC.out.mono ?_; rintro e w5 ⟨rfl, HB5⟩)
              have HBQ := Lib.hid (bstep HB.out HB5.out)
              have HO5 := Lib.hid (own_belowV HO.out HB5.out)
              obtain ⟨l0, l1⟩ := HLC.out w5 HB5.out
              have hgqw : w1.heap.size ≤ gq := (own_at HO5.out (g := gq) rfl).2
              have j2 : (0 : Int) ≤ (n7 : Int) - 1 := by have := HN0.out; omega
              have j3 : (1 : Int) ≤ (n7 : Int) := by omega
              have j4 : (n7 : Int) - 1 < (n7 : Int) := by omega
              have j5 : IntKind.i64.wrap ((n7 : Int) - 1) = (n7 : Int) - 1 := by rw [IntKind.wrap_i64]; omega
              have j7 : (1 : Nat) ≤ n7 := by omega
              have HOP := Lib.hid (show (w5.setCell ⟨gq, (n7 - 1) * 2 + 1, none⟩ (.int .i64 (k : Int))).ownsRow w1.heap.size 43 2 (.slice (some ⟨gq, 0, none⟩) n7 c7) n7 ((thR p (k + 1)).flatMap enc2) from by
                have h2 := own_put HO5.out ((n7 - 1) * 2 + 1) (.int .i64 (k : Int))
                rw [HTX.out, ← flat_set1 S0 b1 b2, ← HSB.out, HN1.out]
                exact h2)
              have HGW := Lib.hid hgqw
              have HNX := Lib.hid (show n7 = (thR p (k + 1)).length from by rw [HTX.out, List.length_append, HN1.out]; simp; omega)
              clear hgqw
              go_wp2_with fail
              go_roundw
              case rel => exact ⟨k + 1, n7, some ⟨gq, 0, none⟩, c7, by omega, by go_num, rfl, by omega, HNX, HOP, Lib.hid (bset HBQ.out HGW.out _ _)⟩
              case measure => simp [intOf]; omega
            · have t1 : (b2 == (k : Int) - 1) = false := by simpa using hbk
              have HTX := Lib.hid (show thR p (k + 1) = thR p k ++ [((k : Int), (k : Int))] from by rw [HTJ.out, if_neg hbk])
              clear hbk
              go_upto_region 9 with (go_at_call 110; with_reducible refine HC.out.mono ?_; rintro e w5 ⟨rfl, HB5⟩)
              have HBQ := Lib.hid (bstep HB.out HB5.out)
              have HO5 := Lib.hid (own_belowV HO.out HB5.out)
              obtain ⟨l0, l1⟩ := HLC.out w5 HB5.out
              have j2 : (0 : Int) ≤ (n7 : Int) - 1 := by have := HN0.out; omega
              have j3 : (1 : Int) ≤ (n7 : Int) := by omega
              have j4 : (n7 : Int) - 1 < (n7 : Int) := by omega
              have j5 : IntKind.i64.wrap ((n7 : Int) - 1) = (n7 : Int) - 1 := by rw [IntKind.wrap_i64]; omega
              have j7 : (1 : Nat) ≤ n7 := by omega
              have HM3 := Lib.hid (show w1.heap.size ≤ (w5.alloc (.cells #[.int .i64 (k : Int), .int .i64 (k : Int)] 43)).heap.size from by have := HBQ.out.size; simp; omega)
              go_wp2_with (at_builtin; refine wpList_append_own _ rfl (.tmp 46) (.tmp 50) 31 rfl w1.heap.size 43 i0 (.agg #[.int .i64 0, .int .i64 0]) 2 16 Try.underlying31 HI.out hz0 hz1 hz2 rfl (by decide) (.slice (some ⟨gq, 0, none⟩) n7 c7) n7 ((thR p k).flatMap enc2) rfl (HO5.out.alloc _) ⟨w5.heap.size, 0, none⟩ 1 1 [.int .i64 (k : Int), .int .i64 (k : Int)] rfl rfl (news_of1 w5 43 #[.int .i64 (k : Int), .int .i64 (k : Int)]) (by intro u hu; simp at hu; rcases hu with rfl | rfl <;> rfl) hm1 hm2 HM3.out ?_; intro v9 w9 hown9 hg9 _; obtain ⟨g9', c9, hv9⟩ := ownsRow_succ hown9; subst hv9; have H9 := Lib.hid hown9; have HG9' := Lib.hid hg9; clear hown9 hg9)
              go_roundw
              case rel => exact ⟨k + 1, n7 + 1, some ⟨g9', 0, none⟩, c9, by omega, by go_num, rfl, by omega, Lib.hid (by rw [HTX.out, List.length_append, ← HN.out]; rfl), Lib.hid (by rw [HTX.out, List.flatMap_append]; exact H9.out), Lib.hid ((balR HBQ.out _).grown HG9'.out (balR HBQ.out _).size (fun j hj => (own_at HO5.out hj).2))⟩
              case measure => simp [intOf]; omega
      · obtain rfl : k = N := by omega
        have HSL := Lib.hid (show Sl enc2 2 wr wr.heap.size A7 S from by
          rw [HS.out]
          have h := HO.out
          rw [HN.out] at h
          exact Sl.of_own (fun _ => rfl) h)
        have HSN := Lib.hid (show S.length = n7 from by rw [HS.out, HN.out])
        go_wp2_with fail
        go_ret2
        rw [HSN.out]
        exact ⟨A7, c7, rfl, HSL, Lib.hid (HB1.out.trans (HB.out.mono HB1.out.size))⟩
  · have ht : (er != 0) = true := by simpa using hz
    rw [if_pos hz] at hS
    subst hS
    have HNIL := Lib.hid (fun (W : World) => (Sl.nil : Sl enc2 2 W W.heap.size none []))
    clear hT hm hm9 her hz
    go_enter Try.func70, Try.ntmps70
    go_upto_region 1 with fail
    rw [← HW1.out, ← HGT.out]
    go_wp2_with (go_at_call 109; with_reducible refine HA.out.mono ?_; rintro e w2 ⟨rfl, HB2⟩)
    go_ret2
    exact ⟨none, 0, rfl, Lib.hid (HNIL.out _), Lib.hid (HB1.out.trans (HB2.out.mono HB1.out.size))⟩
set_option maxRecDepth 20000 in
set_option maxHeartbeats 8000000 in
theorem rrun_any (p : PrsD) (A : Option Addr) (c m : Nat) (ms : List WebM) (w : World) (hT : PrsAt w w.heap.size p A ms) (hm : m = ms.length) (hm9 : m ≤ 1000000) (g : Int) (x1 x2 : Int) (hr : (x1, x2) = runP p g) :
    Calls Try.prog 71 #[.agg #[.int .i64 p.cut, .int .i64 p.margin, .slice A m c], .int .i64 g] w fun e w' => e = .returned (.tuple #[.int .i64 x1, .int .i64 x2]) ∧ Hid (Below w.heap.size w w') := by
  obtain ⟨w1, gT, HW1, HGT, HB1, HTP, HTC⟩ := mp_box 131 p w A c ms w hT m hm
  obtain ⟨r0, r1, r2⟩ := HTC.out w1 (Below.refl _ _)
  obtain ⟨e0, he0⟩ : ∃ e, e = errP p := ⟨_, rfl⟩
  have HA := Lib.hid (rcheck_any p A c m ms w1 (HTP.out w1 (Below.refl _ _)) hm hm9 e0 he0)
  by_cases hz : e0 = 0
  · have hp0 : errP p = 0 := he0.symm.trans hz
    have hpo := prs_ok hp0
    subst hz
    obtain ⟨b, hb⟩ : ∃ b, b = inB g 0 1000000 := ⟨_, rfl⟩
    have H1 := Lib.hid (fun W => rin_val _ _ _ b hb W)
    cases b
    · rw [runP_rng hp0 hb.symm] at hr
      injection hr with hr1 hr2
      subst hr1 hr2
      clear hT hm hm9 he0 hpo hb hp0
      go_enter Try.func71, Try.ntmps71
      go_upto_region 1 with fail
      rw [← HW1.out, ← HGT.out]
      go_wp2_with first
        | (go_at_call 67; with_reducible refine HA.out.mono ?_; rintro e w2 ⟨rfl, HB2⟩; clear r0 r1 r2; obtain ⟨r0, r1, r2⟩ := HTC.out w2 HB2.out)
        | (go_at_call 100; with_reducible refine (H1.out _).mono ?_; rintro e wz ⟨rfl, rfl⟩)
      go_ret2
      exact ⟨rfl, Lib.hid (HB1.out.trans (HB2.out.mono HB1.out.size))⟩
    · obtain ⟨hg0, hg1⟩ := inB_iff.1 hb.symm
      obtain ⟨G, rfl⟩ : ∃ G : Nat, g = (G : Int) := ⟨g.toNat, by omega⟩
      have hrb := rch_bd hp0
      have H107 := Lib.hid (fun W (hb : Below w1.heap.size w1 W) => rreach_any p A c m ms W hpo (HTP.out W hb) hm)
      obtain ⟨R, hR⟩ : ∃ R : Nat, (R : Int) = rchP p := ⟨(rchP p).toNat, by omega⟩
      rw [← hR] at H107
      have H110 := Lib.hid (fun W (hb : Below w1.heap.size w1 W) (k : Nat) (hk : k < R) (z : Bool) hz => rout_any p A c m ms W hpo (HTP.out W hb) hm (k : Int) (by omega) (by omega) z hz)
      have HGS := Lib.hid (show ∀ k : Nat, k < R → goodN p ((k + 1 : Nat) : Int) = goodN p k + (if ouB p k = true then 0 else 1) from fun k hk => by
        have h1 := good_s p k
        rw [ou_out hp0 (by omega) (by omega)] at h1
        rw [show ((k + 1 : Nat) : Int) = (k : Int) + 1 by omega, h1])
      have HRE := Lib.hid (show ∀ k : Nat, 0 < (G : Int) → k ≤ R → goodN p k = (G : Int) → (∀ j : Nat, j < k → goodN p j < (G : Int)) → x1 = (k : Int) ∧ x2 = 0 from fun k h0 hk h1 h2 => by
        rw [runP_end hp0 h0 hg1 (by omega) h1 h2] at hr
        injection hr with a b
        exact ⟨a, b⟩)
      have HRN := Lib.hid (show 0 < (G : Int) → goodN p R < (G : Int) → x1 = 0 ∧ x2 = 70 from fun h0 h1 => by
        rw [hR] at h1
        rw [runP_no hp0 h0 hg1 h1] at hr
        injection hr with a b
        exact ⟨a, b⟩)
      have HR0 := Lib.hid (show G = 0 → x1 = 0 ∧ x2 = 0 from fun h => by
        subst h
        rw [show ((0 : Nat) : Int) = 0 from rfl, runP_zero hp0] at hr
        injection hr with a b
        exact ⟨a, b⟩)
      have HG0 := Lib.hid (good_0 p)
      have hR6 : R ≤ 1000000 := by omega
      have hG6 : G ≤ 1000000 := by omega
      clear hT hm hm9 he0 hpo hb hp0 hr hrb hR hg0 hg1
      go_enter Try.func71, Try.ntmps71
      go_upto_region 1 with fail
      rw [← HW1.out, ← HGT.out]
      go_wp2_with first
        | (go_at_call 67; with_reducible refine HA.out.mono ?_; rintro e w2 ⟨rfl, HB2⟩; clear r0 r1 r2; obtain ⟨r0, r1, r2⟩ := HTC.out w2 HB2.out)
        | (go_at_call 100; with_reducible refine (H1.out _).mono ?_; rintro e wz ⟨rfl, rfl⟩)
        | (go_at_call 107; with_reducible refine (H107.out _ HB2.out).mono ?_; rintro e w3 ⟨rfl, HB3⟩; have HB23 := Lib.hid (bstep HB2.out HB3.out))
      clear r0 r1 r2
      go_loopw [1, 7, 9] (fun u1 u7 u wr => ∃ (k : Nat) (a : Int), k ≤ R ∧ u = .int .i64 (k : Int) ∧ u7 = .int .i64 (k : Int) ∧ u1 = .int .i64 a ∧ Hid (a = (G : Int) - goodN p k) ∧ (0 ≤ a ∧ a ≤ G) ∧ Hid (∀ j : Nat, j < k → goodN p j < (G : Int)) ∧ Hid (Below w1.heap.size w1 wr)) (fun _ _ u _ => R + 1 - (intOf u).toNat)
      case atStart => exact ⟨0, (G : Int), Nat.zero_le _, rfl, rfl, rfl, Lib.hid (by have := HG0.out; simp; omega), ⟨by omega, Int.le_refl _⟩, Lib.hid (fun j h => by omega), HB23⟩
      case round =>
        obtain ⟨k, a, hk, rfl, rfl, rfl, HA2, hag, HL, HB⟩ := hrel
        obtain ⟨r0, r1, r2⟩ := HTC.out wr HB.out
        by_cases ha : 0 < a
        · have t0 : decide ((a : Int) > 0) = true := by simp; omega
          have t0' : decide ((0 : Int) < (a : Int)) = true := by simp; omega
          have t0n : decide (0 < a) = true := by simp; omega
          by_cases hlt : k < R
          · obtain ⟨z, hz⟩ : ∃ z, z = ouB p k := ⟨_, rfl⟩
            have HC := Lib.hid (H110.out wr HB.out k hlt z hz)
            have hgs := HGS.out k hlt
            rw [← hz] at hgs
            have t1 : decide ((k : Int) ≥ (R : Int)) = false := by simp; omega
            have t1' : decide ((R : Int) ≤ (k : Int)) = false := by simp; omega
            have s1 : IntKind.i64.wrap ((k : Int) + 1) = (k : Int) + 1 := by rw [IntKind.wrap_i64]; omega
            have HS1 := Lib.hid s1
            have s2 : IntKind.i64.wrap (a - 1) = a - 1 := by rw [IntKind.wrap_i64]; omega
            have HL2 := Lib.hid (show ∀ j : Nat, j < k + 1 → goodN p j < (G : Int) from fun j hj => by
              by_cases e : j = k
              · subst e; have := HA2.out; omega
              · exact HL.out j (by omega))
            cases z
            · have HA3 := Lib.hid (show a - 1 = (G : Int) - goodN p ((k + 1 : Nat) : Int) by rw [hgs]; have := HA2.out; simp; omega)
              clear hz hgs
              go_wp2_with (go_at_call 110; with_reducible refine HC.out.mono ?_; rintro e w5 ⟨rfl, HB5⟩)
              go_roundw
              case rel => exact ⟨k + 1, a - 1, by omega, by go_num, by go_num, rfl, HA3, by omega, HL2, Lib.hid (bstep HB.out HB5.out)⟩
              case measure => simp [intOf, HS1.out]; omega
            · have HA3 := Lib.hid (show a = (G : Int) - goodN p ((k + 1 : Nat) : Int) by rw [hgs]; have := HA2.out; simp; omega)
              clear hz hgs
              go_wp2_with (go_at_call 110; with_reducible refine HC.out.mono ?_; rintro e w5 ⟨rfl, HB5⟩)
              go_roundw
              case rel => exact ⟨k + 1, a, by omega, by go_num, by go_num, rfl, HA3, hag, HL2, Lib.hid (bstep HB.out HB5.out)⟩
              case measure => simp [intOf, HS1.out]; omega
          · obtain rfl : k = R := by omega
            have t1 : decide ((k : Int) ≥ (k : Int)) = true := by simp
            obtain ⟨hx1, hx2⟩ := HRN.out (by omega) (by have := HA2.out; omega)
            subst hx1 hx2
            go_wp2_with fail
            go_ret2
            exact ⟨rfl, Lib.hid (HB1.out.trans (HB.out.mono HB1.out.size))⟩
        · obtain rfl : a = 0 := by omega
          have HX := Lib.hid (show x1 = (k : Int) ∧ x2 = 0 from by
            by_cases hG : G = 0
            · subst hG
              obtain ⟨hx1, hx2⟩ := HR0.out rfl
              have hk0 : k = 0 := by
                rcases Nat.eq_zero_or_pos k with h | h
                · exact h
                · have := HL.out 0 h; have := HG0.out; simp at *; omega
              subst hk0
              exact ⟨by rw [hx1]; rfl, hx2⟩
            · exact HRE.out k (by omega) hk (by have := HA2.out; omega) HL.out)
          obtain ⟨hx1, hx2⟩ := HX.out
          subst hx1 hx2
          clear HX
          go_wp2_with fail
          go_ret2
          exact ⟨rfl, Lib.hid (HB1.out.trans (HB.out.mono HB1.out.size))⟩
  · have ht : (e0 != 0) = true := by simpa using hz
    rw [runP_bad (by rw [← he0]; exact hz), ← he0] at hr
    injection hr with hr1 hr2
    subst hr1 hr2
    clear hT hm hm9 hz he0
    go_enter Try.func71, Try.ntmps71
    go_upto_region 1 with fail
    rw [← HW1.out, ← HGT.out]
    go_wp2_with (go_at_call 67; with_reducible refine HA.out.mono ?_; rintro e w2 ⟨rfl, HB2⟩)
    go_ret2
    exact ⟨rfl, Lib.hid (HB1.out.trans (HB2.out.mono HB1.out.size))⟩
end Go.Proofs.Ytnbnfadmbggfnaa
