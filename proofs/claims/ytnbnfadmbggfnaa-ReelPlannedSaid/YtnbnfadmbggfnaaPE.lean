/- The search's closure at a whole plan; conditions: the search's memory. Printed by a program. -/
import Derived.Test.YtnbnfadmbggfnaaPD
set_option linter.unusedSimpArgs false
set_option linter.unusedVariables false
namespace Go.Proofs.Ytnbnfadmbggfnaa
open Go.RowKit Go.Fh Go.Rl
theorem noGoto_ret {Q : Exit → Act → World → Prop} {a : Act} {w : World} (h : Q .ret a w) : Exit.noGoto Q .ret a w := h
theorem left_bd {st : List ReelD} {ns : List (Int × Int)} (h : StoOk st ns) {l : List Int} (hl : l.length ≤ 10) {s : Nat} (hs : s < ns.length) : -300000000 ≤ leftF st ns l s ∧ leftF st ns l s ≤ 1000000000 := by
  have hr := erW_right h.er
  have h1 := sumN_bd (f := fun i => if nd l i = (s : Int) then giv (st.getD i rl0) else 0) (n := l.length) (B := 20000000) (fun i _ => by
    split
    · by_cases hi : i < st.length
      · have e : st.getD i rl0 = st[i] := by simp [List.getD_eq_getElem?_getD, hi]
        have := hr _ (List.getElem_mem hi)
        have a := this.c0
        have b := this.c1
        have d := this.l1
        rw [e]; unfold giv; omega
      · have e : st.getD i rl0 = rl0 := by simp [List.getD_eq_getElem?_getD, List.getElem?_eq_none (Nat.le_of_not_lt hi)]
        rw [e]; unfold giv rl0; simp
    · omega)
  have h2 := h.nb _ (List.getElem_mem hs)
  have e : ns.getD s (0, 0) = ns[s] := by simp [List.getD_eq_getElem?_getD, hs]
  unfold leftF
  rw [e]
  have : (20000000 : Int) * l.length ≤ 200000000 := by omega
  omega
theorem fit_any {st : List ReelD} {ns : List (Int × Int)} {l : List Int} {m : Nat} (hm : ns.length = m) : ((upF (leftF st ns l) m).any fun v => decide (0 < v)) = !fitP st ns l := by
  unfold fitP upF
  rw [hm, List.any_map]
  induction List.range m with
  | nil => rfl
  | cons a t ih =>
    rw [List.any_cons, List.all_cons, ih]
    by_cases hh : leftF st ns l a ≤ 0
    · simp [hh, show ¬ 0 < leftF st ns l a by omega]
    · simp [hh, show 0 < leftF st ns l a by omega]
set_option maxRecDepth 20000 in
set_option maxHeartbeats 4000000 in
theorem try_more (st : List ReelD) (ns : List (Int × Int)) (h : StoOk st ns) (wk : World) (A An : Option Addr) (c cn N m : Nat) (hA : Sl encReel 4 wk wk.heap.size A st) (hB : Sl enc2 2 wk wk.heap.size An ns) (hN : st.length = N) (hm : ns.length = m) (B gN gF gB gS gL gD gT gR : Nat) (l : List Int) (b : Option PlT) (u y : Int) (F : Nat → Int) (v vb : Value) (ub bb : Int) (W : World) (hM : SeaM wk B gN gF gB gS gL gD gT gR (.slice A N c) (.slice An m cn) m l u y F b v vb ub bb W) (hb : moreP b u = true) :
    Calls Try.prog 114 #[.pointer (some ⟨gN, 0, none⟩), .pointer (some ⟨gF, 0, none⟩), .pointer (some ⟨gB, 0, none⟩), .pointer (some ⟨gS, 0, none⟩), .pointer (some ⟨gL, 0, none⟩), .pointer (some ⟨gD, 0, none⟩), .pointer (some ⟨gT, 0, none⟩)] W fun e W' => (∃ r, e = .returned r) ∧ W = W' := by
  cases b with
  | none => cases hb
  | some z =>
    have hu : ub < u := by have := (hM.best z rfl).2.1; have h2 : z.2.1 < u := by simpa [moreP] using hb
                           omega
    have HM := Lib.hid hM
    obtain ⟨Av, cv, hv⟩ := own_shape hM.row
    subst hv
    have n0 := HM.out.kN.cell 0; have n1 := HM.out.kN.cell 1; have n2 := HM.out.kN.cell 2; have ff := HM.out.kF.cell 0; have b0 := HM.out.kB.cell 0; have b1 := HM.out.kB.cell 1; have b2 := HM.out.kB.cell 2; have ss := HM.out.kS.cell 0; have ll := HM.out.kL.cell 0; have dd := HM.out.kD.cell 0; have tt := HM.out.kT.cell 0; simp at n0 n1 n2 ff b0 b1 b2 ss ll dd tt
    clear hM hb
    go_enter Try.func114, Try.ntmps114
    go_step3
    go_wp2_with fail
    refine noGoto_ret ?_
    refine bodyPost_ret (results_none rfl _ _ _) rfl ?_
    exact ⟨⟨_, rfl⟩, rfl⟩
set_option maxRecDepth 20000 in
set_option maxHeartbeats 8000000 in
theorem try_full (st : List ReelD) (ns : List (Int × Int)) (h : StoOk st ns) (wk : World) (A An : Option Addr) (c cn N m : Nat) (hA : Sl encReel 4 wk wk.heap.size A st) (hB : Sl enc2 2 wk wk.heap.size An ns) (hN : st.length = N) (hm : ns.length = m) (B gN gF gB gS gL gD gT gR : Nat) (l : List Int) (b : Option PlT) (y : Int) (v vb : Value) (ub bb : Int) (W : World) (hM : SeaM wk B gN gF gB gS gL gD gT gR (.slice A N c) (.slice An m cn) m l (usedL l) y (leftF st ns l) b v vb ub bb W) (hb : moreP b (usedL l) = false) (hl : l.length = N) :
    Calls Try.prog 114 #[.pointer (some ⟨gN, 0, none⟩), .pointer (some ⟨gF, 0, none⟩), .pointer (some ⟨gB, 0, none⟩), .pointer (some ⟨gS, 0, none⟩), .pointer (some ⟨gL, 0, none⟩), .pointer (some ⟨gD, 0, none⟩), .pointer (some ⟨gT, 0, none⟩)] W fun e W' => (∃ r, e = .returned r) ∧ ∃ y v vb ub bb, SeaM wk B gN gF gB gS gL gD gT gR (.slice A N c) (.slice An m cn) m l (usedL l) y (leftF st ns l) (if fitP st ns l = true ∧ betP b (plOf st ns l) = true then some (plOf st ns l) else b) v vb ub bb W' := by
  obtain ⟨Av, cv, hv⟩ := own_shape hM.row
  subst hv
  obtain ⟨Ab, nb, cb, hvb⟩ : ∃ Ab nb cb, vb = .slice Ab nb cb := by
    cases b with
    | none => exact ⟨none, 0, 0, hM.vbo rfl⟩
    | some z => obtain ⟨q1, q2, q3⟩ := own_shape (hM.best z rfl).1
                exact ⟨q1, _, q2, q3⟩
  subst hvb
  have HZB := Lib.hid (show ∀ z, b = some z → nb = z.1.length from fun z hz => by
    rcases (hM.best z hz).1.2 with ⟨e, _⟩ | ⟨g, cap, cur, e, _⟩
    · have h1 := (hM.best z hz).1.1
      injection e with e1 e2 e3
      simp at h1
      omega
    · injection e with e1 e2 e3)
  rw [hl] at hM
  have hN10 : N ≤ 10 := by rw [← hN]; exact h.n
  have hm3 : m ≤ 3 := by rw [← hm]; exact h.m2
  have HLB := Lib.hid (show ∀ s, s < m → -300000000 ≤ leftF st ns l s ∧ leftF st ns l s ≤ 1000000000 from fun s hs => left_bd h (by omega) (by omega))
  have HFA := Lib.hid (fit_any (st := st) (l := l) hm)
  have HUB := Lib.hid (usedL_bd l)
  have HMB := Lib.hid (show b.isSome = true → ¬ ub < usedL l from fun hh => by
    cases b with
    | none => cases hh
    | some z => have := (hM.best z rfl).2.1; have h2 : ¬ z.2.1 < usedL l := by simpa [moreP] using hb
                omega)
  have HBN := Lib.hid hb
  have HMM := Lib.hid hm
  have HLN := Lib.hid hl
  have HM := Lib.hid hM
  obtain ⟨RB, hRB⟩ : ∃ r, r = (if fitP st ns l = true ∧ betP b (plOf st ns l) = true then some (plOf st ns l) else b) := ⟨_, rfl⟩
  rw [← hRB]
  have HRB := Lib.hid hRB
  clear hRB
  obtain ⟨fb, hfb⟩ : ∃ f, f = b.isSome := ⟨_, rfl⟩
  obtain ⟨F, hF⟩ : ∃ F, F = leftF st ns l := ⟨_, rfl⟩
  obtain ⟨u, hu⟩ : ∃ u, u = usedL l := ⟨_, rfl⟩
  have n0 := HM.out.kN.cell 0; have n1 := HM.out.kN.cell 1; have n2 := HM.out.kN.cell 2; have ff := HM.out.kF.cell 0; have b0 := HM.out.kB.cell 0; have b1 := HM.out.kB.cell 1; have b2 := HM.out.kB.cell 2; have ss := HM.out.kS.cell 0; have ll := HM.out.kL.cell 0; have dd := HM.out.kD.cell 0; have tt := HM.out.kT.cell 0; simp at n0 n1 n2 ff b0 b1 b2 ss ll dd tt
  rw [← hfb] at ff HMB
  rw [← hu] at n1 HMB HUB
  have HFB := Lib.hid hfb
  have HF := Lib.hid hF
  have HU := Lib.hid hu
  clear hM hb hfb hF hu hA hB hN hm hl
  go_enter Try.func114, Try.ntmps114
  go_step3
  go_upto_region 1 with fail
  go_cut [21] (fun p wx => p = .bool false ∧ wx = W)
  case first =>
    cases fb
    · go_wp2_with fail
      go_meet
      exact ⟨by simp, rfl⟩
    · have hnu := HMB.out rfl
      go_wp2_with fail
      go_meet
      exact ⟨by simp, rfl⟩
  case rest =>
    obtain ⟨rfl, hwc⟩ := hcut
    rw [hwc]
    clear hwc
    have HM2 := Lib.hid (show SeaM wk B gN gF gB gS gL gD gT gR (.slice A N c) (.slice An m cn) m l u y F b (.slice Av N cv) (.slice Ab nb cb) ub bb W from by rw [HU.out, HF.out]; exact HM.out)
    have HUPS := Lib.hid (show Sl encInt 1 W W.heap.size (some ⟨gR, 0, none⟩) (upF F m) from HM2.out.left.sl)
    have H56 := Lib.hid (show Calls Try.prog 56 #[.slice (some ⟨gR, 0, none⟩) m m, .func (.func 115) #[] #[]] W fun e w' => e = .returned (.bool (!fitP st ns l)) ∧ Below W.heap.size W w' from by
      have hl2 : (upF F m).length = m := upF_len _ _
      have := bP5_any (some ⟨gR, 0, none⟩) m (upF F m) W (by rw [hl2]; omega) HUPS.out
      rw [hl2] at this
      rw [show ((upF F m).any fun v => decide (0 < v)) = !fitP st ns l from by rw [HF.out]; exact HFA.out] at this
      exact this)
    obtain ⟨ft, hft⟩ : ∃ f, f = fitP st ns l := ⟨_, rfl⟩
    rw [← hft] at H56
    have HFT := Lib.hid hft
    have tN : ((N : Int) == (N : Int)) = true := by simp
    clear hft HUPS
    cases ft
    · go_wp2_with (go_at_call 56; with_reducible refine H56.out.mono ?_; rintro e w5 ⟨rfl, hb5⟩; have HB5 := Lib.hid hb5; clear hb5)
      (first | refine noGoto_ret ?_ | skip)
      refine bodyPost_ret (results_none rfl _ _ _) rfl ?_
      exact ⟨⟨_, rfl⟩, y, _, _, ub, bb, by rw [HRB.out, if_neg (by rw [← HFT.out]; simp), ← HU.out, ← HF.out]; exact HM2.out.below HB5.out⟩
    · go_upto_region 4 with (go_at_call 56; with_reducible refine H56.out.mono ?_; rintro e w5 ⟨rfl, hb5⟩; have HM5 := Lib.hid (HM2.out.below hb5); clear hb5)
      clear n0 n1 n2 ff b0 b1 b2 ss ll dd tt
      have n0 := HM5.out.kN.cell 0; have n1 := HM5.out.kN.cell 1; have n2 := HM5.out.kN.cell 2; have ff := HM5.out.kF.cell 0; have b0 := HM5.out.kB.cell 0; have b1 := HM5.out.kB.cell 1; have b2 := HM5.out.kB.cell 2; have ss := HM5.out.kS.cell 0; have ll := HM5.out.kL.cell 0; have dd := HM5.out.kD.cell 0; have tt := HM5.out.kT.cell 0; simp at n0 n1 n2 ff b0 b1 b2 ss ll dd tt; rw [← HFB.out] at ff
      have g2 := HM5.out.kN.frozen 2
      go_upto_region 5 with fail
      obtain ⟨w6, hw6⟩ : ∃ W', W' = w5.setCell ⟨gN, 2, none⟩ (.int .i64 0) := ⟨_, rfl⟩
      rw [← hw6]
      have HM6 := Lib.hid (show SeaM wk B gN gF gB gS gL gD gT gR (.slice A N c) (.slice An m cn) m l u 0 F b (.slice Av N cv) (.slice Ab nb cb) ub bb w6 from by rw [hw6]; exact HM5.out.setY 0)
      clear hw6 n0 n1 n2 ff b0 b1 b2 ss ll dd tt g2
      have n0 := HM6.out.kN.cell 0; have n1 := HM6.out.kN.cell 1; have n2 := HM6.out.kN.cell 2; have ff := HM6.out.kF.cell 0; have b0 := HM6.out.kB.cell 0; have b1 := HM6.out.kB.cell 1; have b2 := HM6.out.kB.cell 2; have ss := HM6.out.kS.cell 0; have ll := HM6.out.kL.cell 0; have dd := HM6.out.kD.cell 0; have tt := HM6.out.kT.cell 0; simp at n0 n1 n2 ff b0 b1 b2 ss ll dd tt; rw [← HFB.out] at ff
      go_wp2_with fail
      clear n0 n1 n2 ff b0 b1 b2 ss ll dd tt
      go_loopw [31] (fun q wr => ∃ (k : Nat) (y : Int), k ≤ m ∧ q = .int .i64 k ∧ Hid (y = sumN (fun s => - F s) k) ∧ Hid (SeaM wk B gN gF gB gS gL gD gT gR (.slice A N c) (.slice An m cn) m l u y F b (.slice Av N cv) (.slice Ab nb cb) ub bb wr)) (fun q _ => m - (intOf q).toNat)
      case atStart => exact ⟨0, 0, Nat.zero_le _, rfl, Lib.hid rfl, HM6⟩
      case round =>
        clear HM6
        obtain ⟨k, y, hk, rfl, HY, HM7⟩ := hrel
        have hyb : -3000000000 ≤ y ∧ y ≤ 900000000 := by
          have : ∀ k, k ≤ m → -1000000000 * (k : Int) ≤ sumN (fun s => - F s) k ∧ sumN (fun s => - F s) k ≤ 300000000 * (k : Int) := by
            intro k
            induction k with
            | zero => intro _; simp [sumN]
            | succ k ih => intro hk; have := ih (by omega); have h2 := HLB.out k (by omega); rw [← HF.out] at h2; rw [sumN]; push_cast; omega
          have h2 := this k hk
          rw [← HY.out] at h2
          omega
        by_cases hlt : k < m
        · have d0 := HM7.out.left.cell hlt
          have hfb := HLB.out k hlt
          rw [← HF.out] at hfb
          obtain ⟨fk, hfk⟩ : ∃ f, f = F k := ⟨_, rfl⟩
          rw [← hfk] at d0 hfb
          have HFK := Lib.hid hfk
          have i0 : (0 : Int) ≤ (k : Int) := by omega
          have i1 : (k : Int) < (m : Int) := by omega
          have ws : wrap64 (y - fk) = y - fk := by unfold wrap64; omega
          have ws2 : IntKind.i64.wrap (y - fk) = y - fk := by rw [IntKind.wrap_i64]; omega
          have n0 := HM7.out.kN.cell 0; have n1 := HM7.out.kN.cell 1; have n2 := HM7.out.kN.cell 2; have ff := HM7.out.kF.cell 0; have b0 := HM7.out.kB.cell 0; have b1 := HM7.out.kB.cell 1; have b2 := HM7.out.kB.cell 2; have ss := HM7.out.kS.cell 0; have ll := HM7.out.kL.cell 0; have dd := HM7.out.kD.cell 0; have tt := HM7.out.kT.cell 0; simp at n0 n1 n2 ff b0 b1 b2 ss ll dd tt; rw [← HFB.out] at ff
          have g2 := HM7.out.kN.frozen 2
          clear hfk
          go_wp2_with fail
          go_roundw
          case rel => exact ⟨k + 1, y - fk, by omega, by go_num, Lib.hid (by rw [sumN, ← HY.out, ← HFK.out]; omega), Lib.hid (HM7.out.setY (y - fk))⟩
          case measure => simp [intOf]; omega
        · obtain rfl : m = k := by omega
          have HYB := Lib.hid (show y = beyL st ns l from by rw [HY.out]; unfold beyL; rw [HMM.out, HF.out])
          obtain ⟨W8, hW8⟩ : ∃ W', W' = wr := ⟨_, rfl⟩
          rw [← hW8] at HM7 ⊢
          clear hW8 hyb
          have n0 := HM7.out.kN.cell 0; have n1 := HM7.out.kN.cell 1; have n2 := HM7.out.kN.cell 2; have ff := HM7.out.kF.cell 0; have b0 := HM7.out.kB.cell 0; have b1 := HM7.out.kB.cell 1; have b2 := HM7.out.kB.cell 2; have ss := HM7.out.kS.cell 0; have ll := HM7.out.kL.cell 0; have dd := HM7.out.kD.cell 0; have tt := HM7.out.kT.cell 0; simp at n0 n1 n2 ff b0 b1 b2 ss ll dd tt; rw [← HFB.out] at ff
          have HSX := Lib.hid (show Sl encInt 1 W8 W8.heap.size Av l from own_sl (c := cv) (B := B) (by have := HM7.out.row; rw [HLN.out] at this ⊢; exact this))
          obtain ⟨tk, htk⟩ : ∃ q, q = betP b (plOf st ns l) := ⟨_, rfl⟩
          have HTK := Lib.hid htk
          have HT0 := Lib.hid (show fb = false → tk = true from fun e => by
            rw [htk]
            cases b with
            | none => rfl
            | some z => rw [HFB.out] at e; cases e)
          have H79 := Lib.hid (show fb = true → Calls Try.prog 79 #[.agg #[.slice Av N cv, .int .i64 u, .int .i64 y], .agg #[.slice Ab nb cb, .int .i64 ub, .int .i64 bb]] W8 fun e w' => e = .returned (.bool tk) ∧ Hid (Below W8.heap.size W8 w') from fun e => by
            cases hb : b with
            | none => rw [HFB.out, hb] at e; cases e
            | some z =>
              obtain ⟨h1, h2, h3⟩ := HM7.out.best z hb
              have hz := HZB.out z hb
              have h9 := less79_any Av Ab cv cb N nb (l, u, y) z W8 HLN.out hz.symm (by omega) (by have := h1.2; rcases this with ⟨q, _⟩ | ⟨g, cap, cur, q, _, _, q2, q3, _⟩; (injection q with q1 q2 q3; omega); (simp only [maxLen] at q3; omega)) HSX.out (own_sl (c := cb) (B := B) (by rw [hz] at h1; exact h1))
              rw [← h2, ← h3] at h9
              rw [htk, hb, HU.out, HYB.out] at *
              exact h9)
          clear htk
          go_upto_region 10 with fail
          go_cut [47] (fun q wx => q = .bool tk ∧ Hid (Below W8.heap.size W8 wx))
          case first =>
            cases fb
            · have h1 := HT0.out rfl
              subst h1
              go_wp2_with fail
              go_meet
              exact ⟨rfl, Lib.hid (Below.refl _ _)⟩
            · have h79 := Lib.hid (H79.out rfl)
              go_wp2_with (go_at_call 79; with_reducible refine h79.out.mono ?_; rintro e w9 ⟨rfl, hb9⟩)
              go_meet
              exact ⟨by simp, hb9⟩
          case rest =>
            obtain ⟨rfl, HB9⟩ := hcut
            obtain ⟨W9, hW9⟩ : ∃ W', W' = wc := ⟨_, rfl⟩
            rw [← hW9] at HB9 ⊢
            have HM9 := Lib.hid (HM7.out.below HB9.out)
            clear hW9 n0 n1 n2 ff b0 b1 b2 ss ll dd tt H79 HT0 HSX
            have n0 := HM9.out.kN.cell 0; have n1 := HM9.out.kN.cell 1; have n2 := HM9.out.kN.cell 2; have ff := HM9.out.kF.cell 0; have b0 := HM9.out.kB.cell 0; have b1 := HM9.out.kB.cell 1; have b2 := HM9.out.kB.cell 2; have ss := HM9.out.kS.cell 0; have ll := HM9.out.kL.cell 0; have dd := HM9.out.kD.cell 0; have tt := HM9.out.kT.cell 0; simp at n0 n1 n2 ff b0 b1 b2 ss ll dd tt; rw [← HFB.out] at ff
            cases tk
            · go_wp2_with fail
              (first | refine noGoto_ret ?_ | skip)
              refine bodyPost_ret (results_none rfl _ _ _) rfl ?_
              exact ⟨⟨_, rfl⟩, y, _, _, ub, bb, by rw [HRB.out, if_neg (by rw [← HTK.out]; simp), ← HU.out, ← HF.out]; exact HM9.out⟩
            · go_upto_region 11 with fail
              refine wp_region_noPanic ?_
              refine wp_region_T (S := (fun X => X.cell? ⟨gN, 0, none⟩ = some (.slice Av N cv) ∧ X.cell? ⟨gN, 1, none⟩ = some (.int .i64 u) ∧ X.cell? ⟨gN, 2, none⟩ = some (.int .i64 y))) (T := (fun _ => True)) 8 (by kernel_rfl) ?_ (fun hHeld hHeldT => ?_)
              · (try dsimp only); (exact ⟨⟨n0, n1, n2⟩, trivial⟩)
              obtain ⟨x0, hx0⟩ : ∃ W, W = W9.drew := ⟨_, rfl⟩
              have HMx := Lib.hid (HM9.out.below ((Below.refl W9.heap.size W9).drew))
              rw [← hx0] at hHeld HMx ⊢
              have HCL := Lib.hid (show Calls Try.prog 58 #[.slice Av N cv] x0 fun e w' => ∃ A' c', e = .returned (.slice A' N c') ∧ Hid (w'.ownsRow x0.heap.size 3 1 (.slice A' N c') N (rowV l)) ∧ Hid (Below x0.heap.size x0 w') from by
                have h9 := cloneOwn_any Av cv l x0 (by have := HLN.out; omega) (own_sl (c := cv) (B := B) (by have := HMx.out.row; rw [HLN.out] at this ⊢; exact this))
                rw [HLN.out] at h9
                exact h9.mono (by rintro e w' ⟨q1, q2, rfl, h1, h2⟩; exact ⟨q1, q2, rfl, Lib.hid h1, Lib.hid h2⟩))
              clear hx0
              refine wpAnyT_takeW (i := 0) (v := ?_) (some 48) rfl rfl (by kernel_rfl) (by kernel_rfl) (by kernel_rfl) (by kernel_rfl) (fun _ _ _ h => h) (Or.inl ⟨by rfl, ?_⟩) (by assumption) (by assumption) ?_
              rotate_left
              · intro w hSw; (try dsimp only at hSw); go_simp; (try with_reducible rfl)
              try simp only [Act.put, List.setIfInBounds_toArray, List.set_cons_zero, List.set_cons_succ]
              refine wpAnyT_takeD (i := 1) (v := ?_) (some 49) rfl rfl (by kernel_rfl) (by kernel_rfl) (by kernel_rfl) (by kernel_rfl) (fun _ _ _ h => h) (Or.inl ⟨by rfl, ?_⟩) (by assumption) (by assumption) ?_
              rotate_left
              · intro w hSw; (try dsimp only at hSw); go_simp; (try with_reducible rfl)
              try simp only [Act.put, List.setIfInBounds_toArray, List.set_cons_zero, List.set_cons_succ]
              refine wpAnyT_takeW (i := 3) (v := ?_) (some 51) rfl rfl (by kernel_rfl) (by kernel_rfl) (by kernel_rfl) (by kernel_rfl) (fun _ _ _ h => h) (Or.inl ⟨by rfl, ?_⟩) (by assumption) (by assumption) ?_
              rotate_left
              · intro w hSw; (try dsimp only at hSw); go_simp; (try with_reducible rfl)
              try simp only [Act.put, List.setIfInBounds_toArray, List.set_cons_zero, List.set_cons_succ]
              refine wpAnyT_takeD (i := 4) (v := ?_) (some 52) rfl rfl (by kernel_rfl) (by kernel_rfl) (by kernel_rfl) (by kernel_rfl) (fun _ _ _ h => h) (Or.inl ⟨by rfl, ?_⟩) (by assumption) (by assumption) ?_
              rotate_left
              · intro w hSw; (try dsimp only at hSw); go_simp; (try with_reducible rfl)
              try simp only [Act.put, List.setIfInBounds_toArray, List.set_cons_zero, List.set_cons_succ]
              refine wpAnyT_takeW (i := 5) (v := ?_) (some 53) rfl rfl (by kernel_rfl) (by kernel_rfl) (by kernel_rfl) (by kernel_rfl) (fun _ _ _ h => h) (Or.inl ⟨by rfl, ?_⟩) (by assumption) (by assumption) ?_
              rotate_left
              · intro w hSw; (try dsimp only at hSw); go_simp; (try with_reducible rfl)
              try simp only [Act.put, List.setIfInBounds_toArray, List.set_cons_zero, List.set_cons_succ]
              refine wpAnyT_takeD (i := 6) (v := ?_) (some 54) rfl rfl (by kernel_rfl) (by kernel_rfl) (by kernel_rfl) (by kernel_rfl) (fun _ _ _ h => h) (Or.inl ⟨by rfl, ?_⟩) (by assumption) (by assumption) ?_
              rotate_left
              · intro w hSw; (try dsimp only at hSw); go_simp; (try with_reducible rfl)
              try simp only [Act.put, List.setIfInBounds_toArray, List.set_cons_zero, List.set_cons_succ]
              refine wpAnyT_ready (rs := [2]) (by kernel_rfl) (by simp) ?_
              refine AllReadyT.cons rfl (fun K hK => ?_) AllReadyT.nil
              (go_simp; go_at_call 58; with_reducible refine HCL.out.mono ?_; rintro e w8 ⟨A8, c8, rfl, HO8, hb8⟩; have HM8 := Lib.hid (HMx.out.below hb8.out); clear n0 n1 n2 ff b0 b1 b2 ss ll dd tt; have n0 := HM8.out.kN.cell 0; have n1 := HM8.out.kN.cell 1; have n2 := HM8.out.kN.cell 2; have ff := HM8.out.kF.cell 0; have b0 := HM8.out.kB.cell 0; have b1 := HM8.out.kB.cell 1; have b2 := HM8.out.kB.cell 2; have ss := HM8.out.kS.cell 0; have ll := HM8.out.kL.cell 0; have dd := HM8.out.kD.cell 0; have tt := HM8.out.kT.cell 0; simp at n0 n1 n2 ff b0 b1 b2 ss ll dd tt; have q0 := HM8.out.kB.frozen 0; have q1 := HM8.out.kB.frozen 1; have q2 := HM8.out.kB.frozen 2; have hFB : gF ≠ gB := Blk.ne_ HM8.out.kF HM8.out.kB (by decide); clear hb8; go_wp2_with fail)
              refine hK.out _ _ ?_ (fun hHeld hHeldT => ?_)
              · (try dsimp only); (exact ⟨⟨n0, n1, n2⟩, trivial⟩)
              clear hK K
              try simp only [List.getElem_toArray, List.getElem_cons_succ, List.getElem_cons_zero]
              try simp only [Act.put, List.setIfInBounds_toArray, List.set_cons_zero, List.set_cons_succ]
              refine wpAnyT_takeW (i := 7) (v := ?_) (some 55) rfl rfl (by kernel_rfl) (by kernel_rfl) (by kernel_rfl) (by kernel_rfl) (fun _ _ _ h => h) (Or.inl ⟨by rfl, ?_⟩) (by assumption) (by assumption) ?_
              rotate_left
              · intro w hSw; (try dsimp only at hSw); go_simp; (try with_reducible rfl)
              try simp only [Act.put, List.setIfInBounds_toArray, List.set_cons_zero, List.set_cons_succ]
              refine wpAnyT_ready (rs := [8]) (by kernel_rfl) (by simp) ?_
              refine AllReadyT.past rfl (by kernel_rfl) (fun K hK => ?_)
              (go_simp; have fz := ((HM8.out.kF.far (p := ⟨gB, 0, none⟩) hFB (.slice A8 N c8)).far (p := ⟨gB, 1, none⟩) hFB (.int .i64 u)).far (p := ⟨gB, 2, none⟩) hFB (.int .i64 y); have fz0 := fz.cell 0; have fz1 := fz.frozen 0; simp at fz0; clear fz)
              refine hK.out _ _ ?_ ?_
              · (try dsimp only); (try exact trivial)
              clear hK K
              try simp only [List.getElem_toArray, List.getElem_cons_succ, List.getElem_cons_zero]
              try simp only [Act.put, List.setIfInBounds_toArray, List.set_cons_zero, List.set_cons_succ]
              refine wpAnyT_ready (rs := [9]) (by kernel_rfl) (by simp) ?_
              refine AllReadyT.past rfl (by kernel_rfl) (fun K hK => ?_)
              go_simp
              refine hK.out _ _ ?_ ?_
              · (try dsimp only); (try exact trivial)
              clear hK K
              try simp only [List.getElem_toArray, List.getElem_cons_succ, List.getElem_cons_zero]
              try simp only [Act.put, List.setIfInBounds_toArray, List.set_cons_zero, List.set_cons_succ]
              refine wpAnyT_done (by kernel_rfl) ?_ _
              refine NoPanic.normal ?_
              go_wp2_with fail
              (first | refine noGoto_ret ?_ | skip)
              refine bodyPost_ret (results_none rfl _ _ _) rfl ?_
              have hB8 : B ≤ x0.heap.size := HMx.out.sz
              have hsep : (Value.slice Av N cv).ownBlock = none ∨ (Value.slice Av N cv).ownBlock ≠ (Value.slice A8 N c8).ownBlock := by
                by_cases e : (Value.slice Av N cv).ownBlock = none
                · exact .inl e
                · right
                  intro e2
                  cases hq : (Value.slice Av N cv).ownBlock with
                  | none => exact e hq
                  | some j =>
                    rw [hq] at e2
                    have h1 := (HMx.out.row.lt j hq).2
                    have h2 := (HO8.out.lt j e2.symm).1
                    omega
              have hfin := HM8.out.setB (z := (l, u, y)) (v' := .slice A8 N c8) (by have := World.ownsRow.mono HO8.out hB8; rw [← HLN.out] at this ⊢; exact this) hsep
              refine ⟨⟨_, rfl⟩, y, .slice Av N cv, .slice A8 N c8, u, y, ?_⟩
              rw [HRB.out, if_pos ⟨HFT.out.symm, HTK.out.symm⟩]
              have e1 : plOf st ns l = (l, u, y) := by unfold plOf; rw [HU.out, HYB.out]
              rw [e1, ← HU.out, ← HF.out]
              exact hfin
end Go.Proofs.Ytnbnfadmbggfnaa
