/- The search's closure; conditions: the search's memory. Printed by a program. -/
import Derived.Test.YtnbnfadmbggfnaaPE
import Derived.Test.YtnbnfadmbggfnaaQT
import Derived.Deep.AppendLies
import Derived.WalkSmall
set_option linter.unusedSimpArgs false
set_option linter.unusedVariables false
namespace Go.Rl
open Go.Fh
theorem cand_get {m k : Nat} (h : k < m + 1) : (candL m)[k]? = some ((k : Int) - 1) := by
  unfold candL
  cases k with
  | zero => simp
  | succ k => rw [List.getElem?_cons_succ, List.getElem?_map, List.getElem?_range (by omega)]; simp
theorem fold_s {α : Type} (g : α → Int → α) (m k : Nat) (h : k < m + 1) (b : α) : ((candL m).take (k + 1)).foldl g b = g (((candL m).take k).foldl g b) ((k : Int) - 1) := by
  rw [List.take_add_one, cand_get h, List.foldl_append]
  rfl
theorem candL_len (m : Nat) : (candL m).length = m + 1 := by unfold candL; simp
end Go.Rl
namespace Go.Proofs.Ytnbnfadmbggfnaa
open Go.RowKit Go.Fh Go.Rl
theorem reel_at {B : Nat} {w : World} {A : Option Addr} {l : List ReelD} (h : Sl encReel 4 w B A l) {k : Nat} (hk : k < l.length) :
    ∃ b off, A = some ⟨b, off, none⟩ ∧ b < B ∧ w.cell? ⟨b, off + k * 4, none⟩ = some (.int .i64 l[k].id) ∧ w.cell? ⟨b, off + k * 4 + 1, none⟩ = some (.int .i64 l[k].width) ∧ w.cell? ⟨b, off + k * 4 + 2, none⟩ = some (.int .i64 l[k].len) ∧ w.cell? ⟨b, off + k * 4 + 3, none⟩ = some (.int .i64 l[k].core) := by
  obtain ⟨b, off, hA, hb, hc⟩ := h.at_ hk
  exact ⟨b, off, hA, hb, hc 0 _ rfl, hc 1 _ rfl, hc 2 _ rfl, hc 3 _ rfl⟩
set_option maxRecDepth 20000 in
set_option maxHeartbeats 16000000 in
theorem try_any (st : List ReelD) (ns : List (Int × Int)) (h : StoOk st ns) (wk : World) (A An : Option Addr) (c cn N m : Nat) (hA : Sl encReel 4 wk wk.heap.size A st) (hB : Sl enc2 2 wk wk.heap.size An ns) (hN : st.length = N) (hm : ns.length = m) (B gN gF gB gS gL gD gT gR : Nat) :
    ∀ (f : Nat) (l : List Int) (b : Option PlT) (y : Int) (v vb : Value) (ub bb : Int) (W : World), l.length + f = st.length + 1 → l.length ≤ st.length → ValP st ns l → SeaM wk B gN gF gB gS gL gD gT gR (.slice A N c) (.slice An m cn) m l (usedL l) y (leftF st ns l) b v vb ub bb W →
      Calls Try.prog 114 #[.pointer (some ⟨gN, 0, none⟩), .pointer (some ⟨gF, 0, none⟩), .pointer (some ⟨gB, 0, none⟩), .pointer (some ⟨gS, 0, none⟩), .pointer (some ⟨gL, 0, none⟩), .pointer (some ⟨gD, 0, none⟩), .pointer (some ⟨gT, 0, none⟩)] W fun e W' => (∃ r, e = .returned r) ∧ ∃ y v vb ub bb, SeaM wk B gN gF gB gS gL gD gT gR (.slice A N c) (.slice An m cn) m l (usedL l) y (leftF st ns l) (dfsP st ns f l b) v vb ub bb W' := by
  intro f
  induction f with
  | zero => intro l b y v vb ub bb W h1 h2; omega
  | succ f ih =>
  intro l b y v vb ub bb W hf hle hv hM
  by_cases hmo : moreP b (usedL l) = true
  · rw [dfsP_more hmo]
    refine (try_more st ns h wk A An c cn N m hA hB hN hm B gN gF gB gS gL gD gT gR l b _ y _ v vb ub bb W hM hmo).mono ?_
    rintro e W' ⟨h1, rfl⟩
    exact ⟨h1, y, v, vb, ub, bb, hM⟩
  have hmo0 : moreP b (usedL l) = false := by simpa using hmo
  by_cases hfu : l.length = st.length
  · rw [dfsP_full hmo0 hfu]
    exact try_full st ns h wk A An c cn N m hA hB hN hm B gN gF gB gS gL gD gT gR l b y v vb ub bb W hM hmo0 (by rw [hfu, hN])
  rw [dfsP_step hmo0 hfu, hm]
  have hN10 : N ≤ 10 := by rw [← hN]; exact h.n
  have hm3 : m ≤ 3 := by rw [← hm]; exact h.m2
  obtain ⟨Av, cv, hsv⟩ := own_shape hM.row
  subst hsv
  obtain ⟨Ab, nb, cb, hvb⟩ : ∃ Ab nb cb, vb = .slice Ab nb cb := by
    cases b with
    | none => exact ⟨none, 0, 0, hM.vbo rfl⟩
    | some z => obtain ⟨q1, q2, q3⟩ := own_shape (hM.best z rfl).1
                exact ⟨q1, _, q2, q3⟩
  subst hvb
  obtain ⟨i, hi⟩ : ∃ i, i = l.length := ⟨_, rfl⟩
  obtain ⟨u, hu⟩ : ∃ u, u = usedL l := ⟨_, rfl⟩
  obtain ⟨F, hF⟩ : ∃ F, F = leftF st ns l := ⟨_, rfl⟩
  have hub := usedL_bd l
  have hiN : i < N := by omega
  have HLB := Lib.hid (show ∀ s, s < m → -300000000 ≤ F s ∧ F s ≤ 1000000000 from fun s hs => by rw [hF]; exact left_bd h (by omega) (by omega))
  have HMB := Lib.hid (show b.isSome = true → ¬ ub < u from fun hh => by
    cases b with
    | none => cases hh
    | some z => have := (hM.best z rfl).2.1; have h2 : ¬ z.2.1 < usedL l := by simpa [moreP] using hmo0
                omega)
  rw [← hu] at hM hub
  rw [← hF] at hM
  rw [← hi] at hub
  obtain ⟨RB, hRB⟩ : ∃ r, r = (candL m).foldl (stepP st ns f l) b := ⟨_, rfl⟩
  rw [← hRB]
  obtain ⟨hu0, hu1⟩ := hub
  have HIH := Lib.hid (show ∀ (s : Int) (b : Option PlT) (y : Int) (v vb : Value) (ub bb : Int) (W : World), -1 ≤ s → s < m → okP st ns i s = true → SeaM wk B gN gF gB gS gL gD gT gR (.slice A N c) (.slice An m cn) m (l ++ [s]) (usedL (l ++ [s])) y (leftF st ns (l ++ [s])) b v vb ub bb W →
      Calls Try.prog 114 #[.pointer (some ⟨gN, 0, none⟩), .pointer (some ⟨gF, 0, none⟩), .pointer (some ⟨gB, 0, none⟩), .pointer (some ⟨gS, 0, none⟩), .pointer (some ⟨gL, 0, none⟩), .pointer (some ⟨gD, 0, none⟩), .pointer (some ⟨gT, 0, none⟩)] W fun e W' => (∃ r, e = .returned r) ∧ ∃ y v vb ub bb, SeaM wk B gN gF gB gS gL gD gT gR (.slice A N c) (.slice An m cn) m (l ++ [s]) (usedL (l ++ [s])) y (leftF st ns (l ++ [s])) (dfsP st ns f (l ++ [s]) b) v vb ub bb W' from fun s b y v vb ub bb W h1 h2 h3 h4 =>
    ih (l ++ [s]) b y v vb ub bb W (by rw [List.length_append]; simp; omega) (by rw [List.length_append]; simp; omega) (hv.snoc h1 (by rw [hm]; exact h2) (by rw [← hi]; exact h3)) h4)
  have HU := Lib.hid hu
  have HF := Lib.hid hF
  have HLI := Lib.hid hi.symm
  have HRB := Lib.hid hRB
  have HST := Lib.hid (erW_right h.er)
  have HA := Lib.hid hA
  have HB := Lib.hid hB
  have HNN := Lib.hid hN
  have HMM := Lib.hid hm
  have hfb0 : ∃ f, f = b.isSome := ⟨_, rfl⟩
  obtain ⟨fb, hfb⟩ := hfb0
  have HM0 := Lib.hid hM
  have n0 := HM0.out.kN.cell 0; have n1 := HM0.out.kN.cell 1; have n2 := HM0.out.kN.cell 2; have ff := HM0.out.kF.cell 0; have b0 := HM0.out.kB.cell 0; have b1 := HM0.out.kB.cell 1; have b2 := HM0.out.kB.cell 2; have ss := HM0.out.kS.cell 0; have ll := HM0.out.kL.cell 0; have dd := HM0.out.kD.cell 0; have tt := HM0.out.kT.cell 0; simp at n0 n1 n2 ff b0 b1 b2 ss ll dd tt; unfold tryV at tt
  rw [← hfb] at ff HMB
  have HFB := Lib.hid hfb
  rw [← hi] at n0
  have tN : ((i : Int) == (N : Int)) = false := by simp; omega
  clear ih hf hle hv hM hmo hmo0 hfu hu hF hi hRB hA hB hN hm h hfb
  go_enter Try.func114, Try.ntmps114
  go_step3
  go_upto_region 1 with fail
  go_cut [21] (fun p wx => p = .bool false ∧ wx = W)
  case first =>
    cases fb
    · go_wp2_with fail
      go_meet
      exact ⟨by simp, rfl⟩
    · have hnu := HMB.out rfl
      go_wp2_with fail
      go_meet
      exact ⟨by simp, rfl⟩
  case rest =>
    obtain ⟨rfl, hwc⟩ := hcut
    rw [hwc]
    clear hwc
    go_wp2_with fail
    go_step3
    go_wp2_with fail
    clear n0 n1 n2 ff b0 b1 b2 ss ll dd tt
    go_loopw [10] (fun q wr => ∃ (k : Nat) (y : Int) (cv : Nat) (Av : Option Addr) (vb : Value) (ub bb : Int), k ≤ m + 1 ∧ q = .int .i64 ((k : Int) - 1) ∧ Hid (SeaM wk B gN gF gB gS gL gD gT gR (.slice A N c) (.slice An m cn) m l u y F (((candL m).take k).foldl (stepP st ns f l) b) (.slice Av i cv) vb ub bb wr)) (fun q _ => m + 1 - (intOf q + 1).toNat)
    case atStart => exact ⟨0, y, cv, Av, _, ub, bb, Nat.zero_le _, by simp, Lib.hid (by have := HM0.out; rw [HLI.out] at this; exact this)⟩
    case round =>
      clear HM0 HFB HMB
      obtain ⟨k, y, cv, Av, vb, ub, bb, hk, rfl, HM⟩ := hrel
      by_cases hlt : k < m + 1
      · have hfs := fold_s (stepP st ns f l) m k hlt b
        obtain ⟨bk, hbk⟩ : ∃ q, q = ((candL m).take k).foldl (stepP st ns f l) b := ⟨_, rfl⟩
        rw [← hbk] at HM hfs
        have HFS := Lib.hid hfs
        have HNW := Lib.hid (show ∀ (v : Value) (n : Nat) (xs : List Value) (X : World), X.ownsRow B 3 1 v n xs → some gN ≠ v.ownBlock from fun v n xs X ho e => by have := (ho.lt gN e.symm).1; have := HM.out.ad.hi; omega)
        obtain ⟨i3, hi3, z0, z1, z2⟩ := info_parts infoInt
        have HI3 := Lib.hid hi3
        have hm1 : i + 1 ≤ maxLen := by simp only [maxLen]; omega
        have hm2 : (i + 1) * 8 ≤ 140737488355328 := by omega
        clear hbk hfs hi3
        have n0 := HM.out.kN.cell 0; have n1 := HM.out.kN.cell 1; have n2 := HM.out.kN.cell 2; have ff := HM.out.kF.cell 0; have b0 := HM.out.kB.cell 0; have b1 := HM.out.kB.cell 1; have b2 := HM.out.kB.cell 2; have ss := HM.out.kS.cell 0; have ll := HM.out.kL.cell 0; have dd := HM.out.kD.cell 0; have tt := HM.out.kT.cell 0; simp at n0 n1 n2 ff b0 b1 b2 ss ll dd tt; unfold tryV at tt
        cases k with
        | zero =>
          rw [show (((0 : Nat) : Int) - 1) = -1 from rfl] at *
          have HUE := Lib.hid (show usedL (l ++ [-1]) = u from by rw [usedL_snoc, HU.out]; simp)
          have HFE := Lib.hid (show leftF st ns (l ++ [-1]) = F from by
            funext s
            rw [leftF_snoc, HF.out, if_neg (by omega)]
            omega)
          have hok : okP st ns i (-1) = true := by simp [okP]
          have HOK := Lib.hid hok
          have hsm : stepP st ns f l bk (-1) = dfsP st ns f (l ++ [-1]) bk := by unfold stepP; rw [HLI.out, if_pos hok]
          rw [hsm] at HFS
          clear hok hsm
          go_upto_region 17 with (at_builtin; refine wpList_append_lies _ rfl (.tmp 66) (.tmp 68) 47 rfl B 3 i3 _ 1 8 Try.underlying47 HI3.out z0 z1 z2 rfl (by decide) (.slice Av i cv) i (rowV l) rfl (by have := (HM.out.below (balR (Below.refl _ _) (.cells #[.int .i64 (-1)] 3))).row; rw [HLI.out] at this; exact this) ⟨wr.heap.size, 0, none⟩ 1 1 [.int .i64 (-1)] rfl rfl (news_of1 wr 3 #[.int .i64 (-1)]) (by intro u hu; simp at hu; subst hu; rfl) (by decide) hm1 hm2 (by have := HM.out.sz; simp; omega) (wr.heap.size + 1) (by simp) ?_; intro g6 cap6 x6 hown hgrow hat hlt6; have HMa := Lib.hid (HM.out.below (balR (Below.refl wr.heap.size wr) (.cells #[.int .i64 (-1)] 3))); have HO6 := Lib.hid hown; have HG6 := Lib.hid hgrow; have HA6 := Lib.hid hat; have k6 := HMa.out.kN.grown hgrow (HNW.out _ _ _ _ HMa.out.row); have m0 := k6.cell 0; have g0 := k6.frozen 0; simp at m0; clear hown hgrow hat hlt6 k6)
          have hM1 := HMa.out.grow (l' := l ++ [-1]) (g9 := g6) (c9 := cap6) HG6.out (by have := HO6.out; rw [List.length_append, HLI.out]; simpa [rowV] using this) (by have := HA6.out; simpa using this)
          rw [show (l ++ [(-1 : Int)]).length = i + 1 from by rw [List.length_append, HLI.out]; rfl] at hM1
          obtain ⟨w1, hw1⟩ : ∃ W', W' = x6.setCell ⟨gN, 0, none⟩ (.slice (some ⟨g6, 0, none⟩) (i + 1) cap6) := ⟨_, rfl⟩
          rw [← hw1] at hM1 ⊢
          have HM1 := Lib.hid hM1
          clear hw1 hM1 m0 g0 n0 n1 n2 ff b0 b1 b2 ss ll dd tt
          have n0 := HM1.out.kN.cell 0; have n1 := HM1.out.kN.cell 1; have n2 := HM1.out.kN.cell 2; have ff := HM1.out.kF.cell 0; have b0 := HM1.out.kB.cell 0; have b1 := HM1.out.kB.cell 1; have b2 := HM1.out.kB.cell 2; have ss := HM1.out.kS.cell 0; have ll := HM1.out.kL.cell 0; have dd := HM1.out.kD.cell 0; have tt := HM1.out.kT.cell 0; simp at n0 n1 n2 ff b0 b1 b2 ss ll dd tt; unfold tryV at tt
          have HCALL := Lib.hid (HIH.out (-1) bk y _ vb ub bb w1 (by omega) (by omega) HOK.out (by rw [HUE.out, HFE.out]; exact HM1.out))
          go_upto_region 18 with (go_at_call 114; refine HCALL.out.mono ?_; rintro e w3 ⟨⟨rv, rfl⟩, y3, v3, vb3, ub3, bb3, hM3⟩; have HM3 := Lib.hid hM3; clear hM3)
          have hM3 := HM3.out
          rw [HUE.out, HFE.out, ← HFS.out] at hM3
          obtain ⟨g3, c3, hv3, -, -⟩ := hM3.row.form (by simp)
          rw [show (l ++ [(-1 : Int)]).length = i + 1 from by rw [List.length_append, HLI.out]; rfl] at hv3
          subst hv3
          have HM4 := Lib.hid hM3
          clear hM3 HM3 HCALL n0 n1 n2 ff b0 b1 b2 ss ll dd tt
          have n0 := HM4.out.kN.cell 0; have n1 := HM4.out.kN.cell 1; have n2 := HM4.out.kN.cell 2; have ff := HM4.out.kF.cell 0; have b0 := HM4.out.kB.cell 0; have b1 := HM4.out.kB.cell 1; have b2 := HM4.out.kB.cell 2; have ss := HM4.out.kS.cell 0; have ll := HM4.out.kL.cell 0; have dd := HM4.out.kD.cell 0; have tt := HM4.out.kT.cell 0; simp at n0 n1 n2 ff b0 b1 b2 ss ll dd tt; unfold tryV at tt
          have f0 := HM4.out.kN.frozen 0
          have hcap : i ≤ c3 := by
            have h := HM4.out.row
            rcases h.2 with ⟨h0, _⟩ | ⟨g', cap', cur, hv, _, _, hle, _⟩
            · cases h0
            · injection hv with _ _ h3; rw [List.length_append] at hle; have := HLI.out; simp at hle; omega
          have hcap2 : (i : Int) ≤ (c3 : Int) := by omega
          have hi0 : (0 : Int) ≤ (i : Int) := by omega
          go_wp2_with fail
          go_roundw
          case rel =>
            have hp := ownsRow_pop (size := 1) (n := i) (xs := rowV l) (last := [.int .i64 (-1)]) (by simp [rowV, HLI.out]) (by have := HM4.out.row; rw [List.length_append, HLI.out] at this; simpa [rowV] using this)
            exact ⟨1, y3, c3, some ⟨g3, 0, none⟩, vb3, ub3, bb3, by omega, by go_num, Lib.hid (HM4.out.setV (l' := l) (by rw [HLI.out]; exact hp) (by have := HM4.out.sep; simpa [Value.ownBlock] using this))⟩
          case measure => simp [intOf]
        | succ j =>
          rw [show (((j + 1 : Nat) : Int) - 1) = (j : Int) from by omega] at *
          have hjm : j < m := by omega
          have hjn : j < ns.length := by have := HMM.out; omega
          have hiS : i < st.length := by have := HNN.out; omega
          obtain ⟨bd, od, hAn, hbd, d0, d1⟩ := Sl.at2 HB.out hjn
          obtain ⟨ba, oa, hAA, hba, e0, e1, e2, e3⟩ := reel_at HA.out hiS
          obtain ⟨rd, hrd⟩ : ∃ r, r = st[i] := ⟨_, rfl⟩
          obtain ⟨nw, hnw⟩ : ∃ r, r = ns[j].1 := ⟨_, rfl⟩
          rw [← hrd] at e0 e1 e2 e3
          rw [← hnw] at d0
          have hgd : st.getD i rl0 = rd := by rw [hrd]; simp [List.getD_eq_getElem?_getD, hiS]
          have hgn : (ns.getD j (0, 0)).1 = nw := by rw [hnw]; simp [List.getD_eq_getElem?_getD, hjn]
          have hro : ReelOk rd := by rw [hrd]; exact HST.out _ (List.getElem_mem hiS)
          have HRD := Lib.hid (show ∀ X, Below wk.heap.size wk X → X.cell? ⟨ba, oa + i * 4, none⟩ = some (.int .i64 rd.id) ∧ X.cell? ⟨ba, oa + i * 4 + 1, none⟩ = some (.int .i64 rd.width) ∧ X.cell? ⟨ba, oa + i * 4 + 2, none⟩ = some (.int .i64 rd.len) ∧ X.cell? ⟨ba, oa + i * 4 + 3, none⟩ = some (.int .i64 rd.core) from fun X hb => ⟨(hb.cell hba).trans e0, (hb.cell hba).trans e1, (hb.cell hba).trans e2, (hb.cell hba).trans e3⟩)
          have HND := Lib.hid (show ∀ X, Below wk.heap.size wk X → X.cell? ⟨bd, od + j * 2, none⟩ = some (.int .i64 nw) from fun X hb => (hb.cell hbd).trans d0)
          have H51 := Lib.hid (fun W => gives_any rd W hro)
          obtain ⟨gvv, hgv⟩ : ∃ q, q = giv rd := ⟨_, rfl⟩
          rw [← hgv] at H51
          have hgb : 0 ≤ gvv ∧ gvv ≤ 20000000 := by have a := hro.c0; have b := hro.c1; have d := hro.l1; rw [hgv]; unfold giv; omega
          have HGV := Lib.hid (show giv (st.getD i rl0) = gvv from by rw [hgd, hgv])
          have HOK := Lib.hid (show okP st ns i (j : Int) = decide (rd.width = nw) from by
            unfold okP
            rw [hgd, Int.toNat_natCast, hgn, show decide ((j : Int) < 0) = false from decide_eq_false (by omega), Bool.false_or])
          subst hAn hAA
          obtain ⟨c0, c1, c2, c3⟩ := HRD.out _ HM.out.low
          have cd := HND.out _ HM.out.low
          have hi0 : (0 : Int) ≤ (i : Int) := by omega
          have hi1 : (i : Int) < (N : Int) := by omega
          have hj0 : (0 : Int) ≤ (j : Int) := by omega
          have hj1 : (j : Int) < (m : Int) := by omega
          clear d0 d1 e0 e1 e2 e3 hrd hnw hgd hgn hro hgv
          by_cases hwq : rd.width = nw
          · have wb : (rd.width != nw) = false := by simp [hwq]
            have hok : okP st ns i (j : Int) = true := by rw [HOK.out]; exact decide_eq_true hwq
            have HOK1 := Lib.hid hok
            have hsm : stepP st ns f l bk (j : Int) = dfsP st ns f (l ++ [(j : Int)]) bk := by unfold stepP; rw [HLI.out, if_pos hok]
            rw [hsm] at HFS
            have hlb := HLB.out j hjm
            obtain ⟨fj, hfj⟩ : ∃ q, q = F j := ⟨_, rfl⟩
            rw [← hfj] at hlb
            have HFJA := Lib.hid hfj.symm
            have HUE := Lib.hid (show usedL (l ++ [(j : Int)]) = u + 1 from by rw [usedL_snoc, HU.out, if_pos (by omega)])
            obtain ⟨F2, hF2⟩ : ∃ q, q = (fun q => if q = j then fj - gvv else F q) := ⟨_, rfl⟩
            have HFE := Lib.hid (show leftF st ns (l ++ [(j : Int)]) = F2 from by
              funext s
              rw [leftF_snoc, HLI.out, HGV.out, hF2, HF.out]
              dsimp only
              by_cases hs : s = j
              · subst hs
                rw [if_pos rfl, if_pos rfl, hfj, HF.out]
              · rw [if_neg (by omega), if_neg hs]
                omega)
            have HFJB := Lib.hid (show F2 j = fj - gvv from by rw [hF2]; simp)
            have HF4 := Lib.hid (show (fun q => if q = j then fj - gvv + gvv else F2 q) = F from by
              funext q
              rw [hF2]
              dsimp only
              by_cases hs : q = j
              · subst hs; rw [if_pos rfl, hfj]; omega
              · rw [if_neg hs, if_neg hs])
            have HF2 := Lib.hid hF2
            have ws1 : IntKind.i64.wrap (u + 1) = u + 1 := by rw [IntKind.wrap_i64]; omega
            have ws2 : IntKind.i64.wrap (fj - gvv) = fj - gvv := by rw [IntKind.wrap_i64]; omega
            have ws3 : IntKind.i64.wrap (fj - gvv + gvv) = fj - gvv + gvv := by rw [IntKind.wrap_i64]; omega
            have ws4 : IntKind.i64.wrap (u + 1 - 1) = u + 1 - 1 := by rw [IntKind.wrap_i64]; omega
            obtain ⟨fjA, hA1⟩ : ∃ q, q = fj := ⟨_, rfl⟩
            obtain ⟨fjB, hB1⟩ : ∃ q, q = fj - gvv := ⟨_, rfl⟩
            rw [← hA1] at HFJA
            rw [← hB1] at HFJB
            have HEA := Lib.hid hA1
            have HEB := Lib.hid hB1
            have ws2' : IntKind.i64.wrap (fjA - gvv) = fjA - gvv := by rw [hA1]; exact ws2
            have ws3' : IntKind.i64.wrap (fjB + gvv) = fjB + gvv := by rw [hB1]; exact ws3
            clear hok hsm hfj hF2 hwq hlb hA1 hB1 ws2 ws3 hgb
            go_wp2_with fail
            go_quiet (fail)
            go_upto_region 20 with fail
            obtain ⟨wq, hwq⟩ : ∃ W', W' = wr.drewN nq := ⟨_, rfl⟩
            have HMq := Lib.hid (HM.out.below (below_drewN (Below.refl wr.heap.size wr) nq))
            rw [← hwq] at HMq ⊢
            clear hwq c0 c1 c2 c3 cd n0 n1 n2 ff b0 b1 b2 ss ll dd tt
            have n0 := HMq.out.kN.cell 0; have n1 := HMq.out.kN.cell 1; have n2 := HMq.out.kN.cell 2; have ff := HMq.out.kF.cell 0; have b0 := HMq.out.kB.cell 0; have b1 := HMq.out.kB.cell 1; have b2 := HMq.out.kB.cell 2; have ss := HMq.out.kS.cell 0; have ll := HMq.out.kL.cell 0; have dd := HMq.out.kD.cell 0; have tt := HMq.out.kT.cell 0; simp at n0 n1 n2 ff b0 b1 b2 ss ll dd tt; unfold tryV at tt
            refine wp_region_noPanic ?_
            refine wp_region_T (S := (fun X => X.cell? ⟨gN, 0, none⟩ = some (.slice Av i cv) ∧ X.cell? ⟨gN, 1, none⟩ = some (.int .i64 u))) (T := (fun _ => True)) 9 (by kernel_rfl) ?_ (fun hHeld hHeldT => ?_)
            · (try dsimp only); (exact ⟨⟨n0, n1⟩, trivial⟩)
            obtain ⟨x0, hx0⟩ : ∃ W, W = wq.drew := ⟨_, rfl⟩
            have HMx := Lib.hid (HMq.out.below ((Below.refl wq.heap.size wq).drew))
            rw [← hx0] at hHeld HMx ⊢
            clear hx0
            clear n0 n1 n2 ff b0 b1 b2 ss ll dd tt
            have n0 := HMx.out.kN.cell 0; have n1 := HMx.out.kN.cell 1; have n2 := HMx.out.kN.cell 2; have ff := HMx.out.kF.cell 0; have b0 := HMx.out.kB.cell 0; have b1 := HMx.out.kB.cell 1; have b2 := HMx.out.kB.cell 2; have ss := HMx.out.kS.cell 0; have ll := HMx.out.kL.cell 0; have dd := HMx.out.kD.cell 0; have tt := HMx.out.kT.cell 0; simp at n0 n1 n2 ff b0 b1 b2 ss ll dd tt; unfold tryV at tt
            refine wpAnyT_takeW (i := 0) (v := ?_) (some 90) rfl rfl (by kernel_rfl) (by kernel_rfl) (by kernel_rfl) (by kernel_rfl) (fun _ _ _ h => h) (Or.inl ⟨by rfl, ?_⟩) (by assumption) (by assumption) ?_
            rotate_left
            · intro w hSw; (try dsimp only at hSw); go_simp; (try with_reducible rfl)
            try simp only [Act.put, List.setIfInBounds_toArray, List.set_cons_zero, List.set_cons_succ]
            refine wpAnyT_takeD (i := 1) (v := ?_) (some 91) rfl rfl (by kernel_rfl) (by kernel_rfl) (by kernel_rfl) (by kernel_rfl) (fun _ _ _ h => h) (Or.inl ⟨by rfl, ?_⟩) (by assumption) (by assumption) ?_
            rotate_left
            · intro w hSw; (try dsimp only at hSw); go_simp; (try with_reducible rfl)
            try simp only [Act.put, List.setIfInBounds_toArray, List.set_cons_zero, List.set_cons_succ]
            refine wpAnyT_takeW (i := 2) (v := ?_) (some 92) rfl rfl (by kernel_rfl) (by kernel_rfl) (by kernel_rfl) (by kernel_rfl) (fun _ _ _ h => h) (Or.inl ⟨by rfl, ?_⟩) (by assumption) (by assumption) ?_
            rotate_left
            · intro w hSw; (try dsimp only at hSw); go_simp; (try with_reducible rfl)
            try simp only [Act.put, List.setIfInBounds_toArray, List.set_cons_zero, List.set_cons_succ]
            refine wpAnyT_takeW (i := 5) (v := ?_) (some 95) rfl rfl (by kernel_rfl) (by kernel_rfl) (by kernel_rfl) (by kernel_rfl) (fun _ _ _ h => h) (Or.inl ⟨by rfl, ?_⟩) (by assumption) (by assumption) ?_
            rotate_left
            · intro w hSw; (try dsimp only at hSw); go_simp; (try with_reducible rfl)
            try simp only [Act.put, List.setIfInBounds_toArray, List.set_cons_zero, List.set_cons_succ]
            refine wpAnyT_takeD (i := 6) (v := ?_) (some 96) rfl rfl (by kernel_rfl) (by kernel_rfl) (by kernel_rfl) (by kernel_rfl) (fun _ _ _ h => h) (Or.inl ⟨by rfl, ?_⟩) (by assumption) (by assumption) ?_
            rotate_left
            · intro w hSw; (try dsimp only at hSw); go_simp; (try with_reducible rfl)
            try simp only [Act.put, List.setIfInBounds_toArray, List.set_cons_zero, List.set_cons_succ]
            refine wpAnyT_takeW (i := 7) (v := ?_) (some 97) rfl rfl (by kernel_rfl) (by kernel_rfl) (by kernel_rfl) (by kernel_rfl) (fun _ _ _ h => h) (Or.inl ⟨by rfl, ?_⟩) (by assumption) (by assumption) ?_
            rotate_left
            · intro w hSw; (try dsimp only at hSw); go_simp; (try with_reducible rfl)
            try simp only [Act.put, List.setIfInBounds_toArray, List.set_cons_zero, List.set_cons_succ]
            refine wpAnyT_ready (rs := [3]) (by kernel_rfl) (by simp) ?_
            refine AllReadyT.cons rfl (fun K hK => ?_) AllReadyT.nil
            (go_simp; obtain ⟨gn, hgn⟩ : ∃ n, n = x0.heap.size := ⟨_, rfl⟩; obtain ⟨xa, hxa⟩ : ∃ W, W = x0.alloc (.cells #[.int .i64 (j : Int)] 3) := ⟨_, rfl⟩; rw [← hxa, ← hgn]; have HMa := Lib.hid (show SeaM wk B gN gF gB gS gL gD gT gR (.slice (some ⟨ba, oa, none⟩) N c) (.slice (some ⟨bd, od, none⟩) m cn) m l u y F bk (.slice Av i cv) vb ub bb xa from by rw [hxa]; exact HMx.out.below (balR (Below.refl _ _) _)); have HNB := Lib.hid (show Blk xa gn 3 #[.int .i64 (j : Int)] from by rw [hxa, hgn]; exact Blk.new _ _ _); clear hgn hxa n0 n1 n2 ff b0 b1 b2 ss ll dd tt; have n0 := HMa.out.kN.cell 0; have n1 := HMa.out.kN.cell 1; have n2 := HMa.out.kN.cell 2; have ff := HMa.out.kF.cell 0; have b0 := HMa.out.kB.cell 0; have b1 := HMa.out.kB.cell 1; have b2 := HMa.out.kB.cell 2; have ss := HMa.out.kS.cell 0; have ll := HMa.out.kL.cell 0; have dd := HMa.out.kD.cell 0; have tt := HMa.out.kT.cell 0; simp at n0 n1 n2 ff b0 b1 b2 ss ll dd tt; unfold tryV at tt)
            refine hK.out _ _ ?_ (fun hHeld hHeldT => ?_)
            · (try dsimp only); (exact ⟨⟨n0, n1⟩, trivial⟩)
            clear hK K
            try simp only [List.getElem_toArray, List.getElem_cons_succ, List.getElem_cons_zero]
            try simp only [Act.put, List.setIfInBounds_toArray, List.set_cons_zero, List.set_cons_succ]
            refine wpAnyT_ready (rs := [4]) (by kernel_rfl) (by simp) ?_
            refine AllReadyT.cons rfl (fun K hK => ?_) AllReadyT.nil
            (refine step_append_lies _ rfl (.tmp 91) (.tmp 93) 47 rfl B 3 i3 _ 1 8 Try.underlying47 HI3.out z0 z1 z2 rfl (by decide) (.slice Av i cv) i (rowV l) (by simp [Act.eval, Act.put]) (by have := HMa.out.row; rw [HLI.out] at this; exact this) ⟨gn, 0, none⟩ 1 1 [.int .i64 (j : Int)] (by simp [Act.eval, Act.put]) rfl (World.news_of_block (cs := #[.int .i64 (j : Int)]) (t := 3) (fr := (0, 0)) HNB.out) (by intro u hu; simp at hu; subst hu; rfl) (by decide) hm1 hm2 HMa.out.sz _ rfl ?_; intro g6 cap6 x6 hown hgrow hat hlt; have HO6 := Lib.hid hown; have HG6 := Lib.hid hgrow; have HA6 := Lib.hid hat; have k6 := HMa.out.kN.grown hgrow (HNW.out _ _ _ _ HMa.out.row); have n0 := k6.cell 0; have n1 := k6.cell 1; have f0 := k6.frozen 0; simp at n0 n1; have k7 := k6.set_ 0 (.slice (some ⟨g6, 0, none⟩) (i + 1) cap6); have m1 := k7.cell 1; have e1 := k7.frozen 1; simp at m1; clear hown hgrow hat hlt k6 k7)
            refine hK.out _ _ ?_ (fun hHeld hHeldT => ?_)
            · (try dsimp only); (exact ⟨⟨n0, n1⟩, trivial⟩)
            clear hK K
            try simp only [List.getElem_toArray, List.getElem_cons_succ, List.getElem_cons_zero]
            try simp only [Act.put, List.setIfInBounds_toArray, List.set_cons_zero, List.set_cons_succ]
            refine wpAnyT_takeW (i := 8) (v := ?_) (some 98) rfl rfl (by kernel_rfl) (by kernel_rfl) (by kernel_rfl) (by kernel_rfl) (fun _ _ _ h => h) (Or.inl ⟨by rfl, ?_⟩) (by assumption) (by assumption) ?_
            rotate_left
            · intro w hSw; (try dsimp only at hSw); go_simp; (try with_reducible rfl)
            try simp only [Act.put, List.setIfInBounds_toArray, List.set_cons_zero, List.set_cons_succ]
            refine wpAnyT_ready (rs := [9]) (by kernel_rfl) (by simp) ?_
            refine AllReadyT.past rfl (by kernel_rfl) (fun K hK => ?_)
            go_simp
            refine hK.out _ _ ?_ ?_
            · (try dsimp only); (try exact trivial)
            clear hK K
            try simp only [List.getElem_toArray, List.getElem_cons_succ, List.getElem_cons_zero]
            try simp only [Act.put, List.setIfInBounds_toArray, List.set_cons_zero, List.set_cons_succ]
            refine wpAnyT_ready (rs := [10]) (by kernel_rfl) (by simp) ?_
            refine AllReadyT.past rfl (by kernel_rfl) (fun K hK => ?_)
            go_simp
            refine hK.out _ _ ?_ ?_
            · (try dsimp only); (try exact trivial)
            clear hK K
            try simp only [List.getElem_toArray, List.getElem_cons_succ, List.getElem_cons_zero]
            try simp only [Act.put, List.setIfInBounds_toArray, List.set_cons_zero, List.set_cons_succ]
            refine wpAnyT_ready (rs := [11]) (by kernel_rfl) (by simp) ?_
            refine AllReadyT.past rfl (by kernel_rfl) (fun K hK => ?_)
            go_simp
            refine hK.out _ _ ?_ ?_
            · (try dsimp only); (try exact trivial)
            clear hK K
            try simp only [List.getElem_toArray, List.getElem_cons_succ, List.getElem_cons_zero]
            try simp only [Act.put, List.setIfInBounds_toArray, List.set_cons_zero, List.set_cons_succ]
            refine wpAnyT_done (by kernel_rfl) ?_ _
            refine NoPanic.normal ?_
            have hM1 := (HMa.out.grow (l' := (l ++ [(j : Int)])) (g9 := g6) (c9 := cap6) HG6.out (by have := HO6.out; rw [List.length_append, HLI.out]; simpa [rowV] using this) (by have := HA6.out; simpa using this)).setU (u + 1)
            rw [show ((l ++ [(j : Int)])).length = i + 1 from by rw [List.length_append, HLI.out]; rfl] at hM1
            obtain ⟨w1, hw1⟩ : ∃ W', W' = (x6.setCell ⟨gN, 0, none⟩ (.slice (some ⟨g6, 0, none⟩) (i + 1) cap6)).setCell ⟨gN, 1, none⟩ (.int .i64 (u + 1)) := ⟨_, rfl⟩
            rw [← hw1] at hM1
            have HM1 := Lib.hid hM1
            try rw [← hw1]
            clear hw1 hM1 m1 e1 f0 HMx HMq n0 n1 n2 ff b0 b1 b2 ss ll dd tt
            have n0 := HM1.out.kN.cell 0; have n1 := HM1.out.kN.cell 1; have n2 := HM1.out.kN.cell 2; have ff := HM1.out.kF.cell 0; have b0 := HM1.out.kB.cell 0; have b1 := HM1.out.kB.cell 1; have b2 := HM1.out.kB.cell 2; have ss := HM1.out.kS.cell 0; have ll := HM1.out.kL.cell 0; have dd := HM1.out.kD.cell 0; have tt := HM1.out.kT.cell 0; simp at n0 n1 n2 ff b0 b1 b2 ss ll dd tt; unfold tryV at tt
            go_upto_region 21 with fail
            have dl := HM1.out.left.cell hjm
            rw [HFJA.out] at dl
            refine wp_region_noPanic ?_
            refine wp_region_T (S := (fun X => (X.cell? ⟨gL, 0, none⟩ = some (.slice (some ⟨gR, 0, none⟩) m m) ∧ X.cell? ⟨gS, 0, none⟩ = some (.slice (some ⟨ba, oa, none⟩) N c)) ∧ X.cell? ⟨gR, j, none⟩ = some (.int .i64 fjA) ∧ X.cell? ⟨ba, oa + i * 4, none⟩ = some (.int .i64 rd.id) ∧ X.cell? ⟨ba, oa + i * 4 + 1, none⟩ = some (.int .i64 rd.width) ∧ X.cell? ⟨ba, oa + i * 4 + 2, none⟩ = some (.int .i64 rd.len) ∧ X.cell? ⟨ba, oa + i * 4 + 3, none⟩ = some (.int .i64 rd.core))) (T := (fun _ => True)) 11 (by kernel_rfl) ?_ (fun hHeld hHeldT => ?_)
            · (try dsimp only); (exact ⟨⟨⟨ll, ss⟩, dl, HRD.out _ (HM1.out.low).drew⟩, trivial⟩)
            obtain ⟨x0, hx0⟩ : ∃ W, W = w1.drew := ⟨_, rfl⟩
            rw [← hx0] at hHeld ⊢
            have HMx := Lib.hid (show (SeaM wk B gN gF gB gS gL gD gT gR (.slice (some ⟨ba, oa, none⟩) N c) (.slice (some ⟨bd, od, none⟩) m cn) m (l ++ [(j : Int)]) (u + 1) y F bk (.slice (some ⟨g6, 0, none⟩) (i + 1) cap6) vb ub bb) x0 from by rw [hx0]; exact HM1.out.below ((Below.refl w1.heap.size w1).drew))
            clear hx0
            clear dl n0 n1 n2 ff b0 b1 b2 ss ll dd tt
            have n0 := HMx.out.kN.cell 0; have n1 := HMx.out.kN.cell 1; have n2 := HMx.out.kN.cell 2; have ff := HMx.out.kF.cell 0; have b0 := HMx.out.kB.cell 0; have b1 := HMx.out.kB.cell 1; have b2 := HMx.out.kB.cell 2; have ss := HMx.out.kS.cell 0; have ll := HMx.out.kL.cell 0; have dd := HMx.out.kD.cell 0; have tt := HMx.out.kT.cell 0; simp at n0 n1 n2 ff b0 b1 b2 ss ll dd tt; unfold tryV at tt
            have dl := HMx.out.left.cell hjm
            rw [HFJA.out] at dl
            refine wpAnyT_takeD (i := 0) (v := ?_) (some 100) rfl rfl (by kernel_rfl) (by kernel_rfl) (by kernel_rfl) (by kernel_rfl) (fun _ _ _ h => h) (Or.inl ⟨by rfl, ?_⟩) (by assumption) (by assumption) ?_
            rotate_left
            · intro w hSw; (try dsimp only at hSw); go_simp; (try with_reducible rfl)
            try simp only [Act.put, List.setIfInBounds_toArray, List.set_cons_zero, List.set_cons_succ]
            refine wpAnyT_takeW (i := 1) (v := ?_) (some 101) rfl rfl (by kernel_rfl) (by kernel_rfl) (by kernel_rfl) (by kernel_rfl) (fun _ _ _ h => h) (Or.inl ⟨by rfl, ?_⟩) (by assumption) (by assumption) ?_
            rotate_left
            · intro w hSw; (try dsimp only at hSw); go_simp; (try with_reducible rfl)
            try simp only [Act.put, List.setIfInBounds_toArray, List.set_cons_zero, List.set_cons_succ]
            refine wpAnyT_takeW (i := 2) (v := ?_) (some 102) rfl rfl (by kernel_rfl) (by kernel_rfl) (by kernel_rfl) (by kernel_rfl) (fun _ _ _ h => h) (Or.inl ⟨by rfl, ?_⟩) (by assumption) (by assumption) ?_
            rotate_left
            · intro w hSw; (try dsimp only at hSw); go_simp; (try with_reducible rfl)
            try simp only [Act.put, List.setIfInBounds_toArray, List.set_cons_zero, List.set_cons_succ]
            refine wpAnyT_takeD (i := 3) (v := ?_) (some 103) rfl rfl (by kernel_rfl) (by kernel_rfl) (by kernel_rfl) (by kernel_rfl) (fun _ _ _ h => h) (Or.inl ⟨by rfl, ?_⟩) (by assumption) (by assumption) ?_
            rotate_left
            · intro w hSw; (try dsimp only at hSw); go_simp; (try with_reducible rfl)
            try simp only [Act.put, List.setIfInBounds_toArray, List.set_cons_zero, List.set_cons_succ]
            refine wpAnyT_takeD (i := 4) (v := ?_) (some 104) rfl rfl (by kernel_rfl) (by kernel_rfl) (by kernel_rfl) (by kernel_rfl) (fun _ _ _ h => h) (Or.inl ⟨by rfl, ?_⟩) (by assumption) (by assumption) ?_
            rotate_left
            · intro w hSw; (try dsimp only at hSw); go_simp; (try with_reducible rfl)
            try simp only [Act.put, List.setIfInBounds_toArray, List.set_cons_zero, List.set_cons_succ]
            refine wpAnyT_takeW (i := 5) (v := ?_) (some 105) rfl rfl (by kernel_rfl) (by kernel_rfl) (by kernel_rfl) (by kernel_rfl) (fun _ _ _ h => h) (Or.inl ⟨by rfl, ?_⟩) (by assumption) (by assumption) ?_
            rotate_left
            · intro w hSw; (try dsimp only at hSw); go_simp; (try with_reducible rfl)
            try simp only [Act.put, List.setIfInBounds_toArray, List.set_cons_zero, List.set_cons_succ]
            refine wpAnyT_takeW (i := 6) (v := ?_) (some 106) rfl rfl (by kernel_rfl) (by kernel_rfl) (by kernel_rfl) (by kernel_rfl) (fun _ _ _ h => h) (Or.inl ⟨by rfl, ?_⟩) (by assumption) (by assumption) ?_
            rotate_left
            · intro w hSw; (try dsimp only at hSw); go_simp; (try with_reducible rfl)
            try simp only [Act.put, List.setIfInBounds_toArray, List.set_cons_zero, List.set_cons_succ]
            refine wpAnyT_takeD (i := 7) (v := ?_) (some 107) rfl rfl (by kernel_rfl) (by kernel_rfl) (by kernel_rfl) (by kernel_rfl) (fun _ _ _ h => h) (Or.inl ⟨by rfl, ?_⟩) (by assumption) (by assumption) ?_
            rotate_left
            · intro w hSw; (try dsimp only at hSw); go_simp; (try with_reducible rfl)
            try simp only [Act.put, List.setIfInBounds_toArray, List.set_cons_zero, List.set_cons_succ]
            refine wpAnyT_ready (rs := [8]) (by kernel_rfl) (by simp) ?_
            refine AllReadyT.cons rfl (fun K hK => ?_) AllReadyT.nil
            (go_simp; go_at_call 51; with_reducible refine (H51.out _).mono ?_; rintro e w8 ⟨rfl, hb8⟩; have HMc := Lib.hid (HMx.out.below hb8.out); clear n0 n1 n2 ff b0 b1 b2 ss ll dd tt; have n0 := HMc.out.kN.cell 0; have n1 := HMc.out.kN.cell 1; have n2 := HMc.out.kN.cell 2; have ff := HMc.out.kF.cell 0; have b0 := HMc.out.kB.cell 0; have b1 := HMc.out.kB.cell 1; have b2 := HMc.out.kB.cell 2; have ss := HMc.out.kS.cell 0; have ll := HMc.out.kL.cell 0; have dd := HMc.out.kD.cell 0; have tt := HMc.out.kT.cell 0; simp at n0 n1 n2 ff b0 b1 b2 ss ll dd tt; unfold tryV at tt; have dl := HMc.out.left.cell hjm; rw [HFJA.out] at dl; have fl := HMc.out.left.frozen j; clear hb8; go_wp2_with fail)
            refine hK.out _ _ ?_ (fun hHeld hHeldT => ?_)
            · (try dsimp only); (exact ⟨⟨⟨ll, ss⟩, dl, HRD.out _ HMc.out.low⟩, trivial⟩)
            clear hK K
            try simp only [List.getElem_toArray, List.getElem_cons_succ, List.getElem_cons_zero]
            try simp only [Act.put, List.setIfInBounds_toArray, List.set_cons_zero, List.set_cons_succ]
            refine wpAnyT_takeW (i := 9) (v := ?_) (some 109) rfl rfl (by kernel_rfl) (by kernel_rfl) (by kernel_rfl) (by kernel_rfl) (fun _ _ _ h => h) (Or.inl ⟨by rfl, ?_⟩) (by assumption) (by assumption) ?_
            rotate_left
            · intro w hSw; (try dsimp only at hSw); go_simp; (try with_reducible rfl)
            try simp only [Act.put, List.setIfInBounds_toArray, List.set_cons_zero, List.set_cons_succ]
            refine wpAnyT_takeW (i := 10) (v := ?_) (some 110) rfl rfl (by kernel_rfl) (by kernel_rfl) (by kernel_rfl) (by kernel_rfl) (fun _ _ _ h => h) (Or.inl ⟨by rfl, ?_⟩) (by assumption) (by assumption) ?_
            rotate_left
            · intro w hSw; (try dsimp only at hSw); go_simp; (try with_reducible rfl)
            try simp only [Act.put, List.setIfInBounds_toArray, List.set_cons_zero, List.set_cons_succ]
            refine wpAnyT_ready (rs := [11]) (by kernel_rfl) (by simp) ?_
            refine AllReadyT.past rfl (by kernel_rfl) (fun K hK => ?_)
            go_simp
            refine hK.out _ _ ?_ ?_
            · (try dsimp only); (try exact trivial)
            clear hK K
            try simp only [List.getElem_toArray, List.getElem_cons_succ, List.getElem_cons_zero]
            try simp only [Act.put, List.setIfInBounds_toArray, List.set_cons_zero, List.set_cons_succ]
            refine wpAnyT_done (by kernel_rfl) ?_ _
            refine NoPanic.normal ?_
            have hM2 := HMc.out.setL j (fjA - gvv)
            rw [show (fun q => if q = j then fjA - gvv else F q) = F2 from by rw [HEA.out, HF2.out]] at hM2
            obtain ⟨w2, hw2⟩ : ∃ W', W' = w8.setCell ⟨gR, j, none⟩ (.int .i64 (fjA - gvv)) := ⟨_, rfl⟩
            rw [← hw2] at hM2
            have HM2 := Lib.hid hM2
            try rw [← hw2]
            clear hw2 hM2 dl fl HMx HMc HMa HM1 n0 n1 n2 ff b0 b1 b2 ss ll dd tt
            have n0 := HM2.out.kN.cell 0; have n1 := HM2.out.kN.cell 1; have n2 := HM2.out.kN.cell 2; have ff := HM2.out.kF.cell 0; have b0 := HM2.out.kB.cell 0; have b1 := HM2.out.kB.cell 1; have b2 := HM2.out.kB.cell 2; have ss := HM2.out.kS.cell 0; have ll := HM2.out.kL.cell 0; have dd := HM2.out.kD.cell 0; have tt := HM2.out.kT.cell 0; simp at n0 n1 n2 ff b0 b1 b2 ss ll dd tt; unfold tryV at tt
            have HCALL := Lib.hid (HIH.out (j : Int) bk y _ vb ub bb w2 (by omega) (by omega) HOK1.out (by rw [HUE.out, HFE.out]; exact HM2.out))
            go_upto_region 23 with (go_at_call 114; refine HCALL.out.mono ?_; rintro e w3 ⟨⟨rv, rfl⟩, y3, v3, vb3, ub3, bb3, hM3⟩; have HM3 := Lib.hid hM3; clear hM3)
            have hM3 := HM3.out
            obtain ⟨bk3, hbk3⟩ : ∃ q, q = dfsP st ns f (l ++ [(j : Int)]) bk := ⟨_, rfl⟩
            rw [HUE.out, HFE.out, ← hbk3] at hM3
            rw [← hbk3] at HFS
            obtain ⟨g3, c3, hv3, -, -⟩ := hM3.row.form (by simp)
            rw [show ((l ++ [(j : Int)])).length = i + 1 from by rw [List.length_append, HLI.out]; rfl] at hv3
            subst hv3
            clear HM3
            have HM3 := Lib.hid hM3
            clear hM3 HCALL hbk3 HM2 n0 n1 n2 ff b0 b1 b2 ss ll dd tt
            have n0 := HM3.out.kN.cell 0; have n1 := HM3.out.kN.cell 1; have n2 := HM3.out.kN.cell 2; have ff := HM3.out.kF.cell 0; have b0 := HM3.out.kB.cell 0; have b1 := HM3.out.kB.cell 1; have b2 := HM3.out.kB.cell 2; have ss := HM3.out.kS.cell 0; have ll := HM3.out.kL.cell 0; have dd := HM3.out.kD.cell 0; have tt := HM3.out.kT.cell 0; simp at n0 n1 n2 ff b0 b1 b2 ss ll dd tt; unfold tryV at tt
            have dl := HM3.out.left.cell hjm
            rw [HFJB.out] at dl
            refine wp_region_noPanic ?_
            refine wp_region_T (S := (fun X => (X.cell? ⟨gL, 0, none⟩ = some (.slice (some ⟨gR, 0, none⟩) m m) ∧ X.cell? ⟨gS, 0, none⟩ = some (.slice (some ⟨ba, oa, none⟩) N c)) ∧ X.cell? ⟨gR, j, none⟩ = some (.int .i64 fjB) ∧ X.cell? ⟨ba, oa + i * 4, none⟩ = some (.int .i64 rd.id) ∧ X.cell? ⟨ba, oa + i * 4 + 1, none⟩ = some (.int .i64 rd.width) ∧ X.cell? ⟨ba, oa + i * 4 + 2, none⟩ = some (.int .i64 rd.len) ∧ X.cell? ⟨ba, oa + i * 4 + 3, none⟩ = some (.int .i64 rd.core))) (T := (fun _ => True)) 11 (by kernel_rfl) ?_ (fun hHeld hHeldT => ?_)
            · (try dsimp only); (exact ⟨⟨⟨ll, ss⟩, dl, HRD.out _ (HM3.out.low).drew⟩, trivial⟩)
            obtain ⟨x0, hx0⟩ : ∃ W, W = w3.drew := ⟨_, rfl⟩
            rw [← hx0] at hHeld ⊢
            have HMx := Lib.hid (show (SeaM wk B gN gF gB gS gL gD gT gR (.slice (some ⟨ba, oa, none⟩) N c) (.slice (some ⟨bd, od, none⟩) m cn) m (l ++ [(j : Int)]) (u + 1) y3 F2 bk3 (.slice (some ⟨g3, 0, none⟩) (i + 1) c3) vb3 ub3 bb3) x0 from by rw [hx0]; exact HM3.out.below ((Below.refl w3.heap.size w3).drew))
            clear hx0
            clear dl n0 n1 n2 ff b0 b1 b2 ss ll dd tt
            have n0 := HMx.out.kN.cell 0; have n1 := HMx.out.kN.cell 1; have n2 := HMx.out.kN.cell 2; have ff := HMx.out.kF.cell 0; have b0 := HMx.out.kB.cell 0; have b1 := HMx.out.kB.cell 1; have b2 := HMx.out.kB.cell 2; have ss := HMx.out.kS.cell 0; have ll := HMx.out.kL.cell 0; have dd := HMx.out.kD.cell 0; have tt := HMx.out.kT.cell 0; simp at n0 n1 n2 ff b0 b1 b2 ss ll dd tt; unfold tryV at tt
            have dl := HMx.out.left.cell hjm
            rw [HFJB.out] at dl
            refine wpAnyT_takeD (i := 0) (v := ?_) (some 113) rfl rfl (by kernel_rfl) (by kernel_rfl) (by kernel_rfl) (by kernel_rfl) (fun _ _ _ h => h) (Or.inl ⟨by rfl, ?_⟩) (by assumption) (by assumption) ?_
            rotate_left
            · intro w hSw; (try dsimp only at hSw); go_simp; (try with_reducible rfl)
            try simp only [Act.put, List.setIfInBounds_toArray, List.set_cons_zero, List.set_cons_succ]
            refine wpAnyT_takeW (i := 1) (v := ?_) (some 114) rfl rfl (by kernel_rfl) (by kernel_rfl) (by kernel_rfl) (by kernel_rfl) (fun _ _ _ h => h) (Or.inl ⟨by rfl, ?_⟩) (by assumption) (by assumption) ?_
            rotate_left
            · intro w hSw; (try dsimp only at hSw); go_simp; (try with_reducible rfl)
            try simp only [Act.put, List.setIfInBounds_toArray, List.set_cons_zero, List.set_cons_succ]
            refine wpAnyT_takeW (i := 2) (v := ?_) (some 115) rfl rfl (by kernel_rfl) (by kernel_rfl) (by kernel_rfl) (by kernel_rfl) (fun _ _ _ h => h) (Or.inl ⟨by rfl, ?_⟩) (by assumption) (by assumption) ?_
            rotate_left
            · intro w hSw; (try dsimp only at hSw); go_simp; (try with_reducible rfl)
            try simp only [Act.put, List.setIfInBounds_toArray, List.set_cons_zero, List.set_cons_succ]
            refine wpAnyT_takeD (i := 3) (v := ?_) (some 116) rfl rfl (by kernel_rfl) (by kernel_rfl) (by kernel_rfl) (by kernel_rfl) (fun _ _ _ h => h) (Or.inl ⟨by rfl, ?_⟩) (by assumption) (by assumption) ?_
            rotate_left
            · intro w hSw; (try dsimp only at hSw); go_simp; (try with_reducible rfl)
            try simp only [Act.put, List.setIfInBounds_toArray, List.set_cons_zero, List.set_cons_succ]
            refine wpAnyT_takeD (i := 4) (v := ?_) (some 117) rfl rfl (by kernel_rfl) (by kernel_rfl) (by kernel_rfl) (by kernel_rfl) (fun _ _ _ h => h) (Or.inl ⟨by rfl, ?_⟩) (by assumption) (by assumption) ?_
            rotate_left
            · intro w hSw; (try dsimp only at hSw); go_simp; (try with_reducible rfl)
            try simp only [Act.put, List.setIfInBounds_toArray, List.set_cons_zero, List.set_cons_succ]
            refine wpAnyT_takeW (i := 5) (v := ?_) (some 118) rfl rfl (by kernel_rfl) (by kernel_rfl) (by kernel_rfl) (by kernel_rfl) (fun _ _ _ h => h) (Or.inl ⟨by rfl, ?_⟩) (by assumption) (by assumption) ?_
            rotate_left
            · intro w hSw; (try dsimp only at hSw); go_simp; (try with_reducible rfl)
            try simp only [Act.put, List.setIfInBounds_toArray, List.set_cons_zero, List.set_cons_succ]
            refine wpAnyT_takeW (i := 6) (v := ?_) (some 119) rfl rfl (by kernel_rfl) (by kernel_rfl) (by kernel_rfl) (by kernel_rfl) (fun _ _ _ h => h) (Or.inl ⟨by rfl, ?_⟩) (by assumption) (by assumption) ?_
            rotate_left
            · intro w hSw; (try dsimp only at hSw); go_simp; (try with_reducible rfl)
            try simp only [Act.put, List.setIfInBounds_toArray, List.set_cons_zero, List.set_cons_succ]
            refine wpAnyT_takeD (i := 7) (v := ?_) (some 120) rfl rfl (by kernel_rfl) (by kernel_rfl) (by kernel_rfl) (by kernel_rfl) (fun _ _ _ h => h) (Or.inl ⟨by rfl, ?_⟩) (by assumption) (by assumption) ?_
            rotate_left
            · intro w hSw; (try dsimp only at hSw); go_simp; (try with_reducible rfl)
            try simp only [Act.put, List.setIfInBounds_toArray, List.set_cons_zero, List.set_cons_succ]
            refine wpAnyT_ready (rs := [8]) (by kernel_rfl) (by simp) ?_
            refine AllReadyT.cons rfl (fun K hK => ?_) AllReadyT.nil
            (go_simp; go_at_call 51; with_reducible refine (H51.out _).mono ?_; rintro e w8 ⟨rfl, hb8⟩; have HMc := Lib.hid (HMx.out.below hb8.out); clear n0 n1 n2 ff b0 b1 b2 ss ll dd tt; have n0 := HMc.out.kN.cell 0; have n1 := HMc.out.kN.cell 1; have n2 := HMc.out.kN.cell 2; have ff := HMc.out.kF.cell 0; have b0 := HMc.out.kB.cell 0; have b1 := HMc.out.kB.cell 1; have b2 := HMc.out.kB.cell 2; have ss := HMc.out.kS.cell 0; have ll := HMc.out.kL.cell 0; have dd := HMc.out.kD.cell 0; have tt := HMc.out.kT.cell 0; simp at n0 n1 n2 ff b0 b1 b2 ss ll dd tt; unfold tryV at tt; have dl := HMc.out.left.cell hjm; rw [HFJB.out] at dl; have fl := HMc.out.left.frozen j; clear hb8; go_wp2_with fail)
            refine hK.out _ _ ?_ (fun hHeld hHeldT => ?_)
            · (try dsimp only); (exact ⟨⟨⟨ll, ss⟩, dl, HRD.out _ HMc.out.low⟩, trivial⟩)
            clear hK K
            try simp only [List.getElem_toArray, List.getElem_cons_succ, List.getElem_cons_zero]
            try simp only [Act.put, List.setIfInBounds_toArray, List.set_cons_zero, List.set_cons_succ]
            refine wpAnyT_takeW (i := 9) (v := ?_) (some 122) rfl rfl (by kernel_rfl) (by kernel_rfl) (by kernel_rfl) (by kernel_rfl) (fun _ _ _ h => h) (Or.inl ⟨by rfl, ?_⟩) (by assumption) (by assumption) ?_
            rotate_left
            · intro w hSw; (try dsimp only at hSw); go_simp; (try with_reducible rfl)
            try simp only [Act.put, List.setIfInBounds_toArray, List.set_cons_zero, List.set_cons_succ]
            refine wpAnyT_takeW (i := 10) (v := ?_) (some 123) rfl rfl (by kernel_rfl) (by kernel_rfl) (by kernel_rfl) (by kernel_rfl) (fun _ _ _ h => h) (Or.inl ⟨by rfl, ?_⟩) (by assumption) (by assumption) ?_
            rotate_left
            · intro w hSw; (try dsimp only at hSw); go_simp; (try with_reducible rfl)
            try simp only [Act.put, List.setIfInBounds_toArray, List.set_cons_zero, List.set_cons_succ]
            refine wpAnyT_ready (rs := [11]) (by kernel_rfl) (by simp) ?_
            refine AllReadyT.past rfl (by kernel_rfl) (fun K hK => ?_)
            go_simp
            refine hK.out _ _ ?_ ?_
            · (try dsimp only); (try exact trivial)
            clear hK K
            try simp only [List.getElem_toArray, List.getElem_cons_succ, List.getElem_cons_zero]
            try simp only [Act.put, List.setIfInBounds_toArray, List.set_cons_zero, List.set_cons_succ]
            refine wpAnyT_done (by kernel_rfl) ?_ _
            refine NoPanic.normal ?_
            have hM4 := HMc.out.setL j (fjB + gvv)
            rw [show (fun q => if q = j then fjB + gvv else F2 q) = F from by rw [HEB.out]; exact HF4.out] at hM4
            obtain ⟨w4, hw4⟩ : ∃ W', W' = w8.setCell ⟨gR, j, none⟩ (.int .i64 (fjB + gvv)) := ⟨_, rfl⟩
            rw [← hw4] at hM4
            have HM4 := Lib.hid hM4
            try rw [← hw4]
            clear hw4 hM4 dl fl HMx HMc HM3 n0 n1 n2 ff b0 b1 b2 ss ll dd tt
            have n0 := HM4.out.kN.cell 0; have n1 := HM4.out.kN.cell 1; have n2 := HM4.out.kN.cell 2; have ff := HM4.out.kF.cell 0; have b0 := HM4.out.kB.cell 0; have b1 := HM4.out.kB.cell 1; have b2 := HM4.out.kB.cell 2; have ss := HM4.out.kS.cell 0; have ll := HM4.out.kL.cell 0; have dd := HM4.out.kD.cell 0; have tt := HM4.out.kT.cell 0; simp at n0 n1 n2 ff b0 b1 b2 ss ll dd tt; unfold tryV at tt
            have hcap : i ≤ c3 := by
              have h := HM4.out.row
              rcases h.2 with ⟨h0, _⟩ | ⟨g', cap', cur, hv, _, _, hle, _⟩
              · cases h0
              · injection hv with _ _ h3; rw [List.length_append] at hle; have := HLI.out; simp at hle; omega
            have hcap2 : (i : Int) ≤ (c3 : Int) := by omega
            go_upto_region 24 with fail
            refine wp_region_noPanic ?_
            refine wp_region_T (S := (fun X => X.cell? ⟨gN, 0, none⟩ = some (.slice (some ⟨g3, 0, none⟩) (i + 1) c3) ∧ X.cell? ⟨gN, 1, none⟩ = some (.int .i64 (u + 1)))) (T := (fun _ => True)) 8 (by kernel_rfl) ?_ (fun hHeld hHeldT => ?_)
            · (try dsimp only); (exact ⟨⟨n0, n1⟩, trivial⟩)
            obtain ⟨x0, hx0⟩ : ∃ W, W = w4.drew := ⟨_, rfl⟩
            rw [← hx0] at hHeld ⊢
            have HMx := Lib.hid (show SeaM wk B gN gF gB gS gL gD gT gR (.slice (some ⟨ba, oa, none⟩) N c) (.slice (some ⟨bd, od, none⟩) m cn) m (l ++ [(j : Int)]) (u + 1) y3 F bk3 (.slice (some ⟨g3, 0, none⟩) (i + 1) c3) vb3 ub3 bb3 x0 from by rw [hx0]; exact HM4.out.below ((Below.refl w4.heap.size w4).drew))
            clear hx0
            clear n0 n1 n2 ff b0 b1 b2 ss ll dd tt
            have n0 := HMx.out.kN.cell 0; have n1 := HMx.out.kN.cell 1; have n2 := HMx.out.kN.cell 2; have ff := HMx.out.kF.cell 0; have b0 := HMx.out.kB.cell 0; have b1 := HMx.out.kB.cell 1; have b2 := HMx.out.kB.cell 2; have ss := HMx.out.kS.cell 0; have ll := HMx.out.kL.cell 0; have dd := HMx.out.kD.cell 0; have tt := HMx.out.kT.cell 0; simp at n0 n1 n2 ff b0 b1 b2 ss ll dd tt; unfold tryV at tt
            have f0 := HMx.out.kN.frozen 0
            have k7 := HMx.out.kN.set_ 0 (.slice (some ⟨g3, 0, none⟩) i c3)
            have m1 := k7.cell 1
            have e1 := k7.frozen 1
            simp at m1
            clear k7
            refine wpAnyT_takeW (i := 0) (v := ?_) (some 124) rfl rfl (by kernel_rfl) (by kernel_rfl) (by kernel_rfl) (by kernel_rfl) (fun _ _ _ h => h) (Or.inl ⟨by rfl, ?_⟩) (by assumption) (by assumption) ?_
            rotate_left
            · intro w hSw; (try dsimp only at hSw); go_simp; (try with_reducible rfl)
            try simp only [Act.put, List.setIfInBounds_toArray, List.set_cons_zero, List.set_cons_succ]
            refine wpAnyT_takeD (i := 1) (v := ?_) (some 125) rfl rfl (by kernel_rfl) (by kernel_rfl) (by kernel_rfl) (by kernel_rfl) (fun _ _ _ h => h) (Or.inl ⟨by rfl, ?_⟩) (by assumption) (by assumption) ?_
            rotate_left
            · intro w hSw; (try dsimp only at hSw); go_simp; (try with_reducible rfl)
            try simp only [Act.put, List.setIfInBounds_toArray, List.set_cons_zero, List.set_cons_succ]
            refine wpAnyT_takeW (i := 2) (v := ?_) (some 126) rfl rfl (by kernel_rfl) (by kernel_rfl) (by kernel_rfl) (by kernel_rfl) (fun _ _ _ h => h) (Or.inl ⟨by rfl, ?_⟩) (by assumption) (by assumption) ?_
            rotate_left
            · intro w hSw; (try dsimp only at hSw); go_simp; (try with_reducible rfl)
            try simp only [Act.put, List.setIfInBounds_toArray, List.set_cons_zero, List.set_cons_succ]
            refine wpAnyT_takeW (i := 3) (v := ?_) (some 127) rfl rfl (by kernel_rfl) (by kernel_rfl) (by kernel_rfl) (by kernel_rfl) (fun _ _ _ h => h) (Or.inl ⟨by rfl, ?_⟩) (by assumption) (by assumption) ?_
            rotate_left
            · intro w hSw; (try dsimp only at hSw); go_simp; (try with_reducible rfl)
            try simp only [Act.put, List.setIfInBounds_toArray, List.set_cons_zero, List.set_cons_succ]
            refine wpAnyT_takeW (i := 4) (v := ?_) (some 128) rfl rfl (by kernel_rfl) (by kernel_rfl) (by kernel_rfl) (by kernel_rfl) (fun _ _ _ h => h) (Or.inl ⟨by rfl, ?_⟩) (by assumption) (by assumption) ?_
            rotate_left
            · intro w hSw; (try dsimp only at hSw); go_simp; (try with_reducible rfl)
            try simp only [Act.put, List.setIfInBounds_toArray, List.set_cons_zero, List.set_cons_succ]
            refine wpAnyT_takeD (i := 5) (v := ?_) (some 129) rfl rfl (by kernel_rfl) (by kernel_rfl) (by kernel_rfl) (by kernel_rfl) (fun _ _ _ h => h) (Or.inl ⟨by rfl, ?_⟩) (by assumption) (by assumption) ?_
            rotate_left
            · intro w hSw; (try dsimp only at hSw); go_simp; (try with_reducible rfl)
            try simp only [Act.put, List.setIfInBounds_toArray, List.set_cons_zero, List.set_cons_succ]
            refine wpAnyT_takeW (i := 6) (v := ?_) (some 130) rfl rfl (by kernel_rfl) (by kernel_rfl) (by kernel_rfl) (by kernel_rfl) (fun _ _ _ h => h) (Or.inl ⟨by rfl, ?_⟩) (by assumption) (by assumption) ?_
            rotate_left
            · intro w hSw; (try dsimp only at hSw); go_simp; (try with_reducible rfl)
            try simp only [Act.put, List.setIfInBounds_toArray, List.set_cons_zero, List.set_cons_succ]
            refine wpAnyT_takeW (i := 7) (v := ?_) (some 131) rfl rfl (by kernel_rfl) (by kernel_rfl) (by kernel_rfl) (by kernel_rfl) (fun _ _ _ h => h) (Or.inl ⟨by rfl, ?_⟩) (by assumption) (by assumption) ?_
            rotate_left
            · intro w hSw; (try dsimp only at hSw); go_simp; (try with_reducible rfl)
            try simp only [Act.put, List.setIfInBounds_toArray, List.set_cons_zero, List.set_cons_succ]
            refine wpAnyT_ready (rs := [8]) (by kernel_rfl) (by simp) ?_
            refine AllReadyT.past rfl (by kernel_rfl) (fun K hK => ?_)
            go_simp
            refine hK.out _ _ ?_ ?_
            · (try dsimp only); (try exact trivial)
            clear hK K
            try simp only [List.getElem_toArray, List.getElem_cons_succ, List.getElem_cons_zero]
            try simp only [Act.put, List.setIfInBounds_toArray, List.set_cons_zero, List.set_cons_succ]
            refine wpAnyT_ready (rs := [9]) (by kernel_rfl) (by simp) ?_
            refine AllReadyT.past rfl (by kernel_rfl) (fun K hK => ?_)
            go_simp
            refine hK.out _ _ ?_ ?_
            · (try dsimp only); (try exact trivial)
            clear hK K
            try simp only [List.getElem_toArray, List.getElem_cons_succ, List.getElem_cons_zero]
            try simp only [Act.put, List.setIfInBounds_toArray, List.set_cons_zero, List.set_cons_succ]
            refine wpAnyT_ready (rs := [10]) (by kernel_rfl) (by simp) ?_
            refine AllReadyT.past rfl (by kernel_rfl) (fun K hK => ?_)
            go_simp
            refine hK.out _ _ ?_ ?_
            · (try dsimp only); (try exact trivial)
            clear hK K
            try simp only [List.getElem_toArray, List.getElem_cons_succ, List.getElem_cons_zero]
            try simp only [Act.put, List.setIfInBounds_toArray, List.set_cons_zero, List.set_cons_succ]
            refine wpAnyT_done (by kernel_rfl) ?_ _
            refine NoPanic.normal ?_
            have hp := ownsRow_pop (size := 1) (n := i) (xs := rowV l) (last := [.int .i64 (j : Int)]) (by simp [rowV, HLI.out]) (by have := HMx.out.row; rw [List.length_append, HLI.out] at this; simpa [rowV] using this)
            have hM5 := (HMx.out.setV (l' := l) (v' := .slice (some ⟨g3, 0, none⟩) i c3) (by rw [HLI.out]; exact hp) (by have := HMx.out.sep; simpa [Value.ownBlock] using this)).setU u
            have HM5 := Lib.hid hM5
            clear hM5 hp
            go_wp2_with fail
            go_roundw
            case rel => exact ⟨j + 1 + 1, y3, c3, some ⟨g3, 0, none⟩, vb3, ub3, bb3, by omega, by go_num, Lib.hid (by rw [HFS.out]; have := HM5.out; first | exact this | (rw [show u + 1 - 1 = u by omega]; exact this) | (simp; exact this))⟩
            case measure => simp [intOf]; omega
          · have wb : (rd.width != nw) = true := by simpa using hwq
            have hok : okP st ns i (j : Int) = false := by rw [HOK.out]; exact decide_eq_false hwq
            have hsm : stepP st ns f l bk (j : Int) = bk := by unfold stepP; rw [HLI.out, if_neg (by rw [hok]; simp)]
            rw [hsm] at HFS
            clear hok hsm hwq
            go_wp2_with fail
            go_quiet (fail)
            go_wp2_with fail
            go_roundw
            case rel => exact ⟨j + 1 + 1, y, cv, Av, vb, ub, bb, by omega, by go_num, Lib.hid (by rw [HFS.out]; exact HM.out.below (below_drewN (Below.refl _ _) _))⟩
            case measure => simp [intOf]; omega
      · obtain rfl : k = m + 1 := by omega
        have hM := HM.out
        rw [List.take_of_length_le (by rw [candL_len]; exact Nat.le_refl _), ← HRB.out] at hM
        have HMF := Lib.hid hM
        have n0 := HMF.out.kN.cell 0; have n1 := HMF.out.kN.cell 1; have n2 := HMF.out.kN.cell 2; have ff := HMF.out.kF.cell 0; have b0 := HMF.out.kB.cell 0; have b1 := HMF.out.kB.cell 1; have b2 := HMF.out.kB.cell 2; have ss := HMF.out.kS.cell 0; have ll := HMF.out.kL.cell 0; have dd := HMF.out.kD.cell 0; have tt := HMF.out.kT.cell 0; simp at n0 n1 n2 ff b0 b1 b2 ss ll dd tt; unfold tryV at tt
        have tE : ¬ ((m + 1 : Nat) : Int) - 1 < (m : Int) := by omega
        clear hM HM
        go_wp2_with fail
        go_end0
        exact ⟨⟨_, rfl⟩, y, _, vb, ub, bb, by rw [← HU.out, ← HF.out]; exact HMF.out⟩
end Go.Proofs.Ytnbnfadmbggfnaa
