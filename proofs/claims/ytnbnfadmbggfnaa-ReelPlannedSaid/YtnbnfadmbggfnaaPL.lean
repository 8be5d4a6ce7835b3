/- ReelPlanned, plain (what the law's loops reckon, why Plan's plan is the least), and its walk; conditions: bytes in memory. Printed by a program. -/
import Derived.Test.YtnbnfadmbggfnaaPJ
import Derived.Test.YtnbnfadmbggfnaaQT
set_option linter.unusedSimpArgs false
set_option linter.unusedVariables false
namespace Go.Rl
open Go.Fh Go.RowKit
def mineF (a : List Nat) (m k : Nat) : Int := dig a k (m + 1) - 1
def mineL (a : List Nat) (N m : Nat) : List Int := upF (mineF a m) N
theorem mineF_bd (a : List Nat) (m k : Nat) : -1 ≤ mineF a m k ∧ mineF a m k < m := by
  have := dig_bd a k (n := m + 1) (by omega)
  unfold mineF
  omega
theorem mine_len (a : List Nat) (N m : Nat) : (mineL a N m).length = N := upF_len _ _
theorem mine_nd {a : List Nat} {N m k : Nat} (h : k < N) : nd (mineL a N m) k = mineF a m k := by
  rw [nd_get (by rw [mine_len]; exact h)]
  exact upF_get _ _ _ _
theorem mine_bd {a : List Nat} {N m : Nat} : ∀ x ∈ mineL a N m, -1 ≤ x ∧ x < m := by
  intro x hx
  obtain ⟨i, _, rfl⟩ := List.mem_map.1 (show x ∈ (List.range N).map _ from hx)
  exact mineF_bd a m i
section
variable {st : List ReelD} {ns : List (Int × Int)} {l : List Int}
def okK (st : List ReelD) (ns : List (Int × Int)) (l : List Int) (k : Nat) : Bool := (List.range k).all fun i => okP st ns i (nd l i)
theorem okK_succ (k : Nat) : okK st ns l (k + 1) = (okK st ns l k && okP st ns k (nd l k)) := by
  unfold okK
  rw [List.range_succ, List.all_append]
  simp
def fitK (st : List ReelD) (ns : List (Int × Int)) (l : List Int) (k : Nat) : Bool := (List.range k).all fun s => decide (leftF st ns l s ≤ 0)
theorem fitK_succ (k : Nat) : fitK st ns l (k + 1) = (fitK st ns l k && decide (leftF st ns l k ≤ 0)) := by
  unfold fitK
  rw [List.range_succ, List.all_append]
  simp
theorem fitK_all : fitK st ns l ns.length = fitP st ns l := rfl
theorem ver_no (h : (okK st ns l l.length && fitP st ns l) = false) : verP st ns l = (0, 0, 70) := by
  unfold verP
  by_cases h1 : okK st ns l l.length = true
  · rw [h1, Bool.true_and] at h
    rw [h]
    simp
  · have h1 : okK st ns l l.length = false := by simpa using h1
    unfold okK at h1
    rw [h1]
    simp
theorem good_of (hlen : l.length = st.length) (hr : ∀ x ∈ l, -1 ≤ x ∧ x < ns.length) (h : (okK st ns l l.length && fitP st ns l) = true) : GoodP st ns l := by
  obtain ⟨h1, h2⟩ := Bool.and_eq_true _ _ ▸ h
  refine ⟨hlen, fun i hi => ?_, h2⟩
  have hx := hr _ (List.getElem_mem hi)
  rw [nd_get hi]
  refine ⟨hx.1, hx.2, ?_⟩
  have := List.all_eq_true.1 h1 i (List.mem_range.2 hi)
  rwa [nd_get hi] at this
theorem law_none (hb : bestPl st ns = none) (hlen : l.length = st.length) (hr : ∀ x ∈ l, -1 ≤ x ∧ x < ns.length) : (okK st ns l l.length && fitP st ns l) = false := by
  cases h : (okK st ns l l.length && fitP st ns l) with
  | false => rfl
  | true => exact absurd (good_of hlen hr h) ((bestPl_ok st ns).no hb l trivial)
theorem good_len {k : List Int} (h : GoodP st ns k) : ∀ x ∈ k, -1 ≤ x ∧ x < ns.length := by
  intro x hx
  obtain ⟨i, hi, rfl⟩ := List.mem_iff_getElem.1 hx
  have := h.ok i hi
  rw [nd_get hi] at this
  exact ⟨this.1, this.2.1⟩
theorem ver_yes {z : PlT} (hb : bestPl st ns = some z) (h : GoodP st ns l) : verP st ns l = if lessP z (plOf st ns l) = true then (0, 0, 7) else (usedL l, beyL st ns l, 0) := by
  rw [verP_ok (fun i hi => (h.ok i hi).2.2) h.fit, hb]
structure LawS (st : List ReelD) (ns : List (Int × Int)) (l : List Int) (z : PlT) : Prop where
  len : z.1.length = st.length
  bd : ∀ x ∈ z.1, -1 ≤ x ∧ x < ns.length
  ver : verP st ns z.1 = (z.2.1, z.2.2, 0)
  yes : (okK st ns l l.length && fitP st ns l) = true → (z.2.1 < usedL l ∨ (z.2.1 = usedL l ∧ z.2.2 ≤ beyL st ns l)) ∧ (l = z.1 → verP st ns l = (z.2.1, z.2.2, 0)) ∧ (l ≠ z.1 → verP st ns l = (0, 0, 7))
theorem law_some {z : PlT} (hb : bestPl st ns = some z) (hlen : l.length = st.length) (hr : ∀ x ∈ l, -1 ≤ x ∧ x < ns.length) : LawS st ns l z := by
  obtain ⟨k, _, hg, hz⟩ := (bestPl_ok st ns).yes z hb
  have hk : z.1 = k := by rw [hz]; rfl
  have hvz : verP st ns z.1 = (z.2.1, z.2.2, 0) := by
    rw [hk, ver_yes hb hg, ← hz, lessP_irr]
    rw [hz]
    rfl
  refine ⟨by rw [hk]; exact hg.len, by rw [hk]; exact good_len hg, hvz, fun h => ?_⟩
  have hl := good_of hlen hr h
  have hm := (bestPl_ok st ns).min z hb l trivial hl
  refine ⟨?_, fun e => by rw [e]; exact hvz, fun e => ?_⟩
  · rcases hm with e | e
    · rw [e]
      exact .inr ⟨rfl, Int.le_refl _⟩
    · unfold lessP at e
      have e1 : (plOf st ns l).2.1 = usedL l := rfl
      have e2 : (plOf st ns l).2.2 = beyL st ns l := rfl
      rw [e1, e2] at e
      by_cases q : z.2.1 = usedL l
      · by_cases q2 : z.2.2 = beyL st ns l
        · exact .inr ⟨q, by omega⟩
        · rw [if_neg (by simpa using q), if_pos q2] at e
          have := of_decide_eq_true e
          exact .inr ⟨q, by omega⟩
      · rw [if_pos q] at e
        have := of_decide_eq_true e
        exact .inl (by omega)
  · rcases hm with e' | e'
    · exact absurd (by rw [e']; rfl) e
    · rw [ver_yes hb hl, if_pos e']
end
end Go.Rl
namespace Go.Rl
open Go.Fh Go.RowKit
/-- what a plan gives, at work -/
structure LawM (w : Go.World) (gG : Nat) (m : Nat) (G : Nat → Int) (W : Go.World) : Prop where
  low : Below w.heap.size w W
  lo : w.heap.size ≤ gG
  got : RowF W gG G m
section
variable {w W X : Go.World} {gG : Nat} {m : Nat} {G : Nat → Int}
theorem LawM.below (h : LawM w gG m G W) (hb : Below W.heap.size W X) : LawM w gG m G X := ⟨bstep h.low hb, h.lo, h.got.below hb⟩
theorem LawM.setG (h : LawM w gG m G W) (i : Nat) (x : Int) : LawM w gG m (fun j => if j = i then x else G j) (W.setCell ⟨gG, i, none⟩ (.int .i64 x)) :=
  ⟨h.low.setCell (by exact h.lo) _, h.lo, h.got.set_ i x⟩
end
end Go.Rl
namespace Go.Proofs.Ytnbnfadmbggfnaa
open Go.RowKit Go.Fh Go.Rl
set_option maxRecDepth 20000 in
set_option maxHeartbeats 16000000 in
theorem reelPlanned_walk (haw : ∀ w, Calls Try.prog 17 #[] w fun e w' => e = .returned (.bool true) ∧ Below w.heap.size w w') (A0 : Option Addr) (c0 : Nat) (l0 : List Nat) (A1 : Option Addr) (c1 : Nat) (l1 : List Nat) (w : World) (hl0 : l0.length ≤ 9223372036854775807) (hl1 : l1.length ≤ 9223372036854775807) (hb0 : ∀ x ∈ l0, x ≤ 255) (hb1 : ∀ x ∈ l1, x ≤ 255) (s0 : Sl encBn 1 w w.heap.size A0 l0) (s1 : Sl encBn 1 w w.heap.size A1 l1) :
    Calls Try.prog 10 #[.slice A0 l0.length c0, .slice A1 l1.length c1] w fun e w' => e = .returned (.bool true) ∧ Below w.heap.size w w' := by
  obtain ⟨n1, n2, _⟩ := stoN_bd l0
  obtain ⟨m1, m2, _⟩ := needN_bd l0
  have h30 := stored_any A0 c0 l0 w hl0 hb0 s0
  have hok := sto_ok l0
  have hsl : (stoL l0).length = stoN l0 := upF_len _ _
  have hnl : (needL l0).length = needN l0 := upF_len _ _
  obtain ⟨st, hst⟩ : ∃ s, s = stoL l0 := ⟨_, rfl⟩
  obtain ⟨ns, hns⟩ : ∃ s, s = needL l0 := ⟨_, rfl⟩
  obtain ⟨N, hN⟩ : ∃ n, n = stoN l0 := ⟨_, rfl⟩
  obtain ⟨m, hm⟩ : ∃ n, n = needN l0 := ⟨_, rfl⟩
  rw [← hN] at n1 n2 h30 hsl
  rw [← hm] at m1 m2 h30 hnl
  rw [← hst] at h30 hok hsl
  rw [← hns] at h30 hok hnl
  have H30 := Lib.hid h30
  have HOK := Lib.hid hok
  have HSN := Lib.hid hsl
  have HNM := Lib.hid hnl
  have HS1 := Lib.hid s1
  have HL1 := Lib.hid hl1
  have HH1 := Lib.hid hb1
  have HAW := Lib.hid (fun W => haw W)
  have HST := Lib.hid (erW_right hok.er)
  have HNB := Lib.hid hok.nb
  have hmk := fun W => run_make_row' (P := Try.prog) 47 3 (.int .i64 0) 8 Try.underlying47 infoInt rfl .i64 .i64 m (by omega) (by omega) W
  have wm1 : wrap64 ((m : Int) + 1) = (m : Int) + 1 := by unfold wrap64; omega
  clear h30 hok hsl hnl hst hns hN hm hl0 hb0 s0 s1 haw hl1 hb1
  go_enter Try.func10, Try.ntmps10
  go_upto_region 2 with (go_at_call 30; with_reducible refine H30.out.mono ?_; rintro e w1 ⟨As, cs, An, cn, rfl, HA, HB, HB1⟩)
  go_upto_region 3 with fail
  obtain ⟨g, hg⟩ : ∃ g, g = w1.heap.size := ⟨_, rfl⟩
  obtain ⟨w2, hw2⟩ : ∃ W, W = w1.alloc (.cells #[.slice A1 l1.length c1, .int .i64 0] 74) := ⟨_, rfl⟩
  rw [← hw2, ← hg]
  have hb2 : Below w1.heap.size w1 w2 := by rw [hw2]; exact balR (Below.refl _ _) _
  have HD := Lib.hid (show DigAt w2 w1.heap.size A1 c1 l1 g 0 from ⟨by rw [hw2, hg]; exact Blk.new _ _ _, ((HS1.out.below HB1.out).mono HB1.out.size).below hb2, by omega, HL1.out, HH1.out⟩)
  have HB2 := Lib.hid hb2
  have hgw : w1.heap.size ≤ g := by omega
  clear hw2 hb2 hg H30
  go_wp2_with fail
  go_loopw [8, 35] (fun v q wr => ∃ (k : Nat) (A8 : Option Addr) (c8 : Nat), k ≤ N ∧ q = .int .i64 k ∧ v = .slice A8 k c8 ∧ Hid (wr.ownsRow w1.heap.size 3 1 (.slice A8 k c8) k ((upF (mineF l1 m) k).map (Value.int .i64))) ∧ Hid (DigAt wr w1.heap.size A1 c1 l1 g k) ∧ Hid (Below w1.heap.size w1 wr)) (fun _ q _ => N - (intOf q).toNat)
  case atStart => exact ⟨0, none, 0, Nat.zero_le _, rfl, rfl, Lib.hid (World.ownsRow_nil _ _ _ _), HD, HB2⟩
  case round =>
    clear HD HB2
    obtain ⟨k, A8, c8, hk, rfl, rfl, HO, HD, HBR⟩ := hrel
    by_cases hlt : k < N
    · obtain ⟨dv, hdv⟩ : ∃ d, d = dig l1 k (m + 1) := ⟨_, rfl⟩
      have bd := dig_bd l1 k (n := m + 1) (by omega)
      rw [← hdv] at bd
      have HX := Lib.hid (show ∀ W, DigAt W w1.heap.size A1 c1 l1 g k → Calls Try.prog 31 #[.pointer (some ⟨g, 0, none⟩), .int .i64 ((m : Int) + 1)] W fun e w' => e = .returned (.int .i64 dv) ∧ DigAt w' w1.heap.size A1 c1 l1 g (k + 1) ∧ W.grownBy w' (some g) from fun W h => by rw [hdv]; exact digit_gm W w1.heap.size A1 c1 l1 g _ (m + 1) _ (by push_cast; rfl) h (by omega) (by omega) (by omega))
      have HM := Lib.hid (show mineF l1 m k = dv - 1 from by unfold mineF; rw [hdv])
      have v1 : wrap64 (dv - 1) = dv - 1 := by unfold wrap64; omega
      obtain ⟨i3, hi3, z0, z1, z2⟩ := info_parts infoInt
      have HI3 := Lib.hid hi3
      have hmx : k + 1 ≤ maxLen := by simp only [maxLen]; omega
      have hmy : (k + 1) * 8 ≤ 140737488355328 := by omega
      clear hi3 hdv
      go_wp2_with fail
      go_at_call 31
      with_reducible refine (HX.out _ HD.out).mono ?_
      have HD0 := Lib.hid HD.out.k
      rintro e wk ⟨rfl, hd, hg⟩
      have HD := Lib.hid hd
      have HBR := Lib.hid (HBR.out.grown hg HBR.out.size (fun j e => by injection e with e; omega))
      have HO := Lib.hid (own_kept2 HO.out hg (.inr (fun e2 => own_blk_ne HO.out HD0.out (by decide) e2.symm)))
      clear HD0 hd hg
      go_wp2_with (at_builtin; have hsz := HBR.out.size; refine wpList_append_lies _ rfl (.tmp 37) (.tmp 44) 47 rfl w1.heap.size 3 i3 _ 1 8 Try.underlying47 HI3.out z0 z1 z2 rfl (by decide) (.slice A8 k c8) k ((upF (mineF l1 m) k).map (Value.int .i64)) rfl (own_belowV HO.out (balR (Below.refl _ _) _)) ⟨wk.heap.size, 0, none⟩ 1 1 [.int .i64 (dv - 1)] rfl rfl (news_of1 wk 3 #[.int .i64 (dv - 1)]) (by intro u hu; simp at hu; subst hu; rfl) (by decide) hmx hmy (by simp; omega) (wk.heap.size + 1) (by simp) ?_; intro g6 cap6 w6 hown6 hgrow6 hat6 hlt6; have HG6 := Lib.hid hgrow6; have HO6 := Lib.hid hown6; clear hown6 hgrow6 hat6 hlt6)
      go_roundw
      case rel =>
        have hlo : ∀ p, (Value.slice A8 k c8).ownBlock = some p → w1.heap.size ≤ p := fun p hp => (HO.out.lt p hp).1
        have hne : (Value.slice A8 k c8).ownBlock ≠ some g := fun e => own_blk_ne HO.out HD.out.k (by decide) e.symm
        refine ⟨k + 1, some ⟨g6, 0, none⟩, cap6, by omega, by go_num, rfl, Lib.hid ?_, Lib.hid ?_, Lib.hid ((balR HBR.out _).grown HG6.out (balR HBR.out _).size fun p hp => hlo p hp)⟩
        · have h := HO6.out
          rw [upF_succ, List.map_append, List.map_singleton, HM.out]
          exact h
        · exact (HD.out.gr (World.grownBy_alloc _ _ none) (by simp) (by simp)).gr HG6.out hne (fun j e => hlo j e)
      case measure => simp [intOf]; omega
    · obtain rfl : N = k := by omega
      obtain ⟨w5, hw5⟩ : ∃ W', W' = wr := ⟨_, rfl⟩
      rw [← hw5] at HO HBR ⊢
      obtain ⟨L, hL⟩ : ∃ L, L = mineL l1 N m := ⟨_, rfl⟩
      have hLN : L.length = N := by rw [hL]; exact mine_len _ _ _
      have HLL := Lib.hid (show Sl encInt 1 w5 w5.heap.size A8 L from own_sl (B := w1.heap.size) (c := c8) (by rw [hLN, hL]; exact HO.out))
      have HLB := Lib.hid (show ∀ x ∈ L, -1 ≤ x ∧ x < m from by rw [hL]; exact mine_bd)
      have HLN := Lib.hid hLN
      have HA5 := Lib.hid ((HA.out.below HBR.out).mono HBR.out.size)
      have HN5 := Lib.hid ((HB.out.below HBR.out).mono HBR.out.size)
      have HB5 := Lib.hid (bstep HB1.out HBR.out)
      clear hw5 hL hLN HO HD HBR HA HB HB1 hk hlt hgw HS1 HL1 HH1
      go_upto_region 11 with fail
      obtain ⟨gG, hgG⟩ : ∃ g, g = w5.heap.size := ⟨_, rfl⟩
      obtain ⟨w6, hw6⟩ : ∃ W, W = w5.alloc (.cells (madeCells #[.int .i64 0] m) 3) := ⟨_, rfl⟩
      rw [← hw6, ← hgG]
      have HV6 := Lib.hid (show LawM w5 gG m (gotK st L 0) w6 from by
        refine ⟨by rw [hw6]; exact balR (Below.refl _ _) _, by omega, ?_⟩
        have hk : Blk w6 gG 3 (madeCells #[Value.int .i64 0] m) := by rw [hw6, hgG]; exact Blk.new _ _ _
        have hk2 : RowF w6 gG (fun _ => 0) m := rowF_repl (u := 0) (by
          have e : madeCells #[Value.int .i64 0] m = (List.replicate m (Value.int .i64 0)).toArray := by rw [← toList_madeCells_one]
          rw [← e]; exact hk)
        exact hk2.congr (fun i _ => by simp [gotK, sumN]))
      clear hgG hw6 hmk
      go_wp2_with fail
      go_loopw [9, 11, 52] (fun u f q wr => ∃ k : Nat, k ≤ N ∧ q = .int .i64 k ∧ u = .int .i64 (useK6 L k) ∧ f = .bool (okK st ns L k) ∧ Hid (LawM w5 gG m (gotK st L k) wr)) (fun _ _ q _ => N - (intOf q).toNat)
      case atStart => exact ⟨0, Nat.zero_le _, rfl, by simp [useK6, sumN], by simp [okK], HV6⟩
      case round =>
        clear HV6
        obtain ⟨k, hk, rfl, rfl, rfl, HV0⟩ := hrel
        by_cases hlt : k < N
        · have hkl : k < L.length := by have := HLN.out; omega
          obtain ⟨bl, ol, hAl, hbl, d0⟩ := (HLL.out.below HV0.out.low).at1 hkl
          have hvk := HLB.out _ (List.getElem_mem hkl)
          obtain ⟨v, hvv⟩ : ∃ v, v = L[k] := ⟨_, rfl⟩
          rw [← hvv] at d0 hvk
          have HND := Lib.hid (show nd L k = v from by rw [nd_get hkl, hvv])
          have i0 : (0 : Int) ≤ (k : Int) := by omega
          have i1 : (k : Int) < (N : Int) := by omega
          clear hvv
          have hukb : 0 ≤ useK6 L k ∧ useK6 L k ≤ 10 := by
            have h1 := sumN_bd (f := fun i => if 0 ≤ nd L i then (1 : Int) else 0) (n := k) (B := 1) (fun i _ => by split <;> omega)
            unfold useK6
            omega
          obtain ⟨uk, huk⟩ : ∃ q, q = useK6 L k := ⟨_, rfl⟩
          obtain ⟨fb, hfb⟩ : ∃ q, q = okK st ns L k := ⟨_, rfl⟩
          rw [← huk] at hukb ⊢
          rw [← hfb]
          have HUK := Lib.hid huk
          have HFB := Lib.hid hfb
          by_cases hneg : v < 0
          · have hgs : gotK st L (k + 1) = gotK st L k := by funext s; unfold gotK; rw [sumN, HND.out, if_neg (by omega)]; omega
            have hus : useK6 L (k + 1) = uk := by rw [HUK.out]; unfold useK6; rw [sumN, HND.out, if_neg (by omega)]; omega
            have hfs : okK st ns L (k + 1) = fb := by
              rw [okK_succ, ← HFB.out, HND.out]
              unfold okP
              rw [show decide (v < 0) = true from decide_eq_true hneg]
              simp
            have HGS := Lib.hid hgs
            have HUS := Lib.hid hus
            have HFS := Lib.hid hfs
            have tn : decide (0 ≤ v) = false := decide_eq_false (by omega)
            subst hAl
            clear hgs hus hfs huk hfb
            go_wp2_with fail
            go_roundw
            case rel => exact ⟨k + 1, by omega, by go_num, by rw [HUS.out], by rw [HFS.out], Lib.hid (by rw [HGS.out]; exact HV0.out)⟩
            case measure => simp [intOf]; omega
          · obtain ⟨j, hj⟩ : ∃ j : Nat, v = (j : Int) := ⟨v.toNat, by omega⟩
            subst hj
            have hjm : j < m := by omega
            have hjn : j < ns.length := by have := HNM.out; omega
            have hiS : k < st.length := by have := HSN.out; omega
            obtain ⟨bd, od, hAn, hbd, p0, p1⟩ := Sl.at2 HN5.out hjn
            obtain ⟨ba, oa, hAA, hba, e0, e1, e2, e3⟩ := reel_at HA5.out hiS
            obtain ⟨rd, hrd⟩ : ∃ r, r = st[k] := ⟨_, rfl⟩
            obtain ⟨nw, hnw⟩ : ∃ r, r = ns[j].1 := ⟨_, rfl⟩
            rw [← hrd] at e0 e1 e2 e3
            rw [← hnw] at p0
            have hgd : st.getD k rl0 = rd := by rw [hrd]; simp [List.getD_eq_getElem?_getD, hiS]
            have hgn : (ns.getD j (0, 0)).1 = nw := by rw [hnw]; simp [List.getD_eq_getElem?_getD, hjn]
            have hro : ReelOk rd := by rw [hrd]; exact HST.out _ (List.getElem_mem hiS)
            have HRD := Lib.hid (show ∀ X, Below w5.heap.size w5 X → X.cell? ⟨ba, oa + k * 4, none⟩ = some (.int .i64 rd.id) ∧ X.cell? ⟨ba, oa + k * 4 + 1, none⟩ = some (.int .i64 rd.width) ∧ X.cell? ⟨ba, oa + k * 4 + 2, none⟩ = some (.int .i64 rd.len) ∧ X.cell? ⟨ba, oa + k * 4 + 3, none⟩ = some (.int .i64 rd.core) from fun X hb => ⟨(hb.cell hba).trans e0, (hb.cell hba).trans e1, (hb.cell hba).trans e2, (hb.cell hba).trans e3⟩)
            have HP0 := Lib.hid (show ∀ X, Below w5.heap.size w5 X → X.cell? ⟨bd, od + j * 2, none⟩ = some (.int .i64 nw) from fun X hb => (hb.cell hbd).trans p0)
            have hcore := hro.c0
            have hcore2 := hro.c1
            have hlen9 := hro.l1
            have hgvs : giv (st.getD k rl0) = rd.len - rd.core := by rw [hgd]; rfl
            have hok : okP st ns k (j : Int) = decide (rd.width = nw) := by
              unfold okP
              rw [hgd, Int.toNat_natCast, hgn, show decide ((j : Int) < 0) = false from decide_eq_false (by omega), Bool.false_or]
            have hj0 : (0 : Int) ≤ (j : Int) := by omega
            have hj1 : (j : Int) < (m : Int) := by omega
            have tn : decide (0 ≤ (j : Int)) = true := decide_eq_true (by omega)
            subst hAl hAn hAA
            clear p0 p1 e0 e1 e2 e3 hrd hnw hgd hgn hro
            have HOKP := Lib.hid hok
            obtain ⟨gj, hgj⟩ : ∃ q, q = gotK st L k j := ⟨_, rfl⟩
            have hgjb : 0 ≤ gj ∧ gj ≤ 200000000 := by
              have h1 := sumN_bd (f := fun i => if nd L i = (j : Int) then giv (st.getD i rl0) else 0) (n := k) (B := 20000000) (fun i _ => by
                split
                · by_cases hi : i < st.length
                  · have e : st.getD i rl0 = st[i] := by simp [List.getD_eq_getElem?_getD, hi]
                    have := HST.out _ (List.getElem_mem hi)
                    have a := this.c0
                    have b := this.c1
                    have d := this.l1
                    rw [e]; unfold giv; omega
                  · have e : st.getD i rl0 = rl0 := by simp [List.getD_eq_getElem?_getD, List.getElem?_eq_none (Nat.le_of_not_lt hi)]
                    rw [e]; unfold giv rl0; simp
                · omega)
              rw [hgj]; unfold gotK
              omega
            have HGJ := Lib.hid hgj.symm
            have HG1 := Lib.hid (show (fun q => if q = j then gj + (rd.len - rd.core) else gotK st L k q) = gotK st L (k + 1) from by
              funext q
              unfold gotK
              rw [sumN, HND.out]
              by_cases e : q = j
              · subst e; rw [if_pos rfl, if_pos rfl, hgj, hgvs]; rfl
              · rw [if_neg e, if_neg (by omega)]; omega)
            have HU1 := Lib.hid (show uk + 1 = useK6 L (k + 1) from by rw [huk]; unfold useK6; rw [sumN, HND.out, if_pos (by omega)])
            have ws0 : IntKind.i64.wrap (rd.len - rd.core) = rd.len - rd.core := by rw [IntKind.wrap_i64]; omega
            have ws1 : IntKind.i64.wrap (gj + (rd.len - rd.core)) = gj + (rd.len - rd.core) := by rw [IntKind.wrap_i64]; omega
            have ws2 : wrap64 (uk + 1) = uk + 1 := by unfold wrap64; omega
            have ws3 : IntKind.i64.wrap (uk + 1) = uk + 1 := by rw [IntKind.wrap_i64]; omega
            have dl := HV0.out.got.cell hjm
            rw [HGJ.out] at dl
            clear hgj huk hgvs hok hfb HUK
            go_upto_region 16 with fail
            refine wp_region_noPanic ?_
            refine wp_region_T (S := (fun X => X.cell? ⟨gG, j, none⟩ = some (.int .i64 gj) ∧ X.cell? ⟨ba, oa + k * 4, none⟩ = some (.int .i64 rd.id) ∧ X.cell? ⟨ba, oa + k * 4 + 1, none⟩ = some (.int .i64 rd.width) ∧ X.cell? ⟨ba, oa + k * 4 + 2, none⟩ = some (.int .i64 rd.len) ∧ X.cell? ⟨ba, oa + k * 4 + 3, none⟩ = some (.int .i64 rd.core))) (T := (fun _ => True)) 17 (by kernel_rfl) ?_ (fun hHeld hHeldT => ?_)
            · (try dsimp only); (exact ⟨⟨dl, HRD.out _ HV0.out.low.drew⟩, trivial⟩)
            obtain ⟨x0, hx0⟩ : ∃ W, W = wr.drew := ⟨_, rfl⟩
            have HVx := Lib.hid (HV0.out.below ((Below.refl wr.heap.size wr).drew))
            rw [← hx0] at hHeld HVx ⊢
            have fl := HVx.out.got.frozen j
            clear hx0 dl
            refine wpAnyT_takeW (i := 0) (v := ?_) (some 61) rfl rfl (by kernel_rfl) (by kernel_rfl) (by kernel_rfl) (by kernel_rfl) (fun _ _ _ h => h) (Or.inl ⟨by rfl, ?_⟩) (by assumption) (by assumption) ?_
            rotate_left
            · intro w hSw; (try dsimp only at hSw); go_simp; (try with_reducible rfl)
            try simp only [Act.put, List.setIfInBounds_toArray, List.set_cons_zero, List.set_cons_succ]
            refine wpAnyT_takeW (i := 1) (v := ?_) (some 62) rfl rfl (by kernel_rfl) (by kernel_rfl) (by kernel_rfl) (by kernel_rfl) (fun _ _ _ h => h) (Or.inl ⟨by rfl, ?_⟩) (by assumption) (by assumption) ?_
            rotate_left
            · intro w hSw; (try dsimp only at hSw); go_simp; (try with_reducible rfl)
            try simp only [Act.put, List.setIfInBounds_toArray, List.set_cons_zero, List.set_cons_succ]
            refine wpAnyT_takeW (i := 2) (v := ?_) (some 63) rfl rfl (by kernel_rfl) (by kernel_rfl) (by kernel_rfl) (by kernel_rfl) (fun _ _ _ h => h) (Or.inl ⟨by rfl, ?_⟩) (by assumption) (by assumption) ?_
            rotate_left
            · intro w hSw; (try dsimp only at hSw); go_simp; (try with_reducible rfl)
            try simp only [Act.put, List.setIfInBounds_toArray, List.set_cons_zero, List.set_cons_succ]
            refine wpAnyT_takeD (i := 3) (v := ?_) (some 64) rfl rfl (by kernel_rfl) (by kernel_rfl) (by kernel_rfl) (by kernel_rfl) (fun _ _ _ h => h) (Or.inl ⟨by rfl, ?_⟩) (by assumption) (by assumption) ?_
            rotate_left
            · intro w hSw; (try dsimp only at hSw); go_simp; (try with_reducible rfl)
            try simp only [Act.put, List.setIfInBounds_toArray, List.set_cons_zero, List.set_cons_succ]
            refine wpAnyT_takeW (i := 4) (v := ?_) (some 65) rfl rfl (by kernel_rfl) (by kernel_rfl) (by kernel_rfl) (by kernel_rfl) (fun _ _ _ h => h) (Or.inl ⟨by rfl, ?_⟩) (by assumption) (by assumption) ?_
            rotate_left
            · intro w hSw; (try dsimp only at hSw); go_simp; (try with_reducible rfl)
            try simp only [Act.put, List.setIfInBounds_toArray, List.set_cons_zero, List.set_cons_succ]
            refine wpAnyT_takeW (i := 5) (v := ?_) (some 66) rfl rfl (by kernel_rfl) (by kernel_rfl) (by kernel_rfl) (by kernel_rfl) (fun _ _ _ h => h) (Or.inl ⟨by rfl, ?_⟩) (by assumption) (by assumption) ?_
            rotate_left
            · intro w hSw; (try dsimp only at hSw); go_simp; (try with_reducible rfl)
            try simp only [Act.put, List.setIfInBounds_toArray, List.set_cons_zero, List.set_cons_succ]
            refine wpAnyT_takeW (i := 6) (v := ?_) (some 67) rfl rfl (by kernel_rfl) (by kernel_rfl) (by kernel_rfl) (by kernel_rfl) (fun _ _ _ h => h) (Or.inl ⟨by rfl, ?_⟩) (by assumption) (by assumption) ?_
            rotate_left
            · intro w hSw; (try dsimp only at hSw); go_simp; (try with_reducible rfl)
            try simp only [Act.put, List.setIfInBounds_toArray, List.set_cons_zero, List.set_cons_succ]
            refine wpAnyT_takeW (i := 7) (v := ?_) (some 68) rfl rfl (by kernel_rfl) (by kernel_rfl) (by kernel_rfl) (by kernel_rfl) (fun _ _ _ h => h) (Or.inl ⟨by rfl, ?_⟩) (by assumption) (by assumption) ?_
            rotate_left
            · intro w hSw; (try dsimp only at hSw); go_simp; (try with_reducible rfl)
            try simp only [Act.put, List.setIfInBounds_toArray, List.set_cons_zero, List.set_cons_succ]
            refine wpAnyT_takeD (i := 8) (v := ?_) (some 69) rfl rfl (by kernel_rfl) (by kernel_rfl) (by kernel_rfl) (by kernel_rfl) (fun _ _ _ h => h) (Or.inl ⟨by rfl, ?_⟩) (by assumption) (by assumption) ?_
            rotate_left
            · intro w hSw; (try dsimp only at hSw); go_simp; (try with_reducible rfl)
            try simp only [Act.put, List.setIfInBounds_toArray, List.set_cons_zero, List.set_cons_succ]
            refine wpAnyT_takeW (i := 9) (v := ?_) (some 70) rfl rfl (by kernel_rfl) (by kernel_rfl) (by kernel_rfl) (by kernel_rfl) (fun _ _ _ h => h) (Or.inl ⟨by rfl, ?_⟩) (by assumption) (by assumption) ?_
            rotate_left
            · intro w hSw; (try dsimp only at hSw); go_simp; (try with_reducible rfl)
            try simp only [Act.put, List.setIfInBounds_toArray, List.set_cons_zero, List.set_cons_succ]
            refine wpAnyT_takeW (i := 10) (v := ?_) (some 71) rfl rfl (by kernel_rfl) (by kernel_rfl) (by kernel_rfl) (by kernel_rfl) (fun _ _ _ h => h) (Or.inl ⟨by rfl, ?_⟩) (by assumption) (by assumption) ?_
            rotate_left
            · intro w hSw; (try dsimp only at hSw); go_simp; (try with_reducible rfl)
            try simp only [Act.put, List.setIfInBounds_toArray, List.set_cons_zero, List.set_cons_succ]
            refine wpAnyT_takeW (i := 11) (v := ?_) (some 72) rfl rfl (by kernel_rfl) (by kernel_rfl) (by kernel_rfl) (by kernel_rfl) (fun _ _ _ h => h) (Or.inl ⟨by rfl, ?_⟩) (by assumption) (by assumption) ?_
            rotate_left
            · intro w hSw; (try dsimp only at hSw); go_simp; (try with_reducible rfl)
            try simp only [Act.put, List.setIfInBounds_toArray, List.set_cons_zero, List.set_cons_succ]
            refine wpAnyT_takeW (i := 12) (v := ?_) (some 73) rfl rfl (by kernel_rfl) (by kernel_rfl) (by kernel_rfl) (by kernel_rfl) (fun _ _ _ h => h) (Or.inl ⟨by rfl, ?_⟩) (by assumption) (by assumption) ?_
            rotate_left
            · intro w hSw; (try dsimp only at hSw); go_simp; (try with_reducible rfl)
            try simp only [Act.put, List.setIfInBounds_toArray, List.set_cons_zero, List.set_cons_succ]
            refine wpAnyT_takeD (i := 13) (v := ?_) (some 74) rfl rfl (by kernel_rfl) (by kernel_rfl) (by kernel_rfl) (by kernel_rfl) (fun _ _ _ h => h) (Or.inl ⟨by rfl, ?_⟩) (by assumption) (by assumption) ?_
            rotate_left
            · intro w hSw; (try dsimp only at hSw); go_simp; (try with_reducible rfl)
            try simp only [Act.put, List.setIfInBounds_toArray, List.set_cons_zero, List.set_cons_succ]
            refine wpAnyT_takeW (i := 14) (v := ?_) (some 75) rfl rfl (by kernel_rfl) (by kernel_rfl) (by kernel_rfl) (by kernel_rfl) (fun _ _ _ h => h) (Or.inl ⟨by rfl, ?_⟩) (by assumption) (by assumption) ?_
            rotate_left
            · intro w hSw; (try dsimp only at hSw); go_simp; (try with_reducible rfl)
            try simp only [Act.put, List.setIfInBounds_toArray, List.set_cons_zero, List.set_cons_succ]
            refine wpAnyT_takeW (i := 15) (v := ?_) (some 76) rfl rfl (by kernel_rfl) (by kernel_rfl) (by kernel_rfl) (by kernel_rfl) (fun _ _ _ h => h) (Or.inl ⟨by rfl, ?_⟩) (by assumption) (by assumption) ?_
            rotate_left
            · intro w hSw; (try dsimp only at hSw); go_simp; (try with_reducible rfl)
            try simp only [Act.put, List.setIfInBounds_toArray, List.set_cons_zero, List.set_cons_succ]
            refine wpAnyT_takeW (i := 16) (v := ?_) (some 77) rfl rfl (by kernel_rfl) (by kernel_rfl) (by kernel_rfl) (by kernel_rfl) (fun _ _ _ h => h) (Or.inl ⟨by rfl, ?_⟩) (by assumption) (by assumption) ?_
            rotate_left
            · intro w hSw; (try dsimp only at hSw); go_simp; (try with_reducible rfl)
            try simp only [Act.put, List.setIfInBounds_toArray, List.set_cons_zero, List.set_cons_succ]
            refine wpAnyT_ready (rs := [17]) (by kernel_rfl) (by simp) ?_
            refine AllReadyT.past rfl (by kernel_rfl) (fun K hK => ?_)
            go_simp
            refine hK.out _ _ ?_ ?_
            · (try dsimp only); (try exact trivial)
            clear hK K
            try simp only [List.getElem_toArray, List.getElem_cons_succ, List.getElem_cons_zero]
            try simp only [Act.put, List.setIfInBounds_toArray, List.set_cons_zero, List.set_cons_succ]
            refine wpAnyT_done (by kernel_rfl) ?_ _
            refine NoPanic.normal ?_
            have hv9 := HVx.out.setG j (gj + (rd.len - rd.core))
            rw [HG1.out] at hv9
            obtain ⟨w9, hw9⟩ : ∃ W', W' = x0.setCell ⟨gG, j, none⟩ (.int .i64 (gj + (rd.len - rd.core))) := ⟨_, rfl⟩
            rw [← hw9] at hv9
            have HV9 := Lib.hid hv9
            try rw [← hw9]
            clear hw9 hv9 fl HVx HV0
            by_cases hft : fb = true
            · subst hft
              have HFS := Lib.hid (show okK st ns L (k + 1) = (rd.width == nw) from by rw [okK_succ, ← HFB.out, HND.out, HOKP.out, Bool.true_and]; by_cases e : rd.width = nw <;> simp [e])
              obtain ⟨q0, q1, q2, q3⟩ := HRD.out _ HV9.out.low
              have cd := HP0.out _ HV9.out.low
              go_upto_region 17 with fail
              go_quiet (fail)
              go_wp2_with fail
              go_roundw
              case rel => exact ⟨k + 1, by omega, by go_num, by rw [HU1.out], by rw [HFS.out], Lib.hid (HV9.out.below (below_drewN (Below.refl _ _) _))⟩
              case measure => simp [intOf]; omega
            · obtain rfl : fb = false := by simpa using hft
              have HFS := Lib.hid (show okK st ns L (k + 1) = false from by rw [okK_succ, ← HFB.out, Bool.false_and])
              go_upto_region 17 with fail
              go_quiet (fail)
              go_wp2_with fail
              go_roundw
              case rel => exact ⟨k + 1, by omega, by go_num, by rw [HU1.out], by rw [HFS.out], Lib.hid (HV9.out.below (below_drewN (Below.refl _ _) _))⟩
              case measure => simp [intOf]; omega
        · obtain rfl : N = k := by omega
          clear hk hlt
          obtain ⟨w7, hw7⟩ : ∃ W', W' = wr := ⟨_, rfl⟩
          rw [← hw7] at HV0 ⊢
          have hlf : ∀ s, s < m → leftF st ns L s = (ns.getD s (0, 0)).2 - gotK st L N s := fun s hs => by unfold leftF gotK; rw [HLN.out]
          have HLF := Lib.hid hlf
          have HLD := Lib.hid (show ∀ s, s < m → -300000000 ≤ leftF st ns L s ∧ leftF st ns L s ≤ 1000000000 from fun s hs => left_bd HOK.out (by have := HLN.out; omega) (by have := HNM.out; omega))
          clear hw7 hlf
          have hu0 : useK6 L N = usedL L := by unfold useK6 usedL; rw [HLN.out]
          obtain ⟨uL, huL⟩ : ∃ q, q = usedL L := ⟨_, rfl⟩
          obtain ⟨f0, hf0⟩ : ∃ q, q = okK st ns L N := ⟨_, rfl⟩
          rw [hu0, ← huL, ← hf0]
          have HUL := Lib.hid huL
          have HF0 := Lib.hid hf0
          clear hu0 huL hf0
          go_wp2_with fail
          go_loopw [10, 11, 95] (fun z f q wr => ∃ (k : Nat) (y : Int), k ≤ m ∧ q = .int .i64 k ∧ z = .int .i64 y ∧ f = .bool (f0 && fitK st ns L k) ∧ Hid (y = sumN (fun s => - leftF st ns L s) k) ∧ Hid (LawM w5 gG m (gotK st L N) wr)) (fun _ _ q _ => m - (intOf q).toNat)
          case atStart => exact ⟨0, 0, Nat.zero_le _, rfl, rfl, by simp [fitK], Lib.hid rfl, HV0⟩
          case round =>
            clear HV0
            obtain ⟨k, y, hk, rfl, rfl, rfl, HY, HV0⟩ := hrel
            by_cases hlt : k < m
            · have hk2 : k < ns.length := by have := HNM.out; omega
              obtain ⟨b, off, hAn, hbb, d0, d1⟩ := Sl.at2 (HN5.out.below HV0.out.low) hk2
              obtain ⟨v1, hn1⟩ : ∃ q, q = ns[k].1 := ⟨_, rfl⟩
              obtain ⟨v2, hn2⟩ : ∃ q, q = ns[k].2 := ⟨_, rfl⟩
              rw [← hn1] at d0
              rw [← hn2] at d1
              have hnn : (ns.getD k (0, 0)).2 = v2 := by rw [hn2]; simp [List.getD_eq_getElem?_getD, hk2]
              have hlf := HLF.out k hlt
              rw [hnn] at hlf
              have hlb := HLD.out k hlt
              have hyb : -3000000000 ≤ y ∧ y ≤ 900000000 := by
                have : ∀ k, k ≤ m → -1000000000 * (k : Int) ≤ sumN (fun s => - leftF st ns L s) k ∧ sumN (fun s => - leftF st ns L s) k ≤ 300000000 * (k : Int) := by
                  intro k
                  induction k with
                  | zero => intro _; simp [sumN]
                  | succ k ih => intro hk; have := ih (by omega); have h2 := HLD.out k (by omega); rw [sumN]; push_cast; omega
                have h2 := this k (by omega)
                rw [← HY.out] at h2
                omega
              have hnb := (HNB.out _ (List.getElem_mem hk2)).2.2
              rw [← hn2] at hnb
              obtain ⟨gk, hgk⟩ : ∃ q, q = gotK st L N k := ⟨_, rfl⟩
              rw [← hgk] at hlf
              have HGK := Lib.hid hgk.symm
              have HLK := Lib.hid hlf
              have i0 : (0 : Int) ≤ (k : Int) := by omega
              have i1 : (k : Int) < (m : Int) := by omega
              subst hAn
              have ws1 : IntKind.i64.wrap (gk - v2) = gk - v2 := by rw [IntKind.wrap_i64]; omega
              have ws2 : IntKind.i64.wrap (y + (gk - v2)) = y + (gk - v2) := by rw [IntKind.wrap_i64]; omega
              have HYS := Lib.hid (show y + (gk - v2) = sumN (fun s => - leftF st ns L s) (k + 1) from by rw [sumN, ← HY.out]; omega)
              obtain ⟨fk, hfk⟩ : ∃ q, q = (f0 && fitK st ns L k) := ⟨_, rfl⟩
              rw [← hfk]
              have HFK := Lib.hid (show (f0 && fitK st ns L (k + 1)) = (fk && decide (v2 ≤ gk)) from by
                rw [fitK_succ, ← Bool.and_assoc, ← hfk]
                have e : decide (leftF st ns L k ≤ 0) = decide (v2 ≤ gk) := by by_cases e : v2 ≤ gk <;> simp [e] <;> omega
                rw [e])
              clear hn1 hn2 hnn hgk hfk hlf hlb hyb hnb
              go_upto_region 22 with fail
              obtain ⟨g15, hg15⟩ : ∃ g, g = wr.heap.size := ⟨_, rfl⟩
              obtain ⟨w8, hw8⟩ : ∃ W', W' = wr.alloc (.cells #[.int .i64 v1, .int .i64 v2] 77) := ⟨_, rfl⟩
              rw [← hw8, ← hg15]
              have k5 : Blk w8 g15 77 #[.int .i64 v1, .int .i64 v2] := by rw [hw8, hg15]; exact Blk.new _ _ _
              have HV8 := Lib.hid (HV0.out.below (show Below wr.heap.size wr w8 from by rw [hw8]; exact balR (Below.refl _ _) _))
              have K5 := Lib.hid k5
              have c1 := k5.cell 1
              have dl := HV8.out.got.cell hlt
              rw [HGK.out] at dl
              simp at c1
              clear hw8 hg15 k5 d0 d1
              by_cases hft : fk = true
              · subst hft
                go_quiet (fail)
                go_upto_region 23 with fail
                obtain ⟨wq, hwq⟩ : ∃ W', W' = w8.drewN nq := ⟨_, rfl⟩
                have HV1 := Lib.hid (HV8.out.below (below_drewN (Below.refl w8.heap.size w8) nq))
                have k51 := K5.out.below (below_drewN (Below.refl w8.heap.size w8) nq) K5.out.lt
                rw [← hwq] at HV1 k51 ⊢
                clear hwq c1 dl
                have dl := HV1.out.got.cell hlt
                have c1 := k51.cell 1
                rw [HGK.out] at dl
                simp at c1
                clear k51
                go_quiet (fail)
                go_wp2_with fail
                go_roundw
                case rel => exact ⟨k + 1, y + (gk - v2), by omega, by go_num, rfl, by rw [HFK.out]; simp, HYS, Lib.hid (HV1.out.below (below_drewN (Below.refl _ _) _))⟩
                case measure => simp [intOf]; omega
              · obtain rfl : fk = false := by simpa using hft
                go_quiet (fail)
                go_upto_region 23 with fail
                obtain ⟨wq, hwq⟩ : ∃ W', W' = w8.drewN nq := ⟨_, rfl⟩
                have HV1 := Lib.hid (HV8.out.below (below_drewN (Below.refl w8.heap.size w8) nq))
                have k51 := K5.out.below (below_drewN (Below.refl w8.heap.size w8) nq) K5.out.lt
                rw [← hwq] at HV1 k51 ⊢
                clear hwq c1 dl
                have dl := HV1.out.got.cell hlt
                have c1 := k51.cell 1
                rw [HGK.out] at dl
                simp at c1
                clear k51
                go_quiet (fail)
                go_wp2_with fail
                go_roundw
                case rel => exact ⟨k + 1, y + (gk - v2), by omega, by go_num, rfl, by rw [HFK.out]; simp, HYS, Lib.hid (HV1.out.below (below_drewN (Below.refl _ _) _))⟩
                case measure => simp [intOf]; omega
            · obtain rfl : m = k := by omega
              obtain ⟨w8, hw8⟩ : ∃ W', W' = wr := ⟨_, rfl⟩
              rw [← hw8] at HV0 ⊢
              obtain ⟨F, hF⟩ : ∃ q, q = (f0 && fitK st ns L m) := ⟨_, rfl⟩
              have hFF : F = (okK st ns L L.length && fitP st ns L) := by rw [hF, HF0.out, HLN.out, ← HNM.out]; rfl
              have hy : y = beyL st ns L := by rw [HY.out]; unfold beyL; rw [HNM.out]
              rw [← hF]
              have HFF := Lib.hid hFF
              have HY := Lib.hid hy
              have HLL8 := Lib.hid ((HLL.out.below HV0.out.low).mono HV0.out.low.size)
              have HA8 := Lib.hid ((HA5.out.below HV0.out.low).mono HV0.out.low.size)
              have HN8 := Lib.hid ((HN5.out.below HV0.out.low).mono HV0.out.low.size)
              have HB8 := Lib.hid (bstep HB5.out HV0.out.low)
              have HRG := Lib.hid (show ∀ x ∈ L, -1 ≤ x ∧ x < ns.length from fun x hx => by rw [HNM.out]; exact HLB.out x hx)
              have HLS := Lib.hid (show L.length = st.length from by rw [HLN.out, HSN.out])
              clear hw8 hF hFF hy hk hlt HV0 HA5 HN5 HB5 HLL HF0
              cases hb : bestPl st ns with
              | none =>
                have hf := law_none hb HLS.out HRG.out
                have hv := ver_no hf
                rw [← HFF.out] at hf
                subst hf
                have H32 := Lib.hid (plan_none st ns HOK.out As An cs cn N m w8 HSN.out HNM.out HA8.out HN8.out hb)
                have H33 := Lib.hid (fun W (h : Below w8.heap.size w8 W) => verify_any st ns HOK.out As An A8 cs cn c8 N m L W HSN.out HNM.out HLN.out ((HA8.out.below h).mono h.size) ((HN8.out.below h).mono h.size) ((HLL8.out.below h).mono h.size) HLB.out 0 0 70 hv.symm)
                clear hb hv
                go_upto_region 26 with (go_at_call 32; with_reducible refine H32.out.mono ?_; rintro e wa ⟨rfl, HBA⟩)
                go_upto_region 27 with (go_at_call 33; with_reducible refine (H33.out _ HBA.out).mono ?_; rintro e wb ⟨rfl, HBB⟩)
                go_wp2_with (go_at_call 17; with_reducible refine (HAW.out _).mono ?_; rintro e wc ⟨rfl, hbc⟩)
                go_ret
                exact ⟨rfl, bstep HB8.out (bstep HBA.out (bstep HBB.out hbc))⟩
              | some z =>
                have ls := law_some hb HLS.out HRG.out
                have hzl : z.1.length = N := ls.len.trans HSN.out
                have H32 := Lib.hid (plan_some st ns HOK.out As An cs cn N m w8 HSN.out HNM.out HA8.out HN8.out z hb)
                rw [hzl] at H32
                have H33z := Lib.hid (fun W (h : Below w8.heap.size w8 W) Ab cb (hz : Sl encInt 1 W W.heap.size Ab z.1) => verify_any st ns HOK.out As An Ab cs cn cb N m z.1 W HSN.out HNM.out hzl ((HA8.out.below h).mono h.size) ((HN8.out.below h).mono h.size) hz (fun x hx => by have := ls.bd x hx; rw [HNM.out] at this; exact this) z.2.1 z.2.2 0 ls.ver.symm)
                have H33 := Lib.hid (fun W (h : Below w8.heap.size w8 W) r1 r2 r3 (hv : verP st ns L = (r1, r2, r3)) => verify_any st ns HOK.out As An A8 cs cn c8 N m L W HSN.out HNM.out HLN.out ((HA8.out.below h).mono h.size) ((HN8.out.below h).mono h.size) ((HLL8.out.below h).mono h.size) HLB.out r1 r2 r3 hv.symm)
                have H34 := Lib.hid (fun W (h : Below w8.heap.size w8 W) Ab cb (hz : Sl encInt 1 W W.heap.size Ab z.1) => equalInts_any A8 Ab c8 cb L z.1 W (by rw [HLN.out]; omega) (by rw [hzl]; omega) ((HLL8.out.below h).mono h.size) hz)
                rw [HLN.out, hzl] at H34
                have HLS2 := Lib.hid ls
                obtain ⟨za, hza⟩ : ∃ q, q = z.2.1 := ⟨_, rfl⟩
                obtain ⟨zb, hzb⟩ : ∃ q, q = z.2.2 := ⟨_, rfl⟩
                rw [← hza, ← hzb] at H33z
                have HYES := Lib.hid ls.yes
                rw [← hza, ← hzb, ← HFF.out, ← HUL.out, ← HY.out] at HYES
                clear ls hb hzl hza hzb
                go_upto_region 26 with (go_at_call 32; with_reducible refine H32.out.mono ?_; rintro e wa ⟨Ab, cb, rfl, HZ, HBA⟩)
                by_cases hft : F = true
                · subst hft
                  obtain ⟨y1, y2, y3⟩ := HYES.out rfl
                  have t1 : decide (uL < za) = false := decide_eq_false (by omega)
                  by_cases hq : L = z.1
                  · have H33' := Lib.hid (H33.out wa HBA.out _ _ _ (y2 hq))
                    have t34 : decide (L = z.1) = true := decide_eq_true hq
                    clear y2 y3 H33
                    by_cases hu : uL = za
                    · have t2 : decide (y < zb) = false := decide_eq_false (by omega)
                      have tu : (uL == za) = true := by simp [hu]
                      go_upto_region 27 with (go_at_call 33; with_reducible refine H33'.out.mono ?_; rintro e wb ⟨rfl, HBB⟩)
                      have HZB := Lib.hid ((HZ.out.below HBB.out).mono HBB.out.size)
                      have HBB2 := Lib.hid (bstep HBA.out HBB.out)
                      go_upto_region 30 with (go_at_call 33; with_reducible refine (H33z.out _ HBB2.out _ _ HZB.out).mono ?_; rintro e wc ⟨rfl, HBC⟩)
                      have H34' := Lib.hid (H34.out wc (bstep HBB2.out HBC.out) Ab cb ((HZB.out.below HBC.out).mono HBC.out.size))
                      rw [t34] at H34'
                      go_wp2_with first
                        | (go_at_call 34; with_reducible refine H34'.out.mono ?_; rintro e wd ⟨rfl, hbd⟩)
                        | (go_at_call 17; with_reducible refine (HAW.out _).mono ?_; rintro e wf ⟨rfl, hbf⟩)
                      go_ret
                      exact ⟨rfl, bstep HB8.out (bstep HBB2.out (bstep HBC.out (bstep hbd hbf)))⟩
                    · have tu : (uL == za) = false := by simp [hu]
                      go_upto_region 27 with (go_at_call 33; with_reducible refine H33'.out.mono ?_; rintro e wb ⟨rfl, HBB⟩)
                      have HZB := Lib.hid ((HZ.out.below HBB.out).mono HBB.out.size)
                      have HBB2 := Lib.hid (bstep HBA.out HBB.out)
                      go_upto_region 30 with (go_at_call 33; with_reducible refine (H33z.out _ HBB2.out _ _ HZB.out).mono ?_; rintro e wc ⟨rfl, HBC⟩)
                      have H34' := Lib.hid (H34.out wc (bstep HBB2.out HBC.out) Ab cb ((HZB.out.below HBC.out).mono HBC.out.size))
                      rw [t34] at H34'
                      go_wp2_with first
                        | (go_at_call 34; with_reducible refine H34'.out.mono ?_; rintro e wd ⟨rfl, hbd⟩)
                        | (go_at_call 17; with_reducible refine (HAW.out _).mono ?_; rintro e wf ⟨rfl, hbf⟩)
                      go_ret
                      exact ⟨rfl, bstep HB8.out (bstep HBB2.out (bstep HBC.out (bstep hbd hbf)))⟩
                  · have H33' := Lib.hid (H33.out wa HBA.out _ _ _ (y3 hq))
                    have t34 : decide (L = z.1) = false := decide_eq_false hq
                    clear y2 y3 H33
                    by_cases hu : uL = za
                    · have t2 : decide (y < zb) = false := decide_eq_false (by omega)
                      have tu : (uL == za) = true := by simp [hu]
                      go_upto_region 27 with (go_at_call 33; with_reducible refine H33'.out.mono ?_; rintro e wb ⟨rfl, HBB⟩)
                      have HZB := Lib.hid ((HZ.out.below HBB.out).mono HBB.out.size)
                      have HBB2 := Lib.hid (bstep HBA.out HBB.out)
                      go_upto_region 30 with (go_at_call 33; with_reducible refine (H33z.out _ HBB2.out _ _ HZB.out).mono ?_; rintro e wc ⟨rfl, HBC⟩)
                      have H34' := Lib.hid (H34.out wc (bstep HBB2.out HBC.out) Ab cb ((HZB.out.below HBC.out).mono HBC.out.size))
                      rw [t34] at H34'
                      go_wp2_with first
                        | (go_at_call 34; with_reducible refine H34'.out.mono ?_; rintro e wd ⟨rfl, hbd⟩)
                        | (go_at_call 17; with_reducible refine (HAW.out _).mono ?_; rintro e wf ⟨rfl, hbf⟩)
                      go_ret
                      exact ⟨rfl, bstep HB8.out (bstep HBB2.out (bstep HBC.out (bstep hbd hbf)))⟩
                    · have tu : (uL == za) = false := by simp [hu]
                      go_upto_region 27 with (go_at_call 33; with_reducible refine H33'.out.mono ?_; rintro e wb ⟨rfl, HBB⟩)
                      have HZB := Lib.hid ((HZ.out.below HBB.out).mono HBB.out.size)
                      have HBB2 := Lib.hid (bstep HBA.out HBB.out)
                      go_upto_region 30 with (go_at_call 33; with_reducible refine (H33z.out _ HBB2.out _ _ HZB.out).mono ?_; rintro e wc ⟨rfl, HBC⟩)
                      have H34' := Lib.hid (H34.out wc (bstep HBB2.out HBC.out) Ab cb ((HZB.out.below HBC.out).mono HBC.out.size))
                      rw [t34] at H34'
                      go_wp2_with first
                        | (go_at_call 34; with_reducible refine H34'.out.mono ?_; rintro e wd ⟨rfl, hbd⟩)
                        | (go_at_call 17; with_reducible refine (HAW.out _).mono ?_; rintro e wf ⟨rfl, hbf⟩)
                      go_ret
                      exact ⟨rfl, bstep HB8.out (bstep HBB2.out (bstep HBC.out (bstep hbd hbf)))⟩
                · obtain rfl : F = false := by simpa using hft
                  have H33' := Lib.hid (H33.out wa HBA.out _ _ _ (ver_no HFF.out.symm))
                  clear H33
                  go_upto_region 27 with (go_at_call 33; with_reducible refine H33'.out.mono ?_; rintro e wb ⟨rfl, HBB⟩)
                  have HZB := Lib.hid ((HZ.out.below HBB.out).mono HBB.out.size)
                  have HBB2 := Lib.hid (bstep HBA.out HBB.out)
                  go_upto_region 30 with (go_at_call 33; with_reducible refine (H33z.out _ HBB2.out _ _ HZB.out).mono ?_; rintro e wc ⟨rfl, HBC⟩)
                  go_wp2_with (go_at_call 17; with_reducible refine (HAW.out _).mono ?_; rintro e wf ⟨rfl, hbf⟩)
                  go_ret
                  exact ⟨rfl, bstep HB8.out (bstep HBB2.out (bstep HBC.out hbf))⟩
end Go.Proofs.Ytnbnfadmbggfnaa
