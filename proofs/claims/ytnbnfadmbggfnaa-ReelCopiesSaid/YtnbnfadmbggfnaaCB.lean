/- Contract of joined; conditions: small numbers, a row of the caller's own. -/
import Derived.Test.YtnbnfadmbggfnaaCA
import Derived.Test.YtnbnfadmbggfnaaC6
import Derived.Deep.RegionLaw
set_option linter.unusedSimpArgs false
set_option linter.unusedVariables false
namespace Go.Rl
open Go.Fh
theorem flat_set (S : List (Int × Int)) (a b m : Int) : (((S ++ [(a, b)]).flatMap enc2).set (S.length * 2) (.int .i64 a)).set (S.length * 2 + 1) (.int .i64 m) = (S ++ [(a, m)]).flatMap enc2 := by
  have hl : (S.flatMap enc2).length = S.length * 2 := length_flat (enc := enc2) (size := 2) (fun _ => rfl) S
  rw [List.flatMap_append, List.flatMap_append, List.set_append_right _ _ (by omega), List.set_append_right _ _ (by omega), hl]
  simp [enc2]
end Go.Rl
namespace Go.Proofs.Ytnbnfadmbggfnaa
open Go.RowKit Go.Fh Go.Rl
theorem infoSp : (Try.prog.info? 43).map (fun i => (i.zero, i.size, i.bytes)) = some (some (.agg #[.int .i64 0, .int .i64 0]), 2, 16) := by kernel_rfl
theorem sort126_g (l : List (Int × Int)) (A : Option Addr) (c cl base : Nat) (w : World) (hb : ∀ s ∈ l, 0 ≤ s.1 ∧ s.1 ≤ 1000000000) (hlen : l.length ≤ 1000000) (hown : w.ownsRow base 43 2 (.slice A l.length c) l.length (l.flatMap enc2)) (hcl : Blk w cl 169 #[.func (.func 91) #[] #[]]) :
    Calls Try.prog 126 #[.slice A l.length c, .func (.func 127) #[] #[.pointer (some ⟨cl, 0, none⟩)]] w fun e w' => e = .returned (.tuple #[]) ∧ ∃ l' : List (Int × Int), l'.Perm l ∧ (l'.Pairwise fun a b => a.1 ≤ b.1) ∧ w'.ownsRow base 43 2 (.slice A l.length c) l.length (l'.flatMap enc2) ∧ w.grownBy w' (Value.slice A l.length c).ownBlock := by
  cases l with
  | nil =>
    refine (sort126_none A c _ w).mono ?_
    rintro e w' ⟨rfl, rfl⟩
    exact ⟨rfl, [], .nil, .nil, hown, gr_refl _ _⟩
  | cons x l =>
    rcases hown.2 with ⟨e0, _⟩ | ⟨g, cap, cur, e0, _⟩
    · injection e0 with _ h _; simp at h
    · injection e0 with e1 _ e3
      subst e1; subst e3
      exact sort126 (x :: l) g c cl base w hb hlen hown hcl
set_option maxRecDepth 100000 in
set_option maxHeartbeats 4000000 in
theorem joined_any (l : List (Int × Int)) (A : Option Addr) (c base : Nat) (w : World) (hb : ∀ s ∈ l, 0 ≤ s.1 ∧ s.1 ≤ s.2 ∧ s.2 ≤ 1000000000) (hlen : l.length ≤ 1000000) (hown : w.ownsRow base 43 2 (.slice A l.length c) l.length (l.flatMap enc2)) :
    Calls Try.prog 90 #[.slice A l.length c, .func (.func 91) #[] #[], .func (.func 92) #[] #[], .func (.func 93) #[] #[]] w fun e w' => ∃ A' c', e = .returned (.slice A' (joinC l).length c') ∧ w'.ownsRow w.heap.size 43 2 (.slice A' (joinC l).length c') (joinC l).length ((joinC l).flatMap enc2) ∧ w.grownBy w' (Value.slice A l.length c).ownBlock := by
  obtain ⟨w1, hw1⟩ : ∃ W, W = w.alloc (.cells #[.func (.func 91) #[] #[]] 169) := ⟨_, rfl⟩
  obtain ⟨g5, hg5⟩ : ∃ k, k = w.heap.size := ⟨_, rfl⟩
  have k5 : Blk w1 g5 169 #[.func (.func 91) #[] #[]] := by rw [hw1, hg5]; exact Blk.new w _ _
  have hown1 : w1.ownsRow base 43 2 (.slice A l.length c) l.length (l.flatMap enc2) := by rw [hw1]; exact hown.alloc _
  have H126 := Lib.hid (sort126_g l A c g5 base w1 (fun s hs => by have := hb s hs; omega) hlen hown1 k5)
  have HNE := Lib.hid (own_blk_ne hown1 k5 (by decide))
  have HB := Lib.hid hb
  have HGW := Lib.hid (show ∀ W r, w1.grownBy W r → w.grownBy W r from fun W r h => by rw [hw1] at h; exact gr_trans (World.grownBy_alloc w _ r) h)
  have HSW := Lib.hid (show w.heap.size ≤ w1.heap.size from by rw [hw1]; simp)
  have HK5 := Lib.hid k5
  have HW1 := Lib.hid hw1
  have HG5 := Lib.hid hg5
  obtain ⟨m, hm⟩ : ∃ m, m = l.length := ⟨_, rfl⟩
  have HM := Lib.hid hm
  rw [← hm] at H126 hlen ⊢
  obtain ⟨vb, hvb⟩ : ∃ b, b = (Value.slice A m c).ownBlock := ⟨_, rfl⟩
  rw [← hvb] at H126 ⊢
  rw [← hm, ← hvb] at HNE
  clear hw1 hg5 k5 hown1 hown hb hvb hm
  obtain ⟨i0, hi, hz0, hz1, hz2⟩ := info_parts infoSp
  have HI := Lib.hid hi
  clear hi
  go_enter Try.func90, Try.ntmps90
  go_upto_region 1 with fail
  rw [← HW1.out, ← HG5.out]
  go_wp2_with (go_at_call 126; refine H126.out.mono ?_; rintro e w2 ⟨rfl, l', hp, hs, ho, hg⟩; have HP := Lib.hid hp; have HS := Lib.hid hs; have HO := Lib.hid ho; have HG := Lib.hid hg; clear hp hs ho hg)
  have hml : m = l'.length := by have := HP.out.length_eq; have := HM.out; omega
  have hg12 : w1.grownBy w2 vb := HG.out
  have k5 : Blk w2 g5 169 #[.func (.func 91) #[] #[]] := HK5.out.grown hg12 HNE.out
  have hA := HO.out
  rw [hml] at hA
  have HA := Lib.hid (Sl.of_own (fun _ => rfl) hA : Sl enc2 2 w2 w2.heap.size A l')
  have HBS := Lib.hid (show ∀ s ∈ l', 0 ≤ s.1 ∧ s.1 ≤ s.2 ∧ s.2 ≤ 1000000000 from fun s hs => HB.out s (HP.out.mem_iff.1 hs))
  have HK5' := Lib.hid k5
  have HML := Lib.hid hml
  have HSW2 := Lib.hid hg12.size
  clear hml hg12 k5 hA HK5
  go_loopw [9, 18] (fun u9 i wr => ∃ (q n : Nat) (A9 : Option Addr) (c9 : Nat), q ≤ m ∧ n ≤ q ∧ i = .int .i64 (q : Int) ∧ u9 = .slice A9 n c9 ∧ Hid (n = (jnF (l'.take q)).length ∧ wr.ownsRow w2.heap.size 43 2 (.slice A9 n c9) n ((jnF (l'.take q)).flatMap enc2)) ∧ Hid (Below w2.heap.size w2 wr)) (fun _ i _ => m - (intOf i).toNat)
  case atStart => exact ⟨0, 0, none, 0, Nat.zero_le _, Nat.le_refl _, rfl, rfl, Lib.hid ⟨rfl, World.ownsRow_nil _ _ _ _⟩, Lib.hid (Below.refl _ _)⟩
  case round =>
    obtain ⟨q, n, A9, c9, hq, hnq, rfl, rfl, HR, HBL⟩ := hrel
    by_cases hlt : q < m
    · have hkl : q < l'.length := by have := HML.out; omega
      obtain ⟨b, off, hba, hbb, c0, c1⟩ := Sl.at2 (HA.out.below HBL.out) hkl
      have hx := HBS.out _ (List.getElem_mem hkl)
      have HTK := Lib.hid (show jnF (l'.take (q + 1)) = jnS (jnF (l'.take q)) l'[q] from by rw [List.take_add_one, List.getElem?_eq_getElem hkl]; exact jnF_snoc _ _)
      obtain ⟨x, hxx⟩ : ∃ x, x = l'[q] := ⟨_, rfl⟩
      rw [← hxx] at c0 c1 hx HTK
      obtain ⟨x1, x2⟩ := x
      dsimp only at c0 c1 hx
      subst hba
      clear hxx
      have i0' : (0 : Int) ≤ (q : Int) := by omega
      have i1' : (q : Int) < (m : Int) := by omega
      obtain ⟨S, hS⟩ : ∃ S, S = jnF (l'.take q) := ⟨_, rfl⟩
      have HSB := Lib.hid (show ∀ s ∈ S, 0 ≤ s.1 ∧ s.1 ≤ s.2 ∧ s.2 ≤ 1000000000 from by rw [hS]; exact jnF_bd _ fun s hs => HBS.out s (List.mem_of_mem_take hs))
      rw [← hS] at HR HTK
      have hszr := HBL.out.size
      obtain ⟨gx, hgx⟩ : ∃ g, g = wr.heap.size := ⟨_, rfl⟩
      obtain ⟨w5, hw5⟩ : ∃ W, W = wr.alloc (.cells #[.int .i64 x1, .int .i64 x2] 43) := ⟨_, rfl⟩
      have kx : Blk w5 gx 43 #[.int .i64 x1, .int .i64 x2] := by rw [hw5, hgx]; exact Blk.new _ _ _
      have hb5 : Below wr.heap.size wr w5 := by rw [hw5]; exact balR (Below.refl _ _) _
      have k5 : Blk w5 g5 169 #[.func (.func 91) #[] #[]] := (HK5'.out.below HBL.out HK5'.out.lt).below hb5 (HK5'.out.below HBL.out HK5'.out.lt).lt
      have HO5 := Lib.hid (own_belowV HR.out.2 hb5)
      have HW5 := Lib.hid hw5
      have HGX := Lib.hid hgx
      have HB5 := Lib.hid hb5
      have HKX := Lib.hid kx
      have HK55 := Lib.hid k5
      have hs5 : wr.heap.size < w5.heap.size := by rw [hw5]; simp
      clear hw5 hgx hb5 hS kx k5
      go_upto_region 6 with fail
      rw [← HW5.out, ← HGX.out]
      clear c0 c1
      have hm1 : n + 1 ≤ maxLen := by simp only [maxLen]; omega
      have hm2 : (n + 1) * 16 ≤ 140737488355328 := by omega
      have hm1 : n + 1 ≤ maxLen := by simp only [maxLen]; omega
      have hm2 : (n + 1) * 16 ≤ 140737488355328 := by omega
      have hm1 : n + 1 ≤ maxLen := by simp only [maxLen]; omega
      have hm2 : (n + 1) * 16 ≤ 140737488355328 := by omega
      have hm1 : n + 1 ≤ maxLen := by simp only [maxLen]; omega
      have hm2 : (n + 1) * 16 ≤ 140737488355328 := by omega
      have hm1 : n + 1 ≤ maxLen := by simp only [maxLen]; omega
      have hm2 : (n + 1) * 16 ≤ 140737488355328 := by omega
      have hm1 : n + 1 ≤ maxLen := by simp only [maxLen]; omega
      have hm2 : (n + 1) * 16 ≤ 140737488355328 := by omega
      have hm1 : n + 1 ≤ maxLen := by simp only [maxLen]; omega
      have hm2 : (n + 1) * 16 ≤ 140737488355328 := by omega
      have hm1 : n + 1 ≤ maxLen := by simp only [maxLen]; omega
      have hm2 : (n + 1) * 16 ≤ 140737488355328 := by omega
      have hm1 : n + 1 ≤ maxLen := by simp only [maxLen]; omega
      have hm2 : (n + 1) * 16 ≤ 140737488355328 := by omega
      have hm1 : n + 1 ≤ maxLen := by simp only [maxLen]; omega
      have hm2 : (n + 1) * 16 ≤ 140737488355328 := by omega
      by_cases hn0 : n = 0
      · subst hn0
        have t25 : decide ((0 : Int) < 0) = false := by decide
        go_upto_region 7 with fail
        refine wp_region_noPanic ?_
        refine wp_region_held_drew (S := (fun _ => True)) (by kernel_rfl) ?_ (fun hHeld => ?_)
        · trivial
        refine wpAnyH_takeD (i := 0) (v := ?_) (some 24) rfl rfl (by kernel_rfl) (by kernel_rfl) (by kernel_rfl) (fun _ _ _ h => h) (Or.inl ⟨by rfl, ?_⟩) (by assumption) ?_
        rotate_left
        · intro w hSw; (try dsimp only at hSw); go_simp; (try with_reducible rfl)
        try simp only [Act.put, List.setIfInBounds_toArray, List.set_cons_zero, List.set_cons_succ]
        refine wpAnyH_takeD (i := 1) (v := ?_) (some 25) rfl rfl (by kernel_rfl) (by kernel_rfl) (by kernel_rfl) (fun _ _ _ h => h) (Or.inl ⟨by rfl, ?_⟩) (by assumption) ?_
        rotate_left
        · intro w hSw; (try dsimp only at hSw); go_simp; (try with_reducible rfl)
        try simp only [Act.put, List.setIfInBounds_toArray, List.set_cons_zero, List.set_cons_succ]
        refine wpAnyH_takeD (i := 2) (v := ?_) (some 26) rfl rfl (by kernel_rfl) (by kernel_rfl) (by kernel_rfl) (fun _ _ _ h => h) (Or.inl ⟨by rfl, ?_⟩) (by assumption) ?_
        rotate_left
        · intro w hSw; (try dsimp only at hSw); go_simp; (try with_reducible rfl)
        try simp only [Act.put, List.setIfInBounds_toArray, List.set_cons_zero, List.set_cons_succ]
        refine wpAnyH_takeD (i := 3) (v := undef) (some 27) rfl rfl (by kernel_rfl) (by kernel_rfl) (by kernel_rfl) (fun _ _ _ h => h) (Or.inr ⟨by kernel_rfl, rfl⟩) (by assumption) ?_
        try simp only [Act.put, List.setIfInBounds_toArray, List.set_cons_zero, List.set_cons_succ]
        refine wpAnyH_takeD (i := 4) (v := undef) (some 28) rfl rfl (by kernel_rfl) (by kernel_rfl) (by kernel_rfl) (fun _ _ _ h => h) (Or.inr ⟨by kernel_rfl, rfl⟩) (by assumption) ?_
        try simp only [Act.put, List.setIfInBounds_toArray, List.set_cons_zero, List.set_cons_succ]
        refine wpAnyH_takeD (i := 5) (v := undef) (some 29) rfl rfl (by kernel_rfl) (by kernel_rfl) (by kernel_rfl) (fun _ _ _ h => h) (Or.inr ⟨by kernel_rfl, rfl⟩) (by assumption) ?_
        try simp only [Act.put, List.setIfInBounds_toArray, List.set_cons_zero, List.set_cons_succ]
        refine wpAnyH_takeD (i := 6) (v := undef) (some 30) rfl rfl (by kernel_rfl) (by kernel_rfl) (by kernel_rfl) (fun _ _ _ h => h) (Or.inr ⟨by kernel_rfl, rfl⟩) (by assumption) ?_
        try simp only [Act.put, List.setIfInBounds_toArray, List.set_cons_zero, List.set_cons_succ]
        refine wpAnyH_takeD (i := 7) (v := undef) (some 31) rfl rfl (by kernel_rfl) (by kernel_rfl) (by kernel_rfl) (fun _ _ _ h => h) (Or.inr ⟨by kernel_rfl, rfl⟩) (by assumption) ?_
        try simp only [Act.put, List.setIfInBounds_toArray, List.set_cons_zero, List.set_cons_succ]
        refine wpAnyH_takeD (i := 8) (v := undef) (some 32) rfl rfl (by kernel_rfl) (by kernel_rfl) (by kernel_rfl) (fun _ _ _ h => h) (Or.inr ⟨by kernel_rfl, rfl⟩) (by assumption) ?_
        try simp only [Act.put, List.setIfInBounds_toArray, List.set_cons_zero, List.set_cons_succ]
        refine wpAnyH_takeD (i := 9) (v := undef) (some 33) rfl rfl (by kernel_rfl) (by kernel_rfl) (by kernel_rfl) (fun _ _ _ h => h) (Or.inr ⟨by kernel_rfl, rfl⟩) (by assumption) ?_
        try simp only [Act.put, List.setIfInBounds_toArray, List.set_cons_zero, List.set_cons_succ]
        refine wpAnyH_takeD (i := 10) (v := undef) (some 34) rfl rfl (by kernel_rfl) (by kernel_rfl) (by kernel_rfl) (fun _ _ _ h => h) (Or.inr ⟨by kernel_rfl, rfl⟩) (by assumption) ?_
        try simp only [Act.put, List.setIfInBounds_toArray, List.set_cons_zero, List.set_cons_succ]
        refine wpAnyH_takeD (i := 11) (v := undef) (some 35) rfl rfl (by kernel_rfl) (by kernel_rfl) (by kernel_rfl) (fun _ _ _ h => h) (Or.inr ⟨by kernel_rfl, rfl⟩) (by assumption) ?_
        try simp only [Act.put, List.setIfInBounds_toArray, List.set_cons_zero, List.set_cons_succ]
        refine wpAnyH_takeD (i := 12) (v := undef) (some 36) rfl rfl (by kernel_rfl) (by kernel_rfl) (by kernel_rfl) (fun _ _ _ h => h) (Or.inr ⟨by kernel_rfl, rfl⟩) (by assumption) ?_
        try simp only [Act.put, List.setIfInBounds_toArray, List.set_cons_zero, List.set_cons_succ]
        refine wpAnyH_takeD (i := 13) (v := undef) (some 37) rfl rfl (by kernel_rfl) (by kernel_rfl) (by kernel_rfl) (fun _ _ _ h => h) (Or.inr ⟨by kernel_rfl, rfl⟩) (by assumption) ?_
        try simp only [Act.put, List.setIfInBounds_toArray, List.set_cons_zero, List.set_cons_succ]
        refine wpAnyH_takeD (i := 14) (v := undef) (some 38) rfl rfl (by kernel_rfl) (by kernel_rfl) (by kernel_rfl) (fun _ _ _ h => h) (Or.inr ⟨by kernel_rfl, rfl⟩) (by assumption) ?_
        try simp only [Act.put, List.setIfInBounds_toArray, List.set_cons_zero, List.set_cons_succ]
        refine wpAnyH_takeD (i := 15) (v := ?_) (some 39) rfl rfl (by kernel_rfl) (by kernel_rfl) (by kernel_rfl) (fun _ _ _ h => h) (Or.inl ⟨by rfl, ?_⟩) (by assumption) ?_
        rotate_left
        · intro w hSw; (try dsimp only at hSw); go_simp; (try with_reducible rfl)
        try simp only [Act.put, List.setIfInBounds_toArray, List.set_cons_zero, List.set_cons_succ]
        refine wpAnyH_done (by kernel_rfl) ?_ _
        refine NoPanic.normal ?_
        obtain ⟨w6, hw6⟩ : ∃ W, W = w5.drew := ⟨_, rfl⟩
        have HB6 := Lib.hid (show Below w5.heap.size w5 w6 from by rw [hw6]; exact (Below.refl _ _).drew)
        have HO6 := Lib.hid (own_belowV HO5.out HB6.out)
        have kx6 := HKX.out.below HB6.out HKX.out.lt
        have x0 := kx6.cell 0
        have x1' := kx6.cell 1
        simp at x0 x1'
        have HW6 := Lib.hid hw6
        have HM3 := Lib.hid (show w2.heap.size ≤ (w6.alloc (.cells #[.int .i64 x1, .int .i64 x2] 43)).heap.size from by have := HBL.out.size; have := HB5.out.size; have := HB6.out.size; simp; omega)
        clear kx6 hw6
        rw [← HW6.out]
        have hnn : 0 + 1 = 1 := rfl
        go_wp2_with (at_builtin; refine wpList_append_own _ rfl (.tmp 64) (.tmp 66) 31 rfl w2.heap.size 43 i0 (.agg #[.int .i64 0, .int .i64 0]) 2 16 Try.underlying31 HI.out hz0 hz1 hz2 rfl (by decide) (.slice A9 0 c9) 0 (S.flatMap enc2) rfl (HO6.out.alloc _) ⟨w6.heap.size, 0, none⟩ 1 1 [.int .i64 x1, .int .i64 x2] rfl rfl (news_of1 w6 43 #[.int .i64 x1, .int .i64 x2]) (by intro u hu; simp at hu; rcases hu with rfl | rfl <;> rfl) hm1 hm2 HM3.out ?_; intro v9 w9 hown9 hg9 _; obtain ⟨g9, c9', hv9⟩ := ownsRow_succ hown9; subst hv9; have HO9 := Lib.hid hown9; have HG9 := Lib.hid hg9; clear hown9 hg9)
        go_roundw
        case rel =>
          have hjs : jnS S (x1, x2) = S ++ [(x1, x2)] := by rcases S with _ | ⟨y, S⟩; (exact jnS_nil _); (exact absurd HR.out.1 (by simp))
          have hb6 := (HBL.out.trans (HB5.out.mono HBL.out.size)).trans (HB6.out.mono (HBL.out.trans (HB5.out.mono HBL.out.size)).size)
          refine ⟨q + 1, 0 + 1, some ⟨g9, 0, none⟩, c9', by omega, by omega, by go_num, rfl, Lib.hid ⟨?_, ?_⟩, Lib.hid ?_⟩
          · rw [HTK.out, hjs, List.length_append, ← HR.out.1]; rfl
          · rw [HTK.out, hjs, List.flatMap_append]; exact HO9.out
          · exact (hb6.alloc hb6.size _).grown HG9.out (by have := hb6.size; simp; omega) (fun j hj => (own_at HO6.out hj).2)
        case measure => simp [intOf]; omega
      · obtain ⟨S0, b, hSb⟩ : ∃ S0 b, S = S0 ++ [b] := by
          rcases List.eq_nil_or_concat S with e | ⟨o, b, e⟩
          · exact absurd HR.out.1 (by rw [e]; simpa using hn0)
          · exact ⟨o, b, by rw [e, List.concat_eq_append]⟩
        obtain ⟨b1, b2⟩ := b
        have hbb := HSB.out (b1, b2) (by rw [hSb]; simp)
        dsimp only at hbb
        have hnS : n = S.length := HR.out.1
        have hn1 : S0.length = n - 1 := by rw [hnS, hSb]; simp
        obtain ⟨gq, hgq⟩ : ∃ gq, A9 = some ⟨gq, 0, none⟩ := by
          rcases HO5.out.2 with ⟨e0, _⟩ | ⟨g', cap, cur, e0, _⟩
          · injection e0 with _ h _; omega
          · injection e0 with h _ _; exact ⟨_, h⟩
        subst hgq
        have hsl := HO5.out
        rw [hnS] at hsl
        obtain ⟨bq, oq, hq1, hq2, hq3, hq4⟩ := Sl.at2 (Sl.of_own (fun _ => rfl) hsl : Sl enc2 2 w5 w5.heap.size (some ⟨gq, 0, none⟩) S) (k := n - 1) (by omega)
        have hlast : S[n - 1]'(by omega) = (b1, b2) := by
          have : S[n - 1]? = some (b1, b2) := by rw [hSb, ← hn1]; simp
          exact (List.getElem?_eq_some_iff.1 this).2
        rw [hlast] at hq3 hq4
        injection hq1 with hq1
        injection hq1 with e1 e2
        subst e1; subst e2
        dsimp only at hq3 hq4
        have HSL := Lib.hid (show ∀ X, Below w5.heap.size w5 X → X.cell? ⟨g5, 0, none⟩ = some (.func (.func 91) #[] #[]) ∧ (X.cell? ⟨gx, 0, none⟩ = some (.int .i64 x1) ∧ X.cell? ⟨gx, 1, none⟩ = some (.int .i64 x2)) ∧ X.cell? ⟨gq, (n - 1) * 2, none⟩ = some (.int .i64 b1) ∧ X.cell? ⟨gq, (n - 1) * 2 + 1, none⟩ = some (.int .i64 b2) from fun X hX => by
          have k1 := HK55.out.below hX HK55.out.lt
          have k2 := HKX.out.below hX HKX.out.lt
          have a0 := k1.cell 0
          have a1 := k2.cell 0
          have a2 := k2.cell 1
          simp at a0 a1 a2
          have a3 := (hX.cell (p := ⟨gq, 0 + (n - 1) * 2, none⟩) hq2).trans hq3
          have a4 := (hX.cell (p := ⟨gq, 0 + (n - 1) * 2 + 1, none⟩) hq2).trans hq4
          simp only [Nat.zero_add] at a3 a4
          exact ⟨a0, ⟨a1, a2⟩, a3, a4⟩)
        have HHN := Lib.hid hnS
        have HHS := Lib.hid hSb
        clear hsl hq2 hq3 hq4 hlast hnS hSb hn1
        have j0 : decide ((n : Int) > 0) = true := by simp; omega
        have j1 : decide ((0 : Int) < (n : Int)) = true := by simp; omega
        go_upto_region 7 with fail
        have j2 : (0 : Int) ≤ (n : Int) - 1 := by omega
        have j3 : (1 : Int) ≤ (n : Int) := by omega
        have j4 : (n : Int) - 1 < (n : Int) := by omega
        have j5 : IntKind.i64.wrap ((n : Int) - 1) = (n : Int) - 1 := by rw [IntKind.wrap_i64]; omega
        have j6 : IntKind.i64.wrap (b2 + 1) = b2 + 1 := by rw [IntKind.wrap_i64]; omega
        have j7 : (1 : Nat) ≤ n := by omega
        by_cases hj : x1 ≤ b2 + 1
        · have jd : decide (x1 ≤ b2 + 1) = true := by simpa using hj
          refine wp_region_noPanic ?_
          refine wp_region_held_drew (S := (fun X => X.cell? ⟨g5, 0, none⟩ = some (.func (.func 91) #[] #[]) ∧ (X.cell? ⟨gx, 0, none⟩ = some (.int .i64 x1) ∧ X.cell? ⟨gx, 1, none⟩ = some (.int .i64 x2)) ∧ X.cell? ⟨gq, (n - 1) * 2, none⟩ = some (.int .i64 b1) ∧ X.cell? ⟨gq, (n - 1) * 2 + 1, none⟩ = some (.int .i64 b2))) (by kernel_rfl) ?_ (fun hHeld => ?_)
          · (try dsimp only); (refine HSL.out _ ?_; (repeat (with_reducible first | exact Below.refl _ _ | refine Below.drew ?_ | refine balR ?_ _)); done)
          refine wpAnyH_takeD (i := 0) (v := ?_) (some 24) rfl rfl (by kernel_rfl) (by kernel_rfl) (by kernel_rfl) (fun _ _ _ h => h) (Or.inl ⟨by rfl, ?_⟩) (by assumption) ?_
          rotate_left
          · intro w hSw; (try dsimp only at hSw); go_simp; (try with_reducible rfl)
          try simp only [Act.put, List.setIfInBounds_toArray, List.set_cons_zero, List.set_cons_succ]
          refine wpAnyH_takeD (i := 1) (v := .bool true) (some 25) rfl rfl (by kernel_rfl) (by kernel_rfl) (by kernel_rfl) (fun _ _ _ h => h) (Or.inl ⟨by rfl, ?_⟩) (by assumption) ?_
          · intro w hSw; (try dsimp only at hSw); (go_simp; (try simp); (try omega)); (try with_reducible rfl)
          try simp only [Act.put, List.setIfInBounds_toArray, List.set_cons_zero, List.set_cons_succ]
          refine wpAnyH_takeD (i := 2) (v := ?_) (some 26) rfl rfl (by kernel_rfl) (by kernel_rfl) (by kernel_rfl) (fun _ _ _ h => h) (Or.inl ⟨by rfl, ?_⟩) (by assumption) ?_
          rotate_left
          · intro w hSw; (try dsimp only at hSw); go_simp; (try with_reducible rfl)
          try simp only [Act.put, List.setIfInBounds_toArray, List.set_cons_zero, List.set_cons_succ]
          refine wpAnyH_takeD (i := 3) (v := ?_) (some 27) rfl rfl (by kernel_rfl) (by kernel_rfl) (by kernel_rfl) (fun _ _ _ h => h) (Or.inl ⟨by rfl, ?_⟩) (by assumption) ?_
          rotate_left
          · intro w hSw; (try dsimp only at hSw); go_simp; (try with_reducible rfl)
          try simp only [Act.put, List.setIfInBounds_toArray, List.set_cons_zero, List.set_cons_succ]
          refine wpAnyH_takeD (i := 4) (v := ?_) (some 28) rfl rfl (by kernel_rfl) (by kernel_rfl) (by kernel_rfl) (fun _ _ _ h => h) (Or.inl ⟨by rfl, ?_⟩) (by assumption) ?_
          rotate_left
          · intro w hSw; (try dsimp only at hSw); go_simp; (try with_reducible rfl)
          try simp only [Act.put, List.setIfInBounds_toArray, List.set_cons_zero, List.set_cons_succ]
          refine wpAnyH_takeD (i := 6) (v := ?_) (some 30) rfl rfl (by kernel_rfl) (by kernel_rfl) (by kernel_rfl) (fun _ _ _ h => h) (Or.inl ⟨by rfl, ?_⟩) (by assumption) ?_
          rotate_left
          · intro w hSw; (try dsimp only at hSw); go_simp; (try with_reducible rfl)
          try simp only [Act.put, List.setIfInBounds_toArray, List.set_cons_zero, List.set_cons_succ]
          refine wpAnyH_takeD (i := 7) (v := ?_) (some 31) rfl rfl (by kernel_rfl) (by kernel_rfl) (by kernel_rfl) (fun _ _ _ h => h) (Or.inl ⟨by rfl, ?_⟩) (by assumption) ?_
          rotate_left
          · intro w hSw; (try dsimp only at hSw); go_simp; (try with_reducible rfl)
          try simp only [Act.put, List.setIfInBounds_toArray, List.set_cons_zero, List.set_cons_succ]
          refine wpAnyH_takeD (i := 8) (v := ?_) (some 32) rfl rfl (by kernel_rfl) (by kernel_rfl) (by kernel_rfl) (fun _ _ _ h => h) (Or.inl ⟨by rfl, ?_⟩) (by assumption) ?_
          rotate_left
          · intro w hSw; (try dsimp only at hSw); go_simp; (try with_reducible rfl)
          try simp only [Act.put, List.setIfInBounds_toArray, List.set_cons_zero, List.set_cons_succ]
          refine wpAnyH_takeD (i := 9) (v := ?_) (some 33) rfl rfl (by kernel_rfl) (by kernel_rfl) (by kernel_rfl) (fun _ _ _ h => h) (Or.inl ⟨by rfl, ?_⟩) (by assumption) ?_
          rotate_left
          · intro w hSw; (try dsimp only at hSw); go_simp; (try with_reducible rfl)
          try simp only [Act.put, List.setIfInBounds_toArray, List.set_cons_zero, List.set_cons_succ]
          refine wpAnyH_takeD (i := 10) (v := ?_) (some 34) rfl rfl (by kernel_rfl) (by kernel_rfl) (by kernel_rfl) (fun _ _ _ h => h) (Or.inl ⟨by rfl, ?_⟩) (by assumption) ?_
          rotate_left
          · intro w hSw; (try dsimp only at hSw); go_simp; (try with_reducible rfl)
          try simp only [Act.put, List.setIfInBounds_toArray, List.set_cons_zero, List.set_cons_succ]
          refine wpAnyH_takeD (i := 11) (v := ?_) (some 35) rfl rfl (by kernel_rfl) (by kernel_rfl) (by kernel_rfl) (fun _ _ _ h => h) (Or.inl ⟨by rfl, ?_⟩) (by assumption) ?_
          rotate_left
          · intro w hSw; (try dsimp only at hSw); go_simp; (try with_reducible rfl)
          try simp only [Act.put, List.setIfInBounds_toArray, List.set_cons_zero, List.set_cons_succ]
          refine wpAnyH_ready (rs := [5]) (by kernel_rfl) (by simp) ?_
          refine AllReadyH.cons rfl (fun K hK => ?_) AllReadyH.nil
          (go_simp; go_at_call 91; with_reducible refine (lo91_any _ _ _).mono ?_; rintro e w6 ⟨rfl, rfl⟩; go_wp2_with fail)
          refine hK.out _ _ ?_ (fun hHeld => ?_)
          · (try dsimp only); (refine HSL.out _ ?_; (repeat (with_reducible first | exact Below.refl _ _ | refine Below.drew ?_ | refine balR ?_ _)); done)
          clear hK K
          try simp only [List.getElem_toArray, List.getElem_cons_succ, List.getElem_cons_zero]
          try simp only [Act.put, List.setIfInBounds_toArray, List.set_cons_zero, List.set_cons_succ]
          refine wpAnyH_ready (rs := [12]) (by kernel_rfl) (by simp) ?_
          refine AllReadyH.cons rfl (fun K hK => ?_) AllReadyH.nil
          (go_simp; go_at_call 92; with_reducible refine (hi92_any _ _ _).mono ?_; rintro e w6 ⟨rfl, rfl⟩; go_wp2_with fail)
          refine hK.out _ _ ?_ (fun hHeld => ?_)
          · (try dsimp only); (refine HSL.out _ ?_; (repeat (with_reducible first | exact Below.refl _ _ | refine Below.drew ?_ | refine balR ?_ _)); done)
          clear hK K
          try simp only [List.getElem_toArray, List.getElem_cons_succ, List.getElem_cons_zero]
          try simp only [Act.put, List.setIfInBounds_toArray, List.set_cons_zero, List.set_cons_succ]
          refine wpAnyH_takeD (i := 13) (v := ?_) (some 37) rfl rfl (by kernel_rfl) (by kernel_rfl) (by kernel_rfl) (fun _ _ _ h => h) (Or.inl ⟨by rfl, ?_⟩) (by assumption) ?_
          rotate_left
          · intro w hSw; (try dsimp only at hSw); go_simp; (try with_reducible rfl)
          try simp only [Act.put, List.setIfInBounds_toArray, List.set_cons_zero, List.set_cons_succ]
          refine wpAnyH_takeD (i := 14) (v := .bool true) (some 38) rfl rfl (by kernel_rfl) (by kernel_rfl) (by kernel_rfl) (fun _ _ _ h => h) (Or.inl ⟨by rfl, ?_⟩) (by assumption) ?_
          · intro w hSw; (try dsimp only at hSw); (go_simp; try simp [jd]); (try with_reducible rfl)
          try simp only [Act.put, List.setIfInBounds_toArray, List.set_cons_zero, List.set_cons_succ]
          refine wpAnyH_takeD (i := 15) (v := ?_) (some 39) rfl rfl (by kernel_rfl) (by kernel_rfl) (by kernel_rfl) (fun _ _ _ h => h) (Or.inl ⟨by rfl, ?_⟩) (by assumption) ?_
          rotate_left
          · intro w hSw; (try dsimp only at hSw); go_simp; (try with_reducible rfl)
          try simp only [Act.put, List.setIfInBounds_toArray, List.set_cons_zero, List.set_cons_succ]
          refine wpAnyH_done (by kernel_rfl) ?_ _
          refine NoPanic.normal ?_
          obtain ⟨w6, hw6⟩ : ∃ W, W = ((w5.alloc (.cells #[.int .i64 x1, .int .i64 x2] 43)).alloc (.cells #[.int .i64 b1, .int .i64 b2] 43)).drew := ⟨_, rfl⟩
          have HB6 := Lib.hid (show Below w5.heap.size w5 w6 from by rw [hw6]; exact (balR (balR (Below.refl _ _) _) _).drew)
          have HO6 := Lib.hid (own_belowV HO5.out HB6.out)
          have HSL6 := Lib.hid (show ∀ X, Below w6.heap.size w6 X → Below w5.heap.size w5 X from fun X h => bstep HB6.out h)
          obtain ⟨-, ⟨x0, x1'⟩, -⟩ := HSL.out w6 HB6.out
          have HW6 := Lib.hid hw6
          have HM3' := Lib.hid (show w2.heap.size ≤ (w6.alloc (.cells #[.int .i64 x1, .int .i64 x2] 43)).heap.size from by have := HBL.out.size; have := HB5.out.size; have := HB6.out.size; simp; omega)
          clear hw6
          go_upto_region 8 with fail
          rw [← HW6.out]
          clear x0 x1'
          have hgq : gq < wr.heap.size := (HR.out.2.lt gq rfl).2
          have hgq2 : w2.heap.size ≤ gq := (own_at HR.out.2 (g := gq) rfl).2
          have hg52 := HK5'.out.lt
          have n5 : g5 ≠ gq := by omega
          have nx : gx ≠ gq := by rw [HGX.out]; omega
          have HST := Lib.hid (show ∀ (X : World) (o1 o2 : Nat) (u v : Value), (X.cell? ⟨g5, 0, none⟩ = some (.func (.func 91) #[] #[]) ∧ (X.cell? ⟨gx, 0, none⟩ = some (.int .i64 x1) ∧ X.cell? ⟨gx, 1, none⟩ = some (.int .i64 x2))) → (((X.setCell ⟨gq, o1, none⟩ u).setCell ⟨gq, o2, none⟩ v).cell? ⟨g5, 0, none⟩ = some (.func (.func 91) #[] #[]) ∧ (((X.setCell ⟨gq, o1, none⟩ u).setCell ⟨gq, o2, none⟩ v).cell? ⟨gx, 0, none⟩ = some (.int .i64 x1) ∧ ((X.setCell ⟨gq, o1, none⟩ u).setCell ⟨gq, o2, none⟩ v).cell? ⟨gx, 1, none⟩ = some (.int .i64 x2))) from fun X o1 o2 u v h => by
            have far : ∀ (b o : Nat), b ≠ gq → ((X.setCell ⟨gq, o1, none⟩ u).setCell ⟨gq, o2, none⟩ v).cell? ⟨b, o, none⟩ = X.cell? ⟨b, o, none⟩ := fun b o hb => by
              rw [World.cell?_setCell_far _ _ _ _ (fun e => hb e.symm), World.cell?_setCell_far _ _ _ _ (fun e => hb e.symm)]
            rw [far _ _ n5, far _ _ nx, far _ _ nx]; exact h)
          have HJN := Lib.hid (show ∀ X, Below w5.heap.size w5 X → X.frozen? ⟨gq, (n - 1) * 2, none⟩ = false ∧ X.frozen? ⟨gq, (n - 1) * 2 + 1, none⟩ = false ∧ ((X.setCell ⟨gq, (n - 1) * 2, none⟩ (.int .i64 b1)).setCell ⟨gq, (n - 1) * 2 + 1, none⟩ (.int .i64 (max b2 x2))).ownsRow w2.heap.size 43 2 (.slice (some ⟨gq, 0, none⟩) n c9) n ((S0 ++ [(b1, max b2 x2)]).flatMap enc2) ∧ Below w2.heap.size w2 ((X.setCell ⟨gq, (n - 1) * 2, none⟩ (.int .i64 b1)).setCell ⟨gq, (n - 1) * 2 + 1, none⟩ (.int .i64 (max b2 x2))) from fun X hX => by
            have ho := own_belowV HO5.out hX
            obtain ⟨⟨cs, hcs⟩, -⟩ := own_at ho (g := gq) rfl
            have hbk : Blk X gq 43 cs := hcs
            have hbl := (HBL.out.trans (HB5.out.mono HBL.out.size)).trans (hX.mono (HBL.out.trans (HB5.out.mono HBL.out.size)).size)
            refine ⟨hbk.frozen _, hbk.frozen _, ?_, ?_⟩
            · have h2 := own_put (own_put ho ((n - 1) * 2) (.int .i64 b1)) ((n - 1) * 2 + 1) (.int .i64 (max b2 x2))
              have hnl : n - 1 = S0.length := by rw [HHN.out, HHS.out]; simp
              rw [HHS.out] at h2
              rw [hnl] at h2 ⊢
              rwa [flat_set] at h2
            · exact (hbl.grown (gr_set _ _ _ _) hbl.size (fun j hj => by injection hj with hj; omega)).grown (gr_set _ _ _ _) (by have := hbl.size; simpa [World.setCell] using this) (fun j hj => by injection hj with hj; omega))
          obtain ⟨y1, ⟨y2, y3⟩, y4, y5⟩ := HSL.out w6.drew HB6.out.drew
          refine wp_region_noPanic ?_
          refine wp_region_held_drew (S := (fun X => X.cell? ⟨g5, 0, none⟩ = some (.func (.func 91) #[] #[]) ∧ (X.cell? ⟨gx, 0, none⟩ = some (.int .i64 x1) ∧ X.cell? ⟨gx, 1, none⟩ = some (.int .i64 x2)))) (by kernel_rfl) ?_ (fun hHeld => ?_)
          · (try dsimp only); (obtain ⟨h1, h2, -⟩ := HSL.out _ (show Below w5.heap.size w5 w6.drew from HB6.out.drew); exact ⟨h1, h2⟩)
          refine wpAnyH_takeD (i := 0) (v := ?_) (some 40) rfl rfl (by kernel_rfl) (by kernel_rfl) (by kernel_rfl) (fun _ _ _ h => h) (Or.inl ⟨by rfl, ?_⟩) (by assumption) ?_
          rotate_left
          · intro w hSw; (try dsimp only at hSw); go_simp; (try with_reducible rfl)
          try simp only [Act.put, List.setIfInBounds_toArray, List.set_cons_zero, List.set_cons_succ]
          refine wpAnyH_takeD (i := 1) (v := ?_) (some 41) rfl rfl (by kernel_rfl) (by kernel_rfl) (by kernel_rfl) (fun _ _ _ h => h) (Or.inl ⟨by rfl, ?_⟩) (by assumption) ?_
          rotate_left
          · intro w hSw; (try dsimp only at hSw); go_simp; (try with_reducible rfl)
          try simp only [Act.put, List.setIfInBounds_toArray, List.set_cons_zero, List.set_cons_succ]
          refine wpAnyH_takeD (i := 2) (v := ?_) (some 42) rfl rfl (by kernel_rfl) (by kernel_rfl) (by kernel_rfl) (fun _ _ _ h => h) (Or.inl ⟨by rfl, ?_⟩) (by assumption) ?_
          rotate_left
          · intro w hSw; (try dsimp only at hSw); go_simp; (try with_reducible rfl)
          try simp only [Act.put, List.setIfInBounds_toArray, List.set_cons_zero, List.set_cons_succ]
          refine wpAnyH_takeD (i := 3) (v := ?_) (some 43) rfl rfl (by kernel_rfl) (by kernel_rfl) (by kernel_rfl) (fun _ _ _ h => h) (Or.inl ⟨by rfl, ?_⟩) (by assumption) ?_
          rotate_left
          · intro w hSw; (try dsimp only at hSw); go_simp; (try with_reducible rfl)
          try simp only [Act.put, List.setIfInBounds_toArray, List.set_cons_zero, List.set_cons_succ]
          refine wpAnyH_takeD (i := 4) (v := ?_) (some 44) rfl rfl (by kernel_rfl) (by kernel_rfl) (by kernel_rfl) (fun _ _ _ h => h) (Or.inl ⟨by rfl, ?_⟩) (by assumption) ?_
          rotate_left
          · intro w hSw; (try dsimp only at hSw); go_simp; (try with_reducible rfl)
          try simp only [Act.put, List.setIfInBounds_toArray, List.set_cons_zero, List.set_cons_succ]
          refine wpAnyH_takeD (i := 5) (v := ?_) (some 45) rfl rfl (by kernel_rfl) (by kernel_rfl) (by kernel_rfl) (fun _ _ _ h => h) (Or.inl ⟨by rfl, ?_⟩) (by assumption) ?_
          rotate_left
          · intro w hSw; (try dsimp only at hSw); go_simp; (try with_reducible rfl)
          try simp only [Act.put, List.setIfInBounds_toArray, List.set_cons_zero, List.set_cons_succ]
          refine wpAnyH_takeD (i := 6) (v := ?_) (some 46) rfl rfl (by kernel_rfl) (by kernel_rfl) (by kernel_rfl) (fun _ _ _ h => h) (Or.inl ⟨by rfl, ?_⟩) (by assumption) ?_
          rotate_left
          · intro w hSw; (try dsimp only at hSw); go_simp; (try with_reducible rfl)
          try simp only [Act.put, List.setIfInBounds_toArray, List.set_cons_zero, List.set_cons_succ]
          refine wpAnyH_takeD (i := 7) (v := ?_) (some 47) rfl rfl (by kernel_rfl) (by kernel_rfl) (by kernel_rfl) (fun _ _ _ h => h) (Or.inl ⟨by rfl, ?_⟩) (by assumption) ?_
          rotate_left
          · intro w hSw; (try dsimp only at hSw); go_simp; (try with_reducible rfl)
          try simp only [Act.put, List.setIfInBounds_toArray, List.set_cons_zero, List.set_cons_succ]
          refine wpAnyH_takeD (i := 8) (v := ?_) (some 48) rfl rfl (by kernel_rfl) (by kernel_rfl) (by kernel_rfl) (fun _ _ _ h => h) (Or.inl ⟨by rfl, ?_⟩) (by assumption) ?_
          rotate_left
          · intro w hSw; (try dsimp only at hSw); go_simp; (try with_reducible rfl)
          try simp only [Act.put, List.setIfInBounds_toArray, List.set_cons_zero, List.set_cons_succ]
          refine wpAnyH_takeD (i := 11) (v := ?_) (some 51) rfl rfl (by kernel_rfl) (by kernel_rfl) (by kernel_rfl) (fun _ _ _ h => h) (Or.inl ⟨by rfl, ?_⟩) (by assumption) ?_
          rotate_left
          · intro w hSw; (try dsimp only at hSw); go_simp; (try with_reducible rfl)
          try simp only [Act.put, List.setIfInBounds_toArray, List.set_cons_zero, List.set_cons_succ]
          refine wpAnyH_takeD (i := 12) (v := ?_) (some 52) rfl rfl (by kernel_rfl) (by kernel_rfl) (by kernel_rfl) (fun _ _ _ h => h) (Or.inl ⟨by rfl, ?_⟩) (by assumption) ?_
          rotate_left
          · intro w hSw; (try dsimp only at hSw); go_simp; (try with_reducible rfl)
          try simp only [Act.put, List.setIfInBounds_toArray, List.set_cons_zero, List.set_cons_succ]
          refine wpAnyH_takeD (i := 13) (v := ?_) (some 53) rfl rfl (by kernel_rfl) (by kernel_rfl) (by kernel_rfl) (fun _ _ _ h => h) (Or.inl ⟨by rfl, ?_⟩) (by assumption) ?_
          rotate_left
          · intro w hSw; (try dsimp only at hSw); go_simp; (try with_reducible rfl)
          try simp only [Act.put, List.setIfInBounds_toArray, List.set_cons_zero, List.set_cons_succ]
          refine wpAnyH_takeD (i := 14) (v := ?_) (some 54) rfl rfl (by kernel_rfl) (by kernel_rfl) (by kernel_rfl) (fun _ _ _ h => h) (Or.inl ⟨by rfl, ?_⟩) (by assumption) ?_
          rotate_left
          · intro w hSw; (try dsimp only at hSw); go_simp; (try with_reducible rfl)
          try simp only [Act.put, List.setIfInBounds_toArray, List.set_cons_zero, List.set_cons_succ]
          refine wpAnyH_takeD (i := 15) (v := ?_) (some 55) rfl rfl (by kernel_rfl) (by kernel_rfl) (by kernel_rfl) (fun _ _ _ h => h) (Or.inl ⟨by rfl, ?_⟩) (by assumption) ?_
          rotate_left
          · intro w hSw; (try dsimp only at hSw); go_simp; (try with_reducible rfl)
          try simp only [Act.put, List.setIfInBounds_toArray, List.set_cons_zero, List.set_cons_succ]
          refine wpAnyH_takeD (i := 18) (v := ?_) (some 58) rfl rfl (by kernel_rfl) (by kernel_rfl) (by kernel_rfl) (fun _ _ _ h => h) (Or.inl ⟨by rfl, ?_⟩) (by assumption) ?_
          rotate_left
          · intro w hSw; (try dsimp only at hSw); go_simp; (try with_reducible rfl)
          try simp only [Act.put, List.setIfInBounds_toArray, List.set_cons_zero, List.set_cons_succ]
          refine wpAnyH_takeD (i := 19) (v := ?_) (some 59) rfl rfl (by kernel_rfl) (by kernel_rfl) (by kernel_rfl) (fun _ _ _ h => h) (Or.inl ⟨by rfl, ?_⟩) (by assumption) ?_
          rotate_left
          · intro w hSw; (try dsimp only at hSw); go_simp; (try with_reducible rfl)
          try simp only [Act.put, List.setIfInBounds_toArray, List.set_cons_zero, List.set_cons_succ]
          refine wpAnyH_ready (rs := [9, 16]) (by kernel_rfl) (by simp) ?_
          refine AllReadyH.cons rfl (fun K hK => ?_) (AllReadyH.cons rfl (fun K hK => ?_) AllReadyH.nil)
          · go_simp
            refine hK.out _ _ ?_ (fun hHeld => ?_)
            · (try dsimp only); (exact hHeld)
            clear hK K
            try simp only [List.getElem_toArray, List.getElem_cons_succ, List.getElem_cons_zero]
            try simp only [Act.put, List.setIfInBounds_toArray, List.set_cons_zero, List.set_cons_succ]
            refine wpAnyH_ready (rs := [10, 16]) (by kernel_rfl) (by simp) ?_
            refine AllReadyH.cons rfl (fun K hK => ?_) (AllReadyH.cons rfl (fun K hK => ?_) AllReadyH.nil)
            · (go_simp; go_at_call 91; with_reducible refine (lo91_any _ _ _).mono ?_; rintro e wc10 ⟨rfl, hwc⟩; have HBc10 := Lib.hid (show Below w5.heap.size w5 wc10 from by rw [hwc]; exact balR (HB6.out.drew) _); clear hwc; obtain ⟨y1, ⟨y2, y3⟩, y4, y5⟩ := HSL.out wc10 HBc10.out; go_wp2_with fail)
              refine hK.out _ _ ?_ (fun hHeld => ?_)
              · (try dsimp only); (exact ⟨y1, y2, y3⟩)
              clear hK K
              try simp only [List.getElem_toArray, List.getElem_cons_succ, List.getElem_cons_zero]
              try simp only [Act.put, List.setIfInBounds_toArray, List.set_cons_zero, List.set_cons_succ]
              refine wpAnyH_ready (rs := [16]) (by kernel_rfl) (by simp) ?_
              refine AllReadyH.cons rfl (fun K hK => ?_) AllReadyH.nil
              go_simp
              refine hK.out _ _ ?_ (fun hHeld => ?_)
              · (try dsimp only); (exact hHeld)
              clear hK K
              try simp only [List.getElem_toArray, List.getElem_cons_succ, List.getElem_cons_zero]
              try simp only [Act.put, List.setIfInBounds_toArray, List.set_cons_zero, List.set_cons_succ]
              refine wpAnyH_ready (rs := [17]) (by kernel_rfl) (by simp) ?_
              refine AllReadyH.cons rfl (fun K hK => ?_) AllReadyH.nil
              (go_simp; go_at_call 92; with_reducible refine (hi92_any _ _ _).mono ?_; rintro e wc17 ⟨rfl, hwc⟩; have HBc17 := Lib.hid (show Below w5.heap.size w5 wc17 from by rw [hwc]; exact balR (HBc10.out) _); clear hwc; obtain ⟨y1, ⟨y2, y3⟩, y4, y5⟩ := HSL.out wc17 HBc17.out; go_wp2_with fail)
              refine hK.out _ _ ?_ (fun hHeld => ?_)
              · (try dsimp only); (exact ⟨y1, y2, y3⟩)
              clear hK K
              try simp only [List.getElem_toArray, List.getElem_cons_succ, List.getElem_cons_zero]
              try simp only [Act.put, List.setIfInBounds_toArray, List.set_cons_zero, List.set_cons_succ]
              refine wpAnyH_ready (rs := [20]) (by kernel_rfl) (by simp) ?_
              refine AllReadyH.cons rfl (fun K hK => ?_) AllReadyH.nil
              (go_simp; go_at_call 92; with_reducible refine (hi92_any _ _ _).mono ?_; rintro e wc20 ⟨rfl, hwc⟩; have HBc20 := Lib.hid (show Below w5.heap.size w5 wc20 from by rw [hwc]; exact balR (HBc17.out) _); clear hwc; obtain ⟨y1, ⟨y2, y3⟩, y4, y5⟩ := HSL.out wc20 HBc20.out; go_wp2_with fail)
              refine hK.out _ _ ?_ (fun hHeld => ?_)
              · (try dsimp only); (exact ⟨y1, y2, y3⟩)
              clear hK K
              try simp only [List.getElem_toArray, List.getElem_cons_succ, List.getElem_cons_zero]
              try simp only [Act.put, List.setIfInBounds_toArray, List.set_cons_zero, List.set_cons_succ]
              refine wpAnyH_takeD (i := 21) (v := ?_) (some 61) rfl rfl (by kernel_rfl) (by kernel_rfl) (by kernel_rfl) (fun _ _ _ h => h) (Or.inl ⟨by rfl, ?_⟩) (by assumption) ?_
              rotate_left
              · intro w hSw; (try dsimp only at hSw); go_simp; (try with_reducible rfl)
              try simp only [Act.put, List.setIfInBounds_toArray, List.set_cons_zero, List.set_cons_succ]
              refine wpAnyH_ready (rs := [22]) (by kernel_rfl) (by simp) ?_
              refine AllReadyH.cons rfl (fun K hK => ?_) AllReadyH.nil
              (go_simp; go_at_call 93; with_reducible refine (mk93_any _ _ _).mono ?_; rintro e wc22 ⟨rfl, hwc⟩; have HBc22 := Lib.hid (show Below w5.heap.size w5 wc22 from by rw [hwc]; exact balR (HBc20.out) _); clear hwc; obtain ⟨y1, ⟨y2, y3⟩, y4, y5⟩ := HSL.out wc22 HBc22.out; obtain ⟨y6, y7, -⟩ := HJN.out wc22 HBc22.out; go_wp2_with fail)
              refine hK.out _ _ ?_ (fun hHeld => ?_)
              · (try dsimp only); (exact ⟨y1, y2, y3⟩)
              clear hK K
              try simp only [List.getElem_toArray, List.getElem_cons_succ, List.getElem_cons_zero]
              try simp only [Act.put, List.setIfInBounds_toArray, List.set_cons_zero, List.set_cons_succ]
              refine wpAnyH_takeD (i := 23) (v := ?_) (some 63) rfl rfl (by kernel_rfl) (by kernel_rfl) (by kernel_rfl) (fun _ _ _ h => h) (Or.inl ⟨by rfl, ?_⟩) (by assumption) ?_
              rotate_left
              · intro w hSw; (try dsimp only at hSw); go_simp; (try with_reducible rfl)
              try simp only [Act.put, List.setIfInBounds_toArray, List.set_cons_zero, List.set_cons_succ]
              refine wpAnyH_ready (rs := [24]) (by kernel_rfl) (by simp) ?_
              refine AllReadyH.cons rfl (fun K hK => ?_) AllReadyH.nil
              go_simp
              refine hK.out _ _ ?_ (fun hHeld => ?_)
              · (try dsimp only); (exact HST.out _ _ _ _ _ hHeld)
              clear hK K
              try simp only [List.getElem_toArray, List.getElem_cons_succ, List.getElem_cons_zero]
              try simp only [Act.put, List.setIfInBounds_toArray, List.set_cons_zero, List.set_cons_succ]
              refine wpAnyH_done (by kernel_rfl) ?_ _
              refine NoPanic.normal ?_
              have HOX := Lib.hid (HJN.out _ HBc22.out).2.2.1
              have HBX := Lib.hid (HJN.out _ HBc22.out).2.2.2
              clear y1 y2 y3 y4 y5 y6 y7
              go_wp2_with fail
              go_roundw
              case rel =>
                refine ⟨q + 1, n, some ⟨gq, 0, none⟩, c9, by omega, by omega, by go_num, rfl, Lib.hid ⟨?_, ?_⟩, HBX⟩
                · rw [HTK.out, HHS.out, jnS_snoc, if_pos (show x1 ≤ (b1, b2).2 + 1 by dsimp only; omega), HHN.out, HHS.out]; simp
                · rw [HTK.out, HHS.out, jnS_snoc, if_pos (show x1 ≤ (b1, b2).2 + 1 by dsimp only; omega)]; exact HOX.out
              case measure => simp [intOf]; omega
            · go_simp
              refine hK.out _ _ ?_ (fun hHeld => ?_)
              · (try dsimp only); (exact hHeld)
              clear hK K
              try simp only [List.getElem_toArray, List.getElem_cons_succ, List.getElem_cons_zero]
              try simp only [Act.put, List.setIfInBounds_toArray, List.set_cons_zero, List.set_cons_succ]
              refine wpAnyH_ready (rs := [10]) (by kernel_rfl) (by simp) ?_
              refine AllReadyH.cons rfl (fun K hK => ?_) AllReadyH.nil
              (go_simp; go_at_call 91; with_reducible refine (lo91_any _ _ _).mono ?_; rintro e wc10 ⟨rfl, hwc⟩; have HBc10 := Lib.hid (show Below w5.heap.size w5 wc10 from by rw [hwc]; exact balR (HB6.out.drew) _); clear hwc; obtain ⟨y1, ⟨y2, y3⟩, y4, y5⟩ := HSL.out wc10 HBc10.out; go_wp2_with fail)
              refine hK.out _ _ ?_ (fun hHeld => ?_)
              · (try dsimp only); (exact ⟨y1, y2, y3⟩)
              clear hK K
              try simp only [List.getElem_toArray, List.getElem_cons_succ, List.getElem_cons_zero]
              try simp only [Act.put, List.setIfInBounds_toArray, List.set_cons_zero, List.set_cons_succ]
              refine wpAnyH_ready (rs := [17]) (by kernel_rfl) (by simp) ?_
              refine AllReadyH.cons rfl (fun K hK => ?_) AllReadyH.nil
              (go_simp; go_at_call 92; with_reducible refine (hi92_any _ _ _).mono ?_; rintro e wc17 ⟨rfl, hwc⟩; have HBc17 := Lib.hid (show Below w5.heap.size w5 wc17 from by rw [hwc]; exact balR (HBc10.out) _); clear hwc; obtain ⟨y1, ⟨y2, y3⟩, y4, y5⟩ := HSL.out wc17 HBc17.out; go_wp2_with fail)
              refine hK.out _ _ ?_ (fun hHeld => ?_)
              · (try dsimp only); (exact ⟨y1, y2, y3⟩)
              clear hK K
              try simp only [List.getElem_toArray, List.getElem_cons_succ, List.getElem_cons_zero]
              try simp only [Act.put, List.setIfInBounds_toArray, List.set_cons_zero, List.set_cons_succ]
              refine wpAnyH_ready (rs := [20]) (by kernel_rfl) (by simp) ?_
              refine AllReadyH.cons rfl (fun K hK => ?_) AllReadyH.nil
              (go_simp; go_at_call 92; with_reducible refine (hi92_any _ _ _).mono ?_; rintro e wc20 ⟨rfl, hwc⟩; have HBc20 := Lib.hid (show Below w5.heap.size w5 wc20 from by rw [hwc]; exact balR (HBc17.out) _); clear hwc; obtain ⟨y1, ⟨y2, y3⟩, y4, y5⟩ := HSL.out wc20 HBc20.out; go_wp2_with fail)
              refine hK.out _ _ ?_ (fun hHeld => ?_)
              · (try dsimp only); (exact ⟨y1, y2, y3⟩)
              clear hK K
              try simp only [List.getElem_toArray, List.getElem_cons_succ, List.getElem_cons_zero]
              try simp only [Act.put, List.setIfInBounds_toArray, List.set_cons_zero, List.set_cons_succ]
              refine wpAnyH_takeD (i := 21) (v := ?_) (some 61) rfl rfl (by kernel_rfl) (by kernel_rfl) (by kernel_rfl) (fun _ _ _ h => h) (Or.inl ⟨by rfl, ?_⟩) (by assumption) ?_
              rotate_left
              · intro w hSw; (try dsimp only at hSw); go_simp; (try with_reducible rfl)
              try simp only [Act.put, List.setIfInBounds_toArray, List.set_cons_zero, List.set_cons_succ]
              refine wpAnyH_ready (rs := [22]) (by kernel_rfl) (by simp) ?_
              refine AllReadyH.cons rfl (fun K hK => ?_) AllReadyH.nil
              (go_simp; go_at_call 93; with_reducible refine (mk93_any _ _ _).mono ?_; rintro e wc22 ⟨rfl, hwc⟩; have HBc22 := Lib.hid (show Below w5.heap.size w5 wc22 from by rw [hwc]; exact balR (HBc20.out) _); clear hwc; obtain ⟨y1, ⟨y2, y3⟩, y4, y5⟩ := HSL.out wc22 HBc22.out; obtain ⟨y6, y7, -⟩ := HJN.out wc22 HBc22.out; go_wp2_with fail)
              refine hK.out _ _ ?_ (fun hHeld => ?_)
              · (try dsimp only); (exact ⟨y1, y2, y3⟩)
              clear hK K
              try simp only [List.getElem_toArray, List.getElem_cons_succ, List.getElem_cons_zero]
              try simp only [Act.put, List.setIfInBounds_toArray, List.set_cons_zero, List.set_cons_succ]
              refine wpAnyH_takeD (i := 23) (v := ?_) (some 63) rfl rfl (by kernel_rfl) (by kernel_rfl) (by kernel_rfl) (fun _ _ _ h => h) (Or.inl ⟨by rfl, ?_⟩) (by assumption) ?_
              rotate_left
              · intro w hSw; (try dsimp only at hSw); go_simp; (try with_reducible rfl)
              try simp only [Act.put, List.setIfInBounds_toArray, List.set_cons_zero, List.set_cons_succ]
              refine wpAnyH_ready (rs := [24]) (by kernel_rfl) (by simp) ?_
              refine AllReadyH.cons rfl (fun K hK => ?_) AllReadyH.nil
              go_simp
              refine hK.out _ _ ?_ (fun hHeld => ?_)
              · (try dsimp only); (exact HST.out _ _ _ _ _ hHeld)
              clear hK K
              try simp only [List.getElem_toArray, List.getElem_cons_succ, List.getElem_cons_zero]
              try simp only [Act.put, List.setIfInBounds_toArray, List.set_cons_zero, List.set_cons_succ]
              refine wpAnyH_done (by kernel_rfl) ?_ _
              refine NoPanic.normal ?_
              have HOX := Lib.hid (HJN.out _ HBc22.out).2.2.1
              have HBX := Lib.hid (HJN.out _ HBc22.out).2.2.2
              clear y1 y2 y3 y4 y5 y6 y7
              go_wp2_with fail
              go_roundw
              case rel =>
                refine ⟨q + 1, n, some ⟨gq, 0, none⟩, c9, by omega, by omega, by go_num, rfl, Lib.hid ⟨?_, ?_⟩, HBX⟩
                · rw [HTK.out, HHS.out, jnS_snoc, if_pos (show x1 ≤ (b1, b2).2 + 1 by dsimp only; omega), HHN.out, HHS.out]; simp
                · rw [HTK.out, HHS.out, jnS_snoc, if_pos (show x1 ≤ (b1, b2).2 + 1 by dsimp only; omega)]; exact HOX.out
              case measure => simp [intOf]; omega
          · go_simp
            refine hK.out _ _ ?_ (fun hHeld => ?_)
            · (try dsimp only); (exact hHeld)
            clear hK K
            try simp only [List.getElem_toArray, List.getElem_cons_succ, List.getElem_cons_zero]
            try simp only [Act.put, List.setIfInBounds_toArray, List.set_cons_zero, List.set_cons_succ]
            refine wpAnyH_ready (rs := [9]) (by kernel_rfl) (by simp) ?_
            refine AllReadyH.cons rfl (fun K hK => ?_) AllReadyH.nil
            go_simp
            refine hK.out _ _ ?_ (fun hHeld => ?_)
            · (try dsimp only); (exact hHeld)
            clear hK K
            try simp only [List.getElem_toArray, List.getElem_cons_succ, List.getElem_cons_zero]
            try simp only [Act.put, List.setIfInBounds_toArray, List.set_cons_zero, List.set_cons_succ]
            refine wpAnyH_ready (rs := [10]) (by kernel_rfl) (by simp) ?_
            refine AllReadyH.cons rfl (fun K hK => ?_) AllReadyH.nil
            (go_simp; go_at_call 91; with_reducible refine (lo91_any _ _ _).mono ?_; rintro e wc10 ⟨rfl, hwc⟩; have HBc10 := Lib.hid (show Below w5.heap.size w5 wc10 from by rw [hwc]; exact balR (HB6.out.drew) _); clear hwc; obtain ⟨y1, ⟨y2, y3⟩, y4, y5⟩ := HSL.out wc10 HBc10.out; go_wp2_with fail)
            refine hK.out _ _ ?_ (fun hHeld => ?_)
            · (try dsimp only); (exact ⟨y1, y2, y3⟩)
            clear hK K
            try simp only [List.getElem_toArray, List.getElem_cons_succ, List.getElem_cons_zero]
            try simp only [Act.put, List.setIfInBounds_toArray, List.set_cons_zero, List.set_cons_succ]
            refine wpAnyH_ready (rs := [17]) (by kernel_rfl) (by simp) ?_
            refine AllReadyH.cons rfl (fun K hK => ?_) AllReadyH.nil
            (go_simp; go_at_call 92; with_reducible refine (hi92_any _ _ _).mono ?_; rintro e wc17 ⟨rfl, hwc⟩; have HBc17 := Lib.hid (show Below w5.heap.size w5 wc17 from by rw [hwc]; exact balR (HBc10.out) _); clear hwc; obtain ⟨y1, ⟨y2, y3⟩, y4, y5⟩ := HSL.out wc17 HBc17.out; go_wp2_with fail)
            refine hK.out _ _ ?_ (fun hHeld => ?_)
            · (try dsimp only); (exact ⟨y1, y2, y3⟩)
            clear hK K
            try simp only [List.getElem_toArray, List.getElem_cons_succ, List.getElem_cons_zero]
            try simp only [Act.put, List.setIfInBounds_toArray, List.set_cons_zero, List.set_cons_succ]
            refine wpAnyH_ready (rs := [20]) (by kernel_rfl) (by simp) ?_
            refine AllReadyH.cons rfl (fun K hK => ?_) AllReadyH.nil
            (go_simp; go_at_call 92; with_reducible refine (hi92_any _ _ _).mono ?_; rintro e wc20 ⟨rfl, hwc⟩; have HBc20 := Lib.hid (show Below w5.heap.size w5 wc20 from by rw [hwc]; exact balR (HBc17.out) _); clear hwc; obtain ⟨y1, ⟨y2, y3⟩, y4, y5⟩ := HSL.out wc20 HBc20.out; go_wp2_with fail)
            refine hK.out _ _ ?_ (fun hHeld => ?_)
            · (try dsimp only); (exact ⟨y1, y2, y3⟩)
            clear hK K
            try simp only [List.getElem_toArray, List.getElem_cons_succ, List.getElem_cons_zero]
            try simp only [Act.put, List.setIfInBounds_toArray, List.set_cons_zero, List.set_cons_succ]
            refine wpAnyH_takeD (i := 21) (v := ?_) (some 61) rfl rfl (by kernel_rfl) (by kernel_rfl) (by kernel_rfl) (fun _ _ _ h => h) (Or.inl ⟨by rfl, ?_⟩) (by assumption) ?_
            rotate_left
            · intro w hSw; (try dsimp only at hSw); go_simp; (try with_reducible rfl)
            try simp only [Act.put, List.setIfInBounds_toArray, List.set_cons_zero, List.set_cons_succ]
            refine wpAnyH_ready (rs := [22]) (by kernel_rfl) (by simp) ?_
            refine AllReadyH.cons rfl (fun K hK => ?_) AllReadyH.nil
            (go_simp; go_at_call 93; with_reducible refine (mk93_any _ _ _).mono ?_; rintro e wc22 ⟨rfl, hwc⟩; have HBc22 := Lib.hid (show Below w5.heap.size w5 wc22 from by rw [hwc]; exact balR (HBc20.out) _); clear hwc; obtain ⟨y1, ⟨y2, y3⟩, y4, y5⟩ := HSL.out wc22 HBc22.out; obtain ⟨y6, y7, -⟩ := HJN.out wc22 HBc22.out; go_wp2_with fail)
            refine hK.out _ _ ?_ (fun hHeld => ?_)
            · (try dsimp only); (exact ⟨y1, y2, y3⟩)
            clear hK K
            try simp only [List.getElem_toArray, List.getElem_cons_succ, List.getElem_cons_zero]
            try simp only [Act.put, List.setIfInBounds_toArray, List.set_cons_zero, List.set_cons_succ]
            refine wpAnyH_takeD (i := 23) (v := ?_) (some 63) rfl rfl (by kernel_rfl) (by kernel_rfl) (by kernel_rfl) (fun _ _ _ h => h) (Or.inl ⟨by rfl, ?_⟩) (by assumption) ?_
            rotate_left
            · intro w hSw; (try dsimp only at hSw); go_simp; (try with_reducible rfl)
            try simp only [Act.put, List.setIfInBounds_toArray, List.set_cons_zero, List.set_cons_succ]
            refine wpAnyH_ready (rs := [24]) (by kernel_rfl) (by simp) ?_
            refine AllReadyH.cons rfl (fun K hK => ?_) AllReadyH.nil
            go_simp
            refine hK.out _ _ ?_ (fun hHeld => ?_)
            · (try dsimp only); (exact HST.out _ _ _ _ _ hHeld)
            clear hK K
            try simp only [List.getElem_toArray, List.getElem_cons_succ, List.getElem_cons_zero]
            try simp only [Act.put, List.setIfInBounds_toArray, List.set_cons_zero, List.set_cons_succ]
            refine wpAnyH_done (by kernel_rfl) ?_ _
            refine NoPanic.normal ?_
            have HOX := Lib.hid (HJN.out _ HBc22.out).2.2.1
            have HBX := Lib.hid (HJN.out _ HBc22.out).2.2.2
            clear y1 y2 y3 y4 y5 y6 y7
            go_wp2_with fail
            go_roundw
            case rel =>
              refine ⟨q + 1, n, some ⟨gq, 0, none⟩, c9, by omega, by omega, by go_num, rfl, Lib.hid ⟨?_, ?_⟩, HBX⟩
              · rw [HTK.out, HHS.out, jnS_snoc, if_pos (show x1 ≤ (b1, b2).2 + 1 by dsimp only; omega), HHN.out, HHS.out]; simp
              · rw [HTK.out, HHS.out, jnS_snoc, if_pos (show x1 ≤ (b1, b2).2 + 1 by dsimp only; omega)]; exact HOX.out
            case measure => simp [intOf]; omega
        · have jd : decide (x1 ≤ b2 + 1) = false := by simpa using hj
          refine wp_region_noPanic ?_
          refine wp_region_held_drew (S := (fun X => X.cell? ⟨g5, 0, none⟩ = some (.func (.func 91) #[] #[]) ∧ (X.cell? ⟨gx, 0, none⟩ = some (.int .i64 x1) ∧ X.cell? ⟨gx, 1, none⟩ = some (.int .i64 x2)) ∧ X.cell? ⟨gq, (n - 1) * 2, none⟩ = some (.int .i64 b1) ∧ X.cell? ⟨gq, (n - 1) * 2 + 1, none⟩ = some (.int .i64 b2))) (by kernel_rfl) ?_ (fun hHeld => ?_)
          · (try dsimp only); (refine HSL.out _ ?_; (repeat (with_reducible first | exact Below.refl _ _ | refine Below.drew ?_ | refine balR ?_ _)); done)
          refine wpAnyH_takeD (i := 0) (v := ?_) (some 24) rfl rfl (by kernel_rfl) (by kernel_rfl) (by kernel_rfl) (fun _ _ _ h => h) (Or.inl ⟨by rfl, ?_⟩) (by assumption) ?_
          rotate_left
          · intro w hSw; (try dsimp only at hSw); go_simp; (try with_reducible rfl)
          try simp only [Act.put, List.setIfInBounds_toArray, List.set_cons_zero, List.set_cons_succ]
          refine wpAnyH_takeD (i := 1) (v := .bool true) (some 25) rfl rfl (by kernel_rfl) (by kernel_rfl) (by kernel_rfl) (fun _ _ _ h => h) (Or.inl ⟨by rfl, ?_⟩) (by assumption) ?_
          · intro w hSw; (try dsimp only at hSw); (go_simp; (try simp); (try omega)); (try with_reducible rfl)
          try simp only [Act.put, List.setIfInBounds_toArray, List.set_cons_zero, List.set_cons_succ]
          refine wpAnyH_takeD (i := 2) (v := ?_) (some 26) rfl rfl (by kernel_rfl) (by kernel_rfl) (by kernel_rfl) (fun _ _ _ h => h) (Or.inl ⟨by rfl, ?_⟩) (by assumption) ?_
          rotate_left
          · intro w hSw; (try dsimp only at hSw); go_simp; (try with_reducible rfl)
          try simp only [Act.put, List.setIfInBounds_toArray, List.set_cons_zero, List.set_cons_succ]
          refine wpAnyH_takeD (i := 3) (v := ?_) (some 27) rfl rfl (by kernel_rfl) (by kernel_rfl) (by kernel_rfl) (fun _ _ _ h => h) (Or.inl ⟨by rfl, ?_⟩) (by assumption) ?_
          rotate_left
          · intro w hSw; (try dsimp only at hSw); go_simp; (try with_reducible rfl)
          try simp only [Act.put, List.setIfInBounds_toArray, List.set_cons_zero, List.set_cons_succ]
          refine wpAnyH_takeD (i := 4) (v := ?_) (some 28) rfl rfl (by kernel_rfl) (by kernel_rfl) (by kernel_rfl) (fun _ _ _ h => h) (Or.inl ⟨by rfl, ?_⟩) (by assumption) ?_
          rotate_left
          · intro w hSw; (try dsimp only at hSw); go_simp; (try with_reducible rfl)
          try simp only [Act.put, List.setIfInBounds_toArray, List.set_cons_zero, List.set_cons_succ]
          refine wpAnyH_takeD (i := 6) (v := ?_) (some 30) rfl rfl (by kernel_rfl) (by kernel_rfl) (by kernel_rfl) (fun _ _ _ h => h) (Or.inl ⟨by rfl, ?_⟩) (by assumption) ?_
          rotate_left
          · intro w hSw; (try dsimp only at hSw); go_simp; (try with_reducible rfl)
          try simp only [Act.put, List.setIfInBounds_toArray, List.set_cons_zero, List.set_cons_succ]
          refine wpAnyH_takeD (i := 7) (v := ?_) (some 31) rfl rfl (by kernel_rfl) (by kernel_rfl) (by kernel_rfl) (fun _ _ _ h => h) (Or.inl ⟨by rfl, ?_⟩) (by assumption) ?_
          rotate_left
          · intro w hSw; (try dsimp only at hSw); go_simp; (try with_reducible rfl)
          try simp only [Act.put, List.setIfInBounds_toArray, List.set_cons_zero, List.set_cons_succ]
          refine wpAnyH_takeD (i := 8) (v := ?_) (some 32) rfl rfl (by kernel_rfl) (by kernel_rfl) (by kernel_rfl) (fun _ _ _ h => h) (Or.inl ⟨by rfl, ?_⟩) (by assumption) ?_
          rotate_left
          · intro w hSw; (try dsimp only at hSw); go_simp; (try with_reducible rfl)
          try simp only [Act.put, List.setIfInBounds_toArray, List.set_cons_zero, List.set_cons_succ]
          refine wpAnyH_takeD (i := 9) (v := ?_) (some 33) rfl rfl (by kernel_rfl) (by kernel_rfl) (by kernel_rfl) (fun _ _ _ h => h) (Or.inl ⟨by rfl, ?_⟩) (by assumption) ?_
          rotate_left
          · intro w hSw; (try dsimp only at hSw); go_simp; (try with_reducible rfl)
          try simp only [Act.put, List.setIfInBounds_toArray, List.set_cons_zero, List.set_cons_succ]
          refine wpAnyH_takeD (i := 10) (v := ?_) (some 34) rfl rfl (by kernel_rfl) (by kernel_rfl) (by kernel_rfl) (fun _ _ _ h => h) (Or.inl ⟨by rfl, ?_⟩) (by assumption) ?_
          rotate_left
          · intro w hSw; (try dsimp only at hSw); go_simp; (try with_reducible rfl)
          try simp only [Act.put, List.setIfInBounds_toArray, List.set_cons_zero, List.set_cons_succ]
          refine wpAnyH_takeD (i := 11) (v := ?_) (some 35) rfl rfl (by kernel_rfl) (by kernel_rfl) (by kernel_rfl) (fun _ _ _ h => h) (Or.inl ⟨by rfl, ?_⟩) (by assumption) ?_
          rotate_left
          · intro w hSw; (try dsimp only at hSw); go_simp; (try with_reducible rfl)
          try simp only [Act.put, List.setIfInBounds_toArray, List.set_cons_zero, List.set_cons_succ]
          refine wpAnyH_ready (rs := [5]) (by kernel_rfl) (by simp) ?_
          refine AllReadyH.cons rfl (fun K hK => ?_) AllReadyH.nil
          (go_simp; go_at_call 91; with_reducible refine (lo91_any _ _ _).mono ?_; rintro e w6 ⟨rfl, rfl⟩; go_wp2_with fail)
          refine hK.out _ _ ?_ (fun hHeld => ?_)
          · (try dsimp only); (refine HSL.out _ ?_; (repeat (with_reducible first | exact Below.refl _ _ | refine Below.drew ?_ | refine balR ?_ _)); done)
          clear hK K
          try simp only [List.getElem_toArray, List.getElem_cons_succ, List.getElem_cons_zero]
          try simp only [Act.put, List.setIfInBounds_toArray, List.set_cons_zero, List.set_cons_succ]
          refine wpAnyH_ready (rs := [12]) (by kernel_rfl) (by simp) ?_
          refine AllReadyH.cons rfl (fun K hK => ?_) AllReadyH.nil
          (go_simp; go_at_call 92; with_reducible refine (hi92_any _ _ _).mono ?_; rintro e w6 ⟨rfl, rfl⟩; go_wp2_with fail)
          refine hK.out _ _ ?_ (fun hHeld => ?_)
          · (try dsimp only); (refine HSL.out _ ?_; (repeat (with_reducible first | exact Below.refl _ _ | refine Below.drew ?_ | refine balR ?_ _)); done)
          clear hK K
          try simp only [List.getElem_toArray, List.getElem_cons_succ, List.getElem_cons_zero]
          try simp only [Act.put, List.setIfInBounds_toArray, List.set_cons_zero, List.set_cons_succ]
          refine wpAnyH_takeD (i := 13) (v := ?_) (some 37) rfl rfl (by kernel_rfl) (by kernel_rfl) (by kernel_rfl) (fun _ _ _ h => h) (Or.inl ⟨by rfl, ?_⟩) (by assumption) ?_
          rotate_left
          · intro w hSw; (try dsimp only at hSw); go_simp; (try with_reducible rfl)
          try simp only [Act.put, List.setIfInBounds_toArray, List.set_cons_zero, List.set_cons_succ]
          refine wpAnyH_takeD (i := 14) (v := .bool false) (some 38) rfl rfl (by kernel_rfl) (by kernel_rfl) (by kernel_rfl) (fun _ _ _ h => h) (Or.inl ⟨by rfl, ?_⟩) (by assumption) ?_
          · intro w hSw; (try dsimp only at hSw); (go_simp; try simp [jd]); (try with_reducible rfl)
          try simp only [Act.put, List.setIfInBounds_toArray, List.set_cons_zero, List.set_cons_succ]
          refine wpAnyH_takeD (i := 15) (v := ?_) (some 39) rfl rfl (by kernel_rfl) (by kernel_rfl) (by kernel_rfl) (fun _ _ _ h => h) (Or.inl ⟨by rfl, ?_⟩) (by assumption) ?_
          rotate_left
          · intro w hSw; (try dsimp only at hSw); go_simp; (try with_reducible rfl)
          try simp only [Act.put, List.setIfInBounds_toArray, List.set_cons_zero, List.set_cons_succ]
          refine wpAnyH_done (by kernel_rfl) ?_ _
          refine NoPanic.normal ?_
          obtain ⟨w6, hw6⟩ : ∃ W, W = ((w5.alloc (.cells #[.int .i64 x1, .int .i64 x2] 43)).alloc (.cells #[.int .i64 b1, .int .i64 b2] 43)).drew := ⟨_, rfl⟩
          have HB6 := Lib.hid (show Below w5.heap.size w5 w6 from by rw [hw6]; exact (balR (balR (Below.refl _ _) _) _).drew)
          have HO6 := Lib.hid (own_belowV HO5.out HB6.out)
          have HSL6 := Lib.hid (show ∀ X, Below w6.heap.size w6 X → Below w5.heap.size w5 X from fun X h => bstep HB6.out h)
          obtain ⟨-, ⟨x0, x1'⟩, -⟩ := HSL.out w6 HB6.out
          have HW6 := Lib.hid hw6
          have HM3 := Lib.hid (show w2.heap.size ≤ (w6.alloc (.cells #[.int .i64 x1, .int .i64 x2] 43)).heap.size from by have := HBL.out.size; have := HB5.out.size; have := HB6.out.size; simp; omega)
          clear hw6
          go_upto_region 9 with fail
          rw [← HW6.out]
          skip
          go_wp2_with (at_builtin; refine wpList_append_own _ rfl (.tmp 64) (.tmp 66) 31 rfl w2.heap.size 43 i0 (.agg #[.int .i64 0, .int .i64 0]) 2 16 Try.underlying31 HI.out hz0 hz1 hz2 rfl (by decide) (.slice (some ⟨gq, 0, none⟩) n c9) n (S.flatMap enc2) rfl (HO6.out.alloc _) ⟨w6.heap.size, 0, none⟩ 1 1 [.int .i64 x1, .int .i64 x2] rfl rfl (news_of1 w6 43 #[.int .i64 x1, .int .i64 x2]) (by intro u hu; simp at hu; rcases hu with rfl | rfl <;> rfl) hm1 hm2 HM3.out ?_; intro v9 w9 hown9 hg9 _; obtain ⟨g9, c9', hv9⟩ := ownsRow_succ hown9; subst hv9; have HO9 := Lib.hid hown9; have HG9 := Lib.hid hg9; clear hown9 hg9)
          go_roundw
          case rel =>
            have hjs : jnS S (x1, x2) = S ++ [(x1, x2)] := by rw [HHS.out, jnS_snoc, if_neg (show ¬ x1 ≤ (b1, b2).2 + 1 by dsimp only; omega)]
            have hb6 := (HBL.out.trans (HB5.out.mono HBL.out.size)).trans (HB6.out.mono (HBL.out.trans (HB5.out.mono HBL.out.size)).size)
            refine ⟨q + 1, n + 1, some ⟨g9, 0, none⟩, c9', by omega, by omega, by go_num, rfl, Lib.hid ⟨?_, ?_⟩, Lib.hid ?_⟩
            · rw [HTK.out, hjs, List.length_append, ← HR.out.1]; rfl
            · rw [HTK.out, hjs, List.flatMap_append]; exact HO9.out
            · exact (hb6.alloc hb6.size _).grown HG9.out (by have := hb6.size; simp; omega) (fun j hj => (own_at HO6.out hj).2)
          case measure => simp [intOf]; omega
    · obtain rfl : q = m := by omega
      go_wp2_with fail
      go_ret
      obtain ⟨hn, ho⟩ := HR.out
      have hq : q = l'.length := HML.out
      have e1 : l'.take q = l' := List.take_of_length_le (by omega)
      have e2 : jnF l' = joinC l := jnF_eq (fun s hs => (HB.out s hs).2.1) HP.out HS.out
      rw [e1, e2] at hn ho
      subst hn
      refine ⟨A9, c9, rfl, World.ownsRow.mono ho (Nat.le_trans HSW.out HSW2.out), ?_⟩
      exact gr_trans (HGW.out _ _ HG.out) (gr_below HBL.out _)
end Go.Proofs.Ytnbnfadmbggfnaa
