/- The walk of ReelMills; conditions: bytes in memory. Printed by a program. -/
import Derived.Test.YtnbnfadmbggfnaaQY
set_option linter.unusedSimpArgs false
set_option linter.unusedVariables false
namespace Go.Proofs.Ytnbnfadmbggfnaa
open Go.RowKit Go.Fh Go.Rl
set_option maxRecDepth 20000 in
set_option maxHeartbeats 16000000 in
theorem reelMills_walk (haw : ∀ w, Calls Try.prog 17 #[] w fun e w' => e = .returned (.bool true) ∧ Below w.heap.size w w') (NA : Option Addr) (nc : Nat) (need : List Nat) (OA : Option Addr) (oc : Nat) (order : List Nat) (keep room weeks at9 dy : Int) (w : World) (hl1 : need.length ≤ 9223372036854775807) (hl2 : order.length ≤ 9223372036854775807) (hbd1 : ∀ x ∈ need, x ≤ 255) (hbd2 : ∀ x ∈ order, x ≤ 255) (hA1 : Sl encBn 1 w w.heap.size NA need) (hA2 : Sl encBn 1 w w.heap.size OA order)
    (hk0 : 0 ≤ keep) (hk1 : keep ≤ 255) (hr0 : 0 ≤ room) (hr1 : room ≤ 255) (hw0 : 0 ≤ weeks) (hw1 : weeks ≤ 65535) (ha0 : 0 ≤ at9) (ha1 : at9 ≤ 255) (hd0 : -32768 ≤ dy) (hd1 : dy ≤ 32767) :
    Calls Try.prog 7 #[.slice NA need.length nc, .slice OA order.length oc, .int .u8 keep, .int .u8 room, .int .u16 weeks, .int .u8 at9, .int .i16 dy] w fun e w' => e = .returned (.bool true) ∧ Below w.heap.size w w' := by
  have HAW := Lib.hid haw
  have HA1 := Lib.hid hA1
  have HA2 := Lib.hid hA2
  have HB1 := Lib.hid hbd1
  have HB2 := Lib.hid hbd2
  clear haw hA1 hA2 hbd1 hbd2
  obtain ⟨n, hn⟩ : ∃ n : Nat, n = min (min need.length order.length) 12 := ⟨_, rfl⟩
  have hnb : n ≤ 12 ∧ n ≤ need.length ∧ n ≤ order.length := by omega
  have hmin : (if (12 : Int) < (if order.length < need.length then (order.length : Int) else (need.length : Int)) then (12 : Int) else (if order.length < need.length then (order.length : Int) else (need.length : Int))) = (n : Int) := by
    split <;> split at * <;> omega
  have HMIN := Lib.hid hmin
  have HN := Lib.hid hnb
  clear hn hnb hmin
  go_enter Try.func7, Try.ntmps7
  go_upto_region 2 with fail
  rw [HMIN.out]
  clear HMIN
  by_cases hn0 : n = 0
  · subst hn0
    go_wp2_with (go_at_call 17; refine (HAW.out _).mono ?_; rintro e w2 ⟨rfl, HB2⟩)
    go_ret
    exact ⟨rfl, HB2⟩
  have hn1 : ((n : Int) == 0) = false := by simp; omega
  have HN0 := Lib.hid hn0
  clear hn0
  go_upto_region 5 with fail
  obtain ⟨kp, hkp⟩ : ∃ x, x = keep % 8 := ⟨_, rfl⟩
  have hkpb : 0 ≤ kp ∧ kp ≤ 7 := by omega
  rw [← hkp]
  obtain ⟨g, hg⟩ : ∃ g, g = w.heap.size := ⟨_, rfl⟩
  obtain ⟨base, hbase⟩ : ∃ b, b = g + 1 := ⟨_, rfl⟩
  rw [← hg]
  obtain ⟨w1, hw1⟩ : ∃ W, W = w.alloc (.cells #[.slice none 0 0, .slice none 0 0, .int .i64 kp, .int .i64 room] 60) := ⟨_, rfl⟩
  rw [← hw1]
  have HMS := Lib.hid (show MilX w w1 base g (.slice none 0 0) (.slice none 0 0) (.slice none 0 0) (.slice none 0 0) 0 0 (mil1 need 0) (mil2 order 0) kp room from by
    rw [hw1, hbase, hg]
    exact ⟨balR (Below.refl _ _) _, Blk.new _ _ _, World.ownsRow_nil _ _ _ _, World.ownsRow_nil _ _ _ _, .inl rfl, Nat.lt_succ_self _, by simp, Nat.le_refl _⟩)
  have HWL := Lib.hid (show w.heap.size ≤ g by omega)
  clear hkp hg hw1 hbase
  go_wp2_with fail
  go_loopw [47] (fun u wr => ∃ (k : Nat) (A1 : Option Addr) (c1 : Nat) (A2 : Option Addr) (c2 : Nat), k ≤ n ∧ u = .int .i64 k ∧ Hid (MilX w wr base g (.slice A1 k c1) (.slice A2 k c2) (.slice A1 k c1) (.slice A2 k c2) k k (mil1 need k) (mil2 order k) kp room)) (fun u _ => n - (intOf u).toNat)
  case atStart => exact ⟨0, none, 0, none, 0, Nat.zero_le _, rfl, HMS⟩
  case round =>
    obtain ⟨k, A1, c1, A2, c2, hkn, rfl, HM⟩ := hrel
    clear HMS
    by_cases hlt : k < n
    · have hk1 : k < need.length := by have := HN.out; omega
      have hk2 : k < order.length := by have := HN.out; omega
      obtain ⟨ba, oa, hNA, hba, d0⟩ := Sl.atBn HA1.out hk1
      obtain ⟨bb, ob, hOA, hbb, d1⟩ := Sl.atBn HA2.out hk2
      obtain ⟨va, hva⟩ : ∃ v, v = need[k] := ⟨_, rfl⟩
      obtain ⟨vb, hvb⟩ : ∃ v, v = order[k] := ⟨_, rfl⟩
      rw [← hva] at d0
      rw [← hvb] at d1
      have hva2 : va ≤ 255 := by rw [hva]; exact HB1.out _ (List.getElem_mem hk1)
      have hvb2 : vb ≤ 255 := by rw [hvb]; exact HB2.out _ (List.getElem_mem hk2)
      have HS1 := Lib.hid (show mil1 need (k + 1) = mil1 need k ++ [.int .i64 ((va % 60 : Nat) : Int)] from by rw [hva]; exact mil1_s hk1)
      have HS2 := Lib.hid (show mil2 order (k + 1) = mil2 order k ++ [.int .i64 (vb : Int)] from by rw [hvb]; exact mil2_s hk2)
      have HSL := Lib.hid (show ∀ X, Below w.heap.size w X → X.cell? ⟨ba, oa + k, none⟩ = some (.int .u8 (va : Int)) ∧ X.cell? ⟨bb, ob + k, none⟩ = some (.int .u8 (vb : Int)) from fun X hb => ⟨(hb.cell hba).trans d0, (hb.cell hbb).trans d1⟩)
      subst hNA hOA
      have i0 : (0 : Int) ≤ (k : Int) := by omega
      have i1 : (k : Int) < (need.length : Int) := by omega
      have i2 : (k : Int) < (order.length : Int) := by omega
      have i3' : (k : Int) < (n : Int) := by omega
      have hm1 : k + 1 ≤ maxLen := by have := HN.out; simp only [maxLen]; omega
      have hm2 : (k + 1) * 8 ≤ 140737488355328 := by have := HN.out; omega
      obtain ⟨i3, hi3, z0, z1, z2⟩ := info_parts infoInt
      have HI3 := Lib.hid hi3
      have HWA := Lib.hid (show (IntKind.i64.wrap (va : Int)).tmod 60 = ((va % 60 : Nat) : Int) from by rw [show IntKind.i64.wrap (va : Int) = (va : Int) from by rw [IntKind.wrap_i64]; omega, Int.tmod_eq_emod_of_nonneg (by omega)]; omega)
      have HWB := Lib.hid (show IntKind.i64.wrap (vb : Int) = (vb : Int) from by rw [IntKind.wrap_i64]; omega)
      clear hi3 hva hvb d0 d1
      go_upto_block 1 with fail
      go_cut [17] (fun u wx => u = .int .i64 k ∧ ∃ (A1' : Option Addr) (c1' : Nat) (A2' : Option Addr) (c2' : Nat), Hid (MilX w wx base g (.slice A1' (k + 1) c1') (.slice A2' (k + 1) c2') (.slice A1' (k + 1) c1') (.slice A2' (k + 1) c2') (k + 1) (k + 1) (mil1 need (k + 1)) (mil2 order (k + 1)) kp room))
      case first =>
        skip
        go_upto_region 8 with fail
        refine wp_region_noPanic ?_
        refine wp_region_T (S := (fun X => X.cell? ⟨g, 0, none⟩ = some (.slice A1 k c1) ∧ X.cell? ⟨g, 1, none⟩ = some (.slice A2 k c2))) (T := (fun X => X.cell? ⟨ba, oa + k, none⟩ = some (.int .u8 (va : Int)) ∧ X.cell? ⟨bb, ob + k, none⟩ = some (.int .u8 (vb : Int)))) 20 (by kernel_rfl) ?_ (fun hHeld hHeldT => ?_)
        · (try dsimp only); (exact ⟨⟨HM.out.drew.cells.1, HM.out.drew.cells.2.1⟩, HSL.out _ HM.out.drew.bel⟩)
        obtain ⟨x0, hx0⟩ : ∃ W, W = wr.drew := ⟨_, rfl⟩
        have HM0 := Lib.hid (show MilX w x0 base g (.slice A1 k c1) (.slice A2 k c2) (.slice A1 k c1) (.slice A2 k c2) k k (mil1 need k) (mil2 order k) kp room from by rw [hx0]; exact HM.out.drew)
        rw [← hx0] at hHeld hHeldT ⊢
        clear hx0
        obtain ⟨r0, r1, -, -⟩ := HM0.out.cells
        refine wpAnyT_takeW (i := 0) (v := ?_) (some 50) rfl rfl (by kernel_rfl) (by kernel_rfl) (by kernel_rfl) (by kernel_rfl) (fun _ _ _ h => h) (Or.inl ⟨by rfl, ?_⟩) (by assumption) (by assumption) ?_
        rotate_left
        · intro w hSw; (try dsimp only at hSw); go_simp; (try with_reducible rfl)
        try simp only [Act.put, List.setIfInBounds_toArray, List.set_cons_zero, List.set_cons_succ]
        refine wpAnyT_takeD (i := 1) (v := ?_) (some 51) rfl rfl (by kernel_rfl) (by kernel_rfl) (by kernel_rfl) (by kernel_rfl) (fun _ _ _ h => h) (Or.inl ⟨by rfl, ?_⟩) (by assumption) (by assumption) ?_
        rotate_left
        · intro w hSw; (try dsimp only at hSw); go_simp; (try with_reducible rfl)
        try simp only [Act.put, List.setIfInBounds_toArray, List.set_cons_zero, List.set_cons_succ]
        refine wpAnyT_takeW (i := 2) (v := ?_) (some 52) rfl rfl (by kernel_rfl) (by kernel_rfl) (by kernel_rfl) (by kernel_rfl) (fun _ _ _ h => h) (Or.inl ⟨by rfl, ?_⟩) (by assumption) (by assumption) ?_
        rotate_left
        · intro w hSw; (try dsimp only at hSw); go_simp; (try with_reducible rfl)
        try simp only [Act.put, List.setIfInBounds_toArray, List.set_cons_zero, List.set_cons_succ]
        refine wpAnyT_takeW (i := 3) (v := ?_) (some 53) rfl rfl (by kernel_rfl) (by kernel_rfl) (by kernel_rfl) (by kernel_rfl) (fun _ _ _ h => h) (Or.inl ⟨by rfl, ?_⟩) (by assumption) (by assumption) ?_
        rotate_left
        · intro w hSw; (try dsimp only at hSw); go_simp; (try with_reducible rfl)
        try simp only [Act.put, List.setIfInBounds_toArray, List.set_cons_zero, List.set_cons_succ]
        refine wpAnyT_takeW (i := 4) (v := ?_) (some 54) rfl rfl (by kernel_rfl) (by kernel_rfl) (by kernel_rfl) (by kernel_rfl) (fun _ _ _ h => h) (Or.inl ⟨by rfl, ?_⟩) (by assumption) (by assumption) ?_
        rotate_left
        · intro w hSw; (try dsimp only at hSw); go_simp; (try with_reducible rfl)
        try simp only [Act.put, List.setIfInBounds_toArray, List.set_cons_zero, List.set_cons_succ]
        refine wpAnyT_takeW (i := 5) (v := ?_) (some 55) rfl rfl (by kernel_rfl) (by kernel_rfl) (by kernel_rfl) (by kernel_rfl) (fun _ _ _ h => h) (Or.inl ⟨by rfl, ?_⟩) (by assumption) (by assumption) ?_
        rotate_left
        · intro w hSw; (try dsimp only at hSw); go_simp; (try with_reducible rfl)
        try simp only [Act.put, List.setIfInBounds_toArray, List.set_cons_zero, List.set_cons_succ]
        refine wpAnyT_takeW (i := 6) (v := ?_) (some 56) rfl rfl (by kernel_rfl) (by kernel_rfl) (by kernel_rfl) (by kernel_rfl) (fun _ _ _ h => h) (Or.inl ⟨by rfl, ?_⟩) (by assumption) (by assumption) ?_
        rotate_left
        · intro w hSw; (try dsimp only at hSw); go_simp; (try with_reducible rfl)
        try simp only [Act.put, List.setIfInBounds_toArray, List.set_cons_zero, List.set_cons_succ]
        refine wpAnyT_takeW (i := 7) (v := ?_) (some 57) rfl rfl (by kernel_rfl) (by kernel_rfl) (by kernel_rfl) (by kernel_rfl) (fun _ _ _ h => h) (Or.inl ⟨by rfl, ?_⟩) (by assumption) (by assumption) ?_
        rotate_left
        · intro w hSw; (try dsimp only at hSw); go_simp; (try with_reducible rfl)
        try simp only [Act.put, List.setIfInBounds_toArray, List.set_cons_zero, List.set_cons_succ]
        refine wpAnyT_takeW (i := 10) (v := ?_) (some 60) rfl rfl (by kernel_rfl) (by kernel_rfl) (by kernel_rfl) (by kernel_rfl) (fun _ _ _ h => h) (Or.inl ⟨by rfl, ?_⟩) (by assumption) (by assumption) ?_
        rotate_left
        · intro w hSw; (try dsimp only at hSw); go_simp; (try with_reducible rfl)
        try simp only [Act.put, List.setIfInBounds_toArray, List.set_cons_zero, List.set_cons_succ]
        refine wpAnyT_takeD (i := 11) (v := ?_) (some 61) rfl rfl (by kernel_rfl) (by kernel_rfl) (by kernel_rfl) (by kernel_rfl) (fun _ _ _ h => h) (Or.inl ⟨by rfl, ?_⟩) (by assumption) (by assumption) ?_
        rotate_left
        · intro w hSw; (try dsimp only at hSw); go_simp; (try with_reducible rfl)
        try simp only [Act.put, List.setIfInBounds_toArray, List.set_cons_zero, List.set_cons_succ]
        refine wpAnyT_takeW (i := 12) (v := ?_) (some 62) rfl rfl (by kernel_rfl) (by kernel_rfl) (by kernel_rfl) (by kernel_rfl) (fun _ _ _ h => h) (Or.inl ⟨by rfl, ?_⟩) (by assumption) (by assumption) ?_
        rotate_left
        · intro w hSw; (try dsimp only at hSw); go_simp; (try with_reducible rfl)
        try simp only [Act.put, List.setIfInBounds_toArray, List.set_cons_zero, List.set_cons_succ]
        refine wpAnyT_takeW (i := 13) (v := ?_) (some 63) rfl rfl (by kernel_rfl) (by kernel_rfl) (by kernel_rfl) (by kernel_rfl) (fun _ _ _ h => h) (Or.inl ⟨by rfl, ?_⟩) (by assumption) (by assumption) ?_
        rotate_left
        · intro w hSw; (try dsimp only at hSw); go_simp; (try with_reducible rfl)
        try simp only [Act.put, List.setIfInBounds_toArray, List.set_cons_zero, List.set_cons_succ]
        refine wpAnyT_takeW (i := 14) (v := ?_) (some 64) rfl rfl (by kernel_rfl) (by kernel_rfl) (by kernel_rfl) (by kernel_rfl) (fun _ _ _ h => h) (Or.inl ⟨by rfl, ?_⟩) (by assumption) (by assumption) ?_
        rotate_left
        · intro w hSw; (try dsimp only at hSw); go_simp; (try with_reducible rfl)
        try simp only [Act.put, List.setIfInBounds_toArray, List.set_cons_zero, List.set_cons_succ]
        refine wpAnyT_takeW (i := 15) (v := ?_) (some 65) rfl rfl (by kernel_rfl) (by kernel_rfl) (by kernel_rfl) (by kernel_rfl) (fun _ _ _ h => h) (Or.inl ⟨by rfl, ?_⟩) (by assumption) (by assumption) ?_
        rotate_left
        · intro w hSw; (try dsimp only at hSw); go_simp; (try with_reducible rfl)
        try simp only [Act.put, List.setIfInBounds_toArray, List.set_cons_zero, List.set_cons_succ]
        refine wpAnyT_takeW (i := 16) (v := ?_) (some 66) rfl rfl (by kernel_rfl) (by kernel_rfl) (by kernel_rfl) (by kernel_rfl) (fun _ _ _ h => h) (Or.inl ⟨by rfl, ?_⟩) (by assumption) (by assumption) ?_
        rotate_left
        · intro w hSw; (try dsimp only at hSw); go_simp; (try with_reducible rfl)
        try simp only [Act.put, List.setIfInBounds_toArray, List.set_cons_zero, List.set_cons_succ]
        refine wpAnyT_ready (rs := [8, 17]) (by kernel_rfl) (by simp) ?_
        refine AllReadyT.cons rfl (fun K hK => ?_) (AllReadyT.cons rfl (fun K hK => ?_) AllReadyT.nil)
        · (go_simp; rw [HWA.out]; obtain ⟨x1, hx1⟩ : ∃ W, W = x0.alloc (.cells #[(.int .i64 ((va % 60 : Nat) : Int))] 3) := ⟨_, rfl⟩; obtain ⟨gn1, hgn1⟩ : ∃ n, n = x0.heap.size := ⟨_, rfl⟩; rw [← hx1, ← hgn1]; have HM1 := Lib.hid (show MilX w x1 base g (.slice A1 k c1) (.slice A2 k c2) (.slice A1 k c1) (.slice A2 k c2) k k (mil1 need k) (mil2 order k) kp room from by rw [hx1]; exact HM0.out.alloc _); have HNa := Lib.hid (show NewX x1 gn1 (.int .i64 ((va % 60 : Nat) : Int)) (.slice A1 k c1) (.slice A2 k c2) from by rw [hx1, hgn1]; exact NewX.make HM0.out _); clear hx1 hgn1 r0 r1; obtain ⟨r0, r1, -, -⟩ := HM1.out.cells)
          refine hK.out _ _ ?_ (fun hHeld hHeldT => ?_)
          · (try dsimp only); (exact ⟨⟨HM1.out.cells.1, HM1.out.cells.2.1⟩, HSL.out _ HM1.out.bel⟩)
          clear hK K
          try simp only [List.getElem_toArray, List.getElem_cons_succ, List.getElem_cons_zero]
          try simp only [Act.put, List.setIfInBounds_toArray, List.set_cons_zero, List.set_cons_succ]
          refine wpAnyT_ready (rs := [9, 17]) (by kernel_rfl) (by simp) ?_
          refine AllReadyT.cons rfl (fun K hK => ?_) (AllReadyT.cons rfl (fun K hK => ?_) AllReadyT.nil)
          · (refine step_append_lies _ rfl (.tmp 51) (.tmp 58) 47 rfl base 3 i3 _ 1 8 Try.underlying47 HI3.out z0 z1 z2 rfl (by decide) (.slice A1 k c1) k (mil1 need k) (by simp [Act.eval, Act.put]) HM1.out.o1 ⟨gn1, 0, none⟩ 1 1 [(.int .i64 ((va % 60 : Nat) : Int))] (by simp [Act.eval, Act.put]) rfl (World.news_of_block (cs := #[(.int .i64 ((va % 60 : Nat) : Int))]) (t := 3) (fr := (0, 0)) HNa.out.blk) (by intro u hu; simp at hu; subst hu; rfl) (by decide) hm1 hm2 HM1.out.hb _ rfl ?_; intro g1 cap1 x2 hown hgrow hat hlt; have HM2 := Lib.hid (HM1.out.app1 hgrow hown hat); clear hown hgrow hat hlt r0 r1; obtain ⟨r0, r1, -, -⟩ := HM2.out.cells; have f0 := HM2.out.kT.frozen 0)
            refine hK.out _ _ ?_ (fun hHeld hHeldT => ?_)
            · (try dsimp only); (exact ⟨⟨HM2.out.cells.1, HM2.out.cells.2.1⟩, HSL.out _ HM2.out.bel⟩)
            clear hK K
            try simp only [List.getElem_toArray, List.getElem_cons_succ, List.getElem_cons_zero]
            try simp only [Act.put, List.setIfInBounds_toArray, List.set_cons_zero, List.set_cons_succ]
            refine wpAnyT_takeW (i := 19) (v := ?_) (some 69) rfl rfl (by kernel_rfl) (by kernel_rfl) (by kernel_rfl) (by kernel_rfl) (fun _ _ _ h => h) (Or.inl ⟨by rfl, ?_⟩) (by assumption) (by assumption) ?_
            rotate_left
            · intro w hSw; (try dsimp only at hSw); go_simp; (try with_reducible rfl)
            try simp only [Act.put, List.setIfInBounds_toArray, List.set_cons_zero, List.set_cons_succ]
            refine wpAnyT_ready (rs := [17]) (by kernel_rfl) (by simp) ?_
            refine AllReadyT.cons rfl (fun K hK => ?_) AllReadyT.nil
            (go_simp; rw [HWB.out]; obtain ⟨x3, hx3⟩ : ∃ W, W = x2.alloc (.cells #[(.int .i64 (vb : Int))] 3) := ⟨_, rfl⟩; obtain ⟨gn2, hgn2⟩ : ∃ n, n = x2.heap.size := ⟨_, rfl⟩; rw [← hx3, ← hgn2]; have HM3 := Lib.hid (show MilX w x3 base g (.slice A1 k c1) (.slice A2 k c2) (.slice (some ⟨g1, 0, none⟩) (k + 1) cap1) (.slice A2 k c2) (k + 1) k (mil1 need k ++ [.int .i64 ((va % 60 : Nat) : Int)]) (mil2 order k) kp room from by rw [hx3]; exact HM2.out.alloc _); have HNb := Lib.hid (show NewX x3 gn2 (.int .i64 (vb : Int)) (.slice (some ⟨g1, 0, none⟩) (k + 1) cap1) (.slice A2 k c2) from by rw [hx3, hgn2]; exact NewX.make HM2.out _); clear hx3 hgn2 r0 r1; obtain ⟨r0, r1, -, -⟩ := HM3.out.cells)
            refine hK.out _ _ ?_ (fun hHeld hHeldT => ?_)
            · (try dsimp only); (exact ⟨⟨HM3.out.cells.1, HM3.out.cells.2.1⟩, HSL.out _ HM3.out.bel⟩)
            clear hK K
            try simp only [List.getElem_toArray, List.getElem_cons_succ, List.getElem_cons_zero]
            try simp only [Act.put, List.setIfInBounds_toArray, List.set_cons_zero, List.set_cons_succ]
            refine wpAnyT_ready (rs := [18]) (by kernel_rfl) (by simp) ?_
            refine AllReadyT.cons rfl (fun K hK => ?_) AllReadyT.nil
            (refine step_append_lies _ rfl (.tmp 61) (.tmp 67) 47 rfl base 3 i3 _ 1 8 Try.underlying47 HI3.out z0 z1 z2 rfl (by decide) (.slice A2 k c2) k (mil2 order k) (by simp [Act.eval, Act.put]) HM3.out.o2 ⟨gn2, 0, none⟩ 1 1 [(.int .i64 (vb : Int))] (by simp [Act.eval, Act.put]) rfl (World.news_of_block (cs := #[(.int .i64 (vb : Int))]) (t := 3) (fr := (0, 0)) HNb.out.blk) (by intro u hu; simp at hu; subst hu; rfl) (by decide) hm1 hm2 HM3.out.hb _ rfl ?_; intro g2 cap2 x4 hown hgrow hat hlt; have HM4 := Lib.hid (HM3.out.app2 hgrow hown hat); clear hown hgrow hat hlt r0 r1; obtain ⟨r0, r1, -, -⟩ := HM4.out.cells; have f0 := HM4.out.kT.frozen 0)
            refine hK.out _ _ ?_ (fun hHeld hHeldT => ?_)
            · (try dsimp only); (exact ⟨⟨HM4.out.cells.1, HM4.out.cells.2.1⟩, HSL.out _ HM4.out.bel⟩)
            clear hK K
            try simp only [List.getElem_toArray, List.getElem_cons_succ, List.getElem_cons_zero]
            try simp only [Act.put, List.setIfInBounds_toArray, List.set_cons_zero, List.set_cons_succ]
            refine wpAnyT_ready (rs := [20]) (by kernel_rfl) (by simp) ?_
            refine AllReadyT.past rfl (by kernel_rfl) (fun K hK => ?_)
            (go_simp; obtain ⟨s1, f1⟩ := HM4.out.mid (.slice (some ⟨g1, 0, none⟩) (k + 1) cap1))
            refine hK.out _ _ ?_ ?_
            · (try dsimp only); (exact HSL.out _ (HM4.out.bel.setCell (by exact HM4.out.wl) _))
            clear hK K
            try simp only [List.getElem_toArray, List.getElem_cons_succ, List.getElem_cons_zero]
            try simp only [Act.put, List.setIfInBounds_toArray, List.set_cons_zero, List.set_cons_succ]
            refine wpAnyT_ready (rs := [21]) (by kernel_rfl) (by simp) ?_
            refine AllReadyT.past rfl (by kernel_rfl) (fun K hK => ?_)
            go_simp
            refine hK.out _ _ ?_ ?_
            · (try dsimp only); (exact HSL.out _ (HM4.out.bel.setCell (by exact HM4.out.wl) _))
            clear hK K
            try simp only [List.getElem_toArray, List.getElem_cons_succ, List.getElem_cons_zero]
            try simp only [Act.put, List.setIfInBounds_toArray, List.set_cons_zero, List.set_cons_succ]
            refine wpAnyT_ready (rs := [22]) (by kernel_rfl) (by simp) ?_
            refine AllReadyT.past rfl (by kernel_rfl) (fun K hK => ?_)
            go_simp
            refine hK.out _ _ ?_ ?_
            · (try dsimp only); (exact HSL.out _ ((HM4.out.bel.setCell (by exact HM4.out.wl) _).setCell (by exact HM4.out.wl) _))
            clear hK K
            try simp only [List.getElem_toArray, List.getElem_cons_succ, List.getElem_cons_zero]
            try simp only [Act.put, List.setIfInBounds_toArray, List.set_cons_zero, List.set_cons_succ]
            refine wpAnyT_done (by kernel_rfl) ?_ _
            refine NoPanic.normal ?_
            go_wp2_with fail
            go_meet
            exact ⟨rfl, _, _, _, _, Lib.hid (by rw [HS1.out, HS2.out]; exact HM4.out.put)⟩
          · (go_simp; rw [HWB.out]; obtain ⟨x2, hx2⟩ : ∃ W, W = x1.alloc (.cells #[(.int .i64 (vb : Int))] 3) := ⟨_, rfl⟩; obtain ⟨gn2, hgn2⟩ : ∃ n, n = x1.heap.size := ⟨_, rfl⟩; rw [← hx2, ← hgn2]; have HM2 := Lib.hid (show MilX w x2 base g (.slice A1 k c1) (.slice A2 k c2) (.slice A1 k c1) (.slice A2 k c2) k k (mil1 need k) (mil2 order k) kp room from by rw [hx2]; exact HM1.out.alloc _); have HNb := Lib.hid (show NewX x2 gn2 (.int .i64 (vb : Int)) (.slice A1 k c1) (.slice A2 k c2) from by rw [hx2, hgn2]; exact NewX.make HM1.out _); have HNa := Lib.hid (show NewX x2 gn1 (.int .i64 ((va % 60 : Nat) : Int)) (.slice A1 k c1) (.slice A2 k c2) from by rw [hx2]; exact HNa.out.alloc _); clear hx2 hgn2 r0 r1; obtain ⟨r0, r1, -, -⟩ := HM2.out.cells)
            refine hK.out _ _ ?_ (fun hHeld hHeldT => ?_)
            · (try dsimp only); (exact ⟨⟨HM2.out.cells.1, HM2.out.cells.2.1⟩, HSL.out _ HM2.out.bel⟩)
            clear hK K
            try simp only [List.getElem_toArray, List.getElem_cons_succ, List.getElem_cons_zero]
            try simp only [Act.put, List.setIfInBounds_toArray, List.set_cons_zero, List.set_cons_succ]
            refine wpAnyT_ready (rs := [9]) (by kernel_rfl) (by simp) ?_
            refine AllReadyT.cons rfl (fun K hK => ?_) AllReadyT.nil
            (refine step_append_lies _ rfl (.tmp 51) (.tmp 58) 47 rfl base 3 i3 _ 1 8 Try.underlying47 HI3.out z0 z1 z2 rfl (by decide) (.slice A1 k c1) k (mil1 need k) (by simp [Act.eval, Act.put]) HM2.out.o1 ⟨gn1, 0, none⟩ 1 1 [(.int .i64 ((va % 60 : Nat) : Int))] (by simp [Act.eval, Act.put]) rfl (World.news_of_block (cs := #[(.int .i64 ((va % 60 : Nat) : Int))]) (t := 3) (fr := (0, 0)) HNa.out.blk) (by intro u hu; simp at hu; subst hu; rfl) (by decide) hm1 hm2 HM2.out.hb _ rfl ?_; intro g1 cap1 x3 hown hgrow hat hlt; have HM3 := Lib.hid (HM2.out.app1 hgrow hown hat); have HNb := Lib.hid (HNb.out.app1 (m := k + 1) (c9 := cap1) hgrow hat); clear hown hgrow hat hlt r0 r1; obtain ⟨r0, r1, -, -⟩ := HM3.out.cells; have f0 := HM3.out.kT.frozen 0)
            refine hK.out _ _ ?_ (fun hHeld hHeldT => ?_)
            · (try dsimp only); (exact ⟨⟨HM3.out.cells.1, HM3.out.cells.2.1⟩, HSL.out _ HM3.out.bel⟩)
            clear hK K
            try simp only [List.getElem_toArray, List.getElem_cons_succ, List.getElem_cons_zero]
            try simp only [Act.put, List.setIfInBounds_toArray, List.set_cons_zero, List.set_cons_succ]
            refine wpAnyT_takeW (i := 19) (v := ?_) (some 69) rfl rfl (by kernel_rfl) (by kernel_rfl) (by kernel_rfl) (by kernel_rfl) (fun _ _ _ h => h) (Or.inl ⟨by rfl, ?_⟩) (by assumption) (by assumption) ?_
            rotate_left
            · intro w hSw; (try dsimp only at hSw); go_simp; (try with_reducible rfl)
            try simp only [Act.put, List.setIfInBounds_toArray, List.set_cons_zero, List.set_cons_succ]
            refine wpAnyT_ready (rs := [18]) (by kernel_rfl) (by simp) ?_
            refine AllReadyT.cons rfl (fun K hK => ?_) AllReadyT.nil
            (refine step_append_lies _ rfl (.tmp 61) (.tmp 67) 47 rfl base 3 i3 _ 1 8 Try.underlying47 HI3.out z0 z1 z2 rfl (by decide) (.slice A2 k c2) k (mil2 order k) (by simp [Act.eval, Act.put]) HM3.out.o2 ⟨gn2, 0, none⟩ 1 1 [(.int .i64 (vb : Int))] (by simp [Act.eval, Act.put]) rfl (World.news_of_block (cs := #[(.int .i64 (vb : Int))]) (t := 3) (fr := (0, 0)) HNb.out.blk) (by intro u hu; simp at hu; subst hu; rfl) (by decide) hm1 hm2 HM3.out.hb _ rfl ?_; intro g2 cap2 x4 hown hgrow hat hlt; have HM4 := Lib.hid (HM3.out.app2 hgrow hown hat); clear hown hgrow hat hlt r0 r1; obtain ⟨r0, r1, -, -⟩ := HM4.out.cells; have f0 := HM4.out.kT.frozen 0)
            refine hK.out _ _ ?_ (fun hHeld hHeldT => ?_)
            · (try dsimp only); (exact ⟨⟨HM4.out.cells.1, HM4.out.cells.2.1⟩, HSL.out _ HM4.out.bel⟩)
            clear hK K
            try simp only [List.getElem_toArray, List.getElem_cons_succ, List.getElem_cons_zero]
            try simp only [Act.put, List.setIfInBounds_toArray, List.set_cons_zero, List.set_cons_succ]
            refine wpAnyT_ready (rs := [20]) (by kernel_rfl) (by simp) ?_
            refine AllReadyT.past rfl (by kernel_rfl) (fun K hK => ?_)
            (go_simp; obtain ⟨s1, f1⟩ := HM4.out.mid (.slice (some ⟨g1, 0, none⟩) (k + 1) cap1))
            refine hK.out _ _ ?_ ?_
            · (try dsimp only); (exact HSL.out _ (HM4.out.bel.setCell (by exact HM4.out.wl) _))
            clear hK K
            try simp only [List.getElem_toArray, List.getElem_cons_succ, List.getElem_cons_zero]
            try simp only [Act.put, List.setIfInBounds_toArray, List.set_cons_zero, List.set_cons_succ]
            refine wpAnyT_ready (rs := [21]) (by kernel_rfl) (by simp) ?_
            refine AllReadyT.past rfl (by kernel_rfl) (fun K hK => ?_)
            go_simp
            refine hK.out _ _ ?_ ?_
            · (try dsimp only); (exact HSL.out _ (HM4.out.bel.setCell (by exact HM4.out.wl) _))
            clear hK K
            try simp only [List.getElem_toArray, List.getElem_cons_succ, List.getElem_cons_zero]
            try simp only [Act.put, List.setIfInBounds_toArray, List.set_cons_zero, List.set_cons_succ]
            refine wpAnyT_ready (rs := [22]) (by kernel_rfl) (by simp) ?_
            refine AllReadyT.past rfl (by kernel_rfl) (fun K hK => ?_)
            go_simp
            refine hK.out _ _ ?_ ?_
            · (try dsimp only); (exact HSL.out _ ((HM4.out.bel.setCell (by exact HM4.out.wl) _).setCell (by exact HM4.out.wl) _))
            clear hK K
            try simp only [List.getElem_toArray, List.getElem_cons_succ, List.getElem_cons_zero]
            try simp only [Act.put, List.setIfInBounds_toArray, List.set_cons_zero, List.set_cons_succ]
            refine wpAnyT_done (by kernel_rfl) ?_ _
            refine NoPanic.normal ?_
            go_wp2_with fail
            go_meet
            exact ⟨rfl, _, _, _, _, Lib.hid (by rw [HS1.out, HS2.out]; exact HM4.out.put)⟩
        · (go_simp; rw [HWB.out]; obtain ⟨x1, hx1⟩ : ∃ W, W = x0.alloc (.cells #[(.int .i64 (vb : Int))] 3) := ⟨_, rfl⟩; obtain ⟨gn2, hgn2⟩ : ∃ n, n = x0.heap.size := ⟨_, rfl⟩; rw [← hx1, ← hgn2]; have HM1 := Lib.hid (show MilX w x1 base g (.slice A1 k c1) (.slice A2 k c2) (.slice A1 k c1) (.slice A2 k c2) k k (mil1 need k) (mil2 order k) kp room from by rw [hx1]; exact HM0.out.alloc _); have HNb := Lib.hid (show NewX x1 gn2 (.int .i64 (vb : Int)) (.slice A1 k c1) (.slice A2 k c2) from by rw [hx1, hgn2]; exact NewX.make HM0.out _); clear hx1 hgn2 r0 r1; obtain ⟨r0, r1, -, -⟩ := HM1.out.cells)
          refine hK.out _ _ ?_ (fun hHeld hHeldT => ?_)
          · (try dsimp only); (exact ⟨⟨HM1.out.cells.1, HM1.out.cells.2.1⟩, HSL.out _ HM1.out.bel⟩)
          clear hK K
          try simp only [List.getElem_toArray, List.getElem_cons_succ, List.getElem_cons_zero]
          try simp only [Act.put, List.setIfInBounds_toArray, List.set_cons_zero, List.set_cons_succ]
          refine wpAnyT_ready (rs := [8]) (by kernel_rfl) (by simp) ?_
          refine AllReadyT.cons rfl (fun K hK => ?_) AllReadyT.nil
          (go_simp; rw [HWA.out]; obtain ⟨x2, hx2⟩ : ∃ W, W = x1.alloc (.cells #[(.int .i64 ((va % 60 : Nat) : Int))] 3) := ⟨_, rfl⟩; obtain ⟨gn1, hgn1⟩ : ∃ n, n = x1.heap.size := ⟨_, rfl⟩; rw [← hx2, ← hgn1]; have HM2 := Lib.hid (show MilX w x2 base g (.slice A1 k c1) (.slice A2 k c2) (.slice A1 k c1) (.slice A2 k c2) k k (mil1 need k) (mil2 order k) kp room from by rw [hx2]; exact HM1.out.alloc _); have HNa := Lib.hid (show NewX x2 gn1 (.int .i64 ((va % 60 : Nat) : Int)) (.slice A1 k c1) (.slice A2 k c2) from by rw [hx2, hgn1]; exact NewX.make HM1.out _); have HNb := Lib.hid (show NewX x2 gn2 (.int .i64 (vb : Int)) (.slice A1 k c1) (.slice A2 k c2) from by rw [hx2]; exact HNb.out.alloc _); clear hx2 hgn1 r0 r1; obtain ⟨r0, r1, -, -⟩ := HM2.out.cells)
          refine hK.out _ _ ?_ (fun hHeld hHeldT => ?_)
          · (try dsimp only); (exact ⟨⟨HM2.out.cells.1, HM2.out.cells.2.1⟩, HSL.out _ HM2.out.bel⟩)
          clear hK K
          try simp only [List.getElem_toArray, List.getElem_cons_succ, List.getElem_cons_zero]
          try simp only [Act.put, List.setIfInBounds_toArray, List.set_cons_zero, List.set_cons_succ]
          refine wpAnyT_ready (rs := [9]) (by kernel_rfl) (by simp) ?_
          refine AllReadyT.cons rfl (fun K hK => ?_) AllReadyT.nil
          (refine step_append_lies _ rfl (.tmp 51) (.tmp 58) 47 rfl base 3 i3 _ 1 8 Try.underlying47 HI3.out z0 z1 z2 rfl (by decide) (.slice A1 k c1) k (mil1 need k) (by simp [Act.eval, Act.put]) HM2.out.o1 ⟨gn1, 0, none⟩ 1 1 [(.int .i64 ((va % 60 : Nat) : Int))] (by simp [Act.eval, Act.put]) rfl (World.news_of_block (cs := #[(.int .i64 ((va % 60 : Nat) : Int))]) (t := 3) (fr := (0, 0)) HNa.out.blk) (by intro u hu; simp at hu; subst hu; rfl) (by decide) hm1 hm2 HM2.out.hb _ rfl ?_; intro g1 cap1 x3 hown hgrow hat hlt; have HM3 := Lib.hid (HM2.out.app1 hgrow hown hat); have HNb := Lib.hid (HNb.out.app1 (m := k + 1) (c9 := cap1) hgrow hat); clear hown hgrow hat hlt r0 r1; obtain ⟨r0, r1, -, -⟩ := HM3.out.cells; have f0 := HM3.out.kT.frozen 0)
          refine hK.out _ _ ?_ (fun hHeld hHeldT => ?_)
          · (try dsimp only); (exact ⟨⟨HM3.out.cells.1, HM3.out.cells.2.1⟩, HSL.out _ HM3.out.bel⟩)
          clear hK K
          try simp only [List.getElem_toArray, List.getElem_cons_succ, List.getElem_cons_zero]
          try simp only [Act.put, List.setIfInBounds_toArray, List.set_cons_zero, List.set_cons_succ]
          refine wpAnyT_takeW (i := 19) (v := ?_) (some 69) rfl rfl (by kernel_rfl) (by kernel_rfl) (by kernel_rfl) (by kernel_rfl) (fun _ _ _ h => h) (Or.inl ⟨by rfl, ?_⟩) (by assumption) (by assumption) ?_
          rotate_left
          · intro w hSw; (try dsimp only at hSw); go_simp; (try with_reducible rfl)
          try simp only [Act.put, List.setIfInBounds_toArray, List.set_cons_zero, List.set_cons_succ]
          refine wpAnyT_ready (rs := [18]) (by kernel_rfl) (by simp) ?_
          refine AllReadyT.cons rfl (fun K hK => ?_) AllReadyT.nil
          (refine step_append_lies _ rfl (.tmp 61) (.tmp 67) 47 rfl base 3 i3 _ 1 8 Try.underlying47 HI3.out z0 z1 z2 rfl (by decide) (.slice A2 k c2) k (mil2 order k) (by simp [Act.eval, Act.put]) HM3.out.o2 ⟨gn2, 0, none⟩ 1 1 [(.int .i64 (vb : Int))] (by simp [Act.eval, Act.put]) rfl (World.news_of_block (cs := #[(.int .i64 (vb : Int))]) (t := 3) (fr := (0, 0)) HNb.out.blk) (by intro u hu; simp at hu; subst hu; rfl) (by decide) hm1 hm2 HM3.out.hb _ rfl ?_; intro g2 cap2 x4 hown hgrow hat hlt; have HM4 := Lib.hid (HM3.out.app2 hgrow hown hat); clear hown hgrow hat hlt r0 r1; obtain ⟨r0, r1, -, -⟩ := HM4.out.cells; have f0 := HM4.out.kT.frozen 0)
          refine hK.out _ _ ?_ (fun hHeld hHeldT => ?_)
          · (try dsimp only); (exact ⟨⟨HM4.out.cells.1, HM4.out.cells.2.1⟩, HSL.out _ HM4.out.bel⟩)
          clear hK K
          try simp only [List.getElem_toArray, List.getElem_cons_succ, List.getElem_cons_zero]
          try simp only [Act.put, List.setIfInBounds_toArray, List.set_cons_zero, List.set_cons_succ]
          refine wpAnyT_ready (rs := [20]) (by kernel_rfl) (by simp) ?_
          refine AllReadyT.past rfl (by kernel_rfl) (fun K hK => ?_)
          (go_simp; obtain ⟨s1, f1⟩ := HM4.out.mid (.slice (some ⟨g1, 0, none⟩) (k + 1) cap1))
          refine hK.out _ _ ?_ ?_
          · (try dsimp only); (exact HSL.out _ (HM4.out.bel.setCell (by exact HM4.out.wl) _))
          clear hK K
          try simp only [List.getElem_toArray, List.getElem_cons_succ, List.getElem_cons_zero]
          try simp only [Act.put, List.setIfInBounds_toArray, List.set_cons_zero, List.set_cons_succ]
          refine wpAnyT_ready (rs := [21]) (by kernel_rfl) (by simp) ?_
          refine AllReadyT.past rfl (by kernel_rfl) (fun K hK => ?_)
          go_simp
          refine hK.out _ _ ?_ ?_
          · (try dsimp only); (exact HSL.out _ (HM4.out.bel.setCell (by exact HM4.out.wl) _))
          clear hK K
          try simp only [List.getElem_toArray, List.getElem_cons_succ, List.getElem_cons_zero]
          try simp only [Act.put, List.setIfInBounds_toArray, List.set_cons_zero, List.set_cons_succ]
          refine wpAnyT_ready (rs := [22]) (by kernel_rfl) (by simp) ?_
          refine AllReadyT.past rfl (by kernel_rfl) (fun K hK => ?_)
          go_simp
          refine hK.out _ _ ?_ ?_
          · (try dsimp only); (exact HSL.out _ ((HM4.out.bel.setCell (by exact HM4.out.wl) _).setCell (by exact HM4.out.wl) _))
          clear hK K
          try simp only [List.getElem_toArray, List.getElem_cons_succ, List.getElem_cons_zero]
          try simp only [Act.put, List.setIfInBounds_toArray, List.set_cons_zero, List.set_cons_succ]
          refine wpAnyT_done (by kernel_rfl) ?_ _
          refine NoPanic.normal ?_
          go_wp2_with fail
          go_meet
          exact ⟨rfl, _, _, _, _, Lib.hid (by rw [HS1.out, HS2.out]; exact HM4.out.put)⟩

      case rest =>
        obtain ⟨rfl, A1', c1', A2', c2', HM2⟩ := hcut
        go_wp2_with fail
        go_roundw
        case rel => exact ⟨k + 1, A1', c1', A2', c2', by omega, by go_num, HM2⟩
        case measure => simp [intOf]; omega
    · obtain rfl : n = k := by omega
      clear hkn hlt
      obtain ⟨w2, hw2⟩ : ∃ W, W = wr := ⟨_, rfl⟩
      rw [← hw2] at HM ⊢
      clear hw2
      obtain ⟨s, hs⟩ : ∃ s, s = milS need order n kp room := ⟨_, rfl⟩
      obtain ⟨x, hx⟩ : ∃ x : SA, x = ⟨A1, c1, A2, c2⟩ := ⟨_, rfl⟩
      have hsn : s.need.length = n := by rw [hs]; exact milS_n HN.out.2.1
      have hso : s.order.length = n := by rw [hs]; exact milS_o HN.out.2.2
      have hsk : s.keep = kp := by rw [hs]; rfl
      have hsr : s.room = room := by rw [hs]; rfl
      have h1n : 1 ≤ n := by have := HN0.out; omega
      have he : errS s = 0 := by rw [hs]; exact mil_ok h1n HN.out.1 HN.out.2.1 HN.out.2.2 HB2.out hkpb ⟨hr0, hr1⟩
      have hsl : s.need.length ≤ 1000000000 ∧ s.order.length ≤ 1000000000 := by have := HN.out; omega
      have hT0 : SupAt w2 w2.heap.size s x := by rw [hs, hx]; exact mil_at HM.out HN.out.2.1 HN.out.2.2
      have HT := Lib.hid (fun W (hb : Below w2.heap.size w2 W) => hT0.step hb)
      have HC := Lib.hid (show ∀ W, Below w2.heap.size w2 W → W.cell? ⟨g, 0, none⟩ = some (.slice A1 n c1) ∧ W.cell? ⟨g, 1, none⟩ = some (.slice A2 n c2) ∧ W.cell? ⟨g, 2, none⟩ = some (.int .i64 kp) ∧ W.cell? ⟨g, 3, none⟩ = some (.int .i64 room) from fun W hb => milw_cells (HM.out.kT.below hb HM.out.kT.lt))
      have HBW := Lib.hid HM.out.bel
      obtain ⟨R, hR⟩ : ∃ r, r = resV s n 0 := ⟨_, rfl⟩
      obtain ⟨LS, hLS⟩ : ∃ r, r = schV s n 0 := ⟨_, rfl⟩
      have hxa : Value.agg #[.slice x.a s.need.length x.ca, .slice x.b s.order.length x.cb, .int .i64 s.keep, .int .i64 s.room] = .agg #[.slice A1 n c1, .slice A2 n c2, .int .i64 kp, .int .i64 room] := by rw [hsn, hso, hsk, hsr, hx]
      have H23 := Lib.hid (show ∀ W, Below w2.heap.size w2 W → Calls Try.prog 23 #[.agg #[.slice A1 n c1, .slice A2 n c2, .int .i64 kp, .int .i64 room]] W fun e w' => ∃ (A : Option Addr) (c : Nat), e = .returned (.tuple #[.slice A LS.length c, .int .i64 R, .int .i64 0]) ∧ Hid (Sl encInt 1 w' w'.heap.size A (casts LS)) ∧ Hid (Below W.heap.size W w') from fun W hb => by
        have := sched_ok s x W (HT.out W hb) he n hsn.symm
        rw [hxa, ← hR, ← hLS] at this
        exact this)
      have H24 := Lib.hid (show ∀ W, Below w2.heap.size w2 W → Calls Try.prog 24 #[.agg #[.slice A1 n c1, .slice A2 n c2, .int .i64 kp, .int .i64 room]] W fun e w' => ∃ g9 : Nat, e = .returned (.tuple #[.slice (some ⟨g9, 0, none⟩) (n + 1) (n + 1), .int .i64 0]) ∧ Hid (W.heap.size ≤ g9) ∧ Hid (RowF w' g9 (leaV s) (n + 1)) ∧ Hid (Below W.heap.size W w') from fun W hb => by
        have := pric_ok s x W (HT.out W hb) he n hsn.symm
        rw [hxa] at this
        exact this)
      have H25 := Lib.hid (show ∀ g9 W, Below w2.heap.size w2 W → RowF W g9 (leaV s) (n + 1) → Calls Try.prog 25 #[.agg #[.slice A1 n c1, .slice A2 n c2, .int .i64 kp, .int .i64 room], .slice (some ⟨g9, 0, none⟩) (n + 1) (n + 1)] W fun e w' => e = .returned (.tuple #[.int .i64 R, .int .i64 0]) ∧ Hid (Below W.heap.size W w') from fun g9 W hb hf => by
        have := proves_c s x W hsl (HT.out W hb) (some ⟨g9, 0, none⟩) (n + 1) (n + 1) (upF (leaV s) (n + 1)) (upF_len _ _) (by have := HN.out; omega) hf.sl
        rw [hxa] at this
        refine this.mono ?_
        rintro e w' ⟨v, er, rfl, hp, hb'⟩
        have h2 := hp.out
        rw [← hsn] at h2
        obtain ⟨rfl, rfl⟩ := prv_lea he h2
        rw [hR, hsn]
        exact ⟨rfl, hb'⟩)
      have H26 := Lib.hid (show ∀ A c W, Below w2.heap.size w2 W → Sl encInt 1 W W.heap.size A (casts LS) → Calls Try.prog 26 #[.agg #[.slice A1 n c1, .slice A2 n c2, .int .i64 kp, .int .i64 room], .slice A LS.length c] W fun e w' => e = .returned (.tuple #[.int .i64 R, .int .i64 0]) ∧ Hid (Below W.heap.size W w') from fun A c W hb hf => by
        have hl : LS.length ≤ 1000000000 := by
          have h1 := wks_len (sch_wks (sup_ok he) (n := n) (by have := HN.out; omega) h1n)
          have := HN.out
          rw [hLS]
          omega
        have := cost_c s x W hsl (HT.out W hb) A c LS.length (casts LS) (cas_len _) hl hf (R, 0) (by rw [hR, hLS, ← hsn]; exact (cst_best he).symm)
        rw [hxa] at this
        exact this)
      have H26b := Lib.hid (show ∀ A c (ws : List Nat) W, Below w2.heap.size w2 W → WksOk n ws → ws.length ≤ 1000 → Sl encInt 1 W W.heap.size A (casts ws) → Calls Try.prog 26 #[.agg #[.slice A1 n c1, .slice A2 n c2, .int .i64 kp, .int .i64 room], .slice A ws.length c] W fun e w' => ∃ x1 e1 : Int, e = .returned (.tuple #[.int .i64 x1, .int .i64 e1]) ∧ Hid ((e1 = 0 ∧ R ≤ x1) ∨ e1 = 9) ∧ Hid (Below W.heap.size W w') from fun A c ws W hb hw hl hf => by
        have := cost_c s x W hsl (HT.out W hb) A c ws.length (casts ws) (cas_len _) (by omega) hf (cstP s (casts ws)) rfl
        rw [hxa] at this
        refine this.mono ?_
        rintro e w' ⟨rfl, hb'⟩
        have h2 := cst_any he (by rw [hsn]; exact hw) (r := cstP s (casts ws)) rfl
        rw [hsn, ← hR] at h2
        exact ⟨_, _, rfl, Lib.hid h2, hb'⟩)
      have H25b := Lib.hid (show ∀ g9 kk W, Below w2.heap.size w2 W → 1 ≤ kk → kk ≤ n → RowF W g9 (fun j => if j = kk then leaV s kk + dy else leaV s j) (n + 1) → Calls Try.prog 25 #[.agg #[.slice A1 n c1, .slice A2 n c2, .int .i64 kp, .int .i64 room], .slice (some ⟨g9, 0, none⟩) (n + 1) (n + 1)] W fun e w' => ∃ v e1 : Int, e = .returned (.tuple #[.int .i64 v, .int .i64 e1]) ∧ Hid ((e1 = 0 ∨ e1 = 7) ∧ (e1 = 0 → v ≤ R) ∧ (kk = n → (dy ≤ 0 ↔ e1 = 0)) ∧ (¬ dy ≤ 0 → e1 = 7)) ∧ Hid (Below W.heap.size W w') from fun g9 kk W hb hk1 hk2 hf => by
        have := proves_c s x W hsl (HT.out W hb) (some ⟨g9, 0, none⟩) (n + 1) (n + 1) (upF (fun j => if j = kk then leaV s kk + dy else leaV s j) (n + 1)) (upF_len _ _) (by have := HN.out; omega) hf.sl
        rw [hxa] at this
        refine this.mono ?_
        rintro e w' ⟨v, er, rfl, hp, hb'⟩
        have h2 := hp.out
        rw [← hsn, chgL_eq] at h2
        have h3 := prv_chg he hk1 (by rw [hsn]; exact hk2) ⟨by omega, by omega⟩ h2
        rw [hsn, ← hR] at h3
        exact ⟨_, _, rfl, Lib.hid h3, hb'⟩)
      have HLB := Lib.hid (show ∀ j, j ≤ n → -100000000 ≤ leaV s j ∧ leaV s j ≤ 100000000 from fun j hj => by
        have hs2 := sup_ok he
        have := HN.out
        have a := leaV_nn hs2 j (by omega)
        have b := leaV_bd hs2 j (by omega)
        omega)
      have HBN := Lib.hid (Below.refl w2.heap.size w2)
      obtain ⟨r0, r1, r2, r3⟩ := HC.out _ HBN.out
      have wn : IntKind.i64.wrap ((n : Int) + 1) = (n : Int) + 1 := by rw [IntKind.wrap_i64]; have := HN.out; omega
      have H1N := Lib.hid h1n
      obtain ⟨bw, hbw⟩ : ∃ b : Nat → Bool, b = fun j => (bits BinOp.and IntKind.u16 (weeks / 2 ^ j) 1 == 1) := ⟨_, rfl⟩
      have HBI := Lib.hid hbw
      clear hbw
      clear hs hx hsn hso hsk hsr he hsl hT0 hR hLS hxa HM HA1 HA2 HB1 HB2 HWL h1n
      go_upto_region 16 with first
        | (go_at_call 23; with_reducible refine (H23.out _ HBN.out).mono ?_; rintro e wk ⟨AS, cS, rfl, HL, hbk⟩; have HBN := Lib.hid (bstep HBN.out hbk.out); clear hbk; clear r0 r1 r2 r3; obtain ⟨r0, r1, r2, r3⟩ := HC.out _ HBN.out)
        | (go_at_call 24; have HBS := Lib.hid HBN.out.size; with_reducible refine (H24.out _ HBN.out).mono ?_; rintro e wk ⟨g9, rfl, HG9, HF, hbk⟩; have HBN := Lib.hid (bstep HBN.out hbk.out); have HG9 := Lib.hid (Nat.le_trans HBS.out HG9.out); have HL := Lib.hid ((HL.out.below hbk.out).mono hbk.out.size); clear hbk; clear r0 r1 r2 r3; obtain ⟨r0, r1, r2, r3⟩ := HC.out _ HBN.out)
        | (go_at_call 25; with_reducible refine (H25.out g9 _ HBN.out HF.out).mono ?_; rintro e wk ⟨rfl, hbk⟩; have HBN := Lib.hid (bstep HBN.out hbk.out); have HL := Lib.hid ((HL.out.below hbk.out).mono hbk.out.size); have HF := Lib.hid (HF.out.below hbk.out); clear hbk; clear r0 r1 r2 r3; obtain ⟨r0, r1, r2, r3⟩ := HC.out _ HBN.out)
        | (go_at_call 26; with_reducible refine (H26.out AS cS _ HBN.out HL.out).mono ?_; rintro e wk ⟨rfl, hbk⟩; have HBN := Lib.hid (bstep HBN.out hbk.out); have HL := Lib.hid ((HL.out.below hbk.out).mono hbk.out.size); have HF := Lib.hid (HF.out.below hbk.out); clear hbk; clear r0 r1 r2 r3; obtain ⟨r0, r1, r2, r3⟩ := HC.out _ HBN.out)
      obtain ⟨w3, hw3⟩ : ∃ W, W = wk := ⟨_, rfl⟩
      rw [← hw3] at HBN HF ⊢
      clear hw3 r0 r1 r2 r3 HL H23 H24 H25 H26
      go_upto_region 17 with fail
      obtain ⟨w4, hw4⟩ : ∃ W, W = w3.alloc (.cells #[.int .i64 0] 3) := ⟨_, rfl⟩
      obtain ⟨g3, hg3⟩ : ∃ n, n = w3.heap.size := ⟨_, rfl⟩
      rw [← hw4, ← hg3]
      have HO4 := Lib.hid (show w4.ownsRow g3 3 1 (.slice (some ⟨g3, 0, none⟩) (anyW bw 0).length 1) (anyW bw 0).length ((casts (anyW bw 0)).map (Value.int .i64)) from by
        rw [hw4, hg3]
        exact ⟨rfl, .inr ⟨_, 1, #[.int .i64 0], rfl, Nat.le_refl _, Blk.new _ _ _, by simp [anyW], by decide, by simp, by simp [anyW, casts]⟩⟩)
      have HB4 := Lib.hid (show Below w2.heap.size w2 w4 from by rw [hw4]; exact balR HBN.out _)
      have HF4 := Lib.hid (show RowF w4 g9 (leaV s) (n + 1) from by rw [hw4]; exact HF.out.below (balR (Below.refl _ _) _))
      have HG4 := Lib.hid (show g9 < g3 ∧ g3 ≤ w4.heap.size ∧ w2.heap.size ≤ g3 from ⟨by rw [hg3]; exact HF.out.lt, by rw [hw4, hg3]; simp, by rw [hg3]; exact HBN.out.size⟩)
      clear hw4 hg3 HF HBN
      go_wp2_with fail
      go_loopw [27, 28] (fun l u wr => ∃ (m : Nat) (A : Option Addr) (c : Nat), m + 1 ≤ n ∧ u = .int .i64 ((m : Int) + 1) ∧ l = .slice A (anyW bw m).length c ∧ Hid (wr.ownsRow g3 3 1 (.slice A (anyW bw m).length c) (anyW bw m).length ((casts (anyW bw m)).map (Value.int .i64))) ∧ Hid (Below w2.heap.size w2 wr) ∧ Hid (RowF wr g9 (leaV s) (n + 1)) ∧ Hid (g3 ≤ wr.heap.size)) (fun _ u _ => n - (intOf u).toNat)
      case atStart => exact ⟨0, some ⟨g3, 0, none⟩, 1, by have := H1N.out; omega, rfl, rfl, HO4, HB4, HF4, Lib.hid HG4.out.2.1⟩
      case round =>
        obtain ⟨m, A, c, hmn, rfl, rfl, HO, HBN, HF, HSZ⟩ := hrel
        have hn12 : n ≤ 12 := HN.out.1
        clear HO4 HB4 HF4
        by_cases hlt : m + 1 < n
        · have i1 : (m : Int) + 1 < (n : Int) := by omega
          have i2 : ¬ ((m : Int) + 1 < 0) := by omega
          have i3 : (0 : Int) ≤ (m : Int) + 1 := by omega
          go_upto_if 136 with fail
          obtain ⟨bt, hbt⟩ : ∃ b, b = (bits BinOp.and IntKind.u16 (weeks / 2 ^ (m + 1)) 1 == 1) := ⟨_, rfl⟩
          rw [← hbt]
          have HBT := Lib.hid (show bw (m + 1) = bt from by rw [HBI.out, hbt])
          clear hbt
          cases bt
          · go_wp2_with fail
            go_roundw
            case rel => exact ⟨m + 1, A, c, hlt, by go_num, by rw [anyW_s0 HBT.out], by rw [anyW_s0 HBT.out]; exact HO, HBN, HF, HSZ⟩
            case measure => simp [intOf]; omega
          · obtain ⟨L, hL⟩ : ∃ L, L = anyW bw m := ⟨_, rfl⟩
            have hLl := anyW_len bw m
            rw [← hL] at HO hLl ⊢
            have HL := Lib.hid hL
            obtain ⟨nL, hnL⟩ : ∃ k, k = L.length := ⟨_, rfl⟩
            rw [← hnL] at HO hLl ⊢
            have HNL := Lib.hid hnL
            obtain ⟨i3', hi3, z0, z1, z2⟩ := info_parts infoInt
            have HI3 := Lib.hid hi3
            have hm1 : nL + 1 ≤ maxLen := by have := HN.out; simp only [maxLen]; omega
            have hm2 : (nL + 1) * 8 ≤ 140737488355328 := by have := HN.out; omega
            have hsz := HSZ.out
            clear hL hnL hi3
            go_wp2_with (at_builtin; refine wpList_append_lies _ rfl (.tmp 137) (.tmp 139) 47 rfl g3 3 i3' _ 1 8 Try.underlying47 HI3.out z0 z1 z2 rfl (by decide) (.slice A nL c) nL ((casts L).map (Value.int .i64)) rfl (own_belowV HO.out (balR (Below.refl _ _) _)) ⟨wr.heap.size, 0, none⟩ 1 1 [.int .i64 ((m : Int) + 1)] rfl rfl (news_of1 wr 3 #[.int .i64 ((m : Int) + 1)]) (by intro u hu; simp at hu; subst hu; rfl) (by decide) hm1 hm2 (by simp; omega) (wr.heap.size + 1) (by simp) ?_; intro g6 cap6 w6 hown6 hgrow6 hat6 hlt6; have HG6 := Lib.hid hgrow6; have HO6 := Lib.hid hown6; clear hown6 hgrow6 hat6 hlt6)
            go_roundw
            case rel =>
              have hlo : ∀ p, (Value.slice A nL c).ownBlock = some p → g3 ≤ p := fun p hp => (HO.out.lt p hp).1
              refine ⟨m + 1, some ⟨g6, 0, none⟩, cap6, hlt, by go_num, by rw [anyW_s1 HBT.out, ← HL.out, List.length_append, ← HNL.out]; rfl, by rw [anyW_s1 HBT.out, ← HL.out, cas_app, List.length_append, ← HNL.out]; exact HO6, Lib.hid ((balR HBN.out _).grown HG6.out (balR HBN.out _).size fun p hp => Nat.le_trans HG4.out.2.2 (hlo p hp)), Lib.hid ?_, Lib.hid (Nat.le_trans hsz (Nat.le_trans (by simp) HG6.out.size))⟩
              exact (HF.out.below (balR (Below.refl _ _) _)).grown HG6.out (fun e => by have := hlo _ e.symm; have := HG4.out.1; omega)
            case measure => simp [intOf]; omega
        · obtain ⟨w5, hw5⟩ : ∃ W, W = wr := ⟨_, rfl⟩
          rw [← hw5] at HO HBN HF ⊢
          clear hw5 HSZ
          have hwk : WksOk n (anyW bw m) := by have := anyW_ok bw m; rw [show m + 1 = n by omega] at this; exact this
          have hwl := (anyW_len bw m).2
          have i1 : ¬ ((m : Int) + 1 < (n : Int)) := by omega
          obtain ⟨L, hL⟩ : ∃ L, L = anyW bw m := ⟨_, rfl⟩
          rw [← hL] at HO hwk hwl ⊢
          have HWK := Lib.hid hwk
          have HLL := Lib.hid (show L.length ≤ 1000 from by have := HN.out; omega)
          have HLA := Lib.hid (own_cas HO.out)
          obtain ⟨r0, r1, r2, r3⟩ := HC.out _ HBN.out
          clear hL hwk hwl HBI HO
          go_upto_region 23 with (go_at_call 26; with_reducible refine (H26b.out A c L _ HBN.out HWK.out HLL.out HLA.out).mono ?_; rintro e wk ⟨x1, e1, rfl, HE1, hbk⟩; have HBN := Lib.hid (bstep HBN.out hbk.out); have HF := Lib.hid (HF.out.below hbk.out); clear hbk; clear r0 r1 r2 r3; obtain ⟨r0, r1, r2, r3⟩ := HC.out _ HBN.out)
          obtain ⟨w6, hw6⟩ : ∃ W, W = wk := ⟨_, rfl⟩
          rw [← hw6] at HBN HF r0 r1 r2 r3 ⊢
          clear hw6 HLA
          have HTS := Lib.hid (show (e1 = 0 ∧ ¬ x1 < R) ∨ e1 = 9 from by have := HE1.out; omega)
          clear HE1
          go_cut [161] (fun p wx => p = .bool false ∧ wx = w6)
          case first =>
            rcases HTS.out with ⟨h1, h2⟩ | h1
            · subst h1
              go_wp2_with fail
              go_meet
              exact ⟨by simp, rfl⟩
            · subst h1
              go_wp2_with fail
              go_meet
              exact ⟨by simp, rfl⟩
          case rest =>
            obtain ⟨rfl, hwc⟩ := hcut
            rw [hwc]
            clear hwc
            go_upto_region 26 with fail
            have hn12 : n ≤ 12 := HN.out.1
            have h1n : 1 ≤ n := H1N.out
            obtain ⟨kk, hkk⟩ : ∃ kk : Nat, kk = 1 + (at9 % (n : Int)).toNat := ⟨_, rfl⟩
            have ham0 : 0 ≤ at9 % (n : Int) := Int.emod_nonneg _ (by omega)
            have ham1 : at9 % (n : Int) < (n : Int) := Int.emod_lt_of_pos _ (by omega)
            have hkw : wrap64 (1 + at9 % (n : Int)) = (kk : Int) := by
              unfold wrap64
              omega
            have hk1 : 1 ≤ kk := by omega
            have hk2 : kk ≤ n := by omega
            rw [hkw]
            clear hkw ham0 ham1 hkk
            have hlb := HLB.out kk hk2
            have d0 := HF.out.cell (i := kk) (by omega)
            have f0 := HF.out.frozen kk
            have i0 : (0 : Int) ≤ (kk : Int) := by omega
            have i1 : (kk : Int) < (n : Int) + 1 := by omega
            have i2 : IntKind.i64.wrap (leaV s kk + dy) = leaV s kk + dy := by rw [IntKind.wrap_i64]; omega
            have i3 : wrap64 (leaV s kk + dy) = leaV s kk + dy := by unfold wrap64; omega
            obtain ⟨q, hq⟩ : ∃ q, q = leaV s kk := ⟨_, rfl⟩
            rw [← hq] at d0 i2 i3 hlb
            have HQ := Lib.hid hq
            clear hq
            go_upto_region 27 with fail
            obtain ⟨w7, hw7⟩ : ∃ W, W = w6.setCell ⟨g9, kk, none⟩ (.int .i64 (q + dy)) := ⟨_, rfl⟩
            rw [← hw7]
            have HF7 := Lib.hid (show RowF w7 g9 (fun j => if j = kk then leaV s kk + dy else leaV s j) (n + 1) from by rw [hw7, HQ.out]; exact HF.out.set_ kk _)
            have HBN := Lib.hid (show Below w2.heap.size w2 w7 from by rw [hw7]; exact HBN.out.setCell (by exact HG9.out) _)
            clear hw7 d0 f0 r0 r1 r2 r3 HF i0 i1 i2 i3 hlb
            obtain ⟨r0, r1, r2, r3⟩ := HC.out _ HBN.out
            have HK1 := Lib.hid hk1
            have HK2 := Lib.hid hk2
            clear hk1 hk2 hn12 h1n
            go_upto_region 28 with (go_at_call 25; with_reducible refine (H25b.out g9 kk _ HBN.out HK1.out HK2.out HF7.out).mono ?_; rintro e wk ⟨v2, e2, rfl, HE2, hbk⟩; have HBN := Lib.hid (bstep HBN.out hbk.out); clear hbk; clear r0 r1 r2 r3; obtain ⟨r0, r1, r2, r3⟩ := HC.out _ HBN.out)
            obtain ⟨w8, hw8⟩ : ∃ W, W = wk := ⟨_, rfl⟩
            rw [← hw8] at HBN ⊢
            clear hw8 r0 r1 r2 r3 HF7
            have HTS := Lib.hid (show (e2 = 0 ∧ ¬ R < v2 ∧ dy ≤ 0) ∨ (e2 = 7 ∧ (kk = n → ¬ dy ≤ 0)) from by
              obtain ⟨a1, a2, a3, a4⟩ := HE2.out
              rcases a1 with a1 | a1
              · exact .inl ⟨a1, by have := a2 a1; omega, by
                  by_cases h : dy ≤ 0
                  · exact h
                  · have := a4 (by omega); omega⟩
              · exact .inr ⟨a1, fun h h2 => by have := (a3 h).1 h2; omega⟩)
            clear HE2
            go_cut [207] (fun p wx => p = .bool false ∧ wx = w8)
            case first =>
              rcases HTS.out with ⟨h1, h2, h3⟩ | ⟨h1, h2⟩
              · subst h1
                by_cases hkn : kk = n
                · have hkn2 : ((kk : Int) == (n : Int)) = true := by simp [hkn]
                  clear hkn
                  go_wp2_with fail
                  go_meet
                  exact ⟨by simp, rfl⟩
                · have hkn2 : ((kk : Int) == (n : Int)) = false := by simp; omega
                  have hkn3 : ¬ (kk : Int) = (n : Int) := by omega
                  go_wp2_with fail
                  go_meet
                  exact ⟨by simp, rfl⟩
              · subst h1
                by_cases hkn : kk = n
                · have hkn2 : ((kk : Int) == (n : Int)) = true := by simp [hkn]
                  have h3 := h2 hkn
                  clear hkn h2
                  go_wp2_with fail
                  go_meet
                  exact ⟨by simp, rfl⟩
                · have hkn2 : ((kk : Int) == (n : Int)) = false := by simp; omega
                  have hkn3 : ¬ (kk : Int) = (n : Int) := by omega
                  clear h2
                  go_wp2_with fail
                  go_meet
                  exact ⟨by simp, rfl⟩
            case rest =>
              obtain ⟨rfl, hwc⟩ := hcut
              rw [hwc]
              clear hwc
              rcases HTS.out with ⟨h1, h2, h3⟩ | ⟨h1, h2⟩
              · subst h1
                go_wp2_with (go_at_call 17; refine (HAW.out _).mono ?_; rintro e w9 ⟨rfl, hb9⟩; have HB9 := Lib.hid hb9; clear hb9)
                go_ret
                exact ⟨rfl, HBW.out.trans ((HBN.out.trans (HB9.out.mono HBN.out.size)).mono HBW.out.size)⟩
              · subst h1
                clear h2
                by_cases hdy : dy ≤ 0
                · go_wp2_with (go_at_call 17; refine (HAW.out _).mono ?_; rintro e w9 ⟨rfl, hb9⟩; have HB9 := Lib.hid hb9; clear hb9)
                  go_ret
                  exact ⟨rfl, HBW.out.trans ((HBN.out.trans (HB9.out.mono HBN.out.size)).mono HBW.out.size)⟩
                · go_wp2_with (go_at_call 17; refine (HAW.out _).mono ?_; rintro e w9 ⟨rfl, hb9⟩; have HB9 := Lib.hid hb9; clear hb9)
                  go_ret
                  exact ⟨rfl, HBW.out.trans ((HBN.out.trans (HB9.out.mono HBN.out.size)).mono HBW.out.size)⟩
end Go.Proofs.Ytnbnfadmbggfnaa
