/- Contracts of Schedule and Prices; conditions: a supply in memory. Printed by a program. -/
import Derived.Test.YtnbnfadmbggfnaaA4
set_option linter.unusedSimpArgs false
set_option linter.unusedVariables false
namespace Go.Rl
/-- how long a slice is -/
def lenOf : Go.Value → Nat
  | .slice _ n _ => n
  | _ => 0
end Go.Rl
namespace Go.Fh
theorem sep_grow {gI g9 n c : Nat} {v : Value} {H : Nat} (hs : some gI ≠ v.ownBlock) (hat : v.ownBlock = some g9 ∨ g9 = H) (hl : gI < H) : some gI ≠ (Value.slice (some ⟨g9, 0, none⟩) n c).ownBlock := by
  intro e
  have e2 : gI = g9 := by simpa [Value.ownBlock] using e
  rcases hat with h | h
  · exact hs (by rw [h, e2])
  · omega
end Go.Fh
namespace Go.Proofs.Ytnbnfadmbggfnaa
open Go.RowKit Go.Fh Go.Rl
theorem fit_b {s : SupD} {n i k : Nat} {c : Int} {t : Bool} (hc : c = covC s i k) (ht : t = decide (c + resV s n k = resV s n i)) : fitB s n i k = (covB s i k && t) := by
  unfold fitB
  cases h : covB s i k
  · rw [cov_none h]; rfl
  · rw [cov_some h, ht, hc]; rfl
set_option maxRecDepth 20000 in
set_option maxHeartbeats 4000000 in
theorem fits_any (s : SupD) (x : SA) (W : World) (hs : SupOk s) (hT : SupAt W W.heap.size s x) (n : Nat) (hn : n = s.need.length) (gT gI gR g2 i k : Nat) (hik : i < k) (hkn : k ≤ n) (kT : Blk W gT 60 (supV s x)) (kI : Blk W gI 3 #[.int .i64 (i : Int)]) (kR : Blk W gR 47 #[.slice (some ⟨g2, 0, none⟩) (n + 1) (n + 1)]) (hF : RowF W g2 (resV s n) (n + 1)) :
    Calls Try.prog 54 #[.int .i64 (k : Int), .pointer (some ⟨gT, 0, none⟩), .pointer (some ⟨gI, 0, none⟩), .pointer (some ⟨gR, 0, none⟩)] W fun e w' => e = .returned (.bool (fitB s n i k)) ∧ Hid (Below W.heap.size W w') := by
  have hn20 := hs.n1
  rw [← hn] at hn20
  have H55 := Lib.hid (covers_any s x W hs hT i k hik (by rw [← hn]; exact hkn))
  have hcb := covC_bd hs (fr := i) (tp := k) (by omega)
  have hb1 := resV_le hs (n := n) (i := k) hn20 hkn
  have hb2 := resV_nn hs (n := n) hn20 k hkn
  obtain ⟨cc, hcc⟩ : ∃ c, c = covC s i k := ⟨_, rfl⟩
  obtain ⟨tt, htt⟩ : ∃ t, t = decide (cc + resV s n k = resV s n i) := ⟨_, rfl⟩
  rw [fit_b hcc htt]
  obtain ⟨ok, hok⟩ : ∃ b, b = covB s i k := ⟨_, rfl⟩
  rw [← hok, ← hcc] at H55
  rw [← hok]
  rw [← hcc] at hcb
  obtain ⟨vk, hvk⟩ : ∃ v, v = resV s n k := ⟨_, rfl⟩
  obtain ⟨vi, hvi⟩ : ∃ v, v = resV s n i := ⟨_, rfl⟩
  have r0 := kT.cell 0
  have r1 := kT.cell 1
  have r2 := kT.cell 2
  have r3 := kT.cell 3
  simp [supV] at r0 r1 r2 r3
  have p0 := kI.cell 0
  simp at p0
  have KI := Lib.hid kI
  have KR := Lib.hid kR
  have HF := Lib.hid hF
  have q0 : (vk : Int) = resV s n k := hvk
  have HVK := Lib.hid hvk
  have HVI := Lib.hid hvi
  rw [← hvk] at hb1 hb2 htt
  rw [← hvi] at htt
  have ht2 : ((cc + vk : Int) == vi) = tt := by rw [htt]; by_cases h : cc + vk = vi <;> simp [h]
  have sw : IntKind.i64.wrap (cc + vk) = cc + vk := by rw [IntKind.wrap_i64]; omega
  have i0 : (0 : Int) ≤ (i : Int) := by omega
  have i1 : (i : Int) < (n : Int) + 1 := by omega
  have k0 : (0 : Int) ≤ (k : Int) := by omega
  have k1 : (k : Int) < (n : Int) + 1 := by omega
  have HKR := Lib.hid kR.lt
  unfold supV at *
  clear hs hT hn kT kI kR hF hcc htt hok hvk hvi q0
  go_enter Try.func54, Try.ntmps54
  go_upto_region 2 with (go_at_call 55; with_reducible refine H55.out.mono ?_; rintro e w5 ⟨rfl, HB5⟩)
  clear r0 r1 r2 r3 p0
  have kI5 := KI.out.below HB5.out KI.out.lt
  have kR5 := KR.out.below HB5.out KR.out.lt
  have F5 := HF.out.below HB5.out
  have p0 := kI5.cell 0
  have p1 := kR5.cell 0
  simp at p0 p1
  have p2 := F5.cell (i := k) (by omega)
  have p3 := F5.cell (i := i) (by omega)
  rw [← HVK.out] at p2
  rw [← HVI.out] at p3
  clear kI5 kR5 F5
  cases ok
  · clear ht2
    go_quiet (fail)
    go_wp2_with fail
    go_ret
    exact ⟨rfl, Lib.hid (below_drewN HB5.out _)⟩
  · cases tt
    all_goals
      go_quiet (fail)
      go_wp2_with fail
      go_ret
      exact ⟨rfl, Lib.hid (below_drewN HB5.out _)⟩
theorem infoSl47 : (Try.prog.info? 47).map (fun i => (i.zero, i.size, i.bytes)) = some (some (.slice none 0 0), 1, 24) := by kernel_rfl
set_option maxRecDepth 20000 in
set_option maxHeartbeats 4000000 in
theorem sched_bad (s : SupD) (x : SA) (w : World) (hl : s.need.length ≤ 1000000000 ∧ s.order.length ≤ 1000000000) (hT : SupAt w w.heap.size s x) (he : errS s ≠ 0) :
    Calls Try.prog 23 #[.agg #[.slice x.a s.need.length x.ca, .slice x.b s.order.length x.cb, .int .i64 s.keep, .int .i64 s.room]] w fun e w' => e = .returned (.tuple #[.slice none 0 0, .int .i64 0, .int .i64 (errS s)]) ∧ Hid (Below w.heap.size w w') := by
  obtain ⟨w1, gT, HW1, HGT, HB1, HTB⟩ := sup_box 60 s x w hT
  obtain ⟨hT1, r0, r1, r2, r3⟩ := HTB.out w1 (Below.refl _ _)
  have HCK := Lib.hid (chkS_any s x w1 hl hT1)
  obtain ⟨ck, hck⟩ : ∃ c, c = errS s := ⟨_, rfl⟩
  rw [← hck] at HCK he ⊢
  have ht : (ck != 0) = true := by simpa using he
  unfold supV at *
  clear hT hT1 he hck
  go_enter Try.func23, Try.ntmps23
  go_upto_region 1 with fail
  rw [← HW1.out, ← HGT.out]
  go_wp2_with (go_at_call 52; with_reducible refine HCK.out.mono ?_; rintro e w2 ⟨rfl, HB2⟩)
  go_ret3
  exact ⟨rfl, Lib.hid (HB1.out.trans (HB2.out.mono HB1.out.size))⟩
set_option maxRecDepth 20000 in
set_option maxHeartbeats 4000000 in
theorem pric_bad (s : SupD) (x : SA) (w : World) (hl : s.need.length ≤ 1000000000 ∧ s.order.length ≤ 1000000000) (hT : SupAt w w.heap.size s x) (he : errS s ≠ 0) :
    Calls Try.prog 24 #[.agg #[.slice x.a s.need.length x.ca, .slice x.b s.order.length x.cb, .int .i64 s.keep, .int .i64 s.room]] w fun e w' => e = .returned (.tuple #[.slice none 0 0, .int .i64 (errS s)]) ∧ Hid (Below w.heap.size w w') := by
  obtain ⟨w1, gT, HW1, HGT, HB1, HTB⟩ := sup_box 60 s x w hT
  obtain ⟨hT1, r0, r1, r2, r3⟩ := HTB.out w1 (Below.refl _ _)
  have HCK := Lib.hid (chkS_any s x w1 hl hT1)
  obtain ⟨ck, hck⟩ : ∃ c, c = errS s := ⟨_, rfl⟩
  rw [← hck] at HCK he ⊢
  have ht : (ck != 0) = true := by simpa using he
  unfold supV at *
  clear hT hT1 he hck
  go_enter Try.func24, Try.ntmps24
  go_upto_region 1 with fail
  rw [← HW1.out, ← HGT.out]
  go_wp2_with (go_at_call 52; with_reducible refine HCK.out.mono ?_; rintro e w2 ⟨rfl, HB2⟩)
  go_ret2
  exact ⟨rfl, Lib.hid (HB1.out.trans (HB2.out.mono HB1.out.size))⟩
set_option maxRecDepth 20000 in
set_option maxHeartbeats 4000000 in
theorem pric_ok (s : SupD) (x : SA) (w : World) (hT : SupAt w w.heap.size s x) (he : errS s = 0) (n : Nat) (hn : n = s.need.length) :
    Calls Try.prog 24 #[.agg #[.slice x.a s.need.length x.ca, .slice x.b s.order.length x.cb, .int .i64 s.keep, .int .i64 s.room]] w fun e w' => ∃ g : Nat, e = .returned (.tuple #[.slice (some ⟨g, 0, none⟩) (n + 1) (n + 1), .int .i64 0]) ∧ w.heap.size ≤ g ∧ Hid (RowF w' g (leaV s) (n + 1)) ∧ Hid (Below w.heap.size w w') := by
  have hs := sup_ok he
  obtain ⟨w1, gT, HW1, HGT, HB1, HTB⟩ := sup_box 60 s x w hT
  obtain ⟨hT1, r0, r1, r2, r3⟩ := HTB.out w1 (Below.refl _ _)
  have hl : s.need.length ≤ 1000000000 ∧ s.order.length ≤ 1000000000 := by have := hs.n1; have := hs.ol; omega
  have HCK := Lib.hid (chkS_any s x w1 hl hT1)
  rw [he] at HCK
  have HPR := Lib.hid (fun W hb => prices_any s x W hs (HTB.out W hb).1 n hn)
  unfold supV at *
  clear hT hT1 he hs hl hn
  go_enter Try.func24, Try.ntmps24
  go_upto_region 1 with fail
  rw [← HW1.out, ← HGT.out]
  go_wp2_with first
    | (go_at_call 52; with_reducible refine HCK.out.mono ?_; rintro e w2 ⟨rfl, HB2⟩; clear r0 r1 r2 r3; obtain ⟨-, r0, r1, r2, r3⟩ := HTB.out w2 HB2.out)
    | (go_at_call 53; with_reducible refine (HPR.out _ HB2.out).mono ?_; rintro e w3 ⟨g1, g2, rfl, HG, HF1, -, HB3⟩)
  go_ret2
  have h1 := HG.out
  have h2 := HB1.out.size
  have h3 := HB2.out.size
  exact ⟨g1, rfl, by omega, HF1, Lib.hid (HB1.out.trans ((HB2.out.trans (HB3.out.mono HB2.out.size)).mono HB1.out.size))⟩
set_option maxRecDepth 20000 in
set_option maxHeartbeats 4000000 in
theorem sched_ok (s : SupD) (x : SA) (w : World) (hT : SupAt w w.heap.size s x) (he : errS s = 0) (n : Nat) (hn : n = s.need.length) :
    Calls Try.prog 23 #[.agg #[.slice x.a s.need.length x.ca, .slice x.b s.order.length x.cb, .int .i64 s.keep, .int .i64 s.room]] w fun e w' => ∃ (A : Option Addr) (c : Nat), e = .returned (.tuple #[.slice A (schV s n 0).length c, .int .i64 (resV s n 0), .int .i64 0]) ∧ Hid (Sl encInt 1 w' w'.heap.size A (casts (schV s n 0))) ∧ Hid (Below w.heap.size w w') := by
  have hs := sup_ok he
  obtain ⟨w1, gT, HW1, HGT, HB1, HTB⟩ := sup_box 60 s x w hT
  obtain ⟨hT1, r0, r1, r2, r3⟩ := HTB.out w1 (Below.refl _ _)
  have hl : s.need.length ≤ 1000000000 ∧ s.order.length ≤ 1000000000 := by have := hs.n1; have := hs.ol; omega
  have hn1 := hs.n0
  have hn20 := hs.n1
  rw [← hn] at hn1 hn20
  have HCK := Lib.hid (chkS_any s x w1 hl hT1)
  rw [he] at HCK
  have HPR := Lib.hid (fun W hb => prices_any s x W hs (HTB.out W hb).1 n hn)
  have HKT := Lib.hid (show ∀ W, Below w1.heap.size w1 W → Blk W gT 60 (supV s x) from fun W hb => by
    have k : Blk w1 gT 60 (supV s x) := by rw [HW1.out, HGT.out]; exact Blk.new _ _ _
    exact k.below hb k.lt)
  have HFI := Lib.hid (fun W (hb : Below w1.heap.size w1 W) (gI gR g2 i k : Nat) (hik : i < k) (hkn : k ≤ n) (kI : Blk W gI 3 #[.int .i64 (i : Int)]) (kR : Blk W gR 47 #[.slice (some ⟨g2, 0, none⟩) (n + 1) (n + 1)]) (hF : RowF W g2 (resV s n) (n + 1)) => fits_any s x W hs (HTB.out W hb).1 n hn gT gI gR g2 i k hik hkn (HKT.out W hb) kI kR hF)
  have HS := Lib.hid hs
  obtain ⟨R0, hR0⟩ : ∃ v, v = resV s n 0 := ⟨_, rfl⟩
  rw [← hR0]
  have HR0 := Lib.hid hR0
  unfold supV at *
  rw [← hn] at r0 HTB HW1 HCK HPR ⊢
  clear hT hT1 he hs hl hn hR0
  go_enter Try.func23, Try.ntmps23
  go_upto_region 1 with fail
  rw [← HW1.out, ← HGT.out]
  go_upto_region 6 with first
    | (go_at_call 52; with_reducible refine HCK.out.mono ?_; rintro e w2 ⟨rfl, HB2⟩; clear r0 r1 r2 r3; obtain ⟨-, r0, r1, r2, r3⟩ := HTB.out w2 HB2.out)
    | (go_at_call 53; with_reducible refine (HPR.out _ HB2.out).mono ?_; rintro e w3 ⟨g1, g2, rfl, HG, -, HF2, hb3⟩; have HB3 := Lib.hid (HB2.out.trans (hb3.out.mono HB2.out.size)); clear hb3 r0 r1 r2 r3)
  obtain ⟨w4, hw4⟩ : ∃ W, W = w3.alloc (.cells #[.slice (some ⟨g2, 0, none⟩) (n + 1) (n + 1)] 47) := ⟨_, rfl⟩
  obtain ⟨gR, hgR⟩ : ∃ g, g = w3.heap.size := ⟨_, rfl⟩
  rw [← hw4, ← hgR]
  have hb34 : Below w3.heap.size w3 w4 := by rw [hw4]; exact balR (Below.refl _ _) _
  have kR4 : Blk w4 gR 47 #[.slice (some ⟨g2, 0, none⟩) (n + 1) (n + 1)] := by rw [hw4, hgR]; exact Blk.new _ _ _
  have hF4 := HF2.out.below hb34
  have HB4 := Lib.hid (HB3.out.trans (hb34.mono HB3.out.size))
  clear hw4 hgR hb34
  have HKR4 := Lib.hid (show ∀ W, Below w4.heap.size w4 W → Blk W gR 47 #[.slice (some ⟨g2, 0, none⟩) (n + 1) (n + 1)] ∧ RowF W g2 (resV s n) (n + 1) from fun W hb => ⟨kR4.below hb kR4.lt, hF4.below hb⟩)
  clear kR4 hF4 HF2
  obtain ⟨i3, hi3, z0, z1, z2⟩ := info_parts infoInt
  have HI3 := Lib.hid hi3
  clear hi3
  have n0 : (0 : Int) ≤ (n : Int) := by omega
  go_wp2_with fail
  go_loopw [8, 9] (fun v q wr => ∃ (j gI : Nat) (A : Option Addr) (c : Nat), v = .slice A j c ∧ q = .pointer (some ⟨gI, 0, none⟩) ∧ j < n ∧ Hid (SchP s n j) ∧ Hid (Blk wr gI 3 #[.int .i64 (sI s n j : Int)]) ∧ Hid (some gI ≠ (Value.slice A j c).ownBlock) ∧ Hid (w4.heap.size ≤ gI) ∧ Hid (wr.ownsRow w4.heap.size 3 1 (.slice A j c) j ((upF (fun i => (sI s n i : Int)) j).map (Value.int .i64))) ∧ Hid (Below w4.heap.size w4 wr)) (fun v _ _ => n - lenOf v)
  case atStart => exact ⟨0, w4.heap.size, none, 0, rfl, rfl, by omega, Lib.hid (fun j' h => by omega), Lib.hid (Blk.new _ _ _), Lib.hid (by simp [Value.ownBlock]), Lib.hid (Nat.le_refl _), World.ownsRow_nil _ _ _ _, Lib.hid (balR (Below.refl _ _) _)⟩
  case round =>
    obtain ⟨j, gI, A, c, rfl, rfl, hjn, HSP, HKI, HSE, HGE, HO, HB⟩ := hrel
    have hib := sI_bd HS.out hn20 hn1 j HSP.out
    have hse := sch_end HS.out hn20 hn1 HSP.out
    have hnx := nxt_ok HS.out hn20 hib.2
    obtain ⟨i, hi⟩ : ∃ i, i = sI s n j := ⟨_, rfl⟩
    rw [← hi] at hib hse hnx HKI
    obtain ⟨hib1, hib2⟩ := hib
    have HI := Lib.hid hi
    have HSEND := Lib.hid hse
    obtain ⟨nx, hnx0⟩ : ∃ k, k = nxt s n i := ⟨_, rfl⟩
    rw [← hnx0] at hnx
    have HNX0 := Lib.hid hnx0
    obtain ⟨hnx1, hnx2, hnx3, hnx4⟩ := hnx
    have HNX := Lib.hid (And.intro hnx3 hnx4)
    have HW1 := Lib.hid (HB4.out.trans (HB.out.mono HB4.out.size))
    obtain ⟨-, r0, r1, r2, r3⟩ := HTB.out wr HW1.out
    have k0 := HKI.out.cell 0
    simp at k0
    have i0 : (0 : Int) ≤ (i : Int) := by omega
    have i1 : (i : Int) < (n : Int) := by omega
    have hm1 : j + 1 ≤ maxLen := by simp only [maxLen]; omega
    have hm2 : (j + 1) * 8 ≤ 140737488355328 := by omega
    have hsz := HB.out.size
    clear hi hse hnx0 hnx3 hnx4
    go_upto_region 9 with (at_builtin; refine wpList_append_lies _ rfl (.tmp 27) (.tmp 29) 47 rfl w4.heap.size 3 i3 _ 1 8 Try.underlying47 HI3.out z0 z1 z2 rfl (by decide) (.slice A j c) j ((upF (fun i => (sI s n i : Int)) j).map (Value.int .i64)) rfl (HO.out.alloc _) ⟨wr.heap.size, 0, none⟩ 1 1 [.int .i64 (i : Int)] rfl rfl (news_of1 wr 3 #[.int .i64 (i : Int)]) (by intro u hu; simp at hu; subst hu; rfl) (by decide) hm1 hm2 (by simp; omega) (wr.heap.size + 1) (by simp) ?_; intro g9 cap9 w9 hown9 hgrow9 hat9 hlt9; have HB9 := Lib.hid ((HB.out.alloc hsz (.cells #[.int .i64 (i : Int)] 3)).grown hgrow9 (by simp; omega) (fun p hp => (HO.out.lt p hp).1)); have HO9 := Lib.hid hown9; have HKI9 := Lib.hid ((HKI.out.alloc (.cells #[.int .i64 (i : Int)] 3)).grown hgrow9 HSE.out); have HSE9 := Lib.hid (sep_grow (n := j + 1) (c := cap9) HSE.out hat9 (Nat.lt_succ_of_lt HKI.out.lt)); clear hown9 hgrow9 hat9 hlt9)
    clear r0 r1 r2 r3 k0
    have HW9 := Lib.hid (HB4.out.trans (HB9.out.mono HB4.out.size))
    obtain ⟨-, r0, r1, r2, r3⟩ := HTB.out w9 HW9.out
    have HF54 := Lib.hid (HFI.out w9 HW9.out gI gR g2 i n hib2 (Nat.le_refl _) HKI9.out (HKR4.out w9 HB9.out).1 (HKR4.out w9 HB9.out).2)
    obtain ⟨bf, hbf⟩ : ∃ b, b = fitB s n i n := ⟨_, rfl⟩
    rw [← hbf] at HF54
    have HBF := Lib.hid hbf
    clear hbf
    cases bf
    · skip
      have hne : nx ≠ n := by intro e; have := HNX.out.1; rw [e, ← HBF.out] at this; cases this
      have HSPN := Lib.hid (show SchP s n (j + 1) from fun j' h => by
        by_cases e : j' = j
        · subst e; rw [← HI.out]; exact HBF.out.symm
        · exact HSP.out j' (by omega))
      have a1 : IntKind.i64.wrap ((i : Int) + 1) = (i : Int) + 1 := by rw [IntKind.wrap_i64]; omega
      have k9 := HKI9.out.cell 0
      simp at k9
      have hl9 := HKI9.out.lt
      clear HF54
      have HF54 := Lib.hid (show Calls Try.prog 54 #[.int .i64 (n : Int), .pointer (some ⟨gT, 0, none⟩), .pointer (some ⟨gI, 0, none⟩), .pointer (some ⟨gR, 0, none⟩)] w9 fun e w' => e = .returned (.bool false) ∧ Hid (Blk w' gI 3 #[.int .i64 (i : Int)]) ∧ Hid (Below w9.heap.size w9 w') from by
        have h := HFI.out w9 HW9.out gI gR g2 i n hib2 (Nat.le_refl _) HKI9.out (HKR4.out w9 HB9.out).1 (HKR4.out w9 HB9.out).2
        rw [← HBF.out] at h
        exact h.mono (by
          rintro e w' ⟨rfl, hb⟩
          exact ⟨rfl, Lib.hid (HKI9.out.below hb.out HKI9.out.lt), hb⟩))
      go_upto_region 12 with (go_at_call 54; with_reducible refine HF54.out.mono ?_; rintro e w10 ⟨rfl, HKI10, HB10⟩; clear r0 r1 r2 r3 k9; have k9 := HKI10.out.cell 0; simp at k9; have hl10 := HKI10.out.lt)
      go_loopw [11] (fun u wr2 => ∃ k : Nat, i < k ∧ k ≤ nx ∧ u = .int .i64 (k : Int) ∧ Hid (Below w10.heap.size w10 wr2)) (fun u _ => n - (intOf u).toNat)
      case atStart => exact ⟨i + 1, by omega, by omega, by go_num, Below.refl _ _⟩
      case round =>
        obtain ⟨k, hk1, hk2, rfl, HBK⟩ := hrel
        have HBQ := Lib.hid (HB10.out.trans (HBK.out.mono HB10.out.size))
        have HBQ4 := Lib.hid (HB9.out.trans (HBQ.out.mono HB9.out.size))
        have HKQ := Lib.hid (HKI10.out.below HBK.out HKI10.out.lt)
        have HF2 := Lib.hid (HFI.out wr (HB4.out.trans (HBQ4.out.mono HB4.out.size)) gI gR g2 i k hk1 (by omega) HKQ.out (HKR4.out wr HBQ4.out).1 (HKR4.out wr HBQ4.out).2)
        have kk0 : (0 : Int) ≤ (k : Int) := by omega
        clear k9
        by_cases hkx : k < nx
        · skip
          have hf := HNX.out.2 k hk1 hkx
          rw [hf] at HF2
          clear hf
          have a2 : IntKind.i64.wrap ((k : Int) + 1) = (k : Int) + 1 := by rw [IntKind.wrap_i64]; omega
          go_wp2_with (go_at_call 54; with_reducible refine HF2.out.mono ?_; rintro e w11 ⟨rfl, hb11⟩; have HB11 := Lib.hid (HBK.out.trans (hb11.out.mono HBK.out.size)); clear hb11)
          go_roundw
          case rel => exact ⟨k + 1, by omega, by omega, by go_num, HB11⟩
          case measure => simp [intOf]; omega
        · skip
          obtain rfl : k = nx := by omega
          rw [HNX.out.1] at HF2
          have HKP := Lib.hid (show Calls Try.prog 54 #[.int .i64 (k : Int), .pointer (some ⟨gT, 0, none⟩), .pointer (some ⟨gI, 0, none⟩), .pointer (some ⟨gR, 0, none⟩)] wr fun e w' => e = .returned (.bool true) ∧ Hid (Blk w' gI 3 #[.int .i64 (i : Int)]) ∧ Hid (Below w9.heap.size w9 w') from HF2.out.mono (by
            rintro e w' ⟨rfl, hb⟩
            exact ⟨rfl, Lib.hid (HKQ.out.below hb.out HKQ.out.lt), Lib.hid (HBQ.out.trans (hb.out.mono HBQ.out.size))⟩))
          go_wp2_with (go_at_call 54; with_reducible refine HKP.out.mono ?_; rintro e w11 ⟨rfl, HKI11, HB11⟩; have k9 := HKI11.out.cell 0; have f9 := HKI11.out.frozen 0; have hl11 := HKI11.out.lt; simp at k9)
          go_roundw
          case rel =>
            have HO11 := own_belowV HO9.out HB11.out
            have hub : upF (fun i => (sI s n i : Int)) (j + 1) = upF (fun i => (sI s n i : Int)) j ++ [(i : Int)] := by rw [upF_succ, HI.out]
            have hsi : sI s n (j + 1) = k := by show nxt s n (sI s n j) = k; rw [← HI.out, HNX0.out]
            refine ⟨j + 1, w11.heap.size, some ⟨g9, 0, none⟩, cap9, rfl, ?_, by omega, HSPN, Lib.hid ?_, Lib.hid ?_, Lib.hid ?_, Lib.hid ?_, Lib.hid ?_⟩
            · simp
            · rw [hsi]
              have := Blk.new (w11.setCell ⟨gI, 0, none⟩ (.int .i64 (k : Int))) 3 #[.int .i64 (k : Int)]
              simpa using this
            · intro e
              have hlt := (HO11.lt g9 rfl).2
              have e2 : w11.heap.size = g9 := by simpa [Value.ownBlock] using e
              omega
            · have := HB9.out.size; have := HB11.out.size; omega
            · rw [hub, List.map_append]
              exact (own_far HO11 (p := ⟨gI, 0, none⟩) HSE9.out _).alloc _
            · exact ((HB9.out.trans (HB11.out.mono HB9.out.size)).setCell (p := ⟨gI, 0, none⟩) HGE.out _).alloc (by have := HB9.out.size; have := HB11.out.size; simp; omega) _
          case measure => simp [lenOf]; omega
    · skip
      have HSL := Lib.hid (HSEND.out HBF.out.symm)
      have HF3 := Lib.hid (show Calls Try.prog 54 #[.int .i64 (n : Int), .pointer (some ⟨gT, 0, none⟩), .pointer (some ⟨gI, 0, none⟩), .pointer (some ⟨gR, 0, none⟩)] w9 fun e w' => e = .returned (.bool true) ∧ Hid (Blk w' gR 47 #[.slice (some ⟨g2, 0, none⟩) (n + 1) (n + 1)]) ∧ Hid (RowF w' g2 (resV s n) (n + 1)) ∧ Hid (Below w9.heap.size w9 w') from HF54.out.mono (by
        rintro e w' ⟨rfl, hb⟩
        have hq := HKR4.out w' (HB9.out.trans (hb.out.mono HB9.out.size))
        exact ⟨rfl, Lib.hid hq.1, Lib.hid hq.2, hb⟩))
      go_upto_region 17 with (go_at_call 54; with_reducible refine HF3.out.mono ?_; rintro e w10 ⟨rfl, HR10, HF10, HB10⟩; clear r0 r1 r2 r3; have k1 := HR10.out.cell 0; simp at k1; have k2 := HF10.out.cell (i := 0) (by omega))
      rw [← HR0.out] at k2
      have n8 : (0 : Int) < (n : Int) + 1 := by omega
      go_quiet (fail)
      go_wp2_with fail
      go_ret3
      have hl : (schV s n 0).length = j + 1 := by rw [HSL.out, upF_len]
      have HO10 := own_belowV HO9.out HB10.out
      rw [hl]
      refine ⟨some ⟨g9, 0, none⟩, cap9, rfl, Lib.hid ?_, Lib.hid ?_⟩
      · have hcs : casts (schV s n 0) = upF (fun i => (sI s n i : Int)) (j + 1) := by rw [HSL.out]; simp [casts, upF]
        rw [hcs]
        have hub : upF (fun i => (sI s n i : Int)) (j + 1) = upF (fun i => (sI s n i : Int)) j ++ [(i : Int)] := by rw [upF_succ, HI.out]
        have h2 : w10.ownsRow w4.heap.size 3 1 (.slice (some ⟨g9, 0, none⟩) (upF (fun i => (sI s n i : Int)) (j + 1)).length cap9) (upF (fun i => (sI s n i : Int)) (j + 1)).length ((upF (fun i => (sI s n i : Int)) (j + 1)).map (Value.int .i64)) := by
          rw [upF_len, hub, List.map_append]; exact HO10
        exact (own_sl h2).below (below_drewN (Below.refl _ _) _)
      · exact below_drewN (HB1.out.trans ((HW9.out.trans (HB10.out.mono HW9.out.size)).mono HB1.out.size)) _
end Go.Proofs.Ytnbnfadmbggfnaa
