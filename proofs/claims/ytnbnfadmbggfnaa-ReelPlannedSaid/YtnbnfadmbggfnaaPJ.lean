/- Contract of stored: a store and needs made of numbers; conditions: bytes. Printed by a program. -/
import Derived.Test.YtnbnfadmbggfnaaPI
import Derived.Test.YtnbnfadmbggfnaaCI
import Derived.Test.YtnbnfadmbggfnaaCG
set_option linter.unusedSimpArgs false
set_option linter.unusedVariables false
namespace Go.Rl
open Go.Fh Go.RowKit
def stoR (l : List Nat) (k : Nat) : ReelD := ⟨(k : Int), 700 + 100 * dig l (1 + 3 * k) 2, 100 + dig l (1 + 3 * k + 1) 100, dig l (1 + 3 * k + 1 + 1) 30⟩
def stoN (l : List Nat) : Nat := (1 + dig l 0 7).toNat
def stoL (l : List Nat) : List ReelD := upF (stoR l) (stoN l)
def needP (l : List Nat) : Nat := 1 + 3 * stoN l
def needR (l : List Nat) (k : Nat) : Int × Int := (700 + 100 * dig l (needP l + 1 + 2 * k) 2, 20 + dig l (needP l + 1 + 2 * k + 1) 230)
def needN (l : List Nat) : Nat := (1 + dig l (needP l) 2).toNat
def needL (l : List Nat) : List (Int × Int) := upF (needR l) (needN l)
theorem stoN_bd (l : List Nat) : 1 ≤ stoN l ∧ stoN l ≤ 7 ∧ 1 + dig l 0 7 = (stoN l : Int) := by
  have := dig_bd l 0 (n := 7) (by omega)
  unfold stoN; omega
theorem needN_bd (l : List Nat) : 1 ≤ needN l ∧ needN l ≤ 2 ∧ 1 + dig l (needP l) 2 = (needN l : Int) := by
  have := dig_bd l (needP l) (n := 2) (by omega)
  unfold needN; omega
theorem firstErr_allP {f : Nat → Int} {n : Nat} (h : ∀ i, i < n → f i = 0) : firstErr f n = 0 := by
  induction n with
  | zero => rfl
  | succ n ih => rw [firstErr_go (ih fun i hi => h i (by omega))]; exact h n (by omega)
theorem sto_ok (l : List Nat) : StoOk (stoL l) (needL l) := by
  obtain ⟨n1, n2, _⟩ := stoN_bd l
  obtain ⟨m1, m2, _⟩ := needN_bd l
  have hl : (stoL l).length = stoN l := upF_len _ _
  have hm : (needL l).length = needN l := upF_len _ _
  refine ⟨by omega, by omega, by omega, ?_, fun x hx => ?_⟩
  · unfold erW
    refine firstErr_allP fun k hk => ?_
    have hg : (stoL l)[k] = stoR l k := upF_get _ _ _ _
    have a := dig_bd l (1 + 3 * k) (n := 2) (by omega)
    have b := dig_bd l (1 + 3 * k + 1) (n := 100) (by omega)
    have d := dig_bd l (1 + 3 * k + 1 + 1) (n := 30) (by omega)
    have hr : rightB (stoR l k) = true := by
      unfold rightB rl1 rl2 rl3 stoR
      rw [inB_iff.2 (by dsimp only; omega), inB_iff.2 (by dsimp only; omega), inB_iff.2 (by dsimp only; omega), inB_iff.2 (by dsimp only; omega)]
      rfl
    have hd : decide ((stoR l k).id ∈ ([] : List Int) ++ ((stoL l).take k).map (·.id)) = false := by
      refine decide_eq_false fun h => ?_
      rw [List.nil_append] at h
      obtain ⟨x, hx, he⟩ := List.mem_map.1 h
      obtain ⟨i, hi, rfl⟩ := List.mem_iff_getElem.1 hx
      rw [List.length_take] at hi
      rw [List.getElem_take] at he
      have hgi : (stoL l)[i]'(by omega) = stoR l i := upF_get _ _ _ _
      rw [hgi] at he
      unfold stoR at he
      dsimp only at he
      omega
    rw [errA_at (l := stoL l) (ids := []) (k := k) hk hg.symm hr.symm hd.symm]
    simp
  · obtain ⟨i, hi, rfl⟩ := List.mem_map.1 (show x ∈ (List.range _).map _ from hx)
    have a := dig_bd l (needP l + 1 + 2 * i) (n := 2) (by omega)
    have b := dig_bd l (needP l + 1 + 2 * i + 1) (n := 230) (by omega)
    unfold needR
    dsimp only
    omega
end Go.Rl
namespace Go.Proofs.Ytnbnfadmbggfnaa
open Go.RowKit Go.Fh Go.Rl
theorem own_own_ne {w : World} {b b' : Nat} {e t : TypeId} {size size' n n' : Nat} {v v' : Value} {xs xs' : List Value} (h : w.ownsRow b e size v n xs) (h' : w.ownsRow b' t size' v' n' xs') (hne : e ≠ t) : v.ownBlock = none ∨ v.ownBlock ≠ v'.ownBlock := by
  rcases h.2 with ⟨rfl, _⟩ | ⟨g, cap, cur, rfl, _, hh, _⟩
  · exact .inl rfl
  · exact .inr (own_blk_ne h' (show Blk w g e _ from hh) (fun x => hne x.symm))
theorem infoNeed : (Try.prog.info? 77).map (fun i => (i.zero, i.size, i.bytes)) = some (some (.agg #[.int .i64 0, .int .i64 0]), 2, 16) := by kernel_rfl
set_option maxRecDepth 20000 in
set_option maxHeartbeats 8000000 in
theorem stored_any (A : Option Addr) (c : Nat) (l : List Nat) (w : World) (hl : l.length ≤ 9223372036854775807) (hbd : ∀ x ∈ l, x ≤ 255) (hA : Sl encBn 1 w w.heap.size A l) :
    Calls Try.prog 30 #[.slice A l.length c] w fun e w' => ∃ (As : Option Addr) (cs : Nat) (An : Option Addr) (cn : Nat), e = .returned (.tuple #[.slice As (stoN l) cs, .slice An (needN l) cn]) ∧ Hid (Sl encReel 4 w' w'.heap.size As (stoL l)) ∧ Hid (Sl enc2 2 w' w'.heap.size An (needL l)) ∧ Hid (Below w.heap.size w w') := by
  obtain ⟨g, hg⟩ : ∃ g, g = w.heap.size := ⟨_, rfl⟩
  obtain ⟨w1, hw1⟩ : ∃ W, W = w.alloc (.cells #[.slice A l.length c, .int .i64 0] 74) := ⟨_, rfl⟩
  have hb1 : Below w.heap.size w w1 := by rw [hw1]; exact balR (Below.refl _ _) _
  have HD := Lib.hid (show DigAt w1 w.heap.size A c l g 0 from ⟨by rw [hw1, hg]; exact Blk.new _ _ _, hA.below hb1, by omega, hl, hbd⟩)
  have HB := Lib.hid hb1
  have HW1 := Lib.hid hw1
  have hgw : w.heap.size ≤ g := by omega
  have HGE := Lib.hid hg
  obtain ⟨n1, n2, n3⟩ := stoN_bd l
  obtain ⟨m1, m2, m3⟩ := needN_bd l
  obtain ⟨N, hN⟩ : ∃ n, n = stoN l := ⟨_, rfl⟩
  obtain ⟨M, hM⟩ : ∃ n, n = needN l := ⟨_, rfl⟩
  obtain ⟨d0, hd0⟩ : ∃ d, d = dig l 0 7 := ⟨_, rfl⟩
  obtain ⟨d9, hd9⟩ : ∃ d, d = dig l (needP l) 2 := ⟨_, rfl⟩
  rw [← hN] at n1 n2 n3 ⊢
  rw [← hM] at m1 m2 m3 ⊢
  rw [← hd0] at n3
  rw [← hd9] at m3
  have H7 := Lib.hid (show ∀ W, DigAt W w.heap.size A c l g 0 → Calls Try.prog 31 #[.pointer (some ⟨g, 0, none⟩), .int .i64 7] W fun e w' => e = .returned (.int .i64 d0) ∧ DigAt w' w.heap.size A c l g 1 ∧ W.grownBy w' (some g) from fun W h => by rw [hd0]; exact digit_gm W w.heap.size A c l g 0 7 7 rfl h (by omega) (by omega) (by omega))
  have H9 := Lib.hid (show ∀ W, DigAt W w.heap.size A c l g (1 + 3 * N) → Calls Try.prog 31 #[.pointer (some ⟨g, 0, none⟩), .int .i64 2] W fun e w' => e = .returned (.int .i64 d9) ∧ DigAt w' w.heap.size A c l g (1 + 3 * N + 1) ∧ W.grownBy w' (some g) from fun W h => by rw [hd9]; unfold needP; rw [← hN]; exact digit_gm W w.heap.size A c l g (1 + 3 * N) 2 2 rfl h (by omega) (by omega) (by omega))
  have HN := Lib.hid hN
  have HM := Lib.hid hM
  have wn : wrap64 (1 + d0) = (N : Int) := by unfold wrap64; omega
  have wm : wrap64 (1 + d9) = (M : Int) := by unfold wrap64; omega
  clear hg hw1 hb1 hA hbd hN hM hd0 hd9
  go_enter Try.func30, Try.ntmps30
  go_upto_region 2 with fail
  rw [← HW1.out, ← HGE.out]
  go_wp2_with (go_at_call 31; with_reducible refine (H7.out _ HD.out).mono ?_; rintro e wk ⟨rfl, hd, hg⟩; have HD := Lib.hid hd; have HB := Lib.hid (HB.out.grown hg HB.out.size (fun j e => by injection e with e; omega)); have HG := Lib.hid hg; clear hd hg)
  go_loopw [5, 14] (fun v q wr => ∃ (k : Nat) (A5 : Option Addr) (c5 : Nat), k ≤ N ∧ q = .int .i64 k ∧ v = .slice A5 k c5 ∧ Hid (wr.ownsRow w.heap.size 54 4 (.slice A5 k c5) k ((upF (stoR l) k).flatMap encReel)) ∧ Hid (DigAt wr w.heap.size A c l g (1 + 3 * k)) ∧ Hid (Below w.heap.size w wr)) (fun _ q _ => N - (intOf q).toNat)
  case atStart => exact ⟨0, none, 0, Nat.zero_le _, rfl, rfl, Lib.hid (World.ownsRow_nil _ _ _ _), HD, HB⟩
  case round =>
    clear HD HB
    obtain ⟨k, A5, c5, hk, rfl, rfl, HO, HD, HB⟩ := hrel
    by_cases hlt : k < N
    · obtain ⟨a1, ha1⟩ : ∃ d, d = dig l (1 + 3 * k) 2 := ⟨_, rfl⟩
      obtain ⟨a2, ha2⟩ : ∃ d, d = dig l (1 + 3 * k + 1) 100 := ⟨_, rfl⟩
      obtain ⟨a3, ha3⟩ : ∃ d, d = dig l (1 + 3 * k + 1 + 1) 30 := ⟨_, rfl⟩
      have b1 := dig_bd l (1 + 3 * k) (n := 2) (by omega)
      have b2 := dig_bd l (1 + 3 * k + 1) (n := 100) (by omega)
      have b3 := dig_bd l (1 + 3 * k + 1 + 1) (n := 30) (by omega)
      rw [← ha1] at b1
      rw [← ha2] at b2
      rw [← ha3] at b3
      have HX1 := Lib.hid (show ∀ W, DigAt W w.heap.size A c l g (1 + 3 * k) → Calls Try.prog 31 #[.pointer (some ⟨g, 0, none⟩), .int .i64 2] W fun e w' => e = .returned (.int .i64 a1) ∧ DigAt w' w.heap.size A c l g (1 + 3 * k + 1) ∧ W.grownBy w' (some g) from fun W h => by rw [ha1]; exact digit_gm W w.heap.size A c l g _ 2 2 rfl h (by omega) (by omega) (by omega))
      have HX2 := Lib.hid (show ∀ W, DigAt W w.heap.size A c l g (1 + 3 * k + 1) → Calls Try.prog 31 #[.pointer (some ⟨g, 0, none⟩), .int .i64 100] W fun e w' => e = .returned (.int .i64 a2) ∧ DigAt w' w.heap.size A c l g (1 + 3 * k + 1 + 1) ∧ W.grownBy w' (some g) from fun W h => by rw [ha2]; exact digit_gm W w.heap.size A c l g _ 100 100 rfl h (by omega) (by omega) (by omega))
      have HX3 := Lib.hid (show ∀ W, DigAt W w.heap.size A c l g (1 + 3 * k + 1 + 1) → Calls Try.prog 31 #[.pointer (some ⟨g, 0, none⟩), .int .i64 30] W fun e w' => e = .returned (.int .i64 a3) ∧ DigAt w' w.heap.size A c l g (1 + 3 * k + 1 + 1 + 1) ∧ W.grownBy w' (some g) from fun W h => by rw [ha3]; exact digit_gm W w.heap.size A c l g _ 30 30 rfl h (by omega) (by omega) (by omega))
      have HRR := Lib.hid (show stoR l k = ⟨(k : Int), 700 + 100 * a1, 100 + a2, a3⟩ from by unfold stoR; rw [ha1, ha2, ha3])
      have v1 : wrap64 (100 * a1) = 100 * a1 := by unfold wrap64; omega
      have v2 : wrap64 (700 + 100 * a1) = 700 + 100 * a1 := by unfold wrap64; omega
      have v3 : wrap64 (100 + a2) = 100 + a2 := by unfold wrap64; omega
      obtain ⟨i3, hi3, z0, z1, z2⟩ := info_parts infoReel
      have HI3 := Lib.hid hi3
      have hmx : k + 1 ≤ maxLen := by simp only [maxLen]; omega
      have hmy : (k + 1) * 32 ≤ 140737488355328 := by omega
      clear hi3 ha1 ha2 ha3
      go_wp2_with fail
      go_at_call 31
      with_reducible refine (HX1.out _ HD.out).mono ?_
      have HD0 := Lib.hid HD.out.k
      rintro e wk ⟨rfl, hd, hg⟩
      have HD := Lib.hid hd
      have HB := Lib.hid (HB.out.grown hg HB.out.size (fun j e => by injection e with e; omega))
      have HO := Lib.hid (own_kept2 HO.out hg (.inr (fun e2 => own_blk_ne HO.out HD0.out (by decide) e2.symm)))
      clear HD0 hd hg
      go_wp2_with fail
      go_at_call 31
      with_reducible refine (HX2.out _ HD.out).mono ?_
      have HD0 := Lib.hid HD.out.k
      rintro e wk ⟨rfl, hd, hg⟩
      have HD := Lib.hid hd
      have HB := Lib.hid (HB.out.grown hg HB.out.size (fun j e => by injection e with e; omega))
      have HO := Lib.hid (own_kept2 HO.out hg (.inr (fun e2 => own_blk_ne HO.out HD0.out (by decide) e2.symm)))
      clear HD0 hd hg
      go_wp2_with fail
      go_at_call 31
      with_reducible refine (HX3.out _ HD.out).mono ?_
      have HD0 := Lib.hid HD.out.k
      rintro e wk ⟨rfl, hd, hg⟩
      have HD := Lib.hid hd
      have HB := Lib.hid (HB.out.grown hg HB.out.size (fun j e => by injection e with e; omega))
      have HO := Lib.hid (own_kept2 HO.out hg (.inr (fun e2 => own_blk_ne HO.out HD0.out (by decide) e2.symm)))
      clear HD0 hd hg
      go_wp2_with (at_builtin; have hsz := HB.out.size; refine wpList_append_lies _ rfl (.tmp 17) (.tmp 29) 39 rfl w.heap.size 54 i3 _ 4 32 Try.underlying39 HI3.out z0 z1 z2 rfl (by decide) (.slice A5 k c5) k ((upF (stoR l) k).flatMap encReel) rfl (own_belowV HO.out (balR (Below.refl _ _) _)) ⟨wk.heap.size, 0, none⟩ 1 1 [.int .i64 (k : Int), .int .i64 (700 + 100 * a1), .int .i64 (100 + a2), .int .i64 a3] rfl rfl (news_of1 wk 54 #[.int .i64 (k : Int), .int .i64 (700 + 100 * a1), .int .i64 (100 + a2), .int .i64 a3]) (by intro u hu; simp at hu; rcases hu with rfl | rfl | rfl | rfl <;> rfl) (by decide) hmx hmy (by simp; omega) (wk.heap.size + 1) (by simp) ?_; intro g6 cap6 w6 hown6 hgrow6 hat6 hlt6; have HG6 := Lib.hid hgrow6; have HO6 := Lib.hid hown6; clear hown6 hgrow6 hat6 hlt6)
      go_roundw
      case rel =>
        have hlo : ∀ p, (Value.slice A5 k c5).ownBlock = some p → w.heap.size ≤ p := fun p hp => (HO.out.lt p hp).1
        have hne : (Value.slice A5 k c5).ownBlock ≠ some g := fun e => own_blk_ne HO.out HD.out.k (by decide) e.symm
        refine ⟨k + 1, some ⟨g6, 0, none⟩, cap6, by omega, by go_num, rfl, Lib.hid ?_, Lib.hid ?_, Lib.hid ((balR HB.out _).grown HG6.out (balR HB.out _).size fun p hp => hlo p hp)⟩
        · have h := HO6.out
          rw [upF_succ, List.flatMap_append, List.flatMap_singleton, HRR.out]
          exact h
        · rw [show 1 + 3 * (k + 1) = 1 + 3 * k + 1 + 1 + 1 by omega]
          exact (HD.out.gr (World.grownBy_alloc _ _ none) (by simp) (by simp)).gr HG6.out hne (fun j e => hlo j e)
      case measure => simp [intOf]; omega
    · obtain rfl : N = k := by omega
      clear hk hlt H7
      go_wp2_with fail
      go_at_call 31
      with_reducible refine (H9.out _ HD.out).mono ?_
      have HD0 := Lib.hid HD.out.k
      rintro e wk ⟨rfl, hd, hg⟩
      have HD := Lib.hid hd
      have HB := Lib.hid (HB.out.grown hg HB.out.size (fun j e => by injection e with e; omega))
      have HO := Lib.hid (own_kept2 HO.out hg (.inr (fun e2 => own_blk_ne HO.out HD0.out (by decide) e2.symm)))
      clear HD0 hd hg
      go_wp2_with fail
      go_loopw [7, 35] (fun v q wr => ∃ (k : Nat) (A7 : Option Addr) (c7 : Nat), k ≤ M ∧ q = .int .i64 k ∧ v = .slice A7 k c7 ∧ Hid (wr.ownsRow w.heap.size 77 2 (.slice A7 k c7) k ((upF (needR l) k).flatMap enc2)) ∧ Hid (wr.ownsRow w.heap.size 54 4 (.slice A5 N c5) N ((upF (stoR l) N).flatMap encReel)) ∧ Hid (DigAt wr w.heap.size A c l g (1 + 3 * N + 1 + 2 * k)) ∧ Hid (Below w.heap.size w wr)) (fun _ q _ => M - (intOf q).toNat)
      case atStart => exact ⟨0, none, 0, Nat.zero_le _, rfl, rfl, Lib.hid (World.ownsRow_nil _ _ _ _), HO, HD, HB⟩
      case round =>
        clear HD HB HO
        obtain ⟨k, A7, c7, hk, rfl, rfl, HP, HO, HD, HB⟩ := hrel
        by_cases hlt : k < M
        · obtain ⟨a1, ha1⟩ : ∃ d, d = dig l (1 + 3 * N + 1 + 2 * k) 2 := ⟨_, rfl⟩
          obtain ⟨a2, ha2⟩ : ∃ d, d = dig l (1 + 3 * N + 1 + 2 * k + 1) 230 := ⟨_, rfl⟩
          have b1 := dig_bd l (1 + 3 * N + 1 + 2 * k) (n := 2) (by omega)
          have b2 := dig_bd l (1 + 3 * N + 1 + 2 * k + 1) (n := 230) (by omega)
          rw [← ha1] at b1
          rw [← ha2] at b2
          have HX1 := Lib.hid (show ∀ W, DigAt W w.heap.size A c l g (1 + 3 * N + 1 + 2 * k) → Calls Try.prog 31 #[.pointer (some ⟨g, 0, none⟩), .int .i64 2] W fun e w' => e = .returned (.int .i64 a1) ∧ DigAt w' w.heap.size A c l g (1 + 3 * N + 1 + 2 * k + 1) ∧ W.grownBy w' (some g) from fun W h => by rw [ha1]; exact digit_gm W w.heap.size A c l g _ 2 2 rfl h (by omega) (by omega) (by omega))
          have HX2 := Lib.hid (show ∀ W, DigAt W w.heap.size A c l g (1 + 3 * N + 1 + 2 * k + 1) → Calls Try.prog 31 #[.pointer (some ⟨g, 0, none⟩), .int .i64 230] W fun e w' => e = .returned (.int .i64 a2) ∧ DigAt w' w.heap.size A c l g (1 + 3 * N + 1 + 2 * k + 1 + 1) ∧ W.grownBy w' (some g) from fun W h => by rw [ha2]; exact digit_gm W w.heap.size A c l g _ 230 230 rfl h (by omega) (by omega) (by omega))
          have HRR := Lib.hid (show needR l k = (700 + 100 * a1, 20 + a2) from by unfold needR needP; rw [← HN.out, ha1, ha2])
          have v1 : wrap64 (100 * a1) = 100 * a1 := by unfold wrap64; omega
          have v2 : wrap64 (700 + 100 * a1) = 700 + 100 * a1 := by unfold wrap64; omega
          have v3 : wrap64 (20 + a2) = 20 + a2 := by unfold wrap64; omega
          obtain ⟨i3, hi3, z0, z1, z2⟩ := info_parts infoNeed
          have HI3 := Lib.hid hi3
          have hmx : k + 1 ≤ maxLen := by simp only [maxLen]; omega
          have hmy : (k + 1) * 16 ≤ 140737488355328 := by omega
          clear hi3 ha1 ha2
          go_wp2_with fail
          go_at_call 31
          with_reducible refine (HX1.out _ HD.out).mono ?_
          have HD0 := Lib.hid HD.out.k
          rintro e wk ⟨rfl, hd, hg⟩
          have HD := Lib.hid hd
          have HB := Lib.hid (HB.out.grown hg HB.out.size (fun j e => by injection e with e; omega))
          have HO := Lib.hid (own_kept2 HO.out hg (.inr (fun e2 => own_blk_ne HO.out HD0.out (by decide) e2.symm)))
          have HG := Lib.hid hg
          clear hd hg
          have HP := Lib.hid (own_kept2 HP.out HG.out (.inr (fun e2 => own_blk_ne HP.out HD0.out (by decide) e2.symm)))
          clear HD0 HG
          go_wp2_with fail
          go_at_call 31
          with_reducible refine (HX2.out _ HD.out).mono ?_
          have HD0 := Lib.hid HD.out.k
          rintro e wk ⟨rfl, hd, hg⟩
          have HD := Lib.hid hd
          have HB := Lib.hid (HB.out.grown hg HB.out.size (fun j e => by injection e with e; omega))
          have HO := Lib.hid (own_kept2 HO.out hg (.inr (fun e2 => own_blk_ne HO.out HD0.out (by decide) e2.symm)))
          have HG := Lib.hid hg
          clear hd hg
          have HP := Lib.hid (own_kept2 HP.out HG.out (.inr (fun e2 => own_blk_ne HP.out HD0.out (by decide) e2.symm)))
          clear HD0 HG
          go_wp2_with (at_builtin; have hsz := HB.out.size; refine wpList_append_lies _ rfl (.tmp 37) (.tmp 46) 69 rfl w.heap.size 77 i3 _ 2 16 Try.underlying69 HI3.out z0 z1 z2 rfl (by decide) (.slice A7 k c7) k ((upF (needR l) k).flatMap enc2) rfl (own_belowV HP.out (balR (Below.refl _ _) _)) ⟨wk.heap.size, 0, none⟩ 1 1 [.int .i64 (700 + 100 * a1), .int .i64 (20 + a2)] rfl rfl (news_of1 wk 77 #[.int .i64 (700 + 100 * a1), .int .i64 (20 + a2)]) (by intro u hu; simp at hu; rcases hu with rfl | rfl <;> rfl) (by decide) hmx hmy (by simp; omega) (wk.heap.size + 1) (by simp) ?_; intro g6 cap6 w6 hown6 hgrow6 hat6 hlt6; have HG6 := Lib.hid hgrow6; have HO6 := Lib.hid hown6; clear hown6 hgrow6 hat6 hlt6)
          go_roundw
          case rel =>
            have hlo : ∀ p, (Value.slice A7 k c7).ownBlock = some p → w.heap.size ≤ p := fun p hp => (HP.out.lt p hp).1
            have hne : (Value.slice A7 k c7).ownBlock ≠ some g := fun e => own_blk_ne HP.out HD.out.k (by decide) e.symm
            have hne2 := own_own_ne HO.out HP.out (by decide)
            refine ⟨k + 1, some ⟨g6, 0, none⟩, cap6, by omega, by go_num, rfl, Lib.hid ?_, Lib.hid ?_, Lib.hid ?_, Lib.hid ((balR HB.out _).grown HG6.out (balR HB.out _).size fun p hp => hlo p hp)⟩
            · have h := HO6.out
              rw [upF_succ, List.flatMap_append, List.flatMap_singleton, HRR.out]
              exact h
            · exact own_kept2 (own_belowV HO.out (balR (Below.refl _ _) _)) HG6.out hne2
            · rw [show 1 + 3 * N + 1 + 2 * (k + 1) = 1 + 3 * N + 1 + 2 * k + 1 + 1 by omega]
              exact (HD.out.gr (World.grownBy_alloc _ _ none) (by simp) (by simp)).gr HG6.out hne (fun j e => hlo j e)
          case measure => simp [intOf]; omega
        · obtain rfl : M = k := by omega
          clear hk hlt H9
          go_wp2_with fail
          go_ret2
          refine ⟨A5, c5, A7, c7, rfl, Lib.hid ?_, Lib.hid ?_, HB⟩
          · have hn : (stoL l).length = N := by rw [HN.out]; exact upF_len _ _
            have he : upF (stoR l) N = stoL l := by rw [HN.out]; rfl
            refine Sl.of_own (e := 54) (base := w.heap.size) (c := c5) (fun _ => rfl) ?_
            rw [hn, ← he]
            exact HO.out
          · have hn : (needL l).length = M := by rw [HM.out]; exact upF_len _ _
            have he : upF (needR l) M = needL l := by rw [HM.out]; rfl
            refine Sl.of_own (e := 77) (base := w.heap.size) (c := c7) (fun _ => rfl) ?_
            rw [hn, ← he]
            exact HP.out
end Go.Proofs.Ytnbnfadmbggfnaa
