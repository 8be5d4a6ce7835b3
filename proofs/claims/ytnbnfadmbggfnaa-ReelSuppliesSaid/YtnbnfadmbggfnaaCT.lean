/- Contracts of the reference's Schedule, and Schedule and Prices of both sides in one spelling; conditions: a supply in memory. -/
import Derived.Test.YtnbnfadmbggfnaaCS
import Derived.Test.YtnbnfadmbggfnaaA5
set_option linter.unusedSimpArgs false
set_option linter.unusedVariables false
namespace Go.Rl
def schP (s : SupD) : List Int × Int × Int := if errS s = 0 then (casts (schV s s.need.length 0), resV s s.need.length 0, 0) else ([], 0, errS s)
def prcP (s : SupD) : List Int × Int := if errS s = 0 then (upF (leaV s) (s.need.length + 1), 0) else ([], errS s)
theorem schP_ok {s : SupD} (h : errS s = 0) : schP s = (casts (schV s s.need.length 0), resV s s.need.length 0, 0) := by unfold schP; rw [if_pos h]
theorem schP_bad {s : SupD} (h : errS s ≠ 0) : schP s = ([], 0, errS s) := by unfold schP; rw [if_neg h]
theorem prcP_ok {s : SupD} (h : errS s = 0) : prcP s = (upF (leaV s) (s.need.length + 1), 0) := by unfold prcP; rw [if_pos h]
theorem prcP_bad {s : SupD} (h : errS s ≠ 0) : prcP s = ([], errS s) := by unfold prcP; rw [if_neg h]
theorem schP_len (s : SupD) : (schP s).1.length ≤ 20 := by
  by_cases h : errS s = 0
  · have hs := sup_ok h
    have h1 := schV_len hs hs.n1 (s.need.length) 0 (by omega)
    have := hs.n1
    rw [schP_ok h]
    show (casts _).length ≤ 20
    unfold casts
    rw [List.length_map]
    omega
  · rw [schP_bad h]; simp
theorem prcP_len (s : SupD) : (prcP s).1.length ≤ 21 := by
  by_cases h : errS s = 0
  · have hs := sup_ok h
    have := hs.n1
    rw [prcP_ok h]
    show (upF _ _).length ≤ 21
    rw [upF_len]
    omega
  · rw [prcP_bad h]; simp
end Go.Rl
namespace Go.Proofs.Ytnbnfadmbggfnaa
open Go.RowKit Go.Fh Go.Rl
set_option maxRecDepth 20000 in
set_option maxHeartbeats 4000000 in
theorem rsched_bad (s : SupD) (x : SA) (w : World) (hl : s.need.length ≤ 1000000000 ∧ s.order.length ≤ 1000000000) (hT : SupAt w w.heap.size s x) (he : errS s ≠ 0) :
    Calls Try.prog 60 #[.agg #[.slice x.a s.need.length x.ca, .slice x.b s.order.length x.cb, .int .i64 s.keep, .int .i64 s.room]] w fun e w' => e = .returned (.tuple #[.slice none 0 0, .int .i64 0, .int .i64 (errS s)]) ∧ Hid (Below w.heap.size w w') := by
  obtain ⟨w1, gT, HW1, HGT, HB1, HTB⟩ := sup_box 121 s x w hT
  obtain ⟨hT1, r0, r1, r2, r3⟩ := HTB.out w1 (Below.refl _ _)
  have HCK := Lib.hid (rchkS_any s x w1 hl hT1)
  obtain ⟨ck, hck⟩ : ∃ c, c = errS s := ⟨_, rfl⟩
  rw [← hck] at HCK he ⊢
  have ht : (ck != 0) = true := by simpa using he
  unfold supV at *
  clear hT hT1 he hck
  go_enter Try.func60, Try.ntmps60
  go_upto_region 1 with fail
  rw [← HW1.out, ← HGT.out]
  go_wp2_with (go_at_call 59; with_reducible refine HCK.out.mono ?_; rintro e w2 ⟨rfl, HB2⟩)
  go_ret3
  exact ⟨rfl, Lib.hid (HB1.out.trans (HB2.out.mono HB1.out.size))⟩
set_option maxRecDepth 20000 in
set_option maxHeartbeats 4000000 in
theorem rsched_ok (s : SupD) (x : SA) (w : World) (hT : SupAt w w.heap.size s x) (he : errS s = 0) (n : Nat) (hn : n = s.need.length) :
    Calls Try.prog 60 #[.agg #[.slice x.a s.need.length x.ca, .slice x.b s.order.length x.cb, .int .i64 s.keep, .int .i64 s.room]] w fun e w' => ∃ (A : Option Addr) (c : Nat), e = .returned (.tuple #[.slice A (schV s n 0).length c, .int .i64 (resV s n 0), .int .i64 0]) ∧ Hid (Sl encInt 1 w' w'.heap.size A (casts (schV s n 0))) ∧ Hid (Below w.heap.size w w') := by
  have hs := sup_ok he
  obtain ⟨w1, gT, HW1, HGT, HB1, HTB⟩ := sup_box 121 s x w hT
  obtain ⟨hT1, r0, r1, r2, r3⟩ := HTB.out w1 (Below.refl _ _)
  have hl : s.need.length ≤ 1000000000 ∧ s.order.length ≤ 1000000000 := by have := hs.n1; have := hs.ol; omega
  have hn1 := hs.n0
  rw [← hn] at hn1
  have HCK := Lib.hid (rchkS_any s x w1 hl hT1)
  rw [he] at HCK
  have HPR := Lib.hid (fun W hb => rbest_any s x W hs (HTB.out W hb).1 n hn)
  have hsn : schV s n 0 ≠ [] := by
    obtain ⟨r, hr⟩ := schV_head hs (n := n) (by have := hs.n1; omega) (i := 0) (by omega)
    rw [hr]; simp
  obtain ⟨L, hL⟩ : ∃ L, L = schV s n 0 := ⟨_, rfl⟩
  obtain ⟨R, hR⟩ : ∃ L, L = resV s n 0 := ⟨_, rfl⟩
  rw [← hL] at hsn ⊢
  rw [← hR]
  have HL := Lib.hid hL
  have HR := Lib.hid hR
  have HSN := Lib.hid hsn
  unfold supV at *
  clear hT hT1 he hs hl hn hL hR hsn
  go_enter Try.func60, Try.ntmps60
  go_upto_region 1 with fail
  rw [← HW1.out, ← HGT.out]
  go_upto_region 5 with first
    | (go_at_call 59; with_reducible refine HCK.out.mono ?_; rintro e w2 ⟨rfl, HB2⟩; clear r0 r1 r2 r3; obtain ⟨-, r0, r1, r2, r3⟩ := HTB.out w2 HB2.out)
    | (go_at_call 101; with_reducible refine (HPR.out _ HB2.out).mono ?_; rintro e w3 ⟨gL, gC, base, rfl, HQ, HB3⟩)
  obtain ⟨v, q1, -, q3, -, q5, -⟩ := HQ.out.at_ (j := 0) (Nat.zero_le _)
  rw [← HL.out] at q3
  rw [← HR.out] at q5
  obtain ⟨g9, c9, rfl, -, -⟩ := own_blk q3 HSN.out
  have HO := Lib.hid (own_slc q3)
  have n8 : (0 : Int) < (n : Int) + 1 := by omega
  clear q3
  go_quiet (fail)
  go_wp2_with fail
  go_ret3
  exact ⟨_, _, rfl, Lib.hid (HO.out.below (below_drewN (Below.refl _ _) _)), Lib.hid (below_drewN (HB1.out.trans ((HB2.out.trans (HB3.out.mono HB2.out.size)).mono HB1.out.size)) _)⟩
/-- Schedule, both sides in one spelling -/
theorem sched_c (f : Nat) (hf : f = 23 ∨ f = 60) (s : SupD) (x : SA) (w : World) (hl : s.need.length ≤ 1000000000 ∧ s.order.length ≤ 1000000000) (hT : SupAt w w.heap.size s x) (r : List Int × Int × Int) (hr : r = schP s) :
    Calls Try.prog f #[.agg #[.slice x.a s.need.length x.ca, .slice x.b s.order.length x.cb, .int .i64 s.keep, .int .i64 s.room]] w fun e w' => ∃ (A : Option Addr) (c : Nat), e = .returned (.tuple #[.slice A r.1.length c, .int .i64 r.2.1, .int .i64 r.2.2]) ∧ Hid (Sl encInt 1 w' w'.heap.size A r.1) ∧ Hid (Below w.heap.size w w') := by
  by_cases he : errS s = 0
  · rw [schP_ok he] at hr
    subst hr
    dsimp only
    have hc : (casts (schV s s.need.length 0)).length = (schV s s.need.length 0).length := casts_len _
    rw [hc]
    rcases hf with rfl | rfl
    · exact sched_ok s x w hT he _ rfl
    · exact rsched_ok s x w hT he _ rfl
  · rw [schP_bad he] at hr
    subst hr
    dsimp only
    rcases hf with rfl | rfl
    · exact (sched_bad s x w hl hT he).mono (by rintro e w' ⟨rfl, hb⟩; exact ⟨none, 0, rfl, Lib.hid Sl.nil, hb⟩)
    · exact (rsched_bad s x w hl hT he).mono (by rintro e w' ⟨rfl, hb⟩; exact ⟨none, 0, rfl, Lib.hid Sl.nil, hb⟩)
theorem prices_c (f : Nat) (hf : f = 24 ∨ f = 62) (s : SupD) (x : SA) (w : World) (hl : s.need.length ≤ 1000000000 ∧ s.order.length ≤ 1000000000) (hT : SupAt w w.heap.size s x) (r : List Int × Int) (hr : r = prcP s) :
    Calls Try.prog f #[.agg #[.slice x.a s.need.length x.ca, .slice x.b s.order.length x.cb, .int .i64 s.keep, .int .i64 s.room]] w fun e w' => ∃ (A : Option Addr) (c : Nat), e = .returned (.tuple #[.slice A r.1.length c, .int .i64 r.2]) ∧ Hid (Sl encInt 1 w' w'.heap.size A r.1) ∧ Hid (Below w.heap.size w w') := by
  by_cases he : errS s = 0
  · rw [prcP_ok he] at hr
    subst hr
    dsimp only
    have hc : (upF (leaV s) (s.need.length + 1)).length = s.need.length + 1 := upF_len _ _
    rw [hc]
    rcases hf with rfl | rfl
    · exact (pric_ok s x w hT he _ rfl).mono (by rintro e w' ⟨g, rfl, _, hF, hb⟩; exact ⟨_, _, rfl, Lib.hid hF.out.sl, hb⟩)
    · exact (rpric_ok s x w hT he _ rfl).mono (by rintro e w' ⟨g, rfl, _, hF, hb⟩; exact ⟨_, _, rfl, Lib.hid hF.out.sl, hb⟩)
  · rw [prcP_bad he] at hr
    subst hr
    dsimp only
    rcases hf with rfl | rfl
    · exact (pric_bad s x w hl hT he).mono (by rintro e w' ⟨rfl, hb⟩; exact ⟨none, 0, rfl, Lib.hid Sl.nil, hb⟩)
    · exact (rpric_bad s x w hl hT he).mono (by rintro e w' ⟨rfl, hb⟩; exact ⟨none, 0, rfl, Lib.hid Sl.nil, hb⟩)
end Go.Proofs.Ytnbnfadmbggfnaa
