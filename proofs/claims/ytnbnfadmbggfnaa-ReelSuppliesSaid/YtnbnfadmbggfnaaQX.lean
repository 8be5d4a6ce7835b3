/- The walk of ReelSupplies; conditions: a supply and two lists in memory. -/
import Derived.Test.YtnbnfadmbggfnaaCU
set_option linter.unusedSimpArgs false
set_option linter.unusedVariables false
namespace Go.Proofs.Ytnbnfadmbggfnaa
open Go.RowKit Go.Fh Go.Rl
set_option maxRecDepth 20000 in
set_option maxHeartbeats 4000000 in
theorem reelSupplies_walk (haw : ∀ w, Calls Try.prog 17 #[] w fun e w' => e = .returned (.bool true) ∧ Below w.heap.size w w') (s : SupD) (x : SA) (w : World) (hT : SupAt w w.heap.size s x) (A : Option Addr) (c : Nat) (ws : List Int) (hA : Sl encInt 1 w w.heap.size A ws) (P : Option Addr) (cp : Nat) (ps : List Int) (hP : Sl encInt 1 w w.heap.size P ps) :
    Calls Try.prog 8 #[.agg #[.slice x.a s.need.length x.ca, .slice x.b s.order.length x.cb, .int .i64 s.keep, .int .i64 s.room], .slice A ws.length c, .slice P ps.length cp] w fun e w' => e = .returned (.bool true) ∧ Below w.heap.size w w' := by
  obtain ⟨w1, gT, HW1, HGT, HB1, HTB⟩ := sup_box 60 s x w hT
  obtain ⟨-, r0, r1, r2, r3⟩ := HTB.out w1 (Below.refl _ _)
  have HAW := Lib.hid haw
  have H27 := Lib.hid (show s.need.length ≤ 30 → s.order.length ≤ 30 → ws.length ≤ 40 → ps.length ≤ 40 → Calls Try.prog 27 #[.agg #[.slice x.a s.need.length x.ca, .slice x.b s.order.length x.cb, .int .i64 s.keep, .int .i64 s.room], .slice A ws.length c, .slice P ps.length cp] w1 fun e w' => e = .returned (.bool true) ∧ Hid (Below w1.heap.size w1 w') from fun h1 h2 h3 h4 =>
    supplies_any s x w1 ⟨by omega, by omega⟩ (HTB.out w1 (Below.refl _ _)).1 A c ws.length ws rfl (by omega) ((hA.below HB1.out).mono HB1.out.size) P cp ps.length ps rfl (by omega) ((hP.below HB1.out).mono HB1.out.size))
  obtain ⟨n1, hn1⟩ : ∃ n, n = s.need.length := ⟨_, rfl⟩
  obtain ⟨n2, hn2⟩ : ∃ n, n = s.order.length := ⟨_, rfl⟩
  obtain ⟨n3, hn3⟩ : ∃ n, n = ws.length := ⟨_, rfl⟩
  obtain ⟨n4, hn4⟩ : ∃ n, n = ps.length := ⟨_, rfl⟩
  unfold supV at *
  rw [← hn1] at r0 HW1 H27 ⊢
  rw [← hn2] at r1 HW1 H27 ⊢
  rw [← hn3] at H27 ⊢
  rw [← hn4] at H27 ⊢
  clear hT hA hP haw HTB hn1 hn2 hn3 hn4
  by_cases h1 : (30 : Int) < (n1 : Int)
  · go_enter Try.func8, Try.ntmps8
    go_upto_region 1 with fail
    rw [← HW1.out, ← HGT.out]
    go_wp2_with (go_at_call 17; refine (HAW.out _).mono ?_; rintro e w2 ⟨rfl, HB2⟩)
    go_ret
    exact ⟨rfl, HB1.out.trans (HB2.mono HB1.out.size)⟩
  by_cases h2 : (30 : Int) < (n2 : Int)
  · go_enter Try.func8, Try.ntmps8
    go_upto_region 1 with fail
    rw [← HW1.out, ← HGT.out]
    go_wp2_with (go_at_call 17; refine (HAW.out _).mono ?_; rintro e w2 ⟨rfl, HB2⟩)
    go_ret
    exact ⟨rfl, HB1.out.trans (HB2.mono HB1.out.size)⟩
  by_cases h3 : (40 : Int) < (n3 : Int)
  · go_enter Try.func8, Try.ntmps8
    go_upto_region 1 with fail
    rw [← HW1.out, ← HGT.out]
    go_wp2_with (go_at_call 17; refine (HAW.out _).mono ?_; rintro e w2 ⟨rfl, HB2⟩)
    go_ret
    exact ⟨rfl, HB1.out.trans (HB2.mono HB1.out.size)⟩
  by_cases h4 : (40 : Int) < (n4 : Int)
  · go_enter Try.func8, Try.ntmps8
    go_upto_region 1 with fail
    rw [← HW1.out, ← HGT.out]
    go_wp2_with (go_at_call 17; refine (HAW.out _).mono ?_; rintro e w2 ⟨rfl, HB2⟩)
    go_ret
    exact ⟨rfl, HB1.out.trans (HB2.mono HB1.out.size)⟩
  have H27 := Lib.hid (H27.out (by omega) (by omega) (by omega) (by omega))
  go_enter Try.func8, Try.ntmps8
  go_upto_region 1 with fail
  rw [← HW1.out, ← HGT.out]
  go_wp2_with first
    | (go_at_call 27; with_reducible refine H27.out.mono ?_; rintro e w2 ⟨rfl, HB2⟩)
    | (go_at_call 17; refine (HAW.out _).mono ?_; rintro e w3 ⟨rfl, HB3⟩)
  go_ret
  exact ⟨rfl, HB1.out.trans ((HB2.out.trans (HB3.mono HB2.out.size)).mono HB1.out.size)⟩
end Go.Proofs.Ytnbnfadmbggfnaa
