/- Contract of search; conditions: a right title. -/
import Derived.Test.YtokdleanpkkdpaaS3
set_option linter.unusedSimpArgs false
set_option linter.unusedVariables false
namespace Go.Proofs.Ytokdleanpkkdpaa
open Go.RowKit Go.Fh Go.Ed
theorem run_store_fn (P : Program) (w : World) (a : Addr) (m : Mode) (f : Fn) (x y : Array Value) : (store a (.func f x y) m).run P w = stored P w a (.func f x y) m := run_store P w a _ m rfl
theorem run_store_nilFn (P : Program) (w : World) (a : Addr) (m : Mode) : (store a .nilFunc m).run P w = stored P w a .nilFunc m := run_store P w a _ m rfl
attribute [local go_sem] run_store_fn run_store_nilFn
theorem blk_at {w : World} {n : Nat} (h : w.heap.size = n) (ty : TypeId) (cs : Array Value) : Blk (w.alloc (.cells cs ty)) n ty cs := by subst h; exact Blk.new w ty cs
set_option maxRecDepth 20000 in
set_option maxHeartbeats 4000000 in
theorem search_any (t : TitD) (x : TA) (k : Wk) (Bk : Nat) (w : World) (hc : ChkOk t) (hW : WorkAt w Bk t x k) (time : Bool) :
    Calls Try.prog 82 #[.pointer (some ⟨k.g, 0, none⟩), .bool time] w fun e w' => (∃ (ba : Option Addr) (bn bc : Nat) (bp bf : Int), e = .returned (.tuple #[.agg #[.slice ba bn bc, .int .i64 bp, .int .i64 bf], .bool (dfs t (edsR t) time (k.es.length + 1) [] 0 none none).isSome]) ∧
      (∀ ob p f, dfs t (edsR t) time (k.es.length + 1) [] 0 none none = some (ob, p, f) → bp = p ∧ bf = f ∧ 0 < ob.length ∧ bn = ob.length ∧ w'.ownsRow w.heap.size 3 1 (.slice ba bn bc) ob.length (intsV ob)) ∧ (dfs t (edsR t) time (k.es.length + 1) [] 0 none none = none → Value.slice ba bn bc = .slice none 0 0)) ∧ Below w.heap.size w w' := by
  have hlk := hW.hk.lt
  have HW := Lib.hid hW
  have HC := Lib.hid hc
  have hneq := fun w a n c n' c' => run_neq_slice_nil_any (P := Try.prog) w 22 3 a n c n' c' Try.underlying22
  clear hW hc
  obtain ⟨bs, hbs⟩ : ∃ b, b = dfs t (edsR t) time (k.es.length + 1) [] 0 none none := ⟨_, rfl⟩
  rw [← hbs]
  obtain ⟨ss, hss⟩ : ∃ ss, ss = bs.isSome := ⟨_, rfl⟩
  rw [← hss]
  have HBS := Lib.hid hbs
  have HSS := Lib.hid hss
  clear hbs hss
  go_enter Try.func82, Try.ntmps82
  go_upto_region 5 with fail
  generalize hW0 : World.alloc (World.alloc (World.alloc (World.alloc (World.alloc (World.alloc w _) _) _) _) _) _ = W0
  obtain ⟨gR, hgR⟩ : ∃ g, g = w.heap.size + 1 + 1 + 1 + 1 + 1 := ⟨_, rfl⟩
  obtain ⟨gO, hgO⟩ : ∃ g, g = w.heap.size + 1 + 1 + 1 + 1 := ⟨_, rfl⟩
  obtain ⟨gB, hgB⟩ : ∃ g, g = w.heap.size + 1 + 1 + 1 := ⟨_, rfl⟩
  obtain ⟨g4, hg4⟩ : ∃ g, g = w.heap.size + 1 + 1 := ⟨_, rfl⟩
  obtain ⟨gT, hgT⟩ : ∃ g, g = w.heap.size + 1 := ⟨_, rfl⟩
  obtain ⟨gW, hgW⟩ : ∃ g, g = w.heap.size := ⟨_, rfl⟩
  rw [← hgR, ← hgO, ← hgB, ← hgT, ← hgW] at hW0
  rw [← hgR, ← hgO, ← hgB, ← hg4, ← hgT, ← hgW]
  have kW : Blk W0 gW 124 #[.pointer (some ⟨k.g, 0, none⟩)] := by rw [← hW0]; exact ((((blk_at hgW.symm 124 _).alloc _).alloc _).alloc _).alloc _ |>.alloc _
  have kT : Blk W0 gT 4 #[.bool time] := by rw [← hW0]; exact (((blk_at (by simp [hgT]) 4 _).alloc _).alloc _).alloc _ |>.alloc _
  have k4 : Blk W0 g4 151 #[.slice none 0 0, .int .i64 0, .int .i64 0] := by rw [← hW0]; exact ((blk_at (by simp [hg4]) 151 _).alloc _).alloc _ |>.alloc _
  have kB : Blk W0 gB 151 #[.slice none 0 0, .int .i64 0, .int .i64 0] := by rw [← hW0]; exact (blk_at (by simp [hgB]) 151 _).alloc _ |>.alloc _
  have kO : Blk W0 gO 22 #[.slice none 0 0] := by rw [← hW0]; exact (blk_at (by simp [hgO]) 22 _).alloc _
  have kR : Blk W0 gR 189 #[.func (.func 119) #[] #[.pointer (some ⟨gO, 0, none⟩), .pointer (some ⟨gW, 0, none⟩), .pointer (some ⟨gB, 0, none⟩), .pointer (some ⟨gT, 0, none⟩), .pointer (some ⟨gR, 0, none⟩)]] := by rw [← hW0]; exact blk_at (by simp [hgR]) 189 _
  have hb0 : Below w.heap.size w W0 := by
    rw [← hW0]
    exact ((((((Below.refl _ _).alloc (Nat.le_refl _) _).alloc (by simp) _).alloc (by simp; omega) _).alloc (by simp; omega) _).alloc (by simp; omega) _).alloc (by simp; omega) _
  have hs0 : W0.heap.size = w.heap.size + 6 := by rw [← hW0]; simp
  have hx : Bx w W0.heap.size gO gW gB gT gR k.g time W0 := ⟨hb0, by omega, by omega, by omega, by omega, by omega, Nat.le_refl _, kW, kT, kR⟩
  have hsr : SrB W0.heap.size gO gB [] none (.slice none 0 0) (.slice none 0 0) 0 0 W0 := ⟨kO, World.ownsRow_nil _ _ _ _, kB, fun _ => rfl, fun _ _ _ h => by cases h⟩
  have hn1 : 1 ≤ k.es.length := by rw [HW.out.len, edsR_len]; exact HC.out.n0
  have htry := try_any t x k Bk w HC.out HW.out W0.heap.size gO gW gB gT gR time (k.es.length + 1) [] 0 none none _ _ 0 0 W0 (by simp) (by simp) (by simp) (by simp) (by simp) (by simp) (by simp) hx hsr
  rw [← HBS.out] at htry
  have HTRY := Lib.hid (show Calls Try.prog 119 #[.int .i64 0, .agg #[.int .i64 0, .int .i64 0, .int .i64 0, .int .i64 0], .pointer (some ⟨gO, 0, none⟩), .pointer (some ⟨gW, 0, none⟩), .pointer (some ⟨gB, 0, none⟩), .pointer (some ⟨gT, 0, none⟩), .pointer (some ⟨gR, 0, none⟩)] W0 (TryPost W0.heap.size gO gB none [] bs W0) from htry)
  have r6 := kR.cell 0
  have r4 := k4.cell 0
  simp at r6 r4
  have K4 := Lib.hid k4
  have HB0 := Lib.hid hb0
  have HIN := Lib.hid (show (g4 ≠ gO ∧ g4 ≠ gB) ∧ w.heap.size ≤ gO ∧ w.heap.size ≤ gB ∧ w.heap.size ≤ g4 ∧ w.heap.size ≤ W0.heap.size from ⟨⟨by omega, by omega⟩, by omega, by omega, by omega, by omega⟩)
  clear hW0 hgR hgO hgB hg4 hgT hgW kW kT k4 kB kO kR hb0 hs0 hx hsr htry
  go_upto_region 6 with (go_at_call 119; refine HTRY.out.mono ?_; rintro e w2 ⟨⟨rv, rfl⟩, ⟨v, bo, bp, bf, hsr, hlat⟩, hsm⟩; have b0 := hsr.best.cell 0; have b1 := hsr.best.cell 1; have b2 := hsr.best.cell 2; simp at b0 b1 b2; have k42 := hsm.blk K4.out HIN.out.1.1 HIN.out.1.2 (by simp); have f40 := k42.cell 0; have f41 := k42.cell 1; have f42 := k42.cell 2; have z40 := k42.frozen 0; have z41 := k42.frozen 1; have z42 := k42.frozen 2; simp at f40 f41 f42; have HSR := Lib.hid hsr; have HSM := Lib.hid hsm; have K42 := Lib.hid k42; clear hsr hsm k42 hlat)
  clear r6 r4
  have hshape : ∃ (a : Option Addr) (n c : Nat), bo = .slice a n c ∧ (!a.isNone) = bs.isSome ∧ (∀ ob p f, bs = some (ob, p, f) → n = ob.length) := by
    cases hq : bs with
    | none => exact ⟨none, 0, 0, HSR.out.none_ hq, rfl, fun _ _ _ h => by cases h⟩
    | some y =>
      obtain ⟨ob, p, f⟩ := y
      obtain ⟨h1, h2, h3⟩ := HSR.out.some_ ob p f hq
      obtain ⟨g, c, hv, _⟩ := h2.form h1
      exact ⟨_, _, _, hv, rfl, fun ob' p' f' h => by injection h with h; injection h with h _; rw [h]⟩
  obtain ⟨ba, bn, bc, rfl, hbi, hbl⟩ := hshape
  have HBL := Lib.hid hbl
  rw [← HSS.out] at hbi
  clear hbl
  have n1 := HIN.out.1.2
  have n2 := n1.symm
  go_region
  all_goals
    have k1 := K42.out.set_ 0 (.slice ba bn bc)
    have k2 := k1.set_ 1 (.int .i64 bp)
    have k3 := k2.set_ 2 (.int .i64 bf)
    have hbg : w.heap.size ≤ g4 := HIN.out.2.2.2.1
    have hbw2 : Below w.heap.size w w2 := HSM.out.below HB0.out HIN.out.2.2.2.2 HIN.out.2.1 HIN.out.2.2.1 (fun j e => by cases e)
    have hbf : Below w.heap.size w (((w2.setCell ⟨g4, 0, none⟩ (.slice ba bn bc)).setCell ⟨g4, 1, none⟩ (.int .i64 bp)).setCell ⟨g4, 2, none⟩ (.int .i64 bf)).drew := (((hbw2.setCell (p := ⟨g4, 0, none⟩) (by exact hbg) _).setCell (p := ⟨g4, 1, none⟩) (by exact hbg) _).setCell (p := ⟨g4, 2, none⟩) (by exact hbg) _).drew
    have hrow : ∀ {u : Value} {nn bb : Nat} {xs : List Value}, w2.ownsRow bb 3 1 u nn xs → (((w2.setCell ⟨g4, 0, none⟩ (.slice ba bn bc)).setCell ⟨g4, 1, none⟩ (.int .i64 bp)).setCell ⟨g4, 2, none⟩ (.int .i64 bf)).drew.ownsRow bb 3 1 u nn xs := by
      intro u nn bb xs h0
      have h1 := own_far h0 (p := ⟨g4, 0, none⟩) (by exact own_blk_ne h0 K42.out (by decide)) (.slice ba bn bc)
      have h2 := own_far h1 (p := ⟨g4, 1, none⟩) (by exact own_blk_ne h1 k1 (by decide)) (.int .i64 bp)
      exact own_far h2 (p := ⟨g4, 2, none⟩) (by exact own_blk_ne h2 k2 (by decide)) (.int .i64 bf)
    have kf := k3.drew
    generalize hwf : World.drew _ = wf at hbf hrow kf ⊢
    have c0 := kf.cell 0
    have c1 := kf.cell 1
    have c2 := kf.cell 2
    simp at c0 c1 c2
    go_wp2_with fail
    refine bodyPost_ret (v := .tuple #[.agg #[.slice ba bn bc, .int .i64 bp, .int .i64 bf], .bool ss]) ?_ rfl ⟨⟨_, _, _, _, _, rfl, ?_, ?_⟩, hbf⟩
    · simp [results, Try.results82, go_sem, c0, c1, c2]
    · intro ob p f hb
      obtain ⟨h1, h2, h3, h4, _⟩ := HSR.out.some_ ob p f hb
      exact ⟨h3, h4, h1, HBL.out ob p f hb, World.ownsRow.mono (hrow h2) HIN.out.2.2.2.2⟩
    · intro hb
      exact HSR.out.none_ hb
end Go.Proofs.Ytokdleanpkkdpaa
