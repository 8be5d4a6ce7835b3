/- The search at a whole order; conditions: a right title. -/
import Derived.Test.YtokdleanpkkdpaaS1
set_option linter.unusedSimpArgs false
set_option linter.unusedVariables false
namespace Go.Proofs.Ytokdleanpkkdpaa
open Go.RowKit Go.Fh Go.Ed
/-- the boxes of the search -/
structure Bx (wk : World) (B gO gW gB gT gR : Nat) (g : Nat) (time : Bool) (W : World) : Prop where
  low : Below wk.heap.size wk W
  b1 : wk.heap.size ≤ gO ∧ gO < B
  b2 : wk.heap.size ≤ gW ∧ gW < B
  b3 : wk.heap.size ≤ gB ∧ gB < B
  b4 : wk.heap.size ≤ gT ∧ gT < B
  b5 : wk.heap.size ≤ gR ∧ gR < B
  sz : B ≤ W.heap.size
  kW : Blk W gW 124 #[.pointer (some ⟨g, 0, none⟩)]
  kT : Blk W gT 4 #[.bool time]
  kR : Blk W gR 189 #[.func (.func 119) #[] #[.pointer (some ⟨gO, 0, none⟩), .pointer (some ⟨gW, 0, none⟩), .pointer (some ⟨gB, 0, none⟩), .pointer (some ⟨gT, 0, none⟩), .pointer (some ⟨gR, 0, none⟩)]]
theorem Bx.same {wk : World} {B gO gW gB gT gR g : Nat} {r : Option Nat} {time : Bool} {W W' : World} (h : Bx wk B gO gW gB gT gR g time W) (hs : Same gO gB r W W') (n : gW ≠ gO ∧ gW ≠ gB ∧ gT ≠ gO ∧ gT ≠ gB ∧ gR ≠ gO ∧ gR ≠ gB) (hr : ∀ j, r = some j → B ≤ j) : Bx wk B gO gW gB gT gR g time W' := by
  have hr2 : ∀ j, j < B → some j ≠ r := fun j hj e => by have := hr j e.symm; omega
  have hB := h.sz
  exact ⟨hs.below h.low (by have := h.b1; omega) h.b1.1 h.b3.1 (fun j e => by have := hr j e; have := h.b1; omega), h.b1, h.b2, h.b3, h.b4, h.b5, Nat.le_trans h.sz hs.size, hs.blk h.kW n.1 n.2.1 (hr2 _ h.b2.2), hs.blk h.kT n.2.2.1 n.2.2.2.1 (hr2 _ h.b4.2), hs.blk h.kR n.2.2.2.2.1 n.2.2.2.2.2 (hr2 _ h.b5.2)⟩
theorem Bx.ne {wk : World} {B gO gW gB gT gR g : Nat} {time : Bool} {W : World} (h : Bx wk B gO gW gB gT gR g time W) {o : List Nat} {b : Best} {v bo : Value} {bp bf : Int} (s : SrB B gO gB o b v bo bp bf W) : (gW ≠ gO ∧ gW ≠ gB ∧ gT ≠ gO ∧ gT ≠ gB ∧ gR ≠ gO ∧ gR ≠ gB) ∧ gO ≠ gB :=
  ⟨⟨Blk.ne_ h.kW s.box (by decide), Blk.ne_ h.kW s.best (by decide), Blk.ne_ h.kT s.box (by decide), Blk.ne_ h.kT s.best (by decide), Blk.ne_ h.kR s.box (by decide), Blk.ne_ h.kR s.best (by decide)⟩, Blk.ne_ s.box s.best (by decide)⟩
theorem _root_.Go.Ed.SrB.drewN {B gO gB : Nat} {o : List Nat} {b : Best} {v bo : Value} {bp bf : Int} {W : World} (h : SrB B gO gB o b v bo bp bf W) (n : Nat) : SrB B gO gB o b v bo bp bf (W.drewN n) := ⟨h.box, h.row, h.best, h.none_, h.some_⟩
theorem _root_.Go.Ed.Same.drewN {gO gB : Nat} {r : Option Nat} {A C : World} (h : Same gO gB r A C) (n : Nat) : Same gO gB r A (C.drewN n) := ⟨h.os, h.tape, h.output, h.size, h.block⟩
def argsT (p : Int) (s : SloD) (gO gW gB gT gR : Nat) : Array Value := #[.int .i64 p, slV s, .pointer (some ⟨gO, 0, none⟩), .pointer (some ⟨gW, 0, none⟩), .pointer (some ⟨gB, 0, none⟩), .pointer (some ⟨gT, 0, none⟩), .pointer (some ⟨gR, 0, none⟩)]
def TryPost (B gO gB : Nat) (r : Option Nat) (o : List Nat) (b : Best) (W : World) (e : Ending) (W' : World) : Prop :=
  (∃ r, e = .returned r) ∧ (∃ v bo bp bf, SrB B gO gB o b v bo bp bf W' ∧ Lat r W v.ownBlock) ∧ Same gO gB r W W'
set_option maxRecDepth 20000 in
set_option maxHeartbeats 4000000 in
theorem try_full (t : TitD) (x : TA) (k : Wk) (Bk : Nat) (wk : World) (hW : WorkAt wk Bk t x k) (B gO gW gB gT gR : Nat) (time : Bool) (o : List Nat) (p : Int) (s : SloD) (b : Best) (v bo : Value) (bp bf : Int) (W : World)
    (hx : Bx wk B gO gW gB gT gR k.g time W) (hs : SrB B gO gB o b v bo bp bf W) (ho : o.length = k.es.length) (hpos : 0 < o.length) (hle : o.length ≤ 1000) :
    Calls Try.prog 119 (argsT p s gO gW gB gT gR) W (TryPost B gO gB v.ownBlock o (if better time b p s.fin then some (o, p, s.fin) else b) W) := by
  obtain ⟨⟨n1, n2, n3, n4, n5, n6⟩, n7⟩ := hx.ne hs
  obtain ⟨gV, cV, hv, hgV, _⟩ := hs.row.form hpos
  subst hv
  have hnil := fun w n c n' c' a => Lib.run_eql_slice_nil (P := Try.prog) w 22 3 a n c n' c' Try.underlying22
  obtain ⟨W1, hW1⟩ : ∃ X, X = W.alloc (.cells #[.int .i64 s.edition, .int .i64 s.plates, .int .i64 s.beg, .int .i64 s.fin] 63) := ⟨_, rfl⟩
  obtain ⟨gL, hgL⟩ : ∃ g, g = W.heap.size := ⟨_, rfl⟩
  have kL : Blk W1 gL 63 #[.int .i64 s.edition, .int .i64 s.plates, .int .i64 s.beg, .int .i64 s.fin] := by rw [hW1, hgL]; exact Blk.new _ _ _
  have hb1 : Below W.heap.size W W1 := by rw [hW1]; exact (Below.refl _ _).alloc (Nat.le_refl _) _
  have hs1 := hs.below hb1
  have hx1 := hx.same (r := none) (Same.of_below hb1) ⟨n1, n2, n3, n4, n5, n6⟩ (fun j e => by cases e)
  have hsz1 := hx1.sz
  have hw1 := hW.below hx1.low
  have y2 := hs1.box.cell 0
  have y3 := hx1.kW.cell 0
  have y5 := hx1.kT.cell 0
  have y8 := hw1.hk.cell 8
  have l3 := kL.cell 3
  have b0 := hs1.best.cell 0
  have b1 := hs1.best.cell 1
  have b2 := hs1.best.cell 2
  simp [workV] at y2 y3 y5 y8 l3 b0 b1 b2
  have t18 : ((o.length : Int) == (k.es.length : Int)) = true := by simp [ho]
  have hlL := kL.lt
  have hlO := hs1.box.lt
  have hlB := hs1.best.lt
  have HS1 := Lib.hid hs1
  have HX1 := Lib.hid hx1
  have HS := Lib.hid hs
  have KL := Lib.hid kL
  have HW1 := Lib.hid hW1
  have HGL := Lib.hid hgL
  have HB1 := Lib.hid hb1
  have HSM := Lib.hid (Same.of_below (gO := gO) (gB := gB) (r := some gV) hb1)
  have HW := Lib.hid hW
  have hbz := hx.sz
  clear hs1 hx1 hs hx kL hW1 hgL hb1 hw1 hW ho
  unfold argsT slV
  by_cases hbet : better time b p s.fin = true
  · rw [if_pos hbet]
    have hlm : (o.map fun (e : Nat) => (e : Int)).length = o.length := by simp
    have hcl : ∀ W', Below W1.heap.size W1 W' → Calls Try.prog 40 #[.slice (some ⟨gV, 0, none⟩) o.length cV] W' fun e w' => ∃ A' c', e = .returned (.slice A' o.length c') ∧ w'.ownsRow W'.heap.size 3 1 (.slice A' o.length c') o.length (intsV o) ∧ Below W'.heap.size W' w' := by
      intro W' hb
      have h0 := cloneOwn_any (some ⟨gV, 0, none⟩) cV (o.map fun (e : Nat) => (e : Int)) W' (by rw [hlm]; omega) (own_sl (B := B) (c := cV) (by rw [hlm]; exact (HS1.out.below hb).row))
      rw [hlm] at h0
      exact h0
    have HCL := Lib.hid hcl
    have SB := Lib.hid (show ∀ W', Below W1.heap.size W1 W' → (W'.cell? ⟨gO, 0, none⟩ = some (.slice (some ⟨gV, 0, none⟩) o.length cV) ∧ W'.cell? ⟨gL, 3, none⟩ = some (.int .i64 s.fin)) from fun W' hb => ⟨by rw [(HS1.out.below hb).box.cell]; simp, by rw [(KL.out.below hb hlL).cell]; simp⟩)
    have hne : gL ≠ gB := by rw [HGL.out]; have := HS.out.best.lt; omega
    have hge : B ≤ gL := by rw [HGL.out]; exact hbz
    clear hcl hlm
    cases b with
    | none =>
      have hbo := HS1.out.none_ rfl
      subst hbo
      go_enter Try.func119, Try.ntmps119
      go_upto_region 1 with fail
      rw [← HW1.out, ← HGL.out]
      go_step3
      go_wp2_with fail
      go_quiet (fail)
      go_upto_region 3 with fail
      clear y2 l3 b0 b1 b2 y3 y5 y8
      go_region_held3 (fun w' => w'.cell? ⟨gO, 0, none⟩ = some (.slice (some ⟨gV, 0, none⟩) o.length cV) ∧ w'.cell? ⟨gL, 3, none⟩ = some (.int .i64 s.fin))
        (first | exact HST _ _ _ | exact SB.out _ (by repeat (first | exact Below.refl _ _ | exact HB5.out | refine Below.drew ?_ | refine below_drewN ?_ _)))
        ((go_at_call 40; refine (HCL.out _ (by repeat (first | exact Below.refl _ _ | exact HB5.out | refine Below.drew ?_ | refine below_drewN ?_ _))).mono ?_; rintro e w5 ⟨A', c', rfl, hown, hb5⟩; have HB5 := Lib.hid (Below.trans (show Below W1.heap.size W1 _ from (by repeat (first | exact Below.refl _ _ | exact HB5.out | refine Below.drew ?_ | refine below_drewN ?_ _))) hb5); have HO5 := Lib.hid (World.ownsRow.mono hown (show W1.heap.size ≤ _ from Nat.le_refl _)); have s5 := HS1.out.below HB5.out; have q0 := s5.best.cell 0; have q1 := s5.best.cell 1; have q2 := s5.best.cell 2; simp at q0 q1 q2; have z0 := s5.best.frozen 0; have z1 := s5.best.frozen 1; have z2 := s5.best.frozen 2; have HST : ∀ u0 u1 u2, (((w5.setCell ⟨gB, 0, none⟩ u0).setCell ⟨gB, 1, none⟩ u1).setCell ⟨gB, 2, none⟩ u2).cell? ⟨gO, 0, none⟩ = some (.slice (some ⟨gV, 0, none⟩) o.length cV) ∧ (((w5.setCell ⟨gB, 0, none⟩ u0).setCell ⟨gB, 1, none⟩ u1).setCell ⟨gB, 2, none⟩ u2).cell? ⟨gL, 3, none⟩ = some (.int .i64 s.fin) := (fun u0 u1 u2 => ⟨by rw [(((s5.box.far (p := ⟨gB, 0, none⟩) (by exact n7) u0).far (p := ⟨gB, 1, none⟩) (by exact n7) u1).far (p := ⟨gB, 2, none⟩) (by exact n7) u2).cell]; simp, by rw [((((KL.out.below HB5.out hlL).far (p := ⟨gB, 0, none⟩) (by exact hne) u0).far (p := ⟨gB, 1, none⟩) (by exact hne) u1).far (p := ⟨gB, 2, none⟩) (by exact hne) u2).cell]; simp⟩); have S5 := Lib.hid s5; clear s5 hown hb5))
      all_goals
        clear q0 q1 q2 z0 z1 z2 HST
        go_wp2_with fail
        go_end0
        have hbn : ∀ {u : Value} {nn bb : Nat} {xs : List Value} {X : World} {cs : Array Value}, X.ownsRow bb 3 1 u nn xs → Blk X gB 151 cs → some gB ≠ u.ownBlock := fun h1 h2 => own_blk_ne h1 h2 (by decide)
        have k1 := S5.out.best.set_ 0 (.slice A' o.length c')
        have k2 := k1.set_ 1 (.int .i64 p)
        have k3 := k2.set_ 2 (.int .i64 s.fin)
        have hrow : ∀ {u : Value} {nn bb : Nat} {xs : List Value}, w5.ownsRow bb 3 1 u nn xs → (((w5.setCell ⟨gB, 0, none⟩ (.slice A' o.length c')).setCell ⟨gB, 1, none⟩ (.int .i64 p)).setCell ⟨gB, 2, none⟩ (.int .i64 s.fin)).ownsRow bb 3 1 u nn xs := by
          intro u nn bb xs h0
          have h1 := own_far h0 (p := ⟨gB, 0, none⟩) (by exact hbn h0 S5.out.best) (.slice A' o.length c')
          have h2 := own_far h1 (p := ⟨gB, 1, none⟩) (by exact hbn h1 k1) (.int .i64 p)
          exact own_far h2 (p := ⟨gB, 2, none⟩) (by exact hbn h2 k2) (.int .i64 s.fin)
        refine ⟨⟨_, rfl⟩, ⟨_, .slice A' o.length c', p, s.fin, ⟨((S5.out.box.far (by exact n7) _).far (by exact n7) _).far (by exact n7) _, hrow S5.out.row, by simpa using k3, fun h => by (simp at h), fun ob p' f' h => ?_⟩, .inl rfl⟩, ?_⟩
        · injection h with h
          injection h with h1 h2
          injection h2 with h2 h3
          subst h1 h2 h3
          refine ⟨hpos, World.ownsRow.mono (hrow HO5.out) hsz1, rfl, rfl, fun e => ?_⟩
          have h1 := (HO5.out.lt gV e.symm).1
          have h2 := (HS1.out.row.lt gV rfl).2
          omega
        · refine ((HSM.out.trans (Same.of_below HB5.out) (.inl rfl)).trans ?_ (.inl rfl))
          refine ⟨rfl, rfl, rfl, by simp [World.setCell], fun j hj h1 h2 _ => ?_⟩
          rw [Below.heap_setCell _ _ _ j (by exact h2), Below.heap_setCell _ _ _ j (by exact h2), Below.heap_setCell _ _ _ j (by exact h2)]
    | some q =>
      obtain ⟨ob, p0, f0⟩ := q
      obtain ⟨hop, hor, rfl, rfl, hsep⟩ := HS1.out.some_ ob p0 f0 rfl
      obtain ⟨gq, cq, hbq, _, _⟩ := hor.form hop
      subst hbq
      clear hor hsep hop
      cases hlt : decide (p < bp)
      · have hge2 : bp ≤ p := by simpa using hlt
        have htm : time = true := by
          cases time
          · simp [better, hlt] at hbet
          · rfl
        subst htm
        have hpe : p = bp := by simp [better, hlt] at hbet; exact hbet.1
        have hfe : s.fin < bf := by simp [better, hlt] at hbet; exact hbet.2
        have tp : (p == bp) = true := by simp [hpe]
        clear hlt hbet
        have HPE := Lib.hid hpe
        clear hpe
        go_enter Try.func119, Try.ntmps119
        go_upto_region 1 with fail
        rw [← HW1.out, ← HGL.out]
        go_step3
        go_wp2_with fail
        go_quiet (fail)
        go_upto_region 3 with fail
        clear y2 l3 b0 b1 b2 y3 y5 y8
        go_region_held3 (fun w' => w'.cell? ⟨gO, 0, none⟩ = some (.slice (some ⟨gV, 0, none⟩) o.length cV) ∧ w'.cell? ⟨gL, 3, none⟩ = some (.int .i64 s.fin))
          (first | exact HST _ _ _ | exact SB.out _ (by repeat (first | exact Below.refl _ _ | exact HB5.out | refine Below.drew ?_ | refine below_drewN ?_ _)))
          ((go_at_call 40; refine (HCL.out _ (by repeat (first | exact Below.refl _ _ | exact HB5.out | refine Below.drew ?_ | refine below_drewN ?_ _))).mono ?_; rintro e w5 ⟨A', c', rfl, hown, hb5⟩; have HB5 := Lib.hid (Below.trans (show Below W1.heap.size W1 _ from (by repeat (first | exact Below.refl _ _ | exact HB5.out | refine Below.drew ?_ | refine below_drewN ?_ _))) hb5); have HO5 := Lib.hid (World.ownsRow.mono hown (show W1.heap.size ≤ _ from Nat.le_refl _)); have s5 := HS1.out.below HB5.out; have q0 := s5.best.cell 0; have q1 := s5.best.cell 1; have q2 := s5.best.cell 2; simp at q0 q1 q2; have z0 := s5.best.frozen 0; have z1 := s5.best.frozen 1; have z2 := s5.best.frozen 2; have HST : ∀ u0 u1 u2, (((w5.setCell ⟨gB, 0, none⟩ u0).setCell ⟨gB, 1, none⟩ u1).setCell ⟨gB, 2, none⟩ u2).cell? ⟨gO, 0, none⟩ = some (.slice (some ⟨gV, 0, none⟩) o.length cV) ∧ (((w5.setCell ⟨gB, 0, none⟩ u0).setCell ⟨gB, 1, none⟩ u1).setCell ⟨gB, 2, none⟩ u2).cell? ⟨gL, 3, none⟩ = some (.int .i64 s.fin) := (fun u0 u1 u2 => ⟨by rw [(((s5.box.far (p := ⟨gB, 0, none⟩) (by exact n7) u0).far (p := ⟨gB, 1, none⟩) (by exact n7) u1).far (p := ⟨gB, 2, none⟩) (by exact n7) u2).cell]; simp, by rw [((((KL.out.below HB5.out hlL).far (p := ⟨gB, 0, none⟩) (by exact hne) u0).far (p := ⟨gB, 1, none⟩) (by exact hne) u1).far (p := ⟨gB, 2, none⟩) (by exact hne) u2).cell]; simp⟩); have S5 := Lib.hid s5; clear s5 hown hb5))
        all_goals
          clear q0 q1 q2 z0 z1 z2 HST
          go_wp2_with fail
          go_end0
          have hbn : ∀ {u : Value} {nn bb : Nat} {xs : List Value} {X : World} {cs : Array Value}, X.ownsRow bb 3 1 u nn xs → Blk X gB 151 cs → some gB ≠ u.ownBlock := fun h1 h2 => own_blk_ne h1 h2 (by decide)
          have k1 := S5.out.best.set_ 0 (.slice A' o.length c')
          have k2 := k1.set_ 1 (.int .i64 p)
          have k3 := k2.set_ 2 (.int .i64 s.fin)
          have hrow : ∀ {u : Value} {nn bb : Nat} {xs : List Value}, w5.ownsRow bb 3 1 u nn xs → (((w5.setCell ⟨gB, 0, none⟩ (.slice A' o.length c')).setCell ⟨gB, 1, none⟩ (.int .i64 p)).setCell ⟨gB, 2, none⟩ (.int .i64 s.fin)).ownsRow bb 3 1 u nn xs := by
            intro u nn bb xs h0
            have h1 := own_far h0 (p := ⟨gB, 0, none⟩) (by exact hbn h0 S5.out.best) (.slice A' o.length c')
            have h2 := own_far h1 (p := ⟨gB, 1, none⟩) (by exact hbn h1 k1) (.int .i64 p)
            exact own_far h2 (p := ⟨gB, 2, none⟩) (by exact hbn h2 k2) (.int .i64 s.fin)
          refine ⟨⟨_, rfl⟩, ⟨_, .slice A' o.length c', p, s.fin, ⟨((S5.out.box.far (by exact n7) _).far (by exact n7) _).far (by exact n7) _, hrow S5.out.row, by simpa using k3, fun h => by (simp at h), fun ob p' f' h => ?_⟩, .inl rfl⟩, ?_⟩
          · injection h with h
            injection h with h1 h2
            injection h2 with h2 h3
            subst h1 h2 h3
            refine ⟨hpos, World.ownsRow.mono (hrow HO5.out) hsz1, rfl, rfl, fun e => ?_⟩
            have h1 := (HO5.out.lt gV e.symm).1
            have h2 := (HS1.out.row.lt gV rfl).2
            omega
          · refine ((HSM.out.trans (Same.of_below HB5.out) (.inl rfl)).trans ?_ (.inl rfl))
            refine ⟨rfl, rfl, rfl, by simp [World.setCell], fun j hj h1 h2 _ => ?_⟩
            rw [Below.heap_setCell _ _ _ j (by exact h2), Below.heap_setCell _ _ _ j (by exact h2), Below.heap_setCell _ _ _ j (by exact h2)]
      · have hltp : p < bp := by simpa using hlt
        clear hlt hbet
        go_enter Try.func119, Try.ntmps119
        go_upto_region 1 with fail
        rw [← HW1.out, ← HGL.out]
        go_step3
        go_wp2_with fail
        go_quiet (fail)
        go_upto_region 3 with fail
        clear y2 l3 b0 b1 b2 y3 y5 y8
        go_region_held3 (fun w' => w'.cell? ⟨gO, 0, none⟩ = some (.slice (some ⟨gV, 0, none⟩) o.length cV) ∧ w'.cell? ⟨gL, 3, none⟩ = some (.int .i64 s.fin))
          (first | exact HST _ _ _ | exact SB.out _ (by repeat (first | exact Below.refl _ _ | exact HB5.out | refine Below.drew ?_ | refine below_drewN ?_ _)))
          ((go_at_call 40; refine (HCL.out _ (by repeat (first | exact Below.refl _ _ | exact HB5.out | refine Below.drew ?_ | refine below_drewN ?_ _))).mono ?_; rintro e w5 ⟨A', c', rfl, hown, hb5⟩; have HB5 := Lib.hid (Below.trans (show Below W1.heap.size W1 _ from (by repeat (first | exact Below.refl _ _ | exact HB5.out | refine Below.drew ?_ | refine below_drewN ?_ _))) hb5); have HO5 := Lib.hid (World.ownsRow.mono hown (show W1.heap.size ≤ _ from Nat.le_refl _)); have s5 := HS1.out.below HB5.out; have q0 := s5.best.cell 0; have q1 := s5.best.cell 1; have q2 := s5.best.cell 2; simp at q0 q1 q2; have z0 := s5.best.frozen 0; have z1 := s5.best.frozen 1; have z2 := s5.best.frozen 2; have HST : ∀ u0 u1 u2, (((w5.setCell ⟨gB, 0, none⟩ u0).setCell ⟨gB, 1, none⟩ u1).setCell ⟨gB, 2, none⟩ u2).cell? ⟨gO, 0, none⟩ = some (.slice (some ⟨gV, 0, none⟩) o.length cV) ∧ (((w5.setCell ⟨gB, 0, none⟩ u0).setCell ⟨gB, 1, none⟩ u1).setCell ⟨gB, 2, none⟩ u2).cell? ⟨gL, 3, none⟩ = some (.int .i64 s.fin) := (fun u0 u1 u2 => ⟨by rw [(((s5.box.far (p := ⟨gB, 0, none⟩) (by exact n7) u0).far (p := ⟨gB, 1, none⟩) (by exact n7) u1).far (p := ⟨gB, 2, none⟩) (by exact n7) u2).cell]; simp, by rw [((((KL.out.below HB5.out hlL).far (p := ⟨gB, 0, none⟩) (by exact hne) u0).far (p := ⟨gB, 1, none⟩) (by exact hne) u1).far (p := ⟨gB, 2, none⟩) (by exact hne) u2).cell]; simp⟩); have S5 := Lib.hid s5; clear s5 hown hb5))
        all_goals
          clear q0 q1 q2 z0 z1 z2 HST
          go_wp2_with fail
          go_end0
          have hbn : ∀ {u : Value} {nn bb : Nat} {xs : List Value} {X : World} {cs : Array Value}, X.ownsRow bb 3 1 u nn xs → Blk X gB 151 cs → some gB ≠ u.ownBlock := fun h1 h2 => own_blk_ne h1 h2 (by decide)
          have k1 := S5.out.best.set_ 0 (.slice A' o.length c')
          have k2 := k1.set_ 1 (.int .i64 p)
          have k3 := k2.set_ 2 (.int .i64 s.fin)
          have hrow : ∀ {u : Value} {nn bb : Nat} {xs : List Value}, w5.ownsRow bb 3 1 u nn xs → (((w5.setCell ⟨gB, 0, none⟩ (.slice A' o.length c')).setCell ⟨gB, 1, none⟩ (.int .i64 p)).setCell ⟨gB, 2, none⟩ (.int .i64 s.fin)).ownsRow bb 3 1 u nn xs := by
            intro u nn bb xs h0
            have h1 := own_far h0 (p := ⟨gB, 0, none⟩) (by exact hbn h0 S5.out.best) (.slice A' o.length c')
            have h2 := own_far h1 (p := ⟨gB, 1, none⟩) (by exact hbn h1 k1) (.int .i64 p)
            exact own_far h2 (p := ⟨gB, 2, none⟩) (by exact hbn h2 k2) (.int .i64 s.fin)
          refine ⟨⟨_, rfl⟩, ⟨_, .slice A' o.length c', p, s.fin, ⟨((S5.out.box.far (by exact n7) _).far (by exact n7) _).far (by exact n7) _, hrow S5.out.row, by simpa using k3, fun h => by (simp at h), fun ob p' f' h => ?_⟩, .inl rfl⟩, ?_⟩
          · injection h with h
            injection h with h1 h2
            injection h2 with h2 h3
            subst h1 h2 h3
            refine ⟨hpos, World.ownsRow.mono (hrow HO5.out) hsz1, rfl, rfl, fun e => ?_⟩
            have h1 := (HO5.out.lt gV e.symm).1
            have h2 := (HS1.out.row.lt gV rfl).2
            omega
          · refine ((HSM.out.trans (Same.of_below HB5.out) (.inl rfl)).trans ?_ (.inl rfl))
            refine ⟨rfl, rfl, rfl, by simp [World.setCell], fun j hj h1 h2 _ => ?_⟩
            rw [Below.heap_setCell _ _ _ j (by exact h2), Below.heap_setCell _ _ _ j (by exact h2), Below.heap_setCell _ _ _ j (by exact h2)]
  · rw [if_neg hbet]
    cases b with
    | none => exact absurd rfl hbet
    | some q =>
      obtain ⟨ob, p0, f0⟩ := q
      obtain ⟨hop, hor, rfl, rfl, hsep⟩ := HS1.out.some_ ob p0 f0 rfl
      obtain ⟨gq, cq, hbq, _, _⟩ := hor.form hop
      subst hbq
      clear hor hsep hop
      have hge2 : bp ≤ p := by
        rcases (show p < bp ∨ bp ≤ p by omega) with h | h
        · exact absurd (by simp [better, h]) hbet
        · exact h
      cases time with
      | false =>
        clear hbet
        go_enter Try.func119, Try.ntmps119
        go_upto_region 1 with fail
        rw [← HW1.out, ← HGL.out]
        go_step3
        go_wp2_with fail
        go_quiet (fail)
        go_wp2_with fail
        go_end0
        exact ⟨⟨_, rfl⟩, ⟨_, _, _, _, HS1.out.drewN _, .inl rfl⟩, HSM.out.drewN _⟩
      | true =>
        by_cases hpe : p = bp
        · have hfe : bf ≤ s.fin := by
            rcases (show s.fin < bf ∨ bf ≤ s.fin by omega) with h | h
            · exact absurd (by simp [better, hpe, h]) hbet
            · exact h
          have tp : (p == bp) = true := by simp [hpe]
          have HPE := Lib.hid hpe
          clear hbet hpe
          go_enter Try.func119, Try.ntmps119
          go_upto_region 1 with fail
          rw [← HW1.out, ← HGL.out]
          go_step3
          go_wp2_with fail
          go_quiet (fail)
          go_wp2_with fail
          go_end0
          exact ⟨⟨_, rfl⟩, ⟨_, _, _, _, HS1.out.drewN _, .inl rfl⟩, HSM.out.drewN _⟩
        · have tp : (p == bp) = false := by simp [hpe]
          clear hbet hpe
          go_enter Try.func119, Try.ntmps119
          go_upto_region 1 with fail
          rw [← HW1.out, ← HGL.out]
          go_step3
          go_wp2_with fail
          go_quiet (fail)
          go_wp2_with fail
          go_end0
          exact ⟨⟨_, rfl⟩, ⟨_, _, _, _, HS1.out.drewN _, .inl rfl⟩, HSM.out.drewN _⟩
end Go.Proofs.Ytokdleanpkkdpaa
