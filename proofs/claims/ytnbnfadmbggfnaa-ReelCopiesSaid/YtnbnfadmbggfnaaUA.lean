/- Contracts of the reference's right and met; conditions: a row of reels in memory. -/
import Derived.Test.YtnbnfadmbggfnaaUP
set_option linter.unusedSimpArgs false
set_option linter.unusedVariables false
namespace Go.Rl
open Go.Fh
/-- the reels of the first webs -/
def rlsN (p : PrsD) (k : Nat) : List ReelD := (p.webs.take k).flatMap (·.reels)
theorem rlsN_ids (p : PrsD) (k : Nat) : (rlsN p k).map (·.id) = idsN p k := rfl
theorem rlsN_s {p : PrsD} {k : Nat} (h : k < p.webs.length) : rlsN p (k + 1) = rlsN p k ++ p.webs[k].reels := by
  unfold rlsN
  rw [List.take_succ_eq_append_getElem h, List.flatMap_append]
  simp
def metB (l : List ReelD) (i : Nat) : Bool := decide ((l.getD i reel0).id ∈ (l.take i).map (·.id))
end Go.Rl
namespace Go.Proofs.Ytnbnfadmbggfnaa
open Go.RowKit Go.Fh Go.Rl
theorem rin_val (n a b : Int) (v : Bool) (hv : v = inB n a b) (w : World) : Calls Try.prog 100 #[.int .i64 n, .int .i64 a, .int .i64 b] w fun e w' => e = .returned (.bool v) ∧ w = w' := by
  rw [hv]; exact rin_any n a b w
set_option maxRecDepth 20000 in
set_option maxHeartbeats 4000000 in
theorem rright_any (r : ReelD) (b : Bool) (hb : b = rightB r) (w : World) : Calls Try.prog 105 #[.agg #[.int .i64 r.id, .int .i64 r.width, .int .i64 r.len, .int .i64 r.core]] w fun e w' => e = .returned (.bool b) ∧ Hid (Below w.heap.size w w') := by
  obtain ⟨b1, h1⟩ : ∃ x, x = inB r.id 0 1000000 := ⟨_, rfl⟩
  obtain ⟨b2, h2⟩ : ∃ x, x = inB r.width 1 3000 := ⟨_, rfl⟩
  obtain ⟨b3, h3⟩ : ∃ x, x = inB r.len 0 20000000 := ⟨_, rfl⟩
  obtain ⟨b4, h4⟩ : ∃ x, x = inB r.core 0 r.len := ⟨_, rfl⟩
  have HB := Lib.hid (show b = (b1 && (b2 && (b3 && b4))) by rw [hb, h1, h2, h3, h4]; rfl)
  have H1 := Lib.hid (fun W => rin_val _ _ _ b1 h1 W)
  have H2 := Lib.hid (fun W => rin_val _ _ _ b2 h2 W)
  have H3 := Lib.hid (fun W => rin_val _ _ _ b3 h3 W)
  have H4 := Lib.hid (fun W => rin_val _ _ _ b4 h4 W)
  clear hb h1 h2 h3 h4
  cases b1 <;> cases b2 <;> cases b3 <;> cases b4
  all_goals
    go_enter Try.func105, Try.ntmps105
    go_wp2_with first
      | (go_at_call 100; with_reducible refine (H1.out _).mono ?_; rintro e wz ⟨rfl, rfl⟩)
      | (go_at_call 100; with_reducible refine (H2.out _).mono ?_; rintro e wz ⟨rfl, rfl⟩)
      | (go_at_call 100; with_reducible refine (H3.out _).mono ?_; rintro e wz ⟨rfl, rfl⟩)
      | (go_at_call 100; with_reducible refine (H4.out _).mono ?_; rintro e wz ⟨rfl, rfl⟩)
    go_ret
    exact ⟨ret_bool (by rw [HB.out]; rfl), Lib.hid (balR (Below.refl _ _) _)⟩
set_option maxRecDepth 20000 in
set_option maxHeartbeats 4000000 in
theorem rmet_any (A : Option Addr) (c N : Nat) (l : List ReelD) (w : World) (hl : l.length = N) (hN : N ≤ 1000000) (hA : Sl encReel 4 w w.heap.size A l) (i : Nat) (hi : i < N) (b : Bool) (hb : b = metB l i) :
    Calls Try.prog 106 #[.slice A N c, .int .i64 (i : Int)] w fun e w' => e = .returned (.bool b) ∧ Hid (Below w.heap.size w w') := by
  have HL := Lib.hid hl
  have HA := Lib.hid (fun W (hb : Below w.heap.size w W) => hA.below hb)
  have HB := Lib.hid hb
  have hil : i < l.length := by omega
  obtain ⟨y, hy⟩ : ∃ y, y = l[i] := ⟨_, rfl⟩
  have HY := Lib.hid hy
  have HM := Lib.hid (show metB l i = decide (y.id ∈ (l.take i).map (·.id)) by unfold metB; rw [hy, show l.getD i reel0 = l[i] from by simp [hil]])
  have HI := Lib.hid hil
  clear hl hA hb hy
  go_enter Try.func106, Try.ntmps106
  go_wp2_with fail
  go_loopw [5] (fun u wr => ∃ k : Nat, k ≤ i ∧ u = .int .i64 (k : Int) ∧ Hid (y.id ∉ (l.take k).map (·.id)) ∧ Hid (Below w.heap.size w wr)) (fun u _ => i - (intOf u).toNat)
  case atStart => exact ⟨0, Nat.zero_le _, rfl, Lib.hid (by simp), Below.refl _ _⟩
  case round =>
    obtain ⟨k, hk, rfl, HK, HBL⟩ := hrel
    by_cases hlt : k < i
    · have hkl : k < l.length := by have := HL.out; omega
      obtain ⟨b0, off0, hba, hbb, c0, -, -, -⟩ := reel_at (HA.out _ HBL.out) hkl
      obtain ⟨b1, off1, hba1, hbb1, dd, -, -, -⟩ := reel_at (HA.out _ HBL.out) HI.out
      have d0 : wr.cell? ⟨b1, off1 + i * 4, none⟩ = some (.int .i64 y.id) := by rw [HY.out]; exact dd
      clear dd
      subst hba
      injection hba1 with hba1
      injection hba1 with e1 e2
      subst e1 e2
      obtain ⟨x, hx⟩ : ∃ x, x = l[k] := ⟨_, rfl⟩
      rw [← hx] at c0
      have HX := Lib.hid hx
      have i0 : (0 : Int) ≤ (k : Int) := by omega
      have i1 : (k : Int) < (N : Int) := by omega
      have i2 : (0 : Int) ≤ (i : Int) := by omega
      have i3 : (i : Int) < (N : Int) := by omega
      have i4 : (k : Int) < (i : Int) := by omega
      clear hx hbb hbb1
      by_cases he : x.id = y.id
      · have t1 : (x.id == y.id) = true := by simpa using he
        have HE := Lib.hid he
        clear he
        go_wp2_with fail
        go_quiet (fail)
        go_wp2_with fail
        go_ret
        refine ⟨ret_bool ?_, Lib.hid (below_drewN HBL.out _)⟩
        rw [HB.out, HM.out]
        symm
        rw [decide_eq_true_eq, List.mem_map]
        exact ⟨x, by rw [HX.out, List.mem_take_iff_getElem]; exact ⟨k, by omega, rfl⟩, HE.out⟩
      · have t1 : (x.id == y.id) = false := by simpa using he
        have HE := Lib.hid he
        clear he
        go_wp2_with fail
        go_quiet (fail)
        go_wp2_with fail
        go_roundw
        case rel => exact ⟨k + 1, by omega, by go_num, Lib.hid (by
          rw [List.take_succ_eq_append_getElem hkl, List.map_append, List.mem_append]
          rintro (h | h)
          · exact HK.out h
          · rw [← HX.out] at h
            simp at h
            exact HE.out h.symm), below_drewN HBL.out _⟩
        case measure => simp [intOf]; omega
    · obtain rfl : k = i := by omega
      go_wp2_with fail
      go_ret
      refine ⟨ret_bool ?_, HBL⟩
      rw [HB.out, HM.out]
      symm
      simpa using HK.out
/-- a web of a press in memory -/
theorem web_box {w1 : World} {p : PrsD} {A : Option Addr} {ms : List WebM} (HTP : ∀ W, Below w1.heap.size w1 W → PrsAt W W.heap.size p A ms) {k : Nat} (hk : k < ms.length) (hkp : k < p.webs.length) :
    ∃ v vA vc b off, Hid (v = p.webs[k]) ∧ Hid (∀ W, Below w1.heap.size w1 W → Sl encReel 4 W W.heap.size vA v.reels) ∧ A = some ⟨b, off, none⟩ ∧ Hid (∀ W, Below w1.heap.size w1 W → W.cell? ⟨b, off + k * 4, none⟩ = some (.slice vA v.reels.length vc) ∧ W.cell? ⟨b, off + k * 4 + 1, none⟩ = some (.int .i64 v.off) ∧ W.cell? ⟨b, off + k * 4 + 2, none⟩ = some (.int .i64 v.bef) ∧ W.cell? ⟨b, off + k * 4 + 3, none⟩ = some (.int .i64 v.aft)) := by
  have hT := HTP w1 (Below.refl _ _)
  obtain ⟨b, off, hba, _⟩ := web_at hT.cW hk
  have hwe : ms[k].1 = p.webs[k] := by
    have h1 : (ms.map (·.1))[k]'(by simpa using hk) = p.webs[k] := List.getElem_of_eq hT.eq _
    rw [List.getElem_map] at h1; exact h1
  refine ⟨ms[k].1, ms[k].2.1, ms[k].2.2, b, off, Lib.hid hwe, Lib.hid fun W hb => (HTP W hb).cR k hk, hba, Lib.hid fun W hb => ?_⟩
  obtain ⟨b2, off2, hba2, _, c0, c1, c2, c3⟩ := web_at (HTP W hb).cW hk
  rw [hba] at hba2
  injection hba2 with e
  injection e with e1 e2
  subst e1 e2
  exact ⟨c0, c1, c2, c3⟩
/-- a boxed web -/
theorem wv_box (ty : TypeId) (v : WebD) (vA : Option Addr) (nv vc : Nat) (wr : World) : ∃ w5 g, Hid (w5 = wr.alloc (.cells #[.slice vA nv vc, .int .i64 v.off, .int .i64 v.bef, .int .i64 v.aft] ty)) ∧ Hid (g = wr.heap.size) ∧ Hid (Below wr.heap.size wr w5) ∧ Hid (Blk w5 g ty #[.slice vA nv vc, .int .i64 v.off, .int .i64 v.bef, .int .i64 v.aft]) :=
  ⟨_, _, rfl, rfl, Lib.hid (balR (Below.refl _ _) _), Lib.hid (Blk.new _ _ _)⟩
theorem wv_cells {ty : TypeId} {v : WebD} {vA : Option Addr} {nv vc g : Nat} {w : World} (h : Blk w g ty #[.slice vA nv vc, .int .i64 v.off, .int .i64 v.bef, .int .i64 v.aft]) :
    w.cell? ⟨g, 0, none⟩ = some (.slice vA nv vc) ∧ w.cell? ⟨g, 1, none⟩ = some (.int .i64 v.off) ∧ w.cell? ⟨g, 2, none⟩ = some (.int .i64 v.bef) ∧ w.cell? ⟨g, 3, none⟩ = some (.int .i64 v.aft) := by
  have a0 := h.cell 0
  have a1 := h.cell 1
  have a2 := h.cell 2
  have a3 := h.cell 3
  simp at a0 a1 a2 a3
  exact ⟨a0, a1, a2, a3⟩
end Go.Proofs.Ytnbnfadmbggfnaa
