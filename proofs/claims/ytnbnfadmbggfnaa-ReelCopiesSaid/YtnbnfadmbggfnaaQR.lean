/- The walk of ReelRun; conditions: bytes and small numbers. -/
import Derived.Test.YtnbnfadmbggfnaaCE
import Derived.Test.YtnbnfadmbggfnaaCJ
set_option linter.unusedSimpArgs false
set_option linter.unusedVariables false
namespace Go.Rl
open Go.Fh
theorem ask_ok {p : PrsD} {n most : Int} (h : errP p = 0) (h0 : 0 ≤ n) (h1 : n ≤ rchP p) (h2 : n ≤ most) : askE p n most = 0 := by
  unfold askE
  rw [if_neg (by simpa using h), inB_iff.2 ⟨h0, h2⟩, if_neg (by simp), if_neg (by omega)]
theorem rch_bd {p : PrsD} (h : errP p = 0) : 0 ≤ rchP p ∧ rchP p ≤ 1000000 := rchK_bd (prs_ok h) _ (Nat.le_refl _)
theorem thrO_ok {p : PrsD} {n : Int} (h : errP p = 0) (h0 : 0 ≤ n) (h1 : n ≤ rchP p) : thrO p n = thrP p n ∧ askE p n 9223372036854775807 = 0 := by
  have hb := rch_bd h
  have ha := ask_ok (most := 9223372036854775807) h h0 h1 (by omega)
  unfold thrO
  exact ⟨by rw [if_neg (by simpa using ha)], ha⟩
theorem runN_zero : ∀ (l : List (Int × Int)), (∀ s ∈ l, 0 ≤ s.1) → Go.Rl.runN l 0 = 0 := by
  intro l h
  cases l with
  | nil => rfl
  | cons s l => rw [Go.Rl.runN, if_pos (h s (by simp))]
theorem run_cases {p : PrsD} (h : errP p = 0) {g : Int} (hg : 0 ≤ g) (hg2 : g ≤ 1000000) :
    (runP p g = (0, 70) ∧ rchP p - cntS (thrP p (rchP p)) < g) ∨
    (runP p g = (Go.Rl.runN (thrP p (rchP p)) g, 0) ∧ 0 ≤ Go.Rl.runN (thrP p (rchP p)) g ∧ Go.Rl.runN (thrP p (rchP p)) g ≤ rchP p ∧ g ≤ rchP p) := by
  have hb := rch_bd h
  have hj := thr_join p (rchP p)
  have hle := Go.Rl.runN_le hj.le g
  unfold runP
  by_cases h1 : rchP p < g
  · left
    have ha : askE p g 1000000 = 70 := by
      unfold askE
      rw [if_neg (by simpa using h), inB_iff.2 ⟨hg, hg2⟩, if_neg (by simp), if_pos h1]
    have hc := cntS_nonneg hj.le
    exact ⟨by rw [if_pos (by rw [ha]; decide), ha], by omega⟩
  · have ha := ask_ok (most := 1000000) h hg (by omega) hg2
    rw [if_neg (by simpa using ha)]
    by_cases h0 : g = 0
    · right
      subst h0
      have := runN_zero (thrP p (rchP p)) fun s hs => (thr_bd hs).1
      rw [if_pos rfl, this]
      exact ⟨rfl, by omega, by omega, by omega⟩
    · rw [if_neg h0]
      by_cases h2 : rchP p < Go.Rl.runN (thrP p (rchP p)) g
      · left
        exact ⟨by rw [if_pos h2], by omega⟩
      · right
        exact ⟨by rw [if_neg h2], by omega, by omega, by omega⟩
/-- what Run's answer keeps -/
theorem run_keeps {p : PrsD} {g : Int} (h1 : Go.Rl.runN (thrP p (rchP p)) g ≤ rchP p) :
    Go.Rl.runN (thrP p (rchP p)) g - cntS (thrP p (Go.Rl.runN (thrP p (rchP p)) g)) = g ∧ outS (thrP p (Go.Rl.runN (thrP p (rchP p)) g)) (Go.Rl.runN (thrP p (rchP p)) g - 1) = false ∧
    ∀ m, m < Go.Rl.runN (thrP p (rchP p)) g → m - cntS (thrP p m) < g := by
  have hj := thr_join p (rchP p)
  obtain ⟨a, b, c⟩ := run_spec _ hj.le hj.gap g
  refine ⟨by rw [thr_clip h1]; exact a, ?_, fun m hm => by rw [thr_clip (n := m) (R := rchP p) (by omega)]; exact c m hm⟩
  cases ho : outS (thrP p (Go.Rl.runN (thrP p (rchP p)) g)) (Go.Rl.runN (thrP p (rchP p)) g - 1) with
  | false => rfl
  | true =>
    rw [outS_iff, thr_clip h1, clip_cov] at ho
    exact absurd ho.1 b
theorem out_part {p : PrsD} {m R k : Int} (h : m ≤ R) (hk : k < m) : outS (thrP p m) k = outS (thrP p R) k := by
  rw [thr_clip h]
  have e : outS (clip m (thrP p R)) k = true ↔ outS (thrP p R) k = true := by
    rw [outS_iff, outS_iff, clip_cov]
    exact ⟨fun h => h.1, fun h => ⟨h, hk⟩⟩
  cases h1 : outS (clip m (thrP p R)) k with
  | true => exact (e.1 h1).symm
  | false =>
    cases h2 : outS (thrP p R) k with
    | false => rfl
    | true => rw [e.2 h2] at h1; cases h1
end Go.Rl
namespace Go.Proofs.Ytnbnfadmbggfnaa
open Go.RowKit Go.Fh Go.Rl
/-- a made press in a box, and what may be asked of it -/
theorem mp_box (ty : TypeId) (p : PrsD) (w0 : World) (AW : Option Addr) (c0 : Nat) (ms : List WebM) (w : World) (hM : PrsAt w w.heap.size p AW ms) (M : Nat) (hm : M = ms.length) : ∃ w1 gT, Hid (w1 = w.alloc (.cells #[.int .i64 p.cut, .int .i64 p.margin, .slice AW M c0] ty)) ∧ Hid (gT = w.heap.size) ∧ Hid (Below w.heap.size w w1) ∧ Hid (∀ W, Below w1.heap.size w1 W → PrsAt W W.heap.size p AW ms) ∧ Hid (∀ W, Below w1.heap.size w1 W → W.cell? ⟨gT, 0, none⟩ = some (.int .i64 p.cut) ∧ W.cell? ⟨gT, 1, none⟩ = some (.int .i64 p.margin) ∧ W.cell? ⟨gT, 2, none⟩ = some (.slice AW M c0)) := by
  have hb1 := balR (Below.refl w.heap.size w) (.cells #[.int .i64 p.cut, .int .i64 p.margin, .slice AW M c0] ty)
  refine ⟨_, w.heap.size, rfl, rfl, Lib.hid hb1, Lib.hid fun W hb => hM.step (hb1.trans (hb.mono hb1.size)), Lib.hid fun W hb => ?_⟩
  have kT := Blk.new w ty #[.int .i64 p.cut, .int .i64 p.margin, .slice AW M c0]
  have hgl := kT.lt
  have r0 := (kT.below hb hgl).cell 0
  have r1 := (kT.below hb hgl).cell 1
  have r2 := (kT.below hb hgl).cell 2
  simp at r0 r1 r2
  exact ⟨r0, r1, r2⟩
theorem thr14_c (p : PrsD) (AW : Option Addr) (c0 M : Nat) (ms : List WebM) (w : World) (hM : PrsAt w w.heap.size p AW ms) (hm : M = ms.length) (hp : errP p = 0) (n : Int) (h0 : 0 ≤ n) (h1 : n ≤ rchP p) (S : List (Int × Int)) (hS : S = thrP p n) :
    Calls Try.prog 14 #[.agg #[.int .i64 p.cut, .int .i64 p.margin, .slice AW M c0], .int .i64 n] w fun e w' => ∃ A' c', e = .returned (.tuple #[.slice A' S.length c', .int .i64 0]) ∧ Hid (Sl enc2 2 w' w'.heap.size A' S) ∧ Hid (Below w.heap.size w w') := by
  obtain ⟨e1, e2⟩ := thrO_ok hp h0 h1
  have hm6 := (prs_ok hp).n1
  refine (thrown14_any p AW c0 M ms w hM hm (by rw [hm, hM.len]; omega) n 0 e2.symm S (by rw [hS, e1])).mono ?_
  rintro e w' ⟨A', c', rfl, ho, hb⟩
  exact ⟨A', c', rfl, Lib.hid (Sl.of_own (fun _ => rfl) ho), hb⟩
theorem reach_c (p : PrsD) (AW : Option Addr) (c0 M : Nat) (ms : List WebM) (w : World) (hM : PrsAt w w.heap.size p AW ms) (hm : M = ms.length) (hp : errP p = 0) (R : Int) (hR : R = rchP p) :
    Calls Try.prog 13 #[.agg #[.int .i64 p.cut, .int .i64 p.margin, .slice AW M c0]] w fun e w' => e = .returned (.tuple #[.int .i64 R, .int .i64 0]) ∧ Hid (Below w.heap.size w w') := by
  have hm6 := (prs_ok hp).n1
  exact reach13_c p AW c0 M ms w hM hm (by rw [hm, hM.len]; omega) (R, 0) (by rw [if_neg (by simpa using hp), hR])
theorem run_c (p : PrsD) (AW : Option Addr) (c0 M : Nat) (ms : List WebM) (w : World) (hM : PrsAt w w.heap.size p AW ms) (hm : M = ms.length) (hp : errP p = 0) (g r1 r2 : Int) (hr : (r1, r2) = runP p g) :
    Calls Try.prog 15 #[.agg #[.int .i64 p.cut, .int .i64 p.margin, .slice AW M c0], .int .i64 g] w fun e w' => e = .returned (.tuple #[.int .i64 r1, .int .i64 r2]) ∧ Hid (Below w.heap.size w w') := by
  have hm6 := (prs_ok hp).n1
  exact run15_any p AW c0 M ms w hM hm (by rw [hm, hM.len]; omega) g r1 r2 hr
theorem count_c (A : Option Addr) (c : Nat) (p : PrsD) (hp : errP p = 0) (n : Int) (h1 : n ≤ rchP p) (S : List (Int × Int)) (hS : S = thrP p n) (w : World) (hA : Sl enc2 2 w w.heap.size A S) (N : Int) (hN : N = cntS S) :
    Calls Try.prog 16 #[.slice A S.length c] w fun e w' => e = .returned (.int .i64 N) ∧ Hid (Below w.heap.size w w') := by
  have hb := rch_bd hp
  have hl := thr_len (fun v hv => ((prs_ok hp).w v hv).n) n
  have hm6 := (prs_ok hp).n1
  subst hN
  refine count_any A c S w (by rw [hS]; omega) (fun s hs => ?_) hA
  rw [hS] at hs
  have := thr_bd hs
  omega
end Go.Proofs.Ytnbnfadmbggfnaa
