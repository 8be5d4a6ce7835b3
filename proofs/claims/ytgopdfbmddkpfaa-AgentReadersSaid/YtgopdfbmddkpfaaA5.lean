/- Contract of Settle; conditions: none. -/
import Derived.Test.YtgopdfbmddkpfaaA4
set_option linter.unusedSimpArgs false
set_option linter.unusedVariables false
namespace Go.Proofs.Ytgopdfbmddkpfaa
open Go.RowKit Go.Fh Go.Ag

/-- a slice address that lies at or beyond block B -/
def Fr (B : Nat) (A : Option Addr) : Prop := ∀ a, A = some a → B ≤ a.block
theorem Fr.none {B : Nat} : Fr B none := fun a h => by cases h
theorem Fr.some {B b o : Nat} {s : Option Nat} (h : B ≤ b) : Fr B (some ⟨b, o, s⟩) := fun a e => by cases e; exact h
theorem Fr.own {w : World} {base : Nat} {e : TypeId} {size : Nat} {A : Option Addr} {n c : Nat} {xs : List Value} (h : w.ownsRow base e size (.slice A n c) n xs) {B : Nat} (hB : B ≤ base) : Fr B A := fun a ea => by
  have := (h.lt a.block (by rw [ea]; rfl)).1
  omega

def AccPost (r : Int × List (Int × Int × Int) × Int) (w : World) (e : Ending) (w' : World) : Prop :=
  ∃ A' c', e = .returned (.tuple #[.agg #[.slice A' r.2.1.length c', .int .i64 r.2.2], .int .i64 r.1]) ∧ Sl enc3 3 w' w'.heap.size A' r.2.1 ∧ Fr w.heap.size A' ∧ Below w.heap.size w w'

theorem AccPost.err {r : Int × List (Int × Int × Int) × Int} {w w' : World} {n : Int} (hr : r = (n, [], 0)) (hb : Below w.heap.size w w') : AccPost r w (.returned (.tuple #[.agg #[.slice none 0 0, .int .i64 0], .int .i64 n])) w' := by
  subst hr
  exact ⟨none, 0, rfl, Sl.nil, Fr.none, hb⟩

set_option maxHeartbeats 1000000 in
theorem settle_early (t : TariffD) (A : Option Addr) (c : Nat) (h : List (Int × Int)) (B : Option Addr) (d : Nat) (late : List Int) (w : World) (hl : h.length ≤ 9223372036854775807) (hl2 : late.length ≤ 9223372036854775807)
    (hA : Sl enc2 2 w w.heap.size A h) (hno : wrongT t = true ∨ checkH h ≠ 0 ∨ late.length ≠ h.length) :
    Calls Try.prog 24 #[.agg (tarV t), .slice A h.length c, .slice B late.length d] w (AccPost (settleD t h late) w) := by
  have HA := Lib.hid hA
  clear hA
  cases h1 : wrongT t
  · by_cases h2 : checkH h = 0
    · have h3 : late.length ≠ h.length := by rcases hno with e | e | e; (rw [h1] at e; cases e); exact absurd h2 e; exact e
      have h3' : ((late.length : Int) != (h.length : Int)) = true := by simp; omega
      have hd : settleD t h late = (120, [], 0) := by simp [settleD, h1, h2, h3]
      have HD := Lib.hid hd
      have hC := fun W hW => check_any A c h W hl hW
      clear h3 hd hno
      unfold tarV
      go_enter Try.func24, Try.ntmps24
      go_wp2_with fail
      refine (wrongT_any t _).mono ?_
      rintro e w1 ⟨rfl, hb1⟩
      obtain ⟨q1, q2⟩ := bcell hb1
      have hz : w.heap.size + 1 < w1.heap.size := by have := hb1.size; simp at this; omega
      have hz0 : w.heap.size < w1.heap.size := by omega
      have hbw : Below w.heap.size w w1 := (((Below.refl w.heap.size w).alloc (Nat.le_refl _) _).alloc (by simp) _).trans (hb1.mono (by simp; omega))
      go_wp2_with fail
      refine (hC _ (by exact (HA.out.below hbw).mono (by omega))).mono ?_
      clear hC
      rintro e w2 ⟨rfl, hb2⟩
      obtain ⟨r1, r2⟩ := bcell hb2
      have hz2 := hb2.size
      go_wp2_with fail
      refine bodyPost_ret (v := .tuple #[.agg #[.slice none 0 0, .int .i64 0], .int .i64 120]) ?_ rfl (AccPost.err HD.out ?_)
      · simp [results, Try.results24, go_sem, r1, q1, hz]
      · exact (((hbw.trans (hb2.mono (by omega))).setCell (by simp) _).setCell (by simp) _)
    · have hd : settleD t h late = (checkH h, [], 0) := by simp [settleD, h1, h2]
      have HD := Lib.hid hd
      have hC := fun W hW => check_any A c h W hl hW
      have h2' : (checkH h != 0) = true := by simp [h2]
      clear h2 hd hno
      unfold tarV
      go_enter Try.func24, Try.ntmps24
      go_wp2_with fail
      refine (wrongT_any t _).mono ?_
      rintro e w1 ⟨rfl, hb1⟩
      obtain ⟨q1, q2⟩ := bcell hb1
      have hz : w.heap.size + 1 < w1.heap.size := by have := hb1.size; simp at this; omega
      have hz0 : w.heap.size < w1.heap.size := by omega
      have hbw : Below w.heap.size w w1 := (((Below.refl w.heap.size w).alloc (Nat.le_refl _) _).alloc (by simp) _).trans (hb1.mono (by simp; omega))
      go_wp2_with fail
      refine (hC _ (by exact (HA.out.below hbw).mono (by omega))).mono ?_
      clear hC
      rintro e w2 ⟨rfl, hb2⟩
      obtain ⟨r1, r2⟩ := bcell hb2
      have hz2 := hb2.size
      go_wp2_with fail
      refine bodyPost_ret (v := .tuple #[.agg #[.slice none 0 0, .int .i64 0], .int .i64 (checkH h)]) ?_ rfl (AccPost.err HD.out ?_)
      · simp [results, Try.results24, go_sem, r1, q1, hz]
      · exact (((hbw.trans (hb2.mono (by omega))).setCell (by simp) _).setCell (by simp) _)
  · have hd : settleD t h late = (1, [], 0) := by simp [settleD, h1]
    have HD := Lib.hid hd
    clear hd hno
    unfold tarV
    go_enter Try.func24, Try.ntmps24
    go_wp2_with fail
    refine (wrongT_any t _).mono ?_
    rintro e w1 ⟨rfl, hb1⟩
    obtain ⟨q1, q2⟩ := bcell hb1
    have hz : w.heap.size + 1 < w1.heap.size := by have := hb1.size; simp at this; omega
    go_wp2_with fail
    refine bodyPost_ret (v := .tuple #[.agg #[.slice none 0 0, .int .i64 0], .int .i64 1]) (by simp [results, Try.results24, go_sem, q1]) rfl (AccPost.err HD.out ?_)
    exact ((((((Below.refl w.heap.size w).alloc (Nat.le_refl _) _).alloc (by simp) _).trans (hb1.mono (by simp; omega))).setCell (by simp) _).setCell (by simp) _)
end Go.Proofs.Ytgopdfbmddkpfaa
