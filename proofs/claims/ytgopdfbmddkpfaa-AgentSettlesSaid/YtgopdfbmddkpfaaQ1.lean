/- Walk of AgentSettles: it returns true and turns nothing that was there; conditions: none. -/
import Derived.Test.YtgopdfbmddkpfaaW2
set_option linter.unusedSimpArgs false
set_option linter.unusedVariables false
namespace Go.Proofs.Ytgopdfbmddkpfaa
open Go.RowKit Go.Fh Go.Ag
set_option maxRecDepth 20000 in
set_option maxHeartbeats 2000000 in
theorem agentSettles_walk (t : TariffD) (A : Option Addr) (c : Nat) (hh : List (Int × Int)) (B : Option Addr) (d : Nat) (late : List Int) (w : World)
    (hA : Sl enc2 2 w w.heap.size A hh) (hB : Sl encInt 1 w w.heap.size B late) :
    Calls Try.prog 4 #[.agg (tarV t), .slice A hh.length c, .slice B late.length d] w fun e w' => e = .returned (.bool true) ∧ Below w.heap.size w w' := by
  unfold tarV
  have hb0 : Below w.heap.size w (w.alloc (.cells #[.int .i64 t.price, .int .i64 t.back, .int .i64 t.late, .int .i64 t.carry, .int .i64 t.credit] 36)) := (Below.refl _ _).alloc (Nat.le_refl _) _
  have HA := Lib.hid hA
  have HB := Lib.hid hB
  clear hA hB
  by_cases h1 : 500 < (hh.length : Int)
  · go_enter Try.func4, Try.ntmps4
    go_wp2_with fail
    refine (awake_any _).mono ?_
    rintro e w1 ⟨rfl, hb1⟩
    have hbb := hb0.trans (hb1.mono hb0.size)
    go_wp2_with fail
    go_ret
    exact ⟨rfl, hbb⟩
  · by_cases h2 : 600 < (late.length : Int)
    · go_enter Try.func4, Try.ntmps4
      go_wp2_with fail
      refine (awake_any _).mono ?_
      rintro e w1 ⟨rfl, hb1⟩
      have hbb := hb0.trans (hb1.mono hb0.size)
      go_wp2_with fail
      go_ret
      exact ⟨rfl, hbb⟩
    · go_enter Try.func4, Try.ntmps4
      go_wp2_with fail
      refine (settles_any t A c hh B d late _ (by omega) (by omega) ((HA.out.below hb0).mono (by simp)) ((HB.out.below hb0).mono (by simp))).mono ?_
      rintro e w1 ⟨rfl, hb1⟩
      have hbb := hb0.trans (hb1.mono hb0.size)
      go_wp2_with fail
      refine (awake_any _).mono ?_
      rintro e w2 ⟨rfl, hb2⟩
      have hbb2 := hbb.trans (hb2.mono hbb.size)
      go_wp2_with fail
      go_ret
      exact ⟨rfl, hbb2⟩
end Go.Proofs.Ytgopdfbmddkpfaa
