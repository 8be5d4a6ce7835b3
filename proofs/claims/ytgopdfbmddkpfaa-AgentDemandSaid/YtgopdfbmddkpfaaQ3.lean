/- Walk of AgentDemand: it returns true and turns nothing that was there; conditions: none. -/
import Derived.Test.YtgopdfbmddkpfaaD5
set_option linter.unusedSimpArgs false
set_option linter.unusedVariables false
namespace Go.Proofs.Ytgopdfbmddkpfaa
open Go.RowKit Go.Fh Go.Ag
set_option maxRecDepth 20000 in
set_option maxHeartbeats 2000000 in
theorem agentDemand_walk (haw : ∀ w, Calls Try.prog 15 #[] w fun e w' => e = .returned (.bool true) ∧ Below w.heap.size w w') (A : Option Addr) (c : Nat) (l : List (Int × Int)) (d : Int × Int) (q over under : Int) (w : World) (hl : l.length * 16 ≤ 140737488355328) (hA : Sl enc2 2 w w.heap.size A l) :
    Calls Try.prog 6 #[.slice A l.length c, .agg #[.int .i64 d.1, .int .i64 d.2], .int .i64 q, .int .i64 over, .int .i64 under] w fun e w' => e = .returned (.bool true) ∧ Below w.heap.size w w' := by
  have HA := Lib.hid hA
  have hb0 : Below w.heap.size w (w.alloc (.cells #[.int .i64 d.1, .int .i64 d.2] 33)) := (Below.refl _ _).alloc (Nat.le_refl _) _
  have hk0 : Blk (w.alloc (.cells #[.int .i64 d.1, .int .i64 d.2] 33)) w.heap.size 33 #[.int .i64 d.1, .int .i64 d.2] := Blk.new _ _ _
  have HB0 := Lib.hid hb0
  have HK0 := Lib.hid hk0
  clear hA hb0 hk0
  go_enter Try.func6, Try.ntmps6
  go_wp2_with fail
  refine (dear_any A c l _ hl ((HA.out.below HB0.out).mono (by simp))).mono ?_
  rintro e w1 ⟨⟨b, rfl⟩, hb1⟩
  have hbb1 := HB0.out.trans (hb1.mono (by simp))
  have hk1 := Blk.below HK0.out hb1 HK0.out.lt
  have kc := hk1.cell 0
  have kd := hk1.cell 1
  simp at kc kd
  clear hk1 hb1
  cases b
  · go_wp2_with fail
    refine (demand_any A c l d q over under w1 hl ((HA.out.below hbb1).mono hbb1.size)).mono ?_
    rintro e w2 ⟨rfl, hb2⟩
    have hbb2 := hbb1.trans (hb2.mono hbb1.size)
    clear kc kd
    go_wp2_with fail
    refine (haw _).mono ?_
    rintro e w3 ⟨rfl, hb3⟩
    have hbb3 := hbb2.trans (hb3.mono hbb2.size)
    go_wp2_with fail
    go_ret
    exact ⟨rfl, hbb3⟩
  · go_wp2_with fail
    refine (haw _).mono ?_
    rintro e w3 ⟨rfl, hb3⟩
    have hbb3 := hbb1.trans (hb3.mono hbb1.size)
    go_wp2_with fail
    go_ret
    exact ⟨rfl, hbb3⟩
end Go.Proofs.Ytgopdfbmddkpfaa
