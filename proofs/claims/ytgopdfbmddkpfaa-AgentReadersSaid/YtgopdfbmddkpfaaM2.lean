/- Contract: greatest; conditions: none. -/
import Derived.Test.YtgopdfbmddkpfaaM1
import Derived.Test.YtgopdfbmddkpfaaShelf
import Derived.Test.YtgopdfbmddkpfaaH2
set_option linter.unusedSimpArgs false
set_option linter.unusedVariables false
namespace Go.Proofs.Ytgopdfbmddkpfaa
open Go.RowKit Go.Fh Go.Ag

theorem greatest_any (m : Int × Int) (A : Option Addr) (c : Nat) (l : List Int) (w : World) (hl : l.length ≤ 9223372036854775807) (hA : Sl encInt 1 w w.heap.size A l) (hp : 0 < l.length) :
    Calls Try.prog 141 #[.agg #[.int .i64 m.1, .int .i64 m.2], .slice A l.length c] w fun e w' => e = .returned (.int .i64 (Lib.maxOf l)) ∧ Below w.heap.size w w' := by
  have hb0 : Below w.heap.size w (w.alloc (.cells #[.int .i64 m.1, .int .i64 m.2] 72)) := (Below.refl _ _).alloc (Nat.le_refl _) _
  have hA0 := hA.below hb0
  obtain ⟨b, off, rfl, hb, _⟩ := hA0.at1 hp
  have hM := Try.slices_Max_int b off l.length c l _ hp (Nat.le_refl _) hl (fun j hj => by
    have := Sl.at1_ hA0 hj
    rw [this]; simp [hj])
  rw [List.take_length] at hM
  have HM := Lib.hid hM
  clear hM hA hA0
  go_enter Try.func141, Try.ntmps141
  go_wp2_with fail
  refine HM.out.mono ?_
  rintro e w' ⟨rfl, rfl⟩
  go_wp2_with fail
  go_ret
  exact ⟨rfl, hb0⟩
end Go.Proofs.Ytgopdfbmddkpfaa
