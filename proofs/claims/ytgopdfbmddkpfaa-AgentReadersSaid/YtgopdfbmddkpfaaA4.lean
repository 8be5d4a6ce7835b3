/- Contracts: tariffs, accounts, Settle; conditions: none. -/
import Derived.Test.YtgopdfbmddkpfaaA3
import Derived.Test.YtgopdfbmddkpfaaI1
set_option linter.unusedSimpArgs false
set_option linter.unusedVariables false
namespace Go.Proofs.Ytgopdfbmddkpfaa
open Go.RowKit Go.Fh Go.Ag

def tarV (t : TariffD) : Array Value := #[.int .i64 t.price, .int .i64 t.back, .int .i64 t.late, .int .i64 t.carry, .int .i64 t.credit]

theorem wrongT_any (t : TariffD) (w : World) :
    Calls Try.prog 65 #[.agg (tarV t)] w fun e w' => e = .returned (.bool (wrongT t)) ∧ Below w.heap.size w w' := by
  obtain ⟨p, b, l, c, d⟩ := t
  unfold tarV
  dsimp only
  have hS : Sl encInt 1 ((w.alloc (.cells #[.int .i64 p, .int .i64 b, .int .i64 l, .int .i64 c, .int .i64 d] 36)).alloc (.cells #[.int .i64 p, .int .i64 b, .int .i64 l, .int .i64 c, .int .i64 d] 3)) ((w.alloc (.cells #[.int .i64 p, .int .i64 b, .int .i64 l, .int .i64 c, .int .i64 d] 36)).alloc (.cells #[.int .i64 p, .int .i64 b, .int .i64 l, .int .i64 c, .int .i64 d] 3)).heap.size (some ⟨w.heap.size + 1, 0, none⟩) [p, b, l, c, d] := by
    have := Blk.new (w.alloc (.cells #[.int .i64 p, .int .i64 b, .int .i64 l, .int .i64 c, .int .i64 d] 36)) 3 #[.int .i64 p, .int .i64 b, .int .i64 l, .int .i64 c, .int .i64 d]
    rw [World.size_alloc] at this
    exact Sl.of_blk (enc := encInt) (fun _ => rfl) (by simp [maxLen]) this rfl
  have hc := anyBadPrice_any (some ⟨w.heap.size + 1, 0, none⟩) 5 [p, b, l, c, d] _ (by simp) hS
  have hb0 := (((Below.refl w.heap.size w).alloc (Nat.le_refl _) (.cells #[.int .i64 p, .int .i64 b, .int .i64 l, .int .i64 c, .int .i64 d] 36)).alloc (by simp) (.cells #[.int .i64 p, .int .i64 b, .int .i64 l, .int .i64 c, .int .i64 d] 3))
  cases h1 : [p, b, l, c, d].any badPrice
  · by_cases h2 : p < b
    · go_enter Try.func65, Try.ntmps65
      go_wp2_with (go_at_call 108; refine hc.mono ?_; clear hc; rintro e w' ⟨rfl, hb⟩; obtain ⟨q1, q2⟩ := bcell hb)
      go_ret
      exact ⟨ret_bool (by simp only [wrongT, h1]; simp [h2]), hb0.trans (hb.mono (by simp; omega))⟩
    · by_cases h3 : p < l
      all_goals
        go_enter Try.func65, Try.ntmps65
        go_wp2_with (go_at_call 108; refine hc.mono ?_; clear hc; rintro e w' ⟨rfl, hb⟩; obtain ⟨q1, q2⟩ := bcell hb)
        go_ret
        exact ⟨ret_bool (by simp only [wrongT, h1]; first | (simp; done) | (simp; omega)), hb0.trans (hb.mono (by simp; omega))⟩
  · go_enter Try.func65, Try.ntmps65
    go_wp2_with (go_at_call 108; refine hc.mono ?_; clear hc; rintro e w' ⟨rfl, hb⟩)
    go_ret
    exact ⟨ret_bool (by simp only [wrongT, h1]; simp), hb0.trans (hb.mono (by simp; omega))⟩

theorem account_any (w : World) :
    Calls Try.prog 66 #[] w fun e w' => e = .returned (.tuple #[.pointer (some ⟨w.heap.size, 0, none⟩), .func (.func 110) #[] #[.pointer (some ⟨w.heap.size + 1, 0, none⟩)]]) ∧
      (w.alloc (.cells #[.slice none 0 0, .int .i64 0] 53)).alloc (.cells #[.pointer (some ⟨w.heap.size, 0, none⟩)] 130) = w' := by
  go_enter Try.func66, Try.ntmps66
  go_wp2
  go_ret2
  exact ⟨rfl, rfl⟩
end Go.Proofs.Ytgopdfbmddkpfaa
