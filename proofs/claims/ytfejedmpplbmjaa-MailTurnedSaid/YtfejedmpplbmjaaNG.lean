/- The chapter's example: what it comes to, plainly; conditions: none. -/
import Derived.Test.YtfejedmpplbmjaaNU
import Derived.Test.YtfejedmpplbmjaaM8
set_option linter.unusedSimpArgs false
set_option linter.unusedVariables false
namespace Go.Ml
open Go.RowKit Go.Fh Go.Proofs.Ytfejedmpplbmjaa
def exD : LnD := ⟨[(3, 2), (5, 1)], [3], 3, [[3, 5], [3]]⟩
def exZ : List Int := [0, 0, 0, 0, 1]
def exF : List (Int × Int × Bool) := [(1, 0, false), (2, 1, false), (4, 0, true)]
def exDs : List Drp := [(7, 0, 2), (8, 0, 2)]
def exL : List (Int × Int) := [(0, 0), (1, 0), (2, 0), (3, 0)]
theorem ex_chk : chkL exD = 0 := by decide +kernel
theorem ex_open : openE exD exZ exF = 0 := by decide +kernel
theorem ex_thr : thrK exD exZ exF 5 = [4] := by decide +kernel
theorem ex_rep : repK exD exZ exF 5 = [1] := by decide +kernel
theorem ex_dec : decK exD exZ exF 3 2 = [0] := by decide +kernel
theorem ex_bare : bareK exD exZ exF 5 = [(0, 0, [3, 5], true), (1, 0, [3, 5], true), (2, 0, [3], false), (3, 0, [3, 5], true)] := by decide +kernel
theorem ex_bun : bunS 3 [0] 10 3 exL exDs 2 = [(7, 1, 1, [0, 1], true), (8, 1, 1, [2, 3], true)] := by decide +kernel
theorem ex_sz : szO 10 3 21 = ([10, 6, 5], 0) := by decide +kernel
theorem ex_turn : turO 10 3 1 = ([2, 5, 3], 0) := by decide +kernel
theorem ex_wrg : wrgB 10 3 = false := by decide +kernel
theorem ex_ris : risB 9223372036854775807 [0, 1, 2, 3] = true := by decide +kernel
theorem ex_clm : clmB [0] = true := by decide +kernel
theorem ex_rng : ∀ y ∈ exDs, (0 ≤ y.1 ∧ y.1 ≤ 1000000) ∧ (0 ≤ y.2.1 ∧ y.2.1 < (exD.zones.length : Int)) ∧ 0 ≤ y.2.2 ∧ y.2.2 ≤ 5000 := by decide +kernel
theorem ex_nod : ∀ i (hi : i < exDs.length), (exDs.take i).any (fun y => decide (y.1 = exDs[i].1)) = false := by decide +kernel
theorem ex_enough : ∀ j (hj : j < exDs.length), (exDs[j].2.2).toNat ≤ (remZ exL (exDs.take j) exDs[j].2.1).length := by decide +kernel
end Go.Ml
