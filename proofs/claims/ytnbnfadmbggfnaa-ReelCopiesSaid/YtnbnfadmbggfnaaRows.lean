/-
  No cell of these rows narrows 'for every input' (looked for: loops, veiled, ifaces, maps, wideKeys, modest, calm, conditions, laid).
  DERIVED. THE GIVEN ROWS OF THIS SEAT. 9 by the template 'for every input the law returns true; each argument reads behind the call as it read before'; 0 by the template 'total and deterministic' (their statements: YtnbnfadmbggfnaaTotals.lean).
  GIVEN WITH THE SEED: the statements are not yours to turn. If you find one false, say at which input.
  Laid BY PROGRAM, IN A SANDBOX (cutbox-rows.mjs): the forced cells as the released guide's own fill.sh prints them over the translation 59c19eec29cb9d6a… (all of the seat's roots in one cut). By AI agents, Wed Nov 11 2026. No macro, syntax, notation, axiom, sorry.
-/
import Derived.Test.YtnbnfadmbggfnaaChecked
import GoSem.Claim
import GoSem.ClaimJoined
import GoSem.ClaimMapViews
import Derived.JoinedTies
import Derived.KernelRfl
namespace Go.Proofs.Ytnbnfadmbggfnaa
/- THE CELL 'sum', in the pinned program and in every row, IS THE sha256 OF THE DUMP (.gsa) THAT YtnbnfadmbggfnaaProg.lean LOADS. Nothing in Lean hashes anything: it is a label: what it is worth is what the hold of that sum in a sandbox is worth. -/
noncomputable def Try.pinned : Pinned := { name := "ytnbnfadmbggfnaa", sum := "59c19eec29cb9d6ae9e2f9bc76bcb2cd6938558d64e60ab68b556c664ee94985", checked := Try.checked }
namespace Rows
def none {H : Type} : Left H := { results := [], args := [] }

/-- 'foldhouselaw06.ReelRun': WHATEVER THE INPUT: true; the input reads as it did. -/
def reelRunSpec : ChangeSpec := { name := "reelRun", fn := fun _ => fun
  | [d1, d2, d3] => { results := [.lit (.bool true)], args := [d1, d2, d3] }
  | _ => none }
def reelRunRow : OpenClaim := { program := "ytnbnfadmbggfnaa", sum := "59c19eec29cb9d6ae9e2f9bc76bcb2cd6938558d64e60ab68b556c664ee94985", func := "foldhouse/foldhouselaw06.ReelRun", spec := "reelRun", unfollowed := true, recurses := true, plainKeys := false, apart := false }
def ReelRunSaid : Prop := reelRunRow.holds Try.pinned (OpenSpec.ofChange reelRunSpec)

/-- ITS FALSE NEIGHBOUR: 'it returns false'. Refute it at one input. -/
def reelRunWrong : ChangeSpec := { name := "reelRun", fn := fun _ => fun
  | [d1, d2, d3] => { results := [.lit (.bool false)], args := [d1, d2, d3] }
  | _ => none }
def ReelRunWrongFalsely : Prop := reelRunRow.holds Try.pinned (OpenSpec.ofChange reelRunWrong)

/-- 'foldhouselaw06.ReelMargin': WHATEVER THE INPUT: true; the input reads as it did. -/
def reelMarginSpec : ChangeSpec := { name := "reelMargin", fn := fun _ => fun
  | [d1, d2, d3, d4, d5] => { results := [.lit (.bool true)], args := [d1, d2, d3, d4, d5] }
  | _ => none }
def reelMarginRow : OpenClaim := { program := "ytnbnfadmbggfnaa", sum := "59c19eec29cb9d6ae9e2f9bc76bcb2cd6938558d64e60ab68b556c664ee94985", func := "foldhouse/foldhouselaw06.ReelMargin", spec := "reelMargin", unfollowed := true, recurses := true, plainKeys := false, apart := false }
def ReelMarginSaid : Prop := reelMarginRow.holds Try.pinned (OpenSpec.ofChange reelMarginSpec)

/-- ITS FALSE NEIGHBOUR: 'it returns false'. Refute it at one input. -/
def reelMarginWrong : ChangeSpec := { name := "reelMargin", fn := fun _ => fun
  | [d1, d2, d3, d4, d5] => { results := [.lit (.bool false)], args := [d1, d2, d3, d4, d5] }
  | _ => none }
def ReelMarginWrongFalsely : Prop := reelMarginRow.holds Try.pinned (OpenSpec.ofChange reelMarginWrong)

/-- 'foldhouselaw06.ReelClean': WHATEVER THE INPUT: true; the input reads as it did. -/
def reelCleanSpec : ChangeSpec := { name := "reelClean", fn := fun _ => fun
  | [d1, d2, d3] => { results := [.lit (.bool true)], args := [d1, d2, d3] }
  | _ => none }
def reelCleanRow : OpenClaim := { program := "ytnbnfadmbggfnaa", sum := "59c19eec29cb9d6ae9e2f9bc76bcb2cd6938558d64e60ab68b556c664ee94985", func := "foldhouse/foldhouselaw06.ReelClean", spec := "reelClean", unfollowed := true, recurses := true, plainKeys := false, apart := false }
def ReelCleanSaid : Prop := reelCleanRow.holds Try.pinned (OpenSpec.ofChange reelCleanSpec)

/-- ITS FALSE NEIGHBOUR: 'it returns false'. Refute it at one input. -/
def reelCleanWrong : ChangeSpec := { name := "reelClean", fn := fun _ => fun
  | [d1, d2, d3] => { results := [.lit (.bool false)], args := [d1, d2, d3] }
  | _ => none }
def ReelCleanWrongFalsely : Prop := reelCleanRow.holds Try.pinned (OpenSpec.ofChange reelCleanWrong)

/-- 'foldhouselaw06.ReelUsed': WHATEVER THE INPUT: true; the input reads as it did. -/
def reelUsedSpec : ChangeSpec := { name := "reelUsed", fn := fun _ => fun
  | [d1, d2] => { results := [.lit (.bool true)], args := [d1, d2] }
  | _ => none }
def reelUsedRow : OpenClaim := { program := "ytnbnfadmbggfnaa", sum := "59c19eec29cb9d6ae9e2f9bc76bcb2cd6938558d64e60ab68b556c664ee94985", func := "foldhouse/foldhouselaw06.ReelUsed", spec := "reelUsed", unfollowed := true, recurses := true, plainKeys := false, apart := false }
def ReelUsedSaid : Prop := reelUsedRow.holds Try.pinned (OpenSpec.ofChange reelUsedSpec)

/-- ITS FALSE NEIGHBOUR: 'it returns false'. Refute it at one input. -/
def reelUsedWrong : ChangeSpec := { name := "reelUsed", fn := fun _ => fun
  | [d1, d2] => { results := [.lit (.bool false)], args := [d1, d2] }
  | _ => none }
def ReelUsedWrongFalsely : Prop := reelUsedRow.holds Try.pinned (OpenSpec.ofChange reelUsedWrong)

/-- 'foldhouselaw06.ReelMills': WHATEVER THE INPUT: true; the input reads as it did. -/
def reelMillsSpec : ChangeSpec := { name := "reelMills", fn := fun _ => fun
  | [d1, d2, d3, d4, d5, d6, d7] => { results := [.lit (.bool true)], args := [d1, d2, d3, d4, d5, d6, d7] }
  | _ => none }
def reelMillsRow : OpenClaim := { program := "ytnbnfadmbggfnaa", sum := "59c19eec29cb9d6ae9e2f9bc76bcb2cd6938558d64e60ab68b556c664ee94985", func := "foldhouse/foldhouselaw06.ReelMills", spec := "reelMills", unfollowed := true, recurses := true, plainKeys := false, apart := false }
def ReelMillsSaid : Prop := reelMillsRow.holds Try.pinned (OpenSpec.ofChange reelMillsSpec)

/-- ITS FALSE NEIGHBOUR: 'it returns false'. Refute it at one input. -/
def reelMillsWrong : ChangeSpec := { name := "reelMills", fn := fun _ => fun
  | [d1, d2, d3, d4, d5, d6, d7] => { results := [.lit (.bool false)], args := [d1, d2, d3, d4, d5, d6, d7] }
  | _ => none }
def ReelMillsWrongFalsely : Prop := reelMillsRow.holds Try.pinned (OpenSpec.ofChange reelMillsWrong)

/-- 'foldhouselaw06.ReelSupplies': WHATEVER THE INPUT: true; the input reads as it did. -/
def reelSuppliesSpec : ChangeSpec := { name := "reelSupplies", fn := fun _ => fun
  | [d1, d2, d3] => { results := [.lit (.bool true)], args := [d1, d2, d3] }
  | _ => none }
def reelSuppliesRow : OpenClaim := { program := "ytnbnfadmbggfnaa", sum := "59c19eec29cb9d6ae9e2f9bc76bcb2cd6938558d64e60ab68b556c664ee94985", func := "foldhouse/foldhouselaw06.ReelSupplies", spec := "reelSupplies", unfollowed := true, recurses := true, plainKeys := false, apart := false }
def ReelSuppliesSaid : Prop := reelSuppliesRow.holds Try.pinned (OpenSpec.ofChange reelSuppliesSpec)

/-- ITS FALSE NEIGHBOUR: 'it returns false'. Refute it at one input. -/
def reelSuppliesWrong : ChangeSpec := { name := "reelSupplies", fn := fun _ => fun
  | [d1, d2, d3] => { results := [.lit (.bool false)], args := [d1, d2, d3] }
  | _ => none }
def ReelSuppliesWrongFalsely : Prop := reelSuppliesRow.holds Try.pinned (OpenSpec.ofChange reelSuppliesWrong)

/-- 'foldhouselaw06.ReelCopies': WHATEVER THE INPUT: true; the input reads as it did. -/
def reelCopiesSpec : ChangeSpec := { name := "reelCopies", fn := fun _ => fun
  | [d1, d2, d3, d4] => { results := [.lit (.bool true)], args := [d1, d2, d3, d4] }
  | _ => none }
def reelCopiesRow : OpenClaim := { program := "ytnbnfadmbggfnaa", sum := "59c19eec29cb9d6ae9e2f9bc76bcb2cd6938558d64e60ab68b556c664ee94985", func := "foldhouse/foldhouselaw06.ReelCopies", spec := "reelCopies", unfollowed := true, recurses := true, plainKeys := false, apart := false }
def ReelCopiesSaid : Prop := reelCopiesRow.holds Try.pinned (OpenSpec.ofChange reelCopiesSpec)

/-- ITS FALSE NEIGHBOUR: 'it returns false'. Refute it at one input. -/
def reelCopiesWrong : ChangeSpec := { name := "reelCopies", fn := fun _ => fun
  | [d1, d2, d3, d4] => { results := [.lit (.bool false)], args := [d1, d2, d3, d4] }
  | _ => none }
def ReelCopiesWrongFalsely : Prop := reelCopiesRow.holds Try.pinned (OpenSpec.ofChange reelCopiesWrong)

/-- 'foldhouselaw06.ReelPlanned': WHATEVER THE INPUT: true; the input reads as it did. -/
def reelPlannedSpec : ChangeSpec := { name := "reelPlanned", fn := fun _ => fun
  | [d1, d2] => { results := [.lit (.bool true)], args := [d1, d2] }
  | _ => none }
def reelPlannedRow : OpenClaim := { program := "ytnbnfadmbggfnaa", sum := "59c19eec29cb9d6ae9e2f9bc76bcb2cd6938558d64e60ab68b556c664ee94985", func := "foldhouse/foldhouselaw06.ReelPlanned", spec := "reelPlanned", unfollowed := true, recurses := true, plainKeys := false, apart := false }
def ReelPlannedSaid : Prop := reelPlannedRow.holds Try.pinned (OpenSpec.ofChange reelPlannedSpec)

/-- ITS FALSE NEIGHBOUR: 'it returns false'. Refute it at one input. -/
def reelPlannedWrong : ChangeSpec := { name := "reelPlanned", fn := fun _ => fun
  | [d1, d2] => { results := [.lit (.bool false)], args := [d1, d2] }
  | _ => none }
def ReelPlannedWrongFalsely : Prop := reelPlannedRow.holds Try.pinned (OpenSpec.ofChange reelPlannedWrong)

/-- 'foldhouselaw06.ReelZones': WHATEVER THE INPUT: true; the input reads as it did. -/
def reelZonesSpec : ChangeSpec := { name := "reelZones", fn := fun _ => fun
  | [d1, d2, d3] => { results := [.lit (.bool true)], args := [d1, d2, d3] }
  | _ => none }
def reelZonesRow : OpenClaim := { program := "ytnbnfadmbggfnaa", sum := "59c19eec29cb9d6ae9e2f9bc76bcb2cd6938558d64e60ab68b556c664ee94985", func := "foldhouse/foldhouselaw06.ReelZones", spec := "reelZones", inPlace := ["slices.overlaps[int]"], unfollowed := true, recurses := true, plainKeys := false, apart := false }
def ReelZonesSaid : Prop := reelZonesRow.holds Try.pinned (OpenSpec.ofChange reelZonesSpec)

/-- ITS FALSE NEIGHBOUR: 'it returns false'. Refute it at one input. -/
def reelZonesWrong : ChangeSpec := { name := "reelZones", fn := fun _ => fun
  | [d1, d2, d3] => { results := [.lit (.bool false)], args := [d1, d2, d3] }
  | _ => none }
def ReelZonesWrongFalsely : Prop := reelZonesRow.holds Try.pinned (OpenSpec.ofChange reelZonesWrong)

/- THE SECOND FORM. 'bulk': how many values and letters a reading holds, each counted each time it is reached (what is shared counts as often as it is met; a slice's spare places count too). A statement '..UptoSaid' is the law's where the arguments, and the package variables that the reading takes, are together of bulk at most 1048576: NARROWER than '..Said'. Prove '..Said' where nothing that the law and all that it calls make is longer than what came in: it says more and counts as full. Else prove '..UptoSaid'. A law counts once. -/
mutual
def uptoBulk {H : Type} : DataW H → Nat
  | .lit (.string bytes) => bytes.length + 1
  | .lit _ => 1
  | .nil => 1
  | .ptr d => uptoBulk d + 1
  | .slice elems spare => uptoBulkAll elems + uptoBulkAll spare + 1
  | .agg parts => uptoBulkAll parts + 1
  | .iface _ d => uptoBulk d + 1
  | .map entries => uptoBulkEntries entries + 1
  | .held _ => 1
def uptoBulkAll {H : Type} : List (DataW H) → Nat
  | [] => 0
  | d :: r => uptoBulk d + uptoBulkAll r
def uptoBulkEntries {H : Type} : List (Lit × DataW H) → Nat
  | [] => 0
  | x :: r => uptoBulkEntry x + uptoBulkEntries r
def uptoBulkEntry {H : Type} : Lit × DataW H → Nat
  | (.string bytes, d) => bytes.length + uptoBulk d + 1
  | (_, d) => uptoBulk d + 1
 end
def uptoSmall : (H : Type) → List (DataW H) → Bool := fun _ ds => decide (uptoBulkAll ds ≤ 1048576)
def OpenSpec.upto (s : _root_.Go.ChangeSpec) : _root_.Go.OpenSpec := { _root_.Go.OpenSpec.ofChange s with cond := some uptoSmall }

/-- 'foldhouselaw06.ReelRun', WHERE WHAT IT READS IS OF BULK AT MOST 1048576: true; the input reads as it did. -/
def reelRunUptoRow : OpenClaim := { program := "ytnbnfadmbggfnaa", sum := "59c19eec29cb9d6ae9e2f9bc76bcb2cd6938558d64e60ab68b556c664ee94985", func := "foldhouse/foldhouselaw06.ReelRun", spec := "reelRun", unfollowed := true, recurses := true, plainKeys := false, apart := false, narrowed := true }
def ReelRunUptoSaid : Prop := reelRunUptoRow.holds Try.pinned (OpenSpec.upto reelRunSpec)

/-- 'foldhouselaw06.ReelMargin', WHERE WHAT IT READS IS OF BULK AT MOST 1048576: true; the input reads as it did. -/
def reelMarginUptoRow : OpenClaim := { program := "ytnbnfadmbggfnaa", sum := "59c19eec29cb9d6ae9e2f9bc76bcb2cd6938558d64e60ab68b556c664ee94985", func := "foldhouse/foldhouselaw06.ReelMargin", spec := "reelMargin", unfollowed := true, recurses := true, plainKeys := false, apart := false, narrowed := true }
def ReelMarginUptoSaid : Prop := reelMarginUptoRow.holds Try.pinned (OpenSpec.upto reelMarginSpec)

/-- 'foldhouselaw06.ReelClean', WHERE WHAT IT READS IS OF BULK AT MOST 1048576: true; the input reads as it did. -/
def reelCleanUptoRow : OpenClaim := { program := "ytnbnfadmbggfnaa", sum := "59c19eec29cb9d6ae9e2f9bc76bcb2cd6938558d64e60ab68b556c664ee94985", func := "foldhouse/foldhouselaw06.ReelClean", spec := "reelClean", unfollowed := true, recurses := true, plainKeys := false, apart := false, narrowed := true }
def ReelCleanUptoSaid : Prop := reelCleanUptoRow.holds Try.pinned (OpenSpec.upto reelCleanSpec)

/-- 'foldhouselaw06.ReelUsed', WHERE WHAT IT READS IS OF BULK AT MOST 1048576: true; the input reads as it did. -/
def reelUsedUptoRow : OpenClaim := { program := "ytnbnfadmbggfnaa", sum := "59c19eec29cb9d6ae9e2f9bc76bcb2cd6938558d64e60ab68b556c664ee94985", func := "foldhouse/foldhouselaw06.ReelUsed", spec := "reelUsed", unfollowed := true, recurses := true, plainKeys := false, apart := false, narrowed := true }
def ReelUsedUptoSaid : Prop := reelUsedUptoRow.holds Try.pinned (OpenSpec.upto reelUsedSpec)

/-- 'foldhouselaw06.ReelMills', WHERE WHAT IT READS IS OF BULK AT MOST 1048576: true; the input reads as it did. -/
def reelMillsUptoRow : OpenClaim := { program := "ytnbnfadmbggfnaa", sum := "59c19eec29cb9d6ae9e2f9bc76bcb2cd6938558d64e60ab68b556c664ee94985", func := "foldhouse/foldhouselaw06.ReelMills", spec := "reelMills", unfollowed := true, recurses := true, plainKeys := false, apart := false, narrowed := true }
def ReelMillsUptoSaid : Prop := reelMillsUptoRow.holds Try.pinned (OpenSpec.upto reelMillsSpec)

/-- 'foldhouselaw06.ReelSupplies', WHERE WHAT IT READS IS OF BULK AT MOST 1048576: true; the input reads as it did. -/
def reelSuppliesUptoRow : OpenClaim := { program := "ytnbnfadmbggfnaa", sum := "59c19eec29cb9d6ae9e2f9bc76bcb2cd6938558d64e60ab68b556c664ee94985", func := "foldhouse/foldhouselaw06.ReelSupplies", spec := "reelSupplies", unfollowed := true, recurses := true, plainKeys := false, apart := false, narrowed := true }
def ReelSuppliesUptoSaid : Prop := reelSuppliesUptoRow.holds Try.pinned (OpenSpec.upto reelSuppliesSpec)

/-- 'foldhouselaw06.ReelCopies', WHERE WHAT IT READS IS OF BULK AT MOST 1048576: true; the input reads as it did. -/
def reelCopiesUptoRow : OpenClaim := { program := "ytnbnfadmbggfnaa", sum := "59c19eec29cb9d6ae9e2f9bc76bcb2cd6938558d64e60ab68b556c664ee94985", func := "foldhouse/foldhouselaw06.ReelCopies", spec := "reelCopies", unfollowed := true, recurses := true, plainKeys := false, apart := false, narrowed := true }
def ReelCopiesUptoSaid : Prop := reelCopiesUptoRow.holds Try.pinned (OpenSpec.upto reelCopiesSpec)

/-- 'foldhouselaw06.ReelPlanned', WHERE WHAT IT READS IS OF BULK AT MOST 1048576: true; the input reads as it did. -/
def reelPlannedUptoRow : OpenClaim := { program := "ytnbnfadmbggfnaa", sum := "59c19eec29cb9d6ae9e2f9bc76bcb2cd6938558d64e60ab68b556c664ee94985", func := "foldhouse/foldhouselaw06.ReelPlanned", spec := "reelPlanned", unfollowed := true, recurses := true, plainKeys := false, apart := false, narrowed := true }
def ReelPlannedUptoSaid : Prop := reelPlannedUptoRow.holds Try.pinned (OpenSpec.upto reelPlannedSpec)

/-- 'foldhouselaw06.ReelZones', WHERE WHAT IT READS IS OF BULK AT MOST 1048576: true; the input reads as it did. -/
def reelZonesUptoRow : OpenClaim := { program := "ytnbnfadmbggfnaa", sum := "59c19eec29cb9d6ae9e2f9bc76bcb2cd6938558d64e60ab68b556c664ee94985", func := "foldhouse/foldhouselaw06.ReelZones", spec := "reelZones", inPlace := ["slices.overlaps[int]"], unfollowed := true, recurses := true, plainKeys := false, apart := false, narrowed := true }
def ReelZonesUptoSaid : Prop := reelZonesUptoRow.holds Try.pinned (OpenSpec.upto reelZonesSpec)

end Rows
end Go.Proofs.Ytnbnfadmbggfnaa
