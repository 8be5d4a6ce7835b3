/-
  No cell of these rows narrows 'for every input' (looked for: loops, veiled, ifaces, maps, wideKeys, modest, calm, conditions, laid).
  DERIVED. THE GIVEN ROWS OF THIS SEAT. 7 by the template 'for every input the law returns true; each argument reads behind the call as it read before'; 0 by the template 'total and deterministic' (their statements: YtokdleanpkkdpaaTotals.lean).
  GIVEN WITH THE SEED: the statements are not yours to turn. If you find one false, say at which input.
  Laid BY PROGRAM, IN A SANDBOX (cutbox-rows.mjs): the forced cells as the released guide's own fill.sh prints them over the translation f00eb2ad8bd87f08… (all of the seat's roots in one cut). By AI agents, Wed Nov 11 2026. No macro, syntax, notation, axiom, sorry.
-/
import Derived.Test.YtokdleanpkkdpaaChecked
import GoSem.Claim
import GoSem.ClaimJoined
import GoSem.ClaimMapViews
import Derived.JoinedTies
import Derived.KernelRfl
namespace Go.Proofs.Ytokdleanpkkdpaa
/- THE CELL 'sum', in the pinned program and in every row, IS THE sha256 OF THE DUMP (.gsa) THAT YtokdleanpkkdpaaProg.lean LOADS. Nothing in Lean hashes anything: it is a label: what it is worth is what the hold of that sum in a sandbox is worth. -/
noncomputable def Try.pinned : Pinned := { name := "ytokdleanpkkdpaa", sum := "f00eb2ad8bd87f08818cc3df3d863c71dfad8f407e9f2eabf9953d53881fbf8f", checked := Try.checked }
namespace Rows
def none {H : Type} : Left H := { results := [], args := [] }

/-- 'foldhouselaw03.EditionTells': WHATEVER THE INPUT: true; the input reads as it did. -/
def editionTellsSpec : ChangeSpec := { name := "editionTells", fn := fun _ => fun
  | [d1, d2, d3, d4] => { results := [.lit (.bool true)], args := [d1, d2, d3, d4] }
  | _ => none }
def editionTellsRow : OpenClaim := { program := "ytokdleanpkkdpaa", sum := "f00eb2ad8bd87f08818cc3df3d863c71dfad8f407e9f2eabf9953d53881fbf8f", func := "foldhouse/foldhouselaw03.EditionTells", spec := "editionTells", unfollowed := true, recurses := true, plainKeys := false, apart := false }
def EditionTellsSaid : Prop := editionTellsRow.holds Try.pinned (OpenSpec.ofChange editionTellsSpec)

/-- ITS FALSE NEIGHBOUR: 'it returns false'. Refute it at one input. -/
def editionTellsWrong : ChangeSpec := { name := "editionTells", fn := fun _ => fun
  | [d1, d2, d3, d4] => { results := [.lit (.bool false)], args := [d1, d2, d3, d4] }
  | _ => none }
def EditionTellsWrongFalsely : Prop := editionTellsRow.holds Try.pinned (OpenSpec.ofChange editionTellsWrong)

/-- 'foldhouselaw03.EditionCopies': WHATEVER THE INPUT: true; the input reads as it did. -/
def editionCopiesSpec : ChangeSpec := { name := "editionCopies", fn := fun _ => fun
  | [d1, d2, d3, d4, d5] => { results := [.lit (.bool true)], args := [d1, d2, d3, d4, d5] }
  | _ => none }
def editionCopiesRow : OpenClaim := { program := "ytokdleanpkkdpaa", sum := "f00eb2ad8bd87f08818cc3df3d863c71dfad8f407e9f2eabf9953d53881fbf8f", func := "foldhouse/foldhouselaw03.EditionCopies", spec := "editionCopies", unfollowed := true, recurses := true, plainKeys := false, apart := false }
def EditionCopiesSaid : Prop := editionCopiesRow.holds Try.pinned (OpenSpec.ofChange editionCopiesSpec)

/-- ITS FALSE NEIGHBOUR: 'it returns false'. Refute it at one input. -/
def editionCopiesWrong : ChangeSpec := { name := "editionCopies", fn := fun _ => fun
  | [d1, d2, d3, d4, d5] => { results := [.lit (.bool false)], args := [d1, d2, d3, d4, d5] }
  | _ => none }
def EditionCopiesWrongFalsely : Prop := editionCopiesRow.holds Try.pinned (OpenSpec.ofChange editionCopiesWrong)

/-- 'foldhouselaw03.EditionZones': WHATEVER THE INPUT: true; the input reads as it did. -/
def editionZonesSpec : ChangeSpec := { name := "editionZones", fn := fun _ => fun
  | [d1, d2, d3] => { results := [.lit (.bool true)], args := [d1, d2, d3] }
  | _ => none }
def editionZonesRow : OpenClaim := { program := "ytokdleanpkkdpaa", sum := "f00eb2ad8bd87f08818cc3df3d863c71dfad8f407e9f2eabf9953d53881fbf8f", func := "foldhouse/foldhouselaw03.EditionZones", spec := "editionZones", inPlace := ["slices.overlaps[int]"], unfollowed := true, recurses := true, plainKeys := false, apart := false }
def EditionZonesSaid : Prop := editionZonesRow.holds Try.pinned (OpenSpec.ofChange editionZonesSpec)

/-- ITS FALSE NEIGHBOUR: 'it returns false'. Refute it at one input. -/
def editionZonesWrong : ChangeSpec := { name := "editionZones", fn := fun _ => fun
  | [d1, d2, d3] => { results := [.lit (.bool false)], args := [d1, d2, d3] }
  | _ => none }
def EditionZonesWrongFalsely : Prop := editionZonesRow.holds Try.pinned (OpenSpec.ofChange editionZonesWrong)

/-- 'foldhouselaw03.EditionDistance': WHATEVER THE INPUT: true; the input reads as it did. -/
def editionDistanceSpec : ChangeSpec := { name := "editionDistance", fn := fun _ => fun
  | [d1, d2, d3, d4, d5] => { results := [.lit (.bool true)], args := [d1, d2, d3, d4, d5] }
  | _ => none }
def editionDistanceRow : OpenClaim := { program := "ytokdleanpkkdpaa", sum := "f00eb2ad8bd87f08818cc3df3d863c71dfad8f407e9f2eabf9953d53881fbf8f", func := "foldhouse/foldhouselaw03.EditionDistance", spec := "editionDistance", inPlace := ["slices.overlaps[int]"], unfollowed := true, recurses := true, plainKeys := false, apart := false }
def EditionDistanceSaid : Prop := editionDistanceRow.holds Try.pinned (OpenSpec.ofChange editionDistanceSpec)

/-- ITS FALSE NEIGHBOUR: 'it returns false'. Refute it at one input. -/
def editionDistanceWrong : ChangeSpec := { name := "editionDistance", fn := fun _ => fun
  | [d1, d2, d3, d4, d5] => { results := [.lit (.bool false)], args := [d1, d2, d3, d4, d5] }
  | _ => none }
def EditionDistanceWrongFalsely : Prop := editionDistanceRow.holds Try.pinned (OpenSpec.ofChange editionDistanceWrong)

/-- 'foldhouselaw03.EditionBest': WHATEVER THE INPUT: true; the input reads as it did. -/
def editionBestSpec : ChangeSpec := { name := "editionBest", fn := fun _ => fun
  | [d1, d2] => { results := [.lit (.bool true)], args := [d1, d2] }
  | _ => none }
def editionBestRow : OpenClaim := { program := "ytokdleanpkkdpaa", sum := "f00eb2ad8bd87f08818cc3df3d863c71dfad8f407e9f2eabf9953d53881fbf8f", func := "foldhouse/foldhouselaw03.EditionBest", spec := "editionBest", unfollowed := true, recurses := true, plainKeys := false, apart := false }
def EditionBestSaid : Prop := editionBestRow.holds Try.pinned (OpenSpec.ofChange editionBestSpec)

/-- ITS FALSE NEIGHBOUR: 'it returns false'. Refute it at one input. -/
def editionBestWrong : ChangeSpec := { name := "editionBest", fn := fun _ => fun
  | [d1, d2] => { results := [.lit (.bool false)], args := [d1, d2] }
  | _ => none }
def EditionBestWrongFalsely : Prop := editionBestRow.holds Try.pinned (OpenSpec.ofChange editionBestWrong)

/-- 'foldhouselaw03.EditionLatest': WHATEVER THE INPUT: true; the input reads as it did. -/
def editionLatestSpec : ChangeSpec := { name := "editionLatest", fn := fun _ => fun
  | [d1, d2, d3, d4, d5, d6] => { results := [.lit (.bool true)], args := [d1, d2, d3, d4, d5, d6] }
  | _ => none }
def editionLatestRow : OpenClaim := { program := "ytokdleanpkkdpaa", sum := "f00eb2ad8bd87f08818cc3df3d863c71dfad8f407e9f2eabf9953d53881fbf8f", func := "foldhouse/foldhouselaw03.EditionLatest", spec := "editionLatest", inPlace := ["slices.overlaps[int]"], unfollowed := true, recurses := true, plainKeys := false, apart := false }
def EditionLatestSaid : Prop := editionLatestRow.holds Try.pinned (OpenSpec.ofChange editionLatestSpec)

/-- ITS FALSE NEIGHBOUR: 'it returns false'. Refute it at one input. -/
def editionLatestWrong : ChangeSpec := { name := "editionLatest", fn := fun _ => fun
  | [d1, d2, d3, d4, d5, d6] => { results := [.lit (.bool false)], args := [d1, d2, d3, d4, d5, d6] }
  | _ => none }
def EditionLatestWrongFalsely : Prop := editionLatestRow.holds Try.pinned (OpenSpec.ofChange editionLatestWrong)

/-- 'foldhouselaw03.EditionProved': WHATEVER THE INPUT: true; the input reads as it did. -/
def editionProvedSpec : ChangeSpec := { name := "editionProved", fn := fun _ => fun
  | [d1, d2, d3, d4] => { results := [.lit (.bool true)], args := [d1, d2, d3, d4] }
  | _ => none }
def editionProvedRow : OpenClaim := { program := "ytokdleanpkkdpaa", sum := "f00eb2ad8bd87f08818cc3df3d863c71dfad8f407e9f2eabf9953d53881fbf8f", func := "foldhouse/foldhouselaw03.EditionProved", spec := "editionProved", inPlace := ["slices.overlaps[int]"], unfollowed := true, recurses := true, plainKeys := false, apart := false }
def EditionProvedSaid : Prop := editionProvedRow.holds Try.pinned (OpenSpec.ofChange editionProvedSpec)

/-- ITS FALSE NEIGHBOUR: 'it returns false'. Refute it at one input. -/
def editionProvedWrong : ChangeSpec := { name := "editionProved", fn := fun _ => fun
  | [d1, d2, d3, d4] => { results := [.lit (.bool false)], args := [d1, d2, d3, d4] }
  | _ => none }
def EditionProvedWrongFalsely : Prop := editionProvedRow.holds Try.pinned (OpenSpec.ofChange editionProvedWrong)

/- THE SECOND FORM. 'bulk': how many values and letters a reading holds, each counted each time it is reached (what is shared counts as often as it is met; a slice's spare places count too). A statement '..UptoSaid' is the law's where the arguments, and the package variables that the reading takes, are together of bulk at most 1048576: NARROWER than '..Said'. Prove '..Said' where nothing that the law and all that it calls make is longer than what came in: it says more and counts as full. Else prove '..UptoSaid'. A law counts once. -/
mutual
def uptoBulk {H : Type} : DataW H → Nat
  | .lit (.string bytes) => bytes.length + 1
  | .lit _ => 1
  | .nil => 1
  | .ptr d => uptoBulk d + 1
  | .slice elems spare => uptoBulkAll elems + uptoBulkAll spare + 1
  | .agg parts => uptoBulkAll parts + 1
  | .iface _ d => uptoBulk d + 1
  | .map entries => uptoBulkEntries entries + 1
  | .held _ => 1
def uptoBulkAll {H : Type} : List (DataW H) → Nat
  | [] => 0
  | d :: r => uptoBulk d + uptoBulkAll r
def uptoBulkEntries {H : Type} : List (Lit × DataW H) → Nat
  | [] => 0
  | x :: r => uptoBulkEntry x + uptoBulkEntries r
def uptoBulkEntry {H : Type} : Lit × DataW H → Nat
  | (.string bytes, d) => bytes.length + uptoBulk d + 1
  | (_, d) => uptoBulk d + 1
 end
def uptoSmall : (H : Type) → List (DataW H) → Bool := fun _ ds => decide (uptoBulkAll ds ≤ 1048576)
def OpenSpec.upto (s : _root_.Go.ChangeSpec) : _root_.Go.OpenSpec := { _root_.Go.OpenSpec.ofChange s with cond := some uptoSmall }

/-- 'foldhouselaw03.EditionTells', WHERE WHAT IT READS IS OF BULK AT MOST 1048576: true; the input reads as it did. -/
def editionTellsUptoRow : OpenClaim := { program := "ytokdleanpkkdpaa", sum := "f00eb2ad8bd87f08818cc3df3d863c71dfad8f407e9f2eabf9953d53881fbf8f", func := "foldhouse/foldhouselaw03.EditionTells", spec := "editionTells", unfollowed := true, recurses := true, plainKeys := false, apart := false, narrowed := true }
def EditionTellsUptoSaid : Prop := editionTellsUptoRow.holds Try.pinned (OpenSpec.upto editionTellsSpec)

/-- 'foldhouselaw03.EditionCopies', WHERE WHAT IT READS IS OF BULK AT MOST 1048576: true; the input reads as it did. -/
def editionCopiesUptoRow : OpenClaim := { program := "ytokdleanpkkdpaa", sum := "f00eb2ad8bd87f08818cc3df3d863c71dfad8f407e9f2eabf9953d53881fbf8f", func := "foldhouse/foldhouselaw03.EditionCopies", spec := "editionCopies", unfollowed := true, recurses := true, plainKeys := false, apart := false, narrowed := true }
def EditionCopiesUptoSaid : Prop := editionCopiesUptoRow.holds Try.pinned (OpenSpec.upto editionCopiesSpec)

/-- 'foldhouselaw03.EditionZones', WHERE WHAT IT READS IS OF BULK AT MOST 1048576: true; the input reads as it did. -/
def editionZonesUptoRow : OpenClaim := { program := "ytokdleanpkkdpaa", sum := "f00eb2ad8bd87f08818cc3df3d863c71dfad8f407e9f2eabf9953d53881fbf8f", func := "foldhouse/foldhouselaw03.EditionZones", spec := "editionZones", inPlace := ["slices.overlaps[int]"], unfollowed := true, recurses := true, plainKeys := false, apart := false, narrowed := true }
def EditionZonesUptoSaid : Prop := editionZonesUptoRow.holds Try.pinned (OpenSpec.upto editionZonesSpec)

/-- 'foldhouselaw03.EditionDistance', WHERE WHAT IT READS IS OF BULK AT MOST 1048576: true; the input reads as it did. -/
def editionDistanceUptoRow : OpenClaim := { program := "ytokdleanpkkdpaa", sum := "f00eb2ad8bd87f08818cc3df3d863c71dfad8f407e9f2eabf9953d53881fbf8f", func := "foldhouse/foldhouselaw03.EditionDistance", spec := "editionDistance", inPlace := ["slices.overlaps[int]"], unfollowed := true, recurses := true, plainKeys := false, apart := false, narrowed := true }
def EditionDistanceUptoSaid : Prop := editionDistanceUptoRow.holds Try.pinned (OpenSpec.upto editionDistanceSpec)

/-- 'foldhouselaw03.EditionBest', WHERE WHAT IT READS IS OF BULK AT MOST 1048576: true; the input reads as it did. -/
def editionBestUptoRow : OpenClaim := { program := "ytokdleanpkkdpaa", sum := "f00eb2ad8bd87f08818cc3df3d863c71dfad8f407e9f2eabf9953d53881fbf8f", func := "foldhouse/foldhouselaw03.EditionBest", spec := "editionBest", unfollowed := true, recurses := true, plainKeys := false, apart := false, narrowed := true }
def EditionBestUptoSaid : Prop := editionBestUptoRow.holds Try.pinned (OpenSpec.upto editionBestSpec)

/-- 'foldhouselaw03.EditionLatest', WHERE WHAT IT READS IS OF BULK AT MOST 1048576: true; the input reads as it did. -/
def editionLatestUptoRow : OpenClaim := { program := "ytokdleanpkkdpaa", sum := "f00eb2ad8bd87f08818cc3df3d863c71dfad8f407e9f2eabf9953d53881fbf8f", func := "foldhouse/foldhouselaw03.EditionLatest", spec := "editionLatest", inPlace := ["slices.overlaps[int]"], unfollowed := true, recurses := true, plainKeys := false, apart := false, narrowed := true }
def EditionLatestUptoSaid : Prop := editionLatestUptoRow.holds Try.pinned (OpenSpec.upto editionLatestSpec)

/-- 'foldhouselaw03.EditionProved', WHERE WHAT IT READS IS OF BULK AT MOST 1048576: true; the input reads as it did. -/
def editionProvedUptoRow : OpenClaim := { program := "ytokdleanpkkdpaa", sum := "f00eb2ad8bd87f08818cc3df3d863c71dfad8f407e9f2eabf9953d53881fbf8f", func := "foldhouse/foldhouselaw03.EditionProved", spec := "editionProved", inPlace := ["slices.overlaps[int]"], unfollowed := true, recurses := true, plainKeys := false, apart := false, narrowed := true }
def EditionProvedUptoSaid : Prop := editionProvedUptoRow.holds Try.pinned (OpenSpec.upto editionProvedSpec)

end Rows
end Go.Proofs.Ytokdleanpkkdpaa
