/-
  No cell of these rows narrows 'for every input' (looked for: loops, veiled, ifaces, maps, wideKeys, modest, calm, conditions, laid).
  DERIVED. THE GIVEN ROWS OF THIS SEAT. 6 by the template 'for every input the law returns true; each argument reads behind the call as it read before'; 0 by the template 'total and deterministic' (their statements: YtfejedmpplbmjaaTotals.lean).
  GIVEN WITH THE SEED: the statements are not yours to turn. If you find one false, say at which input.
  Laid BY PROGRAM, IN A SANDBOX (cutbox-rows.mjs): the forced cells as the released guide's own fill.sh prints them over the translation 264ad686fbaf6b44… (all of the seat's roots in one cut). By AI agents, Wed Nov 11 2026. No macro, syntax, notation, axiom, sorry.
-/
import Derived.Test.YtfejedmpplbmjaaChecked
import GoSem.Claim
import GoSem.ClaimJoined
import GoSem.ClaimMapViews
import Derived.JoinedTies
import Derived.KernelRfl
namespace Go.Proofs.Ytfejedmpplbmjaa
/- THE CELL 'sum', in the pinned program and in every row, IS THE sha256 OF THE DUMP (.gsa) THAT YtfejedmpplbmjaaProg.lean LOADS. Nothing in Lean hashes anything: it is a label: what it is worth is what the hold of that sum in a sandbox is worth. -/
noncomputable def Try.pinned : Pinned := { name := "ytfejedmpplbmjaa", sum := "264ad686fbaf6b44ea3866717fec0bc3054e13b6f00f14be13a0bb8ace6d5870", checked := Try.checked }
namespace Rows
def none {H : Type} : Left H := { results := [], args := [] }

/-- 'foldhouselaw09.MailStacks': WHATEVER THE INPUT: true; the input reads as it did. -/
def mailStacksSpec : ChangeSpec := { name := "mailStacks", fn := fun _ => fun
  | [d1, d2, d3, d4] => { results := [.lit (.bool true)], args := [d1, d2, d3, d4] }
  | _ => none }
def mailStacksRow : OpenClaim := { program := "ytfejedmpplbmjaa", sum := "264ad686fbaf6b44ea3866717fec0bc3054e13b6f00f14be13a0bb8ace6d5870", func := "foldhouse/foldhouselaw09.MailStacks", spec := "mailStacks", unfollowed := true, recurses := true, plainKeys := false, apart := false }
def MailStacksSaid : Prop := mailStacksRow.holds Try.pinned (OpenSpec.ofChange mailStacksSpec)

/-- ITS FALSE NEIGHBOUR: 'it returns false'. Refute it at one input. -/
def mailStacksWrong : ChangeSpec := { name := "mailStacks", fn := fun _ => fun
  | [d1, d2, d3, d4] => { results := [.lit (.bool false)], args := [d1, d2, d3, d4] }
  | _ => none }
def MailStacksWrongFalsely : Prop := mailStacksRow.holds Try.pinned (OpenSpec.ofChange mailStacksWrong)

/-- 'foldhouselaw09.MailAdds': WHATEVER THE INPUT: true; the input reads as it did. -/
def mailAddsSpec : ChangeSpec := { name := "mailAdds", fn := fun _ => fun
  | [d1, d2] => { results := [.lit (.bool true)], args := [d1, d2] }
  | _ => none }
def mailAddsRow : OpenClaim := { program := "ytfejedmpplbmjaa", sum := "264ad686fbaf6b44ea3866717fec0bc3054e13b6f00f14be13a0bb8ace6d5870", func := "foldhouse/foldhouselaw09.MailAdds", spec := "mailAdds", unfollowed := true, recurses := true, plainKeys := false, apart := false }
def MailAddsSaid : Prop := mailAddsRow.holds Try.pinned (OpenSpec.ofChange mailAddsSpec)

/-- ITS FALSE NEIGHBOUR: 'it returns false'. Refute it at one input. -/
def mailAddsWrong : ChangeSpec := { name := "mailAdds", fn := fun _ => fun
  | [d1, d2] => { results := [.lit (.bool false)], args := [d1, d2] }
  | _ => none }
def MailAddsWrongFalsely : Prop := mailAddsRow.holds Try.pinned (OpenSpec.ofChange mailAddsWrong)

/-- 'foldhouselaw09.MailRuns': WHATEVER THE INPUT: true; the input reads as it did. -/
def mailRunsSpec : ChangeSpec := { name := "mailRuns", fn := fun _ => fun
  | [d1, d2, d3, d4] => { results := [.lit (.bool true)], args := [d1, d2, d3, d4] }
  | _ => none }
def mailRunsRow : OpenClaim := { program := "ytfejedmpplbmjaa", sum := "264ad686fbaf6b44ea3866717fec0bc3054e13b6f00f14be13a0bb8ace6d5870", func := "foldhouse/foldhouselaw09.MailRuns", spec := "mailRuns", unfollowed := true, recurses := true, plainKeys := false, apart := false }
def MailRunsSaid : Prop := mailRunsRow.holds Try.pinned (OpenSpec.ofChange mailRunsSpec)

/-- ITS FALSE NEIGHBOUR: 'it returns false'. Refute it at one input. -/
def mailRunsWrong : ChangeSpec := { name := "mailRuns", fn := fun _ => fun
  | [d1, d2, d3, d4] => { results := [.lit (.bool false)], args := [d1, d2, d3, d4] }
  | _ => none }
def MailRunsWrongFalsely : Prop := mailRunsRow.holds Try.pinned (OpenSpec.ofChange mailRunsWrong)

/-- 'foldhouselaw09.MailTurned': WHATEVER THE INPUT: true; the input reads as it did. -/
def mailTurnedSpec : ChangeSpec := { name := "mailTurned", fn := fun _ => fun
  | [d1, d2, d3] => { results := [.lit (.bool true)], args := [d1, d2, d3] }
  | _ => none }
def mailTurnedRow : OpenClaim := { program := "ytfejedmpplbmjaa", sum := "264ad686fbaf6b44ea3866717fec0bc3054e13b6f00f14be13a0bb8ace6d5870", func := "foldhouse/foldhouselaw09.MailTurned", spec := "mailTurned", unfollowed := true, recurses := true, plainKeys := false, apart := false }
def MailTurnedSaid : Prop := mailTurnedRow.holds Try.pinned (OpenSpec.ofChange mailTurnedSpec)

/-- ITS FALSE NEIGHBOUR: 'it returns false'. Refute it at one input. -/
def mailTurnedWrong : ChangeSpec := { name := "mailTurned", fn := fun _ => fun
  | [d1, d2, d3] => { results := [.lit (.bool false)], args := [d1, d2, d3] }
  | _ => none }
def MailTurnedWrongFalsely : Prop := mailTurnedRow.holds Try.pinned (OpenSpec.ofChange mailTurnedWrong)

/-- 'foldhouselaw09.MailEditions': WHATEVER THE INPUT: true; the input reads as it did. -/
def mailEditionsSpec : ChangeSpec := { name := "mailEditions", fn := fun _ => fun
  | [d1, d2, d3] => { results := [.lit (.bool true)], args := [d1, d2, d3] }
  | _ => none }
def mailEditionsRow : OpenClaim := { program := "ytfejedmpplbmjaa", sum := "264ad686fbaf6b44ea3866717fec0bc3054e13b6f00f14be13a0bb8ace6d5870", func := "foldhouse/foldhouselaw09.MailEditions", spec := "mailEditions", unfollowed := true, recurses := true, plainKeys := false, apart := false }
def MailEditionsSaid : Prop := mailEditionsRow.holds Try.pinned (OpenSpec.ofChange mailEditionsSpec)

/-- ITS FALSE NEIGHBOUR: 'it returns false'. Refute it at one input. -/
def mailEditionsWrong : ChangeSpec := { name := "mailEditions", fn := fun _ => fun
  | [d1, d2, d3] => { results := [.lit (.bool false)], args := [d1, d2, d3] }
  | _ => none }
def MailEditionsWrongFalsely : Prop := mailEditionsRow.holds Try.pinned (OpenSpec.ofChange mailEditionsWrong)

/-- 'foldhouselaw09.MailZones': WHATEVER THE INPUT: true; the input reads as it did. -/
def mailZonesSpec : ChangeSpec := { name := "mailZones", fn := fun _ => fun
  | [d1, d2, d3] => { results := [.lit (.bool true)], args := [d1, d2, d3] }
  | _ => none }
def mailZonesRow : OpenClaim := { program := "ytfejedmpplbmjaa", sum := "264ad686fbaf6b44ea3866717fec0bc3054e13b6f00f14be13a0bb8ace6d5870", func := "foldhouse/foldhouselaw09.MailZones", spec := "mailZones", inPlace := ["slices.overlaps[int]"], unfollowed := true, recurses := true, plainKeys := false, apart := false }
def MailZonesSaid : Prop := mailZonesRow.holds Try.pinned (OpenSpec.ofChange mailZonesSpec)

/-- ITS FALSE NEIGHBOUR: 'it returns false'. Refute it at one input. -/
def mailZonesWrong : ChangeSpec := { name := "mailZones", fn := fun _ => fun
  | [d1, d2, d3] => { results := [.lit (.bool false)], args := [d1, d2, d3] }
  | _ => none }
def MailZonesWrongFalsely : Prop := mailZonesRow.holds Try.pinned (OpenSpec.ofChange mailZonesWrong)

/- THE SECOND FORM. 'bulk': how many values and letters a reading holds, each counted each time it is reached (what is shared counts as often as it is met; a slice's spare places count too). A statement '..UptoSaid' is the law's where the arguments, and the package variables that the reading takes, are together of bulk at most 1048576: NARROWER than '..Said'. Prove '..Said' where nothing that the law and all that it calls make is longer than what came in: it says more and counts as full. Else prove '..UptoSaid'. A law counts once. -/
mutual
def uptoBulk {H : Type} : DataW H → Nat
  | .lit (.string bytes) => bytes.length + 1
  | .lit _ => 1
  | .nil => 1
  | .ptr d => uptoBulk d + 1
  | .slice elems spare => uptoBulkAll elems + uptoBulkAll spare + 1
  | .agg parts => uptoBulkAll parts + 1
  | .iface _ d => uptoBulk d + 1
  | .map entries => uptoBulkEntries entries + 1
  | .held _ => 1
def uptoBulkAll {H : Type} : List (DataW H) → Nat
  | [] => 0
  | d :: r => uptoBulk d + uptoBulkAll r
def uptoBulkEntries {H : Type} : List (Lit × DataW H) → Nat
  | [] => 0
  | x :: r => uptoBulkEntry x + uptoBulkEntries r
def uptoBulkEntry {H : Type} : Lit × DataW H → Nat
  | (.string bytes, d) => bytes.length + uptoBulk d + 1
  | (_, d) => uptoBulk d + 1
 end
def uptoSmall : (H : Type) → List (DataW H) → Bool := fun _ ds => decide (uptoBulkAll ds ≤ 1048576)
def OpenSpec.upto (s : _root_.Go.ChangeSpec) : _root_.Go.OpenSpec := { _root_.Go.OpenSpec.ofChange s with cond := some uptoSmall }

/-- 'foldhouselaw09.MailStacks', WHERE WHAT IT READS IS OF BULK AT MOST 1048576: true; the input reads as it did. -/
def mailStacksUptoRow : OpenClaim := { program := "ytfejedmpplbmjaa", sum := "264ad686fbaf6b44ea3866717fec0bc3054e13b6f00f14be13a0bb8ace6d5870", func := "foldhouse/foldhouselaw09.MailStacks", spec := "mailStacks", unfollowed := true, recurses := true, plainKeys := false, apart := false, narrowed := true }
def MailStacksUptoSaid : Prop := mailStacksUptoRow.holds Try.pinned (OpenSpec.upto mailStacksSpec)

/-- 'foldhouselaw09.MailAdds', WHERE WHAT IT READS IS OF BULK AT MOST 1048576: true; the input reads as it did. -/
def mailAddsUptoRow : OpenClaim := { program := "ytfejedmpplbmjaa", sum := "264ad686fbaf6b44ea3866717fec0bc3054e13b6f00f14be13a0bb8ace6d5870", func := "foldhouse/foldhouselaw09.MailAdds", spec := "mailAdds", unfollowed := true, recurses := true, plainKeys := false, apart := false, narrowed := true }
def MailAddsUptoSaid : Prop := mailAddsUptoRow.holds Try.pinned (OpenSpec.upto mailAddsSpec)

/-- 'foldhouselaw09.MailRuns', WHERE WHAT IT READS IS OF BULK AT MOST 1048576: true; the input reads as it did. -/
def mailRunsUptoRow : OpenClaim := { program := "ytfejedmpplbmjaa", sum := "264ad686fbaf6b44ea3866717fec0bc3054e13b6f00f14be13a0bb8ace6d5870", func := "foldhouse/foldhouselaw09.MailRuns", spec := "mailRuns", unfollowed := true, recurses := true, plainKeys := false, apart := false, narrowed := true }
def MailRunsUptoSaid : Prop := mailRunsUptoRow.holds Try.pinned (OpenSpec.upto mailRunsSpec)

/-- 'foldhouselaw09.MailTurned', WHERE WHAT IT READS IS OF BULK AT MOST 1048576: true; the input reads as it did. -/
def mailTurnedUptoRow : OpenClaim := { program := "ytfejedmpplbmjaa", sum := "264ad686fbaf6b44ea3866717fec0bc3054e13b6f00f14be13a0bb8ace6d5870", func := "foldhouse/foldhouselaw09.MailTurned", spec := "mailTurned", unfollowed := true, recurses := true, plainKeys := false, apart := false, narrowed := true }
def MailTurnedUptoSaid : Prop := mailTurnedUptoRow.holds Try.pinned (OpenSpec.upto mailTurnedSpec)

/-- 'foldhouselaw09.MailEditions', WHERE WHAT IT READS IS OF BULK AT MOST 1048576: true; the input reads as it did. -/
def mailEditionsUptoRow : OpenClaim := { program := "ytfejedmpplbmjaa", sum := "264ad686fbaf6b44ea3866717fec0bc3054e13b6f00f14be13a0bb8ace6d5870", func := "foldhouse/foldhouselaw09.MailEditions", spec := "mailEditions", unfollowed := true, recurses := true, plainKeys := false, apart := false, narrowed := true }
def MailEditionsUptoSaid : Prop := mailEditionsUptoRow.holds Try.pinned (OpenSpec.upto mailEditionsSpec)

/-- 'foldhouselaw09.MailZones', WHERE WHAT IT READS IS OF BULK AT MOST 1048576: true; the input reads as it did. -/
def mailZonesUptoRow : OpenClaim := { program := "ytfejedmpplbmjaa", sum := "264ad686fbaf6b44ea3866717fec0bc3054e13b6f00f14be13a0bb8ace6d5870", func := "foldhouse/foldhouselaw09.MailZones", spec := "mailZones", inPlace := ["slices.overlaps[int]"], unfollowed := true, recurses := true, plainKeys := false, apart := false, narrowed := true }
def MailZonesUptoSaid : Prop := mailZonesUptoRow.holds Try.pinned (OpenSpec.upto mailZonesSpec)

end Rows
end Go.Proofs.Ytfejedmpplbmjaa
