/-
  No cell of these rows narrows 'for every input' (looked for: loops, veiled, ifaces, maps, wideKeys, modest, calm, conditions, laid).
  DERIVED. THE GIVEN ROWS OF THIS SEAT. 10 by the template 'for every input the law returns true; each argument reads behind the call as it read before'; 0 by the template 'total and deterministic' (their statements: YtgopdfbmddkpfaaTotals.lean).
  GIVEN WITH THE SEED: the statements are not yours to turn. If you find one false, say at which input.
  Laid BY PROGRAM, IN A SANDBOX (cutbox-rows.mjs): the forced cells as the released guide's own fill.sh prints them over the translation 9d82bd9fbe505789… (all of the seat's roots in one cut). By AI agents, Wed Nov 11 2026. No macro, syntax, notation, axiom, sorry.
-/
import Derived.Test.YtgopdfbmddkpfaaChecked
import GoSem.Claim
import GoSem.ClaimJoined
import GoSem.ClaimMapViews
import Derived.JoinedTies
import Derived.KernelRfl
namespace Go.Proofs.Ytgopdfbmddkpfaa
/- THE CELL 'sum', in the pinned program and in every row, IS THE sha256 OF THE DUMP (.gsa) THAT YtgopdfbmddkpfaaProg.lean LOADS. Nothing in Lean hashes anything: it is a label: what it is worth is what the hold of that sum in a sandbox is worth. -/
noncomputable def Try.pinned : Pinned := { name := "ytgopdfbmddkpfaa", sum := "9d82bd9fbe505789b4b4e305daf9068c0915ebc648816884ccbceb343d1895d8", checked := Try.checked }
namespace Rows
def none {H : Type} : Left H := { results := [], args := [] }

/-- 'foldhouselaw11.AgentBest': WHATEVER THE INPUT: true; the input reads as it did. -/
def agentBestSpec : ChangeSpec := { name := "agentBest", fn := fun _ => fun
  | [d1, d2, d3, d4] => { results := [.lit (.bool true)], args := [d1, d2, d3, d4] }
  | _ => none }
def agentBestRow : OpenClaim := { program := "ytgopdfbmddkpfaa", sum := "9d82bd9fbe505789b4b4e305daf9068c0915ebc648816884ccbceb343d1895d8", func := "foldhouse/foldhouselaw11.AgentBest", spec := "agentBest", unfollowed := true, recurses := true, plainKeys := false, apart := false }
def AgentBestSaid : Prop := agentBestRow.holds Try.pinned (OpenSpec.ofChange agentBestSpec)

/-- ITS FALSE NEIGHBOUR: 'it returns false'. Refute it at one input. -/
def agentBestWrong : ChangeSpec := { name := "agentBest", fn := fun _ => fun
  | [d1, d2, d3, d4] => { results := [.lit (.bool false)], args := [d1, d2, d3, d4] }
  | _ => none }
def AgentBestWrongFalsely : Prop := agentBestRow.holds Try.pinned (OpenSpec.ofChange agentBestWrong)

/-- 'foldhouselaw11.AgentSettles': WHATEVER THE INPUT: true; the input reads as it did. -/
def agentSettlesSpec : ChangeSpec := { name := "agentSettles", fn := fun _ => fun
  | [d1, d2, d3] => { results := [.lit (.bool true)], args := [d1, d2, d3] }
  | _ => none }
def agentSettlesRow : OpenClaim := { program := "ytgopdfbmddkpfaa", sum := "9d82bd9fbe505789b4b4e305daf9068c0915ebc648816884ccbceb343d1895d8", func := "foldhouse/foldhouselaw11.AgentSettles", spec := "agentSettles", unfollowed := true, recurses := true, plainKeys := false, apart := false }
def AgentSettlesSaid : Prop := agentSettlesRow.holds Try.pinned (OpenSpec.ofChange agentSettlesSpec)

/-- ITS FALSE NEIGHBOUR: 'it returns false'. Refute it at one input. -/
def agentSettlesWrong : ChangeSpec := { name := "agentSettles", fn := fun _ => fun
  | [d1, d2, d3] => { results := [.lit (.bool false)], args := [d1, d2, d3] }
  | _ => none }
def AgentSettlesWrongFalsely : Prop := agentSettlesRow.holds Try.pinned (OpenSpec.ofChange agentSettlesWrong)

/-- 'foldhouselaw11.AgentFair': WHATEVER THE INPUT: true; the input reads as it did. -/
def agentFairSpec : ChangeSpec := { name := "agentFair", fn := fun _ => fun
  | [d1, d2, d3, d4] => { results := [.lit (.bool true)], args := [d1, d2, d3, d4] }
  | _ => none }
def agentFairRow : OpenClaim := { program := "ytgopdfbmddkpfaa", sum := "9d82bd9fbe505789b4b4e305daf9068c0915ebc648816884ccbceb343d1895d8", func := "foldhouse/foldhouselaw11.AgentFair", spec := "agentFair", unfollowed := true, recurses := true, plainKeys := false, apart := false }
def AgentFairSaid : Prop := agentFairRow.holds Try.pinned (OpenSpec.ofChange agentFairSpec)

/-- ITS FALSE NEIGHBOUR: 'it returns false'. Refute it at one input. -/
def agentFairWrong : ChangeSpec := { name := "agentFair", fn := fun _ => fun
  | [d1, d2, d3, d4] => { results := [.lit (.bool false)], args := [d1, d2, d3, d4] }
  | _ => none }
def AgentFairWrongFalsely : Prop := agentFairRow.holds Try.pinned (OpenSpec.ofChange agentFairWrong)

/-- 'foldhouselaw11.AgentDemand': WHATEVER THE INPUT: true; the input reads as it did. -/
def agentDemandSpec : ChangeSpec := { name := "agentDemand", fn := fun _ => fun
  | [d1, d2, d3, d4, d5] => { results := [.lit (.bool true)], args := [d1, d2, d3, d4, d5] }
  | _ => none }
def agentDemandRow : OpenClaim := { program := "ytgopdfbmddkpfaa", sum := "9d82bd9fbe505789b4b4e305daf9068c0915ebc648816884ccbceb343d1895d8", func := "foldhouse/foldhouselaw11.AgentDemand", spec := "agentDemand", unfollowed := true, recurses := true, plainKeys := false, apart := false }
def AgentDemandSaid : Prop := agentDemandRow.holds Try.pinned (OpenSpec.ofChange agentDemandSpec)

/-- ITS FALSE NEIGHBOUR: 'it returns false'. Refute it at one input. -/
def agentDemandWrong : ChangeSpec := { name := "agentDemand", fn := fun _ => fun
  | [d1, d2, d3, d4, d5] => { results := [.lit (.bool false)], args := [d1, d2, d3, d4, d5] }
  | _ => none }
def AgentDemandWrongFalsely : Prop := agentDemandRow.holds Try.pinned (OpenSpec.ofChange agentDemandWrong)

/-- 'foldhouselaw11.AgentShares': WHATEVER THE INPUT: true; the input reads as it did. -/
def agentSharesSpec : ChangeSpec := { name := "agentShares", fn := fun _ => fun
  | [d1, d2, d3] => { results := [.lit (.bool true)], args := [d1, d2, d3] }
  | _ => none }
def agentSharesRow : OpenClaim := { program := "ytgopdfbmddkpfaa", sum := "9d82bd9fbe505789b4b4e305daf9068c0915ebc648816884ccbceb343d1895d8", func := "foldhouse/foldhouselaw11.AgentShares", spec := "agentShares", unfollowed := true, recurses := true, plainKeys := false, apart := false }
def AgentSharesSaid : Prop := agentSharesRow.holds Try.pinned (OpenSpec.ofChange agentSharesSpec)

/-- ITS FALSE NEIGHBOUR: 'it returns false'. Refute it at one input. -/
def agentSharesWrong : ChangeSpec := { name := "agentShares", fn := fun _ => fun
  | [d1, d2, d3] => { results := [.lit (.bool false)], args := [d1, d2, d3] }
  | _ => none }
def AgentSharesWrongFalsely : Prop := agentSharesRow.holds Try.pinned (OpenSpec.ofChange agentSharesWrong)

/-- 'foldhouselaw11.AgentAdds': WHATEVER THE INPUT: true; the input reads as it did. -/
def agentAddsSpec : ChangeSpec := { name := "agentAdds", fn := fun _ => fun
  | [d1, d2, d3, d4, d5, d6, d7, d8] => { results := [.lit (.bool true)], args := [d1, d2, d3, d4, d5, d6, d7, d8] }
  | _ => none }
def agentAddsRow : OpenClaim := { program := "ytgopdfbmddkpfaa", sum := "9d82bd9fbe505789b4b4e305daf9068c0915ebc648816884ccbceb343d1895d8", func := "foldhouse/foldhouselaw11.AgentAdds", spec := "agentAdds", unfollowed := true, recurses := true, plainKeys := false, apart := false }
def AgentAddsSaid : Prop := agentAddsRow.holds Try.pinned (OpenSpec.ofChange agentAddsSpec)

/-- ITS FALSE NEIGHBOUR: 'it returns false'. Refute it at one input. -/
def agentAddsWrong : ChangeSpec := { name := "agentAdds", fn := fun _ => fun
  | [d1, d2, d3, d4, d5, d6, d7, d8] => { results := [.lit (.bool false)], args := [d1, d2, d3, d4, d5, d6, d7, d8] }
  | _ => none }
def AgentAddsWrongFalsely : Prop := agentAddsRow.holds Try.pinned (OpenSpec.ofChange agentAddsWrong)

/-- 'foldhouselaw11.AgentMethods': WHATEVER THE INPUT: true; the input reads as it did. -/
def agentMethodsSpec : ChangeSpec := { name := "agentMethods", fn := fun _ => fun
  | [d1, d2, d3, d4, d5] => { results := [.lit (.bool true)], args := [d1, d2, d3, d4, d5] }
  | _ => none }
def agentMethodsRow : OpenClaim := { program := "ytgopdfbmddkpfaa", sum := "9d82bd9fbe505789b4b4e305daf9068c0915ebc648816884ccbceb343d1895d8", func := "foldhouse/foldhouselaw11.AgentMethods", spec := "agentMethods", unfollowed := true, recurses := true, plainKeys := false, apart := false }
def AgentMethodsSaid : Prop := agentMethodsRow.holds Try.pinned (OpenSpec.ofChange agentMethodsSpec)

/-- ITS FALSE NEIGHBOUR: 'it returns false'. Refute it at one input. -/
def agentMethodsWrong : ChangeSpec := { name := "agentMethods", fn := fun _ => fun
  | [d1, d2, d3, d4, d5] => { results := [.lit (.bool false)], args := [d1, d2, d3, d4, d5] }
  | _ => none }
def AgentMethodsWrongFalsely : Prop := agentMethodsRow.holds Try.pinned (OpenSpec.ofChange agentMethodsWrong)

/-- 'foldhouselaw11.AgentScores': WHATEVER THE INPUT: true; the input reads as it did. -/
def agentScoresSpec : ChangeSpec := { name := "agentScores", fn := fun _ => fun
  | [d1, d2, d3, d4] => { results := [.lit (.bool true)], args := [d1, d2, d3, d4] }
  | _ => none }
def agentScoresRow : OpenClaim := { program := "ytgopdfbmddkpfaa", sum := "9d82bd9fbe505789b4b4e305daf9068c0915ebc648816884ccbceb343d1895d8", func := "foldhouse/foldhouselaw11.AgentScores", spec := "agentScores", unfollowed := true, recurses := true, plainKeys := false, apart := false }
def AgentScoresSaid : Prop := agentScoresRow.holds Try.pinned (OpenSpec.ofChange agentScoresSpec)

/-- ITS FALSE NEIGHBOUR: 'it returns false'. Refute it at one input. -/
def agentScoresWrong : ChangeSpec := { name := "agentScores", fn := fun _ => fun
  | [d1, d2, d3, d4] => { results := [.lit (.bool false)], args := [d1, d2, d3, d4] }
  | _ => none }
def AgentScoresWrongFalsely : Prop := agentScoresRow.holds Try.pinned (OpenSpec.ofChange agentScoresWrong)

/-- 'foldhouselaw11.AgentRounds': WHATEVER THE INPUT: true; the input reads as it did. -/
def agentRoundsSpec : ChangeSpec := { name := "agentRounds", fn := fun _ => fun
  | [d1, d2, d3, d4, d5, d6] => { results := [.lit (.bool true)], args := [d1, d2, d3, d4, d5, d6] }
  | _ => none }
def agentRoundsRow : OpenClaim := { program := "ytgopdfbmddkpfaa", sum := "9d82bd9fbe505789b4b4e305daf9068c0915ebc648816884ccbceb343d1895d8", func := "foldhouse/foldhouselaw11.AgentRounds", spec := "agentRounds", unfollowed := true, recurses := true, plainKeys := false, apart := false }
def AgentRoundsSaid : Prop := agentRoundsRow.holds Try.pinned (OpenSpec.ofChange agentRoundsSpec)

/-- ITS FALSE NEIGHBOUR: 'it returns false'. Refute it at one input. -/
def agentRoundsWrong : ChangeSpec := { name := "agentRounds", fn := fun _ => fun
  | [d1, d2, d3, d4, d5, d6] => { results := [.lit (.bool false)], args := [d1, d2, d3, d4, d5, d6] }
  | _ => none }
def AgentRoundsWrongFalsely : Prop := agentRoundsRow.holds Try.pinned (OpenSpec.ofChange agentRoundsWrong)

/-- 'foldhouselaw11.AgentReaders': WHATEVER THE INPUT: true; the input reads as it did. -/
def agentReadersSpec : ChangeSpec := { name := "agentReaders", fn := fun _ => fun
  | [d1, d2, d3, d4, d5, d6] => { results := [.lit (.bool true)], args := [d1, d2, d3, d4, d5, d6] }
  | _ => none }
def agentReadersRow : OpenClaim := { program := "ytgopdfbmddkpfaa", sum := "9d82bd9fbe505789b4b4e305daf9068c0915ebc648816884ccbceb343d1895d8", func := "foldhouse/foldhouselaw11.AgentReaders", spec := "agentReaders", unfollowed := true, recurses := true, plainKeys := false, apart := false }
def AgentReadersSaid : Prop := agentReadersRow.holds Try.pinned (OpenSpec.ofChange agentReadersSpec)

/-- ITS FALSE NEIGHBOUR: 'it returns false'. Refute it at one input. -/
def agentReadersWrong : ChangeSpec := { name := "agentReaders", fn := fun _ => fun
  | [d1, d2, d3, d4, d5, d6] => { results := [.lit (.bool false)], args := [d1, d2, d3, d4, d5, d6] }
  | _ => none }
def AgentReadersWrongFalsely : Prop := agentReadersRow.holds Try.pinned (OpenSpec.ofChange agentReadersWrong)

/- THE SECOND FORM. 'bulk': how many values and letters a reading holds, each counted each time it is reached (what is shared counts as often as it is met; a slice's spare places count too). A statement '..UptoSaid' is the law's where the arguments, and the package variables that the reading takes, are together of bulk at most 1048576: NARROWER than '..Said'. Prove '..Said' where nothing that the law and all that it calls make is longer than what came in: it says more and counts as full. Else prove '..UptoSaid'. A law counts once. -/
mutual
def uptoBulk {H : Type} : DataW H → Nat
  | .lit (.string bytes) => bytes.length + 1
  | .lit _ => 1
  | .nil => 1
  | .ptr d => uptoBulk d + 1
  | .slice elems spare => uptoBulkAll elems + uptoBulkAll spare + 1
  | .agg parts => uptoBulkAll parts + 1
  | .iface _ d => uptoBulk d + 1
  | .map entries => uptoBulkEntries entries + 1
  | .held _ => 1
def uptoBulkAll {H : Type} : List (DataW H) → Nat
  | [] => 0
  | d :: r => uptoBulk d + uptoBulkAll r
def uptoBulkEntries {H : Type} : List (Lit × DataW H) → Nat
  | [] => 0
  | x :: r => uptoBulkEntry x + uptoBulkEntries r
def uptoBulkEntry {H : Type} : Lit × DataW H → Nat
  | (.string bytes, d) => bytes.length + uptoBulk d + 1
  | (_, d) => uptoBulk d + 1
 end
def uptoSmall : (H : Type) → List (DataW H) → Bool := fun _ ds => decide (uptoBulkAll ds ≤ 1048576)
def OpenSpec.upto (s : _root_.Go.ChangeSpec) : _root_.Go.OpenSpec := { _root_.Go.OpenSpec.ofChange s with cond := some uptoSmall }

/-- 'foldhouselaw11.AgentBest', WHERE WHAT IT READS IS OF BULK AT MOST 1048576: true; the input reads as it did. -/
def agentBestUptoRow : OpenClaim := { program := "ytgopdfbmddkpfaa", sum := "9d82bd9fbe505789b4b4e305daf9068c0915ebc648816884ccbceb343d1895d8", func := "foldhouse/foldhouselaw11.AgentBest", spec := "agentBest", unfollowed := true, recurses := true, plainKeys := false, apart := false, narrowed := true }
def AgentBestUptoSaid : Prop := agentBestUptoRow.holds Try.pinned (OpenSpec.upto agentBestSpec)

/-- 'foldhouselaw11.AgentSettles', WHERE WHAT IT READS IS OF BULK AT MOST 1048576: true; the input reads as it did. -/
def agentSettlesUptoRow : OpenClaim := { program := "ytgopdfbmddkpfaa", sum := "9d82bd9fbe505789b4b4e305daf9068c0915ebc648816884ccbceb343d1895d8", func := "foldhouse/foldhouselaw11.AgentSettles", spec := "agentSettles", unfollowed := true, recurses := true, plainKeys := false, apart := false, narrowed := true }
def AgentSettlesUptoSaid : Prop := agentSettlesUptoRow.holds Try.pinned (OpenSpec.upto agentSettlesSpec)

/-- 'foldhouselaw11.AgentFair', WHERE WHAT IT READS IS OF BULK AT MOST 1048576: true; the input reads as it did. -/
def agentFairUptoRow : OpenClaim := { program := "ytgopdfbmddkpfaa", sum := "9d82bd9fbe505789b4b4e305daf9068c0915ebc648816884ccbceb343d1895d8", func := "foldhouse/foldhouselaw11.AgentFair", spec := "agentFair", unfollowed := true, recurses := true, plainKeys := false, apart := false, narrowed := true }
def AgentFairUptoSaid : Prop := agentFairUptoRow.holds Try.pinned (OpenSpec.upto agentFairSpec)

/-- 'foldhouselaw11.AgentDemand', WHERE WHAT IT READS IS OF BULK AT MOST 1048576: true; the input reads as it did. -/
def agentDemandUptoRow : OpenClaim := { program := "ytgopdfbmddkpfaa", sum := "9d82bd9fbe505789b4b4e305daf9068c0915ebc648816884ccbceb343d1895d8", func := "foldhouse/foldhouselaw11.AgentDemand", spec := "agentDemand", unfollowed := true, recurses := true, plainKeys := false, apart := false, narrowed := true }
def AgentDemandUptoSaid : Prop := agentDemandUptoRow.holds Try.pinned (OpenSpec.upto agentDemandSpec)

/-- 'foldhouselaw11.AgentShares', WHERE WHAT IT READS IS OF BULK AT MOST 1048576: true; the input reads as it did. -/
def agentSharesUptoRow : OpenClaim := { program := "ytgopdfbmddkpfaa", sum := "9d82bd9fbe505789b4b4e305daf9068c0915ebc648816884ccbceb343d1895d8", func := "foldhouse/foldhouselaw11.AgentShares", spec := "agentShares", unfollowed := true, recurses := true, plainKeys := false, apart := false, narrowed := true }
def AgentSharesUptoSaid : Prop := agentSharesUptoRow.holds Try.pinned (OpenSpec.upto agentSharesSpec)

/-- 'foldhouselaw11.AgentAdds', WHERE WHAT IT READS IS OF BULK AT MOST 1048576: true; the input reads as it did. -/
def agentAddsUptoRow : OpenClaim := { program := "ytgopdfbmddkpfaa", sum := "9d82bd9fbe505789b4b4e305daf9068c0915ebc648816884ccbceb343d1895d8", func := "foldhouse/foldhouselaw11.AgentAdds", spec := "agentAdds", unfollowed := true, recurses := true, plainKeys := false, apart := false, narrowed := true }
def AgentAddsUptoSaid : Prop := agentAddsUptoRow.holds Try.pinned (OpenSpec.upto agentAddsSpec)

/-- 'foldhouselaw11.AgentMethods', WHERE WHAT IT READS IS OF BULK AT MOST 1048576: true; the input reads as it did. -/
def agentMethodsUptoRow : OpenClaim := { program := "ytgopdfbmddkpfaa", sum := "9d82bd9fbe505789b4b4e305daf9068c0915ebc648816884ccbceb343d1895d8", func := "foldhouse/foldhouselaw11.AgentMethods", spec := "agentMethods", unfollowed := true, recurses := true, plainKeys := false, apart := false, narrowed := true }
def AgentMethodsUptoSaid : Prop := agentMethodsUptoRow.holds Try.pinned (OpenSpec.upto agentMethodsSpec)

/-- 'foldhouselaw11.AgentScores', WHERE WHAT IT READS IS OF BULK AT MOST 1048576: true; the input reads as it did. -/
def agentScoresUptoRow : OpenClaim := { program := "ytgopdfbmddkpfaa", sum := "9d82bd9fbe505789b4b4e305daf9068c0915ebc648816884ccbceb343d1895d8", func := "foldhouse/foldhouselaw11.AgentScores", spec := "agentScores", unfollowed := true, recurses := true, plainKeys := false, apart := false, narrowed := true }
def AgentScoresUptoSaid : Prop := agentScoresUptoRow.holds Try.pinned (OpenSpec.upto agentScoresSpec)

/-- 'foldhouselaw11.AgentRounds', WHERE WHAT IT READS IS OF BULK AT MOST 1048576: true; the input reads as it did. -/
def agentRoundsUptoRow : OpenClaim := { program := "ytgopdfbmddkpfaa", sum := "9d82bd9fbe505789b4b4e305daf9068c0915ebc648816884ccbceb343d1895d8", func := "foldhouse/foldhouselaw11.AgentRounds", spec := "agentRounds", unfollowed := true, recurses := true, plainKeys := false, apart := false, narrowed := true }
def AgentRoundsUptoSaid : Prop := agentRoundsUptoRow.holds Try.pinned (OpenSpec.upto agentRoundsSpec)

/-- 'foldhouselaw11.AgentReaders', WHERE WHAT IT READS IS OF BULK AT MOST 1048576: true; the input reads as it did. -/
def agentReadersUptoRow : OpenClaim := { program := "ytgopdfbmddkpfaa", sum := "9d82bd9fbe505789b4b4e305daf9068c0915ebc648816884ccbceb343d1895d8", func := "foldhouse/foldhouselaw11.AgentReaders", spec := "agentReaders", unfollowed := true, recurses := true, plainKeys := false, apart := false, narrowed := true }
def AgentReadersUptoSaid : Prop := agentReadersUptoRow.holds Try.pinned (OpenSpec.upto agentReadersSpec)

end Rows
end Go.Proofs.Ytgopdfbmddkpfaa
