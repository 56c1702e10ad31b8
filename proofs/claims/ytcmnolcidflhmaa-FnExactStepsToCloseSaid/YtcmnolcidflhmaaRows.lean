/-
  No cell of these rows narrows 'for every input' (looked for: loops, veiled, ifaces, maps, wideKeys, modest, calm, conditions, laid).
  DERIVED. THE GIVEN ROWS OF THIS SEAT. 12 by the template 'for every input the law returns true; each argument reads behind the call as it read before'; 0 by the template 'total and deterministic' (their statements: YtcmnolcidflhmaaTotals.lean).
  GIVEN WITH THE SEED: the statements are not yours to turn. If you find one false, say at which input.
  Laid BY PROGRAM, IN A SANDBOX (cutbox-rows.mjs): the forced cells as the released guide's own fill.sh prints them over the translation 37bbd1b0855a7b7d… (all of the seat's roots in one cut). By AI agents, Wed Nov 11 2026. No macro, syntax, notation, axiom, sorry.
-/
import Derived.Test.YtcmnolcidflhmaaChecked
import GoSem.Claim
import GoSem.ClaimJoined
import GoSem.ClaimMapViews
import Derived.JoinedTies
import Derived.KernelRfl
namespace Go.Proofs.Ytcmnolcidflhmaa
/- THE CELL 'sum', in the pinned program and in every row, IS THE sha256 OF THE DUMP (.gsa) THAT YtcmnolcidflhmaaProg.lean LOADS. Nothing in Lean hashes anything: it is a label: what it is worth is what the hold of that sum in a sandbox is worth. -/
noncomputable def Try.pinned : Pinned := { name := "ytcmnolcidflhmaa", sum := "37bbd1b0855a7b7d720e76b29ac602b5bfed9208b91573b283dea102ab288d87", checked := Try.checked }
namespace Rows
def none {H : Type} : Left H := { results := [], args := [] }

/-- 'laws.FnExactProtestFaults': WHATEVER THE INPUT: true; the input reads as it did. -/
def fnExactProtestFaultsSpec : ChangeSpec := { name := "fnExactProtestFaults", fn := fun _ => fun
  | [d1, d2, d3] => { results := [.lit (.bool true)], args := [d1, d2, d3] }
  | _ => none }
def fnExactProtestFaultsRow : OpenClaim := { program := "ytcmnolcidflhmaa", sum := "37bbd1b0855a7b7d720e76b29ac602b5bfed9208b91573b283dea102ab288d87", func := "loop.example/g00887/laws.FnExactProtestFaults", spec := "fnExactProtestFaults", unfollowed := true, recurses := true, apart := false }
def FnExactProtestFaultsSaid : Prop := fnExactProtestFaultsRow.holds Try.pinned (OpenSpec.ofChange fnExactProtestFaultsSpec)

/-- ITS FALSE NEIGHBOUR: 'it returns false'. Refute it at one input. -/
def fnExactProtestFaultsWrong : ChangeSpec := { name := "fnExactProtestFaults", fn := fun _ => fun
  | [d1, d2, d3] => { results := [.lit (.bool false)], args := [d1, d2, d3] }
  | _ => none }
def FnExactProtestFaultsWrongFalsely : Prop := fnExactProtestFaultsRow.holds Try.pinned (OpenSpec.ofChange fnExactProtestFaultsWrong)

/-- 'laws.FnExactActionsOf': WHATEVER THE INPUT: true; the input reads as it did. -/
def fnExactActionsOfSpec : ChangeSpec := { name := "fnExactActionsOf", fn := fun _ => fun
  | [d] => { results := [.lit (.bool true)], args := [d] }
  | _ => none }
def fnExactActionsOfRow : OpenClaim := { program := "ytcmnolcidflhmaa", sum := "37bbd1b0855a7b7d720e76b29ac602b5bfed9208b91573b283dea102ab288d87", func := "loop.example/g00887/laws.FnExactActionsOf", spec := "fnExactActionsOf", apart := false }
def FnExactActionsOfSaid : Prop := fnExactActionsOfRow.holds Try.pinned (OpenSpec.ofChange fnExactActionsOfSpec)

/-- ITS FALSE NEIGHBOUR: 'it returns false'. Refute it at one input. -/
def fnExactActionsOfWrong : ChangeSpec := { name := "fnExactActionsOf", fn := fun _ => fun
  | [d] => { results := [.lit (.bool false)], args := [d] }
  | _ => none }
def FnExactActionsOfWrongFalsely : Prop := fnExactActionsOfRow.holds Try.pinned (OpenSpec.ofChange fnExactActionsOfWrong)

/-- 'laws.FnExactStepsToClose': WHATEVER THE INPUT: true; the input reads as it did. -/
def fnExactStepsToCloseSpec : ChangeSpec := { name := "fnExactStepsToClose", fn := fun _ => fun
  | [d] => { results := [.lit (.bool true)], args := [d] }
  | _ => none }
def fnExactStepsToCloseRow : OpenClaim := { program := "ytcmnolcidflhmaa", sum := "37bbd1b0855a7b7d720e76b29ac602b5bfed9208b91573b283dea102ab288d87", func := "loop.example/g00887/laws.FnExactStepsToClose", spec := "fnExactStepsToClose", apart := false }
def FnExactStepsToCloseSaid : Prop := fnExactStepsToCloseRow.holds Try.pinned (OpenSpec.ofChange fnExactStepsToCloseSpec)

/-- ITS FALSE NEIGHBOUR: 'it returns false'. Refute it at one input. -/
def fnExactStepsToCloseWrong : ChangeSpec := { name := "fnExactStepsToClose", fn := fun _ => fun
  | [d] => { results := [.lit (.bool false)], args := [d] }
  | _ => none }
def FnExactStepsToCloseWrongFalsely : Prop := fnExactStepsToCloseRow.holds Try.pinned (OpenSpec.ofChange fnExactStepsToCloseWrong)

/-- 'laws.FnExactRunActions': WHATEVER THE INPUT: true; the input reads as it did. -/
def fnExactRunActionsSpec : ChangeSpec := { name := "fnExactRunActions", fn := fun _ => fun
  | [d1, d2] => { results := [.lit (.bool true)], args := [d1, d2] }
  | _ => none }
def fnExactRunActionsRow : OpenClaim := { program := "ytcmnolcidflhmaa", sum := "37bbd1b0855a7b7d720e76b29ac602b5bfed9208b91573b283dea102ab288d87", func := "loop.example/g00887/laws.FnExactRunActions", spec := "fnExactRunActions", apart := false }
def FnExactRunActionsSaid : Prop := fnExactRunActionsRow.holds Try.pinned (OpenSpec.ofChange fnExactRunActionsSpec)

/-- ITS FALSE NEIGHBOUR: 'it returns false'. Refute it at one input. -/
def fnExactRunActionsWrong : ChangeSpec := { name := "fnExactRunActions", fn := fun _ => fun
  | [d1, d2] => { results := [.lit (.bool false)], args := [d1, d2] }
  | _ => none }
def FnExactRunActionsWrongFalsely : Prop := fnExactRunActionsRow.holds Try.pinned (OpenSpec.ofChange fnExactRunActionsWrong)

/-- 'laws.FnFaults': WHATEVER THE INPUT: true; the input reads as it did. -/
def fnFaultsSpec : ChangeSpec := { name := "fnFaults", fn := fun _ => fun
  | [d] => { results := [.lit (.bool true)], args := [d] }
  | _ => none }
def fnFaultsRow : OpenClaim := { program := "ytcmnolcidflhmaa", sum := "37bbd1b0855a7b7d720e76b29ac602b5bfed9208b91573b283dea102ab288d87", func := "loop.example/g00887/laws.FnFaults", spec := "fnFaults", unfollowed := true, recurses := true, apart := false }
def FnFaultsSaid : Prop := fnFaultsRow.holds Try.pinned (OpenSpec.ofChange fnFaultsSpec)

/-- ITS FALSE NEIGHBOUR: 'it returns false'. Refute it at one input. -/
def fnFaultsWrong : ChangeSpec := { name := "fnFaults", fn := fun _ => fun
  | [d] => { results := [.lit (.bool false)], args := [d] }
  | _ => none }
def FnFaultsWrongFalsely : Prop := fnFaultsRow.holds Try.pinned (OpenSpec.ofChange fnFaultsWrong)

/-- 'laws.FnActionRuns': WHATEVER THE INPUT: true; the input reads as it did. -/
def fnActionRunsSpec : ChangeSpec := { name := "fnActionRuns", fn := fun _ => fun
  | [d] => { results := [.lit (.bool true)], args := [d] }
  | _ => none }
def fnActionRunsRow : OpenClaim := { program := "ytcmnolcidflhmaa", sum := "37bbd1b0855a7b7d720e76b29ac602b5bfed9208b91573b283dea102ab288d87", func := "loop.example/g00887/laws.FnActionRuns", spec := "fnActionRuns", apart := false }
def FnActionRunsSaid : Prop := fnActionRunsRow.holds Try.pinned (OpenSpec.ofChange fnActionRunsSpec)

/-- ITS FALSE NEIGHBOUR: 'it returns false'. Refute it at one input. -/
def fnActionRunsWrong : ChangeSpec := { name := "fnActionRuns", fn := fun _ => fun
  | [d] => { results := [.lit (.bool false)], args := [d] }
  | _ => none }
def FnActionRunsWrongFalsely : Prop := fnActionRunsRow.holds Try.pinned (OpenSpec.ofChange fnActionRunsWrong)

/-- 'laws.FnStates': WHATEVER THE INPUT: true; the input reads as it did. -/
def fnStatesSpec : ChangeSpec := { name := "fnStates", fn := fun _ => fun
  | [d] => { results := [.lit (.bool true)], args := [d] }
  | _ => none }
def fnStatesRow : OpenClaim := { program := "ytcmnolcidflhmaa", sum := "37bbd1b0855a7b7d720e76b29ac602b5bfed9208b91573b283dea102ab288d87", func := "loop.example/g00887/laws.FnStates", spec := "fnStates", apart := false }
def FnStatesSaid : Prop := fnStatesRow.holds Try.pinned (OpenSpec.ofChange fnStatesSpec)

/-- ITS FALSE NEIGHBOUR: 'it returns false'. Refute it at one input. -/
def fnStatesWrong : ChangeSpec := { name := "fnStates", fn := fun _ => fun
  | [d] => { results := [.lit (.bool false)], args := [d] }
  | _ => none }
def FnStatesWrongFalsely : Prop := fnStatesRow.holds Try.pinned (OpenSpec.ofChange fnStatesWrong)

/-- 'laws.FnExpired': WHATEVER THE INPUT: true; the input reads as it did. -/
def fnExpiredSpec : ChangeSpec := { name := "fnExpired", fn := fun _ => fun
  | [d] => { results := [.lit (.bool true)], args := [d] }
  | _ => none }
def fnExpiredRow : OpenClaim := { program := "ytcmnolcidflhmaa", sum := "37bbd1b0855a7b7d720e76b29ac602b5bfed9208b91573b283dea102ab288d87", func := "loop.example/g00887/laws.FnExpired", spec := "fnExpired", unfollowed := true, recurses := true, apart := false }
def FnExpiredSaid : Prop := fnExpiredRow.holds Try.pinned (OpenSpec.ofChange fnExpiredSpec)

/-- ITS FALSE NEIGHBOUR: 'it returns false'. Refute it at one input. -/
def fnExpiredWrong : ChangeSpec := { name := "fnExpired", fn := fun _ => fun
  | [d] => { results := [.lit (.bool false)], args := [d] }
  | _ => none }
def FnExpiredWrongFalsely : Prop := fnExpiredRow.holds Try.pinned (OpenSpec.ofChange fnExpiredWrong)

/-- 'laws.FnExactIsHearing': WHATEVER THE INPUT: true; the input reads as it did. -/
def fnExactIsHearingSpec : ChangeSpec := { name := "fnExactIsHearing", fn := fun _ => fun
  | [d1, d2, d3] => { results := [.lit (.bool true)], args := [d1, d2, d3] }
  | _ => none }
def fnExactIsHearingRow : OpenClaim := { program := "ytcmnolcidflhmaa", sum := "37bbd1b0855a7b7d720e76b29ac602b5bfed9208b91573b283dea102ab288d87", func := "loop.example/g00887/laws.FnExactIsHearing", spec := "fnExactIsHearing", unfollowed := true, recurses := true, apart := false }
def FnExactIsHearingSaid : Prop := fnExactIsHearingRow.holds Try.pinned (OpenSpec.ofChange fnExactIsHearingSpec)

/-- ITS FALSE NEIGHBOUR: 'it returns false'. Refute it at one input. -/
def fnExactIsHearingWrong : ChangeSpec := { name := "fnExactIsHearing", fn := fun _ => fun
  | [d1, d2, d3] => { results := [.lit (.bool false)], args := [d1, d2, d3] }
  | _ => none }
def FnExactIsHearingWrongFalsely : Prop := fnExactIsHearingRow.holds Try.pinned (OpenSpec.ofChange fnExactIsHearingWrong)

/-- 'laws.FnExactFleetSequences': WHATEVER THE INPUT: true; the input reads as it did. -/
def fnExactFleetSequencesSpec : ChangeSpec := { name := "fnExactFleetSequences", fn := fun _ => fun
  | [d1, d2] => { results := [.lit (.bool true)], args := [d1, d2] }
  | _ => none }
def fnExactFleetSequencesRow : OpenClaim := { program := "ytcmnolcidflhmaa", sum := "37bbd1b0855a7b7d720e76b29ac602b5bfed9208b91573b283dea102ab288d87", func := "loop.example/g00887/laws.FnExactFleetSequences", spec := "fnExactFleetSequences", apart := false }
def FnExactFleetSequencesSaid : Prop := fnExactFleetSequencesRow.holds Try.pinned (OpenSpec.ofChange fnExactFleetSequencesSpec)

/-- ITS FALSE NEIGHBOUR: 'it returns false'. Refute it at one input. -/
def fnExactFleetSequencesWrong : ChangeSpec := { name := "fnExactFleetSequences", fn := fun _ => fun
  | [d1, d2] => { results := [.lit (.bool false)], args := [d1, d2] }
  | _ => none }
def FnExactFleetSequencesWrongFalsely : Prop := fnExactFleetSequencesRow.holds Try.pinned (OpenSpec.ofChange fnExactFleetSequencesWrong)

/-- 'laws.FnExactIsMet': WHATEVER THE INPUT: true; the input reads as it did. -/
def fnExactIsMetSpec : ChangeSpec := { name := "fnExactIsMet", fn := fun _ => fun
  | [d1, d2] => { results := [.lit (.bool true)], args := [d1, d2] }
  | _ => none }
def fnExactIsMetRow : OpenClaim := { program := "ytcmnolcidflhmaa", sum := "37bbd1b0855a7b7d720e76b29ac602b5bfed9208b91573b283dea102ab288d87", func := "loop.example/g00887/laws.FnExactIsMet", spec := "fnExactIsMet", apart := false }
def FnExactIsMetSaid : Prop := fnExactIsMetRow.holds Try.pinned (OpenSpec.ofChange fnExactIsMetSpec)

/-- ITS FALSE NEIGHBOUR: 'it returns false'. Refute it at one input. -/
def fnExactIsMetWrong : ChangeSpec := { name := "fnExactIsMet", fn := fun _ => fun
  | [d1, d2] => { results := [.lit (.bool false)], args := [d1, d2] }
  | _ => none }
def FnExactIsMetWrongFalsely : Prop := fnExactIsMetRow.holds Try.pinned (OpenSpec.ofChange fnExactIsMetWrong)

/-- 'laws.FnExactKeeperCounts': WHATEVER THE INPUT: true; the input reads as it did. -/
def fnExactKeeperCountsSpec : ChangeSpec := { name := "fnExactKeeperCounts", fn := fun _ => fun
  | [d1, d2] => { results := [.lit (.bool true)], args := [d1, d2] }
  | _ => none }
def fnExactKeeperCountsRow : OpenClaim := { program := "ytcmnolcidflhmaa", sum := "37bbd1b0855a7b7d720e76b29ac602b5bfed9208b91573b283dea102ab288d87", func := "loop.example/g00887/laws.FnExactKeeperCounts", spec := "fnExactKeeperCounts", apart := false }
def FnExactKeeperCountsSaid : Prop := fnExactKeeperCountsRow.holds Try.pinned (OpenSpec.ofChange fnExactKeeperCountsSpec)

/-- ITS FALSE NEIGHBOUR: 'it returns false'. Refute it at one input. -/
def fnExactKeeperCountsWrong : ChangeSpec := { name := "fnExactKeeperCounts", fn := fun _ => fun
  | [d1, d2] => { results := [.lit (.bool false)], args := [d1, d2] }
  | _ => none }
def FnExactKeeperCountsWrongFalsely : Prop := fnExactKeeperCountsRow.holds Try.pinned (OpenSpec.ofChange fnExactKeeperCountsWrong)

/- THE SECOND FORM. 'bulk': how many values and letters a reading holds, each counted each time it is reached (what is shared counts as often as it is met; a slice's spare places count too). A statement '..UptoSaid' is the law's where the arguments, and the package variables that the reading takes, are together of bulk at most 1048576: NARROWER than '..Said'. Prove '..Said' where nothing that the law and all that it calls make is longer than what came in: it says more and counts as full. Else prove '..UptoSaid'. A law counts once. -/
mutual
def uptoBulk {H : Type} : DataW H → Nat
  | .lit (.string bytes) => bytes.length + 1
  | .lit _ => 1
  | .nil => 1
  | .ptr d => uptoBulk d + 1
  | .slice elems spare => uptoBulkAll elems + uptoBulkAll spare + 1
  | .agg parts => uptoBulkAll parts + 1
  | .iface _ d => uptoBulk d + 1
  | .map entries => uptoBulkEntries entries + 1
  | .held _ => 1
def uptoBulkAll {H : Type} : List (DataW H) → Nat
  | [] => 0
  | d :: r => uptoBulk d + uptoBulkAll r
def uptoBulkEntries {H : Type} : List (Lit × DataW H) → Nat
  | [] => 0
  | x :: r => uptoBulkEntry x + uptoBulkEntries r
def uptoBulkEntry {H : Type} : Lit × DataW H → Nat
  | (.string bytes, d) => bytes.length + uptoBulk d + 1
  | (_, d) => uptoBulk d + 1
 end
def uptoSmall : (H : Type) → List (DataW H) → Bool := fun _ ds => decide (uptoBulkAll ds ≤ 1048576)
def OpenSpec.upto (s : _root_.Go.ChangeSpec) : _root_.Go.OpenSpec := { _root_.Go.OpenSpec.ofChange s with cond := some uptoSmall }

/-- 'laws.FnExactProtestFaults', WHERE WHAT IT READS IS OF BULK AT MOST 1048576: true; the input reads as it did. -/
def fnExactProtestFaultsUptoRow : OpenClaim := { program := "ytcmnolcidflhmaa", sum := "37bbd1b0855a7b7d720e76b29ac602b5bfed9208b91573b283dea102ab288d87", func := "loop.example/g00887/laws.FnExactProtestFaults", spec := "fnExactProtestFaults", unfollowed := true, recurses := true, apart := false, narrowed := true }
def FnExactProtestFaultsUptoSaid : Prop := fnExactProtestFaultsUptoRow.holds Try.pinned (OpenSpec.upto fnExactProtestFaultsSpec)

/-- 'laws.FnExactActionsOf', WHERE WHAT IT READS IS OF BULK AT MOST 1048576: true; the input reads as it did. -/
def fnExactActionsOfUptoRow : OpenClaim := { program := "ytcmnolcidflhmaa", sum := "37bbd1b0855a7b7d720e76b29ac602b5bfed9208b91573b283dea102ab288d87", func := "loop.example/g00887/laws.FnExactActionsOf", spec := "fnExactActionsOf", apart := false, narrowed := true }
def FnExactActionsOfUptoSaid : Prop := fnExactActionsOfUptoRow.holds Try.pinned (OpenSpec.upto fnExactActionsOfSpec)

/-- 'laws.FnExactStepsToClose', WHERE WHAT IT READS IS OF BULK AT MOST 1048576: true; the input reads as it did. -/
def fnExactStepsToCloseUptoRow : OpenClaim := { program := "ytcmnolcidflhmaa", sum := "37bbd1b0855a7b7d720e76b29ac602b5bfed9208b91573b283dea102ab288d87", func := "loop.example/g00887/laws.FnExactStepsToClose", spec := "fnExactStepsToClose", apart := false, narrowed := true }
def FnExactStepsToCloseUptoSaid : Prop := fnExactStepsToCloseUptoRow.holds Try.pinned (OpenSpec.upto fnExactStepsToCloseSpec)

/-- 'laws.FnExactRunActions', WHERE WHAT IT READS IS OF BULK AT MOST 1048576: true; the input reads as it did. -/
def fnExactRunActionsUptoRow : OpenClaim := { program := "ytcmnolcidflhmaa", sum := "37bbd1b0855a7b7d720e76b29ac602b5bfed9208b91573b283dea102ab288d87", func := "loop.example/g00887/laws.FnExactRunActions", spec := "fnExactRunActions", apart := false, narrowed := true }
def FnExactRunActionsUptoSaid : Prop := fnExactRunActionsUptoRow.holds Try.pinned (OpenSpec.upto fnExactRunActionsSpec)

/-- 'laws.FnFaults', WHERE WHAT IT READS IS OF BULK AT MOST 1048576: true; the input reads as it did. -/
def fnFaultsUptoRow : OpenClaim := { program := "ytcmnolcidflhmaa", sum := "37bbd1b0855a7b7d720e76b29ac602b5bfed9208b91573b283dea102ab288d87", func := "loop.example/g00887/laws.FnFaults", spec := "fnFaults", unfollowed := true, recurses := true, apart := false, narrowed := true }
def FnFaultsUptoSaid : Prop := fnFaultsUptoRow.holds Try.pinned (OpenSpec.upto fnFaultsSpec)

/-- 'laws.FnActionRuns', WHERE WHAT IT READS IS OF BULK AT MOST 1048576: true; the input reads as it did. -/
def fnActionRunsUptoRow : OpenClaim := { program := "ytcmnolcidflhmaa", sum := "37bbd1b0855a7b7d720e76b29ac602b5bfed9208b91573b283dea102ab288d87", func := "loop.example/g00887/laws.FnActionRuns", spec := "fnActionRuns", apart := false, narrowed := true }
def FnActionRunsUptoSaid : Prop := fnActionRunsUptoRow.holds Try.pinned (OpenSpec.upto fnActionRunsSpec)

/-- 'laws.FnStates', WHERE WHAT IT READS IS OF BULK AT MOST 1048576: true; the input reads as it did. -/
def fnStatesUptoRow : OpenClaim := { program := "ytcmnolcidflhmaa", sum := "37bbd1b0855a7b7d720e76b29ac602b5bfed9208b91573b283dea102ab288d87", func := "loop.example/g00887/laws.FnStates", spec := "fnStates", apart := false, narrowed := true }
def FnStatesUptoSaid : Prop := fnStatesUptoRow.holds Try.pinned (OpenSpec.upto fnStatesSpec)

/-- 'laws.FnExpired', WHERE WHAT IT READS IS OF BULK AT MOST 1048576: true; the input reads as it did. -/
def fnExpiredUptoRow : OpenClaim := { program := "ytcmnolcidflhmaa", sum := "37bbd1b0855a7b7d720e76b29ac602b5bfed9208b91573b283dea102ab288d87", func := "loop.example/g00887/laws.FnExpired", spec := "fnExpired", unfollowed := true, recurses := true, apart := false, narrowed := true }
def FnExpiredUptoSaid : Prop := fnExpiredUptoRow.holds Try.pinned (OpenSpec.upto fnExpiredSpec)

/-- 'laws.FnExactIsHearing', WHERE WHAT IT READS IS OF BULK AT MOST 1048576: true; the input reads as it did. -/
def fnExactIsHearingUptoRow : OpenClaim := { program := "ytcmnolcidflhmaa", sum := "37bbd1b0855a7b7d720e76b29ac602b5bfed9208b91573b283dea102ab288d87", func := "loop.example/g00887/laws.FnExactIsHearing", spec := "fnExactIsHearing", unfollowed := true, recurses := true, apart := false, narrowed := true }
def FnExactIsHearingUptoSaid : Prop := fnExactIsHearingUptoRow.holds Try.pinned (OpenSpec.upto fnExactIsHearingSpec)

/-- 'laws.FnExactFleetSequences', WHERE WHAT IT READS IS OF BULK AT MOST 1048576: true; the input reads as it did. -/
def fnExactFleetSequencesUptoRow : OpenClaim := { program := "ytcmnolcidflhmaa", sum := "37bbd1b0855a7b7d720e76b29ac602b5bfed9208b91573b283dea102ab288d87", func := "loop.example/g00887/laws.FnExactFleetSequences", spec := "fnExactFleetSequences", apart := false, narrowed := true }
def FnExactFleetSequencesUptoSaid : Prop := fnExactFleetSequencesUptoRow.holds Try.pinned (OpenSpec.upto fnExactFleetSequencesSpec)

/-- 'laws.FnExactIsMet', WHERE WHAT IT READS IS OF BULK AT MOST 1048576: true; the input reads as it did. -/
def fnExactIsMetUptoRow : OpenClaim := { program := "ytcmnolcidflhmaa", sum := "37bbd1b0855a7b7d720e76b29ac602b5bfed9208b91573b283dea102ab288d87", func := "loop.example/g00887/laws.FnExactIsMet", spec := "fnExactIsMet", apart := false, narrowed := true }
def FnExactIsMetUptoSaid : Prop := fnExactIsMetUptoRow.holds Try.pinned (OpenSpec.upto fnExactIsMetSpec)

/-- 'laws.FnExactKeeperCounts', WHERE WHAT IT READS IS OF BULK AT MOST 1048576: true; the input reads as it did. -/
def fnExactKeeperCountsUptoRow : OpenClaim := { program := "ytcmnolcidflhmaa", sum := "37bbd1b0855a7b7d720e76b29ac602b5bfed9208b91573b283dea102ab288d87", func := "loop.example/g00887/laws.FnExactKeeperCounts", spec := "fnExactKeeperCounts", apart := false, narrowed := true }
def FnExactKeeperCountsUptoSaid : Prop := fnExactKeeperCountsUptoRow.holds Try.pinned (OpenSpec.upto fnExactKeeperCountsSpec)

end Rows
end Go.Proofs.Ytcmnolcidflhmaa
