/-
  No cell of these rows narrows 'for every input' (looked for: loops, veiled, ifaces, maps, wideKeys, modest, calm, conditions, laid).
  DERIVED. THE GIVEN ROWS OF THIS SEAT. 8 by the template 'for every input the law returns true; each argument reads behind the call as it read before'; 0 by the template 'total and deterministic' (their statements: YthlfadkpeogajaaTotals.lean).
  GIVEN WITH THE SEED: the statements are not yours to turn. If you find one false, say at which input.
  Laid BY PROGRAM, IN A SANDBOX (cutbox-rows.mjs): the forced cells as the released guide's own fill.sh prints them over the translation 4e8ae5df7af29c92… (all of the seat's roots in one cut). By AI agents, Wed Nov 11 2026. No macro, syntax, notation, axiom, sorry.
-/
import Derived.Test.YthlfadkpeogajaaChecked
import GoSem.Claim
import GoSem.ClaimJoined
import GoSem.ClaimMapViews
import Derived.JoinedTies
import Derived.KernelRfl
namespace Go.Proofs.Ythlfadkpeogajaa
/- THE CELL 'sum', in the pinned program and in every row, IS THE sha256 OF THE DUMP (.gsa) THAT YthlfadkpeogajaaProg.lean LOADS. Nothing in Lean hashes anything: it is a label: what it is worth is what the hold of that sum in a sandbox is worth. -/
noncomputable def Try.pinned : Pinned := { name := "ythlfadkpeogajaa", sum := "4e8ae5df7af29c9236f125f67b733366688d5f73359bb59cc85622bbe5be3af9", checked := Try.checked }
namespace Rows
def none {H : Type} : Left H := { results := [], args := [] }

/-- 'laws.FnExpired': WHATEVER THE INPUT: true; the input reads as it did. -/
def fnExpiredSpec : ChangeSpec := { name := "fnExpired", fn := fun _ => fun
  | [d] => { results := [.lit (.bool true)], args := [d] }
  | _ => none }
def fnExpiredRow : OpenClaim := { program := "ythlfadkpeogajaa", sum := "4e8ae5df7af29c9236f125f67b733366688d5f73359bb59cc85622bbe5be3af9", func := "loop.example/g00887/laws.FnExpired", spec := "fnExpired", unfollowed := true, recurses := true, apart := false }
def FnExpiredSaid : Prop := fnExpiredRow.holds Try.pinned (OpenSpec.ofChange fnExpiredSpec)

/-- ITS FALSE NEIGHBOUR: 'it returns false'. Refute it at one input. -/
def fnExpiredWrong : ChangeSpec := { name := "fnExpired", fn := fun _ => fun
  | [d] => { results := [.lit (.bool false)], args := [d] }
  | _ => none }
def FnExpiredWrongFalsely : Prop := fnExpiredRow.holds Try.pinned (OpenSpec.ofChange fnExpiredWrong)

/-- 'laws.FnFaults': WHATEVER THE INPUT: true; the input reads as it did. -/
def fnFaultsSpec : ChangeSpec := { name := "fnFaults", fn := fun _ => fun
  | [d] => { results := [.lit (.bool true)], args := [d] }
  | _ => none }
def fnFaultsRow : OpenClaim := { program := "ythlfadkpeogajaa", sum := "4e8ae5df7af29c9236f125f67b733366688d5f73359bb59cc85622bbe5be3af9", func := "loop.example/g00887/laws.FnFaults", spec := "fnFaults", unfollowed := true, recurses := true, apart := false }
def FnFaultsSaid : Prop := fnFaultsRow.holds Try.pinned (OpenSpec.ofChange fnFaultsSpec)

/-- ITS FALSE NEIGHBOUR: 'it returns false'. Refute it at one input. -/
def fnFaultsWrong : ChangeSpec := { name := "fnFaults", fn := fun _ => fun
  | [d] => { results := [.lit (.bool false)], args := [d] }
  | _ => none }
def FnFaultsWrongFalsely : Prop := fnFaultsRow.holds Try.pinned (OpenSpec.ofChange fnFaultsWrong)

/-- 'laws.FnStates': WHATEVER THE INPUT: true; the input reads as it did. -/
def fnStatesSpec : ChangeSpec := { name := "fnStates", fn := fun _ => fun
  | [d] => { results := [.lit (.bool true)], args := [d] }
  | _ => none }
def fnStatesRow : OpenClaim := { program := "ythlfadkpeogajaa", sum := "4e8ae5df7af29c9236f125f67b733366688d5f73359bb59cc85622bbe5be3af9", func := "loop.example/g00887/laws.FnStates", spec := "fnStates", apart := false }
def FnStatesSaid : Prop := fnStatesRow.holds Try.pinned (OpenSpec.ofChange fnStatesSpec)

/-- ITS FALSE NEIGHBOUR: 'it returns false'. Refute it at one input. -/
def fnStatesWrong : ChangeSpec := { name := "fnStates", fn := fun _ => fun
  | [d] => { results := [.lit (.bool false)], args := [d] }
  | _ => none }
def FnStatesWrongFalsely : Prop := fnStatesRow.holds Try.pinned (OpenSpec.ofChange fnStatesWrong)

/-- 'laws.FnActionRuns': WHATEVER THE INPUT: true; the input reads as it did. -/
def fnActionRunsSpec : ChangeSpec := { name := "fnActionRuns", fn := fun _ => fun
  | [d] => { results := [.lit (.bool true)], args := [d] }
  | _ => none }
def fnActionRunsRow : OpenClaim := { program := "ythlfadkpeogajaa", sum := "4e8ae5df7af29c9236f125f67b733366688d5f73359bb59cc85622bbe5be3af9", func := "loop.example/g00887/laws.FnActionRuns", spec := "fnActionRuns", apart := false }
def FnActionRunsSaid : Prop := fnActionRunsRow.holds Try.pinned (OpenSpec.ofChange fnActionRunsSpec)

/-- ITS FALSE NEIGHBOUR: 'it returns false'. Refute it at one input. -/
def fnActionRunsWrong : ChangeSpec := { name := "fnActionRuns", fn := fun _ => fun
  | [d] => { results := [.lit (.bool false)], args := [d] }
  | _ => none }
def FnActionRunsWrongFalsely : Prop := fnActionRunsRow.holds Try.pinned (OpenSpec.ofChange fnActionRunsWrong)

/-- 'laws.FnShortened': WHATEVER THE INPUT: true; the input reads as it did. -/
def fnShortenedSpec : ChangeSpec := { name := "fnShortened", fn := fun _ => fun
  | [d] => { results := [.lit (.bool true)], args := [d] }
  | _ => none }
def fnShortenedRow : OpenClaim := { program := "ythlfadkpeogajaa", sum := "4e8ae5df7af29c9236f125f67b733366688d5f73359bb59cc85622bbe5be3af9", func := "loop.example/g00887/laws.FnShortened", spec := "fnShortened", apart := false }
def FnShortenedSaid : Prop := fnShortenedRow.holds Try.pinned (OpenSpec.ofChange fnShortenedSpec)

/-- ITS FALSE NEIGHBOUR: 'it returns false'. Refute it at one input. -/
def fnShortenedWrong : ChangeSpec := { name := "fnShortened", fn := fun _ => fun
  | [d] => { results := [.lit (.bool false)], args := [d] }
  | _ => none }
def FnShortenedWrongFalsely : Prop := fnShortenedRow.holds Try.pinned (OpenSpec.ofChange fnShortenedWrong)

/-- 'laws.FnLimits': WHATEVER THE INPUT: true; the input reads as it did. -/
def fnLimitsSpec : ChangeSpec := { name := "fnLimits", fn := fun _ => fun
  | [d] => { results := [.lit (.bool true)], args := [d] }
  | _ => none }
def fnLimitsRow : OpenClaim := { program := "ythlfadkpeogajaa", sum := "4e8ae5df7af29c9236f125f67b733366688d5f73359bb59cc85622bbe5be3af9", func := "loop.example/g00887/laws.FnLimits", spec := "fnLimits", apart := false }
def FnLimitsSaid : Prop := fnLimitsRow.holds Try.pinned (OpenSpec.ofChange fnLimitsSpec)

/-- ITS FALSE NEIGHBOUR: 'it returns false'. Refute it at one input. -/
def fnLimitsWrong : ChangeSpec := { name := "fnLimits", fn := fun _ => fun
  | [d] => { results := [.lit (.bool false)], args := [d] }
  | _ => none }
def FnLimitsWrongFalsely : Prop := fnLimitsRow.holds Try.pinned (OpenSpec.ofChange fnLimitsWrong)

/-- 'laws.FnExactFleetSequences': WHATEVER THE INPUT: true; the input reads as it did. -/
def fnExactFleetSequencesSpec : ChangeSpec := { name := "fnExactFleetSequences", fn := fun _ => fun
  | [d1, d2] => { results := [.lit (.bool true)], args := [d1, d2] }
  | _ => none }
def fnExactFleetSequencesRow : OpenClaim := { program := "ythlfadkpeogajaa", sum := "4e8ae5df7af29c9236f125f67b733366688d5f73359bb59cc85622bbe5be3af9", func := "loop.example/g00887/laws.FnExactFleetSequences", spec := "fnExactFleetSequences", apart := false }
def FnExactFleetSequencesSaid : Prop := fnExactFleetSequencesRow.holds Try.pinned (OpenSpec.ofChange fnExactFleetSequencesSpec)

/-- ITS FALSE NEIGHBOUR: 'it returns false'. Refute it at one input. -/
def fnExactFleetSequencesWrong : ChangeSpec := { name := "fnExactFleetSequences", fn := fun _ => fun
  | [d1, d2] => { results := [.lit (.bool false)], args := [d1, d2] }
  | _ => none }
def FnExactFleetSequencesWrongFalsely : Prop := fnExactFleetSequencesRow.holds Try.pinned (OpenSpec.ofChange fnExactFleetSequencesWrong)

/-- 'laws.FnExactIsMet': WHATEVER THE INPUT: true; the input reads as it did. -/
def fnExactIsMetSpec : ChangeSpec := { name := "fnExactIsMet", fn := fun _ => fun
  | [d1, d2] => { results := [.lit (.bool true)], args := [d1, d2] }
  | _ => none }
def fnExactIsMetRow : OpenClaim := { program := "ythlfadkpeogajaa", sum := "4e8ae5df7af29c9236f125f67b733366688d5f73359bb59cc85622bbe5be3af9", func := "loop.example/g00887/laws.FnExactIsMet", spec := "fnExactIsMet", apart := false }
def FnExactIsMetSaid : Prop := fnExactIsMetRow.holds Try.pinned (OpenSpec.ofChange fnExactIsMetSpec)

/-- ITS FALSE NEIGHBOUR: 'it returns false'. Refute it at one input. -/
def fnExactIsMetWrong : ChangeSpec := { name := "fnExactIsMet", fn := fun _ => fun
  | [d1, d2] => { results := [.lit (.bool false)], args := [d1, d2] }
  | _ => none }
def FnExactIsMetWrongFalsely : Prop := fnExactIsMetRow.holds Try.pinned (OpenSpec.ofChange fnExactIsMetWrong)

/- THE SECOND FORM. 'bulk': how many values and letters a reading holds, each counted each time it is reached (what is shared counts as often as it is met; a slice's spare places count too). A statement '..UptoSaid' is the law's where the arguments, and the package variables that the reading takes, are together of bulk at most 1048576: NARROWER than '..Said'. Prove '..Said' where nothing that the law and all that it calls make is longer than what came in: it says more and counts as full. Else prove '..UptoSaid'. A law counts once. -/
mutual
def uptoBulk {H : Type} : DataW H → Nat
  | .lit (.string bytes) => bytes.length + 1
  | .lit _ => 1
  | .nil => 1
  | .ptr d => uptoBulk d + 1
  | .slice elems spare => uptoBulkAll elems + uptoBulkAll spare + 1
  | .agg parts => uptoBulkAll parts + 1
  | .iface _ d => uptoBulk d + 1
  | .map entries => uptoBulkEntries entries + 1
  | .held _ => 1
def uptoBulkAll {H : Type} : List (DataW H) → Nat
  | [] => 0
  | d :: r => uptoBulk d + uptoBulkAll r
def uptoBulkEntries {H : Type} : List (Lit × DataW H) → Nat
  | [] => 0
  | x :: r => uptoBulkEntry x + uptoBulkEntries r
def uptoBulkEntry {H : Type} : Lit × DataW H → Nat
  | (.string bytes, d) => bytes.length + uptoBulk d + 1
  | (_, d) => uptoBulk d + 1
 end
def uptoSmall : (H : Type) → List (DataW H) → Bool := fun _ ds => decide (uptoBulkAll ds ≤ 1048576)
def OpenSpec.upto (s : _root_.Go.ChangeSpec) : _root_.Go.OpenSpec := { _root_.Go.OpenSpec.ofChange s with cond := some uptoSmall }

/-- 'laws.FnExpired', WHERE WHAT IT READS IS OF BULK AT MOST 1048576: true; the input reads as it did. -/
def fnExpiredUptoRow : OpenClaim := { program := "ythlfadkpeogajaa", sum := "4e8ae5df7af29c9236f125f67b733366688d5f73359bb59cc85622bbe5be3af9", func := "loop.example/g00887/laws.FnExpired", spec := "fnExpired", unfollowed := true, recurses := true, apart := false, narrowed := true }
def FnExpiredUptoSaid : Prop := fnExpiredUptoRow.holds Try.pinned (OpenSpec.upto fnExpiredSpec)

/-- 'laws.FnFaults', WHERE WHAT IT READS IS OF BULK AT MOST 1048576: true; the input reads as it did. -/
def fnFaultsUptoRow : OpenClaim := { program := "ythlfadkpeogajaa", sum := "4e8ae5df7af29c9236f125f67b733366688d5f73359bb59cc85622bbe5be3af9", func := "loop.example/g00887/laws.FnFaults", spec := "fnFaults", unfollowed := true, recurses := true, apart := false, narrowed := true }
def FnFaultsUptoSaid : Prop := fnFaultsUptoRow.holds Try.pinned (OpenSpec.upto fnFaultsSpec)

/-- 'laws.FnStates', WHERE WHAT IT READS IS OF BULK AT MOST 1048576: true; the input reads as it did. -/
def fnStatesUptoRow : OpenClaim := { program := "ythlfadkpeogajaa", sum := "4e8ae5df7af29c9236f125f67b733366688d5f73359bb59cc85622bbe5be3af9", func := "loop.example/g00887/laws.FnStates", spec := "fnStates", apart := false, narrowed := true }
def FnStatesUptoSaid : Prop := fnStatesUptoRow.holds Try.pinned (OpenSpec.upto fnStatesSpec)

/-- 'laws.FnActionRuns', WHERE WHAT IT READS IS OF BULK AT MOST 1048576: true; the input reads as it did. -/
def fnActionRunsUptoRow : OpenClaim := { program := "ythlfadkpeogajaa", sum := "4e8ae5df7af29c9236f125f67b733366688d5f73359bb59cc85622bbe5be3af9", func := "loop.example/g00887/laws.FnActionRuns", spec := "fnActionRuns", apart := false, narrowed := true }
def FnActionRunsUptoSaid : Prop := fnActionRunsUptoRow.holds Try.pinned (OpenSpec.upto fnActionRunsSpec)

/-- 'laws.FnShortened', WHERE WHAT IT READS IS OF BULK AT MOST 1048576: true; the input reads as it did. -/
def fnShortenedUptoRow : OpenClaim := { program := "ythlfadkpeogajaa", sum := "4e8ae5df7af29c9236f125f67b733366688d5f73359bb59cc85622bbe5be3af9", func := "loop.example/g00887/laws.FnShortened", spec := "fnShortened", apart := false, narrowed := true }
def FnShortenedUptoSaid : Prop := fnShortenedUptoRow.holds Try.pinned (OpenSpec.upto fnShortenedSpec)

/-- 'laws.FnLimits', WHERE WHAT IT READS IS OF BULK AT MOST 1048576: true; the input reads as it did. -/
def fnLimitsUptoRow : OpenClaim := { program := "ythlfadkpeogajaa", sum := "4e8ae5df7af29c9236f125f67b733366688d5f73359bb59cc85622bbe5be3af9", func := "loop.example/g00887/laws.FnLimits", spec := "fnLimits", apart := false, narrowed := true }
def FnLimitsUptoSaid : Prop := fnLimitsUptoRow.holds Try.pinned (OpenSpec.upto fnLimitsSpec)

/-- 'laws.FnExactFleetSequences', WHERE WHAT IT READS IS OF BULK AT MOST 1048576: true; the input reads as it did. -/
def fnExactFleetSequencesUptoRow : OpenClaim := { program := "ythlfadkpeogajaa", sum := "4e8ae5df7af29c9236f125f67b733366688d5f73359bb59cc85622bbe5be3af9", func := "loop.example/g00887/laws.FnExactFleetSequences", spec := "fnExactFleetSequences", apart := false, narrowed := true }
def FnExactFleetSequencesUptoSaid : Prop := fnExactFleetSequencesUptoRow.holds Try.pinned (OpenSpec.upto fnExactFleetSequencesSpec)

/-- 'laws.FnExactIsMet', WHERE WHAT IT READS IS OF BULK AT MOST 1048576: true; the input reads as it did. -/
def fnExactIsMetUptoRow : OpenClaim := { program := "ythlfadkpeogajaa", sum := "4e8ae5df7af29c9236f125f67b733366688d5f73359bb59cc85622bbe5be3af9", func := "loop.example/g00887/laws.FnExactIsMet", spec := "fnExactIsMet", apart := false, narrowed := true }
def FnExactIsMetUptoSaid : Prop := fnExactIsMetUptoRow.holds Try.pinned (OpenSpec.upto fnExactIsMetSpec)

end Rows
end Go.Proofs.Ythlfadkpeogajaa
