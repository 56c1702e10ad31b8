/-
  No cell of these rows narrows 'for every input' (looked for: loops, veiled, ifaces, maps, wideKeys, modest, calm, conditions, laid).
  DERIVED. THE GIVEN ROWS OF THIS SEAT. 12 by the template 'for every input the law returns true; each argument reads behind the call as it read before'; 0 by the template 'total and deterministic' (their statements: YtgooehdjbdgecaaTotals.lean).
  GIVEN WITH THE SEED: the statements are not yours to turn. If you find one false, say at which input.
  Laid BY PROGRAM, IN A SANDBOX (cutbox-rows.mjs): the forced cells as the released guide's own fill.sh prints them over the translation 2c4a3a4d67d823a8… (all of the seat's roots in one cut). By AI agents, Wed Nov 11 2026. No macro, syntax, notation, axiom, sorry.
-/
import Derived.Test.YtgooehdjbdgecaaChecked
import GoSem.Claim
import GoSem.ClaimJoined
import GoSem.ClaimMapViews
import Derived.JoinedTies
import Derived.KernelRfl
namespace Go.Proofs.Ytgooehdjbdgecaa
/- THE CELL 'sum', in the pinned program and in every row, IS THE sha256 OF THE DUMP (.gsa) THAT YtgooehdjbdgecaaProg.lean LOADS. Nothing in Lean hashes anything: it is a label: what it is worth is what the hold of that sum in a sandbox is worth. -/
noncomputable def Try.pinned : Pinned := { name := "ytgooehdjbdgecaa", sum := "2c4a3a4d67d823a8f1a05c5dd07a60145887b1232efa7e8628df6ba8cb940717", checked := Try.checked }
namespace Rows
def none {H : Type} : Left H := { results := [], args := [] }

/-- 'laws.FnExactCodeText': WHATEVER THE INPUT: true; the input reads as it did. -/
def fnExactCodeTextSpec : ChangeSpec := { name := "fnExactCodeText", fn := fun _ => fun
  | [d] => { results := [.lit (.bool true)], args := [d] }
  | _ => none }
def fnExactCodeTextRow : OpenClaim := { program := "ytgooehdjbdgecaa", sum := "2c4a3a4d67d823a8f1a05c5dd07a60145887b1232efa7e8628df6ba8cb940717", func := "loop.example/g00887/laws.FnExactCodeText", spec := "fnExactCodeText", apart := false }
def FnExactCodeTextSaid : Prop := fnExactCodeTextRow.holds Try.pinned (OpenSpec.ofChange fnExactCodeTextSpec)

/-- ITS FALSE NEIGHBOUR: 'it returns false'. Refute it at one input. -/
def fnExactCodeTextWrong : ChangeSpec := { name := "fnExactCodeText", fn := fun _ => fun
  | [d] => { results := [.lit (.bool false)], args := [d] }
  | _ => none }
def FnExactCodeTextWrongFalsely : Prop := fnExactCodeTextRow.holds Try.pinned (OpenSpec.ofChange fnExactCodeTextWrong)

/-- 'laws.FnExactIsLimits': WHATEVER THE INPUT: true; the input reads as it did. -/
def fnExactIsLimitsSpec : ChangeSpec := { name := "fnExactIsLimits", fn := fun _ => fun
  | [d] => { results := [.lit (.bool true)], args := [d] }
  | _ => none }
def fnExactIsLimitsRow : OpenClaim := { program := "ytgooehdjbdgecaa", sum := "2c4a3a4d67d823a8f1a05c5dd07a60145887b1232efa7e8628df6ba8cb940717", func := "loop.example/g00887/laws.FnExactIsLimits", spec := "fnExactIsLimits", apart := false }
def FnExactIsLimitsSaid : Prop := fnExactIsLimitsRow.holds Try.pinned (OpenSpec.ofChange fnExactIsLimitsSpec)

/-- ITS FALSE NEIGHBOUR: 'it returns false'. Refute it at one input. -/
def fnExactIsLimitsWrong : ChangeSpec := { name := "fnExactIsLimits", fn := fun _ => fun
  | [d] => { results := [.lit (.bool false)], args := [d] }
  | _ => none }
def FnExactIsLimitsWrongFalsely : Prop := fnExactIsLimitsRow.holds Try.pinned (OpenSpec.ofChange fnExactIsLimitsWrong)

/-- 'laws.FnExactIsWatch': WHATEVER THE INPUT: true; the input reads as it did. -/
def fnExactIsWatchSpec : ChangeSpec := { name := "fnExactIsWatch", fn := fun _ => fun
  | [d] => { results := [.lit (.bool true)], args := [d] }
  | _ => none }
def fnExactIsWatchRow : OpenClaim := { program := "ytgooehdjbdgecaa", sum := "2c4a3a4d67d823a8f1a05c5dd07a60145887b1232efa7e8628df6ba8cb940717", func := "loop.example/g00887/laws.FnExactIsWatch", spec := "fnExactIsWatch", apart := false }
def FnExactIsWatchSaid : Prop := fnExactIsWatchRow.holds Try.pinned (OpenSpec.ofChange fnExactIsWatchSpec)

/-- ITS FALSE NEIGHBOUR: 'it returns false'. Refute it at one input. -/
def fnExactIsWatchWrong : ChangeSpec := { name := "fnExactIsWatch", fn := fun _ => fun
  | [d] => { results := [.lit (.bool false)], args := [d] }
  | _ => none }
def FnExactIsWatchWrongFalsely : Prop := fnExactIsWatchRow.holds Try.pinned (OpenSpec.ofChange fnExactIsWatchWrong)

/-- 'laws.FnExactStateName': WHATEVER THE INPUT: true; the input reads as it did. -/
def fnExactStateNameSpec : ChangeSpec := { name := "fnExactStateName", fn := fun _ => fun
  | [d] => { results := [.lit (.bool true)], args := [d] }
  | _ => none }
def fnExactStateNameRow : OpenClaim := { program := "ytgooehdjbdgecaa", sum := "2c4a3a4d67d823a8f1a05c5dd07a60145887b1232efa7e8628df6ba8cb940717", func := "loop.example/g00887/laws.FnExactStateName", spec := "fnExactStateName", apart := false }
def FnExactStateNameSaid : Prop := fnExactStateNameRow.holds Try.pinned (OpenSpec.ofChange fnExactStateNameSpec)

/-- ITS FALSE NEIGHBOUR: 'it returns false'. Refute it at one input. -/
def fnExactStateNameWrong : ChangeSpec := { name := "fnExactStateName", fn := fun _ => fun
  | [d] => { results := [.lit (.bool false)], args := [d] }
  | _ => none }
def FnExactStateNameWrongFalsely : Prop := fnExactStateNameRow.holds Try.pinned (OpenSpec.ofChange fnExactStateNameWrong)

/-- 'laws.FnExactIsFinish': WHATEVER THE INPUT: true; the input reads as it did. -/
def fnExactIsFinishSpec : ChangeSpec := { name := "fnExactIsFinish", fn := fun _ => fun
  | [d] => { results := [.lit (.bool true)], args := [d] }
  | _ => none }
def fnExactIsFinishRow : OpenClaim := { program := "ytgooehdjbdgecaa", sum := "2c4a3a4d67d823a8f1a05c5dd07a60145887b1232efa7e8628df6ba8cb940717", func := "loop.example/g00887/laws.FnExactIsFinish", spec := "fnExactIsFinish", apart := false }
def FnExactIsFinishSaid : Prop := fnExactIsFinishRow.holds Try.pinned (OpenSpec.ofChange fnExactIsFinishSpec)

/-- ITS FALSE NEIGHBOUR: 'it returns false'. Refute it at one input. -/
def fnExactIsFinishWrong : ChangeSpec := { name := "fnExactIsFinish", fn := fun _ => fun
  | [d] => { results := [.lit (.bool false)], args := [d] }
  | _ => none }
def FnExactIsFinishWrongFalsely : Prop := fnExactIsFinishRow.holds Try.pinned (OpenSpec.ofChange fnExactIsFinishWrong)

/-- 'laws.FnExactIsProtest': WHATEVER THE INPUT: true; the input reads as it did. -/
def fnExactIsProtestSpec : ChangeSpec := { name := "fnExactIsProtest", fn := fun _ => fun
  | [d] => { results := [.lit (.bool true)], args := [d] }
  | _ => none }
def fnExactIsProtestRow : OpenClaim := { program := "ytgooehdjbdgecaa", sum := "2c4a3a4d67d823a8f1a05c5dd07a60145887b1232efa7e8628df6ba8cb940717", func := "loop.example/g00887/laws.FnExactIsProtest", spec := "fnExactIsProtest", apart := false }
def FnExactIsProtestSaid : Prop := fnExactIsProtestRow.holds Try.pinned (OpenSpec.ofChange fnExactIsProtestSpec)

/-- ITS FALSE NEIGHBOUR: 'it returns false'. Refute it at one input. -/
def fnExactIsProtestWrong : ChangeSpec := { name := "fnExactIsProtest", fn := fun _ => fun
  | [d] => { results := [.lit (.bool false)], args := [d] }
  | _ => none }
def FnExactIsProtestWrongFalsely : Prop := fnExactIsProtestRow.holds Try.pinned (OpenSpec.ofChange fnExactIsProtestWrong)

/-- 'laws.FnExactReadCode': WHATEVER THE INPUT: true; the input reads as it did. -/
def fnExactReadCodeSpec : ChangeSpec := { name := "fnExactReadCode", fn := fun _ => fun
  | [d] => { results := [.lit (.bool true)], args := [d] }
  | _ => none }
def fnExactReadCodeRow : OpenClaim := { program := "ytgooehdjbdgecaa", sum := "2c4a3a4d67d823a8f1a05c5dd07a60145887b1232efa7e8628df6ba8cb940717", func := "loop.example/g00887/laws.FnExactReadCode", spec := "fnExactReadCode", apart := false }
def FnExactReadCodeSaid : Prop := fnExactReadCodeRow.holds Try.pinned (OpenSpec.ofChange fnExactReadCodeSpec)

/-- ITS FALSE NEIGHBOUR: 'it returns false'. Refute it at one input. -/
def fnExactReadCodeWrong : ChangeSpec := { name := "fnExactReadCode", fn := fun _ => fun
  | [d] => { results := [.lit (.bool false)], args := [d] }
  | _ => none }
def FnExactReadCodeWrongFalsely : Prop := fnExactReadCodeRow.holds Try.pinned (OpenSpec.ofChange fnExactReadCodeWrong)

/-- 'laws.FnExactIsExpired': WHATEVER THE INPUT: true; the input reads as it did. -/
def fnExactIsExpiredSpec : ChangeSpec := { name := "fnExactIsExpired", fn := fun _ => fun
  | [d1, d2, d3, d4] => { results := [.lit (.bool true)], args := [d1, d2, d3, d4] }
  | _ => none }
def fnExactIsExpiredRow : OpenClaim := { program := "ytgooehdjbdgecaa", sum := "2c4a3a4d67d823a8f1a05c5dd07a60145887b1232efa7e8628df6ba8cb940717", func := "loop.example/g00887/laws.FnExactIsExpired", spec := "fnExactIsExpired", unfollowed := true, recurses := true, apart := false }
def FnExactIsExpiredSaid : Prop := fnExactIsExpiredRow.holds Try.pinned (OpenSpec.ofChange fnExactIsExpiredSpec)

/-- ITS FALSE NEIGHBOUR: 'it returns false'. Refute it at one input. -/
def fnExactIsExpiredWrong : ChangeSpec := { name := "fnExactIsExpired", fn := fun _ => fun
  | [d1, d2, d3, d4] => { results := [.lit (.bool false)], args := [d1, d2, d3, d4] }
  | _ => none }
def FnExactIsExpiredWrongFalsely : Prop := fnExactIsExpiredRow.holds Try.pinned (OpenSpec.ofChange fnExactIsExpiredWrong)

/-- 'laws.FnExactNextState': WHATEVER THE INPUT: true; the input reads as it did. -/
def fnExactNextStateSpec : ChangeSpec := { name := "fnExactNextState", fn := fun _ => fun
  | [d1, d2] => { results := [.lit (.bool true)], args := [d1, d2] }
  | _ => none }
def fnExactNextStateRow : OpenClaim := { program := "ytgooehdjbdgecaa", sum := "2c4a3a4d67d823a8f1a05c5dd07a60145887b1232efa7e8628df6ba8cb940717", func := "loop.example/g00887/laws.FnExactNextState", spec := "fnExactNextState", apart := false }
def FnExactNextStateSaid : Prop := fnExactNextStateRow.holds Try.pinned (OpenSpec.ofChange fnExactNextStateSpec)

/-- ITS FALSE NEIGHBOUR: 'it returns false'. Refute it at one input. -/
def fnExactNextStateWrong : ChangeSpec := { name := "fnExactNextState", fn := fun _ => fun
  | [d1, d2] => { results := [.lit (.bool false)], args := [d1, d2] }
  | _ => none }
def FnExactNextStateWrongFalsely : Prop := fnExactNextStateRow.holds Try.pinned (OpenSpec.ofChange fnExactNextStateWrong)

/-- 'laws.FnExactPenalizedBoats': WHATEVER THE INPUT: true; the input reads as it did. -/
def fnExactPenalizedBoatsSpec : ChangeSpec := { name := "fnExactPenalizedBoats", fn := fun _ => fun
  | [d1, d2, d3] => { results := [.lit (.bool true)], args := [d1, d2, d3] }
  | _ => none }
def fnExactPenalizedBoatsRow : OpenClaim := { program := "ytgooehdjbdgecaa", sum := "2c4a3a4d67d823a8f1a05c5dd07a60145887b1232efa7e8628df6ba8cb940717", func := "loop.example/g00887/laws.FnExactPenalizedBoats", spec := "fnExactPenalizedBoats", apart := false }
def FnExactPenalizedBoatsSaid : Prop := fnExactPenalizedBoatsRow.holds Try.pinned (OpenSpec.ofChange fnExactPenalizedBoatsSpec)

/-- ITS FALSE NEIGHBOUR: 'it returns false'. Refute it at one input. -/
def fnExactPenalizedBoatsWrong : ChangeSpec := { name := "fnExactPenalizedBoats", fn := fun _ => fun
  | [d1, d2, d3] => { results := [.lit (.bool false)], args := [d1, d2, d3] }
  | _ => none }
def FnExactPenalizedBoatsWrongFalsely : Prop := fnExactPenalizedBoatsRow.holds Try.pinned (OpenSpec.ofChange fnExactPenalizedBoatsWrong)

/-- 'laws.FnExactSequenceFor': WHATEVER THE INPUT: true; the input reads as it did. -/
def fnExactSequenceForSpec : ChangeSpec := { name := "fnExactSequenceFor", fn := fun _ => fun
  | [d] => { results := [.lit (.bool true)], args := [d] }
  | _ => none }
def fnExactSequenceForRow : OpenClaim := { program := "ytgooehdjbdgecaa", sum := "2c4a3a4d67d823a8f1a05c5dd07a60145887b1232efa7e8628df6ba8cb940717", func := "loop.example/g00887/laws.FnExactSequenceFor", spec := "fnExactSequenceFor", apart := false }
def FnExactSequenceForSaid : Prop := fnExactSequenceForRow.holds Try.pinned (OpenSpec.ofChange fnExactSequenceForSpec)

/-- ITS FALSE NEIGHBOUR: 'it returns false'. Refute it at one input. -/
def fnExactSequenceForWrong : ChangeSpec := { name := "fnExactSequenceFor", fn := fun _ => fun
  | [d] => { results := [.lit (.bool false)], args := [d] }
  | _ => none }
def FnExactSequenceForWrongFalsely : Prop := fnExactSequenceForRow.holds Try.pinned (OpenSpec.ofChange fnExactSequenceForWrong)

/-- 'laws.FnExactIsSignals': WHATEVER THE INPUT: true; the input reads as it did. -/
def fnExactIsSignalsSpec : ChangeSpec := { name := "fnExactIsSignals", fn := fun _ => fun
  | [d] => { results := [.lit (.bool true)], args := [d] }
  | _ => none }
def fnExactIsSignalsRow : OpenClaim := { program := "ytgooehdjbdgecaa", sum := "2c4a3a4d67d823a8f1a05c5dd07a60145887b1232efa7e8628df6ba8cb940717", func := "loop.example/g00887/laws.FnExactIsSignals", spec := "fnExactIsSignals", apart := false }
def FnExactIsSignalsSaid : Prop := fnExactIsSignalsRow.holds Try.pinned (OpenSpec.ofChange fnExactIsSignalsSpec)

/-- ITS FALSE NEIGHBOUR: 'it returns false'. Refute it at one input. -/
def fnExactIsSignalsWrong : ChangeSpec := { name := "fnExactIsSignals", fn := fun _ => fun
  | [d] => { results := [.lit (.bool false)], args := [d] }
  | _ => none }
def FnExactIsSignalsWrongFalsely : Prop := fnExactIsSignalsRow.holds Try.pinned (OpenSpec.ofChange fnExactIsSignalsWrong)

/- THE SECOND FORM. 'bulk': how many values and letters a reading holds, each counted each time it is reached (what is shared counts as often as it is met; a slice's spare places count too). A statement '..UptoSaid' is the law's where the arguments, and the package variables that the reading takes, are together of bulk at most 1048576: NARROWER than '..Said'. Prove '..Said' where nothing that the law and all that it calls make is longer than what came in: it says more and counts as full. Else prove '..UptoSaid'. A law counts once. -/
mutual
def uptoBulk {H : Type} : DataW H → Nat
  | .lit (.string bytes) => bytes.length + 1
  | .lit _ => 1
  | .nil => 1
  | .ptr d => uptoBulk d + 1
  | .slice elems spare => uptoBulkAll elems + uptoBulkAll spare + 1
  | .agg parts => uptoBulkAll parts + 1
  | .iface _ d => uptoBulk d + 1
  | .map entries => uptoBulkEntries entries + 1
  | .held _ => 1
def uptoBulkAll {H : Type} : List (DataW H) → Nat
  | [] => 0
  | d :: r => uptoBulk d + uptoBulkAll r
def uptoBulkEntries {H : Type} : List (Lit × DataW H) → Nat
  | [] => 0
  | x :: r => uptoBulkEntry x + uptoBulkEntries r
def uptoBulkEntry {H : Type} : Lit × DataW H → Nat
  | (.string bytes, d) => bytes.length + uptoBulk d + 1
  | (_, d) => uptoBulk d + 1
 end
def uptoSmall : (H : Type) → List (DataW H) → Bool := fun _ ds => decide (uptoBulkAll ds ≤ 1048576)
def OpenSpec.upto (s : _root_.Go.ChangeSpec) : _root_.Go.OpenSpec := { _root_.Go.OpenSpec.ofChange s with cond := some uptoSmall }

/-- 'laws.FnExactCodeText', WHERE WHAT IT READS IS OF BULK AT MOST 1048576: true; the input reads as it did. -/
def fnExactCodeTextUptoRow : OpenClaim := { program := "ytgooehdjbdgecaa", sum := "2c4a3a4d67d823a8f1a05c5dd07a60145887b1232efa7e8628df6ba8cb940717", func := "loop.example/g00887/laws.FnExactCodeText", spec := "fnExactCodeText", apart := false, narrowed := true }
def FnExactCodeTextUptoSaid : Prop := fnExactCodeTextUptoRow.holds Try.pinned (OpenSpec.upto fnExactCodeTextSpec)

/-- 'laws.FnExactIsLimits', WHERE WHAT IT READS IS OF BULK AT MOST 1048576: true; the input reads as it did. -/
def fnExactIsLimitsUptoRow : OpenClaim := { program := "ytgooehdjbdgecaa", sum := "2c4a3a4d67d823a8f1a05c5dd07a60145887b1232efa7e8628df6ba8cb940717", func := "loop.example/g00887/laws.FnExactIsLimits", spec := "fnExactIsLimits", apart := false, narrowed := true }
def FnExactIsLimitsUptoSaid : Prop := fnExactIsLimitsUptoRow.holds Try.pinned (OpenSpec.upto fnExactIsLimitsSpec)

/-- 'laws.FnExactIsWatch', WHERE WHAT IT READS IS OF BULK AT MOST 1048576: true; the input reads as it did. -/
def fnExactIsWatchUptoRow : OpenClaim := { program := "ytgooehdjbdgecaa", sum := "2c4a3a4d67d823a8f1a05c5dd07a60145887b1232efa7e8628df6ba8cb940717", func := "loop.example/g00887/laws.FnExactIsWatch", spec := "fnExactIsWatch", apart := false, narrowed := true }
def FnExactIsWatchUptoSaid : Prop := fnExactIsWatchUptoRow.holds Try.pinned (OpenSpec.upto fnExactIsWatchSpec)

/-- 'laws.FnExactStateName', WHERE WHAT IT READS IS OF BULK AT MOST 1048576: true; the input reads as it did. -/
def fnExactStateNameUptoRow : OpenClaim := { program := "ytgooehdjbdgecaa", sum := "2c4a3a4d67d823a8f1a05c5dd07a60145887b1232efa7e8628df6ba8cb940717", func := "loop.example/g00887/laws.FnExactStateName", spec := "fnExactStateName", apart := false, narrowed := true }
def FnExactStateNameUptoSaid : Prop := fnExactStateNameUptoRow.holds Try.pinned (OpenSpec.upto fnExactStateNameSpec)

/-- 'laws.FnExactIsFinish', WHERE WHAT IT READS IS OF BULK AT MOST 1048576: true; the input reads as it did. -/
def fnExactIsFinishUptoRow : OpenClaim := { program := "ytgooehdjbdgecaa", sum := "2c4a3a4d67d823a8f1a05c5dd07a60145887b1232efa7e8628df6ba8cb940717", func := "loop.example/g00887/laws.FnExactIsFinish", spec := "fnExactIsFinish", apart := false, narrowed := true }
def FnExactIsFinishUptoSaid : Prop := fnExactIsFinishUptoRow.holds Try.pinned (OpenSpec.upto fnExactIsFinishSpec)

/-- 'laws.FnExactIsProtest', WHERE WHAT IT READS IS OF BULK AT MOST 1048576: true; the input reads as it did. -/
def fnExactIsProtestUptoRow : OpenClaim := { program := "ytgooehdjbdgecaa", sum := "2c4a3a4d67d823a8f1a05c5dd07a60145887b1232efa7e8628df6ba8cb940717", func := "loop.example/g00887/laws.FnExactIsProtest", spec := "fnExactIsProtest", apart := false, narrowed := true }
def FnExactIsProtestUptoSaid : Prop := fnExactIsProtestUptoRow.holds Try.pinned (OpenSpec.upto fnExactIsProtestSpec)

/-- 'laws.FnExactReadCode', WHERE WHAT IT READS IS OF BULK AT MOST 1048576: true; the input reads as it did. -/
def fnExactReadCodeUptoRow : OpenClaim := { program := "ytgooehdjbdgecaa", sum := "2c4a3a4d67d823a8f1a05c5dd07a60145887b1232efa7e8628df6ba8cb940717", func := "loop.example/g00887/laws.FnExactReadCode", spec := "fnExactReadCode", apart := false, narrowed := true }
def FnExactReadCodeUptoSaid : Prop := fnExactReadCodeUptoRow.holds Try.pinned (OpenSpec.upto fnExactReadCodeSpec)

/-- 'laws.FnExactIsExpired', WHERE WHAT IT READS IS OF BULK AT MOST 1048576: true; the input reads as it did. -/
def fnExactIsExpiredUptoRow : OpenClaim := { program := "ytgooehdjbdgecaa", sum := "2c4a3a4d67d823a8f1a05c5dd07a60145887b1232efa7e8628df6ba8cb940717", func := "loop.example/g00887/laws.FnExactIsExpired", spec := "fnExactIsExpired", unfollowed := true, recurses := true, apart := false, narrowed := true }
def FnExactIsExpiredUptoSaid : Prop := fnExactIsExpiredUptoRow.holds Try.pinned (OpenSpec.upto fnExactIsExpiredSpec)

/-- 'laws.FnExactNextState', WHERE WHAT IT READS IS OF BULK AT MOST 1048576: true; the input reads as it did. -/
def fnExactNextStateUptoRow : OpenClaim := { program := "ytgooehdjbdgecaa", sum := "2c4a3a4d67d823a8f1a05c5dd07a60145887b1232efa7e8628df6ba8cb940717", func := "loop.example/g00887/laws.FnExactNextState", spec := "fnExactNextState", apart := false, narrowed := true }
def FnExactNextStateUptoSaid : Prop := fnExactNextStateUptoRow.holds Try.pinned (OpenSpec.upto fnExactNextStateSpec)

/-- 'laws.FnExactPenalizedBoats', WHERE WHAT IT READS IS OF BULK AT MOST 1048576: true; the input reads as it did. -/
def fnExactPenalizedBoatsUptoRow : OpenClaim := { program := "ytgooehdjbdgecaa", sum := "2c4a3a4d67d823a8f1a05c5dd07a60145887b1232efa7e8628df6ba8cb940717", func := "loop.example/g00887/laws.FnExactPenalizedBoats", spec := "fnExactPenalizedBoats", apart := false, narrowed := true }
def FnExactPenalizedBoatsUptoSaid : Prop := fnExactPenalizedBoatsUptoRow.holds Try.pinned (OpenSpec.upto fnExactPenalizedBoatsSpec)

/-- 'laws.FnExactSequenceFor', WHERE WHAT IT READS IS OF BULK AT MOST 1048576: true; the input reads as it did. -/
def fnExactSequenceForUptoRow : OpenClaim := { program := "ytgooehdjbdgecaa", sum := "2c4a3a4d67d823a8f1a05c5dd07a60145887b1232efa7e8628df6ba8cb940717", func := "loop.example/g00887/laws.FnExactSequenceFor", spec := "fnExactSequenceFor", apart := false, narrowed := true }
def FnExactSequenceForUptoSaid : Prop := fnExactSequenceForUptoRow.holds Try.pinned (OpenSpec.upto fnExactSequenceForSpec)

/-- 'laws.FnExactIsSignals', WHERE WHAT IT READS IS OF BULK AT MOST 1048576: true; the input reads as it did. -/
def fnExactIsSignalsUptoRow : OpenClaim := { program := "ytgooehdjbdgecaa", sum := "2c4a3a4d67d823a8f1a05c5dd07a60145887b1232efa7e8628df6ba8cb940717", func := "loop.example/g00887/laws.FnExactIsSignals", spec := "fnExactIsSignals", apart := false, narrowed := true }
def FnExactIsSignalsUptoSaid : Prop := fnExactIsSignalsUptoRow.holds Try.pinned (OpenSpec.upto fnExactIsSignalsSpec)

end Rows
end Go.Proofs.Ytgooehdjbdgecaa
