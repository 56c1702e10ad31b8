/-
  No cell of these rows narrows 'for every input' (looked for: loops, veiled, ifaces, maps, wideKeys, modest, calm, conditions, laid).
  DERIVED. THE GIVEN ROWS OF THIS SEAT. 11 by the template 'for every input the law returns true; each argument reads behind the call as it read before'; 0 by the template 'total and deterministic' (their statements: YtlmaecmjpbgegaaTotals.lean).
  GIVEN WITH THE SEED: the statements are not yours to turn. If you find one false, say at which input.
  Laid BY PROGRAM, IN A SANDBOX (cutbox-rows.mjs): the forced cells as the released guide's own fill.sh prints them over the translation 19c6174daea8a481… (all of the seat's roots in one cut). By AI agents, Wed Nov 11 2026. No macro, syntax, notation, axiom, sorry.
-/
import Derived.Test.YtlmaecmjpbgegaaChecked
import GoSem.Claim
import GoSem.ClaimJoined
import GoSem.ClaimMapViews
import Derived.JoinedTies
import Derived.KernelRfl
namespace Go.Proofs.Ytlmaecmjpbgegaa
/- THE CELL 'sum', in the pinned program and in every row, IS THE sha256 OF THE DUMP (.gsa) THAT YtlmaecmjpbgegaaProg.lean LOADS. Nothing in Lean hashes anything: it is a label: what it is worth is what the hold of that sum in a sandbox is worth. -/
noncomputable def Try.pinned : Pinned := { name := "ytlmaecmjpbgegaa", sum := "19c6174daea8a4810c6c0c312b746be5af969ae494a63762770ffc03f30ff83e", checked := Try.checked }
namespace Rows
def none {H : Type} : Left H := { results := [], args := [] }

/-- 'laws.FnExactCheckTimes': WHATEVER THE INPUT: true; the input reads as it did. -/
def fnExactCheckTimesSpec : ChangeSpec := { name := "fnExactCheckTimes", fn := fun _ => fun
  | [d1, d2, d3] => { results := [.lit (.bool true)], args := [d1, d2, d3] }
  | _ => none }
def fnExactCheckTimesRow : OpenClaim := { program := "ytlmaecmjpbgegaa", sum := "19c6174daea8a4810c6c0c312b746be5af969ae494a63762770ffc03f30ff83e", func := "loop.example/g00887/laws.FnExactCheckTimes", spec := "fnExactCheckTimes", apart := false }
def FnExactCheckTimesSaid : Prop := fnExactCheckTimesRow.holds Try.pinned (OpenSpec.ofChange fnExactCheckTimesSpec)

/-- ITS FALSE NEIGHBOUR: 'it returns false'. Refute it at one input. -/
def fnExactCheckTimesWrong : ChangeSpec := { name := "fnExactCheckTimes", fn := fun _ => fun
  | [d1, d2, d3] => { results := [.lit (.bool false)], args := [d1, d2, d3] }
  | _ => none }
def FnExactCheckTimesWrongFalsely : Prop := fnExactCheckTimesRow.holds Try.pinned (OpenSpec.ofChange fnExactCheckTimesWrong)

/-- 'laws.FnExactIsEarly': WHATEVER THE INPUT: true; the input reads as it did. -/
def fnExactIsEarlySpec : ChangeSpec := { name := "fnExactIsEarly", fn := fun _ => fun
  | [d1, d2, d3] => { results := [.lit (.bool true)], args := [d1, d2, d3] }
  | _ => none }
def fnExactIsEarlyRow : OpenClaim := { program := "ytlmaecmjpbgegaa", sum := "19c6174daea8a4810c6c0c312b746be5af969ae494a63762770ffc03f30ff83e", func := "loop.example/g00887/laws.FnExactIsEarly", spec := "fnExactIsEarly", apart := false }
def FnExactIsEarlySaid : Prop := fnExactIsEarlyRow.holds Try.pinned (OpenSpec.ofChange fnExactIsEarlySpec)

/-- ITS FALSE NEIGHBOUR: 'it returns false'. Refute it at one input. -/
def fnExactIsEarlyWrong : ChangeSpec := { name := "fnExactIsEarly", fn := fun _ => fun
  | [d1, d2, d3] => { results := [.lit (.bool false)], args := [d1, d2, d3] }
  | _ => none }
def FnExactIsEarlyWrongFalsely : Prop := fnExactIsEarlyRow.holds Try.pinned (OpenSpec.ofChange fnExactIsEarlyWrong)

/-- 'laws.FnExactIsRecall': WHATEVER THE INPUT: true; the input reads as it did. -/
def fnExactIsRecallSpec : ChangeSpec := { name := "fnExactIsRecall", fn := fun _ => fun
  | [d1, d2, d3] => { results := [.lit (.bool true)], args := [d1, d2, d3] }
  | _ => none }
def fnExactIsRecallRow : OpenClaim := { program := "ytlmaecmjpbgegaa", sum := "19c6174daea8a4810c6c0c312b746be5af969ae494a63762770ffc03f30ff83e", func := "loop.example/g00887/laws.FnExactIsRecall", spec := "fnExactIsRecall", apart := false }
def FnExactIsRecallSaid : Prop := fnExactIsRecallRow.holds Try.pinned (OpenSpec.ofChange fnExactIsRecallSpec)

/-- ITS FALSE NEIGHBOUR: 'it returns false'. Refute it at one input. -/
def fnExactIsRecallWrong : ChangeSpec := { name := "fnExactIsRecall", fn := fun _ => fun
  | [d1, d2, d3] => { results := [.lit (.bool false)], args := [d1, d2, d3] }
  | _ => none }
def FnExactIsRecallWrongFalsely : Prop := fnExactIsRecallRow.holds Try.pinned (OpenSpec.ofChange fnExactIsRecallWrong)

/-- 'laws.FnExactEarlyBoats': WHATEVER THE INPUT: true; the input reads as it did. -/
def fnExactEarlyBoatsSpec : ChangeSpec := { name := "fnExactEarlyBoats", fn := fun _ => fun
  | [d1, d2, d3] => { results := [.lit (.bool true)], args := [d1, d2, d3] }
  | _ => none }
def fnExactEarlyBoatsRow : OpenClaim := { program := "ytlmaecmjpbgegaa", sum := "19c6174daea8a4810c6c0c312b746be5af969ae494a63762770ffc03f30ff83e", func := "loop.example/g00887/laws.FnExactEarlyBoats", spec := "fnExactEarlyBoats", apart := false }
def FnExactEarlyBoatsSaid : Prop := fnExactEarlyBoatsRow.holds Try.pinned (OpenSpec.ofChange fnExactEarlyBoatsSpec)

/-- ITS FALSE NEIGHBOUR: 'it returns false'. Refute it at one input. -/
def fnExactEarlyBoatsWrong : ChangeSpec := { name := "fnExactEarlyBoats", fn := fun _ => fun
  | [d1, d2, d3] => { results := [.lit (.bool false)], args := [d1, d2, d3] }
  | _ => none }
def FnExactEarlyBoatsWrongFalsely : Prop := fnExactEarlyBoatsRow.holds Try.pinned (OpenSpec.ofChange fnExactEarlyBoatsWrong)

/-- 'laws.FnExactIsHasty': WHATEVER THE INPUT: true; the input reads as it did. -/
def fnExactIsHastySpec : ChangeSpec := { name := "fnExactIsHasty", fn := fun _ => fun
  | [d1, d2, d3] => { results := [.lit (.bool true)], args := [d1, d2, d3] }
  | _ => none }
def fnExactIsHastyRow : OpenClaim := { program := "ytlmaecmjpbgegaa", sum := "19c6174daea8a4810c6c0c312b746be5af969ae494a63762770ffc03f30ff83e", func := "loop.example/g00887/laws.FnExactIsHasty", spec := "fnExactIsHasty", named := ["math/bits.divideError", "math/bits.overflowError"], apart := false }
def FnExactIsHastySaid : Prop := fnExactIsHastyRow.holds Try.pinned (OpenSpec.ofChange fnExactIsHastySpec)

/-- ITS FALSE NEIGHBOUR: 'it returns false'. Refute it at one input. -/
def fnExactIsHastyWrong : ChangeSpec := { name := "fnExactIsHasty", fn := fun _ => fun
  | [d1, d2, d3] => { results := [.lit (.bool false)], args := [d1, d2, d3] }
  | _ => none }
def FnExactIsHastyWrongFalsely : Prop := fnExactIsHastyRow.holds Try.pinned (OpenSpec.ofChange fnExactIsHastyWrong)

/-- 'laws.FnExactLineDelay': WHATEVER THE INPUT: true; the input reads as it did. -/
def fnExactLineDelaySpec : ChangeSpec := { name := "fnExactLineDelay", fn := fun _ => fun
  | [d1, d2, d3] => { results := [.lit (.bool true)], args := [d1, d2, d3] }
  | _ => none }
def fnExactLineDelayRow : OpenClaim := { program := "ytlmaecmjpbgegaa", sum := "19c6174daea8a4810c6c0c312b746be5af969ae494a63762770ffc03f30ff83e", func := "loop.example/g00887/laws.FnExactLineDelay", spec := "fnExactLineDelay", named := ["math/bits.divideError", "math/bits.overflowError"], apart := false }
def FnExactLineDelaySaid : Prop := fnExactLineDelayRow.holds Try.pinned (OpenSpec.ofChange fnExactLineDelaySpec)

/-- ITS FALSE NEIGHBOUR: 'it returns false'. Refute it at one input. -/
def fnExactLineDelayWrong : ChangeSpec := { name := "fnExactLineDelay", fn := fun _ => fun
  | [d1, d2, d3] => { results := [.lit (.bool false)], args := [d1, d2, d3] }
  | _ => none }
def FnExactLineDelayWrongFalsely : Prop := fnExactLineDelayRow.holds Try.pinned (OpenSpec.ofChange fnExactLineDelayWrong)

/-- 'laws.FnExactStartOf': WHATEVER THE INPUT: true; the input reads as it did. -/
def fnExactStartOfSpec : ChangeSpec := { name := "fnExactStartOf", fn := fun _ => fun
  | [d1, d2, d3, d4] => { results := [.lit (.bool true)], args := [d1, d2, d3, d4] }
  | _ => none }
def fnExactStartOfRow : OpenClaim := { program := "ytlmaecmjpbgegaa", sum := "19c6174daea8a4810c6c0c312b746be5af969ae494a63762770ffc03f30ff83e", func := "loop.example/g00887/laws.FnExactStartOf", spec := "fnExactStartOf", named := ["math/bits.divideError", "math/bits.overflowError"], apart := false }
def FnExactStartOfSaid : Prop := fnExactStartOfRow.holds Try.pinned (OpenSpec.ofChange fnExactStartOfSpec)

/-- ITS FALSE NEIGHBOUR: 'it returns false'. Refute it at one input. -/
def fnExactStartOfWrong : ChangeSpec := { name := "fnExactStartOf", fn := fun _ => fun
  | [d1, d2, d3, d4] => { results := [.lit (.bool false)], args := [d1, d2, d3, d4] }
  | _ => none }
def FnExactStartOfWrongFalsely : Prop := fnExactStartOfRow.holds Try.pinned (OpenSpec.ofChange fnExactStartOfWrong)

/-- 'laws.FnExactBestStart': WHATEVER THE INPUT: true; the input reads as it did. -/
def fnExactBestStartSpec : ChangeSpec := { name := "fnExactBestStart", fn := fun _ => fun
  | [d1, d2, d3, d4] => { results := [.lit (.bool true)], args := [d1, d2, d3, d4] }
  | _ => none }
def fnExactBestStartRow : OpenClaim := { program := "ytlmaecmjpbgegaa", sum := "19c6174daea8a4810c6c0c312b746be5af969ae494a63762770ffc03f30ff83e", func := "loop.example/g00887/laws.FnExactBestStart", spec := "fnExactBestStart", named := ["math/bits.divideError", "math/bits.overflowError"], apart := false }
def FnExactBestStartSaid : Prop := fnExactBestStartRow.holds Try.pinned (OpenSpec.ofChange fnExactBestStartSpec)

/-- ITS FALSE NEIGHBOUR: 'it returns false'. Refute it at one input. -/
def fnExactBestStartWrong : ChangeSpec := { name := "fnExactBestStart", fn := fun _ => fun
  | [d1, d2, d3, d4] => { results := [.lit (.bool false)], args := [d1, d2, d3, d4] }
  | _ => none }
def FnExactBestStartWrongFalsely : Prop := fnExactBestStartRow.holds Try.pinned (OpenSpec.ofChange fnExactBestStartWrong)

/-- 'laws.FnStarts': WHATEVER THE INPUT: true; the input reads as it did. -/
def fnStartsSpec : ChangeSpec := { name := "fnStarts", fn := fun _ => fun
  | [d] => { results := [.lit (.bool true)], args := [d] }
  | _ => none }
def fnStartsRow : OpenClaim := { program := "ytlmaecmjpbgegaa", sum := "19c6174daea8a4810c6c0c312b746be5af969ae494a63762770ffc03f30ff83e", func := "loop.example/g00887/laws.FnStarts", spec := "fnStarts", named := ["math/bits.divideError", "math/bits.overflowError"], apart := false }
def FnStartsSaid : Prop := fnStartsRow.holds Try.pinned (OpenSpec.ofChange fnStartsSpec)

/-- ITS FALSE NEIGHBOUR: 'it returns false'. Refute it at one input. -/
def fnStartsWrong : ChangeSpec := { name := "fnStarts", fn := fun _ => fun
  | [d] => { results := [.lit (.bool false)], args := [d] }
  | _ => none }
def FnStartsWrongFalsely : Prop := fnStartsRow.holds Try.pinned (OpenSpec.ofChange fnStartsWrong)

/-- 'laws.FnRecalls': WHATEVER THE INPUT: true; the input reads as it did. -/
def fnRecallsSpec : ChangeSpec := { name := "fnRecalls", fn := fun _ => fun
  | [d] => { results := [.lit (.bool true)], args := [d] }
  | _ => none }
def fnRecallsRow : OpenClaim := { program := "ytlmaecmjpbgegaa", sum := "19c6174daea8a4810c6c0c312b746be5af969ae494a63762770ffc03f30ff83e", func := "loop.example/g00887/laws.FnRecalls", spec := "fnRecalls", named := ["math/bits.divideError", "math/bits.overflowError"], apart := false }
def FnRecallsSaid : Prop := fnRecallsRow.holds Try.pinned (OpenSpec.ofChange fnRecallsSpec)

/-- ITS FALSE NEIGHBOUR: 'it returns false'. Refute it at one input. -/
def fnRecallsWrong : ChangeSpec := { name := "fnRecalls", fn := fun _ => fun
  | [d] => { results := [.lit (.bool false)], args := [d] }
  | _ => none }
def FnRecallsWrongFalsely : Prop := fnRecallsRow.holds Try.pinned (OpenSpec.ofChange fnRecallsWrong)

/-- 'laws.FnExactStartsOf': WHATEVER THE INPUT: true; the input reads as it did. -/
def fnExactStartsOfSpec : ChangeSpec := { name := "fnExactStartsOf", fn := fun _ => fun
  | [d1, d2, d3, d4] => { results := [.lit (.bool true)], args := [d1, d2, d3, d4] }
  | _ => none }
def fnExactStartsOfRow : OpenClaim := { program := "ytlmaecmjpbgegaa", sum := "19c6174daea8a4810c6c0c312b746be5af969ae494a63762770ffc03f30ff83e", func := "loop.example/g00887/laws.FnExactStartsOf", spec := "fnExactStartsOf", named := ["math/bits.divideError", "math/bits.overflowError"], apart := false }
def FnExactStartsOfSaid : Prop := fnExactStartsOfRow.holds Try.pinned (OpenSpec.ofChange fnExactStartsOfSpec)

/-- ITS FALSE NEIGHBOUR: 'it returns false'. Refute it at one input. -/
def fnExactStartsOfWrong : ChangeSpec := { name := "fnExactStartsOf", fn := fun _ => fun
  | [d1, d2, d3, d4] => { results := [.lit (.bool false)], args := [d1, d2, d3, d4] }
  | _ => none }
def FnExactStartsOfWrongFalsely : Prop := fnExactStartsOfRow.holds Try.pinned (OpenSpec.ofChange fnExactStartsOfWrong)

/- THE SECOND FORM. 'bulk': how many values and letters a reading holds, each counted each time it is reached (what is shared counts as often as it is met; a slice's spare places count too). A statement '..UptoSaid' is the law's where the arguments, and the package variables that the reading takes, are together of bulk at most 1048576: NARROWER than '..Said'. Prove '..Said' where nothing that the law and all that it calls make is longer than what came in: it says more and counts as full. Else prove '..UptoSaid'. A law counts once. -/
mutual
def uptoBulk {H : Type} : DataW H → Nat
  | .lit (.string bytes) => bytes.length + 1
  | .lit _ => 1
  | .nil => 1
  | .ptr d => uptoBulk d + 1
  | .slice elems spare => uptoBulkAll elems + uptoBulkAll spare + 1
  | .agg parts => uptoBulkAll parts + 1
  | .iface _ d => uptoBulk d + 1
  | .map entries => uptoBulkEntries entries + 1
  | .held _ => 1
def uptoBulkAll {H : Type} : List (DataW H) → Nat
  | [] => 0
  | d :: r => uptoBulk d + uptoBulkAll r
def uptoBulkEntries {H : Type} : List (Lit × DataW H) → Nat
  | [] => 0
  | x :: r => uptoBulkEntry x + uptoBulkEntries r
def uptoBulkEntry {H : Type} : Lit × DataW H → Nat
  | (.string bytes, d) => bytes.length + uptoBulk d + 1
  | (_, d) => uptoBulk d + 1
 end
def uptoSmall : (H : Type) → List (DataW H) → Bool := fun _ ds => decide (uptoBulkAll ds ≤ 1048576)
def OpenSpec.upto (s : _root_.Go.ChangeSpec) : _root_.Go.OpenSpec := { _root_.Go.OpenSpec.ofChange s with cond := some uptoSmall }

/-- 'laws.FnExactCheckTimes', WHERE WHAT IT READS IS OF BULK AT MOST 1048576: true; the input reads as it did. -/
def fnExactCheckTimesUptoRow : OpenClaim := { program := "ytlmaecmjpbgegaa", sum := "19c6174daea8a4810c6c0c312b746be5af969ae494a63762770ffc03f30ff83e", func := "loop.example/g00887/laws.FnExactCheckTimes", spec := "fnExactCheckTimes", apart := false, narrowed := true }
def FnExactCheckTimesUptoSaid : Prop := fnExactCheckTimesUptoRow.holds Try.pinned (OpenSpec.upto fnExactCheckTimesSpec)

/-- 'laws.FnExactIsEarly', WHERE WHAT IT READS IS OF BULK AT MOST 1048576: true; the input reads as it did. -/
def fnExactIsEarlyUptoRow : OpenClaim := { program := "ytlmaecmjpbgegaa", sum := "19c6174daea8a4810c6c0c312b746be5af969ae494a63762770ffc03f30ff83e", func := "loop.example/g00887/laws.FnExactIsEarly", spec := "fnExactIsEarly", apart := false, narrowed := true }
def FnExactIsEarlyUptoSaid : Prop := fnExactIsEarlyUptoRow.holds Try.pinned (OpenSpec.upto fnExactIsEarlySpec)

/-- 'laws.FnExactIsRecall', WHERE WHAT IT READS IS OF BULK AT MOST 1048576: true; the input reads as it did. -/
def fnExactIsRecallUptoRow : OpenClaim := { program := "ytlmaecmjpbgegaa", sum := "19c6174daea8a4810c6c0c312b746be5af969ae494a63762770ffc03f30ff83e", func := "loop.example/g00887/laws.FnExactIsRecall", spec := "fnExactIsRecall", apart := false, narrowed := true }
def FnExactIsRecallUptoSaid : Prop := fnExactIsRecallUptoRow.holds Try.pinned (OpenSpec.upto fnExactIsRecallSpec)

/-- 'laws.FnExactEarlyBoats', WHERE WHAT IT READS IS OF BULK AT MOST 1048576: true; the input reads as it did. -/
def fnExactEarlyBoatsUptoRow : OpenClaim := { program := "ytlmaecmjpbgegaa", sum := "19c6174daea8a4810c6c0c312b746be5af969ae494a63762770ffc03f30ff83e", func := "loop.example/g00887/laws.FnExactEarlyBoats", spec := "fnExactEarlyBoats", apart := false, narrowed := true }
def FnExactEarlyBoatsUptoSaid : Prop := fnExactEarlyBoatsUptoRow.holds Try.pinned (OpenSpec.upto fnExactEarlyBoatsSpec)

/-- 'laws.FnExactIsHasty', WHERE WHAT IT READS IS OF BULK AT MOST 1048576: true; the input reads as it did. -/
def fnExactIsHastyUptoRow : OpenClaim := { program := "ytlmaecmjpbgegaa", sum := "19c6174daea8a4810c6c0c312b746be5af969ae494a63762770ffc03f30ff83e", func := "loop.example/g00887/laws.FnExactIsHasty", spec := "fnExactIsHasty", named := ["math/bits.divideError", "math/bits.overflowError"], apart := false, narrowed := true }
def FnExactIsHastyUptoSaid : Prop := fnExactIsHastyUptoRow.holds Try.pinned (OpenSpec.upto fnExactIsHastySpec)

/-- 'laws.FnExactLineDelay', WHERE WHAT IT READS IS OF BULK AT MOST 1048576: true; the input reads as it did. -/
def fnExactLineDelayUptoRow : OpenClaim := { program := "ytlmaecmjpbgegaa", sum := "19c6174daea8a4810c6c0c312b746be5af969ae494a63762770ffc03f30ff83e", func := "loop.example/g00887/laws.FnExactLineDelay", spec := "fnExactLineDelay", named := ["math/bits.divideError", "math/bits.overflowError"], apart := false, narrowed := true }
def FnExactLineDelayUptoSaid : Prop := fnExactLineDelayUptoRow.holds Try.pinned (OpenSpec.upto fnExactLineDelaySpec)

/-- 'laws.FnExactStartOf', WHERE WHAT IT READS IS OF BULK AT MOST 1048576: true; the input reads as it did. -/
def fnExactStartOfUptoRow : OpenClaim := { program := "ytlmaecmjpbgegaa", sum := "19c6174daea8a4810c6c0c312b746be5af969ae494a63762770ffc03f30ff83e", func := "loop.example/g00887/laws.FnExactStartOf", spec := "fnExactStartOf", named := ["math/bits.divideError", "math/bits.overflowError"], apart := false, narrowed := true }
def FnExactStartOfUptoSaid : Prop := fnExactStartOfUptoRow.holds Try.pinned (OpenSpec.upto fnExactStartOfSpec)

/-- 'laws.FnExactBestStart', WHERE WHAT IT READS IS OF BULK AT MOST 1048576: true; the input reads as it did. -/
def fnExactBestStartUptoRow : OpenClaim := { program := "ytlmaecmjpbgegaa", sum := "19c6174daea8a4810c6c0c312b746be5af969ae494a63762770ffc03f30ff83e", func := "loop.example/g00887/laws.FnExactBestStart", spec := "fnExactBestStart", named := ["math/bits.divideError", "math/bits.overflowError"], apart := false, narrowed := true }
def FnExactBestStartUptoSaid : Prop := fnExactBestStartUptoRow.holds Try.pinned (OpenSpec.upto fnExactBestStartSpec)

/-- 'laws.FnStarts', WHERE WHAT IT READS IS OF BULK AT MOST 1048576: true; the input reads as it did. -/
def fnStartsUptoRow : OpenClaim := { program := "ytlmaecmjpbgegaa", sum := "19c6174daea8a4810c6c0c312b746be5af969ae494a63762770ffc03f30ff83e", func := "loop.example/g00887/laws.FnStarts", spec := "fnStarts", named := ["math/bits.divideError", "math/bits.overflowError"], apart := false, narrowed := true }
def FnStartsUptoSaid : Prop := fnStartsUptoRow.holds Try.pinned (OpenSpec.upto fnStartsSpec)

/-- 'laws.FnRecalls', WHERE WHAT IT READS IS OF BULK AT MOST 1048576: true; the input reads as it did. -/
def fnRecallsUptoRow : OpenClaim := { program := "ytlmaecmjpbgegaa", sum := "19c6174daea8a4810c6c0c312b746be5af969ae494a63762770ffc03f30ff83e", func := "loop.example/g00887/laws.FnRecalls", spec := "fnRecalls", named := ["math/bits.divideError", "math/bits.overflowError"], apart := false, narrowed := true }
def FnRecallsUptoSaid : Prop := fnRecallsUptoRow.holds Try.pinned (OpenSpec.upto fnRecallsSpec)

/-- 'laws.FnExactStartsOf', WHERE WHAT IT READS IS OF BULK AT MOST 1048576: true; the input reads as it did. -/
def fnExactStartsOfUptoRow : OpenClaim := { program := "ytlmaecmjpbgegaa", sum := "19c6174daea8a4810c6c0c312b746be5af969ae494a63762770ffc03f30ff83e", func := "loop.example/g00887/laws.FnExactStartsOf", spec := "fnExactStartsOf", named := ["math/bits.divideError", "math/bits.overflowError"], apart := false, narrowed := true }
def FnExactStartsOfUptoSaid : Prop := fnExactStartsOfUptoRow.holds Try.pinned (OpenSpec.upto fnExactStartsOfSpec)

end Rows
end Go.Proofs.Ytlmaecmjpbgegaa
