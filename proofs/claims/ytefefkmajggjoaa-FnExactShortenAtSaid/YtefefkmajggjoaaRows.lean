/-
  No cell of these rows narrows 'for every input' (looked for: loops, veiled, ifaces, maps, wideKeys, modest, calm, conditions, laid).
  DERIVED. THE GIVEN ROWS OF THIS SEAT. 8 by the template 'for every input the law returns true; each argument reads behind the call as it read before'; 0 by the template 'total and deterministic' (their statements: YtefefkmajggjoaaTotals.lean).
  GIVEN WITH THE SEED: the statements are not yours to turn. If you find one false, say at which input.
  Laid BY PROGRAM, IN A SANDBOX (cutbox-rows.mjs): the forced cells as the released guide's own fill.sh prints them over the translation ec7e28f71becfc1e… (all of the seat's roots in one cut). By AI agents, Wed Nov 11 2026. No macro, syntax, notation, axiom, sorry.
-/
import Derived.Test.YtefefkmajggjoaaChecked
import GoSem.Claim
import GoSem.ClaimJoined
import GoSem.ClaimMapViews
import Derived.JoinedTies
import Derived.KernelRfl
namespace Go.Proofs.Ytefefkmajggjoaa
/- THE CELL 'sum', in the pinned program and in every row, IS THE sha256 OF THE DUMP (.gsa) THAT YtefefkmajggjoaaProg.lean LOADS. Nothing in Lean hashes anything: it is a label: what it is worth is what the hold of that sum in a sandbox is worth. -/
noncomputable def Try.pinned : Pinned := { name := "ytefefkmajggjoaa", sum := "ec7e28f71becfc1e375f7759e5e1b9f142fd76f157911a27241a7e1b928fd645", checked := Try.checked }
namespace Rows
def none {H : Type} : Left H := { results := [], args := [] }

/-- 'laws.FnExactCountFinished': WHATEVER THE INPUT: true; the input reads as it did. -/
def fnExactCountFinishedSpec : ChangeSpec := { name := "fnExactCountFinished", fn := fun _ => fun
  | [d] => { results := [.lit (.bool true)], args := [d] }
  | _ => none }
def fnExactCountFinishedRow : OpenClaim := { program := "ytefefkmajggjoaa", sum := "ec7e28f71becfc1e375f7759e5e1b9f142fd76f157911a27241a7e1b928fd645", func := "loop.example/g00887/laws.FnExactCountFinished", spec := "fnExactCountFinished", apart := false }
def FnExactCountFinishedSaid : Prop := fnExactCountFinishedRow.holds Try.pinned (OpenSpec.ofChange fnExactCountFinishedSpec)

/-- ITS FALSE NEIGHBOUR: 'it returns false'. Refute it at one input. -/
def fnExactCountFinishedWrong : ChangeSpec := { name := "fnExactCountFinished", fn := fun _ => fun
  | [d] => { results := [.lit (.bool false)], args := [d] }
  | _ => none }
def FnExactCountFinishedWrongFalsely : Prop := fnExactCountFinishedRow.holds Try.pinned (OpenSpec.ofChange fnExactCountFinishedWrong)

/-- 'laws.FnExactFirstFinish': WHATEVER THE INPUT: true; the input reads as it did. -/
def fnExactFirstFinishSpec : ChangeSpec := { name := "fnExactFirstFinish", fn := fun _ => fun
  | [d] => { results := [.lit (.bool true)], args := [d] }
  | _ => none }
def fnExactFirstFinishRow : OpenClaim := { program := "ytefefkmajggjoaa", sum := "ec7e28f71becfc1e375f7759e5e1b9f142fd76f157911a27241a7e1b928fd645", func := "loop.example/g00887/laws.FnExactFirstFinish", spec := "fnExactFirstFinish", apart := false }
def FnExactFirstFinishSaid : Prop := fnExactFirstFinishRow.holds Try.pinned (OpenSpec.ofChange fnExactFirstFinishSpec)

/-- ITS FALSE NEIGHBOUR: 'it returns false'. Refute it at one input. -/
def fnExactFirstFinishWrong : ChangeSpec := { name := "fnExactFirstFinish", fn := fun _ => fun
  | [d] => { results := [.lit (.bool false)], args := [d] }
  | _ => none }
def FnExactFirstFinishWrongFalsely : Prop := fnExactFirstFinishRow.holds Try.pinned (OpenSpec.ofChange fnExactFirstFinishWrong)

/-- 'laws.FnExactShortenAt': WHATEVER THE INPUT: true; the input reads as it did. -/
def fnExactShortenAtSpec : ChangeSpec := { name := "fnExactShortenAt", fn := fun _ => fun
  | [d1, d2, d3, d4] => { results := [.lit (.bool true)], args := [d1, d2, d3, d4] }
  | _ => none }
def fnExactShortenAtRow : OpenClaim := { program := "ytefefkmajggjoaa", sum := "ec7e28f71becfc1e375f7759e5e1b9f142fd76f157911a27241a7e1b928fd645", func := "loop.example/g00887/laws.FnExactShortenAt", spec := "fnExactShortenAt", apart := false }
def FnExactShortenAtSaid : Prop := fnExactShortenAtRow.holds Try.pinned (OpenSpec.ofChange fnExactShortenAtSpec)

/-- ITS FALSE NEIGHBOUR: 'it returns false'. Refute it at one input. -/
def fnExactShortenAtWrong : ChangeSpec := { name := "fnExactShortenAt", fn := fun _ => fun
  | [d1, d2, d3, d4] => { results := [.lit (.bool false)], args := [d1, d2, d3, d4] }
  | _ => none }
def FnExactShortenAtWrongFalsely : Prop := fnExactShortenAtRow.holds Try.pinned (OpenSpec.ofChange fnExactShortenAtWrong)

/-- 'laws.FnExactCutoffTime': WHATEVER THE INPUT: true; the input reads as it did. -/
def fnExactCutoffTimeSpec : ChangeSpec := { name := "fnExactCutoffTime", fn := fun _ => fun
  | [d1, d2] => { results := [.lit (.bool true)], args := [d1, d2] }
  | _ => none }
def fnExactCutoffTimeRow : OpenClaim := { program := "ytefefkmajggjoaa", sum := "ec7e28f71becfc1e375f7759e5e1b9f142fd76f157911a27241a7e1b928fd645", func := "loop.example/g00887/laws.FnExactCutoffTime", spec := "fnExactCutoffTime", apart := false }
def FnExactCutoffTimeSaid : Prop := fnExactCutoffTimeRow.holds Try.pinned (OpenSpec.ofChange fnExactCutoffTimeSpec)

/-- ITS FALSE NEIGHBOUR: 'it returns false'. Refute it at one input. -/
def fnExactCutoffTimeWrong : ChangeSpec := { name := "fnExactCutoffTime", fn := fun _ => fun
  | [d1, d2] => { results := [.lit (.bool false)], args := [d1, d2] }
  | _ => none }
def FnExactCutoffTimeWrongFalsely : Prop := fnExactCutoffTimeRow.holds Try.pinned (OpenSpec.ofChange fnExactCutoffTimeWrong)

/-- 'laws.FnShortened': WHATEVER THE INPUT: true; the input reads as it did. -/
def fnShortenedSpec : ChangeSpec := { name := "fnShortened", fn := fun _ => fun
  | [d] => { results := [.lit (.bool true)], args := [d] }
  | _ => none }
def fnShortenedRow : OpenClaim := { program := "ytefefkmajggjoaa", sum := "ec7e28f71becfc1e375f7759e5e1b9f142fd76f157911a27241a7e1b928fd645", func := "loop.example/g00887/laws.FnShortened", spec := "fnShortened", apart := false }
def FnShortenedSaid : Prop := fnShortenedRow.holds Try.pinned (OpenSpec.ofChange fnShortenedSpec)

/-- ITS FALSE NEIGHBOUR: 'it returns false'. Refute it at one input. -/
def fnShortenedWrong : ChangeSpec := { name := "fnShortened", fn := fun _ => fun
  | [d] => { results := [.lit (.bool false)], args := [d] }
  | _ => none }
def FnShortenedWrongFalsely : Prop := fnShortenedRow.holds Try.pinned (OpenSpec.ofChange fnShortenedWrong)

/-- 'laws.FnExactLateBoats': WHATEVER THE INPUT: true; the input reads as it did. -/
def fnExactLateBoatsSpec : ChangeSpec := { name := "fnExactLateBoats", fn := fun _ => fun
  | [d1, d2] => { results := [.lit (.bool true)], args := [d1, d2] }
  | _ => none }
def fnExactLateBoatsRow : OpenClaim := { program := "ytefefkmajggjoaa", sum := "ec7e28f71becfc1e375f7759e5e1b9f142fd76f157911a27241a7e1b928fd645", func := "loop.example/g00887/laws.FnExactLateBoats", spec := "fnExactLateBoats", apart := false }
def FnExactLateBoatsSaid : Prop := fnExactLateBoatsRow.holds Try.pinned (OpenSpec.ofChange fnExactLateBoatsSpec)

/-- ITS FALSE NEIGHBOUR: 'it returns false'. Refute it at one input. -/
def fnExactLateBoatsWrong : ChangeSpec := { name := "fnExactLateBoats", fn := fun _ => fun
  | [d1, d2] => { results := [.lit (.bool false)], args := [d1, d2] }
  | _ => none }
def FnExactLateBoatsWrongFalsely : Prop := fnExactLateBoatsRow.holds Try.pinned (OpenSpec.ofChange fnExactLateBoatsWrong)

/-- 'laws.FnExactApplyLimits': WHATEVER THE INPUT: true; the input reads as it did. -/
def fnExactApplyLimitsSpec : ChangeSpec := { name := "fnExactApplyLimits", fn := fun _ => fun
  | [d1, d2] => { results := [.lit (.bool true)], args := [d1, d2] }
  | _ => none }
def fnExactApplyLimitsRow : OpenClaim := { program := "ytefefkmajggjoaa", sum := "ec7e28f71becfc1e375f7759e5e1b9f142fd76f157911a27241a7e1b928fd645", func := "loop.example/g00887/laws.FnExactApplyLimits", spec := "fnExactApplyLimits", apart := false }
def FnExactApplyLimitsSaid : Prop := fnExactApplyLimitsRow.holds Try.pinned (OpenSpec.ofChange fnExactApplyLimitsSpec)

/-- ITS FALSE NEIGHBOUR: 'it returns false'. Refute it at one input. -/
def fnExactApplyLimitsWrong : ChangeSpec := { name := "fnExactApplyLimits", fn := fun _ => fun
  | [d1, d2] => { results := [.lit (.bool false)], args := [d1, d2] }
  | _ => none }
def FnExactApplyLimitsWrongFalsely : Prop := fnExactApplyLimitsRow.holds Try.pinned (OpenSpec.ofChange fnExactApplyLimitsWrong)

/-- 'laws.FnLimits': WHATEVER THE INPUT: true; the input reads as it did. -/
def fnLimitsSpec : ChangeSpec := { name := "fnLimits", fn := fun _ => fun
  | [d] => { results := [.lit (.bool true)], args := [d] }
  | _ => none }
def fnLimitsRow : OpenClaim := { program := "ytefefkmajggjoaa", sum := "ec7e28f71becfc1e375f7759e5e1b9f142fd76f157911a27241a7e1b928fd645", func := "loop.example/g00887/laws.FnLimits", spec := "fnLimits", apart := false }
def FnLimitsSaid : Prop := fnLimitsRow.holds Try.pinned (OpenSpec.ofChange fnLimitsSpec)

/-- ITS FALSE NEIGHBOUR: 'it returns false'. Refute it at one input. -/
def fnLimitsWrong : ChangeSpec := { name := "fnLimits", fn := fun _ => fun
  | [d] => { results := [.lit (.bool false)], args := [d] }
  | _ => none }
def FnLimitsWrongFalsely : Prop := fnLimitsRow.holds Try.pinned (OpenSpec.ofChange fnLimitsWrong)

/- THE SECOND FORM. 'bulk': how many values and letters a reading holds, each counted each time it is reached (what is shared counts as often as it is met; a slice's spare places count too). A statement '..UptoSaid' is the law's where the arguments, and the package variables that the reading takes, are together of bulk at most 1048576: NARROWER than '..Said'. Prove '..Said' where nothing that the law and all that it calls make is longer than what came in: it says more and counts as full. Else prove '..UptoSaid'. A law counts once. -/
mutual
def uptoBulk {H : Type} : DataW H → Nat
  | .lit (.string bytes) => bytes.length + 1
  | .lit _ => 1
  | .nil => 1
  | .ptr d => uptoBulk d + 1
  | .slice elems spare => uptoBulkAll elems + uptoBulkAll spare + 1
  | .agg parts => uptoBulkAll parts + 1
  | .iface _ d => uptoBulk d + 1
  | .map entries => uptoBulkEntries entries + 1
  | .held _ => 1
def uptoBulkAll {H : Type} : List (DataW H) → Nat
  | [] => 0
  | d :: r => uptoBulk d + uptoBulkAll r
def uptoBulkEntries {H : Type} : List (Lit × DataW H) → Nat
  | [] => 0
  | x :: r => uptoBulkEntry x + uptoBulkEntries r
def uptoBulkEntry {H : Type} : Lit × DataW H → Nat
  | (.string bytes, d) => bytes.length + uptoBulk d + 1
  | (_, d) => uptoBulk d + 1
 end
def uptoSmall : (H : Type) → List (DataW H) → Bool := fun _ ds => decide (uptoBulkAll ds ≤ 1048576)
def OpenSpec.upto (s : _root_.Go.ChangeSpec) : _root_.Go.OpenSpec := { _root_.Go.OpenSpec.ofChange s with cond := some uptoSmall }

/-- 'laws.FnExactCountFinished', WHERE WHAT IT READS IS OF BULK AT MOST 1048576: true; the input reads as it did. -/
def fnExactCountFinishedUptoRow : OpenClaim := { program := "ytefefkmajggjoaa", sum := "ec7e28f71becfc1e375f7759e5e1b9f142fd76f157911a27241a7e1b928fd645", func := "loop.example/g00887/laws.FnExactCountFinished", spec := "fnExactCountFinished", apart := false, narrowed := true }
def FnExactCountFinishedUptoSaid : Prop := fnExactCountFinishedUptoRow.holds Try.pinned (OpenSpec.upto fnExactCountFinishedSpec)

/-- 'laws.FnExactFirstFinish', WHERE WHAT IT READS IS OF BULK AT MOST 1048576: true; the input reads as it did. -/
def fnExactFirstFinishUptoRow : OpenClaim := { program := "ytefefkmajggjoaa", sum := "ec7e28f71becfc1e375f7759e5e1b9f142fd76f157911a27241a7e1b928fd645", func := "loop.example/g00887/laws.FnExactFirstFinish", spec := "fnExactFirstFinish", apart := false, narrowed := true }
def FnExactFirstFinishUptoSaid : Prop := fnExactFirstFinishUptoRow.holds Try.pinned (OpenSpec.upto fnExactFirstFinishSpec)

/-- 'laws.FnExactShortenAt', WHERE WHAT IT READS IS OF BULK AT MOST 1048576: true; the input reads as it did. -/
def fnExactShortenAtUptoRow : OpenClaim := { program := "ytefefkmajggjoaa", sum := "ec7e28f71becfc1e375f7759e5e1b9f142fd76f157911a27241a7e1b928fd645", func := "loop.example/g00887/laws.FnExactShortenAt", spec := "fnExactShortenAt", apart := false, narrowed := true }
def FnExactShortenAtUptoSaid : Prop := fnExactShortenAtUptoRow.holds Try.pinned (OpenSpec.upto fnExactShortenAtSpec)

/-- 'laws.FnExactCutoffTime', WHERE WHAT IT READS IS OF BULK AT MOST 1048576: true; the input reads as it did. -/
def fnExactCutoffTimeUptoRow : OpenClaim := { program := "ytefefkmajggjoaa", sum := "ec7e28f71becfc1e375f7759e5e1b9f142fd76f157911a27241a7e1b928fd645", func := "loop.example/g00887/laws.FnExactCutoffTime", spec := "fnExactCutoffTime", apart := false, narrowed := true }
def FnExactCutoffTimeUptoSaid : Prop := fnExactCutoffTimeUptoRow.holds Try.pinned (OpenSpec.upto fnExactCutoffTimeSpec)

/-- 'laws.FnShortened', WHERE WHAT IT READS IS OF BULK AT MOST 1048576: true; the input reads as it did. -/
def fnShortenedUptoRow : OpenClaim := { program := "ytefefkmajggjoaa", sum := "ec7e28f71becfc1e375f7759e5e1b9f142fd76f157911a27241a7e1b928fd645", func := "loop.example/g00887/laws.FnShortened", spec := "fnShortened", apart := false, narrowed := true }
def FnShortenedUptoSaid : Prop := fnShortenedUptoRow.holds Try.pinned (OpenSpec.upto fnShortenedSpec)

/-- 'laws.FnExactLateBoats', WHERE WHAT IT READS IS OF BULK AT MOST 1048576: true; the input reads as it did. -/
def fnExactLateBoatsUptoRow : OpenClaim := { program := "ytefefkmajggjoaa", sum := "ec7e28f71becfc1e375f7759e5e1b9f142fd76f157911a27241a7e1b928fd645", func := "loop.example/g00887/laws.FnExactLateBoats", spec := "fnExactLateBoats", apart := false, narrowed := true }
def FnExactLateBoatsUptoSaid : Prop := fnExactLateBoatsUptoRow.holds Try.pinned (OpenSpec.upto fnExactLateBoatsSpec)

/-- 'laws.FnExactApplyLimits', WHERE WHAT IT READS IS OF BULK AT MOST 1048576: true; the input reads as it did. -/
def fnExactApplyLimitsUptoRow : OpenClaim := { program := "ytefefkmajggjoaa", sum := "ec7e28f71becfc1e375f7759e5e1b9f142fd76f157911a27241a7e1b928fd645", func := "loop.example/g00887/laws.FnExactApplyLimits", spec := "fnExactApplyLimits", apart := false, narrowed := true }
def FnExactApplyLimitsUptoSaid : Prop := fnExactApplyLimitsUptoRow.holds Try.pinned (OpenSpec.upto fnExactApplyLimitsSpec)

/-- 'laws.FnLimits', WHERE WHAT IT READS IS OF BULK AT MOST 1048576: true; the input reads as it did. -/
def fnLimitsUptoRow : OpenClaim := { program := "ytefefkmajggjoaa", sum := "ec7e28f71becfc1e375f7759e5e1b9f142fd76f157911a27241a7e1b928fd645", func := "loop.example/g00887/laws.FnLimits", spec := "fnLimits", apart := false, narrowed := true }
def FnLimitsUptoSaid : Prop := fnLimitsUptoRow.holds Try.pinned (OpenSpec.upto fnLimitsSpec)

end Rows
end Go.Proofs.Ytefefkmajggjoaa
