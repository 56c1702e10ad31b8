/-
  NARROWER THAN 'FOR EVERY INPUT', by the rows' own cells (each row's printed sentence says how): FnExactSignalsText: laid · FnExactLimitsText: laid · FnExactIncidentText: laid · FnExactFinishText: laid · FnExactReadSignals: laid · FnSignalsText: laid · FnLimitsText: laid · FnIncidentText: laid · FnFinishText: laid · FnExactReadLimits: laid · FnExactReadIncident: laid · FnExactReadFinish: laid.
  DERIVED. THE GIVEN ROWS OF THIS SEAT. 12 by the template 'for every input the law returns true; each argument reads behind the call as it read before'; 0 by the template 'total and deterministic' (their statements: YtgdjgjkijcmkfaaDoorTotals.lean).
  GIVEN WITH THE SEED: the statements are not yours to turn. If you find one false, say at which input.
  Laid BY PROGRAM, IN A SANDBOX (cutbox-rows.mjs): the forced cells as the released guide's own fill.sh prints them over the translation 5ae7cbee71cf9dc8… (all of the seat's roots in one cut). By AI agents, Wed Nov 11 2026. No macro, syntax, notation, axiom, sorry.
-/
import Derived.Test.YtgdjgjkijcmkfaaDoorChecked
import GoSem.PinnedTables
import GoSem.Claim
import GoSem.ClaimJoined
import GoSem.ClaimMapViews
import Derived.JoinedTies
import Derived.KernelRfl
namespace Go.Proofs.YtgdjgjkijcmkfaaDoor
/- THE CELL 'sum', in the pinned program and in every row, IS THE sha256 OF THE DUMP (.gsa) THAT YtgdjgjkijcmkfaaDoorProg.lean LOADS. Nothing in Lean hashes anything: it is a label: what it is worth is what the hold of that sum in a sandbox is worth. -/
noncomputable def Tryd.pinned : Pinned := { name := "ytgdjgjkijcmkfaadoor", sum := "5ae7cbee71cf9dc8f22aad68df5efa18bc27765fe78fb67b83e32df6f910975b", checked := Tryd.checked }
namespace Rows
def none {H : Type} : Left H := { results := [], args := [] }

/- WHAT THE LISTED PACKAGE-LEVEL VARIABLES READ AS WHEN THE CALL BEGINS. Each datum BY PROGRAM (the guide's laid-datum.mjs) off the statement by which the dump's own 'gosem.cut.vars' lays the variable. In a bare row this is a premise. The card (YtgdjgjkijcmkfaaDoorCards.lean) ties it to the program's text. -/
def laid_math_bits_deBruijn32tab {H : Type} : DataW H := .agg [.lit (.int .u8 0), .lit (.int .u8 1), .lit (.int .u8 28), .lit (.int .u8 2), .lit (.int .u8 29), .lit (.int .u8 14), .lit (.int .u8 24), .lit (.int .u8 3), .lit (.int .u8 30), .lit (.int .u8 22), .lit (.int .u8 20), .lit (.int .u8 15), .lit (.int .u8 25), .lit (.int .u8 17), .lit (.int .u8 4), .lit (.int .u8 8), .lit (.int .u8 31), .lit (.int .u8 27), .lit (.int .u8 13), .lit (.int .u8 23), .lit (.int .u8 21), .lit (.int .u8 19), .lit (.int .u8 16), .lit (.int .u8 7), .lit (.int .u8 26), .lit (.int .u8 12), .lit (.int .u8 18), .lit (.int .u8 6), .lit (.int .u8 11), .lit (.int .u8 5), .lit (.int .u8 10), .lit (.int .u8 9)]
def laid_math_bits_deBruijn64tab {H : Type} : DataW H := .agg [.lit (.int .u8 0), .lit (.int .u8 1), .lit (.int .u8 56), .lit (.int .u8 2), .lit (.int .u8 57), .lit (.int .u8 49), .lit (.int .u8 28), .lit (.int .u8 3), .lit (.int .u8 61), .lit (.int .u8 58), .lit (.int .u8 42), .lit (.int .u8 50), .lit (.int .u8 38), .lit (.int .u8 29), .lit (.int .u8 17), .lit (.int .u8 4), .lit (.int .u8 62), .lit (.int .u8 47), .lit (.int .u8 59), .lit (.int .u8 36), .lit (.int .u8 45), .lit (.int .u8 43), .lit (.int .u8 51), .lit (.int .u8 22), .lit (.int .u8 53), .lit (.int .u8 39), .lit (.int .u8 33), .lit (.int .u8 30), .lit (.int .u8 24), .lit (.int .u8 18), .lit (.int .u8 12), .lit (.int .u8 5), .lit (.int .u8 63), .lit (.int .u8 55), .lit (.int .u8 48), .lit (.int .u8 27), .lit (.int .u8 60), .lit (.int .u8 41), .lit (.int .u8 37), .lit (.int .u8 16), .lit (.int .u8 46), .lit (.int .u8 35), .lit (.int .u8 44), .lit (.int .u8 21), .lit (.int .u8 52), .lit (.int .u8 32), .lit (.int .u8 23), .lit (.int .u8 11), .lit (.int .u8 54), .lit (.int .u8 26), .lit (.int .u8 40), .lit (.int .u8 15), .lit (.int .u8 34), .lit (.int .u8 20), .lit (.int .u8 31), .lit (.int .u8 10), .lit (.int .u8 25), .lit (.int .u8 14), .lit (.int .u8 19), .lit (.int .u8 9), .lit (.int .u8 13), .lit (.int .u8 8), .lit (.int .u8 7), .lit (.int .u8 6)]
def laid_internal_strconv_uint64pow10 {H : Type} : DataW H := .agg [.lit (.int .u64 1), .lit (.int .u64 10), .lit (.int .u64 100), .lit (.int .u64 1000), .lit (.int .u64 10000), .lit (.int .u64 100000), .lit (.int .u64 1000000), .lit (.int .u64 10000000), .lit (.int .u64 100000000), .lit (.int .u64 1000000000), .lit (.int .u64 10000000000), .lit (.int .u64 100000000000), .lit (.int .u64 1000000000000), .lit (.int .u64 10000000000000), .lit (.int .u64 100000000000000), .lit (.int .u64 1000000000000000), .lit (.int .u64 10000000000000000), .lit (.int .u64 100000000000000000), .lit (.int .u64 1000000000000000000), .lit (.int .u64 10000000000000000000)]
def laid_unicode_utf8_acceptRanges {H : Type} : DataW H := .agg [.agg [.lit (.int .u8 128), .lit (.int .u8 191)], .agg [.lit (.int .u8 160), .lit (.int .u8 191)], .agg [.lit (.int .u8 128), .lit (.int .u8 159)], .agg [.lit (.int .u8 144), .lit (.int .u8 191)], .agg [.lit (.int .u8 128), .lit (.int .u8 143)], .agg [.lit (.int .u8 0), .lit (.int .u8 0)], .agg [.lit (.int .u8 0), .lit (.int .u8 0)], .agg [.lit (.int .u8 0), .lit (.int .u8 0)], .agg [.lit (.int .u8 0), .lit (.int .u8 0)], .agg [.lit (.int .u8 0), .lit (.int .u8 0)], .agg [.lit (.int .u8 0), .lit (.int .u8 0)], .agg [.lit (.int .u8 0), .lit (.int .u8 0)], .agg [.lit (.int .u8 0), .lit (.int .u8 0)], .agg [.lit (.int .u8 0), .lit (.int .u8 0)], .agg [.lit (.int .u8 0), .lit (.int .u8 0)], .agg [.lit (.int .u8 0), .lit (.int .u8 0)]]
def laid_strconv_ErrRange {H : Type} : DataW H := .iface "*errors.errorString" (.ptr (.agg [.lit (.string [118, 97, 108, 117, 101, 32, 111, 117, 116, 32, 111, 102, 32, 114, 97, 110, 103, 101])]))
def laid_strconv_ErrSyntax {H : Type} : DataW H := .iface "*errors.errorString" (.ptr (.agg [.lit (.string [105, 110, 118, 97, 108, 105, 100, 32, 115, 121, 110, 116, 97, 120])]))
/-- One of Go's own tables, pinned by name: the form's constant. -/
def laid_unicode_utf8_first : DataW Unit := Go.Pinned.utf8First

/-- 'laws.FnExactSignalsText': WHATEVER THE INPUT: true; the input reads as it did. -/
def fnExactSignalsTextSpec : ChangeSpec := { name := "fnExactSignalsText", fn := fun _ => fun
  | [d] => { results := [.lit (.bool true)], args := [d] }
  | _ => none }
def fnExactSignalsTextRow : OpenClaim := { program := "ytgdjgjkijcmkfaadoor", sum := "5ae7cbee71cf9dc8f22aad68df5efa18bc27765fe78fb67b83e32df6f910975b", func := "loop.example/g00887/laws.FnExactSignalsText", spec := "fnExactSignalsText", inPlace := ["internal/abi.NoEscape", "internal/bytealg.MakeNoZero"], recurses := true, named := ["internal/strconv.uint64pow10", "math/bits.deBruijn32tab", "math/bits.deBruijn64tab"], apart := false, laid := [("math/bits.deBruijn32tab", laid_math_bits_deBruijn32tab), ("math/bits.deBruijn64tab", laid_math_bits_deBruijn64tab), ("internal/strconv.uint64pow10", laid_internal_strconv_uint64pow10)] }
def FnExactSignalsTextSaid : Prop := fnExactSignalsTextRow.holds Tryd.pinned (OpenSpec.ofChange fnExactSignalsTextSpec)

/-- ITS FALSE NEIGHBOUR: 'it returns false'. Refute it at one input. -/
def fnExactSignalsTextWrong : ChangeSpec := { name := "fnExactSignalsText", fn := fun _ => fun
  | [d] => { results := [.lit (.bool false)], args := [d] }
  | _ => none }
def FnExactSignalsTextWrongFalsely : Prop := fnExactSignalsTextRow.holds Tryd.pinned (OpenSpec.ofChange fnExactSignalsTextWrong)

/-- 'laws.FnExactLimitsText': WHATEVER THE INPUT: true; the input reads as it did. -/
def fnExactLimitsTextSpec : ChangeSpec := { name := "fnExactLimitsText", fn := fun _ => fun
  | [d] => { results := [.lit (.bool true)], args := [d] }
  | _ => none }
def fnExactLimitsTextRow : OpenClaim := { program := "ytgdjgjkijcmkfaadoor", sum := "5ae7cbee71cf9dc8f22aad68df5efa18bc27765fe78fb67b83e32df6f910975b", func := "loop.example/g00887/laws.FnExactLimitsText", spec := "fnExactLimitsText", inPlace := ["internal/abi.NoEscape", "internal/bytealg.MakeNoZero"], recurses := true, named := ["internal/strconv.uint64pow10", "math/bits.deBruijn32tab", "math/bits.deBruijn64tab"], apart := false, laid := [("math/bits.deBruijn32tab", laid_math_bits_deBruijn32tab), ("math/bits.deBruijn64tab", laid_math_bits_deBruijn64tab), ("internal/strconv.uint64pow10", laid_internal_strconv_uint64pow10)] }
def FnExactLimitsTextSaid : Prop := fnExactLimitsTextRow.holds Tryd.pinned (OpenSpec.ofChange fnExactLimitsTextSpec)

/-- ITS FALSE NEIGHBOUR: 'it returns false'. Refute it at one input. -/
def fnExactLimitsTextWrong : ChangeSpec := { name := "fnExactLimitsText", fn := fun _ => fun
  | [d] => { results := [.lit (.bool false)], args := [d] }
  | _ => none }
def FnExactLimitsTextWrongFalsely : Prop := fnExactLimitsTextRow.holds Tryd.pinned (OpenSpec.ofChange fnExactLimitsTextWrong)

/-- 'laws.FnExactIncidentText': WHATEVER THE INPUT: true; the input reads as it did. -/
def fnExactIncidentTextSpec : ChangeSpec := { name := "fnExactIncidentText", fn := fun _ => fun
  | [d] => { results := [.lit (.bool true)], args := [d] }
  | _ => none }
def fnExactIncidentTextRow : OpenClaim := { program := "ytgdjgjkijcmkfaadoor", sum := "5ae7cbee71cf9dc8f22aad68df5efa18bc27765fe78fb67b83e32df6f910975b", func := "loop.example/g00887/laws.FnExactIncidentText", spec := "fnExactIncidentText", inPlace := ["internal/abi.NoEscape", "internal/bytealg.MakeNoZero"], recurses := true, named := ["internal/strconv.uint64pow10", "math/bits.deBruijn32tab", "math/bits.deBruijn64tab"], apart := false, laid := [("math/bits.deBruijn32tab", laid_math_bits_deBruijn32tab), ("math/bits.deBruijn64tab", laid_math_bits_deBruijn64tab), ("internal/strconv.uint64pow10", laid_internal_strconv_uint64pow10)] }
def FnExactIncidentTextSaid : Prop := fnExactIncidentTextRow.holds Tryd.pinned (OpenSpec.ofChange fnExactIncidentTextSpec)

/-- ITS FALSE NEIGHBOUR: 'it returns false'. Refute it at one input. -/
def fnExactIncidentTextWrong : ChangeSpec := { name := "fnExactIncidentText", fn := fun _ => fun
  | [d] => { results := [.lit (.bool false)], args := [d] }
  | _ => none }
def FnExactIncidentTextWrongFalsely : Prop := fnExactIncidentTextRow.holds Tryd.pinned (OpenSpec.ofChange fnExactIncidentTextWrong)

/-- 'laws.FnExactFinishText': WHATEVER THE INPUT: true; the input reads as it did. -/
def fnExactFinishTextSpec : ChangeSpec := { name := "fnExactFinishText", fn := fun _ => fun
  | [d] => { results := [.lit (.bool true)], args := [d] }
  | _ => none }
def fnExactFinishTextRow : OpenClaim := { program := "ytgdjgjkijcmkfaadoor", sum := "5ae7cbee71cf9dc8f22aad68df5efa18bc27765fe78fb67b83e32df6f910975b", func := "loop.example/g00887/laws.FnExactFinishText", spec := "fnExactFinishText", inPlace := ["internal/abi.NoEscape", "internal/bytealg.MakeNoZero"], recurses := true, named := ["internal/strconv.uint64pow10", "math/bits.deBruijn32tab", "math/bits.deBruijn64tab"], apart := false, laid := [("math/bits.deBruijn32tab", laid_math_bits_deBruijn32tab), ("math/bits.deBruijn64tab", laid_math_bits_deBruijn64tab), ("internal/strconv.uint64pow10", laid_internal_strconv_uint64pow10)] }
def FnExactFinishTextSaid : Prop := fnExactFinishTextRow.holds Tryd.pinned (OpenSpec.ofChange fnExactFinishTextSpec)

/-- ITS FALSE NEIGHBOUR: 'it returns false'. Refute it at one input. -/
def fnExactFinishTextWrong : ChangeSpec := { name := "fnExactFinishText", fn := fun _ => fun
  | [d] => { results := [.lit (.bool false)], args := [d] }
  | _ => none }
def FnExactFinishTextWrongFalsely : Prop := fnExactFinishTextRow.holds Tryd.pinned (OpenSpec.ofChange fnExactFinishTextWrong)

/-- 'laws.FnExactReadSignals': WHATEVER THE INPUT: true; the input reads as it did. -/
def fnExactReadSignalsSpec : ChangeSpec := { name := "fnExactReadSignals", fn := fun _ => fun
  | [d] => { results := [.lit (.bool true)], args := [d] }
  | _ => none }
def fnExactReadSignalsRow : OpenClaim := { program := "ytgdjgjkijcmkfaadoor", sum := "5ae7cbee71cf9dc8f22aad68df5efa18bc27765fe78fb67b83e32df6f910975b", func := "loop.example/g00887/laws.FnExactReadSignals", spec := "fnExactReadSignals", inPlace := ["internal/bytealg.CountString", "internal/bytealg.IndexByteString", "internal/bytealg.IndexString"], recurses := true, named := ["unicode/utf8.first", "unicode/utf8.acceptRanges", "internal/bytealg.MaxLen", "strconv.ErrSyntax", "strconv.ErrRange", "internal/strconv.uint64pow10", "math/bits.deBruijn32tab", "math/bits.deBruijn64tab"], apart := false, laid := [("math/bits.deBruijn32tab", laid_math_bits_deBruijn32tab), ("math/bits.deBruijn64tab", laid_math_bits_deBruijn64tab), ("internal/strconv.uint64pow10", laid_internal_strconv_uint64pow10), ("unicode/utf8.acceptRanges", laid_unicode_utf8_acceptRanges), ("strconv.ErrRange", laid_strconv_ErrRange), ("strconv.ErrSyntax", laid_strconv_ErrSyntax), ("unicode/utf8.first", laid_unicode_utf8_first)] }
def FnExactReadSignalsSaid : Prop := fnExactReadSignalsRow.holds Tryd.pinned (OpenSpec.ofChange fnExactReadSignalsSpec)

/-- ITS FALSE NEIGHBOUR: 'it returns false'. Refute it at one input. -/
def fnExactReadSignalsWrong : ChangeSpec := { name := "fnExactReadSignals", fn := fun _ => fun
  | [d] => { results := [.lit (.bool false)], args := [d] }
  | _ => none }
def FnExactReadSignalsWrongFalsely : Prop := fnExactReadSignalsRow.holds Tryd.pinned (OpenSpec.ofChange fnExactReadSignalsWrong)

/-- 'laws.FnSignalsText': WHATEVER THE INPUT: true; the input reads as it did. -/
def fnSignalsTextSpec : ChangeSpec := { name := "fnSignalsText", fn := fun _ => fun
  | [d] => { results := [.lit (.bool true)], args := [d] }
  | _ => none }
def fnSignalsTextRow : OpenClaim := { program := "ytgdjgjkijcmkfaadoor", sum := "5ae7cbee71cf9dc8f22aad68df5efa18bc27765fe78fb67b83e32df6f910975b", func := "loop.example/g00887/laws.FnSignalsText", spec := "fnSignalsText", inPlace := ["internal/abi.NoEscape", "internal/bytealg.MakeNoZero", "internal/bytealg.CountString", "internal/bytealg.IndexByteString", "internal/bytealg.IndexString"], recurses := true, named := ["internal/strconv.uint64pow10", "math/bits.deBruijn32tab", "math/bits.deBruijn64tab", "unicode/utf8.first", "unicode/utf8.acceptRanges", "internal/bytealg.MaxLen", "strconv.ErrSyntax", "strconv.ErrRange"], apart := false, laid := [("math/bits.deBruijn32tab", laid_math_bits_deBruijn32tab), ("math/bits.deBruijn64tab", laid_math_bits_deBruijn64tab), ("internal/strconv.uint64pow10", laid_internal_strconv_uint64pow10), ("unicode/utf8.acceptRanges", laid_unicode_utf8_acceptRanges), ("strconv.ErrRange", laid_strconv_ErrRange), ("strconv.ErrSyntax", laid_strconv_ErrSyntax), ("unicode/utf8.first", laid_unicode_utf8_first)] }
def FnSignalsTextSaid : Prop := fnSignalsTextRow.holds Tryd.pinned (OpenSpec.ofChange fnSignalsTextSpec)

/-- ITS FALSE NEIGHBOUR: 'it returns false'. Refute it at one input. -/
def fnSignalsTextWrong : ChangeSpec := { name := "fnSignalsText", fn := fun _ => fun
  | [d] => { results := [.lit (.bool false)], args := [d] }
  | _ => none }
def FnSignalsTextWrongFalsely : Prop := fnSignalsTextRow.holds Tryd.pinned (OpenSpec.ofChange fnSignalsTextWrong)

/-- 'laws.FnLimitsText': WHATEVER THE INPUT: true; the input reads as it did. -/
def fnLimitsTextSpec : ChangeSpec := { name := "fnLimitsText", fn := fun _ => fun
  | [d] => { results := [.lit (.bool true)], args := [d] }
  | _ => none }
def fnLimitsTextRow : OpenClaim := { program := "ytgdjgjkijcmkfaadoor", sum := "5ae7cbee71cf9dc8f22aad68df5efa18bc27765fe78fb67b83e32df6f910975b", func := "loop.example/g00887/laws.FnLimitsText", spec := "fnLimitsText", inPlace := ["internal/abi.NoEscape", "internal/bytealg.MakeNoZero", "internal/bytealg.CountString", "internal/bytealg.IndexByteString", "internal/bytealg.IndexString"], recurses := true, named := ["internal/strconv.uint64pow10", "math/bits.deBruijn32tab", "math/bits.deBruijn64tab", "unicode/utf8.first", "unicode/utf8.acceptRanges", "internal/bytealg.MaxLen", "strconv.ErrSyntax", "strconv.ErrRange"], apart := false, laid := [("math/bits.deBruijn32tab", laid_math_bits_deBruijn32tab), ("math/bits.deBruijn64tab", laid_math_bits_deBruijn64tab), ("internal/strconv.uint64pow10", laid_internal_strconv_uint64pow10), ("unicode/utf8.acceptRanges", laid_unicode_utf8_acceptRanges), ("strconv.ErrRange", laid_strconv_ErrRange), ("strconv.ErrSyntax", laid_strconv_ErrSyntax), ("unicode/utf8.first", laid_unicode_utf8_first)] }
def FnLimitsTextSaid : Prop := fnLimitsTextRow.holds Tryd.pinned (OpenSpec.ofChange fnLimitsTextSpec)

/-- ITS FALSE NEIGHBOUR: 'it returns false'. Refute it at one input. -/
def fnLimitsTextWrong : ChangeSpec := { name := "fnLimitsText", fn := fun _ => fun
  | [d] => { results := [.lit (.bool false)], args := [d] }
  | _ => none }
def FnLimitsTextWrongFalsely : Prop := fnLimitsTextRow.holds Tryd.pinned (OpenSpec.ofChange fnLimitsTextWrong)

/-- 'laws.FnIncidentText': WHATEVER THE INPUT: true; the input reads as it did. -/
def fnIncidentTextSpec : ChangeSpec := { name := "fnIncidentText", fn := fun _ => fun
  | [d] => { results := [.lit (.bool true)], args := [d] }
  | _ => none }
def fnIncidentTextRow : OpenClaim := { program := "ytgdjgjkijcmkfaadoor", sum := "5ae7cbee71cf9dc8f22aad68df5efa18bc27765fe78fb67b83e32df6f910975b", func := "loop.example/g00887/laws.FnIncidentText", spec := "fnIncidentText", inPlace := ["internal/abi.NoEscape", "internal/bytealg.MakeNoZero", "internal/bytealg.CountString", "internal/bytealg.IndexByteString", "internal/bytealg.IndexString"], recurses := true, named := ["internal/strconv.uint64pow10", "math/bits.deBruijn32tab", "math/bits.deBruijn64tab", "unicode/utf8.first", "unicode/utf8.acceptRanges", "internal/bytealg.MaxLen", "strconv.ErrSyntax", "strconv.ErrRange"], apart := false, laid := [("math/bits.deBruijn32tab", laid_math_bits_deBruijn32tab), ("math/bits.deBruijn64tab", laid_math_bits_deBruijn64tab), ("internal/strconv.uint64pow10", laid_internal_strconv_uint64pow10), ("unicode/utf8.acceptRanges", laid_unicode_utf8_acceptRanges), ("strconv.ErrRange", laid_strconv_ErrRange), ("strconv.ErrSyntax", laid_strconv_ErrSyntax), ("unicode/utf8.first", laid_unicode_utf8_first)] }
def FnIncidentTextSaid : Prop := fnIncidentTextRow.holds Tryd.pinned (OpenSpec.ofChange fnIncidentTextSpec)

/-- ITS FALSE NEIGHBOUR: 'it returns false'. Refute it at one input. -/
def fnIncidentTextWrong : ChangeSpec := { name := "fnIncidentText", fn := fun _ => fun
  | [d] => { results := [.lit (.bool false)], args := [d] }
  | _ => none }
def FnIncidentTextWrongFalsely : Prop := fnIncidentTextRow.holds Tryd.pinned (OpenSpec.ofChange fnIncidentTextWrong)

/-- 'laws.FnFinishText': WHATEVER THE INPUT: true; the input reads as it did. -/
def fnFinishTextSpec : ChangeSpec := { name := "fnFinishText", fn := fun _ => fun
  | [d] => { results := [.lit (.bool true)], args := [d] }
  | _ => none }
def fnFinishTextRow : OpenClaim := { program := "ytgdjgjkijcmkfaadoor", sum := "5ae7cbee71cf9dc8f22aad68df5efa18bc27765fe78fb67b83e32df6f910975b", func := "loop.example/g00887/laws.FnFinishText", spec := "fnFinishText", inPlace := ["internal/abi.NoEscape", "internal/bytealg.MakeNoZero", "internal/bytealg.CountString", "internal/bytealg.IndexByteString", "internal/bytealg.IndexString"], recurses := true, named := ["internal/strconv.uint64pow10", "math/bits.deBruijn32tab", "math/bits.deBruijn64tab", "unicode/utf8.first", "unicode/utf8.acceptRanges", "internal/bytealg.MaxLen", "strconv.ErrSyntax", "strconv.ErrRange"], apart := false, laid := [("math/bits.deBruijn32tab", laid_math_bits_deBruijn32tab), ("math/bits.deBruijn64tab", laid_math_bits_deBruijn64tab), ("internal/strconv.uint64pow10", laid_internal_strconv_uint64pow10), ("unicode/utf8.acceptRanges", laid_unicode_utf8_acceptRanges), ("strconv.ErrRange", laid_strconv_ErrRange), ("strconv.ErrSyntax", laid_strconv_ErrSyntax), ("unicode/utf8.first", laid_unicode_utf8_first)] }
def FnFinishTextSaid : Prop := fnFinishTextRow.holds Tryd.pinned (OpenSpec.ofChange fnFinishTextSpec)

/-- ITS FALSE NEIGHBOUR: 'it returns false'. Refute it at one input. -/
def fnFinishTextWrong : ChangeSpec := { name := "fnFinishText", fn := fun _ => fun
  | [d] => { results := [.lit (.bool false)], args := [d] }
  | _ => none }
def FnFinishTextWrongFalsely : Prop := fnFinishTextRow.holds Tryd.pinned (OpenSpec.ofChange fnFinishTextWrong)

/-- 'laws.FnExactReadLimits': WHATEVER THE INPUT: true; the input reads as it did. -/
def fnExactReadLimitsSpec : ChangeSpec := { name := "fnExactReadLimits", fn := fun _ => fun
  | [d] => { results := [.lit (.bool true)], args := [d] }
  | _ => none }
def fnExactReadLimitsRow : OpenClaim := { program := "ytgdjgjkijcmkfaadoor", sum := "5ae7cbee71cf9dc8f22aad68df5efa18bc27765fe78fb67b83e32df6f910975b", func := "loop.example/g00887/laws.FnExactReadLimits", spec := "fnExactReadLimits", inPlace := ["internal/bytealg.CountString", "internal/bytealg.IndexByteString", "internal/bytealg.IndexString", "internal/abi.NoEscape", "internal/bytealg.MakeNoZero"], recurses := true, named := ["unicode/utf8.first", "unicode/utf8.acceptRanges", "internal/bytealg.MaxLen", "strconv.ErrSyntax", "strconv.ErrRange", "internal/strconv.uint64pow10", "math/bits.deBruijn32tab", "math/bits.deBruijn64tab"], apart := false, laid := [("math/bits.deBruijn32tab", laid_math_bits_deBruijn32tab), ("math/bits.deBruijn64tab", laid_math_bits_deBruijn64tab), ("internal/strconv.uint64pow10", laid_internal_strconv_uint64pow10), ("unicode/utf8.acceptRanges", laid_unicode_utf8_acceptRanges), ("strconv.ErrRange", laid_strconv_ErrRange), ("strconv.ErrSyntax", laid_strconv_ErrSyntax), ("unicode/utf8.first", laid_unicode_utf8_first)] }
def FnExactReadLimitsSaid : Prop := fnExactReadLimitsRow.holds Tryd.pinned (OpenSpec.ofChange fnExactReadLimitsSpec)

/-- ITS FALSE NEIGHBOUR: 'it returns false'. Refute it at one input. -/
def fnExactReadLimitsWrong : ChangeSpec := { name := "fnExactReadLimits", fn := fun _ => fun
  | [d] => { results := [.lit (.bool false)], args := [d] }
  | _ => none }
def FnExactReadLimitsWrongFalsely : Prop := fnExactReadLimitsRow.holds Tryd.pinned (OpenSpec.ofChange fnExactReadLimitsWrong)

/-- 'laws.FnExactReadIncident': WHATEVER THE INPUT: true; the input reads as it did. -/
def fnExactReadIncidentSpec : ChangeSpec := { name := "fnExactReadIncident", fn := fun _ => fun
  | [d] => { results := [.lit (.bool true)], args := [d] }
  | _ => none }
def fnExactReadIncidentRow : OpenClaim := { program := "ytgdjgjkijcmkfaadoor", sum := "5ae7cbee71cf9dc8f22aad68df5efa18bc27765fe78fb67b83e32df6f910975b", func := "loop.example/g00887/laws.FnExactReadIncident", spec := "fnExactReadIncident", inPlace := ["internal/bytealg.CountString", "internal/bytealg.IndexByteString", "internal/bytealg.IndexString", "internal/abi.NoEscape", "internal/bytealg.MakeNoZero"], recurses := true, named := ["unicode/utf8.first", "unicode/utf8.acceptRanges", "internal/bytealg.MaxLen", "strconv.ErrSyntax", "strconv.ErrRange", "internal/strconv.uint64pow10", "math/bits.deBruijn32tab", "math/bits.deBruijn64tab"], apart := false, laid := [("math/bits.deBruijn32tab", laid_math_bits_deBruijn32tab), ("math/bits.deBruijn64tab", laid_math_bits_deBruijn64tab), ("internal/strconv.uint64pow10", laid_internal_strconv_uint64pow10), ("unicode/utf8.acceptRanges", laid_unicode_utf8_acceptRanges), ("strconv.ErrRange", laid_strconv_ErrRange), ("strconv.ErrSyntax", laid_strconv_ErrSyntax), ("unicode/utf8.first", laid_unicode_utf8_first)] }
def FnExactReadIncidentSaid : Prop := fnExactReadIncidentRow.holds Tryd.pinned (OpenSpec.ofChange fnExactReadIncidentSpec)

/-- ITS FALSE NEIGHBOUR: 'it returns false'. Refute it at one input. -/
def fnExactReadIncidentWrong : ChangeSpec := { name := "fnExactReadIncident", fn := fun _ => fun
  | [d] => { results := [.lit (.bool false)], args := [d] }
  | _ => none }
def FnExactReadIncidentWrongFalsely : Prop := fnExactReadIncidentRow.holds Tryd.pinned (OpenSpec.ofChange fnExactReadIncidentWrong)

/-- 'laws.FnExactReadFinish': WHATEVER THE INPUT: true; the input reads as it did. -/
def fnExactReadFinishSpec : ChangeSpec := { name := "fnExactReadFinish", fn := fun _ => fun
  | [d] => { results := [.lit (.bool true)], args := [d] }
  | _ => none }
def fnExactReadFinishRow : OpenClaim := { program := "ytgdjgjkijcmkfaadoor", sum := "5ae7cbee71cf9dc8f22aad68df5efa18bc27765fe78fb67b83e32df6f910975b", func := "loop.example/g00887/laws.FnExactReadFinish", spec := "fnExactReadFinish", inPlace := ["internal/bytealg.CountString", "internal/bytealg.IndexByteString", "internal/bytealg.IndexString", "internal/abi.NoEscape", "internal/bytealg.MakeNoZero"], recurses := true, named := ["unicode/utf8.first", "unicode/utf8.acceptRanges", "internal/bytealg.MaxLen", "strconv.ErrSyntax", "strconv.ErrRange", "internal/strconv.uint64pow10", "math/bits.deBruijn32tab", "math/bits.deBruijn64tab"], apart := false, laid := [("math/bits.deBruijn32tab", laid_math_bits_deBruijn32tab), ("math/bits.deBruijn64tab", laid_math_bits_deBruijn64tab), ("internal/strconv.uint64pow10", laid_internal_strconv_uint64pow10), ("unicode/utf8.acceptRanges", laid_unicode_utf8_acceptRanges), ("strconv.ErrRange", laid_strconv_ErrRange), ("strconv.ErrSyntax", laid_strconv_ErrSyntax), ("unicode/utf8.first", laid_unicode_utf8_first)] }
def FnExactReadFinishSaid : Prop := fnExactReadFinishRow.holds Tryd.pinned (OpenSpec.ofChange fnExactReadFinishSpec)

/-- ITS FALSE NEIGHBOUR: 'it returns false'. Refute it at one input. -/
def fnExactReadFinishWrong : ChangeSpec := { name := "fnExactReadFinish", fn := fun _ => fun
  | [d] => { results := [.lit (.bool false)], args := [d] }
  | _ => none }
def FnExactReadFinishWrongFalsely : Prop := fnExactReadFinishRow.holds Tryd.pinned (OpenSpec.ofChange fnExactReadFinishWrong)

/- THE SECOND FORM. 'bulk': how many values and letters a reading holds, each counted each time it is reached (what is shared counts as often as it is met; a slice's spare places count too). A statement '..UptoSaid' is the law's where the arguments, and the package variables that the reading takes, are together of bulk at most 1048576: NARROWER than '..Said'. Prove '..Said' where nothing that the law and all that it calls make is longer than what came in: it says more and counts as full. Else prove '..UptoSaid'. A law counts once. -/
mutual
def uptoBulk {H : Type} : DataW H → Nat
  | .lit (.string bytes) => bytes.length + 1
  | .lit _ => 1
  | .nil => 1
  | .ptr d => uptoBulk d + 1
  | .slice elems spare => uptoBulkAll elems + uptoBulkAll spare + 1
  | .agg parts => uptoBulkAll parts + 1
  | .iface _ d => uptoBulk d + 1
  | .map entries => uptoBulkEntries entries + 1
  | .held _ => 1
def uptoBulkAll {H : Type} : List (DataW H) → Nat
  | [] => 0
  | d :: r => uptoBulk d + uptoBulkAll r
def uptoBulkEntries {H : Type} : List (Lit × DataW H) → Nat
  | [] => 0
  | x :: r => uptoBulkEntry x + uptoBulkEntries r
def uptoBulkEntry {H : Type} : Lit × DataW H → Nat
  | (.string bytes, d) => bytes.length + uptoBulk d + 1
  | (_, d) => uptoBulk d + 1
 end
def uptoSmall : (H : Type) → List (DataW H) → Bool := fun _ ds => decide (uptoBulkAll ds ≤ 1048576)
def OpenSpec.upto (s : _root_.Go.ChangeSpec) : _root_.Go.OpenSpec := { _root_.Go.OpenSpec.ofChange s with cond := some uptoSmall }

/-- 'laws.FnExactSignalsText', WHERE WHAT IT READS IS OF BULK AT MOST 1048576: true; the input reads as it did. -/
def fnExactSignalsTextUptoRow : OpenClaim := { program := "ytgdjgjkijcmkfaadoor", sum := "5ae7cbee71cf9dc8f22aad68df5efa18bc27765fe78fb67b83e32df6f910975b", func := "loop.example/g00887/laws.FnExactSignalsText", spec := "fnExactSignalsText", inPlace := ["internal/abi.NoEscape", "internal/bytealg.MakeNoZero"], recurses := true, named := ["internal/strconv.uint64pow10", "math/bits.deBruijn32tab", "math/bits.deBruijn64tab"], apart := false, laid := [("math/bits.deBruijn32tab", laid_math_bits_deBruijn32tab), ("math/bits.deBruijn64tab", laid_math_bits_deBruijn64tab), ("internal/strconv.uint64pow10", laid_internal_strconv_uint64pow10)], narrowed := true }
def FnExactSignalsTextUptoSaid : Prop := fnExactSignalsTextUptoRow.holds Tryd.pinned (OpenSpec.upto fnExactSignalsTextSpec)

/-- 'laws.FnExactLimitsText', WHERE WHAT IT READS IS OF BULK AT MOST 1048576: true; the input reads as it did. -/
def fnExactLimitsTextUptoRow : OpenClaim := { program := "ytgdjgjkijcmkfaadoor", sum := "5ae7cbee71cf9dc8f22aad68df5efa18bc27765fe78fb67b83e32df6f910975b", func := "loop.example/g00887/laws.FnExactLimitsText", spec := "fnExactLimitsText", inPlace := ["internal/abi.NoEscape", "internal/bytealg.MakeNoZero"], recurses := true, named := ["internal/strconv.uint64pow10", "math/bits.deBruijn32tab", "math/bits.deBruijn64tab"], apart := false, laid := [("math/bits.deBruijn32tab", laid_math_bits_deBruijn32tab), ("math/bits.deBruijn64tab", laid_math_bits_deBruijn64tab), ("internal/strconv.uint64pow10", laid_internal_strconv_uint64pow10)], narrowed := true }
def FnExactLimitsTextUptoSaid : Prop := fnExactLimitsTextUptoRow.holds Tryd.pinned (OpenSpec.upto fnExactLimitsTextSpec)

/-- 'laws.FnExactIncidentText', WHERE WHAT IT READS IS OF BULK AT MOST 1048576: true; the input reads as it did. -/
def fnExactIncidentTextUptoRow : OpenClaim := { program := "ytgdjgjkijcmkfaadoor", sum := "5ae7cbee71cf9dc8f22aad68df5efa18bc27765fe78fb67b83e32df6f910975b", func := "loop.example/g00887/laws.FnExactIncidentText", spec := "fnExactIncidentText", inPlace := ["internal/abi.NoEscape", "internal/bytealg.MakeNoZero"], recurses := true, named := ["internal/strconv.uint64pow10", "math/bits.deBruijn32tab", "math/bits.deBruijn64tab"], apart := false, laid := [("math/bits.deBruijn32tab", laid_math_bits_deBruijn32tab), ("math/bits.deBruijn64tab", laid_math_bits_deBruijn64tab), ("internal/strconv.uint64pow10", laid_internal_strconv_uint64pow10)], narrowed := true }
def FnExactIncidentTextUptoSaid : Prop := fnExactIncidentTextUptoRow.holds Tryd.pinned (OpenSpec.upto fnExactIncidentTextSpec)

/-- 'laws.FnExactFinishText', WHERE WHAT IT READS IS OF BULK AT MOST 1048576: true; the input reads as it did. -/
def fnExactFinishTextUptoRow : OpenClaim := { program := "ytgdjgjkijcmkfaadoor", sum := "5ae7cbee71cf9dc8f22aad68df5efa18bc27765fe78fb67b83e32df6f910975b", func := "loop.example/g00887/laws.FnExactFinishText", spec := "fnExactFinishText", inPlace := ["internal/abi.NoEscape", "internal/bytealg.MakeNoZero"], recurses := true, named := ["internal/strconv.uint64pow10", "math/bits.deBruijn32tab", "math/bits.deBruijn64tab"], apart := false, laid := [("math/bits.deBruijn32tab", laid_math_bits_deBruijn32tab), ("math/bits.deBruijn64tab", laid_math_bits_deBruijn64tab), ("internal/strconv.uint64pow10", laid_internal_strconv_uint64pow10)], narrowed := true }
def FnExactFinishTextUptoSaid : Prop := fnExactFinishTextUptoRow.holds Tryd.pinned (OpenSpec.upto fnExactFinishTextSpec)

/-- 'laws.FnExactReadSignals', WHERE WHAT IT READS IS OF BULK AT MOST 1048576: true; the input reads as it did. -/
def fnExactReadSignalsUptoRow : OpenClaim := { program := "ytgdjgjkijcmkfaadoor", sum := "5ae7cbee71cf9dc8f22aad68df5efa18bc27765fe78fb67b83e32df6f910975b", func := "loop.example/g00887/laws.FnExactReadSignals", spec := "fnExactReadSignals", inPlace := ["internal/bytealg.CountString", "internal/bytealg.IndexByteString", "internal/bytealg.IndexString"], recurses := true, named := ["unicode/utf8.first", "unicode/utf8.acceptRanges", "internal/bytealg.MaxLen", "strconv.ErrSyntax", "strconv.ErrRange", "internal/strconv.uint64pow10", "math/bits.deBruijn32tab", "math/bits.deBruijn64tab"], apart := false, laid := [("math/bits.deBruijn32tab", laid_math_bits_deBruijn32tab), ("math/bits.deBruijn64tab", laid_math_bits_deBruijn64tab), ("internal/strconv.uint64pow10", laid_internal_strconv_uint64pow10), ("unicode/utf8.acceptRanges", laid_unicode_utf8_acceptRanges), ("strconv.ErrRange", laid_strconv_ErrRange), ("strconv.ErrSyntax", laid_strconv_ErrSyntax), ("unicode/utf8.first", laid_unicode_utf8_first)], narrowed := true }
def FnExactReadSignalsUptoSaid : Prop := fnExactReadSignalsUptoRow.holds Tryd.pinned (OpenSpec.upto fnExactReadSignalsSpec)

/-- 'laws.FnSignalsText', WHERE WHAT IT READS IS OF BULK AT MOST 1048576: true; the input reads as it did. -/
def fnSignalsTextUptoRow : OpenClaim := { program := "ytgdjgjkijcmkfaadoor", sum := "5ae7cbee71cf9dc8f22aad68df5efa18bc27765fe78fb67b83e32df6f910975b", func := "loop.example/g00887/laws.FnSignalsText", spec := "fnSignalsText", inPlace := ["internal/abi.NoEscape", "internal/bytealg.MakeNoZero", "internal/bytealg.CountString", "internal/bytealg.IndexByteString", "internal/bytealg.IndexString"], recurses := true, named := ["internal/strconv.uint64pow10", "math/bits.deBruijn32tab", "math/bits.deBruijn64tab", "unicode/utf8.first", "unicode/utf8.acceptRanges", "internal/bytealg.MaxLen", "strconv.ErrSyntax", "strconv.ErrRange"], apart := false, laid := [("math/bits.deBruijn32tab", laid_math_bits_deBruijn32tab), ("math/bits.deBruijn64tab", laid_math_bits_deBruijn64tab), ("internal/strconv.uint64pow10", laid_internal_strconv_uint64pow10), ("unicode/utf8.acceptRanges", laid_unicode_utf8_acceptRanges), ("strconv.ErrRange", laid_strconv_ErrRange), ("strconv.ErrSyntax", laid_strconv_ErrSyntax), ("unicode/utf8.first", laid_unicode_utf8_first)], narrowed := true }
def FnSignalsTextUptoSaid : Prop := fnSignalsTextUptoRow.holds Tryd.pinned (OpenSpec.upto fnSignalsTextSpec)

/-- 'laws.FnLimitsText', WHERE WHAT IT READS IS OF BULK AT MOST 1048576: true; the input reads as it did. -/
def fnLimitsTextUptoRow : OpenClaim := { program := "ytgdjgjkijcmkfaadoor", sum := "5ae7cbee71cf9dc8f22aad68df5efa18bc27765fe78fb67b83e32df6f910975b", func := "loop.example/g00887/laws.FnLimitsText", spec := "fnLimitsText", inPlace := ["internal/abi.NoEscape", "internal/bytealg.MakeNoZero", "internal/bytealg.CountString", "internal/bytealg.IndexByteString", "internal/bytealg.IndexString"], recurses := true, named := ["internal/strconv.uint64pow10", "math/bits.deBruijn32tab", "math/bits.deBruijn64tab", "unicode/utf8.first", "unicode/utf8.acceptRanges", "internal/bytealg.MaxLen", "strconv.ErrSyntax", "strconv.ErrRange"], apart := false, laid := [("math/bits.deBruijn32tab", laid_math_bits_deBruijn32tab), ("math/bits.deBruijn64tab", laid_math_bits_deBruijn64tab), ("internal/strconv.uint64pow10", laid_internal_strconv_uint64pow10), ("unicode/utf8.acceptRanges", laid_unicode_utf8_acceptRanges), ("strconv.ErrRange", laid_strconv_ErrRange), ("strconv.ErrSyntax", laid_strconv_ErrSyntax), ("unicode/utf8.first", laid_unicode_utf8_first)], narrowed := true }
def FnLimitsTextUptoSaid : Prop := fnLimitsTextUptoRow.holds Tryd.pinned (OpenSpec.upto fnLimitsTextSpec)

/-- 'laws.FnIncidentText', WHERE WHAT IT READS IS OF BULK AT MOST 1048576: true; the input reads as it did. -/
def fnIncidentTextUptoRow : OpenClaim := { program := "ytgdjgjkijcmkfaadoor", sum := "5ae7cbee71cf9dc8f22aad68df5efa18bc27765fe78fb67b83e32df6f910975b", func := "loop.example/g00887/laws.FnIncidentText", spec := "fnIncidentText", inPlace := ["internal/abi.NoEscape", "internal/bytealg.MakeNoZero", "internal/bytealg.CountString", "internal/bytealg.IndexByteString", "internal/bytealg.IndexString"], recurses := true, named := ["internal/strconv.uint64pow10", "math/bits.deBruijn32tab", "math/bits.deBruijn64tab", "unicode/utf8.first", "unicode/utf8.acceptRanges", "internal/bytealg.MaxLen", "strconv.ErrSyntax", "strconv.ErrRange"], apart := false, laid := [("math/bits.deBruijn32tab", laid_math_bits_deBruijn32tab), ("math/bits.deBruijn64tab", laid_math_bits_deBruijn64tab), ("internal/strconv.uint64pow10", laid_internal_strconv_uint64pow10), ("unicode/utf8.acceptRanges", laid_unicode_utf8_acceptRanges), ("strconv.ErrRange", laid_strconv_ErrRange), ("strconv.ErrSyntax", laid_strconv_ErrSyntax), ("unicode/utf8.first", laid_unicode_utf8_first)], narrowed := true }
def FnIncidentTextUptoSaid : Prop := fnIncidentTextUptoRow.holds Tryd.pinned (OpenSpec.upto fnIncidentTextSpec)

/-- 'laws.FnFinishText', WHERE WHAT IT READS IS OF BULK AT MOST 1048576: true; the input reads as it did. -/
def fnFinishTextUptoRow : OpenClaim := { program := "ytgdjgjkijcmkfaadoor", sum := "5ae7cbee71cf9dc8f22aad68df5efa18bc27765fe78fb67b83e32df6f910975b", func := "loop.example/g00887/laws.FnFinishText", spec := "fnFinishText", inPlace := ["internal/abi.NoEscape", "internal/bytealg.MakeNoZero", "internal/bytealg.CountString", "internal/bytealg.IndexByteString", "internal/bytealg.IndexString"], recurses := true, named := ["internal/strconv.uint64pow10", "math/bits.deBruijn32tab", "math/bits.deBruijn64tab", "unicode/utf8.first", "unicode/utf8.acceptRanges", "internal/bytealg.MaxLen", "strconv.ErrSyntax", "strconv.ErrRange"], apart := false, laid := [("math/bits.deBruijn32tab", laid_math_bits_deBruijn32tab), ("math/bits.deBruijn64tab", laid_math_bits_deBruijn64tab), ("internal/strconv.uint64pow10", laid_internal_strconv_uint64pow10), ("unicode/utf8.acceptRanges", laid_unicode_utf8_acceptRanges), ("strconv.ErrRange", laid_strconv_ErrRange), ("strconv.ErrSyntax", laid_strconv_ErrSyntax), ("unicode/utf8.first", laid_unicode_utf8_first)], narrowed := true }
def FnFinishTextUptoSaid : Prop := fnFinishTextUptoRow.holds Tryd.pinned (OpenSpec.upto fnFinishTextSpec)

/-- 'laws.FnExactReadLimits', WHERE WHAT IT READS IS OF BULK AT MOST 1048576: true; the input reads as it did. -/
def fnExactReadLimitsUptoRow : OpenClaim := { program := "ytgdjgjkijcmkfaadoor", sum := "5ae7cbee71cf9dc8f22aad68df5efa18bc27765fe78fb67b83e32df6f910975b", func := "loop.example/g00887/laws.FnExactReadLimits", spec := "fnExactReadLimits", inPlace := ["internal/bytealg.CountString", "internal/bytealg.IndexByteString", "internal/bytealg.IndexString", "internal/abi.NoEscape", "internal/bytealg.MakeNoZero"], recurses := true, named := ["unicode/utf8.first", "unicode/utf8.acceptRanges", "internal/bytealg.MaxLen", "strconv.ErrSyntax", "strconv.ErrRange", "internal/strconv.uint64pow10", "math/bits.deBruijn32tab", "math/bits.deBruijn64tab"], apart := false, laid := [("math/bits.deBruijn32tab", laid_math_bits_deBruijn32tab), ("math/bits.deBruijn64tab", laid_math_bits_deBruijn64tab), ("internal/strconv.uint64pow10", laid_internal_strconv_uint64pow10), ("unicode/utf8.acceptRanges", laid_unicode_utf8_acceptRanges), ("strconv.ErrRange", laid_strconv_ErrRange), ("strconv.ErrSyntax", laid_strconv_ErrSyntax), ("unicode/utf8.first", laid_unicode_utf8_first)], narrowed := true }
def FnExactReadLimitsUptoSaid : Prop := fnExactReadLimitsUptoRow.holds Tryd.pinned (OpenSpec.upto fnExactReadLimitsSpec)

/-- 'laws.FnExactReadIncident', WHERE WHAT IT READS IS OF BULK AT MOST 1048576: true; the input reads as it did. -/
def fnExactReadIncidentUptoRow : OpenClaim := { program := "ytgdjgjkijcmkfaadoor", sum := "5ae7cbee71cf9dc8f22aad68df5efa18bc27765fe78fb67b83e32df6f910975b", func := "loop.example/g00887/laws.FnExactReadIncident", spec := "fnExactReadIncident", inPlace := ["internal/bytealg.CountString", "internal/bytealg.IndexByteString", "internal/bytealg.IndexString", "internal/abi.NoEscape", "internal/bytealg.MakeNoZero"], recurses := true, named := ["unicode/utf8.first", "unicode/utf8.acceptRanges", "internal/bytealg.MaxLen", "strconv.ErrSyntax", "strconv.ErrRange", "internal/strconv.uint64pow10", "math/bits.deBruijn32tab", "math/bits.deBruijn64tab"], apart := false, laid := [("math/bits.deBruijn32tab", laid_math_bits_deBruijn32tab), ("math/bits.deBruijn64tab", laid_math_bits_deBruijn64tab), ("internal/strconv.uint64pow10", laid_internal_strconv_uint64pow10), ("unicode/utf8.acceptRanges", laid_unicode_utf8_acceptRanges), ("strconv.ErrRange", laid_strconv_ErrRange), ("strconv.ErrSyntax", laid_strconv_ErrSyntax), ("unicode/utf8.first", laid_unicode_utf8_first)], narrowed := true }
def FnExactReadIncidentUptoSaid : Prop := fnExactReadIncidentUptoRow.holds Tryd.pinned (OpenSpec.upto fnExactReadIncidentSpec)

/-- 'laws.FnExactReadFinish', WHERE WHAT IT READS IS OF BULK AT MOST 1048576: true; the input reads as it did. -/
def fnExactReadFinishUptoRow : OpenClaim := { program := "ytgdjgjkijcmkfaadoor", sum := "5ae7cbee71cf9dc8f22aad68df5efa18bc27765fe78fb67b83e32df6f910975b", func := "loop.example/g00887/laws.FnExactReadFinish", spec := "fnExactReadFinish", inPlace := ["internal/bytealg.CountString", "internal/bytealg.IndexByteString", "internal/bytealg.IndexString", "internal/abi.NoEscape", "internal/bytealg.MakeNoZero"], recurses := true, named := ["unicode/utf8.first", "unicode/utf8.acceptRanges", "internal/bytealg.MaxLen", "strconv.ErrSyntax", "strconv.ErrRange", "internal/strconv.uint64pow10", "math/bits.deBruijn32tab", "math/bits.deBruijn64tab"], apart := false, laid := [("math/bits.deBruijn32tab", laid_math_bits_deBruijn32tab), ("math/bits.deBruijn64tab", laid_math_bits_deBruijn64tab), ("internal/strconv.uint64pow10", laid_internal_strconv_uint64pow10), ("unicode/utf8.acceptRanges", laid_unicode_utf8_acceptRanges), ("strconv.ErrRange", laid_strconv_ErrRange), ("strconv.ErrSyntax", laid_strconv_ErrSyntax), ("unicode/utf8.first", laid_unicode_utf8_first)], narrowed := true }
def FnExactReadFinishUptoSaid : Prop := fnExactReadFinishUptoRow.holds Tryd.pinned (OpenSpec.upto fnExactReadFinishSpec)

end Rows
end Go.Proofs.YtgdjgjkijcmkfaaDoor
