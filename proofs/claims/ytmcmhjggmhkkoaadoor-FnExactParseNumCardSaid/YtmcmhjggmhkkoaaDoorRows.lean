/-
  NARROWER THAN 'FOR EVERY INPUT', by the rows' own cells (each row's printed sentence says how): FnExactNumText: laid · FnExactDigits: laid · FnExactDecOk: laid · FnExactDecNew: laid · FnExactLessDec: laid · FnExactDecText: laid · FnExactFltDec: laid · FnExactLessFlt: laid · FnExactFltText: laid · FnExactNearFlt: laid · FnExactExact: laid · FnExactParseNum: laid · FnExactReadNumber: laid.
  DERIVED. THE GIVEN ROWS OF THIS SEAT. 13 by the template 'for every input the law returns true; each argument reads behind the call as it read before'; 0 by the template 'total and deterministic' (their statements: YtmcmhjggmhkkoaaDoorTotals.lean).
  GIVEN WITH THE SEED: the statements are not yours to turn. If you find one false, say at which input.
  Laid BY PROGRAM, IN A SANDBOX (cutbox-rows.mjs): the forced cells as the released guide's own fill.sh prints them over the translation e019713869944554… (all of the seat's roots in one cut). By AI agents, Wed Nov 11 2026. No macro, syntax, notation, axiom, sorry.
-/
import Derived.Test.YtmcmhjggmhkkoaaDoorChecked
import GoSem.PinnedTables
import GoSem.Claim
import GoSem.ClaimJoined
import GoSem.ClaimMapViews
import Derived.JoinedTies
import Derived.KernelRfl
namespace Go.Proofs.YtmcmhjggmhkkoaaDoor
/- THE CELL 'sum', in the pinned program and in every row, IS THE sha256 OF THE DUMP (.gsa) THAT YtmcmhjggmhkkoaaDoorProg.lean LOADS. Nothing in Lean hashes anything: it is a label: what it is worth is what the hold of that sum in a sandbox is worth. -/
noncomputable def Tryd.pinned : Pinned := { name := "ytmcmhjggmhkkoaadoor", sum := "e019713869944554abe5100e3d3fb788871331faa17e8b0410f46e2da3d61bf4", checked := Tryd.checked }
namespace Rows
def none {H : Type} : Left H := { results := [], args := [] }

/- WHAT THE LISTED PACKAGE-LEVEL VARIABLES READ AS WHEN THE CALL BEGINS. Each datum BY PROGRAM (the guide's laid-datum.mjs) off the statement by which the dump's own 'gosem.cut.vars' lays the variable. In a bare row this is a premise. The card (YtmcmhjggmhkkoaaDoorCards.lean) ties it to the program's text. -/
def laid_math_bits_deBruijn32tab {H : Type} : DataW H := .agg [.lit (.int .u8 0), .lit (.int .u8 1), .lit (.int .u8 28), .lit (.int .u8 2), .lit (.int .u8 29), .lit (.int .u8 14), .lit (.int .u8 24), .lit (.int .u8 3), .lit (.int .u8 30), .lit (.int .u8 22), .lit (.int .u8 20), .lit (.int .u8 15), .lit (.int .u8 25), .lit (.int .u8 17), .lit (.int .u8 4), .lit (.int .u8 8), .lit (.int .u8 31), .lit (.int .u8 27), .lit (.int .u8 13), .lit (.int .u8 23), .lit (.int .u8 21), .lit (.int .u8 19), .lit (.int .u8 16), .lit (.int .u8 7), .lit (.int .u8 26), .lit (.int .u8 12), .lit (.int .u8 18), .lit (.int .u8 6), .lit (.int .u8 11), .lit (.int .u8 5), .lit (.int .u8 10), .lit (.int .u8 9)]
def laid_math_bits_deBruijn64tab {H : Type} : DataW H := .agg [.lit (.int .u8 0), .lit (.int .u8 1), .lit (.int .u8 56), .lit (.int .u8 2), .lit (.int .u8 57), .lit (.int .u8 49), .lit (.int .u8 28), .lit (.int .u8 3), .lit (.int .u8 61), .lit (.int .u8 58), .lit (.int .u8 42), .lit (.int .u8 50), .lit (.int .u8 38), .lit (.int .u8 29), .lit (.int .u8 17), .lit (.int .u8 4), .lit (.int .u8 62), .lit (.int .u8 47), .lit (.int .u8 59), .lit (.int .u8 36), .lit (.int .u8 45), .lit (.int .u8 43), .lit (.int .u8 51), .lit (.int .u8 22), .lit (.int .u8 53), .lit (.int .u8 39), .lit (.int .u8 33), .lit (.int .u8 30), .lit (.int .u8 24), .lit (.int .u8 18), .lit (.int .u8 12), .lit (.int .u8 5), .lit (.int .u8 63), .lit (.int .u8 55), .lit (.int .u8 48), .lit (.int .u8 27), .lit (.int .u8 60), .lit (.int .u8 41), .lit (.int .u8 37), .lit (.int .u8 16), .lit (.int .u8 46), .lit (.int .u8 35), .lit (.int .u8 44), .lit (.int .u8 21), .lit (.int .u8 52), .lit (.int .u8 32), .lit (.int .u8 23), .lit (.int .u8 11), .lit (.int .u8 54), .lit (.int .u8 26), .lit (.int .u8 40), .lit (.int .u8 15), .lit (.int .u8 34), .lit (.int .u8 20), .lit (.int .u8 31), .lit (.int .u8 10), .lit (.int .u8 25), .lit (.int .u8 14), .lit (.int .u8 19), .lit (.int .u8 9), .lit (.int .u8 13), .lit (.int .u8 8), .lit (.int .u8 7), .lit (.int .u8 6)]
def laid_internal_strconv_uint64pow10 {H : Type} : DataW H := .agg [.lit (.int .u64 1), .lit (.int .u64 10), .lit (.int .u64 100), .lit (.int .u64 1000), .lit (.int .u64 10000), .lit (.int .u64 100000), .lit (.int .u64 1000000), .lit (.int .u64 10000000), .lit (.int .u64 100000000), .lit (.int .u64 1000000000), .lit (.int .u64 10000000000), .lit (.int .u64 100000000000), .lit (.int .u64 1000000000000), .lit (.int .u64 10000000000000), .lit (.int .u64 100000000000000), .lit (.int .u64 1000000000000000), .lit (.int .u64 10000000000000000), .lit (.int .u64 100000000000000000), .lit (.int .u64 1000000000000000000), .lit (.int .u64 10000000000000000000)]
def laid_strconv_ErrRange {H : Type} : DataW H := .iface "*errors.errorString" (.ptr (.agg [.lit (.string [118, 97, 108, 117, 101, 32, 111, 117, 116, 32, 111, 102, 32, 114, 97, 110, 103, 101])]))
def laid_strconv_ErrSyntax {H : Type} : DataW H := .iface "*errors.errorString" (.ptr (.agg [.lit (.string [105, 110, 118, 97, 108, 105, 100, 32, 115, 121, 110, 116, 97, 120])]))
def laid_unicode_utf8_acceptRanges {H : Type} : DataW H := .agg [.agg [.lit (.int .u8 128), .lit (.int .u8 191)], .agg [.lit (.int .u8 160), .lit (.int .u8 191)], .agg [.lit (.int .u8 128), .lit (.int .u8 159)], .agg [.lit (.int .u8 144), .lit (.int .u8 191)], .agg [.lit (.int .u8 128), .lit (.int .u8 143)], .agg [.lit (.int .u8 0), .lit (.int .u8 0)], .agg [.lit (.int .u8 0), .lit (.int .u8 0)], .agg [.lit (.int .u8 0), .lit (.int .u8 0)], .agg [.lit (.int .u8 0), .lit (.int .u8 0)], .agg [.lit (.int .u8 0), .lit (.int .u8 0)], .agg [.lit (.int .u8 0), .lit (.int .u8 0)], .agg [.lit (.int .u8 0), .lit (.int .u8 0)], .agg [.lit (.int .u8 0), .lit (.int .u8 0)], .agg [.lit (.int .u8 0), .lit (.int .u8 0)], .agg [.lit (.int .u8 0), .lit (.int .u8 0)], .agg [.lit (.int .u8 0), .lit (.int .u8 0)]]
/-- One of Go's own tables, pinned by name: the form's constant. -/
def laid_unicode_utf8_first : DataW Unit := Go.Pinned.utf8First

/-- 'laws.FnExactNumText': WHATEVER THE INPUT: true; the input reads as it did. -/
def fnExactNumTextSpec : ChangeSpec := { name := "fnExactNumText", fn := fun _ => fun
  | [d] => { results := [.lit (.bool true)], args := [d] }
  | _ => none }
def fnExactNumTextRow : OpenClaim := { program := "ytmcmhjggmhkkoaadoor", sum := "e019713869944554abe5100e3d3fb788871331faa17e8b0410f46e2da3d61bf4", func := "loop.example/g00502/laws.FnExactNumText", spec := "fnExactNumText", named := ["internal/strconv.uint64pow10", "math/bits.deBruijn32tab", "math/bits.deBruijn64tab"], apart := false, laid := [("math/bits.deBruijn32tab", laid_math_bits_deBruijn32tab), ("math/bits.deBruijn64tab", laid_math_bits_deBruijn64tab), ("internal/strconv.uint64pow10", laid_internal_strconv_uint64pow10)] }
def FnExactNumTextSaid : Prop := fnExactNumTextRow.holds Tryd.pinned (OpenSpec.ofChange fnExactNumTextSpec)

/-- ITS FALSE NEIGHBOUR: 'it returns false'. Refute it at one input. -/
def fnExactNumTextWrong : ChangeSpec := { name := "fnExactNumText", fn := fun _ => fun
  | [d] => { results := [.lit (.bool false)], args := [d] }
  | _ => none }
def FnExactNumTextWrongFalsely : Prop := fnExactNumTextRow.holds Tryd.pinned (OpenSpec.ofChange fnExactNumTextWrong)

/-- 'laws.FnExactDigits': WHATEVER THE INPUT: true; the input reads as it did. -/
def fnExactDigitsSpec : ChangeSpec := { name := "fnExactDigits", fn := fun _ => fun
  | [d] => { results := [.lit (.bool true)], args := [d] }
  | _ => none }
def fnExactDigitsRow : OpenClaim := { program := "ytmcmhjggmhkkoaadoor", sum := "e019713869944554abe5100e3d3fb788871331faa17e8b0410f46e2da3d61bf4", func := "loop.example/g00502/laws.FnExactDigits", spec := "fnExactDigits", named := ["internal/strconv.uint64pow10", "math/bits.deBruijn32tab", "math/bits.deBruijn64tab"], apart := false, laid := [("math/bits.deBruijn32tab", laid_math_bits_deBruijn32tab), ("math/bits.deBruijn64tab", laid_math_bits_deBruijn64tab), ("internal/strconv.uint64pow10", laid_internal_strconv_uint64pow10)] }
def FnExactDigitsSaid : Prop := fnExactDigitsRow.holds Tryd.pinned (OpenSpec.ofChange fnExactDigitsSpec)

/-- ITS FALSE NEIGHBOUR: 'it returns false'. Refute it at one input. -/
def fnExactDigitsWrong : ChangeSpec := { name := "fnExactDigits", fn := fun _ => fun
  | [d] => { results := [.lit (.bool false)], args := [d] }
  | _ => none }
def FnExactDigitsWrongFalsely : Prop := fnExactDigitsRow.holds Tryd.pinned (OpenSpec.ofChange fnExactDigitsWrong)

/-- 'laws.FnExactDecOk': WHATEVER THE INPUT: true; the input reads as it did. -/
def fnExactDecOkSpec : ChangeSpec := { name := "fnExactDecOk", fn := fun _ => fun
  | [d] => { results := [.lit (.bool true)], args := [d] }
  | _ => none }
def fnExactDecOkRow : OpenClaim := { program := "ytmcmhjggmhkkoaadoor", sum := "e019713869944554abe5100e3d3fb788871331faa17e8b0410f46e2da3d61bf4", func := "loop.example/g00502/laws.FnExactDecOk", spec := "fnExactDecOk", named := ["internal/strconv.uint64pow10", "math/bits.deBruijn32tab", "math/bits.deBruijn64tab"], apart := false, laid := [("math/bits.deBruijn32tab", laid_math_bits_deBruijn32tab), ("math/bits.deBruijn64tab", laid_math_bits_deBruijn64tab), ("internal/strconv.uint64pow10", laid_internal_strconv_uint64pow10)] }
def FnExactDecOkSaid : Prop := fnExactDecOkRow.holds Tryd.pinned (OpenSpec.ofChange fnExactDecOkSpec)

/-- ITS FALSE NEIGHBOUR: 'it returns false'. Refute it at one input. -/
def fnExactDecOkWrong : ChangeSpec := { name := "fnExactDecOk", fn := fun _ => fun
  | [d] => { results := [.lit (.bool false)], args := [d] }
  | _ => none }
def FnExactDecOkWrongFalsely : Prop := fnExactDecOkRow.holds Tryd.pinned (OpenSpec.ofChange fnExactDecOkWrong)

/-- 'laws.FnExactDecNew': WHATEVER THE INPUT: true; the input reads as it did. -/
def fnExactDecNewSpec : ChangeSpec := { name := "fnExactDecNew", fn := fun _ => fun
  | [d1, d2] => { results := [.lit (.bool true)], args := [d1, d2] }
  | _ => none }
def fnExactDecNewRow : OpenClaim := { program := "ytmcmhjggmhkkoaadoor", sum := "e019713869944554abe5100e3d3fb788871331faa17e8b0410f46e2da3d61bf4", func := "loop.example/g00502/laws.FnExactDecNew", spec := "fnExactDecNew", named := ["internal/strconv.uint64pow10", "math/bits.deBruijn32tab", "math/bits.deBruijn64tab"], apart := false, laid := [("math/bits.deBruijn32tab", laid_math_bits_deBruijn32tab), ("math/bits.deBruijn64tab", laid_math_bits_deBruijn64tab), ("internal/strconv.uint64pow10", laid_internal_strconv_uint64pow10)] }
def FnExactDecNewSaid : Prop := fnExactDecNewRow.holds Tryd.pinned (OpenSpec.ofChange fnExactDecNewSpec)

/-- ITS FALSE NEIGHBOUR: 'it returns false'. Refute it at one input. -/
def fnExactDecNewWrong : ChangeSpec := { name := "fnExactDecNew", fn := fun _ => fun
  | [d1, d2] => { results := [.lit (.bool false)], args := [d1, d2] }
  | _ => none }
def FnExactDecNewWrongFalsely : Prop := fnExactDecNewRow.holds Tryd.pinned (OpenSpec.ofChange fnExactDecNewWrong)

/-- 'laws.FnExactLessDec': WHATEVER THE INPUT: true; the input reads as it did. -/
def fnExactLessDecSpec : ChangeSpec := { name := "fnExactLessDec", fn := fun _ => fun
  | [d1, d2] => { results := [.lit (.bool true)], args := [d1, d2] }
  | _ => none }
def fnExactLessDecRow : OpenClaim := { program := "ytmcmhjggmhkkoaadoor", sum := "e019713869944554abe5100e3d3fb788871331faa17e8b0410f46e2da3d61bf4", func := "loop.example/g00502/laws.FnExactLessDec", spec := "fnExactLessDec", named := ["internal/strconv.uint64pow10", "math/bits.deBruijn32tab", "math/bits.deBruijn64tab"], apart := false, laid := [("math/bits.deBruijn32tab", laid_math_bits_deBruijn32tab), ("math/bits.deBruijn64tab", laid_math_bits_deBruijn64tab), ("internal/strconv.uint64pow10", laid_internal_strconv_uint64pow10)] }
def FnExactLessDecSaid : Prop := fnExactLessDecRow.holds Tryd.pinned (OpenSpec.ofChange fnExactLessDecSpec)

/-- ITS FALSE NEIGHBOUR: 'it returns false'. Refute it at one input. -/
def fnExactLessDecWrong : ChangeSpec := { name := "fnExactLessDec", fn := fun _ => fun
  | [d1, d2] => { results := [.lit (.bool false)], args := [d1, d2] }
  | _ => none }
def FnExactLessDecWrongFalsely : Prop := fnExactLessDecRow.holds Tryd.pinned (OpenSpec.ofChange fnExactLessDecWrong)

/-- 'laws.FnExactDecText': WHATEVER THE INPUT: true; the input reads as it did. -/
def fnExactDecTextSpec : ChangeSpec := { name := "fnExactDecText", fn := fun _ => fun
  | [d] => { results := [.lit (.bool true)], args := [d] }
  | _ => none }
def fnExactDecTextRow : OpenClaim := { program := "ytmcmhjggmhkkoaadoor", sum := "e019713869944554abe5100e3d3fb788871331faa17e8b0410f46e2da3d61bf4", func := "loop.example/g00502/laws.FnExactDecText", spec := "fnExactDecText", named := ["internal/strconv.uint64pow10", "math/bits.deBruijn32tab", "math/bits.deBruijn64tab"], apart := false, laid := [("math/bits.deBruijn32tab", laid_math_bits_deBruijn32tab), ("math/bits.deBruijn64tab", laid_math_bits_deBruijn64tab), ("internal/strconv.uint64pow10", laid_internal_strconv_uint64pow10)] }
def FnExactDecTextSaid : Prop := fnExactDecTextRow.holds Tryd.pinned (OpenSpec.ofChange fnExactDecTextSpec)

/-- ITS FALSE NEIGHBOUR: 'it returns false'. Refute it at one input. -/
def fnExactDecTextWrong : ChangeSpec := { name := "fnExactDecText", fn := fun _ => fun
  | [d] => { results := [.lit (.bool false)], args := [d] }
  | _ => none }
def FnExactDecTextWrongFalsely : Prop := fnExactDecTextRow.holds Tryd.pinned (OpenSpec.ofChange fnExactDecTextWrong)

/-- 'laws.FnExactFltDec': WHATEVER THE INPUT: true; the input reads as it did. -/
def fnExactFltDecSpec : ChangeSpec := { name := "fnExactFltDec", fn := fun _ => fun
  | [d] => { results := [.lit (.bool true)], args := [d] }
  | _ => none }
def fnExactFltDecRow : OpenClaim := { program := "ytmcmhjggmhkkoaadoor", sum := "e019713869944554abe5100e3d3fb788871331faa17e8b0410f46e2da3d61bf4", func := "loop.example/g00502/laws.FnExactFltDec", spec := "fnExactFltDec", named := ["internal/strconv.uint64pow10", "math/bits.deBruijn32tab", "math/bits.deBruijn64tab"], apart := false, laid := [("math/bits.deBruijn32tab", laid_math_bits_deBruijn32tab), ("math/bits.deBruijn64tab", laid_math_bits_deBruijn64tab), ("internal/strconv.uint64pow10", laid_internal_strconv_uint64pow10)] }
def FnExactFltDecSaid : Prop := fnExactFltDecRow.holds Tryd.pinned (OpenSpec.ofChange fnExactFltDecSpec)

/-- ITS FALSE NEIGHBOUR: 'it returns false'. Refute it at one input. -/
def fnExactFltDecWrong : ChangeSpec := { name := "fnExactFltDec", fn := fun _ => fun
  | [d] => { results := [.lit (.bool false)], args := [d] }
  | _ => none }
def FnExactFltDecWrongFalsely : Prop := fnExactFltDecRow.holds Tryd.pinned (OpenSpec.ofChange fnExactFltDecWrong)

/-- 'laws.FnExactLessFlt': WHATEVER THE INPUT: true; the input reads as it did. -/
def fnExactLessFltSpec : ChangeSpec := { name := "fnExactLessFlt", fn := fun _ => fun
  | [d1, d2] => { results := [.lit (.bool true)], args := [d1, d2] }
  | _ => none }
def fnExactLessFltRow : OpenClaim := { program := "ytmcmhjggmhkkoaadoor", sum := "e019713869944554abe5100e3d3fb788871331faa17e8b0410f46e2da3d61bf4", func := "loop.example/g00502/laws.FnExactLessFlt", spec := "fnExactLessFlt", named := ["internal/strconv.uint64pow10", "math/bits.deBruijn32tab", "math/bits.deBruijn64tab"], apart := false, laid := [("math/bits.deBruijn32tab", laid_math_bits_deBruijn32tab), ("math/bits.deBruijn64tab", laid_math_bits_deBruijn64tab), ("internal/strconv.uint64pow10", laid_internal_strconv_uint64pow10)] }
def FnExactLessFltSaid : Prop := fnExactLessFltRow.holds Tryd.pinned (OpenSpec.ofChange fnExactLessFltSpec)

/-- ITS FALSE NEIGHBOUR: 'it returns false'. Refute it at one input. -/
def fnExactLessFltWrong : ChangeSpec := { name := "fnExactLessFlt", fn := fun _ => fun
  | [d1, d2] => { results := [.lit (.bool false)], args := [d1, d2] }
  | _ => none }
def FnExactLessFltWrongFalsely : Prop := fnExactLessFltRow.holds Tryd.pinned (OpenSpec.ofChange fnExactLessFltWrong)

/-- 'laws.FnExactFltText': WHATEVER THE INPUT: true; the input reads as it did. -/
def fnExactFltTextSpec : ChangeSpec := { name := "fnExactFltText", fn := fun _ => fun
  | [d] => { results := [.lit (.bool true)], args := [d] }
  | _ => none }
def fnExactFltTextRow : OpenClaim := { program := "ytmcmhjggmhkkoaadoor", sum := "e019713869944554abe5100e3d3fb788871331faa17e8b0410f46e2da3d61bf4", func := "loop.example/g00502/laws.FnExactFltText", spec := "fnExactFltText", named := ["internal/strconv.uint64pow10", "math/bits.deBruijn32tab", "math/bits.deBruijn64tab"], apart := false, laid := [("math/bits.deBruijn32tab", laid_math_bits_deBruijn32tab), ("math/bits.deBruijn64tab", laid_math_bits_deBruijn64tab), ("internal/strconv.uint64pow10", laid_internal_strconv_uint64pow10)] }
def FnExactFltTextSaid : Prop := fnExactFltTextRow.holds Tryd.pinned (OpenSpec.ofChange fnExactFltTextSpec)

/-- ITS FALSE NEIGHBOUR: 'it returns false'. Refute it at one input. -/
def fnExactFltTextWrong : ChangeSpec := { name := "fnExactFltText", fn := fun _ => fun
  | [d] => { results := [.lit (.bool false)], args := [d] }
  | _ => none }
def FnExactFltTextWrongFalsely : Prop := fnExactFltTextRow.holds Tryd.pinned (OpenSpec.ofChange fnExactFltTextWrong)

/-- 'laws.FnExactNearFlt': WHATEVER THE INPUT: true; the input reads as it did. -/
def fnExactNearFltSpec : ChangeSpec := { name := "fnExactNearFlt", fn := fun _ => fun
  | [d] => { results := [.lit (.bool true)], args := [d] }
  | _ => none }
def fnExactNearFltRow : OpenClaim := { program := "ytmcmhjggmhkkoaadoor", sum := "e019713869944554abe5100e3d3fb788871331faa17e8b0410f46e2da3d61bf4", func := "loop.example/g00502/laws.FnExactNearFlt", spec := "fnExactNearFlt", named := ["internal/strconv.uint64pow10", "math/bits.deBruijn32tab", "math/bits.deBruijn64tab", "math/bits.divideError", "math/bits.overflowError"], apart := false, laid := [("math/bits.deBruijn32tab", laid_math_bits_deBruijn32tab), ("math/bits.deBruijn64tab", laid_math_bits_deBruijn64tab), ("internal/strconv.uint64pow10", laid_internal_strconv_uint64pow10)] }
def FnExactNearFltSaid : Prop := fnExactNearFltRow.holds Tryd.pinned (OpenSpec.ofChange fnExactNearFltSpec)

/-- ITS FALSE NEIGHBOUR: 'it returns false'. Refute it at one input. -/
def fnExactNearFltWrong : ChangeSpec := { name := "fnExactNearFlt", fn := fun _ => fun
  | [d] => { results := [.lit (.bool false)], args := [d] }
  | _ => none }
def FnExactNearFltWrongFalsely : Prop := fnExactNearFltRow.holds Tryd.pinned (OpenSpec.ofChange fnExactNearFltWrong)

/-- 'laws.FnExactExact': WHATEVER THE INPUT: true; the input reads as it did. -/
def fnExactExactSpec : ChangeSpec := { name := "fnExactExact", fn := fun _ => fun
  | [d] => { results := [.lit (.bool true)], args := [d] }
  | _ => none }
def fnExactExactRow : OpenClaim := { program := "ytmcmhjggmhkkoaadoor", sum := "e019713869944554abe5100e3d3fb788871331faa17e8b0410f46e2da3d61bf4", func := "loop.example/g00502/laws.FnExactExact", spec := "fnExactExact", named := ["internal/strconv.uint64pow10", "math/bits.deBruijn32tab", "math/bits.deBruijn64tab", "math/bits.divideError", "math/bits.overflowError"], apart := false, laid := [("math/bits.deBruijn32tab", laid_math_bits_deBruijn32tab), ("math/bits.deBruijn64tab", laid_math_bits_deBruijn64tab), ("internal/strconv.uint64pow10", laid_internal_strconv_uint64pow10)] }
def FnExactExactSaid : Prop := fnExactExactRow.holds Tryd.pinned (OpenSpec.ofChange fnExactExactSpec)

/-- ITS FALSE NEIGHBOUR: 'it returns false'. Refute it at one input. -/
def fnExactExactWrong : ChangeSpec := { name := "fnExactExact", fn := fun _ => fun
  | [d] => { results := [.lit (.bool false)], args := [d] }
  | _ => none }
def FnExactExactWrongFalsely : Prop := fnExactExactRow.holds Tryd.pinned (OpenSpec.ofChange fnExactExactWrong)

/-- 'laws.FnExactParseNum': WHATEVER THE INPUT: true; the input reads as it did. -/
def fnExactParseNumSpec : ChangeSpec := { name := "fnExactParseNum", fn := fun _ => fun
  | [d] => { results := [.lit (.bool true)], args := [d] }
  | _ => none }
def fnExactParseNumRow : OpenClaim := { program := "ytmcmhjggmhkkoaadoor", sum := "e019713869944554abe5100e3d3fb788871331faa17e8b0410f46e2da3d61bf4", func := "loop.example/g00502/laws.FnExactParseNum", spec := "fnExactParseNum", named := ["strconv.ErrSyntax", "strconv.ErrRange", "internal/strconv.uint64pow10", "math/bits.deBruijn32tab", "math/bits.deBruijn64tab"], apart := false, laid := [("math/bits.deBruijn32tab", laid_math_bits_deBruijn32tab), ("math/bits.deBruijn64tab", laid_math_bits_deBruijn64tab), ("internal/strconv.uint64pow10", laid_internal_strconv_uint64pow10), ("strconv.ErrRange", laid_strconv_ErrRange), ("strconv.ErrSyntax", laid_strconv_ErrSyntax)] }
def FnExactParseNumSaid : Prop := fnExactParseNumRow.holds Tryd.pinned (OpenSpec.ofChange fnExactParseNumSpec)

/-- ITS FALSE NEIGHBOUR: 'it returns false'. Refute it at one input. -/
def fnExactParseNumWrong : ChangeSpec := { name := "fnExactParseNum", fn := fun _ => fun
  | [d] => { results := [.lit (.bool false)], args := [d] }
  | _ => none }
def FnExactParseNumWrongFalsely : Prop := fnExactParseNumRow.holds Tryd.pinned (OpenSpec.ofChange fnExactParseNumWrong)

/-- 'laws.FnExactReadNumber': WHATEVER THE INPUT: true; the input reads as it did. -/
def fnExactReadNumberSpec : ChangeSpec := { name := "fnExactReadNumber", fn := fun _ => fun
  | [d1, d2] => { results := [.lit (.bool true)], args := [d1, d2] }
  | _ => none }
def fnExactReadNumberRow : OpenClaim := { program := "ytmcmhjggmhkkoaadoor", sum := "e019713869944554abe5100e3d3fb788871331faa17e8b0410f46e2da3d61bf4", func := "loop.example/g00502/laws.FnExactReadNumber", spec := "fnExactReadNumber", inPlace := ["internal/bytealg.IndexByteString", "internal/bytealg.IndexString"], named := ["unicode/utf8.first", "unicode/utf8.acceptRanges", "strconv.ErrSyntax", "strconv.ErrRange", "internal/strconv.uint64pow10", "math/bits.deBruijn32tab", "math/bits.deBruijn64tab", "internal/bytealg.MaxLen"], apart := false, laid := [("math/bits.deBruijn32tab", laid_math_bits_deBruijn32tab), ("math/bits.deBruijn64tab", laid_math_bits_deBruijn64tab), ("internal/strconv.uint64pow10", laid_internal_strconv_uint64pow10), ("unicode/utf8.acceptRanges", laid_unicode_utf8_acceptRanges), ("strconv.ErrRange", laid_strconv_ErrRange), ("strconv.ErrSyntax", laid_strconv_ErrSyntax), ("unicode/utf8.first", laid_unicode_utf8_first)] }
def FnExactReadNumberSaid : Prop := fnExactReadNumberRow.holds Tryd.pinned (OpenSpec.ofChange fnExactReadNumberSpec)

/-- ITS FALSE NEIGHBOUR: 'it returns false'. Refute it at one input. -/
def fnExactReadNumberWrong : ChangeSpec := { name := "fnExactReadNumber", fn := fun _ => fun
  | [d1, d2] => { results := [.lit (.bool false)], args := [d1, d2] }
  | _ => none }
def FnExactReadNumberWrongFalsely : Prop := fnExactReadNumberRow.holds Tryd.pinned (OpenSpec.ofChange fnExactReadNumberWrong)

/- THE SECOND FORM. 'bulk': how many values and letters a reading holds, each counted each time it is reached (what is shared counts as often as it is met; a slice's spare places count too). A statement '..UptoSaid' is the law's where the arguments, and the package variables that the reading takes, are together of bulk at most 1048576: NARROWER than '..Said'. Prove '..Said' where nothing that the law and all that it calls make is longer than what came in: it says more and counts as full. Else prove '..UptoSaid'. A law counts once. -/
mutual
def uptoBulk {H : Type} : DataW H → Nat
  | .lit (.string bytes) => bytes.length + 1
  | .lit _ => 1
  | .nil => 1
  | .ptr d => uptoBulk d + 1
  | .slice elems spare => uptoBulkAll elems + uptoBulkAll spare + 1
  | .agg parts => uptoBulkAll parts + 1
  | .iface _ d => uptoBulk d + 1
  | .map entries => uptoBulkEntries entries + 1
  | .held _ => 1
def uptoBulkAll {H : Type} : List (DataW H) → Nat
  | [] => 0
  | d :: r => uptoBulk d + uptoBulkAll r
def uptoBulkEntries {H : Type} : List (Lit × DataW H) → Nat
  | [] => 0
  | x :: r => uptoBulkEntry x + uptoBulkEntries r
def uptoBulkEntry {H : Type} : Lit × DataW H → Nat
  | (.string bytes, d) => bytes.length + uptoBulk d + 1
  | (_, d) => uptoBulk d + 1
 end
def uptoSmall : (H : Type) → List (DataW H) → Bool := fun _ ds => decide (uptoBulkAll ds ≤ 1048576)
def OpenSpec.upto (s : _root_.Go.ChangeSpec) : _root_.Go.OpenSpec := { _root_.Go.OpenSpec.ofChange s with cond := some uptoSmall }

/-- 'laws.FnExactNumText', WHERE WHAT IT READS IS OF BULK AT MOST 1048576: true; the input reads as it did. -/
def fnExactNumTextUptoRow : OpenClaim := { program := "ytmcmhjggmhkkoaadoor", sum := "e019713869944554abe5100e3d3fb788871331faa17e8b0410f46e2da3d61bf4", func := "loop.example/g00502/laws.FnExactNumText", spec := "fnExactNumText", named := ["internal/strconv.uint64pow10", "math/bits.deBruijn32tab", "math/bits.deBruijn64tab"], apart := false, laid := [("math/bits.deBruijn32tab", laid_math_bits_deBruijn32tab), ("math/bits.deBruijn64tab", laid_math_bits_deBruijn64tab), ("internal/strconv.uint64pow10", laid_internal_strconv_uint64pow10)], narrowed := true }
def FnExactNumTextUptoSaid : Prop := fnExactNumTextUptoRow.holds Tryd.pinned (OpenSpec.upto fnExactNumTextSpec)

/-- 'laws.FnExactDigits', WHERE WHAT IT READS IS OF BULK AT MOST 1048576: true; the input reads as it did. -/
def fnExactDigitsUptoRow : OpenClaim := { program := "ytmcmhjggmhkkoaadoor", sum := "e019713869944554abe5100e3d3fb788871331faa17e8b0410f46e2da3d61bf4", func := "loop.example/g00502/laws.FnExactDigits", spec := "fnExactDigits", named := ["internal/strconv.uint64pow10", "math/bits.deBruijn32tab", "math/bits.deBruijn64tab"], apart := false, laid := [("math/bits.deBruijn32tab", laid_math_bits_deBruijn32tab), ("math/bits.deBruijn64tab", laid_math_bits_deBruijn64tab), ("internal/strconv.uint64pow10", laid_internal_strconv_uint64pow10)], narrowed := true }
def FnExactDigitsUptoSaid : Prop := fnExactDigitsUptoRow.holds Tryd.pinned (OpenSpec.upto fnExactDigitsSpec)

/-- 'laws.FnExactDecOk', WHERE WHAT IT READS IS OF BULK AT MOST 1048576: true; the input reads as it did. -/
def fnExactDecOkUptoRow : OpenClaim := { program := "ytmcmhjggmhkkoaadoor", sum := "e019713869944554abe5100e3d3fb788871331faa17e8b0410f46e2da3d61bf4", func := "loop.example/g00502/laws.FnExactDecOk", spec := "fnExactDecOk", named := ["internal/strconv.uint64pow10", "math/bits.deBruijn32tab", "math/bits.deBruijn64tab"], apart := false, laid := [("math/bits.deBruijn32tab", laid_math_bits_deBruijn32tab), ("math/bits.deBruijn64tab", laid_math_bits_deBruijn64tab), ("internal/strconv.uint64pow10", laid_internal_strconv_uint64pow10)], narrowed := true }
def FnExactDecOkUptoSaid : Prop := fnExactDecOkUptoRow.holds Tryd.pinned (OpenSpec.upto fnExactDecOkSpec)

/-- 'laws.FnExactDecNew', WHERE WHAT IT READS IS OF BULK AT MOST 1048576: true; the input reads as it did. -/
def fnExactDecNewUptoRow : OpenClaim := { program := "ytmcmhjggmhkkoaadoor", sum := "e019713869944554abe5100e3d3fb788871331faa17e8b0410f46e2da3d61bf4", func := "loop.example/g00502/laws.FnExactDecNew", spec := "fnExactDecNew", named := ["internal/strconv.uint64pow10", "math/bits.deBruijn32tab", "math/bits.deBruijn64tab"], apart := false, laid := [("math/bits.deBruijn32tab", laid_math_bits_deBruijn32tab), ("math/bits.deBruijn64tab", laid_math_bits_deBruijn64tab), ("internal/strconv.uint64pow10", laid_internal_strconv_uint64pow10)], narrowed := true }
def FnExactDecNewUptoSaid : Prop := fnExactDecNewUptoRow.holds Tryd.pinned (OpenSpec.upto fnExactDecNewSpec)

/-- 'laws.FnExactLessDec', WHERE WHAT IT READS IS OF BULK AT MOST 1048576: true; the input reads as it did. -/
def fnExactLessDecUptoRow : OpenClaim := { program := "ytmcmhjggmhkkoaadoor", sum := "e019713869944554abe5100e3d3fb788871331faa17e8b0410f46e2da3d61bf4", func := "loop.example/g00502/laws.FnExactLessDec", spec := "fnExactLessDec", named := ["internal/strconv.uint64pow10", "math/bits.deBruijn32tab", "math/bits.deBruijn64tab"], apart := false, laid := [("math/bits.deBruijn32tab", laid_math_bits_deBruijn32tab), ("math/bits.deBruijn64tab", laid_math_bits_deBruijn64tab), ("internal/strconv.uint64pow10", laid_internal_strconv_uint64pow10)], narrowed := true }
def FnExactLessDecUptoSaid : Prop := fnExactLessDecUptoRow.holds Tryd.pinned (OpenSpec.upto fnExactLessDecSpec)

/-- 'laws.FnExactDecText', WHERE WHAT IT READS IS OF BULK AT MOST 1048576: true; the input reads as it did. -/
def fnExactDecTextUptoRow : OpenClaim := { program := "ytmcmhjggmhkkoaadoor", sum := "e019713869944554abe5100e3d3fb788871331faa17e8b0410f46e2da3d61bf4", func := "loop.example/g00502/laws.FnExactDecText", spec := "fnExactDecText", named := ["internal/strconv.uint64pow10", "math/bits.deBruijn32tab", "math/bits.deBruijn64tab"], apart := false, laid := [("math/bits.deBruijn32tab", laid_math_bits_deBruijn32tab), ("math/bits.deBruijn64tab", laid_math_bits_deBruijn64tab), ("internal/strconv.uint64pow10", laid_internal_strconv_uint64pow10)], narrowed := true }
def FnExactDecTextUptoSaid : Prop := fnExactDecTextUptoRow.holds Tryd.pinned (OpenSpec.upto fnExactDecTextSpec)

/-- 'laws.FnExactFltDec', WHERE WHAT IT READS IS OF BULK AT MOST 1048576: true; the input reads as it did. -/
def fnExactFltDecUptoRow : OpenClaim := { program := "ytmcmhjggmhkkoaadoor", sum := "e019713869944554abe5100e3d3fb788871331faa17e8b0410f46e2da3d61bf4", func := "loop.example/g00502/laws.FnExactFltDec", spec := "fnExactFltDec", named := ["internal/strconv.uint64pow10", "math/bits.deBruijn32tab", "math/bits.deBruijn64tab"], apart := false, laid := [("math/bits.deBruijn32tab", laid_math_bits_deBruijn32tab), ("math/bits.deBruijn64tab", laid_math_bits_deBruijn64tab), ("internal/strconv.uint64pow10", laid_internal_strconv_uint64pow10)], narrowed := true }
def FnExactFltDecUptoSaid : Prop := fnExactFltDecUptoRow.holds Tryd.pinned (OpenSpec.upto fnExactFltDecSpec)

/-- 'laws.FnExactLessFlt', WHERE WHAT IT READS IS OF BULK AT MOST 1048576: true; the input reads as it did. -/
def fnExactLessFltUptoRow : OpenClaim := { program := "ytmcmhjggmhkkoaadoor", sum := "e019713869944554abe5100e3d3fb788871331faa17e8b0410f46e2da3d61bf4", func := "loop.example/g00502/laws.FnExactLessFlt", spec := "fnExactLessFlt", named := ["internal/strconv.uint64pow10", "math/bits.deBruijn32tab", "math/bits.deBruijn64tab"], apart := false, laid := [("math/bits.deBruijn32tab", laid_math_bits_deBruijn32tab), ("math/bits.deBruijn64tab", laid_math_bits_deBruijn64tab), ("internal/strconv.uint64pow10", laid_internal_strconv_uint64pow10)], narrowed := true }
def FnExactLessFltUptoSaid : Prop := fnExactLessFltUptoRow.holds Tryd.pinned (OpenSpec.upto fnExactLessFltSpec)

/-- 'laws.FnExactFltText', WHERE WHAT IT READS IS OF BULK AT MOST 1048576: true; the input reads as it did. -/
def fnExactFltTextUptoRow : OpenClaim := { program := "ytmcmhjggmhkkoaadoor", sum := "e019713869944554abe5100e3d3fb788871331faa17e8b0410f46e2da3d61bf4", func := "loop.example/g00502/laws.FnExactFltText", spec := "fnExactFltText", named := ["internal/strconv.uint64pow10", "math/bits.deBruijn32tab", "math/bits.deBruijn64tab"], apart := false, laid := [("math/bits.deBruijn32tab", laid_math_bits_deBruijn32tab), ("math/bits.deBruijn64tab", laid_math_bits_deBruijn64tab), ("internal/strconv.uint64pow10", laid_internal_strconv_uint64pow10)], narrowed := true }
def FnExactFltTextUptoSaid : Prop := fnExactFltTextUptoRow.holds Tryd.pinned (OpenSpec.upto fnExactFltTextSpec)

/-- 'laws.FnExactNearFlt', WHERE WHAT IT READS IS OF BULK AT MOST 1048576: true; the input reads as it did. -/
def fnExactNearFltUptoRow : OpenClaim := { program := "ytmcmhjggmhkkoaadoor", sum := "e019713869944554abe5100e3d3fb788871331faa17e8b0410f46e2da3d61bf4", func := "loop.example/g00502/laws.FnExactNearFlt", spec := "fnExactNearFlt", named := ["internal/strconv.uint64pow10", "math/bits.deBruijn32tab", "math/bits.deBruijn64tab", "math/bits.divideError", "math/bits.overflowError"], apart := false, laid := [("math/bits.deBruijn32tab", laid_math_bits_deBruijn32tab), ("math/bits.deBruijn64tab", laid_math_bits_deBruijn64tab), ("internal/strconv.uint64pow10", laid_internal_strconv_uint64pow10)], narrowed := true }
def FnExactNearFltUptoSaid : Prop := fnExactNearFltUptoRow.holds Tryd.pinned (OpenSpec.upto fnExactNearFltSpec)

/-- 'laws.FnExactExact', WHERE WHAT IT READS IS OF BULK AT MOST 1048576: true; the input reads as it did. -/
def fnExactExactUptoRow : OpenClaim := { program := "ytmcmhjggmhkkoaadoor", sum := "e019713869944554abe5100e3d3fb788871331faa17e8b0410f46e2da3d61bf4", func := "loop.example/g00502/laws.FnExactExact", spec := "fnExactExact", named := ["internal/strconv.uint64pow10", "math/bits.deBruijn32tab", "math/bits.deBruijn64tab", "math/bits.divideError", "math/bits.overflowError"], apart := false, laid := [("math/bits.deBruijn32tab", laid_math_bits_deBruijn32tab), ("math/bits.deBruijn64tab", laid_math_bits_deBruijn64tab), ("internal/strconv.uint64pow10", laid_internal_strconv_uint64pow10)], narrowed := true }
def FnExactExactUptoSaid : Prop := fnExactExactUptoRow.holds Tryd.pinned (OpenSpec.upto fnExactExactSpec)

/-- 'laws.FnExactParseNum', WHERE WHAT IT READS IS OF BULK AT MOST 1048576: true; the input reads as it did. -/
def fnExactParseNumUptoRow : OpenClaim := { program := "ytmcmhjggmhkkoaadoor", sum := "e019713869944554abe5100e3d3fb788871331faa17e8b0410f46e2da3d61bf4", func := "loop.example/g00502/laws.FnExactParseNum", spec := "fnExactParseNum", named := ["strconv.ErrSyntax", "strconv.ErrRange", "internal/strconv.uint64pow10", "math/bits.deBruijn32tab", "math/bits.deBruijn64tab"], apart := false, laid := [("math/bits.deBruijn32tab", laid_math_bits_deBruijn32tab), ("math/bits.deBruijn64tab", laid_math_bits_deBruijn64tab), ("internal/strconv.uint64pow10", laid_internal_strconv_uint64pow10), ("strconv.ErrRange", laid_strconv_ErrRange), ("strconv.ErrSyntax", laid_strconv_ErrSyntax)], narrowed := true }
def FnExactParseNumUptoSaid : Prop := fnExactParseNumUptoRow.holds Tryd.pinned (OpenSpec.upto fnExactParseNumSpec)

/-- 'laws.FnExactReadNumber', WHERE WHAT IT READS IS OF BULK AT MOST 1048576: true; the input reads as it did. -/
def fnExactReadNumberUptoRow : OpenClaim := { program := "ytmcmhjggmhkkoaadoor", sum := "e019713869944554abe5100e3d3fb788871331faa17e8b0410f46e2da3d61bf4", func := "loop.example/g00502/laws.FnExactReadNumber", spec := "fnExactReadNumber", inPlace := ["internal/bytealg.IndexByteString", "internal/bytealg.IndexString"], named := ["unicode/utf8.first", "unicode/utf8.acceptRanges", "strconv.ErrSyntax", "strconv.ErrRange", "internal/strconv.uint64pow10", "math/bits.deBruijn32tab", "math/bits.deBruijn64tab", "internal/bytealg.MaxLen"], apart := false, laid := [("math/bits.deBruijn32tab", laid_math_bits_deBruijn32tab), ("math/bits.deBruijn64tab", laid_math_bits_deBruijn64tab), ("internal/strconv.uint64pow10", laid_internal_strconv_uint64pow10), ("unicode/utf8.acceptRanges", laid_unicode_utf8_acceptRanges), ("strconv.ErrRange", laid_strconv_ErrRange), ("strconv.ErrSyntax", laid_strconv_ErrSyntax), ("unicode/utf8.first", laid_unicode_utf8_first)], narrowed := true }
def FnExactReadNumberUptoSaid : Prop := fnExactReadNumberUptoRow.holds Tryd.pinned (OpenSpec.upto fnExactReadNumberSpec)

end Rows
end Go.Proofs.YtmcmhjggmhkkoaaDoor
