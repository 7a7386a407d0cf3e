/-
  No cell of these rows narrows 'for every input' (looked for: loops, veiled, ifaces, maps, wideKeys, modest, calm, conditions, laid).
  DERIVED. THE GIVEN ROWS OF THIS SEAT. 12 by the template 'for every input the law returns true; each argument reads behind the call as it read before'; 0 by the template 'total and deterministic' (their statements: YtabinkejdfaojaaTotals.lean).
  GIVEN WITH THE SEED: the statements are not yours to turn. If you find one false, say at which input.
  Laid BY PROGRAM, IN A SANDBOX (cutbox-rows.mjs): the forced cells as the released guide's own fill.sh prints them over the translation a1575e970c8125f7… (all of the seat's roots in one cut). By AI agents, Wed Nov 11 2026. No macro, syntax, notation, axiom, sorry.
-/
import Derived.Test.YtabinkejdfaojaaChecked
import GoSem.Claim
import GoSem.ClaimJoined
import GoSem.ClaimMapViews
import Derived.JoinedTies
import Derived.KernelRfl
namespace Go.Proofs.Ytabinkejdfaojaa
/- THE CELL 'sum', in the pinned program and in every row, IS THE sha256 OF THE DUMP (.gsa) THAT YtabinkejdfaojaaProg.lean LOADS. Nothing in Lean hashes anything: it is a label: what it is worth is what the hold of that sum in a sandbox is worth. -/
noncomputable def Try.pinned : Pinned := { name := "ytabinkejdfaojaa", sum := "a1575e970c8125f7d4463ba242f7f894270d07210abdc965b99638ed245289e3", checked := Try.checked }
namespace Rows
def none {H : Type} : Left H := { results := [], args := [] }

/-- 'laws.FnExactConstants': WHATEVER THE INPUT: true; the input reads as it did. -/
def fnExactConstantsSpec : ChangeSpec := { name := "fnExactConstants", fn := fun _ => fun
  | [] => { results := [.lit (.bool true)], args := [] }
  | _ => none }
def fnExactConstantsRow : OpenClaim := { program := "ytabinkejdfaojaa", sum := "a1575e970c8125f7d4463ba242f7f894270d07210abdc965b99638ed245289e3", func := "loop.example/g00502/laws.FnExactConstants", spec := "fnExactConstants", apart := false }
def FnExactConstantsSaid : Prop := fnExactConstantsRow.holds Try.pinned (OpenSpec.ofChange fnExactConstantsSpec)

/-- ITS FALSE NEIGHBOUR: 'it returns false'. Refute it at one input. -/
def fnExactConstantsWrong : ChangeSpec := { name := "fnExactConstants", fn := fun _ => fun
  | [] => { results := [.lit (.bool false)], args := [] }
  | _ => none }
def FnExactConstantsWrongFalsely : Prop := fnExactConstantsRow.holds Try.pinned (OpenSpec.ofChange fnExactConstantsWrong)

/-- 'laws.FnExactRuneOk': WHATEVER THE INPUT: true; the input reads as it did. -/
def fnExactRuneOkSpec : ChangeSpec := { name := "fnExactRuneOk", fn := fun _ => fun
  | [d] => { results := [.lit (.bool true)], args := [d] }
  | _ => none }
def fnExactRuneOkRow : OpenClaim := { program := "ytabinkejdfaojaa", sum := "a1575e970c8125f7d4463ba242f7f894270d07210abdc965b99638ed245289e3", func := "loop.example/g00502/laws.FnExactRuneOk", spec := "fnExactRuneOk", apart := false }
def FnExactRuneOkSaid : Prop := fnExactRuneOkRow.holds Try.pinned (OpenSpec.ofChange fnExactRuneOkSpec)

/-- ITS FALSE NEIGHBOUR: 'it returns false'. Refute it at one input. -/
def fnExactRuneOkWrong : ChangeSpec := { name := "fnExactRuneOk", fn := fun _ => fun
  | [d] => { results := [.lit (.bool false)], args := [d] }
  | _ => none }
def FnExactRuneOkWrongFalsely : Prop := fnExactRuneOkRow.holds Try.pinned (OpenSpec.ofChange fnExactRuneOkWrong)

/-- 'laws.FnExactHexText': WHATEVER THE INPUT: true; the input reads as it did. -/
def fnExactHexTextSpec : ChangeSpec := { name := "fnExactHexText", fn := fun _ => fun
  | [d] => { results := [.lit (.bool true)], args := [d] }
  | _ => none }
def fnExactHexTextRow : OpenClaim := { program := "ytabinkejdfaojaa", sum := "a1575e970c8125f7d4463ba242f7f894270d07210abdc965b99638ed245289e3", func := "loop.example/g00502/laws.FnExactHexText", spec := "fnExactHexText", apart := false }
def FnExactHexTextSaid : Prop := fnExactHexTextRow.holds Try.pinned (OpenSpec.ofChange fnExactHexTextSpec)

/-- ITS FALSE NEIGHBOUR: 'it returns false'. Refute it at one input. -/
def fnExactHexTextWrong : ChangeSpec := { name := "fnExactHexText", fn := fun _ => fun
  | [d] => { results := [.lit (.bool false)], args := [d] }
  | _ => none }
def FnExactHexTextWrongFalsely : Prop := fnExactHexTextRow.holds Try.pinned (OpenSpec.ofChange fnExactHexTextWrong)

/-- 'laws.FnExactKindName': WHATEVER THE INPUT: true; the input reads as it did. -/
def fnExactKindNameSpec : ChangeSpec := { name := "fnExactKindName", fn := fun _ => fun
  | [d] => { results := [.lit (.bool true)], args := [d] }
  | _ => none }
def fnExactKindNameRow : OpenClaim := { program := "ytabinkejdfaojaa", sum := "a1575e970c8125f7d4463ba242f7f894270d07210abdc965b99638ed245289e3", func := "loop.example/g00502/laws.FnExactKindName", spec := "fnExactKindName", apart := false }
def FnExactKindNameSaid : Prop := fnExactKindNameRow.holds Try.pinned (OpenSpec.ofChange fnExactKindNameSpec)

/-- ITS FALSE NEIGHBOUR: 'it returns false'. Refute it at one input. -/
def fnExactKindNameWrong : ChangeSpec := { name := "fnExactKindName", fn := fun _ => fun
  | [d] => { results := [.lit (.bool false)], args := [d] }
  | _ => none }
def FnExactKindNameWrongFalsely : Prop := fnExactKindNameRow.holds Try.pinned (OpenSpec.ofChange fnExactKindNameWrong)

/-- 'laws.FnExactHalf': WHATEVER THE INPUT: true; the input reads as it did. -/
def fnExactHalfSpec : ChangeSpec := { name := "fnExactHalf", fn := fun _ => fun
  | [d1, d2] => { results := [.lit (.bool true)], args := [d1, d2] }
  | _ => none }
def fnExactHalfRow : OpenClaim := { program := "ytabinkejdfaojaa", sum := "a1575e970c8125f7d4463ba242f7f894270d07210abdc965b99638ed245289e3", func := "loop.example/g00502/laws.FnExactHalf", spec := "fnExactHalf", apart := false }
def FnExactHalfSaid : Prop := fnExactHalfRow.holds Try.pinned (OpenSpec.ofChange fnExactHalfSpec)

/-- ITS FALSE NEIGHBOUR: 'it returns false'. Refute it at one input. -/
def fnExactHalfWrong : ChangeSpec := { name := "fnExactHalf", fn := fun _ => fun
  | [d1, d2] => { results := [.lit (.bool false)], args := [d1, d2] }
  | _ => none }
def FnExactHalfWrongFalsely : Prop := fnExactHalfRow.holds Try.pinned (OpenSpec.ofChange fnExactHalfWrong)

/-- 'laws.FnExactWidthFor': WHATEVER THE INPUT: true; the input reads as it did. -/
def fnExactWidthForSpec : ChangeSpec := { name := "fnExactWidthFor", fn := fun _ => fun
  | [d] => { results := [.lit (.bool true)], args := [d] }
  | _ => none }
def fnExactWidthForRow : OpenClaim := { program := "ytabinkejdfaojaa", sum := "a1575e970c8125f7d4463ba242f7f894270d07210abdc965b99638ed245289e3", func := "loop.example/g00502/laws.FnExactWidthFor", spec := "fnExactWidthFor", apart := false }
def FnExactWidthForSaid : Prop := fnExactWidthForRow.holds Try.pinned (OpenSpec.ofChange fnExactWidthForSpec)

/-- ITS FALSE NEIGHBOUR: 'it returns false'. Refute it at one input. -/
def fnExactWidthForWrong : ChangeSpec := { name := "fnExactWidthFor", fn := fun _ => fun
  | [d] => { results := [.lit (.bool false)], args := [d] }
  | _ => none }
def FnExactWidthForWrongFalsely : Prop := fnExactWidthForRow.holds Try.pinned (OpenSpec.ofChange fnExactWidthForWrong)

/-- 'laws.FnExactPow': WHATEVER THE INPUT: true; the input reads as it did. -/
def fnExactPowSpec : ChangeSpec := { name := "fnExactPow", fn := fun _ => fun
  | [d1, d2] => { results := [.lit (.bool true)], args := [d1, d2] }
  | _ => none }
def fnExactPowRow : OpenClaim := { program := "ytabinkejdfaojaa", sum := "a1575e970c8125f7d4463ba242f7f894270d07210abdc965b99638ed245289e3", func := "loop.example/g00502/laws.FnExactPow", spec := "fnExactPow", apart := false }
def FnExactPowSaid : Prop := fnExactPowRow.holds Try.pinned (OpenSpec.ofChange fnExactPowSpec)

/-- ITS FALSE NEIGHBOUR: 'it returns false'. Refute it at one input. -/
def fnExactPowWrong : ChangeSpec := { name := "fnExactPow", fn := fun _ => fun
  | [d1, d2] => { results := [.lit (.bool false)], args := [d1, d2] }
  | _ => none }
def FnExactPowWrongFalsely : Prop := fnExactPowRow.holds Try.pinned (OpenSpec.ofChange fnExactPowWrong)

/-- 'laws.FnExactFltOk': WHATEVER THE INPUT: true; the input reads as it did. -/
def fnExactFltOkSpec : ChangeSpec := { name := "fnExactFltOk", fn := fun _ => fun
  | [d] => { results := [.lit (.bool true)], args := [d] }
  | _ => none }
def fnExactFltOkRow : OpenClaim := { program := "ytabinkejdfaojaa", sum := "a1575e970c8125f7d4463ba242f7f894270d07210abdc965b99638ed245289e3", func := "loop.example/g00502/laws.FnExactFltOk", spec := "fnExactFltOk", apart := false }
def FnExactFltOkSaid : Prop := fnExactFltOkRow.holds Try.pinned (OpenSpec.ofChange fnExactFltOkSpec)

/-- ITS FALSE NEIGHBOUR: 'it returns false'. Refute it at one input. -/
def fnExactFltOkWrong : ChangeSpec := { name := "fnExactFltOk", fn := fun _ => fun
  | [d] => { results := [.lit (.bool false)], args := [d] }
  | _ => none }
def FnExactFltOkWrongFalsely : Prop := fnExactFltOkRow.holds Try.pinned (OpenSpec.ofChange fnExactFltOkWrong)

/-- 'laws.FnExactParseHex': WHATEVER THE INPUT: true; the input reads as it did. -/
def fnExactParseHexSpec : ChangeSpec := { name := "fnExactParseHex", fn := fun _ => fun
  | [d] => { results := [.lit (.bool true)], args := [d] }
  | _ => none }
def fnExactParseHexRow : OpenClaim := { program := "ytabinkejdfaojaa", sum := "a1575e970c8125f7d4463ba242f7f894270d07210abdc965b99638ed245289e3", func := "loop.example/g00502/laws.FnExactParseHex", spec := "fnExactParseHex", inPlace := ["internal/bytealg.IndexByteString"], apart := false }
def FnExactParseHexSaid : Prop := fnExactParseHexRow.holds Try.pinned (OpenSpec.ofChange fnExactParseHexSpec)

/-- ITS FALSE NEIGHBOUR: 'it returns false'. Refute it at one input. -/
def fnExactParseHexWrong : ChangeSpec := { name := "fnExactParseHex", fn := fun _ => fun
  | [d] => { results := [.lit (.bool false)], args := [d] }
  | _ => none }
def FnExactParseHexWrongFalsely : Prop := fnExactParseHexRow.holds Try.pinned (OpenSpec.ofChange fnExactParseHexWrong)

/-- 'laws.FnExactWideOf': WHATEVER THE INPUT: true; the input reads as it did. -/
def fnExactWideOfSpec : ChangeSpec := { name := "fnExactWideOf", fn := fun _ => fun
  | [d] => { results := [.lit (.bool true)], args := [d] }
  | _ => none }
def fnExactWideOfRow : OpenClaim := { program := "ytabinkejdfaojaa", sum := "a1575e970c8125f7d4463ba242f7f894270d07210abdc965b99638ed245289e3", func := "loop.example/g00502/laws.FnExactWideOf", spec := "fnExactWideOf", apart := false }
def FnExactWideOfSaid : Prop := fnExactWideOfRow.holds Try.pinned (OpenSpec.ofChange fnExactWideOfSpec)

/-- ITS FALSE NEIGHBOUR: 'it returns false'. Refute it at one input. -/
def fnExactWideOfWrong : ChangeSpec := { name := "fnExactWideOf", fn := fun _ => fun
  | [d] => { results := [.lit (.bool false)], args := [d] }
  | _ => none }
def FnExactWideOfWrongFalsely : Prop := fnExactWideOfRow.holds Try.pinned (OpenSpec.ofChange fnExactWideOfWrong)

/-- 'laws.FnExactSlice': WHATEVER THE INPUT: true; the input reads as it did. -/
def fnExactSliceSpec : ChangeSpec := { name := "fnExactSlice", fn := fun _ => fun
  | [d1, d2, d3] => { results := [.lit (.bool true)], args := [d1, d2, d3] }
  | _ => none }
def fnExactSliceRow : OpenClaim := { program := "ytabinkejdfaojaa", sum := "a1575e970c8125f7d4463ba242f7f894270d07210abdc965b99638ed245289e3", func := "loop.example/g00502/laws.FnExactSlice", spec := "fnExactSlice", apart := false }
def FnExactSliceSaid : Prop := fnExactSliceRow.holds Try.pinned (OpenSpec.ofChange fnExactSliceSpec)

/-- ITS FALSE NEIGHBOUR: 'it returns false'. Refute it at one input. -/
def fnExactSliceWrong : ChangeSpec := { name := "fnExactSlice", fn := fun _ => fun
  | [d1, d2, d3] => { results := [.lit (.bool false)], args := [d1, d2, d3] }
  | _ => none }
def FnExactSliceWrongFalsely : Prop := fnExactSliceRow.holds Try.pinned (OpenSpec.ofChange fnExactSliceWrong)

/-- 'laws.FnExactBitsOf': WHATEVER THE INPUT: true; the input reads as it did. -/
def fnExactBitsOfSpec : ChangeSpec := { name := "fnExactBitsOf", fn := fun _ => fun
  | [d] => { results := [.lit (.bool true)], args := [d] }
  | _ => none }
def fnExactBitsOfRow : OpenClaim := { program := "ytabinkejdfaojaa", sum := "a1575e970c8125f7d4463ba242f7f894270d07210abdc965b99638ed245289e3", func := "loop.example/g00502/laws.FnExactBitsOf", spec := "fnExactBitsOf", apart := false }
def FnExactBitsOfSaid : Prop := fnExactBitsOfRow.holds Try.pinned (OpenSpec.ofChange fnExactBitsOfSpec)

/-- ITS FALSE NEIGHBOUR: 'it returns false'. Refute it at one input. -/
def fnExactBitsOfWrong : ChangeSpec := { name := "fnExactBitsOf", fn := fun _ => fun
  | [d] => { results := [.lit (.bool false)], args := [d] }
  | _ => none }
def FnExactBitsOfWrongFalsely : Prop := fnExactBitsOfRow.holds Try.pinned (OpenSpec.ofChange fnExactBitsOfWrong)

/- THE SECOND FORM. 'bulk': how many values and letters a reading holds, each counted each time it is reached (what is shared counts as often as it is met; a slice's spare places count too). A statement '..UptoSaid' is the law's where the arguments, and the package variables that the reading takes, are together of bulk at most 1048576: NARROWER than '..Said'. Prove '..Said' where nothing that the law and all that it calls make is longer than what came in: it says more and counts as full. Else prove '..UptoSaid'. A law counts once. -/
mutual
def uptoBulk {H : Type} : DataW H → Nat
  | .lit (.string bytes) => bytes.length + 1
  | .lit _ => 1
  | .nil => 1
  | .ptr d => uptoBulk d + 1
  | .slice elems spare => uptoBulkAll elems + uptoBulkAll spare + 1
  | .agg parts => uptoBulkAll parts + 1
  | .iface _ d => uptoBulk d + 1
  | .map entries => uptoBulkEntries entries + 1
  | .held _ => 1
def uptoBulkAll {H : Type} : List (DataW H) → Nat
  | [] => 0
  | d :: r => uptoBulk d + uptoBulkAll r
def uptoBulkEntries {H : Type} : List (Lit × DataW H) → Nat
  | [] => 0
  | x :: r => uptoBulkEntry x + uptoBulkEntries r
def uptoBulkEntry {H : Type} : Lit × DataW H → Nat
  | (.string bytes, d) => bytes.length + uptoBulk d + 1
  | (_, d) => uptoBulk d + 1
 end
def uptoSmall : (H : Type) → List (DataW H) → Bool := fun _ ds => decide (uptoBulkAll ds ≤ 1048576)
def OpenSpec.upto (s : _root_.Go.ChangeSpec) : _root_.Go.OpenSpec := { _root_.Go.OpenSpec.ofChange s with cond := some uptoSmall }

/-- 'laws.FnExactConstants', WHERE WHAT IT READS IS OF BULK AT MOST 1048576: true; the input reads as it did. -/
def fnExactConstantsUptoRow : OpenClaim := { program := "ytabinkejdfaojaa", sum := "a1575e970c8125f7d4463ba242f7f894270d07210abdc965b99638ed245289e3", func := "loop.example/g00502/laws.FnExactConstants", spec := "fnExactConstants", apart := false, narrowed := true }
def FnExactConstantsUptoSaid : Prop := fnExactConstantsUptoRow.holds Try.pinned (OpenSpec.upto fnExactConstantsSpec)

/-- 'laws.FnExactRuneOk', WHERE WHAT IT READS IS OF BULK AT MOST 1048576: true; the input reads as it did. -/
def fnExactRuneOkUptoRow : OpenClaim := { program := "ytabinkejdfaojaa", sum := "a1575e970c8125f7d4463ba242f7f894270d07210abdc965b99638ed245289e3", func := "loop.example/g00502/laws.FnExactRuneOk", spec := "fnExactRuneOk", apart := false, narrowed := true }
def FnExactRuneOkUptoSaid : Prop := fnExactRuneOkUptoRow.holds Try.pinned (OpenSpec.upto fnExactRuneOkSpec)

/-- 'laws.FnExactHexText', WHERE WHAT IT READS IS OF BULK AT MOST 1048576: true; the input reads as it did. -/
def fnExactHexTextUptoRow : OpenClaim := { program := "ytabinkejdfaojaa", sum := "a1575e970c8125f7d4463ba242f7f894270d07210abdc965b99638ed245289e3", func := "loop.example/g00502/laws.FnExactHexText", spec := "fnExactHexText", apart := false, narrowed := true }
def FnExactHexTextUptoSaid : Prop := fnExactHexTextUptoRow.holds Try.pinned (OpenSpec.upto fnExactHexTextSpec)

/-- 'laws.FnExactKindName', WHERE WHAT IT READS IS OF BULK AT MOST 1048576: true; the input reads as it did. -/
def fnExactKindNameUptoRow : OpenClaim := { program := "ytabinkejdfaojaa", sum := "a1575e970c8125f7d4463ba242f7f894270d07210abdc965b99638ed245289e3", func := "loop.example/g00502/laws.FnExactKindName", spec := "fnExactKindName", apart := false, narrowed := true }
def FnExactKindNameUptoSaid : Prop := fnExactKindNameUptoRow.holds Try.pinned (OpenSpec.upto fnExactKindNameSpec)

/-- 'laws.FnExactHalf', WHERE WHAT IT READS IS OF BULK AT MOST 1048576: true; the input reads as it did. -/
def fnExactHalfUptoRow : OpenClaim := { program := "ytabinkejdfaojaa", sum := "a1575e970c8125f7d4463ba242f7f894270d07210abdc965b99638ed245289e3", func := "loop.example/g00502/laws.FnExactHalf", spec := "fnExactHalf", apart := false, narrowed := true }
def FnExactHalfUptoSaid : Prop := fnExactHalfUptoRow.holds Try.pinned (OpenSpec.upto fnExactHalfSpec)

/-- 'laws.FnExactWidthFor', WHERE WHAT IT READS IS OF BULK AT MOST 1048576: true; the input reads as it did. -/
def fnExactWidthForUptoRow : OpenClaim := { program := "ytabinkejdfaojaa", sum := "a1575e970c8125f7d4463ba242f7f894270d07210abdc965b99638ed245289e3", func := "loop.example/g00502/laws.FnExactWidthFor", spec := "fnExactWidthFor", apart := false, narrowed := true }
def FnExactWidthForUptoSaid : Prop := fnExactWidthForUptoRow.holds Try.pinned (OpenSpec.upto fnExactWidthForSpec)

/-- 'laws.FnExactPow', WHERE WHAT IT READS IS OF BULK AT MOST 1048576: true; the input reads as it did. -/
def fnExactPowUptoRow : OpenClaim := { program := "ytabinkejdfaojaa", sum := "a1575e970c8125f7d4463ba242f7f894270d07210abdc965b99638ed245289e3", func := "loop.example/g00502/laws.FnExactPow", spec := "fnExactPow", apart := false, narrowed := true }
def FnExactPowUptoSaid : Prop := fnExactPowUptoRow.holds Try.pinned (OpenSpec.upto fnExactPowSpec)

/-- 'laws.FnExactFltOk', WHERE WHAT IT READS IS OF BULK AT MOST 1048576: true; the input reads as it did. -/
def fnExactFltOkUptoRow : OpenClaim := { program := "ytabinkejdfaojaa", sum := "a1575e970c8125f7d4463ba242f7f894270d07210abdc965b99638ed245289e3", func := "loop.example/g00502/laws.FnExactFltOk", spec := "fnExactFltOk", apart := false, narrowed := true }
def FnExactFltOkUptoSaid : Prop := fnExactFltOkUptoRow.holds Try.pinned (OpenSpec.upto fnExactFltOkSpec)

/-- 'laws.FnExactParseHex', WHERE WHAT IT READS IS OF BULK AT MOST 1048576: true; the input reads as it did. -/
def fnExactParseHexUptoRow : OpenClaim := { program := "ytabinkejdfaojaa", sum := "a1575e970c8125f7d4463ba242f7f894270d07210abdc965b99638ed245289e3", func := "loop.example/g00502/laws.FnExactParseHex", spec := "fnExactParseHex", inPlace := ["internal/bytealg.IndexByteString"], apart := false, narrowed := true }
def FnExactParseHexUptoSaid : Prop := fnExactParseHexUptoRow.holds Try.pinned (OpenSpec.upto fnExactParseHexSpec)

/-- 'laws.FnExactWideOf', WHERE WHAT IT READS IS OF BULK AT MOST 1048576: true; the input reads as it did. -/
def fnExactWideOfUptoRow : OpenClaim := { program := "ytabinkejdfaojaa", sum := "a1575e970c8125f7d4463ba242f7f894270d07210abdc965b99638ed245289e3", func := "loop.example/g00502/laws.FnExactWideOf", spec := "fnExactWideOf", apart := false, narrowed := true }
def FnExactWideOfUptoSaid : Prop := fnExactWideOfUptoRow.holds Try.pinned (OpenSpec.upto fnExactWideOfSpec)

/-- 'laws.FnExactSlice', WHERE WHAT IT READS IS OF BULK AT MOST 1048576: true; the input reads as it did. -/
def fnExactSliceUptoRow : OpenClaim := { program := "ytabinkejdfaojaa", sum := "a1575e970c8125f7d4463ba242f7f894270d07210abdc965b99638ed245289e3", func := "loop.example/g00502/laws.FnExactSlice", spec := "fnExactSlice", apart := false, narrowed := true }
def FnExactSliceUptoSaid : Prop := fnExactSliceUptoRow.holds Try.pinned (OpenSpec.upto fnExactSliceSpec)

/-- 'laws.FnExactBitsOf', WHERE WHAT IT READS IS OF BULK AT MOST 1048576: true; the input reads as it did. -/
def fnExactBitsOfUptoRow : OpenClaim := { program := "ytabinkejdfaojaa", sum := "a1575e970c8125f7d4463ba242f7f894270d07210abdc965b99638ed245289e3", func := "loop.example/g00502/laws.FnExactBitsOf", spec := "fnExactBitsOf", apart := false, narrowed := true }
def FnExactBitsOfUptoSaid : Prop := fnExactBitsOfUptoRow.holds Try.pinned (OpenSpec.upto fnExactBitsOfSpec)

end Rows
end Go.Proofs.Ytabinkejdfaojaa
