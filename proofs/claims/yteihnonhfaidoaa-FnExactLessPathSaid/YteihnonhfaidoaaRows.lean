/-
  No cell of these rows narrows 'for every input' (looked for: loops, veiled, ifaces, maps, wideKeys, modest, calm, conditions, laid).
  DERIVED. THE GIVEN ROWS OF THIS SEAT. 9 by the template 'for every input the law returns true; each argument reads behind the call as it read before'; 0 by the template 'total and deterministic' (their statements: YteihnonhfaidoaaTotals.lean).
  GIVEN WITH THE SEED: the statements are not yours to turn. If you find one false, say at which input.
  Laid BY PROGRAM, IN A SANDBOX (cutbox-rows.mjs): the forced cells as the released guide's own fill.sh prints them over the translation dc38eb10a894a265… (all of the seat's roots in one cut). By AI agents, Wed Nov 11 2026. No macro, syntax, notation, axiom, sorry.
-/
import Derived.Test.YteihnonhfaidoaaChecked
import GoSem.Claim
import GoSem.ClaimJoined
import GoSem.ClaimMapViews
import Derived.JoinedTies
import Derived.KernelRfl
namespace Go.Proofs.Yteihnonhfaidoaa
/- THE CELL 'sum', in the pinned program and in every row, IS THE sha256 OF THE DUMP (.gsa) THAT YteihnonhfaidoaaProg.lean LOADS. Nothing in Lean hashes anything: it is a label: what it is worth is what the hold of that sum in a sandbox is worth. -/
noncomputable def Try.pinned : Pinned := { name := "yteihnonhfaidoaa", sum := "dc38eb10a894a265d771cf325ce9d646adbb9c2f3fa8656727065ab3b482a649", checked := Try.checked }
namespace Rows
def none {H : Type} : Left H := { results := [], args := [] }

/-- 'laws.FnExactGetBig': WHATEVER THE INPUT: true; the input reads as it did. -/
def fnExactGetBigSpec : ChangeSpec := { name := "fnExactGetBig", fn := fun _ => fun
  | [d1, d2, d3] => { results := [.lit (.bool true)], args := [d1, d2, d3] }
  | _ => none }
def fnExactGetBigRow : OpenClaim := { program := "yteihnonhfaidoaa", sum := "dc38eb10a894a265d771cf325ce9d646adbb9c2f3fa8656727065ab3b482a649", func := "loop.example/g00502/laws.FnExactGetBig", spec := "fnExactGetBig", apart := false }
def FnExactGetBigSaid : Prop := fnExactGetBigRow.holds Try.pinned (OpenSpec.ofChange fnExactGetBigSpec)

/-- ITS FALSE NEIGHBOUR: 'it returns false'. Refute it at one input. -/
def fnExactGetBigWrong : ChangeSpec := { name := "fnExactGetBig", fn := fun _ => fun
  | [d1, d2, d3] => { results := [.lit (.bool false)], args := [d1, d2, d3] }
  | _ => none }
def FnExactGetBigWrongFalsely : Prop := fnExactGetBigRow.holds Try.pinned (OpenSpec.ofChange fnExactGetBigWrong)

/-- 'laws.FnExactLessPath': WHATEVER THE INPUT: true; the input reads as it did. -/
def fnExactLessPathSpec : ChangeSpec := { name := "fnExactLessPath", fn := fun _ => fun
  | [d1, d2] => { results := [.lit (.bool true)], args := [d1, d2] }
  | _ => none }
def fnExactLessPathRow : OpenClaim := { program := "yteihnonhfaidoaa", sum := "dc38eb10a894a265d771cf325ce9d646adbb9c2f3fa8656727065ab3b482a649", func := "loop.example/g00502/laws.FnExactLessPath", spec := "fnExactLessPath", apart := false }
def FnExactLessPathSaid : Prop := fnExactLessPathRow.holds Try.pinned (OpenSpec.ofChange fnExactLessPathSpec)

/-- ITS FALSE NEIGHBOUR: 'it returns false'. Refute it at one input. -/
def fnExactLessPathWrong : ChangeSpec := { name := "fnExactLessPath", fn := fun _ => fun
  | [d1, d2] => { results := [.lit (.bool false)], args := [d1, d2] }
  | _ => none }
def FnExactLessPathWrongFalsely : Prop := fnExactLessPathRow.holds Try.pinned (OpenSpec.ofChange fnExactLessPathWrong)

/-- 'laws.FnExactPutBig': WHATEVER THE INPUT: true; the input reads as it did. -/
def fnExactPutBigSpec : ChangeSpec := { name := "fnExactPutBig", fn := fun _ => fun
  | [d1, d2, d3] => { results := [.lit (.bool true)], args := [d1, d2, d3] }
  | _ => none }
def fnExactPutBigRow : OpenClaim := { program := "yteihnonhfaidoaa", sum := "dc38eb10a894a265d771cf325ce9d646adbb9c2f3fa8656727065ab3b482a649", func := "loop.example/g00502/laws.FnExactPutBig", spec := "fnExactPutBig", apart := false }
def FnExactPutBigSaid : Prop := fnExactPutBigRow.holds Try.pinned (OpenSpec.ofChange fnExactPutBigSpec)

/-- ITS FALSE NEIGHBOUR: 'it returns false'. Refute it at one input. -/
def fnExactPutBigWrong : ChangeSpec := { name := "fnExactPutBig", fn := fun _ => fun
  | [d1, d2, d3] => { results := [.lit (.bool false)], args := [d1, d2, d3] }
  | _ => none }
def FnExactPutBigWrongFalsely : Prop := fnExactPutBigRow.holds Try.pinned (OpenSpec.ofChange fnExactPutBigWrong)

/-- 'laws.FnExactFltNew': WHATEVER THE INPUT: true; the input reads as it did. -/
def fnExactFltNewSpec : ChangeSpec := { name := "fnExactFltNew", fn := fun _ => fun
  | [d1, d2] => { results := [.lit (.bool true)], args := [d1, d2] }
  | _ => none }
def fnExactFltNewRow : OpenClaim := { program := "yteihnonhfaidoaa", sum := "dc38eb10a894a265d771cf325ce9d646adbb9c2f3fa8656727065ab3b482a649", func := "loop.example/g00502/laws.FnExactFltNew", spec := "fnExactFltNew", apart := false }
def FnExactFltNewSaid : Prop := fnExactFltNewRow.holds Try.pinned (OpenSpec.ofChange fnExactFltNewSpec)

/-- ITS FALSE NEIGHBOUR: 'it returns false'. Refute it at one input. -/
def fnExactFltNewWrong : ChangeSpec := { name := "fnExactFltNew", fn := fun _ => fun
  | [d1, d2] => { results := [.lit (.bool false)], args := [d1, d2] }
  | _ => none }
def FnExactFltNewWrongFalsely : Prop := fnExactFltNewRow.holds Try.pinned (OpenSpec.ofChange fnExactFltNewWrong)

/-- 'laws.FnExactFromRunes': WHATEVER THE INPUT: true; the input reads as it did. -/
def fnExactFromRunesSpec : ChangeSpec := { name := "fnExactFromRunes", fn := fun _ => fun
  | [d] => { results := [.lit (.bool true)], args := [d] }
  | _ => none }
def fnExactFromRunesRow : OpenClaim := { program := "yteihnonhfaidoaa", sum := "dc38eb10a894a265d771cf325ce9d646adbb9c2f3fa8656727065ab3b482a649", func := "loop.example/g00502/laws.FnExactFromRunes", spec := "fnExactFromRunes", apart := false }
def FnExactFromRunesSaid : Prop := fnExactFromRunesRow.holds Try.pinned (OpenSpec.ofChange fnExactFromRunesSpec)

/-- ITS FALSE NEIGHBOUR: 'it returns false'. Refute it at one input. -/
def fnExactFromRunesWrong : ChangeSpec := { name := "fnExactFromRunes", fn := fun _ => fun
  | [d] => { results := [.lit (.bool false)], args := [d] }
  | _ => none }
def FnExactFromRunesWrongFalsely : Prop := fnExactFromRunesRow.holds Try.pinned (OpenSpec.ofChange fnExactFromRunesWrong)

/-- 'laws.FnExactIntVal': WHATEVER THE INPUT: true; the input reads as it did. -/
def fnExactIntValSpec : ChangeSpec := { name := "fnExactIntVal", fn := fun _ => fun
  | [d] => { results := [.lit (.bool true)], args := [d] }
  | _ => none }
def fnExactIntValRow : OpenClaim := { program := "yteihnonhfaidoaa", sum := "dc38eb10a894a265d771cf325ce9d646adbb9c2f3fa8656727065ab3b482a649", func := "loop.example/g00502/laws.FnExactIntVal", spec := "fnExactIntVal", recurses := true, apart := false }
def FnExactIntValSaid : Prop := fnExactIntValRow.holds Try.pinned (OpenSpec.ofChange fnExactIntValSpec)

/-- ITS FALSE NEIGHBOUR: 'it returns false'. Refute it at one input. -/
def fnExactIntValWrong : ChangeSpec := { name := "fnExactIntVal", fn := fun _ => fun
  | [d] => { results := [.lit (.bool false)], args := [d] }
  | _ => none }
def FnExactIntValWrongFalsely : Prop := fnExactIntValRow.holds Try.pinned (OpenSpec.ofChange fnExactIntValWrong)

/-- 'laws.FnExactTextVal': WHATEVER THE INPUT: true; the input reads as it did. -/
def fnExactTextValSpec : ChangeSpec := { name := "fnExactTextVal", fn := fun _ => fun
  | [d] => { results := [.lit (.bool true)], args := [d] }
  | _ => none }
def fnExactTextValRow : OpenClaim := { program := "yteihnonhfaidoaa", sum := "dc38eb10a894a265d771cf325ce9d646adbb9c2f3fa8656727065ab3b482a649", func := "loop.example/g00502/laws.FnExactTextVal", spec := "fnExactTextVal", recurses := true, apart := false }
def FnExactTextValSaid : Prop := fnExactTextValRow.holds Try.pinned (OpenSpec.ofChange fnExactTextValSpec)

/-- ITS FALSE NEIGHBOUR: 'it returns false'. Refute it at one input. -/
def fnExactTextValWrong : ChangeSpec := { name := "fnExactTextVal", fn := fun _ => fun
  | [d] => { results := [.lit (.bool false)], args := [d] }
  | _ => none }
def FnExactTextValWrongFalsely : Prop := fnExactTextValRow.holds Try.pinned (OpenSpec.ofChange fnExactTextValWrong)

/-- 'laws.FnExactPutRune': WHATEVER THE INPUT: true; the input reads as it did. -/
def fnExactPutRuneSpec : ChangeSpec := { name := "fnExactPutRune", fn := fun _ => fun
  | [d1, d2] => { results := [.lit (.bool true)], args := [d1, d2] }
  | _ => none }
def fnExactPutRuneRow : OpenClaim := { program := "yteihnonhfaidoaa", sum := "dc38eb10a894a265d771cf325ce9d646adbb9c2f3fa8656727065ab3b482a649", func := "loop.example/g00502/laws.FnExactPutRune", spec := "fnExactPutRune", apart := false }
def FnExactPutRuneSaid : Prop := fnExactPutRuneRow.holds Try.pinned (OpenSpec.ofChange fnExactPutRuneSpec)

/-- ITS FALSE NEIGHBOUR: 'it returns false'. Refute it at one input. -/
def fnExactPutRuneWrong : ChangeSpec := { name := "fnExactPutRune", fn := fun _ => fun
  | [d1, d2] => { results := [.lit (.bool false)], args := [d1, d2] }
  | _ => none }
def FnExactPutRuneWrongFalsely : Prop := fnExactPutRuneRow.holds Try.pinned (OpenSpec.ofChange fnExactPutRuneWrong)

/-- 'laws.FnExactNumberVal': WHATEVER THE INPUT: true; the input reads as it did. -/
def fnExactNumberValSpec : ChangeSpec := { name := "fnExactNumberVal", fn := fun _ => fun
  | [d] => { results := [.lit (.bool true)], args := [d] }
  | _ => none }
def fnExactNumberValRow : OpenClaim := { program := "yteihnonhfaidoaa", sum := "dc38eb10a894a265d771cf325ce9d646adbb9c2f3fa8656727065ab3b482a649", func := "loop.example/g00502/laws.FnExactNumberVal", spec := "fnExactNumberVal", recurses := true, apart := false }
def FnExactNumberValSaid : Prop := fnExactNumberValRow.holds Try.pinned (OpenSpec.ofChange fnExactNumberValSpec)

/-- ITS FALSE NEIGHBOUR: 'it returns false'. Refute it at one input. -/
def fnExactNumberValWrong : ChangeSpec := { name := "fnExactNumberVal", fn := fun _ => fun
  | [d] => { results := [.lit (.bool false)], args := [d] }
  | _ => none }
def FnExactNumberValWrongFalsely : Prop := fnExactNumberValRow.holds Try.pinned (OpenSpec.ofChange fnExactNumberValWrong)

/- THE SECOND FORM. 'bulk': how many values and letters a reading holds, each counted each time it is reached (what is shared counts as often as it is met; a slice's spare places count too). A statement '..UptoSaid' is the law's where the arguments, and the package variables that the reading takes, are together of bulk at most 1048576: NARROWER than '..Said'. Prove '..Said' where nothing that the law and all that it calls make is longer than what came in: it says more and counts as full. Else prove '..UptoSaid'. A law counts once. -/
mutual
def uptoBulk {H : Type} : DataW H → Nat
  | .lit (.string bytes) => bytes.length + 1
  | .lit _ => 1
  | .nil => 1
  | .ptr d => uptoBulk d + 1
  | .slice elems spare => uptoBulkAll elems + uptoBulkAll spare + 1
  | .agg parts => uptoBulkAll parts + 1
  | .iface _ d => uptoBulk d + 1
  | .map entries => uptoBulkEntries entries + 1
  | .held _ => 1
def uptoBulkAll {H : Type} : List (DataW H) → Nat
  | [] => 0
  | d :: r => uptoBulk d + uptoBulkAll r
def uptoBulkEntries {H : Type} : List (Lit × DataW H) → Nat
  | [] => 0
  | x :: r => uptoBulkEntry x + uptoBulkEntries r
def uptoBulkEntry {H : Type} : Lit × DataW H → Nat
  | (.string bytes, d) => bytes.length + uptoBulk d + 1
  | (_, d) => uptoBulk d + 1
 end
def uptoSmall : (H : Type) → List (DataW H) → Bool := fun _ ds => decide (uptoBulkAll ds ≤ 1048576)
def OpenSpec.upto (s : _root_.Go.ChangeSpec) : _root_.Go.OpenSpec := { _root_.Go.OpenSpec.ofChange s with cond := some uptoSmall }

/-- 'laws.FnExactGetBig', WHERE WHAT IT READS IS OF BULK AT MOST 1048576: true; the input reads as it did. -/
def fnExactGetBigUptoRow : OpenClaim := { program := "yteihnonhfaidoaa", sum := "dc38eb10a894a265d771cf325ce9d646adbb9c2f3fa8656727065ab3b482a649", func := "loop.example/g00502/laws.FnExactGetBig", spec := "fnExactGetBig", apart := false, narrowed := true }
def FnExactGetBigUptoSaid : Prop := fnExactGetBigUptoRow.holds Try.pinned (OpenSpec.upto fnExactGetBigSpec)

/-- 'laws.FnExactLessPath', WHERE WHAT IT READS IS OF BULK AT MOST 1048576: true; the input reads as it did. -/
def fnExactLessPathUptoRow : OpenClaim := { program := "yteihnonhfaidoaa", sum := "dc38eb10a894a265d771cf325ce9d646adbb9c2f3fa8656727065ab3b482a649", func := "loop.example/g00502/laws.FnExactLessPath", spec := "fnExactLessPath", apart := false, narrowed := true }
def FnExactLessPathUptoSaid : Prop := fnExactLessPathUptoRow.holds Try.pinned (OpenSpec.upto fnExactLessPathSpec)

/-- 'laws.FnExactPutBig', WHERE WHAT IT READS IS OF BULK AT MOST 1048576: true; the input reads as it did. -/
def fnExactPutBigUptoRow : OpenClaim := { program := "yteihnonhfaidoaa", sum := "dc38eb10a894a265d771cf325ce9d646adbb9c2f3fa8656727065ab3b482a649", func := "loop.example/g00502/laws.FnExactPutBig", spec := "fnExactPutBig", apart := false, narrowed := true }
def FnExactPutBigUptoSaid : Prop := fnExactPutBigUptoRow.holds Try.pinned (OpenSpec.upto fnExactPutBigSpec)

/-- 'laws.FnExactFltNew', WHERE WHAT IT READS IS OF BULK AT MOST 1048576: true; the input reads as it did. -/
def fnExactFltNewUptoRow : OpenClaim := { program := "yteihnonhfaidoaa", sum := "dc38eb10a894a265d771cf325ce9d646adbb9c2f3fa8656727065ab3b482a649", func := "loop.example/g00502/laws.FnExactFltNew", spec := "fnExactFltNew", apart := false, narrowed := true }
def FnExactFltNewUptoSaid : Prop := fnExactFltNewUptoRow.holds Try.pinned (OpenSpec.upto fnExactFltNewSpec)

/-- 'laws.FnExactFromRunes', WHERE WHAT IT READS IS OF BULK AT MOST 1048576: true; the input reads as it did. -/
def fnExactFromRunesUptoRow : OpenClaim := { program := "yteihnonhfaidoaa", sum := "dc38eb10a894a265d771cf325ce9d646adbb9c2f3fa8656727065ab3b482a649", func := "loop.example/g00502/laws.FnExactFromRunes", spec := "fnExactFromRunes", apart := false, narrowed := true }
def FnExactFromRunesUptoSaid : Prop := fnExactFromRunesUptoRow.holds Try.pinned (OpenSpec.upto fnExactFromRunesSpec)

/-- 'laws.FnExactIntVal', WHERE WHAT IT READS IS OF BULK AT MOST 1048576: true; the input reads as it did. -/
def fnExactIntValUptoRow : OpenClaim := { program := "yteihnonhfaidoaa", sum := "dc38eb10a894a265d771cf325ce9d646adbb9c2f3fa8656727065ab3b482a649", func := "loop.example/g00502/laws.FnExactIntVal", spec := "fnExactIntVal", recurses := true, apart := false, narrowed := true }
def FnExactIntValUptoSaid : Prop := fnExactIntValUptoRow.holds Try.pinned (OpenSpec.upto fnExactIntValSpec)

/-- 'laws.FnExactTextVal', WHERE WHAT IT READS IS OF BULK AT MOST 1048576: true; the input reads as it did. -/
def fnExactTextValUptoRow : OpenClaim := { program := "yteihnonhfaidoaa", sum := "dc38eb10a894a265d771cf325ce9d646adbb9c2f3fa8656727065ab3b482a649", func := "loop.example/g00502/laws.FnExactTextVal", spec := "fnExactTextVal", recurses := true, apart := false, narrowed := true }
def FnExactTextValUptoSaid : Prop := fnExactTextValUptoRow.holds Try.pinned (OpenSpec.upto fnExactTextValSpec)

/-- 'laws.FnExactPutRune', WHERE WHAT IT READS IS OF BULK AT MOST 1048576: true; the input reads as it did. -/
def fnExactPutRuneUptoRow : OpenClaim := { program := "yteihnonhfaidoaa", sum := "dc38eb10a894a265d771cf325ce9d646adbb9c2f3fa8656727065ab3b482a649", func := "loop.example/g00502/laws.FnExactPutRune", spec := "fnExactPutRune", apart := false, narrowed := true }
def FnExactPutRuneUptoSaid : Prop := fnExactPutRuneUptoRow.holds Try.pinned (OpenSpec.upto fnExactPutRuneSpec)

/-- 'laws.FnExactNumberVal', WHERE WHAT IT READS IS OF BULK AT MOST 1048576: true; the input reads as it did. -/
def fnExactNumberValUptoRow : OpenClaim := { program := "yteihnonhfaidoaa", sum := "dc38eb10a894a265d771cf325ce9d646adbb9c2f3fa8656727065ab3b482a649", func := "loop.example/g00502/laws.FnExactNumberVal", spec := "fnExactNumberVal", recurses := true, apart := false, narrowed := true }
def FnExactNumberValUptoSaid : Prop := fnExactNumberValUptoRow.holds Try.pinned (OpenSpec.upto fnExactNumberValSpec)

end Rows
end Go.Proofs.Yteihnonhfaidoaa
