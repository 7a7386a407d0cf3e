/-
  NARROWER THAN 'FOR EVERY INPUT', by the rows' own cells (each row's printed sentence says how): FnExactCountOf: loops · FnExactDeepOf: loops · FnExactSameVal: loops · FnExactOnceEach: loops · FnExactListVal: loops · FnExactNamesOf: loops · FnExactLookup: loops · FnExactStepVal: loops.
  DERIVED. THE GIVEN ROWS OF THIS SEAT. 8 by the template 'for every input the law returns true; each argument reads behind the call as it read before'; 0 by the template 'total and deterministic' (their statements: YtjkjfdhbbblffaaTotals.lean).
  GIVEN WITH THE SEED: the statements are not yours to turn. If you find one false, say at which input.
  Laid BY PROGRAM, IN A SANDBOX (cutbox-rows.mjs): the forced cells as the released guide's own fill.sh prints them over the translation 597efd91d60980d4… (all of the seat's roots in one cut). By AI agents, Wed Nov 11 2026. No macro, syntax, notation, axiom, sorry.
-/
import Derived.Test.YtjkjfdhbbblffaaChecked
import GoSem.Claim
import GoSem.ClaimJoined
import GoSem.ClaimMapViews
import Derived.JoinedTies
import Derived.KernelRfl
namespace Go.Proofs.Ytjkjfdhbbblffaa
/- THE CELL 'sum', in the pinned program and in every row, IS THE sha256 OF THE DUMP (.gsa) THAT YtjkjfdhbbblffaaProg.lean LOADS. Nothing in Lean hashes anything: it is a label: what it is worth is what the hold of that sum in a sandbox is worth. -/
noncomputable def Try.pinned : Pinned := { name := "ytjkjfdhbbblffaa", sum := "597efd91d60980d412f5b82791b790236501b13e9c8bad299935dbadbf70c9c4", checked := Try.checked }
namespace Rows
def none {H : Type} : Left H := { results := [], args := [] }

/-- 'laws.FnExactCountOf': WHATEVER THE INPUT: true; the input reads as it did. -/
def fnExactCountOfSpec : ChangeSpec := { name := "fnExactCountOf", fn := fun _ => fun
  | [d] => { results := [.lit (.bool true)], args := [d] }
  | _ => none }
def fnExactCountOfRow : OpenClaim := { program := "ytjkjfdhbbblffaa", sum := "597efd91d60980d412f5b82791b790236501b13e9c8bad299935dbadbf70c9c4", func := "loop.example/g00502/laws.FnExactCountOf", spec := "fnExactCountOf", recurses := true, loops := true, apart := false }
def FnExactCountOfSaid : Prop := fnExactCountOfRow.holds Try.pinned (OpenSpec.ofChange fnExactCountOfSpec)

/-- ITS FALSE NEIGHBOUR: 'it returns false'. Refute it at one input. -/
def fnExactCountOfWrong : ChangeSpec := { name := "fnExactCountOf", fn := fun _ => fun
  | [d] => { results := [.lit (.bool false)], args := [d] }
  | _ => none }
def FnExactCountOfWrongFalsely : Prop := fnExactCountOfRow.holds Try.pinned (OpenSpec.ofChange fnExactCountOfWrong)

/-- 'laws.FnExactDeepOf': WHATEVER THE INPUT: true; the input reads as it did. -/
def fnExactDeepOfSpec : ChangeSpec := { name := "fnExactDeepOf", fn := fun _ => fun
  | [d] => { results := [.lit (.bool true)], args := [d] }
  | _ => none }
def fnExactDeepOfRow : OpenClaim := { program := "ytjkjfdhbbblffaa", sum := "597efd91d60980d412f5b82791b790236501b13e9c8bad299935dbadbf70c9c4", func := "loop.example/g00502/laws.FnExactDeepOf", spec := "fnExactDeepOf", recurses := true, loops := true, apart := false }
def FnExactDeepOfSaid : Prop := fnExactDeepOfRow.holds Try.pinned (OpenSpec.ofChange fnExactDeepOfSpec)

/-- ITS FALSE NEIGHBOUR: 'it returns false'. Refute it at one input. -/
def fnExactDeepOfWrong : ChangeSpec := { name := "fnExactDeepOf", fn := fun _ => fun
  | [d] => { results := [.lit (.bool false)], args := [d] }
  | _ => none }
def FnExactDeepOfWrongFalsely : Prop := fnExactDeepOfRow.holds Try.pinned (OpenSpec.ofChange fnExactDeepOfWrong)

/-- 'laws.FnExactSameVal': WHATEVER THE INPUT: true; the input reads as it did. -/
def fnExactSameValSpec : ChangeSpec := { name := "fnExactSameVal", fn := fun _ => fun
  | [d1, d2] => { results := [.lit (.bool true)], args := [d1, d2] }
  | _ => none }
def fnExactSameValRow : OpenClaim := { program := "ytjkjfdhbbblffaa", sum := "597efd91d60980d412f5b82791b790236501b13e9c8bad299935dbadbf70c9c4", func := "loop.example/g00502/laws.FnExactSameVal", spec := "fnExactSameVal", unfollowed := true, recurses := true, loops := true, apart := false }
def FnExactSameValSaid : Prop := fnExactSameValRow.holds Try.pinned (OpenSpec.ofChange fnExactSameValSpec)

/-- ITS FALSE NEIGHBOUR: 'it returns false'. Refute it at one input. -/
def fnExactSameValWrong : ChangeSpec := { name := "fnExactSameVal", fn := fun _ => fun
  | [d1, d2] => { results := [.lit (.bool false)], args := [d1, d2] }
  | _ => none }
def FnExactSameValWrongFalsely : Prop := fnExactSameValRow.holds Try.pinned (OpenSpec.ofChange fnExactSameValWrong)

/-- 'laws.FnExactOnceEach': WHATEVER THE INPUT: true; the input reads as it did. -/
def fnExactOnceEachSpec : ChangeSpec := { name := "fnExactOnceEach", fn := fun _ => fun
  | [d] => { results := [.lit (.bool true)], args := [d] }
  | _ => none }
def fnExactOnceEachRow : OpenClaim := { program := "ytjkjfdhbbblffaa", sum := "597efd91d60980d412f5b82791b790236501b13e9c8bad299935dbadbf70c9c4", func := "loop.example/g00502/laws.FnExactOnceEach", spec := "fnExactOnceEach", unfollowed := true, recurses := true, loops := true, apart := false }
def FnExactOnceEachSaid : Prop := fnExactOnceEachRow.holds Try.pinned (OpenSpec.ofChange fnExactOnceEachSpec)

/-- ITS FALSE NEIGHBOUR: 'it returns false'. Refute it at one input. -/
def fnExactOnceEachWrong : ChangeSpec := { name := "fnExactOnceEach", fn := fun _ => fun
  | [d] => { results := [.lit (.bool false)], args := [d] }
  | _ => none }
def FnExactOnceEachWrongFalsely : Prop := fnExactOnceEachRow.holds Try.pinned (OpenSpec.ofChange fnExactOnceEachWrong)

/-- 'laws.FnExactListVal': WHATEVER THE INPUT: true; the input reads as it did. -/
def fnExactListValSpec : ChangeSpec := { name := "fnExactListVal", fn := fun _ => fun
  | [d] => { results := [.lit (.bool true)], args := [d] }
  | _ => none }
def fnExactListValRow : OpenClaim := { program := "ytjkjfdhbbblffaa", sum := "597efd91d60980d412f5b82791b790236501b13e9c8bad299935dbadbf70c9c4", func := "loop.example/g00502/laws.FnExactListVal", spec := "fnExactListVal", recurses := true, loops := true, apart := false }
def FnExactListValSaid : Prop := fnExactListValRow.holds Try.pinned (OpenSpec.ofChange fnExactListValSpec)

/-- ITS FALSE NEIGHBOUR: 'it returns false'. Refute it at one input. -/
def fnExactListValWrong : ChangeSpec := { name := "fnExactListVal", fn := fun _ => fun
  | [d] => { results := [.lit (.bool false)], args := [d] }
  | _ => none }
def FnExactListValWrongFalsely : Prop := fnExactListValRow.holds Try.pinned (OpenSpec.ofChange fnExactListValWrong)

/-- 'laws.FnExactNamesOf': WHATEVER THE INPUT: true; the input reads as it did. -/
def fnExactNamesOfSpec : ChangeSpec := { name := "fnExactNamesOf", fn := fun _ => fun
  | [d] => { results := [.lit (.bool true)], args := [d] }
  | _ => none }
def fnExactNamesOfRow : OpenClaim := { program := "ytjkjfdhbbblffaa", sum := "597efd91d60980d412f5b82791b790236501b13e9c8bad299935dbadbf70c9c4", func := "loop.example/g00502/laws.FnExactNamesOf", spec := "fnExactNamesOf", recurses := true, loops := true, apart := false }
def FnExactNamesOfSaid : Prop := fnExactNamesOfRow.holds Try.pinned (OpenSpec.ofChange fnExactNamesOfSpec)

/-- ITS FALSE NEIGHBOUR: 'it returns false'. Refute it at one input. -/
def fnExactNamesOfWrong : ChangeSpec := { name := "fnExactNamesOf", fn := fun _ => fun
  | [d] => { results := [.lit (.bool false)], args := [d] }
  | _ => none }
def FnExactNamesOfWrongFalsely : Prop := fnExactNamesOfRow.holds Try.pinned (OpenSpec.ofChange fnExactNamesOfWrong)

/-- 'laws.FnExactLookup': WHATEVER THE INPUT: true; the input reads as it did. -/
def fnExactLookupSpec : ChangeSpec := { name := "fnExactLookup", fn := fun _ => fun
  | [d1, d2] => { results := [.lit (.bool true)], args := [d1, d2] }
  | _ => none }
def fnExactLookupRow : OpenClaim := { program := "ytjkjfdhbbblffaa", sum := "597efd91d60980d412f5b82791b790236501b13e9c8bad299935dbadbf70c9c4", func := "loop.example/g00502/laws.FnExactLookup", spec := "fnExactLookup", unfollowed := true, recurses := true, loops := true, apart := false }
def FnExactLookupSaid : Prop := fnExactLookupRow.holds Try.pinned (OpenSpec.ofChange fnExactLookupSpec)

/-- ITS FALSE NEIGHBOUR: 'it returns false'. Refute it at one input. -/
def fnExactLookupWrong : ChangeSpec := { name := "fnExactLookup", fn := fun _ => fun
  | [d1, d2] => { results := [.lit (.bool false)], args := [d1, d2] }
  | _ => none }
def FnExactLookupWrongFalsely : Prop := fnExactLookupRow.holds Try.pinned (OpenSpec.ofChange fnExactLookupWrong)

/-- 'laws.FnExactStepVal': WHATEVER THE INPUT: true; the input reads as it did. -/
def fnExactStepValSpec : ChangeSpec := { name := "fnExactStepVal", fn := fun _ => fun
  | [d1, d2] => { results := [.lit (.bool true)], args := [d1, d2] }
  | _ => none }
def fnExactStepValRow : OpenClaim := { program := "ytjkjfdhbbblffaa", sum := "597efd91d60980d412f5b82791b790236501b13e9c8bad299935dbadbf70c9c4", func := "loop.example/g00502/laws.FnExactStepVal", spec := "fnExactStepVal", recurses := true, loops := true, apart := false }
def FnExactStepValSaid : Prop := fnExactStepValRow.holds Try.pinned (OpenSpec.ofChange fnExactStepValSpec)

/-- ITS FALSE NEIGHBOUR: 'it returns false'. Refute it at one input. -/
def fnExactStepValWrong : ChangeSpec := { name := "fnExactStepVal", fn := fun _ => fun
  | [d1, d2] => { results := [.lit (.bool false)], args := [d1, d2] }
  | _ => none }
def FnExactStepValWrongFalsely : Prop := fnExactStepValRow.holds Try.pinned (OpenSpec.ofChange fnExactStepValWrong)

/- THE SECOND FORM. 'bulk': how many values and letters a reading holds, each counted each time it is reached (what is shared counts as often as it is met; a slice's spare places count too). A statement '..UptoSaid' is the law's where the arguments, and the package variables that the reading takes, are together of bulk at most 1048576: NARROWER than '..Said'. Prove '..Said' where nothing that the law and all that it calls make is longer than what came in: it says more and counts as full. Else prove '..UptoSaid'. A law counts once. -/
mutual
def uptoBulk {H : Type} : DataW H → Nat
  | .lit (.string bytes) => bytes.length + 1
  | .lit _ => 1
  | .nil => 1
  | .ptr d => uptoBulk d + 1
  | .slice elems spare => uptoBulkAll elems + uptoBulkAll spare + 1
  | .agg parts => uptoBulkAll parts + 1
  | .iface _ d => uptoBulk d + 1
  | .map entries => uptoBulkEntries entries + 1
  | .held _ => 1
def uptoBulkAll {H : Type} : List (DataW H) → Nat
  | [] => 0
  | d :: r => uptoBulk d + uptoBulkAll r
def uptoBulkEntries {H : Type} : List (Lit × DataW H) → Nat
  | [] => 0
  | x :: r => uptoBulkEntry x + uptoBulkEntries r
def uptoBulkEntry {H : Type} : Lit × DataW H → Nat
  | (.string bytes, d) => bytes.length + uptoBulk d + 1
  | (_, d) => uptoBulk d + 1
 end
def uptoSmall : (H : Type) → List (DataW H) → Bool := fun _ ds => decide (uptoBulkAll ds ≤ 1048576)
def OpenSpec.upto (s : _root_.Go.ChangeSpec) : _root_.Go.OpenSpec := { _root_.Go.OpenSpec.ofChange s with cond := some uptoSmall }

/-- 'laws.FnExactCountOf', WHERE WHAT IT READS IS OF BULK AT MOST 1048576: true; the input reads as it did. -/
def fnExactCountOfUptoRow : OpenClaim := { program := "ytjkjfdhbbblffaa", sum := "597efd91d60980d412f5b82791b790236501b13e9c8bad299935dbadbf70c9c4", func := "loop.example/g00502/laws.FnExactCountOf", spec := "fnExactCountOf", recurses := true, loops := true, apart := false, narrowed := true }
def FnExactCountOfUptoSaid : Prop := fnExactCountOfUptoRow.holds Try.pinned (OpenSpec.upto fnExactCountOfSpec)

/-- 'laws.FnExactDeepOf', WHERE WHAT IT READS IS OF BULK AT MOST 1048576: true; the input reads as it did. -/
def fnExactDeepOfUptoRow : OpenClaim := { program := "ytjkjfdhbbblffaa", sum := "597efd91d60980d412f5b82791b790236501b13e9c8bad299935dbadbf70c9c4", func := "loop.example/g00502/laws.FnExactDeepOf", spec := "fnExactDeepOf", recurses := true, loops := true, apart := false, narrowed := true }
def FnExactDeepOfUptoSaid : Prop := fnExactDeepOfUptoRow.holds Try.pinned (OpenSpec.upto fnExactDeepOfSpec)

/-- 'laws.FnExactSameVal', WHERE WHAT IT READS IS OF BULK AT MOST 1048576: true; the input reads as it did. -/
def fnExactSameValUptoRow : OpenClaim := { program := "ytjkjfdhbbblffaa", sum := "597efd91d60980d412f5b82791b790236501b13e9c8bad299935dbadbf70c9c4", func := "loop.example/g00502/laws.FnExactSameVal", spec := "fnExactSameVal", unfollowed := true, recurses := true, loops := true, apart := false, narrowed := true }
def FnExactSameValUptoSaid : Prop := fnExactSameValUptoRow.holds Try.pinned (OpenSpec.upto fnExactSameValSpec)

/-- 'laws.FnExactOnceEach', WHERE WHAT IT READS IS OF BULK AT MOST 1048576: true; the input reads as it did. -/
def fnExactOnceEachUptoRow : OpenClaim := { program := "ytjkjfdhbbblffaa", sum := "597efd91d60980d412f5b82791b790236501b13e9c8bad299935dbadbf70c9c4", func := "loop.example/g00502/laws.FnExactOnceEach", spec := "fnExactOnceEach", unfollowed := true, recurses := true, loops := true, apart := false, narrowed := true }
def FnExactOnceEachUptoSaid : Prop := fnExactOnceEachUptoRow.holds Try.pinned (OpenSpec.upto fnExactOnceEachSpec)

/-- 'laws.FnExactListVal', WHERE WHAT IT READS IS OF BULK AT MOST 1048576: true; the input reads as it did. -/
def fnExactListValUptoRow : OpenClaim := { program := "ytjkjfdhbbblffaa", sum := "597efd91d60980d412f5b82791b790236501b13e9c8bad299935dbadbf70c9c4", func := "loop.example/g00502/laws.FnExactListVal", spec := "fnExactListVal", recurses := true, loops := true, apart := false, narrowed := true }
def FnExactListValUptoSaid : Prop := fnExactListValUptoRow.holds Try.pinned (OpenSpec.upto fnExactListValSpec)

/-- 'laws.FnExactNamesOf', WHERE WHAT IT READS IS OF BULK AT MOST 1048576: true; the input reads as it did. -/
def fnExactNamesOfUptoRow : OpenClaim := { program := "ytjkjfdhbbblffaa", sum := "597efd91d60980d412f5b82791b790236501b13e9c8bad299935dbadbf70c9c4", func := "loop.example/g00502/laws.FnExactNamesOf", spec := "fnExactNamesOf", recurses := true, loops := true, apart := false, narrowed := true }
def FnExactNamesOfUptoSaid : Prop := fnExactNamesOfUptoRow.holds Try.pinned (OpenSpec.upto fnExactNamesOfSpec)

/-- 'laws.FnExactLookup', WHERE WHAT IT READS IS OF BULK AT MOST 1048576: true; the input reads as it did. -/
def fnExactLookupUptoRow : OpenClaim := { program := "ytjkjfdhbbblffaa", sum := "597efd91d60980d412f5b82791b790236501b13e9c8bad299935dbadbf70c9c4", func := "loop.example/g00502/laws.FnExactLookup", spec := "fnExactLookup", unfollowed := true, recurses := true, loops := true, apart := false, narrowed := true }
def FnExactLookupUptoSaid : Prop := fnExactLookupUptoRow.holds Try.pinned (OpenSpec.upto fnExactLookupSpec)

/-- 'laws.FnExactStepVal', WHERE WHAT IT READS IS OF BULK AT MOST 1048576: true; the input reads as it did. -/
def fnExactStepValUptoRow : OpenClaim := { program := "ytjkjfdhbbblffaa", sum := "597efd91d60980d412f5b82791b790236501b13e9c8bad299935dbadbf70c9c4", func := "loop.example/g00502/laws.FnExactStepVal", spec := "fnExactStepVal", recurses := true, loops := true, apart := false, narrowed := true }
def FnExactStepValUptoSaid : Prop := fnExactStepValUptoRow.holds Try.pinned (OpenSpec.upto fnExactStepValSpec)

end Rows
end Go.Proofs.Ytjkjfdhbbblffaa
