/-
  DERIVED. GIVEN WITH THE SEED: THE CARDS: each row of YtjkjfdhbbblffaaDoorRows.lean that lists a variable, with what it lists TIED to the program's text (the seventh form; the later family's looks); each row that meets fmt, with fmt's text TOLD by the authors' own Lean function (tested against real Go, not proved from fmt's source: count such statements apart). THE CARD IS WHAT COUNTS. Prove the row's statement (the work); the ties are given (YtjkjfdhbbblffaaDoorTie.lean); close each card by the builder's one call (the guide's Derived/Test/ToyasCard.lean, 'card_holds'). Laid BY PROGRAM, IN A SANDBOX (cutbox-door.mjs). By AI agents, Wed Nov 11 2026. No macro, syntax, notation, axiom, sorry.
-/
import Derived.Test.YtjkjfdhbbblffaaDoorRows
import GoSem.ClaimSeven
namespace Go.Proofs.YtjkjfdhbbblffaaDoor
namespace Rows

/-- THE TIED CARD OF 'laws.FnExactValOk'. -/
def fnExactValOkCard : Claim7 := { stood := { row := fnExactValOkRow, standIns := [], harness := (true, "a7b60e5b583f7d03233661973b11a93c22ac8aadc96e6b09ebfd4a872509c9ea"), looks := false }, kinds := [], alts := [], laidByText := true, laidKinds := [.data, .data, .data, .data, .pinned], laidTests := true, laidLooks := .later }
def FnExactValOkCardSaid : Prop := Claim7.holds Tryd.pinned (.plain (OpenSpec.ofChange fnExactValOkSpec)) fnExactValOkCard

/-- THE TIED CARD OF 'laws.FnExactLessVal'. -/
def fnExactLessValCard : Claim7 := { stood := { row := fnExactLessValRow, standIns := [], harness := (true, "a7b60e5b583f7d03233661973b11a93c22ac8aadc96e6b09ebfd4a872509c9ea"), looks := false }, kinds := [], alts := [], laidByText := true, laidKinds := [.data, .data, .data], laidTests := true, laidLooks := .later }
def FnExactLessValCardSaid : Prop := Claim7.holds Tryd.pinned (.plain (OpenSpec.ofChange fnExactLessValSpec)) fnExactLessValCard

/-- THE TIED CARD OF 'laws.FnExactSorted'. -/
def fnExactSortedCard : Claim7 := { stood := { row := fnExactSortedRow, standIns := [], harness := (true, "a7b60e5b583f7d03233661973b11a93c22ac8aadc96e6b09ebfd4a872509c9ea"), looks := false }, kinds := [], alts := [], laidByText := true, laidKinds := [.data, .data, .data], laidTests := true, laidLooks := .later }
def FnExactSortedCardSaid : Prop := Claim7.holds Tryd.pinned (.plain (OpenSpec.ofChange fnExactSortedSpec)) fnExactSortedCard

/-- THE TIED CARD OF 'laws.FnExactSortMap'. -/
def fnExactSortMapCard : Claim7 := { stood := { row := fnExactSortMapRow, standIns := [], harness := (true, "a7b60e5b583f7d03233661973b11a93c22ac8aadc96e6b09ebfd4a872509c9ea"), looks := false }, kinds := [], alts := [], laidByText := true, laidKinds := [.data, .data, .data], laidTests := true, laidLooks := .later }
def FnExactSortMapCardSaid : Prop := Claim7.holds Tryd.pinned (.plain (OpenSpec.ofChange fnExactSortMapSpec)) fnExactSortMapCard

/-- THE SECOND FORM's CARD OF 'laws.FnExactValOk'. -/
def fnExactValOkUptoCard : Claim7 := { stood := { row := fnExactValOkUptoRow, standIns := [], harness := (true, "a7b60e5b583f7d03233661973b11a93c22ac8aadc96e6b09ebfd4a872509c9ea"), looks := false }, kinds := [], alts := [], laidByText := true, laidKinds := [.data, .data, .data, .data, .pinned], laidTests := true, laidLooks := .later }
def FnExactValOkUptoCardSaid : Prop := Claim7.holds Tryd.pinned (.plain (OpenSpec.upto fnExactValOkSpec)) fnExactValOkUptoCard

/-- THE SECOND FORM's CARD OF 'laws.FnExactLessVal'. -/
def fnExactLessValUptoCard : Claim7 := { stood := { row := fnExactLessValUptoRow, standIns := [], harness := (true, "a7b60e5b583f7d03233661973b11a93c22ac8aadc96e6b09ebfd4a872509c9ea"), looks := false }, kinds := [], alts := [], laidByText := true, laidKinds := [.data, .data, .data], laidTests := true, laidLooks := .later }
def FnExactLessValUptoCardSaid : Prop := Claim7.holds Tryd.pinned (.plain (OpenSpec.upto fnExactLessValSpec)) fnExactLessValUptoCard

/-- THE SECOND FORM's CARD OF 'laws.FnExactSorted'. -/
def fnExactSortedUptoCard : Claim7 := { stood := { row := fnExactSortedUptoRow, standIns := [], harness := (true, "a7b60e5b583f7d03233661973b11a93c22ac8aadc96e6b09ebfd4a872509c9ea"), looks := false }, kinds := [], alts := [], laidByText := true, laidKinds := [.data, .data, .data], laidTests := true, laidLooks := .later }
def FnExactSortedUptoCardSaid : Prop := Claim7.holds Tryd.pinned (.plain (OpenSpec.upto fnExactSortedSpec)) fnExactSortedUptoCard

/-- THE SECOND FORM's CARD OF 'laws.FnExactSortMap'. -/
def fnExactSortMapUptoCard : Claim7 := { stood := { row := fnExactSortMapUptoRow, standIns := [], harness := (true, "a7b60e5b583f7d03233661973b11a93c22ac8aadc96e6b09ebfd4a872509c9ea"), looks := false }, kinds := [], alts := [], laidByText := true, laidKinds := [.data, .data, .data], laidTests := true, laidLooks := .later }
def FnExactSortMapUptoCardSaid : Prop := Claim7.holds Tryd.pinned (.plain (OpenSpec.upto fnExactSortMapSpec)) fnExactSortMapUptoCard
end Rows
end Go.Proofs.YtjkjfdhbbblffaaDoor
