/-
  DERIVED. GIVEN WITH THE SEED: THE CARDS: each row of YteihnonhfaidoaaDoorRows.lean that lists a variable, with what it lists TIED to the program's text (the seventh form; the later family's looks); each row that meets fmt, with fmt's text TOLD by the authors' own Lean function (tested against real Go, not proved from fmt's source: count such statements apart). THE CARD IS WHAT COUNTS. Prove the row's statement (the work); the ties are given (YteihnonhfaidoaaDoorTie.lean); close each card by the builder's one call (the guide's Derived/Test/ToyasCard.lean, 'card_holds'). Laid BY PROGRAM, IN A SANDBOX (cutbox-door.mjs). By AI agents, Wed Nov 11 2026. No macro, syntax, notation, axiom, sorry.
-/
import Derived.Test.YteihnonhfaidoaaDoorRows
import GoSem.ClaimSeven
namespace Go.Proofs.YteihnonhfaidoaaDoor
namespace Rows

/-- THE TIED CARD OF 'laws.FnExactTextOk'. -/
def fnExactTextOkCard : Claim7 := { stood := { row := fnExactTextOkRow, standIns := [], harness := (true, "0fd07be187e3e8a93f307cd7dfa08d2d5ff04fe7947a0fdf2b12058c82d2d72d"), looks := false }, kinds := [], alts := [], laidByText := true, laidKinds := [.data, .pinned], laidTests := true, laidLooks := .later }
def FnExactTextOkCardSaid : Prop := Claim7.holds Tryd.pinned (.plain (OpenSpec.ofChange fnExactTextOkSpec)) fnExactTextOkCard

/-- THE TIED CARD OF 'laws.FnExactGetRune'. -/
def fnExactGetRuneCard : Claim7 := { stood := { row := fnExactGetRuneRow, standIns := [], harness := (true, "0fd07be187e3e8a93f307cd7dfa08d2d5ff04fe7947a0fdf2b12058c82d2d72d"), looks := false }, kinds := [], alts := [], laidByText := true, laidKinds := [.data, .pinned], laidTests := true, laidLooks := .later }
def FnExactGetRuneCardSaid : Prop := Claim7.holds Tryd.pinned (.plain (OpenSpec.ofChange fnExactGetRuneSpec)) fnExactGetRuneCard

/-- THE TIED CARD OF 'laws.FnExactRunesOf'. -/
def fnExactRunesOfCard : Claim7 := { stood := { row := fnExactRunesOfRow, standIns := [], harness := (true, "0fd07be187e3e8a93f307cd7dfa08d2d5ff04fe7947a0fdf2b12058c82d2d72d"), looks := false }, kinds := [], alts := [], laidByText := true, laidKinds := [.data, .pinned], laidTests := true, laidLooks := .later }
def FnExactRunesOfCardSaid : Prop := Claim7.holds Tryd.pinned (.plain (OpenSpec.ofChange fnExactRunesOfSpec)) fnExactRunesOfCard

/-- THE SECOND FORM's CARD OF 'laws.FnExactTextOk'. -/
def fnExactTextOkUptoCard : Claim7 := { stood := { row := fnExactTextOkUptoRow, standIns := [], harness := (true, "0fd07be187e3e8a93f307cd7dfa08d2d5ff04fe7947a0fdf2b12058c82d2d72d"), looks := false }, kinds := [], alts := [], laidByText := true, laidKinds := [.data, .pinned], laidTests := true, laidLooks := .later }
def FnExactTextOkUptoCardSaid : Prop := Claim7.holds Tryd.pinned (.plain (OpenSpec.upto fnExactTextOkSpec)) fnExactTextOkUptoCard

/-- THE SECOND FORM's CARD OF 'laws.FnExactGetRune'. -/
def fnExactGetRuneUptoCard : Claim7 := { stood := { row := fnExactGetRuneUptoRow, standIns := [], harness := (true, "0fd07be187e3e8a93f307cd7dfa08d2d5ff04fe7947a0fdf2b12058c82d2d72d"), looks := false }, kinds := [], alts := [], laidByText := true, laidKinds := [.data, .pinned], laidTests := true, laidLooks := .later }
def FnExactGetRuneUptoCardSaid : Prop := Claim7.holds Tryd.pinned (.plain (OpenSpec.upto fnExactGetRuneSpec)) fnExactGetRuneUptoCard

/-- THE SECOND FORM's CARD OF 'laws.FnExactRunesOf'. -/
def fnExactRunesOfUptoCard : Claim7 := { stood := { row := fnExactRunesOfUptoRow, standIns := [], harness := (true, "0fd07be187e3e8a93f307cd7dfa08d2d5ff04fe7947a0fdf2b12058c82d2d72d"), looks := false }, kinds := [], alts := [], laidByText := true, laidKinds := [.data, .pinned], laidTests := true, laidLooks := .later }
def FnExactRunesOfUptoCardSaid : Prop := Claim7.holds Tryd.pinned (.plain (OpenSpec.upto fnExactRunesOfSpec)) fnExactRunesOfUptoCard
end Rows
end Go.Proofs.YteihnonhfaidoaaDoor
