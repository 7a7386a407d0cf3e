/-
  DERIVED. GIVEN WITH THE SEED: THE CARDS: each row of YtilmhemcpgiikaaGreatDoorRows.lean that lists a variable, with what it lists TIED to the program's text (the seventh form; the later family's looks); each row that meets fmt, with fmt's text TOLD by the authors' own Lean function (tested against real Go, not proved from fmt's source: count such statements apart). THE CARD IS WHAT COUNTS. Prove the row's statement (the work); the ties are given (YtilmhemcpgiikaaGreatDoorTie.lean); close each card by the builder's one call (the guide's Derived/Test/ToyasCard.lean, 'card_holds'). Laid BY PROGRAM, IN A SANDBOX (cutbox-door.mjs). By AI agents, Wed Nov 11 2026. No macro, syntax, notation, axiom, sorry.
-/
import Derived.Test.YtilmhemcpgiikaaGreatDoorRows
import GoSem.ClaimSeven
namespace Go.Proofs.YtilmhemcpgiikaaGreatDoor
namespace Rows

/-- THE TIED CARD OF 'laws.FnVals'. -/
def fnValsCard : Claim7 := { stood := { row := fnValsRow, standIns := [], harness := (true, "ca02bb9e88d2b8a6b1fd3a7ccfd9b1a91884117a77a21377823f40dc6789e120"), looks := false }, kinds := [], alts := [], laidByText := true, laidKinds := [.data, .data, .data, .data, .pinned], laidTests := true, laidLooks := .later }
def FnValsCardSaid : Prop := Claim7.holds Tryz.pinned (.plain (OpenSpec.ofChange fnValsSpec)) fnValsCard

/-- THE SECOND FORM's CARD OF 'laws.FnVals'. -/
def fnValsUptoCard : Claim7 := { stood := { row := fnValsUptoRow, standIns := [], harness := (true, "ca02bb9e88d2b8a6b1fd3a7ccfd9b1a91884117a77a21377823f40dc6789e120"), looks := false }, kinds := [], alts := [], laidByText := true, laidKinds := [.data, .data, .data, .data, .pinned], laidTests := true, laidLooks := .later }
def FnValsUptoCardSaid : Prop := Claim7.holds Tryz.pinned (.plain (OpenSpec.upto fnValsSpec)) fnValsUptoCard
end Rows
end Go.Proofs.YtilmhemcpgiikaaGreatDoor
