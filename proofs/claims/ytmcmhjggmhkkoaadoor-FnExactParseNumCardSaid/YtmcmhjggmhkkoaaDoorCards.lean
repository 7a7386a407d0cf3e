/-
  DERIVED. GIVEN WITH THE SEED: THE CARDS: each row of YtmcmhjggmhkkoaaDoorRows.lean that lists a variable, with what it lists TIED to the program's text (the seventh form; the later family's looks); each row that meets fmt, with fmt's text TOLD by the authors' own Lean function (tested against real Go, not proved from fmt's source: count such statements apart). THE CARD IS WHAT COUNTS. Prove the row's statement (the work); the ties are given (YtmcmhjggmhkkoaaDoorTie.lean); close each card by the builder's one call (the guide's Derived/Test/ToyasCard.lean, 'card_holds'). Laid BY PROGRAM, IN A SANDBOX (cutbox-door.mjs). By AI agents, Wed Nov 11 2026. No macro, syntax, notation, axiom, sorry.
-/
import Derived.Test.YtmcmhjggmhkkoaaDoorRows
import GoSem.ClaimSeven
namespace Go.Proofs.YtmcmhjggmhkkoaaDoor
namespace Rows

/-- THE TIED CARD OF 'laws.FnExactNumText'. -/
def fnExactNumTextCard : Claim7 := { stood := { row := fnExactNumTextRow, standIns := [], harness := (true, "1498166438207bc06070dafa5781e381147dc7963bd6fa02faf6e17e709759de"), looks := true }, kinds := [], alts := [], laidByText := true, laidKinds := [.data, .data, .data], laidTests := true, laidLooks := .later }
def FnExactNumTextCardSaid : Prop := Claim7.holds Tryd.pinned (.plain (OpenSpec.ofChange fnExactNumTextSpec)) fnExactNumTextCard

/-- THE TIED CARD OF 'laws.FnExactDigits'. -/
def fnExactDigitsCard : Claim7 := { stood := { row := fnExactDigitsRow, standIns := [], harness := (true, "1498166438207bc06070dafa5781e381147dc7963bd6fa02faf6e17e709759de"), looks := true }, kinds := [], alts := [], laidByText := true, laidKinds := [.data, .data, .data], laidTests := true, laidLooks := .later }
def FnExactDigitsCardSaid : Prop := Claim7.holds Tryd.pinned (.plain (OpenSpec.ofChange fnExactDigitsSpec)) fnExactDigitsCard

/-- THE TIED CARD OF 'laws.FnExactDecOk'. -/
def fnExactDecOkCard : Claim7 := { stood := { row := fnExactDecOkRow, standIns := [], harness := (true, "1498166438207bc06070dafa5781e381147dc7963bd6fa02faf6e17e709759de"), looks := true }, kinds := [], alts := [], laidByText := true, laidKinds := [.data, .data, .data], laidTests := true, laidLooks := .later }
def FnExactDecOkCardSaid : Prop := Claim7.holds Tryd.pinned (.plain (OpenSpec.ofChange fnExactDecOkSpec)) fnExactDecOkCard

/-- THE TIED CARD OF 'laws.FnExactDecNew'. -/
def fnExactDecNewCard : Claim7 := { stood := { row := fnExactDecNewRow, standIns := [], harness := (true, "1498166438207bc06070dafa5781e381147dc7963bd6fa02faf6e17e709759de"), looks := true }, kinds := [], alts := [], laidByText := true, laidKinds := [.data, .data, .data], laidTests := true, laidLooks := .later }
def FnExactDecNewCardSaid : Prop := Claim7.holds Tryd.pinned (.plain (OpenSpec.ofChange fnExactDecNewSpec)) fnExactDecNewCard

/-- THE TIED CARD OF 'laws.FnExactLessDec'. -/
def fnExactLessDecCard : Claim7 := { stood := { row := fnExactLessDecRow, standIns := [], harness := (true, "1498166438207bc06070dafa5781e381147dc7963bd6fa02faf6e17e709759de"), looks := true }, kinds := [], alts := [], laidByText := true, laidKinds := [.data, .data, .data], laidTests := true, laidLooks := .later }
def FnExactLessDecCardSaid : Prop := Claim7.holds Tryd.pinned (.plain (OpenSpec.ofChange fnExactLessDecSpec)) fnExactLessDecCard

/-- THE TIED CARD OF 'laws.FnExactDecText'. -/
def fnExactDecTextCard : Claim7 := { stood := { row := fnExactDecTextRow, standIns := [], harness := (true, "1498166438207bc06070dafa5781e381147dc7963bd6fa02faf6e17e709759de"), looks := true }, kinds := [], alts := [], laidByText := true, laidKinds := [.data, .data, .data], laidTests := true, laidLooks := .later }
def FnExactDecTextCardSaid : Prop := Claim7.holds Tryd.pinned (.plain (OpenSpec.ofChange fnExactDecTextSpec)) fnExactDecTextCard

/-- THE TIED CARD OF 'laws.FnExactFltDec'. -/
def fnExactFltDecCard : Claim7 := { stood := { row := fnExactFltDecRow, standIns := [], harness := (true, "1498166438207bc06070dafa5781e381147dc7963bd6fa02faf6e17e709759de"), looks := true }, kinds := [], alts := [], laidByText := true, laidKinds := [.data, .data, .data], laidTests := true, laidLooks := .later }
def FnExactFltDecCardSaid : Prop := Claim7.holds Tryd.pinned (.plain (OpenSpec.ofChange fnExactFltDecSpec)) fnExactFltDecCard

/-- THE TIED CARD OF 'laws.FnExactLessFlt'. -/
def fnExactLessFltCard : Claim7 := { stood := { row := fnExactLessFltRow, standIns := [], harness := (true, "1498166438207bc06070dafa5781e381147dc7963bd6fa02faf6e17e709759de"), looks := true }, kinds := [], alts := [], laidByText := true, laidKinds := [.data, .data, .data], laidTests := true, laidLooks := .later }
def FnExactLessFltCardSaid : Prop := Claim7.holds Tryd.pinned (.plain (OpenSpec.ofChange fnExactLessFltSpec)) fnExactLessFltCard

/-- THE TIED CARD OF 'laws.FnExactFltText'. -/
def fnExactFltTextCard : Claim7 := { stood := { row := fnExactFltTextRow, standIns := [], harness := (true, "1498166438207bc06070dafa5781e381147dc7963bd6fa02faf6e17e709759de"), looks := true }, kinds := [], alts := [], laidByText := true, laidKinds := [.data, .data, .data], laidTests := true, laidLooks := .later }
def FnExactFltTextCardSaid : Prop := Claim7.holds Tryd.pinned (.plain (OpenSpec.ofChange fnExactFltTextSpec)) fnExactFltTextCard

/-- THE TIED CARD OF 'laws.FnExactNearFlt'. -/
def fnExactNearFltCard : Claim7 := { stood := { row := fnExactNearFltRow, standIns := [], harness := (true, "1498166438207bc06070dafa5781e381147dc7963bd6fa02faf6e17e709759de"), looks := true }, kinds := [], alts := [], laidByText := true, laidKinds := [.data, .data, .data], laidTests := true, laidLooks := .later }
def FnExactNearFltCardSaid : Prop := Claim7.holds Tryd.pinned (.plain (OpenSpec.ofChange fnExactNearFltSpec)) fnExactNearFltCard

/-- THE TIED CARD OF 'laws.FnExactExact'. -/
def fnExactExactCard : Claim7 := { stood := { row := fnExactExactRow, standIns := [], harness := (true, "1498166438207bc06070dafa5781e381147dc7963bd6fa02faf6e17e709759de"), looks := true }, kinds := [], alts := [], laidByText := true, laidKinds := [.data, .data, .data], laidTests := true, laidLooks := .later }
def FnExactExactCardSaid : Prop := Claim7.holds Tryd.pinned (.plain (OpenSpec.ofChange fnExactExactSpec)) fnExactExactCard

/-- THE TIED CARD OF 'laws.FnExactParseNum'. -/
def fnExactParseNumCard : Claim7 := { stood := { row := fnExactParseNumRow, standIns := [], harness := (true, "1498166438207bc06070dafa5781e381147dc7963bd6fa02faf6e17e709759de"), looks := true }, kinds := [], alts := [], laidByText := true, laidKinds := [.data, .data, .data, .sentinel, .sentinel], laidTests := true, laidLooks := .later }
def FnExactParseNumCardSaid : Prop := Claim7.holds Tryd.pinned (.plain (OpenSpec.ofChange fnExactParseNumSpec)) fnExactParseNumCard

/-- THE TIED CARD OF 'laws.FnExactReadNumber'. -/
def fnExactReadNumberCard : Claim7 := { stood := { row := fnExactReadNumberRow, standIns := [], harness := (true, "1498166438207bc06070dafa5781e381147dc7963bd6fa02faf6e17e709759de"), looks := true }, kinds := [], alts := [], laidByText := true, laidKinds := [.data, .data, .data, .data, .sentinel, .sentinel, .pinned], laidTests := true, laidLooks := .later }
def FnExactReadNumberCardSaid : Prop := Claim7.holds Tryd.pinned (.plain (OpenSpec.ofChange fnExactReadNumberSpec)) fnExactReadNumberCard

/-- THE SECOND FORM's CARD OF 'laws.FnExactNumText'. -/
def fnExactNumTextUptoCard : Claim7 := { stood := { row := fnExactNumTextUptoRow, standIns := [], harness := (true, "1498166438207bc06070dafa5781e381147dc7963bd6fa02faf6e17e709759de"), looks := true }, kinds := [], alts := [], laidByText := true, laidKinds := [.data, .data, .data], laidTests := true, laidLooks := .later }
def FnExactNumTextUptoCardSaid : Prop := Claim7.holds Tryd.pinned (.plain (OpenSpec.upto fnExactNumTextSpec)) fnExactNumTextUptoCard

/-- THE SECOND FORM's CARD OF 'laws.FnExactDigits'. -/
def fnExactDigitsUptoCard : Claim7 := { stood := { row := fnExactDigitsUptoRow, standIns := [], harness := (true, "1498166438207bc06070dafa5781e381147dc7963bd6fa02faf6e17e709759de"), looks := true }, kinds := [], alts := [], laidByText := true, laidKinds := [.data, .data, .data], laidTests := true, laidLooks := .later }
def FnExactDigitsUptoCardSaid : Prop := Claim7.holds Tryd.pinned (.plain (OpenSpec.upto fnExactDigitsSpec)) fnExactDigitsUptoCard

/-- THE SECOND FORM's CARD OF 'laws.FnExactDecOk'. -/
def fnExactDecOkUptoCard : Claim7 := { stood := { row := fnExactDecOkUptoRow, standIns := [], harness := (true, "1498166438207bc06070dafa5781e381147dc7963bd6fa02faf6e17e709759de"), looks := true }, kinds := [], alts := [], laidByText := true, laidKinds := [.data, .data, .data], laidTests := true, laidLooks := .later }
def FnExactDecOkUptoCardSaid : Prop := Claim7.holds Tryd.pinned (.plain (OpenSpec.upto fnExactDecOkSpec)) fnExactDecOkUptoCard

/-- THE SECOND FORM's CARD OF 'laws.FnExactDecNew'. -/
def fnExactDecNewUptoCard : Claim7 := { stood := { row := fnExactDecNewUptoRow, standIns := [], harness := (true, "1498166438207bc06070dafa5781e381147dc7963bd6fa02faf6e17e709759de"), looks := true }, kinds := [], alts := [], laidByText := true, laidKinds := [.data, .data, .data], laidTests := true, laidLooks := .later }
def FnExactDecNewUptoCardSaid : Prop := Claim7.holds Tryd.pinned (.plain (OpenSpec.upto fnExactDecNewSpec)) fnExactDecNewUptoCard

/-- THE SECOND FORM's CARD OF 'laws.FnExactLessDec'. -/
def fnExactLessDecUptoCard : Claim7 := { stood := { row := fnExactLessDecUptoRow, standIns := [], harness := (true, "1498166438207bc06070dafa5781e381147dc7963bd6fa02faf6e17e709759de"), looks := true }, kinds := [], alts := [], laidByText := true, laidKinds := [.data, .data, .data], laidTests := true, laidLooks := .later }
def FnExactLessDecUptoCardSaid : Prop := Claim7.holds Tryd.pinned (.plain (OpenSpec.upto fnExactLessDecSpec)) fnExactLessDecUptoCard

/-- THE SECOND FORM's CARD OF 'laws.FnExactDecText'. -/
def fnExactDecTextUptoCard : Claim7 := { stood := { row := fnExactDecTextUptoRow, standIns := [], harness := (true, "1498166438207bc06070dafa5781e381147dc7963bd6fa02faf6e17e709759de"), looks := true }, kinds := [], alts := [], laidByText := true, laidKinds := [.data, .data, .data], laidTests := true, laidLooks := .later }
def FnExactDecTextUptoCardSaid : Prop := Claim7.holds Tryd.pinned (.plain (OpenSpec.upto fnExactDecTextSpec)) fnExactDecTextUptoCard

/-- THE SECOND FORM's CARD OF 'laws.FnExactFltDec'. -/
def fnExactFltDecUptoCard : Claim7 := { stood := { row := fnExactFltDecUptoRow, standIns := [], harness := (true, "1498166438207bc06070dafa5781e381147dc7963bd6fa02faf6e17e709759de"), looks := true }, kinds := [], alts := [], laidByText := true, laidKinds := [.data, .data, .data], laidTests := true, laidLooks := .later }
def FnExactFltDecUptoCardSaid : Prop := Claim7.holds Tryd.pinned (.plain (OpenSpec.upto fnExactFltDecSpec)) fnExactFltDecUptoCard

/-- THE SECOND FORM's CARD OF 'laws.FnExactLessFlt'. -/
def fnExactLessFltUptoCard : Claim7 := { stood := { row := fnExactLessFltUptoRow, standIns := [], harness := (true, "1498166438207bc06070dafa5781e381147dc7963bd6fa02faf6e17e709759de"), looks := true }, kinds := [], alts := [], laidByText := true, laidKinds := [.data, .data, .data], laidTests := true, laidLooks := .later }
def FnExactLessFltUptoCardSaid : Prop := Claim7.holds Tryd.pinned (.plain (OpenSpec.upto fnExactLessFltSpec)) fnExactLessFltUptoCard

/-- THE SECOND FORM's CARD OF 'laws.FnExactFltText'. -/
def fnExactFltTextUptoCard : Claim7 := { stood := { row := fnExactFltTextUptoRow, standIns := [], harness := (true, "1498166438207bc06070dafa5781e381147dc7963bd6fa02faf6e17e709759de"), looks := true }, kinds := [], alts := [], laidByText := true, laidKinds := [.data, .data, .data], laidTests := true, laidLooks := .later }
def FnExactFltTextUptoCardSaid : Prop := Claim7.holds Tryd.pinned (.plain (OpenSpec.upto fnExactFltTextSpec)) fnExactFltTextUptoCard

/-- THE SECOND FORM's CARD OF 'laws.FnExactNearFlt'. -/
def fnExactNearFltUptoCard : Claim7 := { stood := { row := fnExactNearFltUptoRow, standIns := [], harness := (true, "1498166438207bc06070dafa5781e381147dc7963bd6fa02faf6e17e709759de"), looks := true }, kinds := [], alts := [], laidByText := true, laidKinds := [.data, .data, .data], laidTests := true, laidLooks := .later }
def FnExactNearFltUptoCardSaid : Prop := Claim7.holds Tryd.pinned (.plain (OpenSpec.upto fnExactNearFltSpec)) fnExactNearFltUptoCard

/-- THE SECOND FORM's CARD OF 'laws.FnExactExact'. -/
def fnExactExactUptoCard : Claim7 := { stood := { row := fnExactExactUptoRow, standIns := [], harness := (true, "1498166438207bc06070dafa5781e381147dc7963bd6fa02faf6e17e709759de"), looks := true }, kinds := [], alts := [], laidByText := true, laidKinds := [.data, .data, .data], laidTests := true, laidLooks := .later }
def FnExactExactUptoCardSaid : Prop := Claim7.holds Tryd.pinned (.plain (OpenSpec.upto fnExactExactSpec)) fnExactExactUptoCard

/-- THE SECOND FORM's CARD OF 'laws.FnExactParseNum'. -/
def fnExactParseNumUptoCard : Claim7 := { stood := { row := fnExactParseNumUptoRow, standIns := [], harness := (true, "1498166438207bc06070dafa5781e381147dc7963bd6fa02faf6e17e709759de"), looks := true }, kinds := [], alts := [], laidByText := true, laidKinds := [.data, .data, .data, .sentinel, .sentinel], laidTests := true, laidLooks := .later }
def FnExactParseNumUptoCardSaid : Prop := Claim7.holds Tryd.pinned (.plain (OpenSpec.upto fnExactParseNumSpec)) fnExactParseNumUptoCard

/-- THE SECOND FORM's CARD OF 'laws.FnExactReadNumber'. -/
def fnExactReadNumberUptoCard : Claim7 := { stood := { row := fnExactReadNumberUptoRow, standIns := [], harness := (true, "1498166438207bc06070dafa5781e381147dc7963bd6fa02faf6e17e709759de"), looks := true }, kinds := [], alts := [], laidByText := true, laidKinds := [.data, .data, .data, .data, .sentinel, .sentinel, .pinned], laidTests := true, laidLooks := .later }
def FnExactReadNumberUptoCardSaid : Prop := Claim7.holds Tryd.pinned (.plain (OpenSpec.upto fnExactReadNumberSpec)) fnExactReadNumberUptoCard
end Rows
end Go.Proofs.YtmcmhjggmhkkoaaDoor
