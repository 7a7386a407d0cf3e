/-
  DERIVED. GIVEN WITH THE SEED: THE CARDS: each row of YtcmdchhhdcdpnaaDoorRows.lean that lists a variable, with what it lists TIED to the program's text (the seventh form; the later family's looks); each row that meets fmt, with fmt's text TOLD by the authors' own Lean function (tested against real Go, not proved from fmt's source: count such statements apart). THE CARD IS WHAT COUNTS. Prove the row's statement (the work); the ties are given (YtcmdchhhdcdpnaaDoorTie.lean); close each card by the builder's one call (the guide's Derived/Test/ToyasCard.lean, 'card_holds'). Laid BY PROGRAM, IN A SANDBOX (cutbox-door.mjs). By AI agents, Wed Nov 11 2026. No macro, syntax, notation, axiom, sorry.
-/
import Derived.Test.YtcmdchhhdcdpnaaDoorRows
import GoSem.ClaimSeven
namespace Go.Proofs.YtcmdchhhdcdpnaaDoor
namespace Rows

/-- THE TIED CARD OF 'laws.FnExactNearFlt'. -/
def fnExactNearFltCard : Claim7 := { stood := { row := fnExactNearFltRow, standIns := [], harness := (true, "2cb83f8b612d7aea1829eac2807aab6d08749d3ccc83aaade07c0e266f1b0555"), looks := false }, kinds := [], alts := [], laidByText := true, laidKinds := [.data, .data, .data], laidTests := true, laidLooks := .later }
def FnExactNearFltCardSaid : Prop := Claim7.holds Tryd.pinned (.plain (OpenSpec.ofChange fnExactNearFltSpec)) fnExactNearFltCard

/-- THE TIED CARD OF 'laws.FnExactExact'. -/
def fnExactExactCard : Claim7 := { stood := { row := fnExactExactRow, standIns := [], harness := (true, "2cb83f8b612d7aea1829eac2807aab6d08749d3ccc83aaade07c0e266f1b0555"), looks := false }, kinds := [], alts := [], laidByText := true, laidKinds := [.data, .data, .data], laidTests := true, laidLooks := .later }
def FnExactExactCardSaid : Prop := Claim7.holds Tryd.pinned (.plain (OpenSpec.ofChange fnExactExactSpec)) fnExactExactCard

/-- THE SECOND FORM's CARD OF 'laws.FnExactNearFlt'. -/
def fnExactNearFltUptoCard : Claim7 := { stood := { row := fnExactNearFltUptoRow, standIns := [], harness := (true, "2cb83f8b612d7aea1829eac2807aab6d08749d3ccc83aaade07c0e266f1b0555"), looks := false }, kinds := [], alts := [], laidByText := true, laidKinds := [.data, .data, .data], laidTests := true, laidLooks := .later }
def FnExactNearFltUptoCardSaid : Prop := Claim7.holds Tryd.pinned (.plain (OpenSpec.upto fnExactNearFltSpec)) fnExactNearFltUptoCard

/-- THE SECOND FORM's CARD OF 'laws.FnExactExact'. -/
def fnExactExactUptoCard : Claim7 := { stood := { row := fnExactExactUptoRow, standIns := [], harness := (true, "2cb83f8b612d7aea1829eac2807aab6d08749d3ccc83aaade07c0e266f1b0555"), looks := false }, kinds := [], alts := [], laidByText := true, laidKinds := [.data, .data, .data], laidTests := true, laidLooks := .later }
def FnExactExactUptoCardSaid : Prop := Claim7.holds Tryd.pinned (.plain (OpenSpec.upto fnExactExactSpec)) fnExactExactUptoCard
end Rows
end Go.Proofs.YtcmdchhhdcdpnaaDoor
