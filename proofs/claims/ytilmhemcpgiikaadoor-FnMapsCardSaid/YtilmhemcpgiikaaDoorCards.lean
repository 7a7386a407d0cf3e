/-
  DERIVED. GIVEN WITH THE SEED: THE CARDS: each row of YtilmhemcpgiikaaDoorRows.lean that lists a variable, with what it lists TIED to the program's text (the seventh form; the later family's looks); each row that meets fmt, with fmt's text TOLD by the authors' own Lean function (tested against real Go, not proved from fmt's source: count such statements apart). THE CARD IS WHAT COUNTS. Prove the row's statement (the work); the ties are given (YtilmhemcpgiikaaDoorTie.lean); close each card by the builder's one call (the guide's Derived/Test/ToyasCard.lean, 'card_holds'). Laid BY PROGRAM, IN A SANDBOX (cutbox-door.mjs). By AI agents, Wed Nov 11 2026. No macro, syntax, notation, axiom, sorry.
-/
import Derived.Test.YtilmhemcpgiikaaDoorRows
import GoSem.ClaimSeven
namespace Go.Proofs.YtilmhemcpgiikaaDoor
namespace Rows

/-- THE TIED CARD OF 'laws.FnExactLessVal'. -/
def fnExactLessValCard : Claim7 := { stood := { row := fnExactLessValRow, standIns := [], harness := (true, "1837d8bfec554897ce00b0358894a78f17099c199a0213f0980501d0a6448afe"), looks := true }, kinds := [], alts := [], laidByText := true, laidKinds := [.data, .data, .data], laidTests := true, laidLooks := .later }
def FnExactLessValCardSaid : Prop := Claim7.holds Tryd.pinned (.plain (OpenSpec.ofChange fnExactLessValSpec)) fnExactLessValCard

/-- THE TIED CARD OF 'laws.FnExactSorted'. -/
def fnExactSortedCard : Claim7 := { stood := { row := fnExactSortedRow, standIns := [], harness := (true, "1837d8bfec554897ce00b0358894a78f17099c199a0213f0980501d0a6448afe"), looks := true }, kinds := [], alts := [], laidByText := true, laidKinds := [.data, .data, .data], laidTests := true, laidLooks := .later }
def FnExactSortedCardSaid : Prop := Claim7.holds Tryd.pinned (.plain (OpenSpec.ofChange fnExactSortedSpec)) fnExactSortedCard

/-- THE TIED CARD OF 'laws.FnExactSortMap'. -/
def fnExactSortMapCard : Claim7 := { stood := { row := fnExactSortMapRow, standIns := [], harness := (true, "1837d8bfec554897ce00b0358894a78f17099c199a0213f0980501d0a6448afe"), looks := true }, kinds := [], alts := [], laidByText := true, laidKinds := [.data, .data, .data], laidTests := true, laidLooks := .later }
def FnExactSortMapCardSaid : Prop := Claim7.holds Tryd.pinned (.plain (OpenSpec.ofChange fnExactSortMapSpec)) fnExactSortMapCard

/-- THE TIED CARD OF 'laws.FnExactReadNumber'. -/
def fnExactReadNumberCard : Claim7 := { stood := { row := fnExactReadNumberRow, standIns := [], harness := (true, "1837d8bfec554897ce00b0358894a78f17099c199a0213f0980501d0a6448afe"), looks := true }, kinds := [], alts := [], laidByText := true, laidKinds := [.data, .data, .data, .data, .sentinel, .sentinel, .pinned], laidTests := true, laidLooks := .later }
def FnExactReadNumberCardSaid : Prop := Claim7.holds Tryd.pinned (.plain (OpenSpec.ofChange fnExactReadNumberSpec)) fnExactReadNumberCard

/-- THE TIED CARD OF 'laws.FnDecs'. -/
def fnDecsCard : Claim7 := { stood := { row := fnDecsRow, standIns := [], harness := (true, "1837d8bfec554897ce00b0358894a78f17099c199a0213f0980501d0a6448afe"), looks := true }, kinds := [], alts := [], laidByText := true, laidKinds := [.data, .data, .data, .data, .sentinel, .sentinel, .pinned], laidTests := true, laidLooks := .later }
def FnDecsCardSaid : Prop := Claim7.holds Tryd.pinned (.plain (OpenSpec.ofChange fnDecsSpec)) fnDecsCard

/-- THE TIED CARD OF 'laws.FnReads'. -/
def fnReadsCard : Claim7 := { stood := { row := fnReadsRow, standIns := [], harness := (true, "1837d8bfec554897ce00b0358894a78f17099c199a0213f0980501d0a6448afe"), looks := true }, kinds := [], alts := [], laidByText := true, laidKinds := [.data, .data, .data, .data, .sentinel, .sentinel, .pinned], laidTests := true, laidLooks := .later }
def FnReadsCardSaid : Prop := Claim7.holds Tryd.pinned (.plain (OpenSpec.ofChange fnReadsSpec)) fnReadsCard

/-- THE TIED CARD OF 'laws.FnFlts'. -/
def fnFltsCard : Claim7 := { stood := { row := fnFltsRow, standIns := [], harness := (true, "1837d8bfec554897ce00b0358894a78f17099c199a0213f0980501d0a6448afe"), looks := true }, kinds := [], alts := [], laidByText := true, laidKinds := [.data, .data, .data], laidTests := true, laidLooks := .later }
def FnFltsCardSaid : Prop := Claim7.holds Tryd.pinned (.plain (OpenSpec.ofChange fnFltsSpec)) fnFltsCard

/-- THE TIED CARD OF 'laws.FnNears'. -/
def fnNearsCard : Claim7 := { stood := { row := fnNearsRow, standIns := [], harness := (true, "1837d8bfec554897ce00b0358894a78f17099c199a0213f0980501d0a6448afe"), looks := true }, kinds := [], alts := [], laidByText := true, laidKinds := [.data, .data, .data], laidTests := true, laidLooks := .later }
def FnNearsCardSaid : Prop := Claim7.holds Tryd.pinned (.plain (OpenSpec.ofChange fnNearsSpec)) fnNearsCard

/-- THE TIED CARD OF 'laws.FnMaps'. -/
def fnMapsCard : Claim7 := { stood := { row := fnMapsRow, standIns := [], harness := (true, "1837d8bfec554897ce00b0358894a78f17099c199a0213f0980501d0a6448afe"), looks := true }, kinds := [], alts := [], laidByText := true, laidKinds := [.data, .data, .data], laidTests := true, laidLooks := .later }
def FnMapsCardSaid : Prop := Claim7.holds Tryd.pinned (.plain (OpenSpec.ofChange fnMapsSpec)) fnMapsCard

/-- THE TIED CARD OF 'laws.FnOrders'. -/
def fnOrdersCard : Claim7 := { stood := { row := fnOrdersRow, standIns := [], harness := (true, "1837d8bfec554897ce00b0358894a78f17099c199a0213f0980501d0a6448afe"), looks := true }, kinds := [], alts := [], laidByText := true, laidKinds := [.data, .data, .data, .data, .pinned], laidTests := true, laidLooks := .later }
def FnOrdersCardSaid : Prop := Claim7.holds Tryd.pinned (.plain (OpenSpec.ofChange fnOrdersSpec)) fnOrdersCard

/-- THE SECOND FORM's CARD OF 'laws.FnExactLessVal'. -/
def fnExactLessValUptoCard : Claim7 := { stood := { row := fnExactLessValUptoRow, standIns := [], harness := (true, "1837d8bfec554897ce00b0358894a78f17099c199a0213f0980501d0a6448afe"), looks := true }, kinds := [], alts := [], laidByText := true, laidKinds := [.data, .data, .data], laidTests := true, laidLooks := .later }
def FnExactLessValUptoCardSaid : Prop := Claim7.holds Tryd.pinned (.plain (OpenSpec.upto fnExactLessValSpec)) fnExactLessValUptoCard

/-- THE SECOND FORM's CARD OF 'laws.FnExactSorted'. -/
def fnExactSortedUptoCard : Claim7 := { stood := { row := fnExactSortedUptoRow, standIns := [], harness := (true, "1837d8bfec554897ce00b0358894a78f17099c199a0213f0980501d0a6448afe"), looks := true }, kinds := [], alts := [], laidByText := true, laidKinds := [.data, .data, .data], laidTests := true, laidLooks := .later }
def FnExactSortedUptoCardSaid : Prop := Claim7.holds Tryd.pinned (.plain (OpenSpec.upto fnExactSortedSpec)) fnExactSortedUptoCard

/-- THE SECOND FORM's CARD OF 'laws.FnExactSortMap'. -/
def fnExactSortMapUptoCard : Claim7 := { stood := { row := fnExactSortMapUptoRow, standIns := [], harness := (true, "1837d8bfec554897ce00b0358894a78f17099c199a0213f0980501d0a6448afe"), looks := true }, kinds := [], alts := [], laidByText := true, laidKinds := [.data, .data, .data], laidTests := true, laidLooks := .later }
def FnExactSortMapUptoCardSaid : Prop := Claim7.holds Tryd.pinned (.plain (OpenSpec.upto fnExactSortMapSpec)) fnExactSortMapUptoCard

/-- THE SECOND FORM's CARD OF 'laws.FnExactReadNumber'. -/
def fnExactReadNumberUptoCard : Claim7 := { stood := { row := fnExactReadNumberUptoRow, standIns := [], harness := (true, "1837d8bfec554897ce00b0358894a78f17099c199a0213f0980501d0a6448afe"), looks := true }, kinds := [], alts := [], laidByText := true, laidKinds := [.data, .data, .data, .data, .sentinel, .sentinel, .pinned], laidTests := true, laidLooks := .later }
def FnExactReadNumberUptoCardSaid : Prop := Claim7.holds Tryd.pinned (.plain (OpenSpec.upto fnExactReadNumberSpec)) fnExactReadNumberUptoCard

/-- THE SECOND FORM's CARD OF 'laws.FnDecs'. -/
def fnDecsUptoCard : Claim7 := { stood := { row := fnDecsUptoRow, standIns := [], harness := (true, "1837d8bfec554897ce00b0358894a78f17099c199a0213f0980501d0a6448afe"), looks := true }, kinds := [], alts := [], laidByText := true, laidKinds := [.data, .data, .data, .data, .sentinel, .sentinel, .pinned], laidTests := true, laidLooks := .later }
def FnDecsUptoCardSaid : Prop := Claim7.holds Tryd.pinned (.plain (OpenSpec.upto fnDecsSpec)) fnDecsUptoCard

/-- THE SECOND FORM's CARD OF 'laws.FnReads'. -/
def fnReadsUptoCard : Claim7 := { stood := { row := fnReadsUptoRow, standIns := [], harness := (true, "1837d8bfec554897ce00b0358894a78f17099c199a0213f0980501d0a6448afe"), looks := true }, kinds := [], alts := [], laidByText := true, laidKinds := [.data, .data, .data, .data, .sentinel, .sentinel, .pinned], laidTests := true, laidLooks := .later }
def FnReadsUptoCardSaid : Prop := Claim7.holds Tryd.pinned (.plain (OpenSpec.upto fnReadsSpec)) fnReadsUptoCard

/-- THE SECOND FORM's CARD OF 'laws.FnFlts'. -/
def fnFltsUptoCard : Claim7 := { stood := { row := fnFltsUptoRow, standIns := [], harness := (true, "1837d8bfec554897ce00b0358894a78f17099c199a0213f0980501d0a6448afe"), looks := true }, kinds := [], alts := [], laidByText := true, laidKinds := [.data, .data, .data], laidTests := true, laidLooks := .later }
def FnFltsUptoCardSaid : Prop := Claim7.holds Tryd.pinned (.plain (OpenSpec.upto fnFltsSpec)) fnFltsUptoCard

/-- THE SECOND FORM's CARD OF 'laws.FnNears'. -/
def fnNearsUptoCard : Claim7 := { stood := { row := fnNearsUptoRow, standIns := [], harness := (true, "1837d8bfec554897ce00b0358894a78f17099c199a0213f0980501d0a6448afe"), looks := true }, kinds := [], alts := [], laidByText := true, laidKinds := [.data, .data, .data], laidTests := true, laidLooks := .later }
def FnNearsUptoCardSaid : Prop := Claim7.holds Tryd.pinned (.plain (OpenSpec.upto fnNearsSpec)) fnNearsUptoCard

/-- THE SECOND FORM's CARD OF 'laws.FnMaps'. -/
def fnMapsUptoCard : Claim7 := { stood := { row := fnMapsUptoRow, standIns := [], harness := (true, "1837d8bfec554897ce00b0358894a78f17099c199a0213f0980501d0a6448afe"), looks := true }, kinds := [], alts := [], laidByText := true, laidKinds := [.data, .data, .data], laidTests := true, laidLooks := .later }
def FnMapsUptoCardSaid : Prop := Claim7.holds Tryd.pinned (.plain (OpenSpec.upto fnMapsSpec)) fnMapsUptoCard

/-- THE SECOND FORM's CARD OF 'laws.FnOrders'. -/
def fnOrdersUptoCard : Claim7 := { stood := { row := fnOrdersUptoRow, standIns := [], harness := (true, "1837d8bfec554897ce00b0358894a78f17099c199a0213f0980501d0a6448afe"), looks := true }, kinds := [], alts := [], laidByText := true, laidKinds := [.data, .data, .data, .data, .pinned], laidTests := true, laidLooks := .later }
def FnOrdersUptoCardSaid : Prop := Claim7.holds Tryd.pinned (.plain (OpenSpec.upto fnOrdersSpec)) fnOrdersUptoCard
end Rows
end Go.Proofs.YtilmhemcpgiikaaDoor
