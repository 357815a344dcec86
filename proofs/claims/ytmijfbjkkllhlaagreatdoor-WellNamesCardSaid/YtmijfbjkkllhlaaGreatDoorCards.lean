/-
  DERIVED. GIVEN WITH THE SEED: THE CARDS: each row of YtmijfbjkkllhlaaGreatDoorRows.lean that lists a variable, with what it lists TIED to the program's text (the seventh form; the later family's looks); each row that meets fmt, with fmt's text TOLD by the authors' own Lean function (tested against real Go, not proved from fmt's source: count such statements apart). THE CARD IS WHAT COUNTS. Prove the row's statement (the work); the ties are given (YtmijfbjkkllhlaaGreatDoorTie.lean); close each card by the builder's one call (the guide's Derived/Test/ToyasCard.lean, 'card_holds'). Laid BY PROGRAM, IN A SANDBOX (cutbox-door.mjs). By AI agents, Wed Nov 11 2026. No macro, syntax, notation, axiom, sorry.
-/
import Derived.Test.YtmijfbjkkllhlaaGreatDoorRows
import GoSem.ClaimSeven
namespace Go.Proofs.YtmijfbjkkllhlaaGreatDoor
namespace Rows

/-- THE TIED CARD OF 'bonsailaw13.WellTells'. -/
def wellTellsCard : Claim7 := { stood := { row := wellTellsRow, standIns := [], harness := (true, "ac65786aaa9cdb5ac77204951a35a73bd19f7c0737b0807525888dadb92ca83c"), looks := false }, kinds := [], alts := [], laidByText := true, laidKinds := [.data, .data, .data, .data, .data, .data], laidTests := true, laidLooks := .later }
def WellTellsCardSaid : Prop := Claim7.holds Tryz.pinned (.plain (OpenSpec.ofChange wellTellsSpec)) wellTellsCard

/-- THE TIED CARD OF 'bonsailaw13.WellRow'. -/
def wellRowCard : Claim7 := { stood := { row := wellRowRow, standIns := [], harness := (true, "ac65786aaa9cdb5ac77204951a35a73bd19f7c0737b0807525888dadb92ca83c"), looks := false }, kinds := [], alts := [], laidByText := true, laidKinds := [.data, .data, .data, .data, .data, .data], laidTests := true, laidLooks := .later }
def WellRowCardSaid : Prop := Claim7.holds Tryz.pinned (.plain (OpenSpec.ofChange wellRowSpec)) wellRowCard

/-- THE TIED CARD OF 'bonsailaw13.WellNames'. -/
def wellNamesCard : Claim7 := { stood := { row := wellNamesRow, standIns := [], harness := (true, "ac65786aaa9cdb5ac77204951a35a73bd19f7c0737b0807525888dadb92ca83c"), looks := false }, kinds := [], alts := [], laidByText := true, laidKinds := [.data, .data, .data, .data, .data, .data], laidTests := true, laidLooks := .later }
def WellNamesCardSaid : Prop := Claim7.holds Tryz.pinned (.plain (OpenSpec.ofChange wellNamesSpec)) wellNamesCard

/-- THE TIED CARD OF 'bonsailaw11.FirstTells'. -/
def firstTellsCard : Claim7 := { stood := { row := firstTellsRow, standIns := [], harness := (true, "ac65786aaa9cdb5ac77204951a35a73bd19f7c0737b0807525888dadb92ca83c"), looks := false }, kinds := [], alts := [], laidByText := true, laidKinds := [.data, .data, .data, .data, .data, .data], laidTests := true, laidLooks := .later }
def FirstTellsCardSaid : Prop := Claim7.holds Tryz.pinned (.plain (OpenSpec.ofChange firstTellsSpec)) firstTellsCard

/-- THE TIED CARD OF 'bonsailaw11.FirstFlows'. -/
def firstFlowsCard : Claim7 := { stood := { row := firstFlowsRow, standIns := [], harness := (true, "ac65786aaa9cdb5ac77204951a35a73bd19f7c0737b0807525888dadb92ca83c"), looks := false }, kinds := [], alts := [], laidByText := true, laidKinds := [.data, .data, .data, .data, .data, .data], laidTests := true, laidLooks := .later }
def FirstFlowsCardSaid : Prop := Claim7.holds Tryz.pinned (.plain (OpenSpec.ofChange firstFlowsSpec)) firstFlowsCard

/-- THE TIED CARD OF 'bonsailaw13.WellCalled'. -/
def wellCalledCard : Claim7 := { stood := { row := wellCalledRow, standIns := [], harness := (true, "ac65786aaa9cdb5ac77204951a35a73bd19f7c0737b0807525888dadb92ca83c"), looks := false }, kinds := [], alts := [], laidByText := true, laidKinds := [.data, .data, .data, .data, .data, .data], laidTests := true, laidLooks := .later }
def WellCalledCardSaid : Prop := Claim7.holds Tryz.pinned (.plain (OpenSpec.ofChange wellCalledSpec)) wellCalledCard

/-- THE TIED CARD OF 'bonsailaw11.FirstNames'. -/
def firstNamesCard : Claim7 := { stood := { row := firstNamesRow, standIns := [], harness := (true, "ac65786aaa9cdb5ac77204951a35a73bd19f7c0737b0807525888dadb92ca83c"), looks := false }, kinds := [], alts := [], laidByText := true, laidKinds := [.data, .data, .data, .data, .data, .data], laidTests := true, laidLooks := .later }
def FirstNamesCardSaid : Prop := Claim7.holds Tryz.pinned (.plain (OpenSpec.ofChange firstNamesSpec)) firstNamesCard

/-- THE TIED CARD OF 'bonsailaw11.FirstTwo'. -/
def firstTwoCard : Claim7 := { stood := { row := firstTwoRow, standIns := [], harness := (true, "ac65786aaa9cdb5ac77204951a35a73bd19f7c0737b0807525888dadb92ca83c"), looks := false }, kinds := [], alts := [], laidByText := true, laidKinds := [.data, .data, .data, .data, .data, .data], laidTests := true, laidLooks := .later }
def FirstTwoCardSaid : Prop := Claim7.holds Tryz.pinned (.plain (OpenSpec.ofChange firstTwoSpec)) firstTwoCard

/-- THE TIED CARD OF 'bonsailaw11.FirstClosed'. -/
def firstClosedCard : Claim7 := { stood := { row := firstClosedRow, standIns := [], harness := (true, "ac65786aaa9cdb5ac77204951a35a73bd19f7c0737b0807525888dadb92ca83c"), looks := false }, kinds := [], alts := [], laidByText := true, laidKinds := [.data, .data, .data, .data, .data, .data], laidTests := true, laidLooks := .later }
def FirstClosedCardSaid : Prop := Claim7.holds Tryz.pinned (.plain (OpenSpec.ofChange firstClosedSpec)) firstClosedCard

/-- THE TIED CARD OF 'bonsailaw11.FirstBrackets'. -/
def firstBracketsCard : Claim7 := { stood := { row := firstBracketsRow, standIns := [], harness := (true, "ac65786aaa9cdb5ac77204951a35a73bd19f7c0737b0807525888dadb92ca83c"), looks := false }, kinds := [], alts := [], laidByText := true, laidKinds := [.data, .data, .data, .data, .data, .data], laidTests := true, laidLooks := .later }
def FirstBracketsCardSaid : Prop := Claim7.holds Tryz.pinned (.plain (OpenSpec.ofChange firstBracketsSpec)) firstBracketsCard

/-- THE TIED CARD OF 'bonsailaw13.WellDrops'. -/
def wellDropsCard : Claim7 := { stood := { row := wellDropsRow, standIns := [], harness := (true, "ac65786aaa9cdb5ac77204951a35a73bd19f7c0737b0807525888dadb92ca83c"), looks := false }, kinds := [], alts := [], laidByText := true, laidKinds := [.data, .data, .data, .data, .data, .data], laidTests := true, laidLooks := .later }
def WellDropsCardSaid : Prop := Claim7.holds Tryz.pinned (.plain (OpenSpec.ofChange wellDropsSpec)) wellDropsCard

/-- THE TIED CARD OF 'bonsailaw13.WellInlined'. -/
def wellInlinedCard : Claim7 := { stood := { row := wellInlinedRow, standIns := [], harness := (true, "ac65786aaa9cdb5ac77204951a35a73bd19f7c0737b0807525888dadb92ca83c"), looks := false }, kinds := [], alts := [], laidByText := true, laidKinds := [.data, .data, .data, .data, .data, .data], laidTests := true, laidLooks := .later }
def WellInlinedCardSaid : Prop := Claim7.holds Tryz.pinned (.plain (OpenSpec.ofChange wellInlinedSpec)) wellInlinedCard

/-- THE SECOND FORM's CARD OF 'bonsailaw13.WellTells'. -/
def wellTellsUptoCard : Claim7 := { stood := { row := wellTellsUptoRow, standIns := [], harness := (true, "ac65786aaa9cdb5ac77204951a35a73bd19f7c0737b0807525888dadb92ca83c"), looks := false }, kinds := [], alts := [], laidByText := true, laidKinds := [.data, .data, .data, .data, .data, .data], laidTests := true, laidLooks := .later }
def WellTellsUptoCardSaid : Prop := Claim7.holds Tryz.pinned (.plain (OpenSpec.upto wellTellsSpec)) wellTellsUptoCard

/-- THE SECOND FORM's CARD OF 'bonsailaw13.WellRow'. -/
def wellRowUptoCard : Claim7 := { stood := { row := wellRowUptoRow, standIns := [], harness := (true, "ac65786aaa9cdb5ac77204951a35a73bd19f7c0737b0807525888dadb92ca83c"), looks := false }, kinds := [], alts := [], laidByText := true, laidKinds := [.data, .data, .data, .data, .data, .data], laidTests := true, laidLooks := .later }
def WellRowUptoCardSaid : Prop := Claim7.holds Tryz.pinned (.plain (OpenSpec.upto wellRowSpec)) wellRowUptoCard

/-- THE SECOND FORM's CARD OF 'bonsailaw13.WellNames'. -/
def wellNamesUptoCard : Claim7 := { stood := { row := wellNamesUptoRow, standIns := [], harness := (true, "ac65786aaa9cdb5ac77204951a35a73bd19f7c0737b0807525888dadb92ca83c"), looks := false }, kinds := [], alts := [], laidByText := true, laidKinds := [.data, .data, .data, .data, .data, .data], laidTests := true, laidLooks := .later }
def WellNamesUptoCardSaid : Prop := Claim7.holds Tryz.pinned (.plain (OpenSpec.upto wellNamesSpec)) wellNamesUptoCard

/-- THE SECOND FORM's CARD OF 'bonsailaw11.FirstTells'. -/
def firstTellsUptoCard : Claim7 := { stood := { row := firstTellsUptoRow, standIns := [], harness := (true, "ac65786aaa9cdb5ac77204951a35a73bd19f7c0737b0807525888dadb92ca83c"), looks := false }, kinds := [], alts := [], laidByText := true, laidKinds := [.data, .data, .data, .data, .data, .data], laidTests := true, laidLooks := .later }
def FirstTellsUptoCardSaid : Prop := Claim7.holds Tryz.pinned (.plain (OpenSpec.upto firstTellsSpec)) firstTellsUptoCard

/-- THE SECOND FORM's CARD OF 'bonsailaw11.FirstFlows'. -/
def firstFlowsUptoCard : Claim7 := { stood := { row := firstFlowsUptoRow, standIns := [], harness := (true, "ac65786aaa9cdb5ac77204951a35a73bd19f7c0737b0807525888dadb92ca83c"), looks := false }, kinds := [], alts := [], laidByText := true, laidKinds := [.data, .data, .data, .data, .data, .data], laidTests := true, laidLooks := .later }
def FirstFlowsUptoCardSaid : Prop := Claim7.holds Tryz.pinned (.plain (OpenSpec.upto firstFlowsSpec)) firstFlowsUptoCard

/-- THE SECOND FORM's CARD OF 'bonsailaw13.WellCalled'. -/
def wellCalledUptoCard : Claim7 := { stood := { row := wellCalledUptoRow, standIns := [], harness := (true, "ac65786aaa9cdb5ac77204951a35a73bd19f7c0737b0807525888dadb92ca83c"), looks := false }, kinds := [], alts := [], laidByText := true, laidKinds := [.data, .data, .data, .data, .data, .data], laidTests := true, laidLooks := .later }
def WellCalledUptoCardSaid : Prop := Claim7.holds Tryz.pinned (.plain (OpenSpec.upto wellCalledSpec)) wellCalledUptoCard

/-- THE SECOND FORM's CARD OF 'bonsailaw11.FirstNames'. -/
def firstNamesUptoCard : Claim7 := { stood := { row := firstNamesUptoRow, standIns := [], harness := (true, "ac65786aaa9cdb5ac77204951a35a73bd19f7c0737b0807525888dadb92ca83c"), looks := false }, kinds := [], alts := [], laidByText := true, laidKinds := [.data, .data, .data, .data, .data, .data], laidTests := true, laidLooks := .later }
def FirstNamesUptoCardSaid : Prop := Claim7.holds Tryz.pinned (.plain (OpenSpec.upto firstNamesSpec)) firstNamesUptoCard

/-- THE SECOND FORM's CARD OF 'bonsailaw11.FirstTwo'. -/
def firstTwoUptoCard : Claim7 := { stood := { row := firstTwoUptoRow, standIns := [], harness := (true, "ac65786aaa9cdb5ac77204951a35a73bd19f7c0737b0807525888dadb92ca83c"), looks := false }, kinds := [], alts := [], laidByText := true, laidKinds := [.data, .data, .data, .data, .data, .data], laidTests := true, laidLooks := .later }
def FirstTwoUptoCardSaid : Prop := Claim7.holds Tryz.pinned (.plain (OpenSpec.upto firstTwoSpec)) firstTwoUptoCard

/-- THE SECOND FORM's CARD OF 'bonsailaw11.FirstClosed'. -/
def firstClosedUptoCard : Claim7 := { stood := { row := firstClosedUptoRow, standIns := [], harness := (true, "ac65786aaa9cdb5ac77204951a35a73bd19f7c0737b0807525888dadb92ca83c"), looks := false }, kinds := [], alts := [], laidByText := true, laidKinds := [.data, .data, .data, .data, .data, .data], laidTests := true, laidLooks := .later }
def FirstClosedUptoCardSaid : Prop := Claim7.holds Tryz.pinned (.plain (OpenSpec.upto firstClosedSpec)) firstClosedUptoCard

/-- THE SECOND FORM's CARD OF 'bonsailaw11.FirstBrackets'. -/
def firstBracketsUptoCard : Claim7 := { stood := { row := firstBracketsUptoRow, standIns := [], harness := (true, "ac65786aaa9cdb5ac77204951a35a73bd19f7c0737b0807525888dadb92ca83c"), looks := false }, kinds := [], alts := [], laidByText := true, laidKinds := [.data, .data, .data, .data, .data, .data], laidTests := true, laidLooks := .later }
def FirstBracketsUptoCardSaid : Prop := Claim7.holds Tryz.pinned (.plain (OpenSpec.upto firstBracketsSpec)) firstBracketsUptoCard

/-- THE SECOND FORM's CARD OF 'bonsailaw13.WellDrops'. -/
def wellDropsUptoCard : Claim7 := { stood := { row := wellDropsUptoRow, standIns := [], harness := (true, "ac65786aaa9cdb5ac77204951a35a73bd19f7c0737b0807525888dadb92ca83c"), looks := false }, kinds := [], alts := [], laidByText := true, laidKinds := [.data, .data, .data, .data, .data, .data], laidTests := true, laidLooks := .later }
def WellDropsUptoCardSaid : Prop := Claim7.holds Tryz.pinned (.plain (OpenSpec.upto wellDropsSpec)) wellDropsUptoCard

/-- THE SECOND FORM's CARD OF 'bonsailaw13.WellInlined'. -/
def wellInlinedUptoCard : Claim7 := { stood := { row := wellInlinedUptoRow, standIns := [], harness := (true, "ac65786aaa9cdb5ac77204951a35a73bd19f7c0737b0807525888dadb92ca83c"), looks := false }, kinds := [], alts := [], laidByText := true, laidKinds := [.data, .data, .data, .data, .data, .data], laidTests := true, laidLooks := .later }
def WellInlinedUptoCardSaid : Prop := Claim7.holds Tryz.pinned (.plain (OpenSpec.upto wellInlinedSpec)) wellInlinedUptoCard
end Rows
end Go.Proofs.YtmijfbjkkllhlaaGreatDoor
