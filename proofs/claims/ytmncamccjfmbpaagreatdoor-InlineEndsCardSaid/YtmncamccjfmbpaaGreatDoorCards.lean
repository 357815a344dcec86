/-
  DERIVED. GIVEN WITH THE SEED: THE CARDS: each row of YtmncamccjfmbpaaGreatDoorRows.lean that lists a variable, with what it lists TIED to the program's text (the seventh form; the later family's looks); each row that meets fmt, with fmt's text TOLD by the authors' own Lean function (tested against real Go, not proved from fmt's source: count such statements apart). THE CARD IS WHAT COUNTS. Prove the row's statement (the work); the ties are given (YtmncamccjfmbpaaGreatDoorTie.lean); close each card by the builder's one call (the guide's Derived/Test/ToyasCard.lean, 'card_holds'). Laid BY PROGRAM, IN A SANDBOX (cutbox-door.mjs). By AI agents, Wed Nov 11 2026. No macro, syntax, notation, axiom, sorry.
-/
import Derived.Test.YtmncamccjfmbpaaGreatDoorRows
import GoSem.ClaimSeven
namespace Go.Proofs.YtmncamccjfmbpaaGreatDoor
namespace Rows

/-- THE TIED CARD OF 'bonsailaw13.WellInlined'. -/
def wellInlinedCard : Claim7 := { stood := { row := wellInlinedRow, standIns := [], harness := (true, "34dc408f60bf6ee97a9f5e082f54be184583e947855a37fcd673cffe7e6a9e6b"), looks := false }, kinds := [], alts := [], laidByText := true, laidKinds := [.data, .data, .data, .data, .data, .data], laidTests := true, laidLooks := .later }
def WellInlinedCardSaid : Prop := Claim7.holds Tryz.pinned (.plain (OpenSpec.ofChange wellInlinedSpec)) wellInlinedCard

/-- THE TIED CARD OF 'bonsailaw17.FuelNames'. -/
def fuelNamesCard : Claim7 := { stood := { row := fuelNamesRow, standIns := [], harness := (true, "34dc408f60bf6ee97a9f5e082f54be184583e947855a37fcd673cffe7e6a9e6b"), looks := false }, kinds := [], alts := [], laidByText := true, laidKinds := [.data, .data, .data, .data, .data, .data], laidTests := true, laidLooks := .later }
def FuelNamesCardSaid : Prop := Claim7.holds Tryz.pinned (.plain (OpenSpec.ofChange fuelNamesSpec)) fuelNamesCard

/-- THE TIED CARD OF 'bonsailaw19.InlineBecomes'. -/
def inlineBecomesCard : Claim7 := { stood := { row := inlineBecomesRow, standIns := [], harness := (true, "34dc408f60bf6ee97a9f5e082f54be184583e947855a37fcd673cffe7e6a9e6b"), looks := false }, kinds := [], alts := [], laidByText := true, laidKinds := [.data, .data, .data, .data, .data, .data], laidTests := true, laidLooks := .later }
def InlineBecomesCardSaid : Prop := Claim7.holds Tryz.pinned (.plain (OpenSpec.ofChange inlineBecomesSpec)) inlineBecomesCard

/-- THE TIED CARD OF 'bonsailaw19.InlineTells'. -/
def inlineTellsCard : Claim7 := { stood := { row := inlineTellsRow, standIns := [], harness := (true, "34dc408f60bf6ee97a9f5e082f54be184583e947855a37fcd673cffe7e6a9e6b"), looks := false }, kinds := [], alts := [], laidByText := true, laidKinds := [.data, .data, .data, .data, .data, .data], laidTests := true, laidLooks := .later }
def InlineTellsCardSaid : Prop := Claim7.holds Tryz.pinned (.plain (OpenSpec.ofChange inlineTellsSpec)) inlineTellsCard

/-- THE TIED CARD OF 'bonsailaw19.InlineEnds'. -/
def inlineEndsCard : Claim7 := { stood := { row := inlineEndsRow, standIns := [], harness := (true, "34dc408f60bf6ee97a9f5e082f54be184583e947855a37fcd673cffe7e6a9e6b"), looks := false }, kinds := [], alts := [], laidByText := true, laidKinds := [.data, .data, .data, .data, .data, .data], laidTests := true, laidLooks := .later }
def InlineEndsCardSaid : Prop := Claim7.holds Tryz.pinned (.plain (OpenSpec.ofChange inlineEndsSpec)) inlineEndsCard

/-- THE TIED CARD OF 'bonsailaw19.InlineNames'. -/
def inlineNamesCard : Claim7 := { stood := { row := inlineNamesRow, standIns := [], harness := (true, "34dc408f60bf6ee97a9f5e082f54be184583e947855a37fcd673cffe7e6a9e6b"), looks := false }, kinds := [], alts := [], laidByText := true, laidKinds := [.data, .data, .data, .data, .data, .data], laidTests := true, laidLooks := .later }
def InlineNamesCardSaid : Prop := Claim7.holds Tryz.pinned (.plain (OpenSpec.ofChange inlineNamesSpec)) inlineNamesCard

/-- THE TIED CARD OF 'bonsailaw19.InlineAll'. -/
def inlineAllCard : Claim7 := { stood := { row := inlineAllRow, standIns := [], harness := (true, "34dc408f60bf6ee97a9f5e082f54be184583e947855a37fcd673cffe7e6a9e6b"), looks := false }, kinds := [], alts := [], laidByText := true, laidKinds := [.data, .data, .data, .data, .data, .data], laidTests := true, laidLooks := .later }
def InlineAllCardSaid : Prop := Claim7.holds Tryz.pinned (.plain (OpenSpec.ofChange inlineAllSpec)) inlineAllCard

/-- THE TIED CARD OF 'bonsailaw19.InlineMeans'. -/
def inlineMeansCard : Claim7 := { stood := { row := inlineMeansRow, standIns := [], harness := (true, "34dc408f60bf6ee97a9f5e082f54be184583e947855a37fcd673cffe7e6a9e6b"), looks := false }, kinds := [], alts := [], laidByText := true, laidKinds := [.data, .data, .data, .data, .data, .data], laidTests := true, laidLooks := .later }
def InlineMeansCardSaid : Prop := Claim7.holds Tryz.pinned (.plain (OpenSpec.ofChange inlineMeansSpec)) inlineMeansCard

/-- THE SECOND FORM's CARD OF 'bonsailaw13.WellInlined'. -/
def wellInlinedUptoCard : Claim7 := { stood := { row := wellInlinedUptoRow, standIns := [], harness := (true, "34dc408f60bf6ee97a9f5e082f54be184583e947855a37fcd673cffe7e6a9e6b"), looks := false }, kinds := [], alts := [], laidByText := true, laidKinds := [.data, .data, .data, .data, .data, .data], laidTests := true, laidLooks := .later }
def WellInlinedUptoCardSaid : Prop := Claim7.holds Tryz.pinned (.plain (OpenSpec.upto wellInlinedSpec)) wellInlinedUptoCard

/-- THE SECOND FORM's CARD OF 'bonsailaw17.FuelNames'. -/
def fuelNamesUptoCard : Claim7 := { stood := { row := fuelNamesUptoRow, standIns := [], harness := (true, "34dc408f60bf6ee97a9f5e082f54be184583e947855a37fcd673cffe7e6a9e6b"), looks := false }, kinds := [], alts := [], laidByText := true, laidKinds := [.data, .data, .data, .data, .data, .data], laidTests := true, laidLooks := .later }
def FuelNamesUptoCardSaid : Prop := Claim7.holds Tryz.pinned (.plain (OpenSpec.upto fuelNamesSpec)) fuelNamesUptoCard

/-- THE SECOND FORM's CARD OF 'bonsailaw19.InlineBecomes'. -/
def inlineBecomesUptoCard : Claim7 := { stood := { row := inlineBecomesUptoRow, standIns := [], harness := (true, "34dc408f60bf6ee97a9f5e082f54be184583e947855a37fcd673cffe7e6a9e6b"), looks := false }, kinds := [], alts := [], laidByText := true, laidKinds := [.data, .data, .data, .data, .data, .data], laidTests := true, laidLooks := .later }
def InlineBecomesUptoCardSaid : Prop := Claim7.holds Tryz.pinned (.plain (OpenSpec.upto inlineBecomesSpec)) inlineBecomesUptoCard

/-- THE SECOND FORM's CARD OF 'bonsailaw19.InlineTells'. -/
def inlineTellsUptoCard : Claim7 := { stood := { row := inlineTellsUptoRow, standIns := [], harness := (true, "34dc408f60bf6ee97a9f5e082f54be184583e947855a37fcd673cffe7e6a9e6b"), looks := false }, kinds := [], alts := [], laidByText := true, laidKinds := [.data, .data, .data, .data, .data, .data], laidTests := true, laidLooks := .later }
def InlineTellsUptoCardSaid : Prop := Claim7.holds Tryz.pinned (.plain (OpenSpec.upto inlineTellsSpec)) inlineTellsUptoCard

/-- THE SECOND FORM's CARD OF 'bonsailaw19.InlineEnds'. -/
def inlineEndsUptoCard : Claim7 := { stood := { row := inlineEndsUptoRow, standIns := [], harness := (true, "34dc408f60bf6ee97a9f5e082f54be184583e947855a37fcd673cffe7e6a9e6b"), looks := false }, kinds := [], alts := [], laidByText := true, laidKinds := [.data, .data, .data, .data, .data, .data], laidTests := true, laidLooks := .later }
def InlineEndsUptoCardSaid : Prop := Claim7.holds Tryz.pinned (.plain (OpenSpec.upto inlineEndsSpec)) inlineEndsUptoCard

/-- THE SECOND FORM's CARD OF 'bonsailaw19.InlineNames'. -/
def inlineNamesUptoCard : Claim7 := { stood := { row := inlineNamesUptoRow, standIns := [], harness := (true, "34dc408f60bf6ee97a9f5e082f54be184583e947855a37fcd673cffe7e6a9e6b"), looks := false }, kinds := [], alts := [], laidByText := true, laidKinds := [.data, .data, .data, .data, .data, .data], laidTests := true, laidLooks := .later }
def InlineNamesUptoCardSaid : Prop := Claim7.holds Tryz.pinned (.plain (OpenSpec.upto inlineNamesSpec)) inlineNamesUptoCard

/-- THE SECOND FORM's CARD OF 'bonsailaw19.InlineAll'. -/
def inlineAllUptoCard : Claim7 := { stood := { row := inlineAllUptoRow, standIns := [], harness := (true, "34dc408f60bf6ee97a9f5e082f54be184583e947855a37fcd673cffe7e6a9e6b"), looks := false }, kinds := [], alts := [], laidByText := true, laidKinds := [.data, .data, .data, .data, .data, .data], laidTests := true, laidLooks := .later }
def InlineAllUptoCardSaid : Prop := Claim7.holds Tryz.pinned (.plain (OpenSpec.upto inlineAllSpec)) inlineAllUptoCard

/-- THE SECOND FORM's CARD OF 'bonsailaw19.InlineMeans'. -/
def inlineMeansUptoCard : Claim7 := { stood := { row := inlineMeansUptoRow, standIns := [], harness := (true, "34dc408f60bf6ee97a9f5e082f54be184583e947855a37fcd673cffe7e6a9e6b"), looks := false }, kinds := [], alts := [], laidByText := true, laidKinds := [.data, .data, .data, .data, .data, .data], laidTests := true, laidLooks := .later }
def InlineMeansUptoCardSaid : Prop := Claim7.holds Tryz.pinned (.plain (OpenSpec.upto inlineMeansSpec)) inlineMeansUptoCard
end Rows
end Go.Proofs.YtmncamccjfmbpaaGreatDoor
