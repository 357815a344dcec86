/-
  DERIVED. GIVEN WITH THE SEED: THE CARDS: each row of YtbcembbdimcdlaaGreatDoorRows.lean that lists a variable, with what it lists TIED to the program's text (the seventh form; the later family's looks); each row that meets fmt, with fmt's text TOLD by the authors' own Lean function (tested against real Go, not proved from fmt's source: count such statements apart). THE CARD IS WHAT COUNTS. Prove the row's statement (the work); the ties are given (YtbcembbdimcdlaaGreatDoorTie.lean); close each card by the builder's one call (the guide's Derived/Test/ToyasCard.lean, 'card_holds'). Laid BY PROGRAM, IN A SANDBOX (cutbox-door.mjs). By AI agents, Wed Nov 11 2026. No macro, syntax, notation, axiom, sorry.
-/
import Derived.Test.YtbcembbdimcdlaaGreatDoorRows
import GoSem.ClaimSeven
namespace Go.Proofs.YtbcembbdimcdlaaGreatDoor
namespace Rows

/-- THE TIED CARD OF 'bonsailaw15.TableDerived'. -/
def tableDerivedCard : Claim7 := { stood := { row := tableDerivedRow, standIns := [], harness := (true, "cc8aaf67895ba166f217af536ac651b8abf2431af97f19c3221963ebd29ee379"), looks := false }, kinds := [], alts := [], laidByText := true, laidKinds := [.data, .data, .data, .data, .data, .data], laidTests := true, laidLooks := .later }
def TableDerivedCardSaid : Prop := Claim7.holds Tryz.pinned (.plain (OpenSpec.ofChange tableDerivedSpec)) tableDerivedCard

/-- THE TIED CARD OF 'bonsailaw15.TableTells'. -/
def tableTellsCard : Claim7 := { stood := { row := tableTellsRow, standIns := [], harness := (true, "cc8aaf67895ba166f217af536ac651b8abf2431af97f19c3221963ebd29ee379"), looks := false }, kinds := [], alts := [], laidByText := true, laidKinds := [.data, .data, .data, .data, .data, .data], laidTests := true, laidLooks := .later }
def TableTellsCardSaid : Prop := Claim7.holds Tryz.pinned (.plain (OpenSpec.ofChange tableTellsSpec)) tableTellsCard

/-- THE TIED CARD OF 'bonsailaw19.InlineBecomes'. -/
def inlineBecomesCard : Claim7 := { stood := { row := inlineBecomesRow, standIns := [], harness := (true, "cc8aaf67895ba166f217af536ac651b8abf2431af97f19c3221963ebd29ee379"), looks := false }, kinds := [], alts := [], laidByText := true, laidKinds := [.data, .data, .data, .data, .data, .data], laidTests := true, laidLooks := .later }
def InlineBecomesCardSaid : Prop := Claim7.holds Tryz.pinned (.plain (OpenSpec.ofChange inlineBecomesSpec)) inlineBecomesCard

/-- THE TIED CARD OF 'bonsailaw19.InlineEnds'. -/
def inlineEndsCard : Claim7 := { stood := { row := inlineEndsRow, standIns := [], harness := (true, "cc8aaf67895ba166f217af536ac651b8abf2431af97f19c3221963ebd29ee379"), looks := false }, kinds := [], alts := [], laidByText := true, laidKinds := [.data, .data, .data, .data, .data, .data], laidTests := true, laidLooks := .later }
def InlineEndsCardSaid : Prop := Claim7.holds Tryz.pinned (.plain (OpenSpec.ofChange inlineEndsSpec)) inlineEndsCard

/-- THE TIED CARD OF 'bonsailaw19.InlineAll'. -/
def inlineAllCard : Claim7 := { stood := { row := inlineAllRow, standIns := [], harness := (true, "cc8aaf67895ba166f217af536ac651b8abf2431af97f19c3221963ebd29ee379"), looks := false }, kinds := [], alts := [], laidByText := true, laidKinds := [.data, .data, .data, .data, .data, .data], laidTests := true, laidLooks := .later }
def InlineAllCardSaid : Prop := Claim7.holds Tryz.pinned (.plain (OpenSpec.ofChange inlineAllSpec)) inlineAllCard

/-- THE TIED CARD OF 'bonsailaw19.InlineMeans'. -/
def inlineMeansCard : Claim7 := { stood := { row := inlineMeansRow, standIns := [], harness := (true, "cc8aaf67895ba166f217af536ac651b8abf2431af97f19c3221963ebd29ee379"), looks := false }, kinds := [], alts := [], laidByText := true, laidKinds := [.data, .data, .data, .data, .data, .data], laidTests := true, laidLooks := .later }
def InlineMeansCardSaid : Prop := Claim7.holds Tryz.pinned (.plain (OpenSpec.ofChange inlineMeansSpec)) inlineMeansCard

/-- THE SECOND FORM's CARD OF 'bonsailaw15.TableDerived'. -/
def tableDerivedUptoCard : Claim7 := { stood := { row := tableDerivedUptoRow, standIns := [], harness := (true, "cc8aaf67895ba166f217af536ac651b8abf2431af97f19c3221963ebd29ee379"), looks := false }, kinds := [], alts := [], laidByText := true, laidKinds := [.data, .data, .data, .data, .data, .data], laidTests := true, laidLooks := .later }
def TableDerivedUptoCardSaid : Prop := Claim7.holds Tryz.pinned (.plain (OpenSpec.upto tableDerivedSpec)) tableDerivedUptoCard

/-- THE SECOND FORM's CARD OF 'bonsailaw15.TableTells'. -/
def tableTellsUptoCard : Claim7 := { stood := { row := tableTellsUptoRow, standIns := [], harness := (true, "cc8aaf67895ba166f217af536ac651b8abf2431af97f19c3221963ebd29ee379"), looks := false }, kinds := [], alts := [], laidByText := true, laidKinds := [.data, .data, .data, .data, .data, .data], laidTests := true, laidLooks := .later }
def TableTellsUptoCardSaid : Prop := Claim7.holds Tryz.pinned (.plain (OpenSpec.upto tableTellsSpec)) tableTellsUptoCard

/-- THE SECOND FORM's CARD OF 'bonsailaw19.InlineBecomes'. -/
def inlineBecomesUptoCard : Claim7 := { stood := { row := inlineBecomesUptoRow, standIns := [], harness := (true, "cc8aaf67895ba166f217af536ac651b8abf2431af97f19c3221963ebd29ee379"), looks := false }, kinds := [], alts := [], laidByText := true, laidKinds := [.data, .data, .data, .data, .data, .data], laidTests := true, laidLooks := .later }
def InlineBecomesUptoCardSaid : Prop := Claim7.holds Tryz.pinned (.plain (OpenSpec.upto inlineBecomesSpec)) inlineBecomesUptoCard

/-- THE SECOND FORM's CARD OF 'bonsailaw19.InlineEnds'. -/
def inlineEndsUptoCard : Claim7 := { stood := { row := inlineEndsUptoRow, standIns := [], harness := (true, "cc8aaf67895ba166f217af536ac651b8abf2431af97f19c3221963ebd29ee379"), looks := false }, kinds := [], alts := [], laidByText := true, laidKinds := [.data, .data, .data, .data, .data, .data], laidTests := true, laidLooks := .later }
def InlineEndsUptoCardSaid : Prop := Claim7.holds Tryz.pinned (.plain (OpenSpec.upto inlineEndsSpec)) inlineEndsUptoCard

/-- THE SECOND FORM's CARD OF 'bonsailaw19.InlineAll'. -/
def inlineAllUptoCard : Claim7 := { stood := { row := inlineAllUptoRow, standIns := [], harness := (true, "cc8aaf67895ba166f217af536ac651b8abf2431af97f19c3221963ebd29ee379"), looks := false }, kinds := [], alts := [], laidByText := true, laidKinds := [.data, .data, .data, .data, .data, .data], laidTests := true, laidLooks := .later }
def InlineAllUptoCardSaid : Prop := Claim7.holds Tryz.pinned (.plain (OpenSpec.upto inlineAllSpec)) inlineAllUptoCard

/-- THE SECOND FORM's CARD OF 'bonsailaw19.InlineMeans'. -/
def inlineMeansUptoCard : Claim7 := { stood := { row := inlineMeansUptoRow, standIns := [], harness := (true, "cc8aaf67895ba166f217af536ac651b8abf2431af97f19c3221963ebd29ee379"), looks := false }, kinds := [], alts := [], laidByText := true, laidKinds := [.data, .data, .data, .data, .data, .data], laidTests := true, laidLooks := .later }
def InlineMeansUptoCardSaid : Prop := Claim7.holds Tryz.pinned (.plain (OpenSpec.upto inlineMeansSpec)) inlineMeansUptoCard
end Rows
end Go.Proofs.YtbcembbdimcdlaaGreatDoor
