/-
  DERIVED. GIVEN WITH THE SEED: THE CARDS: each row of YtjambecdkaahmaaGreatDoorRows.lean that lists a variable, with what it lists TIED to the program's text (the seventh form; the later family's looks); each row that meets fmt, with fmt's text TOLD by the authors' own Lean function (tested against real Go, not proved from fmt's source: count such statements apart). THE CARD IS WHAT COUNTS. Prove the row's statement (the work); the ties are given (YtjambecdkaahmaaGreatDoorTie.lean); close each card by the builder's one call (the guide's Derived/Test/ToyasCard.lean, 'card_holds'). Laid BY PROGRAM, IN A SANDBOX (cutbox-door.mjs). By AI agents, Wed Nov 11 2026. No macro, syntax, notation, axiom, sorry.
-/
import Derived.Test.YtjambecdkaahmaaGreatDoorRows
import GoSem.ClaimSeven
namespace Go.Proofs.YtjambecdkaahmaaGreatDoor
namespace Rows

/-- THE TIED CARD OF 'bonsailaw15.TableFlows'. -/
def tableFlowsCard : Claim7 := { stood := { row := tableFlowsRow, standIns := [], harness := (true, "39a6ce8a499866adced8f47668c8134e933105eaef65c93e8f203f0e4f93e92a"), looks := false }, kinds := [], alts := [], laidByText := true, laidKinds := [.data, .data, .data, .data, .data, .data], laidTests := true, laidLooks := .later }
def TableFlowsCardSaid : Prop := Claim7.holds Tryz.pinned (.plain (OpenSpec.ofChange tableFlowsSpec)) tableFlowsCard

/-- THE TIED CARD OF 'bonsailaw15.TableDerived'. -/
def tableDerivedCard : Claim7 := { stood := { row := tableDerivedRow, standIns := [], harness := (true, "39a6ce8a499866adced8f47668c8134e933105eaef65c93e8f203f0e4f93e92a"), looks := false }, kinds := [], alts := [], laidByText := true, laidKinds := [.data, .data, .data, .data, .data, .data], laidTests := true, laidLooks := .later }
def TableDerivedCardSaid : Prop := Claim7.holds Tryz.pinned (.plain (OpenSpec.ofChange tableDerivedSpec)) tableDerivedCard

/-- THE TIED CARD OF 'bonsailaw25.PruneMeans'. -/
def pruneMeansCard : Claim7 := { stood := { row := pruneMeansRow, standIns := [], harness := (true, "39a6ce8a499866adced8f47668c8134e933105eaef65c93e8f203f0e4f93e92a"), looks := false }, kinds := [], alts := [], laidByText := true, laidKinds := [.data, .data, .data, .data, .data, .data], laidTests := true, laidLooks := .later }
def PruneMeansCardSaid : Prop := Claim7.holds Tryz.pinned (.plain (OpenSpec.ofChange pruneMeansSpec)) pruneMeansCard

/-- THE TIED CARD OF 'bonsailaw17.FuelRight'. -/
def fuelRightCard : Claim7 := { stood := { row := fuelRightRow, standIns := [], harness := (true, "39a6ce8a499866adced8f47668c8134e933105eaef65c93e8f203f0e4f93e92a"), looks := false }, kinds := [], alts := [], laidByText := true, laidKinds := [.data, .data, .data, .data, .data, .data], laidTests := true, laidLooks := .later }
def FuelRightCardSaid : Prop := Claim7.holds Tryz.pinned (.plain (OpenSpec.ofChange fuelRightSpec)) fuelRightCard

/-- THE TIED CARD OF 'bonsailaw17.FuelEnough'. -/
def fuelEnoughCard : Claim7 := { stood := { row := fuelEnoughRow, standIns := [], harness := (true, "39a6ce8a499866adced8f47668c8134e933105eaef65c93e8f203f0e4f93e92a"), looks := false }, kinds := [], alts := [], laidByText := true, laidKinds := [.data, .data, .data, .data, .data, .data], laidTests := true, laidLooks := .later }
def FuelEnoughCardSaid : Prop := Claim7.holds Tryz.pinned (.plain (OpenSpec.ofChange fuelEnoughSpec)) fuelEnoughCard

/-- THE SECOND FORM's CARD OF 'bonsailaw15.TableFlows'. -/
def tableFlowsUptoCard : Claim7 := { stood := { row := tableFlowsUptoRow, standIns := [], harness := (true, "39a6ce8a499866adced8f47668c8134e933105eaef65c93e8f203f0e4f93e92a"), looks := false }, kinds := [], alts := [], laidByText := true, laidKinds := [.data, .data, .data, .data, .data, .data], laidTests := true, laidLooks := .later }
def TableFlowsUptoCardSaid : Prop := Claim7.holds Tryz.pinned (.plain (OpenSpec.upto tableFlowsSpec)) tableFlowsUptoCard

/-- THE SECOND FORM's CARD OF 'bonsailaw15.TableDerived'. -/
def tableDerivedUptoCard : Claim7 := { stood := { row := tableDerivedUptoRow, standIns := [], harness := (true, "39a6ce8a499866adced8f47668c8134e933105eaef65c93e8f203f0e4f93e92a"), looks := false }, kinds := [], alts := [], laidByText := true, laidKinds := [.data, .data, .data, .data, .data, .data], laidTests := true, laidLooks := .later }
def TableDerivedUptoCardSaid : Prop := Claim7.holds Tryz.pinned (.plain (OpenSpec.upto tableDerivedSpec)) tableDerivedUptoCard

/-- THE SECOND FORM's CARD OF 'bonsailaw25.PruneMeans'. -/
def pruneMeansUptoCard : Claim7 := { stood := { row := pruneMeansUptoRow, standIns := [], harness := (true, "39a6ce8a499866adced8f47668c8134e933105eaef65c93e8f203f0e4f93e92a"), looks := false }, kinds := [], alts := [], laidByText := true, laidKinds := [.data, .data, .data, .data, .data, .data], laidTests := true, laidLooks := .later }
def PruneMeansUptoCardSaid : Prop := Claim7.holds Tryz.pinned (.plain (OpenSpec.upto pruneMeansSpec)) pruneMeansUptoCard

/-- THE SECOND FORM's CARD OF 'bonsailaw17.FuelRight'. -/
def fuelRightUptoCard : Claim7 := { stood := { row := fuelRightUptoRow, standIns := [], harness := (true, "39a6ce8a499866adced8f47668c8134e933105eaef65c93e8f203f0e4f93e92a"), looks := false }, kinds := [], alts := [], laidByText := true, laidKinds := [.data, .data, .data, .data, .data, .data], laidTests := true, laidLooks := .later }
def FuelRightUptoCardSaid : Prop := Claim7.holds Tryz.pinned (.plain (OpenSpec.upto fuelRightSpec)) fuelRightUptoCard

/-- THE SECOND FORM's CARD OF 'bonsailaw17.FuelEnough'. -/
def fuelEnoughUptoCard : Claim7 := { stood := { row := fuelEnoughUptoRow, standIns := [], harness := (true, "39a6ce8a499866adced8f47668c8134e933105eaef65c93e8f203f0e4f93e92a"), looks := false }, kinds := [], alts := [], laidByText := true, laidKinds := [.data, .data, .data, .data, .data, .data], laidTests := true, laidLooks := .later }
def FuelEnoughUptoCardSaid : Prop := Claim7.holds Tryz.pinned (.plain (OpenSpec.upto fuelEnoughSpec)) fuelEnoughUptoCard
end Rows
end Go.Proofs.YtjambecdkaahmaaGreatDoor
