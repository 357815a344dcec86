/-
  DERIVED. GIVEN WITH THE SEED: THE CARDS: each row of YtelfblhcphnbmaaGreatDoorRows.lean that lists a variable, with what it lists TIED to the program's text (the seventh form; the later family's looks); each row that meets fmt, with fmt's text TOLD by the authors' own Lean function (tested against real Go, not proved from fmt's source: count such statements apart). THE CARD IS WHAT COUNTS. Prove the row's statement (the work); the ties are given (YtelfblhcphnbmaaGreatDoorTie.lean); close each card by the builder's one call (the guide's Derived/Test/ToyasCard.lean, 'card_holds'). Laid BY PROGRAM, IN A SANDBOX (cutbox-door.mjs). By AI agents, Wed Nov 11 2026. No macro, syntax, notation, axiom, sorry.
-/
import Derived.Test.YtelfblhcphnbmaaGreatDoorRows
import GoSem.ClaimSeven
namespace Go.Proofs.YtelfblhcphnbmaaGreatDoor
namespace Rows

/-- THE TIED CARD OF 'bonsailaw17.FuelNames'. -/
def fuelNamesCard : Claim7 := { stood := { row := fuelNamesRow, standIns := [], harness := (true, "db821cf6a62ad82fd32c91bf02bb5aec2ad68fe8ecc345121b93bfe85518b6ae"), looks := false }, kinds := [], alts := [], laidByText := true, laidKinds := [.data, .data, .data, .data, .data, .data], laidTests := true, laidLooks := .later }
def FuelNamesCardSaid : Prop := Claim7.holds Tryz.pinned (.plain (OpenSpec.ofChange fuelNamesSpec)) fuelNamesCard

/-- THE TIED CARD OF 'bonsailaw17.FuelTells'. -/
def fuelTellsCard : Claim7 := { stood := { row := fuelTellsRow, standIns := [], harness := (true, "db821cf6a62ad82fd32c91bf02bb5aec2ad68fe8ecc345121b93bfe85518b6ae"), looks := false }, kinds := [], alts := [], laidByText := true, laidKinds := [.data, .data, .data, .data, .data, .data], laidTests := true, laidLooks := .later }
def FuelTellsCardSaid : Prop := Claim7.holds Tryz.pinned (.plain (OpenSpec.ofChange fuelTellsSpec)) fuelTellsCard

/-- THE TIED CARD OF 'bonsailaw17.FuelCloser'. -/
def fuelCloserCard : Claim7 := { stood := { row := fuelCloserRow, standIns := [], harness := (true, "db821cf6a62ad82fd32c91bf02bb5aec2ad68fe8ecc345121b93bfe85518b6ae"), looks := false }, kinds := [], alts := [], laidByText := true, laidKinds := [.data, .data, .data, .data, .data, .data], laidTests := true, laidLooks := .later }
def FuelCloserCardSaid : Prop := Claim7.holds Tryz.pinned (.plain (OpenSpec.ofChange fuelCloserSpec)) fuelCloserCard

/-- THE TIED CARD OF 'bonsailaw15.TableMay'. -/
def tableMayCard : Claim7 := { stood := { row := tableMayRow, standIns := [], harness := (true, "db821cf6a62ad82fd32c91bf02bb5aec2ad68fe8ecc345121b93bfe85518b6ae"), looks := false }, kinds := [], alts := [], laidByText := true, laidKinds := [.data, .data, .data, .data, .data, .data], laidTests := true, laidLooks := .later }
def TableMayCardSaid : Prop := Claim7.holds Tryz.pinned (.plain (OpenSpec.ofChange tableMaySpec)) tableMayCard

/-- THE TIED CARD OF 'bonsailaw15.TableTells'. -/
def tableTellsCard : Claim7 := { stood := { row := tableTellsRow, standIns := [], harness := (true, "db821cf6a62ad82fd32c91bf02bb5aec2ad68fe8ecc345121b93bfe85518b6ae"), looks := false }, kinds := [], alts := [], laidByText := true, laidKinds := [.data, .data, .data, .data, .data, .data], laidTests := true, laidLooks := .later }
def TableTellsCardSaid : Prop := Claim7.holds Tryz.pinned (.plain (OpenSpec.ofChange tableTellsSpec)) tableTellsCard

/-- THE TIED CARD OF 'bonsailaw15.TableNames'. -/
def tableNamesCard : Claim7 := { stood := { row := tableNamesRow, standIns := [], harness := (true, "db821cf6a62ad82fd32c91bf02bb5aec2ad68fe8ecc345121b93bfe85518b6ae"), looks := false }, kinds := [], alts := [], laidByText := true, laidKinds := [.data, .data, .data, .data, .data, .data], laidTests := true, laidLooks := .later }
def TableNamesCardSaid : Prop := Claim7.holds Tryz.pinned (.plain (OpenSpec.ofChange tableNamesSpec)) tableNamesCard

/-- THE TIED CARD OF 'bonsailaw15.TableBehind'. -/
def tableBehindCard : Claim7 := { stood := { row := tableBehindRow, standIns := [], harness := (true, "db821cf6a62ad82fd32c91bf02bb5aec2ad68fe8ecc345121b93bfe85518b6ae"), looks := false }, kinds := [], alts := [], laidByText := true, laidKinds := [.data, .data, .data, .data, .data, .data], laidTests := true, laidLooks := .later }
def TableBehindCardSaid : Prop := Claim7.holds Tryz.pinned (.plain (OpenSpec.ofChange tableBehindSpec)) tableBehindCard

/-- THE SECOND FORM's CARD OF 'bonsailaw17.FuelNames'. -/
def fuelNamesUptoCard : Claim7 := { stood := { row := fuelNamesUptoRow, standIns := [], harness := (true, "db821cf6a62ad82fd32c91bf02bb5aec2ad68fe8ecc345121b93bfe85518b6ae"), looks := false }, kinds := [], alts := [], laidByText := true, laidKinds := [.data, .data, .data, .data, .data, .data], laidTests := true, laidLooks := .later }
def FuelNamesUptoCardSaid : Prop := Claim7.holds Tryz.pinned (.plain (OpenSpec.upto fuelNamesSpec)) fuelNamesUptoCard

/-- THE SECOND FORM's CARD OF 'bonsailaw17.FuelTells'. -/
def fuelTellsUptoCard : Claim7 := { stood := { row := fuelTellsUptoRow, standIns := [], harness := (true, "db821cf6a62ad82fd32c91bf02bb5aec2ad68fe8ecc345121b93bfe85518b6ae"), looks := false }, kinds := [], alts := [], laidByText := true, laidKinds := [.data, .data, .data, .data, .data, .data], laidTests := true, laidLooks := .later }
def FuelTellsUptoCardSaid : Prop := Claim7.holds Tryz.pinned (.plain (OpenSpec.upto fuelTellsSpec)) fuelTellsUptoCard

/-- THE SECOND FORM's CARD OF 'bonsailaw17.FuelCloser'. -/
def fuelCloserUptoCard : Claim7 := { stood := { row := fuelCloserUptoRow, standIns := [], harness := (true, "db821cf6a62ad82fd32c91bf02bb5aec2ad68fe8ecc345121b93bfe85518b6ae"), looks := false }, kinds := [], alts := [], laidByText := true, laidKinds := [.data, .data, .data, .data, .data, .data], laidTests := true, laidLooks := .later }
def FuelCloserUptoCardSaid : Prop := Claim7.holds Tryz.pinned (.plain (OpenSpec.upto fuelCloserSpec)) fuelCloserUptoCard

/-- THE SECOND FORM's CARD OF 'bonsailaw15.TableMay'. -/
def tableMayUptoCard : Claim7 := { stood := { row := tableMayUptoRow, standIns := [], harness := (true, "db821cf6a62ad82fd32c91bf02bb5aec2ad68fe8ecc345121b93bfe85518b6ae"), looks := false }, kinds := [], alts := [], laidByText := true, laidKinds := [.data, .data, .data, .data, .data, .data], laidTests := true, laidLooks := .later }
def TableMayUptoCardSaid : Prop := Claim7.holds Tryz.pinned (.plain (OpenSpec.upto tableMaySpec)) tableMayUptoCard

/-- THE SECOND FORM's CARD OF 'bonsailaw15.TableTells'. -/
def tableTellsUptoCard : Claim7 := { stood := { row := tableTellsUptoRow, standIns := [], harness := (true, "db821cf6a62ad82fd32c91bf02bb5aec2ad68fe8ecc345121b93bfe85518b6ae"), looks := false }, kinds := [], alts := [], laidByText := true, laidKinds := [.data, .data, .data, .data, .data, .data], laidTests := true, laidLooks := .later }
def TableTellsUptoCardSaid : Prop := Claim7.holds Tryz.pinned (.plain (OpenSpec.upto tableTellsSpec)) tableTellsUptoCard

/-- THE SECOND FORM's CARD OF 'bonsailaw15.TableNames'. -/
def tableNamesUptoCard : Claim7 := { stood := { row := tableNamesUptoRow, standIns := [], harness := (true, "db821cf6a62ad82fd32c91bf02bb5aec2ad68fe8ecc345121b93bfe85518b6ae"), looks := false }, kinds := [], alts := [], laidByText := true, laidKinds := [.data, .data, .data, .data, .data, .data], laidTests := true, laidLooks := .later }
def TableNamesUptoCardSaid : Prop := Claim7.holds Tryz.pinned (.plain (OpenSpec.upto tableNamesSpec)) tableNamesUptoCard

/-- THE SECOND FORM's CARD OF 'bonsailaw15.TableBehind'. -/
def tableBehindUptoCard : Claim7 := { stood := { row := tableBehindUptoRow, standIns := [], harness := (true, "db821cf6a62ad82fd32c91bf02bb5aec2ad68fe8ecc345121b93bfe85518b6ae"), looks := false }, kinds := [], alts := [], laidByText := true, laidKinds := [.data, .data, .data, .data, .data, .data], laidTests := true, laidLooks := .later }
def TableBehindUptoCardSaid : Prop := Claim7.holds Tryz.pinned (.plain (OpenSpec.upto tableBehindSpec)) tableBehindUptoCard
end Rows
end Go.Proofs.YtelfblhcphnbmaaGreatDoor
