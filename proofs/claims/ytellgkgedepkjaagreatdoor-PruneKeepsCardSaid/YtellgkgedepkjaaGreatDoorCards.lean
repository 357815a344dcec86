/-
  DERIVED. GIVEN WITH THE SEED: THE CARDS: each row of YtellgkgedepkjaaGreatDoorRows.lean that lists a variable, with what it lists TIED to the program's text (the seventh form; the later family's looks); each row that meets fmt, with fmt's text TOLD by the authors' own Lean function (tested against real Go, not proved from fmt's source: count such statements apart). THE CARD IS WHAT COUNTS. Prove the row's statement (the work); the ties are given (YtellgkgedepkjaaGreatDoorTie.lean); close each card by the builder's one call (the guide's Derived/Test/ToyasCard.lean, 'card_holds'). Laid BY PROGRAM, IN A SANDBOX (cutbox-door.mjs). By AI agents, Wed Nov 11 2026. No macro, syntax, notation, axiom, sorry.
-/
import Derived.Test.YtellgkgedepkjaaGreatDoorRows
import GoSem.ClaimSeven
namespace Go.Proofs.YtellgkgedepkjaaGreatDoor
namespace Rows

/-- THE TIED CARD OF 'bonsailaw17.FuelNames'. -/
def fuelNamesCard : Claim7 := { stood := { row := fuelNamesRow, standIns := [], harness := (true, "50f719cc87f16e0b874566a9c94ee9635742ad8c046b74b585ddd6f09bc1ce3a"), looks := false }, kinds := [], alts := [], laidByText := true, laidKinds := [.data, .data, .data, .data, .data, .data], laidTests := true, laidLooks := .later }
def FuelNamesCardSaid : Prop := Claim7.holds Tryz.pinned (.plain (OpenSpec.ofChange fuelNamesSpec)) fuelNamesCard

/-- THE TIED CARD OF 'bonsailaw13.WellInlined'. -/
def wellInlinedCard : Claim7 := { stood := { row := wellInlinedRow, standIns := [], harness := (true, "50f719cc87f16e0b874566a9c94ee9635742ad8c046b74b585ddd6f09bc1ce3a"), looks := false }, kinds := [], alts := [], laidByText := true, laidKinds := [.data, .data, .data, .data, .data, .data], laidTests := true, laidLooks := .later }
def WellInlinedCardSaid : Prop := Claim7.holds Tryz.pinned (.plain (OpenSpec.ofChange wellInlinedSpec)) wellInlinedCard

/-- THE TIED CARD OF 'bonsailaw17.FuelCloser'. -/
def fuelCloserCard : Claim7 := { stood := { row := fuelCloserRow, standIns := [], harness := (true, "50f719cc87f16e0b874566a9c94ee9635742ad8c046b74b585ddd6f09bc1ce3a"), looks := false }, kinds := [], alts := [], laidByText := true, laidKinds := [.data, .data, .data, .data, .data, .data], laidTests := true, laidLooks := .later }
def FuelCloserCardSaid : Prop := Claim7.holds Tryz.pinned (.plain (OpenSpec.ofChange fuelCloserSpec)) fuelCloserCard

/-- THE TIED CARD OF 'bonsailaw25.PruneNames'. -/
def pruneNamesCard : Claim7 := { stood := { row := pruneNamesRow, standIns := [], harness := (true, "50f719cc87f16e0b874566a9c94ee9635742ad8c046b74b585ddd6f09bc1ce3a"), looks := false }, kinds := [], alts := [], laidByText := true, laidKinds := [.data, .data, .data, .data, .data, .data], laidTests := true, laidLooks := .later }
def PruneNamesCardSaid : Prop := Claim7.holds Tryz.pinned (.plain (OpenSpec.ofChange pruneNamesSpec)) pruneNamesCard

/-- THE TIED CARD OF 'bonsailaw25.PruneTells'. -/
def pruneTellsCard : Claim7 := { stood := { row := pruneTellsRow, standIns := [], harness := (true, "50f719cc87f16e0b874566a9c94ee9635742ad8c046b74b585ddd6f09bc1ce3a"), looks := false }, kinds := [], alts := [], laidByText := true, laidKinds := [.data, .data, .data, .data, .data, .data], laidTests := true, laidLooks := .later }
def PruneTellsCardSaid : Prop := Claim7.holds Tryz.pinned (.plain (OpenSpec.ofChange pruneTellsSpec)) pruneTellsCard

/-- THE TIED CARD OF 'bonsailaw25.PruneKeeps'. -/
def pruneKeepsCard : Claim7 := { stood := { row := pruneKeepsRow, standIns := [], harness := (true, "50f719cc87f16e0b874566a9c94ee9635742ad8c046b74b585ddd6f09bc1ce3a"), looks := false }, kinds := [], alts := [], laidByText := true, laidKinds := [.data, .data, .data, .data, .data, .data], laidTests := true, laidLooks := .later }
def PruneKeepsCardSaid : Prop := Claim7.holds Tryz.pinned (.plain (OpenSpec.ofChange pruneKeepsSpec)) pruneKeepsCard

/-- THE TIED CARD OF 'bonsailaw25.PruneNeeded'. -/
def pruneNeededCard : Claim7 := { stood := { row := pruneNeededRow, standIns := [], harness := (true, "50f719cc87f16e0b874566a9c94ee9635742ad8c046b74b585ddd6f09bc1ce3a"), looks := false }, kinds := [], alts := [], laidByText := true, laidKinds := [.data, .data, .data, .data, .data, .data], laidTests := true, laidLooks := .later }
def PruneNeededCardSaid : Prop := Claim7.holds Tryz.pinned (.plain (OpenSpec.ofChange pruneNeededSpec)) pruneNeededCard

/-- THE TIED CARD OF 'bonsailaw25.PruneKept'. -/
def pruneKeptCard : Claim7 := { stood := { row := pruneKeptRow, standIns := [], harness := (true, "50f719cc87f16e0b874566a9c94ee9635742ad8c046b74b585ddd6f09bc1ce3a"), looks := false }, kinds := [], alts := [], laidByText := true, laidKinds := [.data, .data, .data, .data, .data, .data], laidTests := true, laidLooks := .later }
def PruneKeptCardSaid : Prop := Claim7.holds Tryz.pinned (.plain (OpenSpec.ofChange pruneKeptSpec)) pruneKeptCard

/-- THE SECOND FORM's CARD OF 'bonsailaw17.FuelNames'. -/
def fuelNamesUptoCard : Claim7 := { stood := { row := fuelNamesUptoRow, standIns := [], harness := (true, "50f719cc87f16e0b874566a9c94ee9635742ad8c046b74b585ddd6f09bc1ce3a"), looks := false }, kinds := [], alts := [], laidByText := true, laidKinds := [.data, .data, .data, .data, .data, .data], laidTests := true, laidLooks := .later }
def FuelNamesUptoCardSaid : Prop := Claim7.holds Tryz.pinned (.plain (OpenSpec.upto fuelNamesSpec)) fuelNamesUptoCard

/-- THE SECOND FORM's CARD OF 'bonsailaw13.WellInlined'. -/
def wellInlinedUptoCard : Claim7 := { stood := { row := wellInlinedUptoRow, standIns := [], harness := (true, "50f719cc87f16e0b874566a9c94ee9635742ad8c046b74b585ddd6f09bc1ce3a"), looks := false }, kinds := [], alts := [], laidByText := true, laidKinds := [.data, .data, .data, .data, .data, .data], laidTests := true, laidLooks := .later }
def WellInlinedUptoCardSaid : Prop := Claim7.holds Tryz.pinned (.plain (OpenSpec.upto wellInlinedSpec)) wellInlinedUptoCard

/-- THE SECOND FORM's CARD OF 'bonsailaw17.FuelCloser'. -/
def fuelCloserUptoCard : Claim7 := { stood := { row := fuelCloserUptoRow, standIns := [], harness := (true, "50f719cc87f16e0b874566a9c94ee9635742ad8c046b74b585ddd6f09bc1ce3a"), looks := false }, kinds := [], alts := [], laidByText := true, laidKinds := [.data, .data, .data, .data, .data, .data], laidTests := true, laidLooks := .later }
def FuelCloserUptoCardSaid : Prop := Claim7.holds Tryz.pinned (.plain (OpenSpec.upto fuelCloserSpec)) fuelCloserUptoCard

/-- THE SECOND FORM's CARD OF 'bonsailaw25.PruneNames'. -/
def pruneNamesUptoCard : Claim7 := { stood := { row := pruneNamesUptoRow, standIns := [], harness := (true, "50f719cc87f16e0b874566a9c94ee9635742ad8c046b74b585ddd6f09bc1ce3a"), looks := false }, kinds := [], alts := [], laidByText := true, laidKinds := [.data, .data, .data, .data, .data, .data], laidTests := true, laidLooks := .later }
def PruneNamesUptoCardSaid : Prop := Claim7.holds Tryz.pinned (.plain (OpenSpec.upto pruneNamesSpec)) pruneNamesUptoCard

/-- THE SECOND FORM's CARD OF 'bonsailaw25.PruneTells'. -/
def pruneTellsUptoCard : Claim7 := { stood := { row := pruneTellsUptoRow, standIns := [], harness := (true, "50f719cc87f16e0b874566a9c94ee9635742ad8c046b74b585ddd6f09bc1ce3a"), looks := false }, kinds := [], alts := [], laidByText := true, laidKinds := [.data, .data, .data, .data, .data, .data], laidTests := true, laidLooks := .later }
def PruneTellsUptoCardSaid : Prop := Claim7.holds Tryz.pinned (.plain (OpenSpec.upto pruneTellsSpec)) pruneTellsUptoCard

/-- THE SECOND FORM's CARD OF 'bonsailaw25.PruneKeeps'. -/
def pruneKeepsUptoCard : Claim7 := { stood := { row := pruneKeepsUptoRow, standIns := [], harness := (true, "50f719cc87f16e0b874566a9c94ee9635742ad8c046b74b585ddd6f09bc1ce3a"), looks := false }, kinds := [], alts := [], laidByText := true, laidKinds := [.data, .data, .data, .data, .data, .data], laidTests := true, laidLooks := .later }
def PruneKeepsUptoCardSaid : Prop := Claim7.holds Tryz.pinned (.plain (OpenSpec.upto pruneKeepsSpec)) pruneKeepsUptoCard

/-- THE SECOND FORM's CARD OF 'bonsailaw25.PruneNeeded'. -/
def pruneNeededUptoCard : Claim7 := { stood := { row := pruneNeededUptoRow, standIns := [], harness := (true, "50f719cc87f16e0b874566a9c94ee9635742ad8c046b74b585ddd6f09bc1ce3a"), looks := false }, kinds := [], alts := [], laidByText := true, laidKinds := [.data, .data, .data, .data, .data, .data], laidTests := true, laidLooks := .later }
def PruneNeededUptoCardSaid : Prop := Claim7.holds Tryz.pinned (.plain (OpenSpec.upto pruneNeededSpec)) pruneNeededUptoCard

/-- THE SECOND FORM's CARD OF 'bonsailaw25.PruneKept'. -/
def pruneKeptUptoCard : Claim7 := { stood := { row := pruneKeptUptoRow, standIns := [], harness := (true, "50f719cc87f16e0b874566a9c94ee9635742ad8c046b74b585ddd6f09bc1ce3a"), looks := false }, kinds := [], alts := [], laidByText := true, laidKinds := [.data, .data, .data, .data, .data, .data], laidTests := true, laidLooks := .later }
def PruneKeptUptoCardSaid : Prop := Claim7.holds Tryz.pinned (.plain (OpenSpec.upto pruneKeptSpec)) pruneKeptUptoCard
end Rows
end Go.Proofs.YtellgkgedepkjaaGreatDoor
