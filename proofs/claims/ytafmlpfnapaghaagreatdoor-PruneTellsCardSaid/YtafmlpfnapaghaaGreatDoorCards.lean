/-
  DERIVED. GIVEN WITH THE SEED: THE CARDS: each row of YtafmlpfnapaghaaGreatDoorRows.lean that lists a variable, with what it lists TIED to the program's text (the seventh form; the later family's looks); each row that meets fmt, with fmt's text TOLD by the authors' own Lean function (tested against real Go, not proved from fmt's source: count such statements apart). THE CARD IS WHAT COUNTS. Prove the row's statement (the work); the ties are given (YtafmlpfnapaghaaGreatDoorTie.lean); close each card by the builder's one call (the guide's Derived/Test/ToyasCard.lean, 'card_holds'). Laid BY PROGRAM, IN A SANDBOX (cutbox-door.mjs). By AI agents, Wed Nov 11 2026. No macro, syntax, notation, axiom, sorry.
-/
import Derived.Test.YtafmlpfnapaghaaGreatDoorRows
import GoSem.ClaimSeven
namespace Go.Proofs.YtafmlpfnapaghaaGreatDoor
namespace Rows

/-- THE TIED CARD OF 'bonsailaw25.PruneTells'. -/
def pruneTellsCard : Claim7 := { stood := { row := pruneTellsRow, standIns := [], harness := (true, "f4a22e3188c5822a82138098ebeebb8991df346f3f96660d52b76f63c024abde"), looks := false }, kinds := [], alts := [], laidByText := true, laidKinds := [.data, .data, .data, .data, .data, .data], laidTests := true, laidLooks := .later }
def PruneTellsCardSaid : Prop := Claim7.holds Tryz.pinned (.plain (OpenSpec.ofChange pruneTellsSpec)) pruneTellsCard

/-- THE SECOND FORM's CARD OF 'bonsailaw25.PruneTells'. -/
def pruneTellsUptoCard : Claim7 := { stood := { row := pruneTellsUptoRow, standIns := [], harness := (true, "f4a22e3188c5822a82138098ebeebb8991df346f3f96660d52b76f63c024abde"), looks := false }, kinds := [], alts := [], laidByText := true, laidKinds := [.data, .data, .data, .data, .data, .data], laidTests := true, laidLooks := .later }
def PruneTellsUptoCardSaid : Prop := Claim7.holds Tryz.pinned (.plain (OpenSpec.upto pruneTellsSpec)) pruneTellsUptoCard
end Rows
end Go.Proofs.YtafmlpfnapaghaaGreatDoor
