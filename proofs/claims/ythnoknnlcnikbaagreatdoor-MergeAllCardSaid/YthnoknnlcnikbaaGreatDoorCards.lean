/-
  DERIVED. GIVEN WITH THE SEED: THE CARDS: each row of YthnoknnlcnikbaaGreatDoorRows.lean that lists a variable, with what it lists TIED to the program's text (the seventh form; the later family's looks); each row that meets fmt, with fmt's text TOLD by the authors' own Lean function (tested against real Go, not proved from fmt's source: count such statements apart). THE CARD IS WHAT COUNTS. Prove the row's statement (the work); the ties are given (YthnoknnlcnikbaaGreatDoorTie.lean); close each card by the builder's one call (the guide's Derived/Test/ToyasCard.lean, 'card_holds'). Laid BY PROGRAM, IN A SANDBOX (cutbox-door.mjs). By AI agents, Wed Nov 11 2026. No macro, syntax, notation, axiom, sorry.
-/
import Derived.Test.YthnoknnlcnikbaaGreatDoorRows
import GoSem.ClaimSeven
namespace Go.Proofs.YthnoknnlcnikbaaGreatDoor
namespace Rows

/-- THE TIED CARD OF 'bonsailaw17.FuelNames'. -/
def fuelNamesCard : Claim7 := { stood := { row := fuelNamesRow, standIns := [], harness := (true, "665077a709f15779ed00e146ff15f7c3ed7007af8087f28bc4c0d76c2410daa2"), looks := false }, kinds := [], alts := [], laidByText := true, laidKinds := [.data, .data, .data, .data, .data, .data], laidTests := true, laidLooks := .later }
def FuelNamesCardSaid : Prop := Claim7.holds Tryz.pinned (.plain (OpenSpec.ofChange fuelNamesSpec)) fuelNamesCard

/-- THE TIED CARD OF 'bonsailaw19.InlineTells'. -/
def inlineTellsCard : Claim7 := { stood := { row := inlineTellsRow, standIns := [], harness := (true, "665077a709f15779ed00e146ff15f7c3ed7007af8087f28bc4c0d76c2410daa2"), looks := false }, kinds := [], alts := [], laidByText := true, laidKinds := [.data, .data, .data, .data, .data, .data], laidTests := true, laidLooks := .later }
def InlineTellsCardSaid : Prop := Claim7.holds Tryz.pinned (.plain (OpenSpec.ofChange inlineTellsSpec)) inlineTellsCard

/-- THE TIED CARD OF 'bonsailaw23.MergeTwo'. -/
def mergeTwoCard : Claim7 := { stood := { row := mergeTwoRow, standIns := [], harness := (true, "665077a709f15779ed00e146ff15f7c3ed7007af8087f28bc4c0d76c2410daa2"), looks := false }, kinds := [], alts := [], laidByText := true, laidKinds := [.data, .data, .data, .data, .data, .data], laidTests := true, laidLooks := .later }
def MergeTwoCardSaid : Prop := Claim7.holds Tryz.pinned (.plain (OpenSpec.ofChange mergeTwoSpec)) mergeTwoCard

/-- THE TIED CARD OF 'bonsailaw23.MergeTells'. -/
def mergeTellsCard : Claim7 := { stood := { row := mergeTellsRow, standIns := [], harness := (true, "665077a709f15779ed00e146ff15f7c3ed7007af8087f28bc4c0d76c2410daa2"), looks := false }, kinds := [], alts := [], laidByText := true, laidKinds := [.data, .data, .data, .data, .data, .data], laidTests := true, laidLooks := .later }
def MergeTellsCardSaid : Prop := Claim7.holds Tryz.pinned (.plain (OpenSpec.ofChange mergeTellsSpec)) mergeTellsCard

/-- THE TIED CARD OF 'bonsailaw23.MergeFewer'. -/
def mergeFewerCard : Claim7 := { stood := { row := mergeFewerRow, standIns := [], harness := (true, "665077a709f15779ed00e146ff15f7c3ed7007af8087f28bc4c0d76c2410daa2"), looks := false }, kinds := [], alts := [], laidByText := true, laidKinds := [.data, .data, .data, .data, .data, .data], laidTests := true, laidLooks := .later }
def MergeFewerCardSaid : Prop := Claim7.holds Tryz.pinned (.plain (OpenSpec.ofChange mergeFewerSpec)) mergeFewerCard

/-- THE TIED CARD OF 'bonsailaw23.MergeAll'. -/
def mergeAllCard : Claim7 := { stood := { row := mergeAllRow, standIns := [], harness := (true, "665077a709f15779ed00e146ff15f7c3ed7007af8087f28bc4c0d76c2410daa2"), looks := false }, kinds := [], alts := [], laidByText := true, laidKinds := [.data, .data, .data, .data, .data, .data], laidTests := true, laidLooks := .later }
def MergeAllCardSaid : Prop := Claim7.holds Tryz.pinned (.plain (OpenSpec.ofChange mergeAllSpec)) mergeAllCard

/-- THE TIED CARD OF 'bonsailaw23.MergeNames'. -/
def mergeNamesCard : Claim7 := { stood := { row := mergeNamesRow, standIns := [], harness := (true, "665077a709f15779ed00e146ff15f7c3ed7007af8087f28bc4c0d76c2410daa2"), looks := false }, kinds := [], alts := [], laidByText := true, laidKinds := [.data, .data, .data, .data, .data, .data], laidTests := true, laidLooks := .later }
def MergeNamesCardSaid : Prop := Claim7.holds Tryz.pinned (.plain (OpenSpec.ofChange mergeNamesSpec)) mergeNamesCard

/-- THE TIED CARD OF 'bonsailaw19.InlineMeans'. -/
def inlineMeansCard : Claim7 := { stood := { row := inlineMeansRow, standIns := [], harness := (true, "665077a709f15779ed00e146ff15f7c3ed7007af8087f28bc4c0d76c2410daa2"), looks := false }, kinds := [], alts := [], laidByText := true, laidKinds := [.data, .data, .data, .data, .data, .data], laidTests := true, laidLooks := .later }
def InlineMeansCardSaid : Prop := Claim7.holds Tryz.pinned (.plain (OpenSpec.ofChange inlineMeansSpec)) inlineMeansCard

/-- THE TIED CARD OF 'bonsailaw23.MergeMerged'. -/
def mergeMergedCard : Claim7 := { stood := { row := mergeMergedRow, standIns := [], harness := (true, "665077a709f15779ed00e146ff15f7c3ed7007af8087f28bc4c0d76c2410daa2"), looks := false }, kinds := [], alts := [], laidByText := true, laidKinds := [.data, .data, .data, .data, .data, .data], laidTests := true, laidLooks := .later }
def MergeMergedCardSaid : Prop := Claim7.holds Tryz.pinned (.plain (OpenSpec.ofChange mergeMergedSpec)) mergeMergedCard

/-- THE TIED CARD OF 'bonsailaw23.MergeMeans'. -/
def mergeMeansCard : Claim7 := { stood := { row := mergeMeansRow, standIns := [], harness := (true, "665077a709f15779ed00e146ff15f7c3ed7007af8087f28bc4c0d76c2410daa2"), looks := false }, kinds := [], alts := [], laidByText := true, laidKinds := [.data, .data, .data, .data, .data, .data], laidTests := true, laidLooks := .later }
def MergeMeansCardSaid : Prop := Claim7.holds Tryz.pinned (.plain (OpenSpec.ofChange mergeMeansSpec)) mergeMeansCard

/-- THE SECOND FORM's CARD OF 'bonsailaw17.FuelNames'. -/
def fuelNamesUptoCard : Claim7 := { stood := { row := fuelNamesUptoRow, standIns := [], harness := (true, "665077a709f15779ed00e146ff15f7c3ed7007af8087f28bc4c0d76c2410daa2"), looks := false }, kinds := [], alts := [], laidByText := true, laidKinds := [.data, .data, .data, .data, .data, .data], laidTests := true, laidLooks := .later }
def FuelNamesUptoCardSaid : Prop := Claim7.holds Tryz.pinned (.plain (OpenSpec.upto fuelNamesSpec)) fuelNamesUptoCard

/-- THE SECOND FORM's CARD OF 'bonsailaw19.InlineTells'. -/
def inlineTellsUptoCard : Claim7 := { stood := { row := inlineTellsUptoRow, standIns := [], harness := (true, "665077a709f15779ed00e146ff15f7c3ed7007af8087f28bc4c0d76c2410daa2"), looks := false }, kinds := [], alts := [], laidByText := true, laidKinds := [.data, .data, .data, .data, .data, .data], laidTests := true, laidLooks := .later }
def InlineTellsUptoCardSaid : Prop := Claim7.holds Tryz.pinned (.plain (OpenSpec.upto inlineTellsSpec)) inlineTellsUptoCard

/-- THE SECOND FORM's CARD OF 'bonsailaw23.MergeTwo'. -/
def mergeTwoUptoCard : Claim7 := { stood := { row := mergeTwoUptoRow, standIns := [], harness := (true, "665077a709f15779ed00e146ff15f7c3ed7007af8087f28bc4c0d76c2410daa2"), looks := false }, kinds := [], alts := [], laidByText := true, laidKinds := [.data, .data, .data, .data, .data, .data], laidTests := true, laidLooks := .later }
def MergeTwoUptoCardSaid : Prop := Claim7.holds Tryz.pinned (.plain (OpenSpec.upto mergeTwoSpec)) mergeTwoUptoCard

/-- THE SECOND FORM's CARD OF 'bonsailaw23.MergeTells'. -/
def mergeTellsUptoCard : Claim7 := { stood := { row := mergeTellsUptoRow, standIns := [], harness := (true, "665077a709f15779ed00e146ff15f7c3ed7007af8087f28bc4c0d76c2410daa2"), looks := false }, kinds := [], alts := [], laidByText := true, laidKinds := [.data, .data, .data, .data, .data, .data], laidTests := true, laidLooks := .later }
def MergeTellsUptoCardSaid : Prop := Claim7.holds Tryz.pinned (.plain (OpenSpec.upto mergeTellsSpec)) mergeTellsUptoCard

/-- THE SECOND FORM's CARD OF 'bonsailaw23.MergeFewer'. -/
def mergeFewerUptoCard : Claim7 := { stood := { row := mergeFewerUptoRow, standIns := [], harness := (true, "665077a709f15779ed00e146ff15f7c3ed7007af8087f28bc4c0d76c2410daa2"), looks := false }, kinds := [], alts := [], laidByText := true, laidKinds := [.data, .data, .data, .data, .data, .data], laidTests := true, laidLooks := .later }
def MergeFewerUptoCardSaid : Prop := Claim7.holds Tryz.pinned (.plain (OpenSpec.upto mergeFewerSpec)) mergeFewerUptoCard

/-- THE SECOND FORM's CARD OF 'bonsailaw23.MergeAll'. -/
def mergeAllUptoCard : Claim7 := { stood := { row := mergeAllUptoRow, standIns := [], harness := (true, "665077a709f15779ed00e146ff15f7c3ed7007af8087f28bc4c0d76c2410daa2"), looks := false }, kinds := [], alts := [], laidByText := true, laidKinds := [.data, .data, .data, .data, .data, .data], laidTests := true, laidLooks := .later }
def MergeAllUptoCardSaid : Prop := Claim7.holds Tryz.pinned (.plain (OpenSpec.upto mergeAllSpec)) mergeAllUptoCard

/-- THE SECOND FORM's CARD OF 'bonsailaw23.MergeNames'. -/
def mergeNamesUptoCard : Claim7 := { stood := { row := mergeNamesUptoRow, standIns := [], harness := (true, "665077a709f15779ed00e146ff15f7c3ed7007af8087f28bc4c0d76c2410daa2"), looks := false }, kinds := [], alts := [], laidByText := true, laidKinds := [.data, .data, .data, .data, .data, .data], laidTests := true, laidLooks := .later }
def MergeNamesUptoCardSaid : Prop := Claim7.holds Tryz.pinned (.plain (OpenSpec.upto mergeNamesSpec)) mergeNamesUptoCard

/-- THE SECOND FORM's CARD OF 'bonsailaw19.InlineMeans'. -/
def inlineMeansUptoCard : Claim7 := { stood := { row := inlineMeansUptoRow, standIns := [], harness := (true, "665077a709f15779ed00e146ff15f7c3ed7007af8087f28bc4c0d76c2410daa2"), looks := false }, kinds := [], alts := [], laidByText := true, laidKinds := [.data, .data, .data, .data, .data, .data], laidTests := true, laidLooks := .later }
def InlineMeansUptoCardSaid : Prop := Claim7.holds Tryz.pinned (.plain (OpenSpec.upto inlineMeansSpec)) inlineMeansUptoCard

/-- THE SECOND FORM's CARD OF 'bonsailaw23.MergeMerged'. -/
def mergeMergedUptoCard : Claim7 := { stood := { row := mergeMergedUptoRow, standIns := [], harness := (true, "665077a709f15779ed00e146ff15f7c3ed7007af8087f28bc4c0d76c2410daa2"), looks := false }, kinds := [], alts := [], laidByText := true, laidKinds := [.data, .data, .data, .data, .data, .data], laidTests := true, laidLooks := .later }
def MergeMergedUptoCardSaid : Prop := Claim7.holds Tryz.pinned (.plain (OpenSpec.upto mergeMergedSpec)) mergeMergedUptoCard

/-- THE SECOND FORM's CARD OF 'bonsailaw23.MergeMeans'. -/
def mergeMeansUptoCard : Claim7 := { stood := { row := mergeMeansUptoRow, standIns := [], harness := (true, "665077a709f15779ed00e146ff15f7c3ed7007af8087f28bc4c0d76c2410daa2"), looks := false }, kinds := [], alts := [], laidByText := true, laidKinds := [.data, .data, .data, .data, .data, .data], laidTests := true, laidLooks := .later }
def MergeMeansUptoCardSaid : Prop := Claim7.holds Tryz.pinned (.plain (OpenSpec.upto mergeMeansSpec)) mergeMeansUptoCard
end Rows
end Go.Proofs.YthnoknnlcnikbaaGreatDoor
