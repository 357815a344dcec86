/-
  DERIVED. GIVEN WITH THE SEED: THE CARDS: each row of YtjaibbcbjfapaaaGreatDoorRows.lean that lists a variable, with what it lists TIED to the program's text (the seventh form; the later family's looks); each row that meets fmt, with fmt's text TOLD by the authors' own Lean function (tested against real Go, not proved from fmt's source: count such statements apart). THE CARD IS WHAT COUNTS. Prove the row's statement (the work); the ties are given (YtjaibbcbjfapaaaGreatDoorTie.lean); close each card by the builder's one call (the guide's Derived/Test/ToyasCard.lean, 'card_holds'). Laid BY PROGRAM, IN A SANDBOX (cutbox-door.mjs). By AI agents, Wed Nov 11 2026. No macro, syntax, notation, axiom, sorry.
-/
import Derived.Test.YtjaibbcbjfapaaaGreatDoorRows
import GoSem.ClaimSeven
namespace Go.Proofs.YtjaibbcbjfapaaaGreatDoor
namespace Rows

/-- THE TIED CARD OF 'bonsailaw23.MergeTwo'. -/
def mergeTwoCard : Claim7 := { stood := { row := mergeTwoRow, standIns := [], harness := (true, "f6e05600405611aafdff06fe37367637cfcab227e252189e41e322a5588f4a38"), looks := false }, kinds := [], alts := [], laidByText := true, laidKinds := [.data, .data, .data, .data, .data, .data], laidTests := true, laidLooks := .later }
def MergeTwoCardSaid : Prop := Claim7.holds Tryz.pinned (.plain (OpenSpec.ofChange mergeTwoSpec)) mergeTwoCard

/-- THE TIED CARD OF 'bonsailaw23.MergeTells'. -/
def mergeTellsCard : Claim7 := { stood := { row := mergeTellsRow, standIns := [], harness := (true, "f6e05600405611aafdff06fe37367637cfcab227e252189e41e322a5588f4a38"), looks := false }, kinds := [], alts := [], laidByText := true, laidKinds := [.data, .data, .data, .data, .data, .data], laidTests := true, laidLooks := .later }
def MergeTellsCardSaid : Prop := Claim7.holds Tryz.pinned (.plain (OpenSpec.ofChange mergeTellsSpec)) mergeTellsCard

/-- THE TIED CARD OF 'bonsailaw23.MergeMerged'. -/
def mergeMergedCard : Claim7 := { stood := { row := mergeMergedRow, standIns := [], harness := (true, "f6e05600405611aafdff06fe37367637cfcab227e252189e41e322a5588f4a38"), looks := false }, kinds := [], alts := [], laidByText := true, laidKinds := [.data, .data, .data, .data, .data, .data], laidTests := true, laidLooks := .later }
def MergeMergedCardSaid : Prop := Claim7.holds Tryz.pinned (.plain (OpenSpec.ofChange mergeMergedSpec)) mergeMergedCard

/-- THE TIED CARD OF 'bonsailaw23.MergeMeans'. -/
def mergeMeansCard : Claim7 := { stood := { row := mergeMeansRow, standIns := [], harness := (true, "f6e05600405611aafdff06fe37367637cfcab227e252189e41e322a5588f4a38"), looks := false }, kinds := [], alts := [], laidByText := true, laidKinds := [.data, .data, .data, .data, .data, .data], laidTests := true, laidLooks := .later }
def MergeMeansCardSaid : Prop := Claim7.holds Tryz.pinned (.plain (OpenSpec.ofChange mergeMeansSpec)) mergeMeansCard

/-- THE TIED CARD OF 'bonsailaw19.InlineMeans'. -/
def inlineMeansCard : Claim7 := { stood := { row := inlineMeansRow, standIns := [], harness := (true, "f6e05600405611aafdff06fe37367637cfcab227e252189e41e322a5588f4a38"), looks := false }, kinds := [], alts := [], laidByText := true, laidKinds := [.data, .data, .data, .data, .data, .data], laidTests := true, laidLooks := .later }
def InlineMeansCardSaid : Prop := Claim7.holds Tryz.pinned (.plain (OpenSpec.ofChange inlineMeansSpec)) inlineMeansCard

/-- THE TIED CARD OF 'bonsailaw19.InlineTells'. -/
def inlineTellsCard : Claim7 := { stood := { row := inlineTellsRow, standIns := [], harness := (true, "f6e05600405611aafdff06fe37367637cfcab227e252189e41e322a5588f4a38"), looks := false }, kinds := [], alts := [], laidByText := true, laidKinds := [.data, .data, .data, .data, .data, .data], laidTests := true, laidLooks := .later }
def InlineTellsCardSaid : Prop := Claim7.holds Tryz.pinned (.plain (OpenSpec.ofChange inlineTellsSpec)) inlineTellsCard

/-- THE TIED CARD OF 'bonsailaw21.FactorTwo'. -/
def factorTwoCard : Claim7 := { stood := { row := factorTwoRow, standIns := [], harness := (true, "f6e05600405611aafdff06fe37367637cfcab227e252189e41e322a5588f4a38"), looks := false }, kinds := [], alts := [], laidByText := true, laidKinds := [.data, .data, .data, .data, .data, .data], laidTests := true, laidLooks := .later }
def FactorTwoCardSaid : Prop := Claim7.holds Tryz.pinned (.plain (OpenSpec.ofChange factorTwoSpec)) factorTwoCard

/-- THE TIED CARD OF 'bonsailaw21.FactorTells'. -/
def factorTellsCard : Claim7 := { stood := { row := factorTellsRow, standIns := [], harness := (true, "f6e05600405611aafdff06fe37367637cfcab227e252189e41e322a5588f4a38"), looks := false }, kinds := [], alts := [], laidByText := true, laidKinds := [.data, .data, .data, .data, .data, .data], laidTests := true, laidLooks := .later }
def FactorTellsCardSaid : Prop := Claim7.holds Tryz.pinned (.plain (OpenSpec.ofChange factorTellsSpec)) factorTellsCard

/-- THE TIED CARD OF 'bonsailaw21.FactorAll'. -/
def factorAllCard : Claim7 := { stood := { row := factorAllRow, standIns := [], harness := (true, "f6e05600405611aafdff06fe37367637cfcab227e252189e41e322a5588f4a38"), looks := false }, kinds := [], alts := [], laidByText := true, laidKinds := [.data, .data, .data, .data, .data, .data], laidTests := true, laidLooks := .later }
def FactorAllCardSaid : Prop := Claim7.holds Tryz.pinned (.plain (OpenSpec.ofChange factorAllSpec)) factorAllCard

/-- THE TIED CARD OF 'bonsailaw21.FactorCommon'. -/
def factorCommonCard : Claim7 := { stood := { row := factorCommonRow, standIns := [], harness := (true, "f6e05600405611aafdff06fe37367637cfcab227e252189e41e322a5588f4a38"), looks := false }, kinds := [], alts := [], laidByText := true, laidKinds := [.data, .data, .data, .data, .data, .data], laidTests := true, laidLooks := .later }
def FactorCommonCardSaid : Prop := Claim7.holds Tryz.pinned (.plain (OpenSpec.ofChange factorCommonSpec)) factorCommonCard

/-- THE TIED CARD OF 'bonsailaw21.FactorMeans'. -/
def factorMeansCard : Claim7 := { stood := { row := factorMeansRow, standIns := [], harness := (true, "f6e05600405611aafdff06fe37367637cfcab227e252189e41e322a5588f4a38"), looks := false }, kinds := [], alts := [], laidByText := true, laidKinds := [.data, .data, .data, .data, .data, .data], laidTests := true, laidLooks := .later }
def FactorMeansCardSaid : Prop := Claim7.holds Tryz.pinned (.plain (OpenSpec.ofChange factorMeansSpec)) factorMeansCard

/-- THE TIED CARD OF 'bonsailaw23.MergeNames'. -/
def mergeNamesCard : Claim7 := { stood := { row := mergeNamesRow, standIns := [], harness := (true, "f6e05600405611aafdff06fe37367637cfcab227e252189e41e322a5588f4a38"), looks := false }, kinds := [], alts := [], laidByText := true, laidKinds := [.data, .data, .data, .data, .data, .data], laidTests := true, laidLooks := .later }
def MergeNamesCardSaid : Prop := Claim7.holds Tryz.pinned (.plain (OpenSpec.ofChange mergeNamesSpec)) mergeNamesCard

/-- THE SECOND FORM's CARD OF 'bonsailaw23.MergeTwo'. -/
def mergeTwoUptoCard : Claim7 := { stood := { row := mergeTwoUptoRow, standIns := [], harness := (true, "f6e05600405611aafdff06fe37367637cfcab227e252189e41e322a5588f4a38"), looks := false }, kinds := [], alts := [], laidByText := true, laidKinds := [.data, .data, .data, .data, .data, .data], laidTests := true, laidLooks := .later }
def MergeTwoUptoCardSaid : Prop := Claim7.holds Tryz.pinned (.plain (OpenSpec.upto mergeTwoSpec)) mergeTwoUptoCard

/-- THE SECOND FORM's CARD OF 'bonsailaw23.MergeTells'. -/
def mergeTellsUptoCard : Claim7 := { stood := { row := mergeTellsUptoRow, standIns := [], harness := (true, "f6e05600405611aafdff06fe37367637cfcab227e252189e41e322a5588f4a38"), looks := false }, kinds := [], alts := [], laidByText := true, laidKinds := [.data, .data, .data, .data, .data, .data], laidTests := true, laidLooks := .later }
def MergeTellsUptoCardSaid : Prop := Claim7.holds Tryz.pinned (.plain (OpenSpec.upto mergeTellsSpec)) mergeTellsUptoCard

/-- THE SECOND FORM's CARD OF 'bonsailaw23.MergeMerged'. -/
def mergeMergedUptoCard : Claim7 := { stood := { row := mergeMergedUptoRow, standIns := [], harness := (true, "f6e05600405611aafdff06fe37367637cfcab227e252189e41e322a5588f4a38"), looks := false }, kinds := [], alts := [], laidByText := true, laidKinds := [.data, .data, .data, .data, .data, .data], laidTests := true, laidLooks := .later }
def MergeMergedUptoCardSaid : Prop := Claim7.holds Tryz.pinned (.plain (OpenSpec.upto mergeMergedSpec)) mergeMergedUptoCard

/-- THE SECOND FORM's CARD OF 'bonsailaw23.MergeMeans'. -/
def mergeMeansUptoCard : Claim7 := { stood := { row := mergeMeansUptoRow, standIns := [], harness := (true, "f6e05600405611aafdff06fe37367637cfcab227e252189e41e322a5588f4a38"), looks := false }, kinds := [], alts := [], laidByText := true, laidKinds := [.data, .data, .data, .data, .data, .data], laidTests := true, laidLooks := .later }
def MergeMeansUptoCardSaid : Prop := Claim7.holds Tryz.pinned (.plain (OpenSpec.upto mergeMeansSpec)) mergeMeansUptoCard

/-- THE SECOND FORM's CARD OF 'bonsailaw19.InlineMeans'. -/
def inlineMeansUptoCard : Claim7 := { stood := { row := inlineMeansUptoRow, standIns := [], harness := (true, "f6e05600405611aafdff06fe37367637cfcab227e252189e41e322a5588f4a38"), looks := false }, kinds := [], alts := [], laidByText := true, laidKinds := [.data, .data, .data, .data, .data, .data], laidTests := true, laidLooks := .later }
def InlineMeansUptoCardSaid : Prop := Claim7.holds Tryz.pinned (.plain (OpenSpec.upto inlineMeansSpec)) inlineMeansUptoCard

/-- THE SECOND FORM's CARD OF 'bonsailaw19.InlineTells'. -/
def inlineTellsUptoCard : Claim7 := { stood := { row := inlineTellsUptoRow, standIns := [], harness := (true, "f6e05600405611aafdff06fe37367637cfcab227e252189e41e322a5588f4a38"), looks := false }, kinds := [], alts := [], laidByText := true, laidKinds := [.data, .data, .data, .data, .data, .data], laidTests := true, laidLooks := .later }
def InlineTellsUptoCardSaid : Prop := Claim7.holds Tryz.pinned (.plain (OpenSpec.upto inlineTellsSpec)) inlineTellsUptoCard

/-- THE SECOND FORM's CARD OF 'bonsailaw21.FactorTwo'. -/
def factorTwoUptoCard : Claim7 := { stood := { row := factorTwoUptoRow, standIns := [], harness := (true, "f6e05600405611aafdff06fe37367637cfcab227e252189e41e322a5588f4a38"), looks := false }, kinds := [], alts := [], laidByText := true, laidKinds := [.data, .data, .data, .data, .data, .data], laidTests := true, laidLooks := .later }
def FactorTwoUptoCardSaid : Prop := Claim7.holds Tryz.pinned (.plain (OpenSpec.upto factorTwoSpec)) factorTwoUptoCard

/-- THE SECOND FORM's CARD OF 'bonsailaw21.FactorTells'. -/
def factorTellsUptoCard : Claim7 := { stood := { row := factorTellsUptoRow, standIns := [], harness := (true, "f6e05600405611aafdff06fe37367637cfcab227e252189e41e322a5588f4a38"), looks := false }, kinds := [], alts := [], laidByText := true, laidKinds := [.data, .data, .data, .data, .data, .data], laidTests := true, laidLooks := .later }
def FactorTellsUptoCardSaid : Prop := Claim7.holds Tryz.pinned (.plain (OpenSpec.upto factorTellsSpec)) factorTellsUptoCard

/-- THE SECOND FORM's CARD OF 'bonsailaw21.FactorAll'. -/
def factorAllUptoCard : Claim7 := { stood := { row := factorAllUptoRow, standIns := [], harness := (true, "f6e05600405611aafdff06fe37367637cfcab227e252189e41e322a5588f4a38"), looks := false }, kinds := [], alts := [], laidByText := true, laidKinds := [.data, .data, .data, .data, .data, .data], laidTests := true, laidLooks := .later }
def FactorAllUptoCardSaid : Prop := Claim7.holds Tryz.pinned (.plain (OpenSpec.upto factorAllSpec)) factorAllUptoCard

/-- THE SECOND FORM's CARD OF 'bonsailaw21.FactorCommon'. -/
def factorCommonUptoCard : Claim7 := { stood := { row := factorCommonUptoRow, standIns := [], harness := (true, "f6e05600405611aafdff06fe37367637cfcab227e252189e41e322a5588f4a38"), looks := false }, kinds := [], alts := [], laidByText := true, laidKinds := [.data, .data, .data, .data, .data, .data], laidTests := true, laidLooks := .later }
def FactorCommonUptoCardSaid : Prop := Claim7.holds Tryz.pinned (.plain (OpenSpec.upto factorCommonSpec)) factorCommonUptoCard

/-- THE SECOND FORM's CARD OF 'bonsailaw21.FactorMeans'. -/
def factorMeansUptoCard : Claim7 := { stood := { row := factorMeansUptoRow, standIns := [], harness := (true, "f6e05600405611aafdff06fe37367637cfcab227e252189e41e322a5588f4a38"), looks := false }, kinds := [], alts := [], laidByText := true, laidKinds := [.data, .data, .data, .data, .data, .data], laidTests := true, laidLooks := .later }
def FactorMeansUptoCardSaid : Prop := Claim7.holds Tryz.pinned (.plain (OpenSpec.upto factorMeansSpec)) factorMeansUptoCard

/-- THE SECOND FORM's CARD OF 'bonsailaw23.MergeNames'. -/
def mergeNamesUptoCard : Claim7 := { stood := { row := mergeNamesUptoRow, standIns := [], harness := (true, "f6e05600405611aafdff06fe37367637cfcab227e252189e41e322a5588f4a38"), looks := false }, kinds := [], alts := [], laidByText := true, laidKinds := [.data, .data, .data, .data, .data, .data], laidTests := true, laidLooks := .later }
def MergeNamesUptoCardSaid : Prop := Claim7.holds Tryz.pinned (.plain (OpenSpec.upto mergeNamesSpec)) mergeNamesUptoCard
end Rows
end Go.Proofs.YtjaibbcbjfapaaaGreatDoor
