/-
  DERIVED. GIVEN WITH THE SEED: THE CARDS: each row of YtjiljjappjmlkaaGreatDoorRows.lean that lists a variable, with what it lists TIED to the program's text (the seventh form; the later family's looks); each row that meets fmt, with fmt's text TOLD by the authors' own Lean function (tested against real Go, not proved from fmt's source: count such statements apart). THE CARD IS WHAT COUNTS. Prove the row's statement (the work); the ties are given (YtjiljjappjmlkaaGreatDoorTie.lean); close each card by the builder's one call (the guide's Derived/Test/ToyasCard.lean, 'card_holds'). Laid BY PROGRAM, IN A SANDBOX (cutbox-door.mjs). By AI agents, Wed Nov 11 2026. No macro, syntax, notation, axiom, sorry.
-/
import Derived.Test.YtjiljjappjmlkaaGreatDoorRows
import GoSem.ClaimSeven
namespace Go.Proofs.YtjiljjappjmlkaaGreatDoor
namespace Rows

/-- THE TIED CARD OF 'bonsailaw16.PackRuns'. -/
def packRunsCard : Claim7 := { stood := { row := packRunsRow, standIns := [], harness := (true, "68df24200712f73a3b418a4892c40557fe643926fddd864d73bdcbef600f3de1"), looks := false }, kinds := [], alts := [], laidByText := true, laidKinds := [.data, .data, .data, .data, .data, .data], laidTests := true, laidLooks := .later }
def PackRunsCardSaid : Prop := Claim7.holds Tryz.pinned (.plain (OpenSpec.ofChange packRunsSpec)) packRunsCard

/-- THE TIED CARD OF 'bonsailaw16.PackJust'. -/
def packJustCard : Claim7 := { stood := { row := packJustRow, standIns := [], harness := (true, "68df24200712f73a3b418a4892c40557fe643926fddd864d73bdcbef600f3de1"), looks := false }, kinds := [], alts := [], laidByText := true, laidKinds := [.data, .data, .data, .data, .data, .data], laidTests := true, laidLooks := .later }
def PackJustCardSaid : Prop := Claim7.holds Tryz.pinned (.plain (OpenSpec.ofChange packJustSpec)) packJustCard

/-- THE TIED CARD OF 'bonsailaw16.PackOnce'. -/
def packOnceCard : Claim7 := { stood := { row := packOnceRow, standIns := [], harness := (true, "68df24200712f73a3b418a4892c40557fe643926fddd864d73bdcbef600f3de1"), looks := false }, kinds := [], alts := [], laidByText := true, laidKinds := [.data, .data, .data, .data, .data, .data], laidTests := true, laidLooks := .later }
def PackOnceCardSaid : Prop := Claim7.holds Tryz.pinned (.plain (OpenSpec.ofChange packOnceSpec)) packOnceCard

/-- THE TIED CARD OF 'bonsailaw16.PackNames'. -/
def packNamesCard : Claim7 := { stood := { row := packNamesRow, standIns := [], harness := (true, "68df24200712f73a3b418a4892c40557fe643926fddd864d73bdcbef600f3de1"), looks := false }, kinds := [], alts := [], laidByText := true, laidKinds := [.data, .data, .data, .data, .data, .data], laidTests := true, laidLooks := .later }
def PackNamesCardSaid : Prop := Claim7.holds Tryz.pinned (.plain (OpenSpec.ofChange packNamesSpec)) packNamesCard

/-- THE TIED CARD OF 'bonsailaw16.PackMoved'. -/
def packMovedCard : Claim7 := { stood := { row := packMovedRow, standIns := [], harness := (true, "68df24200712f73a3b418a4892c40557fe643926fddd864d73bdcbef600f3de1"), looks := false }, kinds := [], alts := [], laidByText := true, laidKinds := [.data, .data, .data, .data, .data, .data], laidTests := true, laidLooks := .later }
def PackMovedCardSaid : Prop := Claim7.holds Tryz.pinned (.plain (OpenSpec.ofChange packMovedSpec)) packMovedCard

/-- THE SECOND FORM's CARD OF 'bonsailaw16.PackRuns'. -/
def packRunsUptoCard : Claim7 := { stood := { row := packRunsUptoRow, standIns := [], harness := (true, "68df24200712f73a3b418a4892c40557fe643926fddd864d73bdcbef600f3de1"), looks := false }, kinds := [], alts := [], laidByText := true, laidKinds := [.data, .data, .data, .data, .data, .data], laidTests := true, laidLooks := .later }
def PackRunsUptoCardSaid : Prop := Claim7.holds Tryz.pinned (.plain (OpenSpec.upto packRunsSpec)) packRunsUptoCard

/-- THE SECOND FORM's CARD OF 'bonsailaw16.PackJust'. -/
def packJustUptoCard : Claim7 := { stood := { row := packJustUptoRow, standIns := [], harness := (true, "68df24200712f73a3b418a4892c40557fe643926fddd864d73bdcbef600f3de1"), looks := false }, kinds := [], alts := [], laidByText := true, laidKinds := [.data, .data, .data, .data, .data, .data], laidTests := true, laidLooks := .later }
def PackJustUptoCardSaid : Prop := Claim7.holds Tryz.pinned (.plain (OpenSpec.upto packJustSpec)) packJustUptoCard

/-- THE SECOND FORM's CARD OF 'bonsailaw16.PackOnce'. -/
def packOnceUptoCard : Claim7 := { stood := { row := packOnceUptoRow, standIns := [], harness := (true, "68df24200712f73a3b418a4892c40557fe643926fddd864d73bdcbef600f3de1"), looks := false }, kinds := [], alts := [], laidByText := true, laidKinds := [.data, .data, .data, .data, .data, .data], laidTests := true, laidLooks := .later }
def PackOnceUptoCardSaid : Prop := Claim7.holds Tryz.pinned (.plain (OpenSpec.upto packOnceSpec)) packOnceUptoCard

/-- THE SECOND FORM's CARD OF 'bonsailaw16.PackNames'. -/
def packNamesUptoCard : Claim7 := { stood := { row := packNamesUptoRow, standIns := [], harness := (true, "68df24200712f73a3b418a4892c40557fe643926fddd864d73bdcbef600f3de1"), looks := false }, kinds := [], alts := [], laidByText := true, laidKinds := [.data, .data, .data, .data, .data, .data], laidTests := true, laidLooks := .later }
def PackNamesUptoCardSaid : Prop := Claim7.holds Tryz.pinned (.plain (OpenSpec.upto packNamesSpec)) packNamesUptoCard

/-- THE SECOND FORM's CARD OF 'bonsailaw16.PackMoved'. -/
def packMovedUptoCard : Claim7 := { stood := { row := packMovedUptoRow, standIns := [], harness := (true, "68df24200712f73a3b418a4892c40557fe643926fddd864d73bdcbef600f3de1"), looks := false }, kinds := [], alts := [], laidByText := true, laidKinds := [.data, .data, .data, .data, .data, .data], laidTests := true, laidLooks := .later }
def PackMovedUptoCardSaid : Prop := Claim7.holds Tryz.pinned (.plain (OpenSpec.upto packMovedSpec)) packMovedUptoCard
end Rows
end Go.Proofs.YtjiljjappjmlkaaGreatDoor
