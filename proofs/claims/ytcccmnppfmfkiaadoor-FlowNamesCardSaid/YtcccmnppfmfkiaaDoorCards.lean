/-
  DERIVED. GIVEN WITH THE SEED: THE CARDS: each row of YtcccmnppfmfkiaaDoorRows.lean that lists a variable, with what it lists TIED to the program's text (the seventh form; the later family's looks); each row that meets fmt, with fmt's text TOLD by the authors' own Lean function (tested against real Go, not proved from fmt's source: count such statements apart). THE CARD IS WHAT COUNTS. Prove the row's statement (the work); the ties are given (YtcccmnppfmfkiaaDoorTie.lean); close each card by the builder's one call (the guide's Derived/Test/ToyasCard.lean, 'card_holds'). Laid BY PROGRAM, IN A SANDBOX (cutbox-door.mjs). By AI agents, Wed Nov 11 2026. No macro, syntax, notation, axiom, sorry.
-/
import Derived.Test.YtcccmnppfmfkiaaDoorRows
import GoSem.ClaimSeven
namespace Go.Proofs.YtcccmnppfmfkiaaDoor
namespace Rows

/-- THE TIED CARD OF 'bonsailaw12.ReachNames'. -/
def reachNamesCard : Claim7 := { stood := { row := reachNamesRow, standIns := [], harness := (true, "c82462a0c25172ba3b62a8d75da3d995557522c3a3970c1a65fe02e18272c0d0"), looks := false }, kinds := [], alts := [], laidByText := true, laidKinds := [.data, .data, .data, .data, .data, .data], laidTests := true, laidLooks := .later }
def ReachNamesCardSaid : Prop := Claim7.holds Tryd.pinned (.plain (OpenSpec.ofChange reachNamesSpec)) reachNamesCard

/-- THE TIED CARD OF 'bonsailaw12.ReachClosed'. -/
def reachClosedCard : Claim7 := { stood := { row := reachClosedRow, standIns := [], harness := (true, "c82462a0c25172ba3b62a8d75da3d995557522c3a3970c1a65fe02e18272c0d0"), looks := false }, kinds := [], alts := [], laidByText := true, laidKinds := [.data, .data, .data, .data, .data, .data], laidTests := true, laidLooks := .later }
def ReachClosedCardSaid : Prop := Claim7.holds Tryd.pinned (.plain (OpenSpec.ofChange reachClosedSpec)) reachClosedCard

/-- THE TIED CARD OF 'bonsailaw12.ReachUseless'. -/
def reachUselessCard : Claim7 := { stood := { row := reachUselessRow, standIns := [], harness := (true, "c82462a0c25172ba3b62a8d75da3d995557522c3a3970c1a65fe02e18272c0d0"), looks := false }, kinds := [], alts := [], laidByText := true, laidKinds := [.data, .data, .data, .data, .data, .data], laidTests := true, laidLooks := .later }
def ReachUselessCardSaid : Prop := Claim7.holds Tryd.pinned (.plain (OpenSpec.ofChange reachUselessSpec)) reachUselessCard

/-- THE TIED CARD OF 'bonsailaw10.FlowNames'. -/
def flowNamesCard : Claim7 := { stood := { row := flowNamesRow, standIns := [], harness := (true, "c82462a0c25172ba3b62a8d75da3d995557522c3a3970c1a65fe02e18272c0d0"), looks := false }, kinds := [], alts := [], laidByText := true, laidKinds := [.data, .data, .data, .data, .data, .data], laidTests := true, laidLooks := .later }
def FlowNamesCardSaid : Prop := Claim7.holds Tryd.pinned (.plain (OpenSpec.ofChange flowNamesSpec)) flowNamesCard

/-- THE TIED CARD OF 'bonsailaw10.FlowLeast'. -/
def flowLeastCard : Claim7 := { stood := { row := flowLeastRow, standIns := [], harness := (true, "c82462a0c25172ba3b62a8d75da3d995557522c3a3970c1a65fe02e18272c0d0"), looks := false }, kinds := [], alts := [], laidByText := true, laidKinds := [.data, .data, .data, .data, .data, .data], laidTests := true, laidLooks := .later }
def FlowLeastCardSaid : Prop := Claim7.holds Tryd.pinned (.plain (OpenSpec.ofChange flowLeastSpec)) flowLeastCard

/-- THE TIED CARD OF 'bonsailaw10.FlowMore'. -/
def flowMoreCard : Claim7 := { stood := { row := flowMoreRow, standIns := [], harness := (true, "c82462a0c25172ba3b62a8d75da3d995557522c3a3970c1a65fe02e18272c0d0"), looks := false }, kinds := [], alts := [], laidByText := true, laidKinds := [.data, .data, .data, .data, .data, .data], laidTests := true, laidLooks := .later }
def FlowMoreCardSaid : Prop := Claim7.holds Tryd.pinned (.plain (OpenSpec.ofChange flowMoreSpec)) flowMoreCard

/-- THE SECOND FORM's CARD OF 'bonsailaw12.ReachNames'. -/
def reachNamesUptoCard : Claim7 := { stood := { row := reachNamesUptoRow, standIns := [], harness := (true, "c82462a0c25172ba3b62a8d75da3d995557522c3a3970c1a65fe02e18272c0d0"), looks := false }, kinds := [], alts := [], laidByText := true, laidKinds := [.data, .data, .data, .data, .data, .data], laidTests := true, laidLooks := .later }
def ReachNamesUptoCardSaid : Prop := Claim7.holds Tryd.pinned (.plain (OpenSpec.upto reachNamesSpec)) reachNamesUptoCard

/-- THE SECOND FORM's CARD OF 'bonsailaw12.ReachClosed'. -/
def reachClosedUptoCard : Claim7 := { stood := { row := reachClosedUptoRow, standIns := [], harness := (true, "c82462a0c25172ba3b62a8d75da3d995557522c3a3970c1a65fe02e18272c0d0"), looks := false }, kinds := [], alts := [], laidByText := true, laidKinds := [.data, .data, .data, .data, .data, .data], laidTests := true, laidLooks := .later }
def ReachClosedUptoCardSaid : Prop := Claim7.holds Tryd.pinned (.plain (OpenSpec.upto reachClosedSpec)) reachClosedUptoCard

/-- THE SECOND FORM's CARD OF 'bonsailaw12.ReachUseless'. -/
def reachUselessUptoCard : Claim7 := { stood := { row := reachUselessUptoRow, standIns := [], harness := (true, "c82462a0c25172ba3b62a8d75da3d995557522c3a3970c1a65fe02e18272c0d0"), looks := false }, kinds := [], alts := [], laidByText := true, laidKinds := [.data, .data, .data, .data, .data, .data], laidTests := true, laidLooks := .later }
def ReachUselessUptoCardSaid : Prop := Claim7.holds Tryd.pinned (.plain (OpenSpec.upto reachUselessSpec)) reachUselessUptoCard

/-- THE SECOND FORM's CARD OF 'bonsailaw10.FlowNames'. -/
def flowNamesUptoCard : Claim7 := { stood := { row := flowNamesUptoRow, standIns := [], harness := (true, "c82462a0c25172ba3b62a8d75da3d995557522c3a3970c1a65fe02e18272c0d0"), looks := false }, kinds := [], alts := [], laidByText := true, laidKinds := [.data, .data, .data, .data, .data, .data], laidTests := true, laidLooks := .later }
def FlowNamesUptoCardSaid : Prop := Claim7.holds Tryd.pinned (.plain (OpenSpec.upto flowNamesSpec)) flowNamesUptoCard

/-- THE SECOND FORM's CARD OF 'bonsailaw10.FlowLeast'. -/
def flowLeastUptoCard : Claim7 := { stood := { row := flowLeastUptoRow, standIns := [], harness := (true, "c82462a0c25172ba3b62a8d75da3d995557522c3a3970c1a65fe02e18272c0d0"), looks := false }, kinds := [], alts := [], laidByText := true, laidKinds := [.data, .data, .data, .data, .data, .data], laidTests := true, laidLooks := .later }
def FlowLeastUptoCardSaid : Prop := Claim7.holds Tryd.pinned (.plain (OpenSpec.upto flowLeastSpec)) flowLeastUptoCard

/-- THE SECOND FORM's CARD OF 'bonsailaw10.FlowMore'. -/
def flowMoreUptoCard : Claim7 := { stood := { row := flowMoreUptoRow, standIns := [], harness := (true, "c82462a0c25172ba3b62a8d75da3d995557522c3a3970c1a65fe02e18272c0d0"), looks := false }, kinds := [], alts := [], laidByText := true, laidKinds := [.data, .data, .data, .data, .data, .data], laidTests := true, laidLooks := .later }
def FlowMoreUptoCardSaid : Prop := Claim7.holds Tryd.pinned (.plain (OpenSpec.upto flowMoreSpec)) flowMoreUptoCard
end Rows
end Go.Proofs.YtcccmnppfmfkiaaDoor
