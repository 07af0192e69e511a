/-
  DERIVED. GIVEN WITH THE SEED: THE CARDS: each row of YtckhibfbdnoigaaGreatDoorRows.lean that lists a variable, with what it lists TIED to the program's text (the seventh form; the later family's looks); each row that meets fmt, with fmt's text TOLD by the authors' own Lean function (tested against real Go, not proved from fmt's source: count such statements apart). THE CARD IS WHAT COUNTS. Prove the row's statement (the work); the ties are given (YtckhibfbdnoigaaGreatDoorTie.lean); close each card by the builder's one call (the guide's Derived/Test/ToyasCard.lean, 'card_holds'). Laid BY PROGRAM, IN A SANDBOX (cutbox-door.mjs). By AI agents, Wed Nov 11 2026. No macro, syntax, notation, axiom, sorry.
-/
import Derived.Test.YtckhibfbdnoigaaGreatDoorRows
import GoSem.ClaimSeven
namespace Go.Proofs.YtckhibfbdnoigaaGreatDoor
namespace Rows

/-- THE TIED CARD OF 'garmenttop.TopReturns'. -/
def topReturnsCard : Claim7 := { stood := { row := topReturnsRow, standIns := [], harness := (true, "553c323d29dae51170caad18905d79388dcb5165e8d5fc7041683c69b4c25f51"), looks := false }, kinds := [], alts := [], laidByText := true, laidKinds := [.data], laidTests := true, laidLooks := .later }
def TopReturnsCardSaid : Prop := Claim7.holds Tryz.pinned (.plain (OpenSpec.ofChange topReturnsSpec)) topReturnsCard

/-- THE TIED CARD OF 'garmentlaw57.WagePays'. -/
def wagePaysCard : Claim7 := { stood := { row := wagePaysRow, standIns := [], harness := (true, "553c323d29dae51170caad18905d79388dcb5165e8d5fc7041683c69b4c25f51"), looks := false }, kinds := [], alts := [], laidByText := true, laidKinds := [.data], laidTests := true, laidLooks := .later }
def WagePaysCardSaid : Prop := Claim7.holds Tryz.pinned (.plain (OpenSpec.ofChange wagePaysSpec)) wagePaysCard

/-- THE TIED CARD OF 'garmentlaw58.ReturnsTraces'. -/
def returnsTracesCard : Claim7 := { stood := { row := returnsTracesRow, standIns := [], harness := (true, "553c323d29dae51170caad18905d79388dcb5165e8d5fc7041683c69b4c25f51"), looks := false }, kinds := [], alts := [], laidByText := true, laidKinds := [.data], laidTests := true, laidLooks := .later }
def ReturnsTracesCardSaid : Prop := Claim7.holds Tryz.pinned (.plain (OpenSpec.ofChange returnsTracesSpec)) returnsTracesCard

/-- THE TIED CARD OF 'garmentlaw58.ReturnsCharges'. -/
def returnsChargesCard : Claim7 := { stood := { row := returnsChargesRow, standIns := [], harness := (true, "553c323d29dae51170caad18905d79388dcb5165e8d5fc7041683c69b4c25f51"), looks := false }, kinds := [], alts := [], laidByText := true, laidKinds := [.data], laidTests := true, laidLooks := .later }
def ReturnsChargesCardSaid : Prop := Claim7.holds Tryz.pinned (.plain (OpenSpec.ofChange returnsChargesSpec)) returnsChargesCard

/-- THE SECOND FORM's CARD OF 'garmenttop.TopReturns'. -/
def topReturnsUptoCard : Claim7 := { stood := { row := topReturnsUptoRow, standIns := [], harness := (true, "553c323d29dae51170caad18905d79388dcb5165e8d5fc7041683c69b4c25f51"), looks := false }, kinds := [], alts := [], laidByText := true, laidKinds := [.data], laidTests := true, laidLooks := .later }
def TopReturnsUptoCardSaid : Prop := Claim7.holds Tryz.pinned (.plain (OpenSpec.upto topReturnsSpec)) topReturnsUptoCard

/-- THE SECOND FORM's CARD OF 'garmentlaw57.WagePays'. -/
def wagePaysUptoCard : Claim7 := { stood := { row := wagePaysUptoRow, standIns := [], harness := (true, "553c323d29dae51170caad18905d79388dcb5165e8d5fc7041683c69b4c25f51"), looks := false }, kinds := [], alts := [], laidByText := true, laidKinds := [.data], laidTests := true, laidLooks := .later }
def WagePaysUptoCardSaid : Prop := Claim7.holds Tryz.pinned (.plain (OpenSpec.upto wagePaysSpec)) wagePaysUptoCard

/-- THE SECOND FORM's CARD OF 'garmentlaw58.ReturnsTraces'. -/
def returnsTracesUptoCard : Claim7 := { stood := { row := returnsTracesUptoRow, standIns := [], harness := (true, "553c323d29dae51170caad18905d79388dcb5165e8d5fc7041683c69b4c25f51"), looks := false }, kinds := [], alts := [], laidByText := true, laidKinds := [.data], laidTests := true, laidLooks := .later }
def ReturnsTracesUptoCardSaid : Prop := Claim7.holds Tryz.pinned (.plain (OpenSpec.upto returnsTracesSpec)) returnsTracesUptoCard

/-- THE SECOND FORM's CARD OF 'garmentlaw58.ReturnsCharges'. -/
def returnsChargesUptoCard : Claim7 := { stood := { row := returnsChargesUptoRow, standIns := [], harness := (true, "553c323d29dae51170caad18905d79388dcb5165e8d5fc7041683c69b4c25f51"), looks := false }, kinds := [], alts := [], laidByText := true, laidKinds := [.data], laidTests := true, laidLooks := .later }
def ReturnsChargesUptoCardSaid : Prop := Claim7.holds Tryz.pinned (.plain (OpenSpec.upto returnsChargesSpec)) returnsChargesUptoCard
end Rows
end Go.Proofs.YtckhibfbdnoigaaGreatDoor
