/-
  DERIVED. GIVEN WITH THE SEED: THE CARDS: each row of YtljibjlkjelpbaaGreatDoorRows.lean that lists a variable, with what it lists TIED to the program's text (the seventh form; the later family's looks); each row that meets fmt, with fmt's text TOLD by the authors' own Lean function (tested against real Go, not proved from fmt's source: count such statements apart). THE CARD IS WHAT COUNTS. Prove the row's statement (the work); the ties are given (YtljibjlkjelpbaaGreatDoorTie.lean); close each card by the builder's one call (the guide's Derived/Test/ToyasCard.lean, 'card_holds'). Laid BY PROGRAM, IN A SANDBOX (cutbox-door.mjs). By AI agents, Wed Nov 11 2026. No macro, syntax, notation, axiom, sorry.
-/
import Derived.Test.YtljibjlkjelpbaaGreatDoorRows
import GoSem.ClaimSeven
namespace Go.Proofs.YtljibjlkjelpbaaGreatDoor
namespace Rows

/-- THE TIED CARD OF 'garmentlaw57.WageLeast'. -/
def wageLeastCard : Claim7 := { stood := { row := wageLeastRow, standIns := [], harness := (true, "ffcaf094889700984a9f572dfd8b796effe595a087bb9c93a9de49a733bfa689"), looks := false }, kinds := [], alts := [], laidByText := true, laidKinds := [.data], laidTests := true, laidLooks := .later }
def WageLeastCardSaid : Prop := Claim7.holds Tryz.pinned (.plain (OpenSpec.ofChange wageLeastSpec)) wageLeastCard

/-- THE TIED CARD OF 'garmentlaw57.WageBounds'. -/
def wageBoundsCard : Claim7 := { stood := { row := wageBoundsRow, standIns := [], harness := (true, "ffcaf094889700984a9f572dfd8b796effe595a087bb9c93a9de49a733bfa689"), looks := false }, kinds := [], alts := [], laidByText := true, laidKinds := [.data], laidTests := true, laidLooks := .later }
def WageBoundsCardSaid : Prop := Claim7.holds Tryz.pinned (.plain (OpenSpec.ofChange wageBoundsSpec)) wageBoundsCard

/-- THE TIED CARD OF 'garmentlaw57.WageOnce'. -/
def wageOnceCard : Claim7 := { stood := { row := wageOnceRow, standIns := [], harness := (true, "ffcaf094889700984a9f572dfd8b796effe595a087bb9c93a9de49a733bfa689"), looks := false }, kinds := [], alts := [], laidByText := true, laidKinds := [.data], laidTests := true, laidLooks := .later }
def WageOnceCardSaid : Prop := Claim7.holds Tryz.pinned (.plain (OpenSpec.ofChange wageOnceSpec)) wageOnceCard

/-- THE TIED CARD OF 'garmentlaw57.WageRepeats'. -/
def wageRepeatsCard : Claim7 := { stood := { row := wageRepeatsRow, standIns := [], harness := (true, "ffcaf094889700984a9f572dfd8b796effe595a087bb9c93a9de49a733bfa689"), looks := false }, kinds := [], alts := [], laidByText := true, laidKinds := [.data], laidTests := true, laidLooks := .later }
def WageRepeatsCardSaid : Prop := Claim7.holds Tryz.pinned (.plain (OpenSpec.ofChange wageRepeatsSpec)) wageRepeatsCard

/-- THE TIED CARD OF 'garmentlaw57.WageRecords'. -/
def wageRecordsCard : Claim7 := { stood := { row := wageRecordsRow, standIns := [], harness := (true, "ffcaf094889700984a9f572dfd8b796effe595a087bb9c93a9de49a733bfa689"), looks := false }, kinds := [], alts := [], laidByText := true, laidKinds := [.data], laidTests := true, laidLooks := .later }
def WageRecordsCardSaid : Prop := Claim7.holds Tryz.pinned (.plain (OpenSpec.ofChange wageRecordsSpec)) wageRecordsCard

/-- THE TIED CARD OF 'garmentlaw58.ReturnsNets'. -/
def returnsNetsCard : Claim7 := { stood := { row := returnsNetsRow, standIns := [], harness := (true, "ffcaf094889700984a9f572dfd8b796effe595a087bb9c93a9de49a733bfa689"), looks := false }, kinds := [], alts := [], laidByText := true, laidKinds := [.data], laidTests := true, laidLooks := .later }
def ReturnsNetsCardSaid : Prop := Claim7.holds Tryz.pinned (.plain (OpenSpec.ofChange returnsNetsSpec)) returnsNetsCard

/-- THE TIED CARD OF 'garmentlaw58.ReturnsBounded'. -/
def returnsBoundedCard : Claim7 := { stood := { row := returnsBoundedRow, standIns := [], harness := (true, "ffcaf094889700984a9f572dfd8b796effe595a087bb9c93a9de49a733bfa689"), looks := false }, kinds := [], alts := [], laidByText := true, laidKinds := [.data], laidTests := true, laidLooks := .later }
def ReturnsBoundedCardSaid : Prop := Claim7.holds Tryz.pinned (.plain (OpenSpec.ofChange returnsBoundedSpec)) returnsBoundedCard

/-- THE TIED CARD OF 'garmentlaw58.ReturnsOnce'. -/
def returnsOnceCard : Claim7 := { stood := { row := returnsOnceRow, standIns := [], harness := (true, "ffcaf094889700984a9f572dfd8b796effe595a087bb9c93a9de49a733bfa689"), looks := false }, kinds := [], alts := [], laidByText := true, laidKinds := [.data], laidTests := true, laidLooks := .later }
def ReturnsOnceCardSaid : Prop := Claim7.holds Tryz.pinned (.plain (OpenSpec.ofChange returnsOnceSpec)) returnsOnceCard

/-- THE TIED CARD OF 'garmentlaw58.ReturnsAll'. -/
def returnsAllCard : Claim7 := { stood := { row := returnsAllRow, standIns := [], harness := (true, "ffcaf094889700984a9f572dfd8b796effe595a087bb9c93a9de49a733bfa689"), looks := false }, kinds := [], alts := [], laidByText := true, laidKinds := [.data], laidTests := true, laidLooks := .later }
def ReturnsAllCardSaid : Prop := Claim7.holds Tryz.pinned (.plain (OpenSpec.ofChange returnsAllSpec)) returnsAllCard

/-- THE TIED CARD OF 'garmentlaw58.ReturnsTurned'. -/
def returnsTurnedCard : Claim7 := { stood := { row := returnsTurnedRow, standIns := [], harness := (true, "ffcaf094889700984a9f572dfd8b796effe595a087bb9c93a9de49a733bfa689"), looks := false }, kinds := [], alts := [], laidByText := true, laidKinds := [.data], laidTests := true, laidLooks := .later }
def ReturnsTurnedCardSaid : Prop := Claim7.holds Tryz.pinned (.plain (OpenSpec.ofChange returnsTurnedSpec)) returnsTurnedCard

/-- THE TIED CARD OF 'garmentlaw58.ReturnsNet'. -/
def returnsNetCard : Claim7 := { stood := { row := returnsNetRow, standIns := [], harness := (true, "ffcaf094889700984a9f572dfd8b796effe595a087bb9c93a9de49a733bfa689"), looks := false }, kinds := [], alts := [], laidByText := true, laidKinds := [.data], laidTests := true, laidLooks := .later }
def ReturnsNetCardSaid : Prop := Claim7.holds Tryz.pinned (.plain (OpenSpec.ofChange returnsNetSpec)) returnsNetCard

/-- THE TIED CARD OF 'garmentlaw58.ReturnsPaid'. -/
def returnsPaidCard : Claim7 := { stood := { row := returnsPaidRow, standIns := [], harness := (true, "ffcaf094889700984a9f572dfd8b796effe595a087bb9c93a9de49a733bfa689"), looks := false }, kinds := [], alts := [], laidByText := true, laidKinds := [.data], laidTests := true, laidLooks := .later }
def ReturnsPaidCardSaid : Prop := Claim7.holds Tryz.pinned (.plain (OpenSpec.ofChange returnsPaidSpec)) returnsPaidCard

/-- THE SECOND FORM's CARD OF 'garmentlaw57.WageLeast'. -/
def wageLeastUptoCard : Claim7 := { stood := { row := wageLeastUptoRow, standIns := [], harness := (true, "ffcaf094889700984a9f572dfd8b796effe595a087bb9c93a9de49a733bfa689"), looks := false }, kinds := [], alts := [], laidByText := true, laidKinds := [.data], laidTests := true, laidLooks := .later }
def WageLeastUptoCardSaid : Prop := Claim7.holds Tryz.pinned (.plain (OpenSpec.upto wageLeastSpec)) wageLeastUptoCard

/-- THE SECOND FORM's CARD OF 'garmentlaw57.WageBounds'. -/
def wageBoundsUptoCard : Claim7 := { stood := { row := wageBoundsUptoRow, standIns := [], harness := (true, "ffcaf094889700984a9f572dfd8b796effe595a087bb9c93a9de49a733bfa689"), looks := false }, kinds := [], alts := [], laidByText := true, laidKinds := [.data], laidTests := true, laidLooks := .later }
def WageBoundsUptoCardSaid : Prop := Claim7.holds Tryz.pinned (.plain (OpenSpec.upto wageBoundsSpec)) wageBoundsUptoCard

/-- THE SECOND FORM's CARD OF 'garmentlaw57.WageOnce'. -/
def wageOnceUptoCard : Claim7 := { stood := { row := wageOnceUptoRow, standIns := [], harness := (true, "ffcaf094889700984a9f572dfd8b796effe595a087bb9c93a9de49a733bfa689"), looks := false }, kinds := [], alts := [], laidByText := true, laidKinds := [.data], laidTests := true, laidLooks := .later }
def WageOnceUptoCardSaid : Prop := Claim7.holds Tryz.pinned (.plain (OpenSpec.upto wageOnceSpec)) wageOnceUptoCard

/-- THE SECOND FORM's CARD OF 'garmentlaw57.WageRepeats'. -/
def wageRepeatsUptoCard : Claim7 := { stood := { row := wageRepeatsUptoRow, standIns := [], harness := (true, "ffcaf094889700984a9f572dfd8b796effe595a087bb9c93a9de49a733bfa689"), looks := false }, kinds := [], alts := [], laidByText := true, laidKinds := [.data], laidTests := true, laidLooks := .later }
def WageRepeatsUptoCardSaid : Prop := Claim7.holds Tryz.pinned (.plain (OpenSpec.upto wageRepeatsSpec)) wageRepeatsUptoCard

/-- THE SECOND FORM's CARD OF 'garmentlaw57.WageRecords'. -/
def wageRecordsUptoCard : Claim7 := { stood := { row := wageRecordsUptoRow, standIns := [], harness := (true, "ffcaf094889700984a9f572dfd8b796effe595a087bb9c93a9de49a733bfa689"), looks := false }, kinds := [], alts := [], laidByText := true, laidKinds := [.data], laidTests := true, laidLooks := .later }
def WageRecordsUptoCardSaid : Prop := Claim7.holds Tryz.pinned (.plain (OpenSpec.upto wageRecordsSpec)) wageRecordsUptoCard

/-- THE SECOND FORM's CARD OF 'garmentlaw58.ReturnsNets'. -/
def returnsNetsUptoCard : Claim7 := { stood := { row := returnsNetsUptoRow, standIns := [], harness := (true, "ffcaf094889700984a9f572dfd8b796effe595a087bb9c93a9de49a733bfa689"), looks := false }, kinds := [], alts := [], laidByText := true, laidKinds := [.data], laidTests := true, laidLooks := .later }
def ReturnsNetsUptoCardSaid : Prop := Claim7.holds Tryz.pinned (.plain (OpenSpec.upto returnsNetsSpec)) returnsNetsUptoCard

/-- THE SECOND FORM's CARD OF 'garmentlaw58.ReturnsBounded'. -/
def returnsBoundedUptoCard : Claim7 := { stood := { row := returnsBoundedUptoRow, standIns := [], harness := (true, "ffcaf094889700984a9f572dfd8b796effe595a087bb9c93a9de49a733bfa689"), looks := false }, kinds := [], alts := [], laidByText := true, laidKinds := [.data], laidTests := true, laidLooks := .later }
def ReturnsBoundedUptoCardSaid : Prop := Claim7.holds Tryz.pinned (.plain (OpenSpec.upto returnsBoundedSpec)) returnsBoundedUptoCard

/-- THE SECOND FORM's CARD OF 'garmentlaw58.ReturnsOnce'. -/
def returnsOnceUptoCard : Claim7 := { stood := { row := returnsOnceUptoRow, standIns := [], harness := (true, "ffcaf094889700984a9f572dfd8b796effe595a087bb9c93a9de49a733bfa689"), looks := false }, kinds := [], alts := [], laidByText := true, laidKinds := [.data], laidTests := true, laidLooks := .later }
def ReturnsOnceUptoCardSaid : Prop := Claim7.holds Tryz.pinned (.plain (OpenSpec.upto returnsOnceSpec)) returnsOnceUptoCard

/-- THE SECOND FORM's CARD OF 'garmentlaw58.ReturnsAll'. -/
def returnsAllUptoCard : Claim7 := { stood := { row := returnsAllUptoRow, standIns := [], harness := (true, "ffcaf094889700984a9f572dfd8b796effe595a087bb9c93a9de49a733bfa689"), looks := false }, kinds := [], alts := [], laidByText := true, laidKinds := [.data], laidTests := true, laidLooks := .later }
def ReturnsAllUptoCardSaid : Prop := Claim7.holds Tryz.pinned (.plain (OpenSpec.upto returnsAllSpec)) returnsAllUptoCard

/-- THE SECOND FORM's CARD OF 'garmentlaw58.ReturnsTurned'. -/
def returnsTurnedUptoCard : Claim7 := { stood := { row := returnsTurnedUptoRow, standIns := [], harness := (true, "ffcaf094889700984a9f572dfd8b796effe595a087bb9c93a9de49a733bfa689"), looks := false }, kinds := [], alts := [], laidByText := true, laidKinds := [.data], laidTests := true, laidLooks := .later }
def ReturnsTurnedUptoCardSaid : Prop := Claim7.holds Tryz.pinned (.plain (OpenSpec.upto returnsTurnedSpec)) returnsTurnedUptoCard

/-- THE SECOND FORM's CARD OF 'garmentlaw58.ReturnsNet'. -/
def returnsNetUptoCard : Claim7 := { stood := { row := returnsNetUptoRow, standIns := [], harness := (true, "ffcaf094889700984a9f572dfd8b796effe595a087bb9c93a9de49a733bfa689"), looks := false }, kinds := [], alts := [], laidByText := true, laidKinds := [.data], laidTests := true, laidLooks := .later }
def ReturnsNetUptoCardSaid : Prop := Claim7.holds Tryz.pinned (.plain (OpenSpec.upto returnsNetSpec)) returnsNetUptoCard

/-- THE SECOND FORM's CARD OF 'garmentlaw58.ReturnsPaid'. -/
def returnsPaidUptoCard : Claim7 := { stood := { row := returnsPaidUptoRow, standIns := [], harness := (true, "ffcaf094889700984a9f572dfd8b796effe595a087bb9c93a9de49a733bfa689"), looks := false }, kinds := [], alts := [], laidByText := true, laidKinds := [.data], laidTests := true, laidLooks := .later }
def ReturnsPaidUptoCardSaid : Prop := Claim7.holds Tryz.pinned (.plain (OpenSpec.upto returnsPaidSpec)) returnsPaidUptoCard
end Rows
end Go.Proofs.YtljibjlkjelpbaaGreatDoor
