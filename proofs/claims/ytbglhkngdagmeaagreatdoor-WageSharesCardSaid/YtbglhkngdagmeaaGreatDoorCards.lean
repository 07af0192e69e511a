/-
  DERIVED. GIVEN WITH THE SEED: THE CARDS: each row of YtbglhkngdagmeaaGreatDoorRows.lean that lists a variable, with what it lists TIED to the program's text (the seventh form; the later family's looks); each row that meets fmt, with fmt's text TOLD by the authors' own Lean function (tested against real Go, not proved from fmt's source: count such statements apart). THE CARD IS WHAT COUNTS. Prove the row's statement (the work); the ties are given (YtbglhkngdagmeaaGreatDoorTie.lean); close each card by the builder's one call (the guide's Derived/Test/ToyasCard.lean, 'card_holds'). Laid BY PROGRAM, IN A SANDBOX (cutbox-door.mjs). By AI agents, Wed Nov 11 2026. No macro, syntax, notation, axiom, sorry.
-/
import Derived.Test.YtbglhkngdagmeaaGreatDoorRows
import GoSem.ClaimSeven
namespace Go.Proofs.YtbglhkngdagmeaaGreatDoor
namespace Rows

/-- THE TIED CARD OF 'garmentlaw57.WageAmounts'. -/
def wageAmountsCard : Claim7 := { stood := { row := wageAmountsRow, standIns := [], harness := (true, "9c9b0798accd9142206ae53b52db96a08203b2f69f0c03c212213d89f8982b40"), looks := false }, kinds := [], alts := [], laidByText := true, laidKinds := [.data], laidTests := true, laidLooks := .later }
def WageAmountsCardSaid : Prop := Claim7.holds Tryz.pinned (.plain (OpenSpec.ofChange wageAmountsSpec)) wageAmountsCard

/-- THE TIED CARD OF 'garmentlaw57.WageTotals'. -/
def wageTotalsCard : Claim7 := { stood := { row := wageTotalsRow, standIns := [], harness := (true, "9c9b0798accd9142206ae53b52db96a08203b2f69f0c03c212213d89f8982b40"), looks := false }, kinds := [], alts := [], laidByText := true, laidKinds := [.data], laidTests := true, laidLooks := .later }
def WageTotalsCardSaid : Prop := Claim7.holds Tryz.pinned (.plain (OpenSpec.ofChange wageTotalsSpec)) wageTotalsCard

/-- THE TIED CARD OF 'garmentlaw57.WagePays'. -/
def wagePaysCard : Claim7 := { stood := { row := wagePaysRow, standIns := [], harness := (true, "9c9b0798accd9142206ae53b52db96a08203b2f69f0c03c212213d89f8982b40"), looks := false }, kinds := [], alts := [], laidByText := true, laidKinds := [.data], laidTests := true, laidLooks := .later }
def WagePaysCardSaid : Prop := Claim7.holds Tryz.pinned (.plain (OpenSpec.ofChange wagePaysSpec)) wagePaysCard

/-- THE TIED CARD OF 'garmentlaw57.WageLeast'. -/
def wageLeastCard : Claim7 := { stood := { row := wageLeastRow, standIns := [], harness := (true, "9c9b0798accd9142206ae53b52db96a08203b2f69f0c03c212213d89f8982b40"), looks := false }, kinds := [], alts := [], laidByText := true, laidKinds := [.data], laidTests := true, laidLooks := .later }
def WageLeastCardSaid : Prop := Claim7.holds Tryz.pinned (.plain (OpenSpec.ofChange wageLeastSpec)) wageLeastCard

/-- THE TIED CARD OF 'garmentlaw57.WageBounds'. -/
def wageBoundsCard : Claim7 := { stood := { row := wageBoundsRow, standIns := [], harness := (true, "9c9b0798accd9142206ae53b52db96a08203b2f69f0c03c212213d89f8982b40"), looks := false }, kinds := [], alts := [], laidByText := true, laidKinds := [.data], laidTests := true, laidLooks := .later }
def WageBoundsCardSaid : Prop := Claim7.holds Tryz.pinned (.plain (OpenSpec.ofChange wageBoundsSpec)) wageBoundsCard

/-- THE TIED CARD OF 'garmentlaw57.WageShares'. -/
def wageSharesCard : Claim7 := { stood := { row := wageSharesRow, standIns := [], harness := (true, "9c9b0798accd9142206ae53b52db96a08203b2f69f0c03c212213d89f8982b40"), looks := false }, kinds := [], alts := [], laidByText := true, laidKinds := [.data], laidTests := true, laidLooks := .later }
def WageSharesCardSaid : Prop := Claim7.holds Tryz.pinned (.plain (OpenSpec.ofChange wageSharesSpec)) wageSharesCard

/-- THE TIED CARD OF 'garmentlaw57.WageOnce'. -/
def wageOnceCard : Claim7 := { stood := { row := wageOnceRow, standIns := [], harness := (true, "9c9b0798accd9142206ae53b52db96a08203b2f69f0c03c212213d89f8982b40"), looks := false }, kinds := [], alts := [], laidByText := true, laidKinds := [.data], laidTests := true, laidLooks := .later }
def WageOnceCardSaid : Prop := Claim7.holds Tryz.pinned (.plain (OpenSpec.ofChange wageOnceSpec)) wageOnceCard

/-- THE TIED CARD OF 'garmentlaw57.WageRepeats'. -/
def wageRepeatsCard : Claim7 := { stood := { row := wageRepeatsRow, standIns := [], harness := (true, "9c9b0798accd9142206ae53b52db96a08203b2f69f0c03c212213d89f8982b40"), looks := false }, kinds := [], alts := [], laidByText := true, laidKinds := [.data], laidTests := true, laidLooks := .later }
def WageRepeatsCardSaid : Prop := Claim7.holds Tryz.pinned (.plain (OpenSpec.ofChange wageRepeatsSpec)) wageRepeatsCard

/-- THE TIED CARD OF 'garmentlaw57.WageRecords'. -/
def wageRecordsCard : Claim7 := { stood := { row := wageRecordsRow, standIns := [], harness := (true, "9c9b0798accd9142206ae53b52db96a08203b2f69f0c03c212213d89f8982b40"), looks := false }, kinds := [], alts := [], laidByText := true, laidKinds := [.data], laidTests := true, laidLooks := .later }
def WageRecordsCardSaid : Prop := Claim7.holds Tryz.pinned (.plain (OpenSpec.ofChange wageRecordsSpec)) wageRecordsCard

/-- THE TIED CARD OF 'garmentlaw58.ReturnsTraces'. -/
def returnsTracesCard : Claim7 := { stood := { row := returnsTracesRow, standIns := [], harness := (true, "9c9b0798accd9142206ae53b52db96a08203b2f69f0c03c212213d89f8982b40"), looks := false }, kinds := [], alts := [], laidByText := true, laidKinds := [.data], laidTests := true, laidLooks := .later }
def ReturnsTracesCardSaid : Prop := Claim7.holds Tryz.pinned (.plain (OpenSpec.ofChange returnsTracesSpec)) returnsTracesCard

/-- THE TIED CARD OF 'garmentlaw58.ReturnsNets'. -/
def returnsNetsCard : Claim7 := { stood := { row := returnsNetsRow, standIns := [], harness := (true, "9c9b0798accd9142206ae53b52db96a08203b2f69f0c03c212213d89f8982b40"), looks := false }, kinds := [], alts := [], laidByText := true, laidKinds := [.data], laidTests := true, laidLooks := .later }
def ReturnsNetsCardSaid : Prop := Claim7.holds Tryz.pinned (.plain (OpenSpec.ofChange returnsNetsSpec)) returnsNetsCard

/-- THE TIED CARD OF 'garmentlaw58.ReturnsNet'. -/
def returnsNetCard : Claim7 := { stood := { row := returnsNetRow, standIns := [], harness := (true, "9c9b0798accd9142206ae53b52db96a08203b2f69f0c03c212213d89f8982b40"), looks := false }, kinds := [], alts := [], laidByText := true, laidKinds := [.data], laidTests := true, laidLooks := .later }
def ReturnsNetCardSaid : Prop := Claim7.holds Tryz.pinned (.plain (OpenSpec.ofChange returnsNetSpec)) returnsNetCard

/-- THE SECOND FORM's CARD OF 'garmentlaw57.WageAmounts'. -/
def wageAmountsUptoCard : Claim7 := { stood := { row := wageAmountsUptoRow, standIns := [], harness := (true, "9c9b0798accd9142206ae53b52db96a08203b2f69f0c03c212213d89f8982b40"), looks := false }, kinds := [], alts := [], laidByText := true, laidKinds := [.data], laidTests := true, laidLooks := .later }
def WageAmountsUptoCardSaid : Prop := Claim7.holds Tryz.pinned (.plain (OpenSpec.upto wageAmountsSpec)) wageAmountsUptoCard

/-- THE SECOND FORM's CARD OF 'garmentlaw57.WageTotals'. -/
def wageTotalsUptoCard : Claim7 := { stood := { row := wageTotalsUptoRow, standIns := [], harness := (true, "9c9b0798accd9142206ae53b52db96a08203b2f69f0c03c212213d89f8982b40"), looks := false }, kinds := [], alts := [], laidByText := true, laidKinds := [.data], laidTests := true, laidLooks := .later }
def WageTotalsUptoCardSaid : Prop := Claim7.holds Tryz.pinned (.plain (OpenSpec.upto wageTotalsSpec)) wageTotalsUptoCard

/-- THE SECOND FORM's CARD OF 'garmentlaw57.WagePays'. -/
def wagePaysUptoCard : Claim7 := { stood := { row := wagePaysUptoRow, standIns := [], harness := (true, "9c9b0798accd9142206ae53b52db96a08203b2f69f0c03c212213d89f8982b40"), looks := false }, kinds := [], alts := [], laidByText := true, laidKinds := [.data], laidTests := true, laidLooks := .later }
def WagePaysUptoCardSaid : Prop := Claim7.holds Tryz.pinned (.plain (OpenSpec.upto wagePaysSpec)) wagePaysUptoCard

/-- THE SECOND FORM's CARD OF 'garmentlaw57.WageLeast'. -/
def wageLeastUptoCard : Claim7 := { stood := { row := wageLeastUptoRow, standIns := [], harness := (true, "9c9b0798accd9142206ae53b52db96a08203b2f69f0c03c212213d89f8982b40"), looks := false }, kinds := [], alts := [], laidByText := true, laidKinds := [.data], laidTests := true, laidLooks := .later }
def WageLeastUptoCardSaid : Prop := Claim7.holds Tryz.pinned (.plain (OpenSpec.upto wageLeastSpec)) wageLeastUptoCard

/-- THE SECOND FORM's CARD OF 'garmentlaw57.WageBounds'. -/
def wageBoundsUptoCard : Claim7 := { stood := { row := wageBoundsUptoRow, standIns := [], harness := (true, "9c9b0798accd9142206ae53b52db96a08203b2f69f0c03c212213d89f8982b40"), looks := false }, kinds := [], alts := [], laidByText := true, laidKinds := [.data], laidTests := true, laidLooks := .later }
def WageBoundsUptoCardSaid : Prop := Claim7.holds Tryz.pinned (.plain (OpenSpec.upto wageBoundsSpec)) wageBoundsUptoCard

/-- THE SECOND FORM's CARD OF 'garmentlaw57.WageShares'. -/
def wageSharesUptoCard : Claim7 := { stood := { row := wageSharesUptoRow, standIns := [], harness := (true, "9c9b0798accd9142206ae53b52db96a08203b2f69f0c03c212213d89f8982b40"), looks := false }, kinds := [], alts := [], laidByText := true, laidKinds := [.data], laidTests := true, laidLooks := .later }
def WageSharesUptoCardSaid : Prop := Claim7.holds Tryz.pinned (.plain (OpenSpec.upto wageSharesSpec)) wageSharesUptoCard

/-- THE SECOND FORM's CARD OF 'garmentlaw57.WageOnce'. -/
def wageOnceUptoCard : Claim7 := { stood := { row := wageOnceUptoRow, standIns := [], harness := (true, "9c9b0798accd9142206ae53b52db96a08203b2f69f0c03c212213d89f8982b40"), looks := false }, kinds := [], alts := [], laidByText := true, laidKinds := [.data], laidTests := true, laidLooks := .later }
def WageOnceUptoCardSaid : Prop := Claim7.holds Tryz.pinned (.plain (OpenSpec.upto wageOnceSpec)) wageOnceUptoCard

/-- THE SECOND FORM's CARD OF 'garmentlaw57.WageRepeats'. -/
def wageRepeatsUptoCard : Claim7 := { stood := { row := wageRepeatsUptoRow, standIns := [], harness := (true, "9c9b0798accd9142206ae53b52db96a08203b2f69f0c03c212213d89f8982b40"), looks := false }, kinds := [], alts := [], laidByText := true, laidKinds := [.data], laidTests := true, laidLooks := .later }
def WageRepeatsUptoCardSaid : Prop := Claim7.holds Tryz.pinned (.plain (OpenSpec.upto wageRepeatsSpec)) wageRepeatsUptoCard

/-- THE SECOND FORM's CARD OF 'garmentlaw57.WageRecords'. -/
def wageRecordsUptoCard : Claim7 := { stood := { row := wageRecordsUptoRow, standIns := [], harness := (true, "9c9b0798accd9142206ae53b52db96a08203b2f69f0c03c212213d89f8982b40"), looks := false }, kinds := [], alts := [], laidByText := true, laidKinds := [.data], laidTests := true, laidLooks := .later }
def WageRecordsUptoCardSaid : Prop := Claim7.holds Tryz.pinned (.plain (OpenSpec.upto wageRecordsSpec)) wageRecordsUptoCard

/-- THE SECOND FORM's CARD OF 'garmentlaw58.ReturnsTraces'. -/
def returnsTracesUptoCard : Claim7 := { stood := { row := returnsTracesUptoRow, standIns := [], harness := (true, "9c9b0798accd9142206ae53b52db96a08203b2f69f0c03c212213d89f8982b40"), looks := false }, kinds := [], alts := [], laidByText := true, laidKinds := [.data], laidTests := true, laidLooks := .later }
def ReturnsTracesUptoCardSaid : Prop := Claim7.holds Tryz.pinned (.plain (OpenSpec.upto returnsTracesSpec)) returnsTracesUptoCard

/-- THE SECOND FORM's CARD OF 'garmentlaw58.ReturnsNets'. -/
def returnsNetsUptoCard : Claim7 := { stood := { row := returnsNetsUptoRow, standIns := [], harness := (true, "9c9b0798accd9142206ae53b52db96a08203b2f69f0c03c212213d89f8982b40"), looks := false }, kinds := [], alts := [], laidByText := true, laidKinds := [.data], laidTests := true, laidLooks := .later }
def ReturnsNetsUptoCardSaid : Prop := Claim7.holds Tryz.pinned (.plain (OpenSpec.upto returnsNetsSpec)) returnsNetsUptoCard

/-- THE SECOND FORM's CARD OF 'garmentlaw58.ReturnsNet'. -/
def returnsNetUptoCard : Claim7 := { stood := { row := returnsNetUptoRow, standIns := [], harness := (true, "9c9b0798accd9142206ae53b52db96a08203b2f69f0c03c212213d89f8982b40"), looks := false }, kinds := [], alts := [], laidByText := true, laidKinds := [.data], laidTests := true, laidLooks := .later }
def ReturnsNetUptoCardSaid : Prop := Claim7.holds Tryz.pinned (.plain (OpenSpec.upto returnsNetSpec)) returnsNetUptoCard
end Rows
end Go.Proofs.YtbglhkngdagmeaaGreatDoor
