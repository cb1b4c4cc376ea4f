/-
  DERIVED. GIVEN WITH THE SEED: THE CARDS: each row of YtniolldgidgffaaGreatDoorRows.lean that lists a variable, with what it lists TIED to the program's text (the seventh form; the later family's looks); each row that meets fmt, with fmt's text TOLD by the authors' own Lean function (tested against real Go, not proved from fmt's source: count such statements apart). THE CARD IS WHAT COUNTS. Prove the row's statement (the work); the ties are given (YtniolldgidgffaaGreatDoorTie.lean); close each card by the builder's one call (the guide's Derived/Test/ToyasCard.lean, 'card_holds'). Laid BY PROGRAM, IN A SANDBOX (cutbox-door.mjs). By AI agents, Wed Nov 11 2026. No macro, syntax, notation, axiom, sorry.
-/
import Derived.Test.YtniolldgidgffaaGreatDoorRows
import GoSem.ClaimSeven
namespace Go.Proofs.YtniolldgidgffaaGreatDoor
namespace Rows

/-- THE TIED CARD OF 'bllaw2.LinesLaid'. -/
def linesLaidCard : Claim7 := { stood := { row := linesLaidRow, standIns := [], harness := (true, "998329a19644640bbe855b2e3923499ee75ed4cd3aff2297b2b07a01e5d7890d"), looks := false }, kinds := [], alts := [], laidByText := true, laidKinds := [.data, .pinned], laidTests := true, laidLooks := .later }
def LinesLaidCardSaid : Prop := Claim7.holds Tryz.pinned (.plain (OpenSpec.ofChange linesLaidSpec)) linesLaidCard

/-- THE TIED CARD OF 'bllaw2.PathsCover'. -/
def pathsCoverCard : Claim7 := { stood := { row := pathsCoverRow, standIns := [], harness := (true, "998329a19644640bbe855b2e3923499ee75ed4cd3aff2297b2b07a01e5d7890d"), looks := false }, kinds := [], alts := [], laidByText := true, laidKinds := [.data, .pinned], laidTests := true, laidLooks := .later }
def PathsCoverCardSaid : Prop := Claim7.holds Tryz.pinned (.plain (OpenSpec.ofChange pathsCoverSpec)) pathsCoverCard

/-- THE TIED CARD OF 'bllaw2.FillingsJoined'. -/
def fillingsJoinedCard : Claim7 := { stood := { row := fillingsJoinedRow, standIns := [], harness := (true, "998329a19644640bbe855b2e3923499ee75ed4cd3aff2297b2b07a01e5d7890d"), looks := false }, kinds := [], alts := [], laidByText := true, laidKinds := [.data, .pinned], laidTests := true, laidLooks := .later }
def FillingsJoinedCardSaid : Prop := Claim7.holds Tryz.pinned (.plain (OpenSpec.ofChange fillingsJoinedSpec)) fillingsJoinedCard

/-- THE TIED CARD OF 'blkeep2.WallsAreShells'. -/
def wallsAreShellsCard : Claim7 := { stood := { row := wallsAreShellsRow, standIns := [], harness := (true, "998329a19644640bbe855b2e3923499ee75ed4cd3aff2297b2b07a01e5d7890d"), looks := false }, kinds := [], alts := [], laidByText := true, laidKinds := [.data, .pinned], laidTests := true, laidLooks := .later }
def WallsAreShellsCardSaid : Prop := Claim7.holds Tryz.pinned (.plain (OpenSpec.ofChange wallsAreShellsSpec)) wallsAreShellsCard

/-- THE TIED CARD OF 'blkeep2.BridgesHangFree'. -/
def bridgesHangFreeCard : Claim7 := { stood := { row := bridgesHangFreeRow, standIns := [], harness := (true, "998329a19644640bbe855b2e3923499ee75ed4cd3aff2297b2b07a01e5d7890d"), looks := false }, kinds := [], alts := [], laidByText := true, laidKinds := [.data, .pinned], laidTests := true, laidLooks := .later }
def BridgesHangFreeCardSaid : Prop := Claim7.holds Tryz.pinned (.plain (OpenSpec.ofChange bridgesHangFreeSpec)) bridgesHangFreeCard

/-- THE TIED CARD OF 'blkeep2.FillingsAreWhole'. -/
def fillingsAreWholeCard : Claim7 := { stood := { row := fillingsAreWholeRow, standIns := [], harness := (true, "998329a19644640bbe855b2e3923499ee75ed4cd3aff2297b2b07a01e5d7890d"), looks := false }, kinds := [], alts := [], laidByText := true, laidKinds := [.data, .pinned], laidTests := true, laidLooks := .later }
def FillingsAreWholeCardSaid : Prop := Claim7.holds Tryz.pinned (.plain (OpenSpec.ofChange fillingsAreWholeSpec)) fillingsAreWholeCard

/-- THE TIED CARD OF 'blkeep2.LinesCoverRows'. -/
def linesCoverRowsCard : Claim7 := { stood := { row := linesCoverRowsRow, standIns := [], harness := (true, "998329a19644640bbe855b2e3923499ee75ed4cd3aff2297b2b07a01e5d7890d"), looks := false }, kinds := [], alts := [], laidByText := true, laidKinds := [.data, .pinned], laidTests := true, laidLooks := .later }
def LinesCoverRowsCardSaid : Prop := Claim7.holds Tryz.pinned (.plain (OpenSpec.ofChange linesCoverRowsSpec)) linesCoverRowsCard

/-- THE TIED CARD OF 'blkeep2.FillsStay'. -/
def fillsStayCard : Claim7 := { stood := { row := fillsStayRow, standIns := [], harness := (true, "998329a19644640bbe855b2e3923499ee75ed4cd3aff2297b2b07a01e5d7890d"), looks := false }, kinds := [], alts := [], laidByText := true, laidKinds := [.data, .pinned], laidTests := true, laidLooks := .later }
def FillsStayCardSaid : Prop := Claim7.holds Tryz.pinned (.plain (OpenSpec.ofChange fillsStaySpec)) fillsStayCard

/-- THE SECOND FORM's CARD OF 'bllaw2.LinesLaid'. -/
def linesLaidUptoCard : Claim7 := { stood := { row := linesLaidUptoRow, standIns := [], harness := (true, "998329a19644640bbe855b2e3923499ee75ed4cd3aff2297b2b07a01e5d7890d"), looks := false }, kinds := [], alts := [], laidByText := true, laidKinds := [.data, .pinned], laidTests := true, laidLooks := .later }
def LinesLaidUptoCardSaid : Prop := Claim7.holds Tryz.pinned (.plain (OpenSpec.upto linesLaidSpec)) linesLaidUptoCard

/-- THE SECOND FORM's CARD OF 'bllaw2.PathsCover'. -/
def pathsCoverUptoCard : Claim7 := { stood := { row := pathsCoverUptoRow, standIns := [], harness := (true, "998329a19644640bbe855b2e3923499ee75ed4cd3aff2297b2b07a01e5d7890d"), looks := false }, kinds := [], alts := [], laidByText := true, laidKinds := [.data, .pinned], laidTests := true, laidLooks := .later }
def PathsCoverUptoCardSaid : Prop := Claim7.holds Tryz.pinned (.plain (OpenSpec.upto pathsCoverSpec)) pathsCoverUptoCard

/-- THE SECOND FORM's CARD OF 'bllaw2.FillingsJoined'. -/
def fillingsJoinedUptoCard : Claim7 := { stood := { row := fillingsJoinedUptoRow, standIns := [], harness := (true, "998329a19644640bbe855b2e3923499ee75ed4cd3aff2297b2b07a01e5d7890d"), looks := false }, kinds := [], alts := [], laidByText := true, laidKinds := [.data, .pinned], laidTests := true, laidLooks := .later }
def FillingsJoinedUptoCardSaid : Prop := Claim7.holds Tryz.pinned (.plain (OpenSpec.upto fillingsJoinedSpec)) fillingsJoinedUptoCard

/-- THE SECOND FORM's CARD OF 'blkeep2.WallsAreShells'. -/
def wallsAreShellsUptoCard : Claim7 := { stood := { row := wallsAreShellsUptoRow, standIns := [], harness := (true, "998329a19644640bbe855b2e3923499ee75ed4cd3aff2297b2b07a01e5d7890d"), looks := false }, kinds := [], alts := [], laidByText := true, laidKinds := [.data, .pinned], laidTests := true, laidLooks := .later }
def WallsAreShellsUptoCardSaid : Prop := Claim7.holds Tryz.pinned (.plain (OpenSpec.upto wallsAreShellsSpec)) wallsAreShellsUptoCard

/-- THE SECOND FORM's CARD OF 'blkeep2.BridgesHangFree'. -/
def bridgesHangFreeUptoCard : Claim7 := { stood := { row := bridgesHangFreeUptoRow, standIns := [], harness := (true, "998329a19644640bbe855b2e3923499ee75ed4cd3aff2297b2b07a01e5d7890d"), looks := false }, kinds := [], alts := [], laidByText := true, laidKinds := [.data, .pinned], laidTests := true, laidLooks := .later }
def BridgesHangFreeUptoCardSaid : Prop := Claim7.holds Tryz.pinned (.plain (OpenSpec.upto bridgesHangFreeSpec)) bridgesHangFreeUptoCard

/-- THE SECOND FORM's CARD OF 'blkeep2.FillingsAreWhole'. -/
def fillingsAreWholeUptoCard : Claim7 := { stood := { row := fillingsAreWholeUptoRow, standIns := [], harness := (true, "998329a19644640bbe855b2e3923499ee75ed4cd3aff2297b2b07a01e5d7890d"), looks := false }, kinds := [], alts := [], laidByText := true, laidKinds := [.data, .pinned], laidTests := true, laidLooks := .later }
def FillingsAreWholeUptoCardSaid : Prop := Claim7.holds Tryz.pinned (.plain (OpenSpec.upto fillingsAreWholeSpec)) fillingsAreWholeUptoCard

/-- THE SECOND FORM's CARD OF 'blkeep2.LinesCoverRows'. -/
def linesCoverRowsUptoCard : Claim7 := { stood := { row := linesCoverRowsUptoRow, standIns := [], harness := (true, "998329a19644640bbe855b2e3923499ee75ed4cd3aff2297b2b07a01e5d7890d"), looks := false }, kinds := [], alts := [], laidByText := true, laidKinds := [.data, .pinned], laidTests := true, laidLooks := .later }
def LinesCoverRowsUptoCardSaid : Prop := Claim7.holds Tryz.pinned (.plain (OpenSpec.upto linesCoverRowsSpec)) linesCoverRowsUptoCard

/-- THE SECOND FORM's CARD OF 'blkeep2.FillsStay'. -/
def fillsStayUptoCard : Claim7 := { stood := { row := fillsStayUptoRow, standIns := [], harness := (true, "998329a19644640bbe855b2e3923499ee75ed4cd3aff2297b2b07a01e5d7890d"), looks := false }, kinds := [], alts := [], laidByText := true, laidKinds := [.data, .pinned], laidTests := true, laidLooks := .later }
def FillsStayUptoCardSaid : Prop := Claim7.holds Tryz.pinned (.plain (OpenSpec.upto fillsStaySpec)) fillsStayUptoCard
end Rows
end Go.Proofs.YtniolldgidgffaaGreatDoor
