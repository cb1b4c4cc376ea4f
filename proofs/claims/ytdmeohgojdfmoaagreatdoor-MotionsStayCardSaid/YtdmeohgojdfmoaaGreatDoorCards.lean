/-
  DERIVED. GIVEN WITH THE SEED: THE CARDS: each row of YtdmeohgojdfmoaaGreatDoorRows.lean that lists a variable, with what it lists TIED to the program's text (the seventh form; the later family's looks); each row that meets fmt, with fmt's text TOLD by the authors' own Lean function (tested against real Go, not proved from fmt's source: count such statements apart). THE CARD IS WHAT COUNTS. Prove the row's statement (the work); the ties are given (YtdmeohgojdfmoaaGreatDoorTie.lean); close each card by the builder's one call (the guide's Derived/Test/ToyasCard.lean, 'card_holds'). Laid BY PROGRAM, IN A SANDBOX (cutbox-door.mjs). By AI agents, Wed Nov 11 2026. No macro, syntax, notation, axiom, sorry.
-/
import Derived.Test.YtdmeohgojdfmoaaGreatDoorRows
import GoSem.ClaimSeven
namespace Go.Proofs.YtdmeohgojdfmoaaGreatDoor
namespace Rows

/-- THE TIED CARD OF 'blkeep2.TimesAreLong'. -/
def timesAreLongCard : Claim7 := { stood := { row := timesAreLongRow, standIns := [], harness := (true, "3f21cef2557e6738c57cfd0ffdc31c1b8b968332a61e38f20a2f86003ae3bc01"), looks := false }, kinds := [], alts := [], laidByText := true, laidKinds := [.data, .pinned], laidTests := true, laidLooks := .later }
def TimesAreLongCardSaid : Prop := Claim7.holds Tryz.pinned (.plain (OpenSpec.ofChange timesAreLongSpec)) timesAreLongCard

/-- THE TIED CARD OF 'blkeep2.BothWaysAreSame'. -/
def bothWaysAreSameCard : Claim7 := { stood := { row := bothWaysAreSameRow, standIns := [], harness := (true, "3f21cef2557e6738c57cfd0ffdc31c1b8b968332a61e38f20a2f86003ae3bc01"), looks := false }, kinds := [], alts := [], laidByText := true, laidKinds := [.data, .pinned], laidTests := true, laidLooks := .later }
def BothWaysAreSameCardSaid : Prop := Claim7.holds Tryz.pinned (.plain (OpenSpec.ofChange bothWaysAreSameSpec)) bothWaysAreSameCard

/-- THE TIED CARD OF 'blkeep2.SpeedsKeepLimits'. -/
def speedsKeepLimitsCard : Claim7 := { stood := { row := speedsKeepLimitsRow, standIns := [], harness := (true, "3f21cef2557e6738c57cfd0ffdc31c1b8b968332a61e38f20a2f86003ae3bc01"), looks := false }, kinds := [], alts := [], laidByText := true, laidKinds := [.data, .pinned], laidTests := true, laidLooks := .later }
def SpeedsKeepLimitsCardSaid : Prop := Claim7.holds Tryz.pinned (.plain (OpenSpec.ofChange speedsKeepLimitsSpec)) speedsKeepLimitsCard

/-- THE TIED CARD OF 'blkeep2.RunsAreSteps'. -/
def runsAreStepsCard : Claim7 := { stood := { row := runsAreStepsRow, standIns := [], harness := (true, "3f21cef2557e6738c57cfd0ffdc31c1b8b968332a61e38f20a2f86003ae3bc01"), looks := false }, kinds := [], alts := [], laidByText := true, laidKinds := [.data, .pinned], laidTests := true, laidLooks := .later }
def RunsAreStepsCardSaid : Prop := Claim7.holds Tryz.pinned (.plain (OpenSpec.ofChange runsAreStepsSpec)) runsAreStepsCard

/-- THE TIED CARD OF 'blkeep2.MoreIsFaster'. -/
def moreIsFasterCard : Claim7 := { stood := { row := moreIsFasterRow, standIns := [], harness := (true, "3f21cef2557e6738c57cfd0ffdc31c1b8b968332a61e38f20a2f86003ae3bc01"), looks := false }, kinds := [], alts := [], laidByText := true, laidKinds := [.data, .pinned], laidTests := true, laidLooks := .later }
def MoreIsFasterCardSaid : Prop := Claim7.holds Tryz.pinned (.plain (OpenSpec.ofChange moreIsFasterSpec)) moreIsFasterCard

/-- THE TIED CARD OF 'blkeep2.FormsDoSame'. -/
def formsDoSameCard : Claim7 := { stood := { row := formsDoSameRow, standIns := [], harness := (true, "3f21cef2557e6738c57cfd0ffdc31c1b8b968332a61e38f20a2f86003ae3bc01"), looks := false }, kinds := [], alts := [], laidByText := true, laidKinds := [.data, .pinned], laidTests := true, laidLooks := .later }
def FormsDoSameCardSaid : Prop := Claim7.holds Tryz.pinned (.plain (OpenSpec.ofChange formsDoSameSpec)) formsDoSameCard

/-- THE TIED CARD OF 'blkeep2.CodesStay'. -/
def codesStayCard : Claim7 := { stood := { row := codesStayRow, standIns := [], harness := (true, "3f21cef2557e6738c57cfd0ffdc31c1b8b968332a61e38f20a2f86003ae3bc01"), looks := false }, kinds := [], alts := [], laidByText := true, laidKinds := [.data, .pinned], laidTests := true, laidLooks := .later }
def CodesStayCardSaid : Prop := Claim7.holds Tryz.pinned (.plain (OpenSpec.ofChange codesStaySpec)) codesStayCard

/-- THE TIED CARD OF 'blkeep2.MotionsStay'. -/
def motionsStayCard : Claim7 := { stood := { row := motionsStayRow, standIns := [], harness := (true, "3f21cef2557e6738c57cfd0ffdc31c1b8b968332a61e38f20a2f86003ae3bc01"), looks := false }, kinds := [], alts := [], laidByText := true, laidKinds := [.data, .pinned], laidTests := true, laidLooks := .later }
def MotionsStayCardSaid : Prop := Claim7.holds Tryz.pinned (.plain (OpenSpec.ofChange motionsStaySpec)) motionsStayCard

/-- THE SECOND FORM's CARD OF 'blkeep2.TimesAreLong'. -/
def timesAreLongUptoCard : Claim7 := { stood := { row := timesAreLongUptoRow, standIns := [], harness := (true, "3f21cef2557e6738c57cfd0ffdc31c1b8b968332a61e38f20a2f86003ae3bc01"), looks := false }, kinds := [], alts := [], laidByText := true, laidKinds := [.data, .pinned], laidTests := true, laidLooks := .later }
def TimesAreLongUptoCardSaid : Prop := Claim7.holds Tryz.pinned (.plain (OpenSpec.upto timesAreLongSpec)) timesAreLongUptoCard

/-- THE SECOND FORM's CARD OF 'blkeep2.BothWaysAreSame'. -/
def bothWaysAreSameUptoCard : Claim7 := { stood := { row := bothWaysAreSameUptoRow, standIns := [], harness := (true, "3f21cef2557e6738c57cfd0ffdc31c1b8b968332a61e38f20a2f86003ae3bc01"), looks := false }, kinds := [], alts := [], laidByText := true, laidKinds := [.data, .pinned], laidTests := true, laidLooks := .later }
def BothWaysAreSameUptoCardSaid : Prop := Claim7.holds Tryz.pinned (.plain (OpenSpec.upto bothWaysAreSameSpec)) bothWaysAreSameUptoCard

/-- THE SECOND FORM's CARD OF 'blkeep2.SpeedsKeepLimits'. -/
def speedsKeepLimitsUptoCard : Claim7 := { stood := { row := speedsKeepLimitsUptoRow, standIns := [], harness := (true, "3f21cef2557e6738c57cfd0ffdc31c1b8b968332a61e38f20a2f86003ae3bc01"), looks := false }, kinds := [], alts := [], laidByText := true, laidKinds := [.data, .pinned], laidTests := true, laidLooks := .later }
def SpeedsKeepLimitsUptoCardSaid : Prop := Claim7.holds Tryz.pinned (.plain (OpenSpec.upto speedsKeepLimitsSpec)) speedsKeepLimitsUptoCard

/-- THE SECOND FORM's CARD OF 'blkeep2.RunsAreSteps'. -/
def runsAreStepsUptoCard : Claim7 := { stood := { row := runsAreStepsUptoRow, standIns := [], harness := (true, "3f21cef2557e6738c57cfd0ffdc31c1b8b968332a61e38f20a2f86003ae3bc01"), looks := false }, kinds := [], alts := [], laidByText := true, laidKinds := [.data, .pinned], laidTests := true, laidLooks := .later }
def RunsAreStepsUptoCardSaid : Prop := Claim7.holds Tryz.pinned (.plain (OpenSpec.upto runsAreStepsSpec)) runsAreStepsUptoCard

/-- THE SECOND FORM's CARD OF 'blkeep2.MoreIsFaster'. -/
def moreIsFasterUptoCard : Claim7 := { stood := { row := moreIsFasterUptoRow, standIns := [], harness := (true, "3f21cef2557e6738c57cfd0ffdc31c1b8b968332a61e38f20a2f86003ae3bc01"), looks := false }, kinds := [], alts := [], laidByText := true, laidKinds := [.data, .pinned], laidTests := true, laidLooks := .later }
def MoreIsFasterUptoCardSaid : Prop := Claim7.holds Tryz.pinned (.plain (OpenSpec.upto moreIsFasterSpec)) moreIsFasterUptoCard

/-- THE SECOND FORM's CARD OF 'blkeep2.FormsDoSame'. -/
def formsDoSameUptoCard : Claim7 := { stood := { row := formsDoSameUptoRow, standIns := [], harness := (true, "3f21cef2557e6738c57cfd0ffdc31c1b8b968332a61e38f20a2f86003ae3bc01"), looks := false }, kinds := [], alts := [], laidByText := true, laidKinds := [.data, .pinned], laidTests := true, laidLooks := .later }
def FormsDoSameUptoCardSaid : Prop := Claim7.holds Tryz.pinned (.plain (OpenSpec.upto formsDoSameSpec)) formsDoSameUptoCard

/-- THE SECOND FORM's CARD OF 'blkeep2.CodesStay'. -/
def codesStayUptoCard : Claim7 := { stood := { row := codesStayUptoRow, standIns := [], harness := (true, "3f21cef2557e6738c57cfd0ffdc31c1b8b968332a61e38f20a2f86003ae3bc01"), looks := false }, kinds := [], alts := [], laidByText := true, laidKinds := [.data, .pinned], laidTests := true, laidLooks := .later }
def CodesStayUptoCardSaid : Prop := Claim7.holds Tryz.pinned (.plain (OpenSpec.upto codesStaySpec)) codesStayUptoCard

/-- THE SECOND FORM's CARD OF 'blkeep2.MotionsStay'. -/
def motionsStayUptoCard : Claim7 := { stood := { row := motionsStayUptoRow, standIns := [], harness := (true, "3f21cef2557e6738c57cfd0ffdc31c1b8b968332a61e38f20a2f86003ae3bc01"), looks := false }, kinds := [], alts := [], laidByText := true, laidKinds := [.data, .pinned], laidTests := true, laidLooks := .later }
def MotionsStayUptoCardSaid : Prop := Claim7.holds Tryz.pinned (.plain (OpenSpec.upto motionsStaySpec)) motionsStayUptoCard
end Rows
end Go.Proofs.YtdmeohgojdfmoaaGreatDoor
