/-
  DERIVED. GIVEN WITH THE SEED: THE CARDS: each row of YtgeenfjmhhenfaaGreatDoorRows.lean that lists a variable, with what it lists TIED to the program's text (the seventh form; the later family's looks); each row that meets fmt, with fmt's text TOLD by the authors' own Lean function (tested against real Go, not proved from fmt's source: count such statements apart). THE CARD IS WHAT COUNTS. Prove the row's statement (the work); the ties are given (YtgeenfjmhhenfaaGreatDoorTie.lean); close each card by the builder's one call (the guide's Derived/Test/ToyasCard.lean, 'card_holds'). Laid BY PROGRAM, IN A SANDBOX (cutbox-door.mjs). By AI agents, Wed Nov 11 2026. No macro, syntax, notation, axiom, sorry.
-/
import Derived.Test.YtgeenfjmhhenfaaGreatDoorRows
import GoSem.ClaimSeven
namespace Go.Proofs.YtgeenfjmhhenfaaGreatDoor
namespace Rows

/-- THE TIED CARD OF 'bllaw2.LayersPlanned'. -/
def layersPlannedCard : Claim7 := { stood := { row := layersPlannedRow, standIns := [], harness := (true, "42cf85e609171de3aee3a1e368b80631931d0717cf29e33d77d846d8e80e790d"), looks := false }, kinds := [], alts := [], laidByText := true, laidKinds := [.data, .pinned], laidTests := true, laidLooks := .later }
def LayersPlannedCardSaid : Prop := Claim7.holds Tryz.pinned (.plain (OpenSpec.ofChange layersPlannedSpec)) layersPlannedCard

/-- THE TIED CARD OF 'bllaw2.LinesLaid'. -/
def linesLaidCard : Claim7 := { stood := { row := linesLaidRow, standIns := [], harness := (true, "42cf85e609171de3aee3a1e368b80631931d0717cf29e33d77d846d8e80e790d"), looks := false }, kinds := [], alts := [], laidByText := true, laidKinds := [.data, .pinned], laidTests := true, laidLooks := .later }
def LinesLaidCardSaid : Prop := Claim7.holds Tryz.pinned (.plain (OpenSpec.ofChange linesLaidSpec)) linesLaidCard

/-- THE TIED CARD OF 'bllaw2.PathsCover'. -/
def pathsCoverCard : Claim7 := { stood := { row := pathsCoverRow, standIns := [], harness := (true, "42cf85e609171de3aee3a1e368b80631931d0717cf29e33d77d846d8e80e790d"), looks := false }, kinds := [], alts := [], laidByText := true, laidKinds := [.data, .pinned], laidTests := true, laidLooks := .later }
def PathsCoverCardSaid : Prop := Claim7.holds Tryz.pinned (.plain (OpenSpec.ofChange pathsCoverSpec)) pathsCoverCard

/-- THE TIED CARD OF 'bllaw2.FillingsJoined'. -/
def fillingsJoinedCard : Claim7 := { stood := { row := fillingsJoinedRow, standIns := [], harness := (true, "42cf85e609171de3aee3a1e368b80631931d0717cf29e33d77d846d8e80e790d"), looks := false }, kinds := [], alts := [], laidByText := true, laidKinds := [.data, .pinned], laidTests := true, laidLooks := .later }
def FillingsJoinedCardSaid : Prop := Claim7.holds Tryz.pinned (.plain (OpenSpec.ofChange fillingsJoinedSpec)) fillingsJoinedCard

/-- THE SECOND FORM's CARD OF 'bllaw2.LayersPlanned'. -/
def layersPlannedUptoCard : Claim7 := { stood := { row := layersPlannedUptoRow, standIns := [], harness := (true, "42cf85e609171de3aee3a1e368b80631931d0717cf29e33d77d846d8e80e790d"), looks := false }, kinds := [], alts := [], laidByText := true, laidKinds := [.data, .pinned], laidTests := true, laidLooks := .later }
def LayersPlannedUptoCardSaid : Prop := Claim7.holds Tryz.pinned (.plain (OpenSpec.upto layersPlannedSpec)) layersPlannedUptoCard

/-- THE SECOND FORM's CARD OF 'bllaw2.LinesLaid'. -/
def linesLaidUptoCard : Claim7 := { stood := { row := linesLaidUptoRow, standIns := [], harness := (true, "42cf85e609171de3aee3a1e368b80631931d0717cf29e33d77d846d8e80e790d"), looks := false }, kinds := [], alts := [], laidByText := true, laidKinds := [.data, .pinned], laidTests := true, laidLooks := .later }
def LinesLaidUptoCardSaid : Prop := Claim7.holds Tryz.pinned (.plain (OpenSpec.upto linesLaidSpec)) linesLaidUptoCard

/-- THE SECOND FORM's CARD OF 'bllaw2.PathsCover'. -/
def pathsCoverUptoCard : Claim7 := { stood := { row := pathsCoverUptoRow, standIns := [], harness := (true, "42cf85e609171de3aee3a1e368b80631931d0717cf29e33d77d846d8e80e790d"), looks := false }, kinds := [], alts := [], laidByText := true, laidKinds := [.data, .pinned], laidTests := true, laidLooks := .later }
def PathsCoverUptoCardSaid : Prop := Claim7.holds Tryz.pinned (.plain (OpenSpec.upto pathsCoverSpec)) pathsCoverUptoCard

/-- THE SECOND FORM's CARD OF 'bllaw2.FillingsJoined'. -/
def fillingsJoinedUptoCard : Claim7 := { stood := { row := fillingsJoinedUptoRow, standIns := [], harness := (true, "42cf85e609171de3aee3a1e368b80631931d0717cf29e33d77d846d8e80e790d"), looks := false }, kinds := [], alts := [], laidByText := true, laidKinds := [.data, .pinned], laidTests := true, laidLooks := .later }
def FillingsJoinedUptoCardSaid : Prop := Claim7.holds Tryz.pinned (.plain (OpenSpec.upto fillingsJoinedSpec)) fillingsJoinedUptoCard
end Rows
end Go.Proofs.YtgeenfjmhhenfaaGreatDoor
