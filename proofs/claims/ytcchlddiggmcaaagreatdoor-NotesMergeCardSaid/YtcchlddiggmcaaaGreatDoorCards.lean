/-
  DERIVED. GIVEN WITH THE SEED: THE CARDS: each row of YtcchlddiggmcaaaGreatDoorRows.lean that lists a variable, with what it lists TIED to the program's text (the seventh form; the later family's looks); each row that meets fmt, with fmt's text TOLD by the authors' own Lean function (tested against real Go, not proved from fmt's source: count such statements apart). THE CARD IS WHAT COUNTS. Prove the row's statement (the work); the ties are given (YtcchlddiggmcaaaGreatDoorTie.lean); close each card by the builder's one call (the guide's Derived/Test/ToyasCard.lean, 'card_holds'). Laid BY PROGRAM, IN A SANDBOX (cutbox-door.mjs). By AI agents, Wed Nov 11 2026. No macro, syntax, notation, axiom, sorry.
-/
import Derived.Test.YtcchlddiggmcaaaGreatDoorRows
import GoSem.ClaimSeven
namespace Go.Proofs.YtcchlddiggmcaaaGreatDoor
namespace Rows

/-- THE TIED CARD OF 'bllaw2.NotesMerge'. -/
def notesMergeCard : Claim7 := { stood := { row := notesMergeRow, standIns := [], harness := (true, "9c260a88fe87633625bb6700959f2f8301013ada1dc2c223d2d8829d547c6302"), looks := false }, kinds := [], alts := [], laidByText := true, laidKinds := [.data, .pinned], laidTests := true, laidLooks := .later }
def NotesMergeCardSaid : Prop := Claim7.holds Tryz.pinned (.plain (OpenSpec.ofChange notesMergeSpec)) notesMergeCard

/-- THE TIED CARD OF 'bllaw2.JobsFollowed'. -/
def jobsFollowedCard : Claim7 := { stood := { row := jobsFollowedRow, standIns := [], harness := (true, "9c260a88fe87633625bb6700959f2f8301013ada1dc2c223d2d8829d547c6302"), looks := false }, kinds := [], alts := [], laidByText := true, laidKinds := [.data, .data, .data, .data, .pinned], laidTests := true, laidLooks := .later }
def JobsFollowedCardSaid : Prop := Claim7.holds Tryz.pinned (.plain (OpenSpec.ofChange jobsFollowedSpec)) jobsFollowedCard

/-- THE SECOND FORM's CARD OF 'bllaw2.NotesMerge'. -/
def notesMergeUptoCard : Claim7 := { stood := { row := notesMergeUptoRow, standIns := [], harness := (true, "9c260a88fe87633625bb6700959f2f8301013ada1dc2c223d2d8829d547c6302"), looks := false }, kinds := [], alts := [], laidByText := true, laidKinds := [.data, .pinned], laidTests := true, laidLooks := .later }
def NotesMergeUptoCardSaid : Prop := Claim7.holds Tryz.pinned (.plain (OpenSpec.upto notesMergeSpec)) notesMergeUptoCard

/-- THE SECOND FORM's CARD OF 'bllaw2.JobsFollowed'. -/
def jobsFollowedUptoCard : Claim7 := { stood := { row := jobsFollowedUptoRow, standIns := [], harness := (true, "9c260a88fe87633625bb6700959f2f8301013ada1dc2c223d2d8829d547c6302"), looks := false }, kinds := [], alts := [], laidByText := true, laidKinds := [.data, .data, .data, .data, .pinned], laidTests := true, laidLooks := .later }
def JobsFollowedUptoCardSaid : Prop := Claim7.holds Tryz.pinned (.plain (OpenSpec.upto jobsFollowedSpec)) jobsFollowedUptoCard
end Rows
end Go.Proofs.YtcchlddiggmcaaaGreatDoor
