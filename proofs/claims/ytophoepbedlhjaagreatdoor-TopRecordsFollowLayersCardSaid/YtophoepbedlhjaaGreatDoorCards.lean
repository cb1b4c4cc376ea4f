/-
  DERIVED. GIVEN WITH THE SEED: THE CARDS: each row of YtophoepbedlhjaaGreatDoorRows.lean that lists a variable, with what it lists TIED to the program's text (the seventh form; the later family's looks); each row that meets fmt, with fmt's text TOLD by the authors' own Lean function (tested against real Go, not proved from fmt's source: count such statements apart). THE CARD IS WHAT COUNTS. Prove the row's statement (the work); the ties are given (YtophoepbedlhjaaGreatDoorTie.lean); close each card by the builder's one call (the guide's Derived/Test/ToyasCard.lean, 'card_holds'). Laid BY PROGRAM, IN A SANDBOX (cutbox-door.mjs). By AI agents, Wed Nov 11 2026. No macro, syntax, notation, axiom, sorry.
-/
import Derived.Test.YtophoepbedlhjaaGreatDoorRows
import GoSem.ClaimSeven
namespace Go.Proofs.YtophoepbedlhjaaGreatDoor
namespace Rows

/-- THE TIED CARD OF 'bltop.TopRecordsFollowLayers'. -/
def topRecordsFollowLayersCard : Claim7 := { stood := { row := topRecordsFollowLayersRow, standIns := [], harness := (true, "c326d04ab67db1c9934438c0d41d3a56da83e1bf1b1a347078b6ae239aa3fd63"), looks := true }, kinds := [], alts := [], laidByText := true, laidKinds := [.data, .pinned], laidTests := true, laidLooks := .later }
def TopRecordsFollowLayersCardSaid : Prop := Claim7.holds Tryz.pinned (.plain (OpenSpec.ofChange topRecordsFollowLayersSpec)) topRecordsFollowLayersCard

/-- THE TIED CARD OF 'bllaw2.JobsTimed'. -/
def jobsTimedCard : Claim7 := { stood := { row := jobsTimedRow, standIns := [], harness := (true, "c326d04ab67db1c9934438c0d41d3a56da83e1bf1b1a347078b6ae239aa3fd63"), looks := true }, kinds := [], alts := [], laidByText := true, laidKinds := [.data, .data, .data, .data, .sentinel, .sentinel, .pinned], laidTests := true, laidLooks := .later }
def JobsTimedCardSaid : Prop := Claim7.holds Tryz.pinned (.plain (OpenSpec.ofChange jobsTimedSpec)) jobsTimedCard

/-- THE TIED CARD OF 'blkeep2.NotesAgree'. -/
def notesAgreeCard : Claim7 := { stood := { row := notesAgreeRow, standIns := [], harness := (true, "c326d04ab67db1c9934438c0d41d3a56da83e1bf1b1a347078b6ae239aa3fd63"), looks := true }, kinds := [], alts := [], laidByText := true, laidKinds := [.data, .data, .data, .data, .sentinel, .sentinel, .pinned], laidTests := true, laidLooks := .later }
def NotesAgreeCardSaid : Prop := Claim7.holds Tryz.pinned (.plain (OpenSpec.ofChange notesAgreeSpec)) notesAgreeCard

/-- THE SECOND FORM's CARD OF 'bltop.TopRecordsFollowLayers'. -/
def topRecordsFollowLayersUptoCard : Claim7 := { stood := { row := topRecordsFollowLayersUptoRow, standIns := [], harness := (true, "c326d04ab67db1c9934438c0d41d3a56da83e1bf1b1a347078b6ae239aa3fd63"), looks := true }, kinds := [], alts := [], laidByText := true, laidKinds := [.data, .pinned], laidTests := true, laidLooks := .later }
def TopRecordsFollowLayersUptoCardSaid : Prop := Claim7.holds Tryz.pinned (.plain (OpenSpec.upto topRecordsFollowLayersSpec)) topRecordsFollowLayersUptoCard

/-- THE SECOND FORM's CARD OF 'bllaw2.JobsTimed'. -/
def jobsTimedUptoCard : Claim7 := { stood := { row := jobsTimedUptoRow, standIns := [], harness := (true, "c326d04ab67db1c9934438c0d41d3a56da83e1bf1b1a347078b6ae239aa3fd63"), looks := true }, kinds := [], alts := [], laidByText := true, laidKinds := [.data, .data, .data, .data, .sentinel, .sentinel, .pinned], laidTests := true, laidLooks := .later }
def JobsTimedUptoCardSaid : Prop := Claim7.holds Tryz.pinned (.plain (OpenSpec.upto jobsTimedSpec)) jobsTimedUptoCard

/-- THE SECOND FORM's CARD OF 'blkeep2.NotesAgree'. -/
def notesAgreeUptoCard : Claim7 := { stood := { row := notesAgreeUptoRow, standIns := [], harness := (true, "c326d04ab67db1c9934438c0d41d3a56da83e1bf1b1a347078b6ae239aa3fd63"), looks := true }, kinds := [], alts := [], laidByText := true, laidKinds := [.data, .data, .data, .data, .sentinel, .sentinel, .pinned], laidTests := true, laidLooks := .later }
def NotesAgreeUptoCardSaid : Prop := Claim7.holds Tryz.pinned (.plain (OpenSpec.upto notesAgreeSpec)) notesAgreeUptoCard
end Rows
end Go.Proofs.YtophoepbedlhjaaGreatDoor
