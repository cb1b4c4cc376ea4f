/-
  DERIVED. GIVEN WITH THE SEED: THE CARDS: each row of YtlhbfcfjepbhpaaGreatDoorRows.lean that lists a variable, with what it lists TIED to the program's text (the seventh form; the later family's looks); each row that meets fmt, with fmt's text TOLD by the authors' own Lean function (tested against real Go, not proved from fmt's source: count such statements apart). THE CARD IS WHAT COUNTS. Prove the row's statement (the work); the ties are given (YtlhbfcfjepbhpaaGreatDoorTie.lean); close each card by the builder's one call (the guide's Derived/Test/ToyasCard.lean, 'card_holds'). Laid BY PROGRAM, IN A SANDBOX (cutbox-door.mjs). By AI agents, Wed Nov 11 2026. No macro, syntax, notation, axiom, sorry.
-/
import Derived.Test.YtlhbfcfjepbhpaaGreatDoorRows
import GoSem.ClaimSeven
namespace Go.Proofs.YtlhbfcfjepbhpaaGreatDoor
namespace Rows

/-- THE TIED CARD OF 'bllaw2.NoteTexts'. -/
def noteTextsCard : Claim7 := { stood := { row := noteTextsRow, standIns := [], harness := (true, "e20d033c599da9825ac0b72dfbca06f7be5834547de5e91813c88ca745e63dae"), looks := true }, kinds := [], alts := [], laidByText := true, laidKinds := [.data, .data, .data, .data, .sentinel, .sentinel, .pinned], laidTests := true, laidLooks := .later }
def NoteTextsCardSaid : Prop := Claim7.holds Tryz.pinned (.plain (OpenSpec.ofChange noteTextsSpec)) noteTextsCard

/-- THE TIED CARD OF 'blkeep2.NotesStay'. -/
def notesStayCard : Claim7 := { stood := { row := notesStayRow, standIns := [], harness := (true, "e20d033c599da9825ac0b72dfbca06f7be5834547de5e91813c88ca745e63dae"), looks := true }, kinds := [], alts := [], laidByText := true, laidKinds := [.data, .pinned], laidTests := true, laidLooks := .later }
def NotesStayCardSaid : Prop := Claim7.holds Tryz.pinned (.plain (OpenSpec.ofChange notesStaySpec)) notesStayCard

/-- THE TIED CARD OF 'bllaw2.JobsTimed'. -/
def jobsTimedCard : Claim7 := { stood := { row := jobsTimedRow, standIns := [], harness := (true, "e20d033c599da9825ac0b72dfbca06f7be5834547de5e91813c88ca745e63dae"), looks := true }, kinds := [], alts := [], laidByText := true, laidKinds := [.data, .data, .data, .data, .sentinel, .sentinel, .pinned], laidTests := true, laidLooks := .later }
def JobsTimedCardSaid : Prop := Claim7.holds Tryz.pinned (.plain (OpenSpec.ofChange jobsTimedSpec)) jobsTimedCard

/-- THE TIED CARD OF 'blkeep2.NotesAgree'. -/
def notesAgreeCard : Claim7 := { stood := { row := notesAgreeRow, standIns := [], harness := (true, "e20d033c599da9825ac0b72dfbca06f7be5834547de5e91813c88ca745e63dae"), looks := true }, kinds := [], alts := [], laidByText := true, laidKinds := [.data, .data, .data, .data, .sentinel, .sentinel, .pinned], laidTests := true, laidLooks := .later }
def NotesAgreeCardSaid : Prop := Claim7.holds Tryz.pinned (.plain (OpenSpec.ofChange notesAgreeSpec)) notesAgreeCard

/-- THE SECOND FORM's CARD OF 'bllaw2.NoteTexts'. -/
def noteTextsUptoCard : Claim7 := { stood := { row := noteTextsUptoRow, standIns := [], harness := (true, "e20d033c599da9825ac0b72dfbca06f7be5834547de5e91813c88ca745e63dae"), looks := true }, kinds := [], alts := [], laidByText := true, laidKinds := [.data, .data, .data, .data, .sentinel, .sentinel, .pinned], laidTests := true, laidLooks := .later }
def NoteTextsUptoCardSaid : Prop := Claim7.holds Tryz.pinned (.plain (OpenSpec.upto noteTextsSpec)) noteTextsUptoCard

/-- THE SECOND FORM's CARD OF 'blkeep2.NotesStay'. -/
def notesStayUptoCard : Claim7 := { stood := { row := notesStayUptoRow, standIns := [], harness := (true, "e20d033c599da9825ac0b72dfbca06f7be5834547de5e91813c88ca745e63dae"), looks := true }, kinds := [], alts := [], laidByText := true, laidKinds := [.data, .pinned], laidTests := true, laidLooks := .later }
def NotesStayUptoCardSaid : Prop := Claim7.holds Tryz.pinned (.plain (OpenSpec.upto notesStaySpec)) notesStayUptoCard

/-- THE SECOND FORM's CARD OF 'bllaw2.JobsTimed'. -/
def jobsTimedUptoCard : Claim7 := { stood := { row := jobsTimedUptoRow, standIns := [], harness := (true, "e20d033c599da9825ac0b72dfbca06f7be5834547de5e91813c88ca745e63dae"), looks := true }, kinds := [], alts := [], laidByText := true, laidKinds := [.data, .data, .data, .data, .sentinel, .sentinel, .pinned], laidTests := true, laidLooks := .later }
def JobsTimedUptoCardSaid : Prop := Claim7.holds Tryz.pinned (.plain (OpenSpec.upto jobsTimedSpec)) jobsTimedUptoCard

/-- THE SECOND FORM's CARD OF 'blkeep2.NotesAgree'. -/
def notesAgreeUptoCard : Claim7 := { stood := { row := notesAgreeUptoRow, standIns := [], harness := (true, "e20d033c599da9825ac0b72dfbca06f7be5834547de5e91813c88ca745e63dae"), looks := true }, kinds := [], alts := [], laidByText := true, laidKinds := [.data, .data, .data, .data, .sentinel, .sentinel, .pinned], laidTests := true, laidLooks := .later }
def NotesAgreeUptoCardSaid : Prop := Claim7.holds Tryz.pinned (.plain (OpenSpec.upto notesAgreeSpec)) notesAgreeUptoCard
end Rows
end Go.Proofs.YtlhbfcfjepbhpaaGreatDoor
