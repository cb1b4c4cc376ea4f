/-
  DERIVED. GIVEN WITH THE SEED: THE CARDS: each row of YtcdeonjdipcgpaaGreatDoorRows.lean that lists a variable, with what it lists TIED to the program's text (the seventh form; the later family's looks); each row that meets fmt, with fmt's text TOLD by the authors' own Lean function (tested against real Go, not proved from fmt's source: count such statements apart). THE CARD IS WHAT COUNTS. Prove the row's statement (the work); the ties are given (YtcdeonjdipcgpaaGreatDoorTie.lean); close each card by the builder's one call (the guide's Derived/Test/ToyasCard.lean, 'card_holds'). Laid BY PROGRAM, IN A SANDBOX (cutbox-door.mjs). By AI agents, Wed Nov 11 2026. No macro, syntax, notation, axiom, sorry.
-/
import Derived.Test.YtcdeonjdipcgpaaGreatDoorRows
import GoSem.ClaimSeven
namespace Go.Proofs.YtcdeonjdipcgpaaGreatDoor
namespace Rows

/-- THE TIED CARD OF 'bllaw2.JobsFollowed'. -/
def jobsFollowedCard : Claim7 := { stood := { row := jobsFollowedRow, standIns := [], harness := (true, "c6b06cfc84c12fa84236e4c91f8d840f96058e1b24e13e10af495331078768c5"), looks := true }, kinds := [], alts := [], laidByText := true, laidKinds := [.data, .data, .data, .data, .pinned], laidTests := true, laidLooks := .later }
def JobsFollowedCardSaid : Prop := Claim7.holds Tryz.pinned (.plain (OpenSpec.ofChange jobsFollowedSpec)) jobsFollowedCard

/-- THE TIED CARD OF 'blkeep2.JobsAreOnce'. -/
def jobsAreOnceCard : Claim7 := { stood := { row := jobsAreOnceRow, standIns := [], harness := (true, "c6b06cfc84c12fa84236e4c91f8d840f96058e1b24e13e10af495331078768c5"), looks := true }, kinds := [], alts := [], laidByText := true, laidKinds := [.data, .pinned], laidTests := true, laidLooks := .later }
def JobsAreOnceCardSaid : Prop := Claim7.holds Tryz.pinned (.plain (OpenSpec.ofChange jobsAreOnceSpec)) jobsAreOnceCard

/-- THE TIED CARD OF 'bllaw2.JobsTimed'. -/
def jobsTimedCard : Claim7 := { stood := { row := jobsTimedRow, standIns := [], harness := (true, "c6b06cfc84c12fa84236e4c91f8d840f96058e1b24e13e10af495331078768c5"), looks := true }, kinds := [], alts := [], laidByText := true, laidKinds := [.data, .data, .data, .data, .sentinel, .sentinel, .pinned], laidTests := true, laidLooks := .later }
def JobsTimedCardSaid : Prop := Claim7.holds Tryz.pinned (.plain (OpenSpec.ofChange jobsTimedSpec)) jobsTimedCard

/-- THE TIED CARD OF 'blkeep2.SpoolsGiveNoMore'. -/
def spoolsGiveNoMoreCard : Claim7 := { stood := { row := spoolsGiveNoMoreRow, standIns := [], harness := (true, "c6b06cfc84c12fa84236e4c91f8d840f96058e1b24e13e10af495331078768c5"), looks := true }, kinds := [], alts := [], laidByText := true, laidKinds := [.data, .data, .data, .data, .sentinel, .sentinel, .pinned], laidTests := true, laidLooks := .later }
def SpoolsGiveNoMoreCardSaid : Prop := Claim7.holds Tryz.pinned (.plain (OpenSpec.ofChange spoolsGiveNoMoreSpec)) spoolsGiveNoMoreCard

/-- THE SECOND FORM's CARD OF 'bllaw2.JobsFollowed'. -/
def jobsFollowedUptoCard : Claim7 := { stood := { row := jobsFollowedUptoRow, standIns := [], harness := (true, "c6b06cfc84c12fa84236e4c91f8d840f96058e1b24e13e10af495331078768c5"), looks := true }, kinds := [], alts := [], laidByText := true, laidKinds := [.data, .data, .data, .data, .pinned], laidTests := true, laidLooks := .later }
def JobsFollowedUptoCardSaid : Prop := Claim7.holds Tryz.pinned (.plain (OpenSpec.upto jobsFollowedSpec)) jobsFollowedUptoCard

/-- THE SECOND FORM's CARD OF 'blkeep2.JobsAreOnce'. -/
def jobsAreOnceUptoCard : Claim7 := { stood := { row := jobsAreOnceUptoRow, standIns := [], harness := (true, "c6b06cfc84c12fa84236e4c91f8d840f96058e1b24e13e10af495331078768c5"), looks := true }, kinds := [], alts := [], laidByText := true, laidKinds := [.data, .pinned], laidTests := true, laidLooks := .later }
def JobsAreOnceUptoCardSaid : Prop := Claim7.holds Tryz.pinned (.plain (OpenSpec.upto jobsAreOnceSpec)) jobsAreOnceUptoCard

/-- THE SECOND FORM's CARD OF 'bllaw2.JobsTimed'. -/
def jobsTimedUptoCard : Claim7 := { stood := { row := jobsTimedUptoRow, standIns := [], harness := (true, "c6b06cfc84c12fa84236e4c91f8d840f96058e1b24e13e10af495331078768c5"), looks := true }, kinds := [], alts := [], laidByText := true, laidKinds := [.data, .data, .data, .data, .sentinel, .sentinel, .pinned], laidTests := true, laidLooks := .later }
def JobsTimedUptoCardSaid : Prop := Claim7.holds Tryz.pinned (.plain (OpenSpec.upto jobsTimedSpec)) jobsTimedUptoCard

/-- THE SECOND FORM's CARD OF 'blkeep2.SpoolsGiveNoMore'. -/
def spoolsGiveNoMoreUptoCard : Claim7 := { stood := { row := spoolsGiveNoMoreUptoRow, standIns := [], harness := (true, "c6b06cfc84c12fa84236e4c91f8d840f96058e1b24e13e10af495331078768c5"), looks := true }, kinds := [], alts := [], laidByText := true, laidKinds := [.data, .data, .data, .data, .sentinel, .sentinel, .pinned], laidTests := true, laidLooks := .later }
def SpoolsGiveNoMoreUptoCardSaid : Prop := Claim7.holds Tryz.pinned (.plain (OpenSpec.upto spoolsGiveNoMoreSpec)) spoolsGiveNoMoreUptoCard
end Rows
end Go.Proofs.YtcdeonjdipcgpaaGreatDoor
