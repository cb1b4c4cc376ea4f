/-
  DERIVED. GIVEN WITH THE SEED: THE CARDS: each row of YtfilfijammemfaaGreatDoorRows.lean that lists a variable, with what it lists TIED to the program's text (the seventh form; the later family's looks); each row that meets fmt, with fmt's text TOLD by the authors' own Lean function (tested against real Go, not proved from fmt's source: count such statements apart). THE CARD IS WHAT COUNTS. Prove the row's statement (the work); the ties are given (YtfilfijammemfaaGreatDoorTie.lean); close each card by the builder's one call (the guide's Derived/Test/ToyasCard.lean, 'card_holds'). Laid BY PROGRAM, IN A SANDBOX (cutbox-door.mjs). By AI agents, Wed Nov 11 2026. No macro, syntax, notation, axiom, sorry.
-/
import Derived.Test.YtfilfijammemfaaGreatDoorRows
import GoSem.ClaimSeven
namespace Go.Proofs.YtfilfijammemfaaGreatDoor
namespace Rows

/-- THE TIED CARD OF 'bllaw2.LinesLaid'. -/
def linesLaidCard : Claim7 := { stood := { row := linesLaidRow, standIns := [], harness := (true, "c1cad12c2626b8000817c240f59ac01efa2318d040976f03475850161e23b57d"), looks := false }, kinds := [], alts := [], laidByText := true, laidKinds := [.data, .pinned], laidTests := true, laidLooks := .later }
def LinesLaidCardSaid : Prop := Claim7.holds Tryz.pinned (.plain (OpenSpec.ofChange linesLaidSpec)) linesLaidCard

/-- THE TIED CARD OF 'blkeep2.LinesCoverRows'. -/
def linesCoverRowsCard : Claim7 := { stood := { row := linesCoverRowsRow, standIns := [], harness := (true, "c1cad12c2626b8000817c240f59ac01efa2318d040976f03475850161e23b57d"), looks := false }, kinds := [], alts := [], laidByText := true, laidKinds := [.data, .pinned], laidTests := true, laidLooks := .later }
def LinesCoverRowsCardSaid : Prop := Claim7.holds Tryz.pinned (.plain (OpenSpec.ofChange linesCoverRowsSpec)) linesCoverRowsCard

/-- THE SECOND FORM's CARD OF 'bllaw2.LinesLaid'. -/
def linesLaidUptoCard : Claim7 := { stood := { row := linesLaidUptoRow, standIns := [], harness := (true, "c1cad12c2626b8000817c240f59ac01efa2318d040976f03475850161e23b57d"), looks := false }, kinds := [], alts := [], laidByText := true, laidKinds := [.data, .pinned], laidTests := true, laidLooks := .later }
def LinesLaidUptoCardSaid : Prop := Claim7.holds Tryz.pinned (.plain (OpenSpec.upto linesLaidSpec)) linesLaidUptoCard

/-- THE SECOND FORM's CARD OF 'blkeep2.LinesCoverRows'. -/
def linesCoverRowsUptoCard : Claim7 := { stood := { row := linesCoverRowsUptoRow, standIns := [], harness := (true, "c1cad12c2626b8000817c240f59ac01efa2318d040976f03475850161e23b57d"), looks := false }, kinds := [], alts := [], laidByText := true, laidKinds := [.data, .pinned], laidTests := true, laidLooks := .later }
def LinesCoverRowsUptoCardSaid : Prop := Claim7.holds Tryz.pinned (.plain (OpenSpec.upto linesCoverRowsSpec)) linesCoverRowsUptoCard
end Rows
end Go.Proofs.YtfilfijammemfaaGreatDoor
