/-
  DERIVED. GIVEN WITH THE SEED: THE CARDS: each row of YthanangkmjjbaaaGreatDoorRows.lean that lists a variable, with what it lists TIED to the program's text (the seventh form; the later family's looks); each row that meets fmt, with fmt's text TOLD by the authors' own Lean function (tested against real Go, not proved from fmt's source: count such statements apart). THE CARD IS WHAT COUNTS. Prove the row's statement (the work); the ties are given (YthanangkmjjbaaaGreatDoorTie.lean); close each card by the builder's one call (the guide's Derived/Test/ToyasCard.lean, 'card_holds'). Laid BY PROGRAM, IN A SANDBOX (cutbox-door.mjs). By AI agents, Wed Nov 11 2026. No macro, syntax, notation, axiom, sorry.
-/
import Derived.Test.YthanangkmjjbaaaGreatDoorRows
import GoSem.ClaimSeven
namespace Go.Proofs.YthanangkmjjbaaaGreatDoor
namespace Rows

/-- THE TIED CARD OF 'blkeep2.MovedSlicesMove'. -/
def movedSlicesMoveCard : Claim7 := { stood := { row := movedSlicesMoveRow, standIns := [], harness := (true, "3d234187e5148796884f4c0cba14097285e0c6d613f4151e93fa22a3805a8eca"), looks := false }, kinds := [], alts := [], laidByText := true, laidKinds := [.data, .pinned], laidTests := true, laidLooks := .later }
def MovedSlicesMoveCardSaid : Prop := Claim7.holds Tryz.pinned (.plain (OpenSpec.ofChange movedSlicesMoveSpec)) movedSlicesMoveCard

/-- THE TIED CARD OF 'blkeep2.CutsLieBetween'. -/
def cutsLieBetweenCard : Claim7 := { stood := { row := cutsLieBetweenRow, standIns := [], harness := (true, "3d234187e5148796884f4c0cba14097285e0c6d613f4151e93fa22a3805a8eca"), looks := false }, kinds := [], alts := [], laidByText := true, laidKinds := [.data, .pinned], laidTests := true, laidLooks := .later }
def CutsLieBetweenCardSaid : Prop := Claim7.holds Tryz.pinned (.plain (OpenSpec.ofChange cutsLieBetweenSpec)) cutsLieBetweenCard

/-- THE TIED CARD OF 'blkeep2.ClosedStayClosed'. -/
def closedStayClosedCard : Claim7 := { stood := { row := closedStayClosedRow, standIns := [], harness := (true, "3d234187e5148796884f4c0cba14097285e0c6d613f4151e93fa22a3805a8eca"), looks := false }, kinds := [], alts := [], laidByText := true, laidKinds := [.data, .pinned], laidTests := true, laidLooks := .later }
def ClosedStayClosedCardSaid : Prop := Claim7.holds Tryz.pinned (.plain (OpenSpec.ofChange closedStayClosedSpec)) closedStayClosedCard

/-- THE TIED CARD OF 'blkeep2.QuietHeightsAreAlike'. -/
def quietHeightsAreAlikeCard : Claim7 := { stood := { row := quietHeightsAreAlikeRow, standIns := [], harness := (true, "3d234187e5148796884f4c0cba14097285e0c6d613f4151e93fa22a3805a8eca"), looks := false }, kinds := [], alts := [], laidByText := true, laidKinds := [.data, .pinned], laidTests := true, laidLooks := .later }
def QuietHeightsAreAlikeCardSaid : Prop := Claim7.holds Tryz.pinned (.plain (OpenSpec.ofChange quietHeightsAreAlikeSpec)) quietHeightsAreAlikeCard

/-- THE TIED CARD OF 'blkeep2.HeightsAreInside'. -/
def heightsAreInsideCard : Claim7 := { stood := { row := heightsAreInsideRow, standIns := [], harness := (true, "3d234187e5148796884f4c0cba14097285e0c6d613f4151e93fa22a3805a8eca"), looks := false }, kinds := [], alts := [], laidByText := true, laidKinds := [.data, .pinned], laidTests := true, laidLooks := .later }
def HeightsAreInsideCardSaid : Prop := Claim7.holds Tryz.pinned (.plain (OpenSpec.ofChange heightsAreInsideSpec)) heightsAreInsideCard

/-- THE TIED CARD OF 'blkeep2.SlicesStay'. -/
def slicesStayCard : Claim7 := { stood := { row := slicesStayRow, standIns := [], harness := (true, "3d234187e5148796884f4c0cba14097285e0c6d613f4151e93fa22a3805a8eca"), looks := false }, kinds := [], alts := [], laidByText := true, laidKinds := [.data, .pinned], laidTests := true, laidLooks := .later }
def SlicesStayCardSaid : Prop := Claim7.holds Tryz.pinned (.plain (OpenSpec.ofChange slicesStaySpec)) slicesStayCard

/-- THE SECOND FORM's CARD OF 'blkeep2.MovedSlicesMove'. -/
def movedSlicesMoveUptoCard : Claim7 := { stood := { row := movedSlicesMoveUptoRow, standIns := [], harness := (true, "3d234187e5148796884f4c0cba14097285e0c6d613f4151e93fa22a3805a8eca"), looks := false }, kinds := [], alts := [], laidByText := true, laidKinds := [.data, .pinned], laidTests := true, laidLooks := .later }
def MovedSlicesMoveUptoCardSaid : Prop := Claim7.holds Tryz.pinned (.plain (OpenSpec.upto movedSlicesMoveSpec)) movedSlicesMoveUptoCard

/-- THE SECOND FORM's CARD OF 'blkeep2.CutsLieBetween'. -/
def cutsLieBetweenUptoCard : Claim7 := { stood := { row := cutsLieBetweenUptoRow, standIns := [], harness := (true, "3d234187e5148796884f4c0cba14097285e0c6d613f4151e93fa22a3805a8eca"), looks := false }, kinds := [], alts := [], laidByText := true, laidKinds := [.data, .pinned], laidTests := true, laidLooks := .later }
def CutsLieBetweenUptoCardSaid : Prop := Claim7.holds Tryz.pinned (.plain (OpenSpec.upto cutsLieBetweenSpec)) cutsLieBetweenUptoCard

/-- THE SECOND FORM's CARD OF 'blkeep2.ClosedStayClosed'. -/
def closedStayClosedUptoCard : Claim7 := { stood := { row := closedStayClosedUptoRow, standIns := [], harness := (true, "3d234187e5148796884f4c0cba14097285e0c6d613f4151e93fa22a3805a8eca"), looks := false }, kinds := [], alts := [], laidByText := true, laidKinds := [.data, .pinned], laidTests := true, laidLooks := .later }
def ClosedStayClosedUptoCardSaid : Prop := Claim7.holds Tryz.pinned (.plain (OpenSpec.upto closedStayClosedSpec)) closedStayClosedUptoCard

/-- THE SECOND FORM's CARD OF 'blkeep2.QuietHeightsAreAlike'. -/
def quietHeightsAreAlikeUptoCard : Claim7 := { stood := { row := quietHeightsAreAlikeUptoRow, standIns := [], harness := (true, "3d234187e5148796884f4c0cba14097285e0c6d613f4151e93fa22a3805a8eca"), looks := false }, kinds := [], alts := [], laidByText := true, laidKinds := [.data, .pinned], laidTests := true, laidLooks := .later }
def QuietHeightsAreAlikeUptoCardSaid : Prop := Claim7.holds Tryz.pinned (.plain (OpenSpec.upto quietHeightsAreAlikeSpec)) quietHeightsAreAlikeUptoCard

/-- THE SECOND FORM's CARD OF 'blkeep2.HeightsAreInside'. -/
def heightsAreInsideUptoCard : Claim7 := { stood := { row := heightsAreInsideUptoRow, standIns := [], harness := (true, "3d234187e5148796884f4c0cba14097285e0c6d613f4151e93fa22a3805a8eca"), looks := false }, kinds := [], alts := [], laidByText := true, laidKinds := [.data, .pinned], laidTests := true, laidLooks := .later }
def HeightsAreInsideUptoCardSaid : Prop := Claim7.holds Tryz.pinned (.plain (OpenSpec.upto heightsAreInsideSpec)) heightsAreInsideUptoCard

/-- THE SECOND FORM's CARD OF 'blkeep2.SlicesStay'. -/
def slicesStayUptoCard : Claim7 := { stood := { row := slicesStayUptoRow, standIns := [], harness := (true, "3d234187e5148796884f4c0cba14097285e0c6d613f4151e93fa22a3805a8eca"), looks := false }, kinds := [], alts := [], laidByText := true, laidKinds := [.data, .pinned], laidTests := true, laidLooks := .later }
def SlicesStayUptoCardSaid : Prop := Claim7.holds Tryz.pinned (.plain (OpenSpec.upto slicesStaySpec)) slicesStayUptoCard
end Rows
end Go.Proofs.YthanangkmjjbaaaGreatDoor
