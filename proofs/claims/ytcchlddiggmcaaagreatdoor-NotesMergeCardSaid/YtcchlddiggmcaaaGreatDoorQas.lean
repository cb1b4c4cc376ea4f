/- From a walk by value to a tied card: the row lists two package-level variables, which the witness lays. -/
import Derived.Test.YtcchlddiggmcaaaGreatDoorQar
import Derived.Test.YtcchlddiggmcaaaGreatDoorRows
import Derived.Test.YtcchlddiggmcaaaGreatDoorCards
import Derived.Test.YtcchlddiggmcaaaGreatDoorTie
import Derived.Lay
import Derived.SevenTiedAt
import Derived.LaidMore
import Derived.Stop.Joined
set_option linter.unusedSimpArgs false
set_option linter.unusedVariables false
namespace Go.Proofs.YtcchlddiggmcaaaGreatDoor
open Go Go.ChangeShapes Go.WideShapes Go.ChangeAt Go.RowKit
set_option maxRecDepth 100000
abbrev laidL : List (String × DataW Unit) := [("unicode/utf8.acceptRanges", Rows.laid_unicode_utf8_acceptRanges), ("unicode/utf8.first", Rows.laid_unicode_utf8_first)]
theorem laid_shaped (os : Os) : ((World.laidAll Tryz.prog os laidL).forCall (fun _ _ => 0) ⟨#[], #[.slice none 0 0], []⟩).Shaped Tryz.prog := World.shaped_of_ZipB (by kernel_rfl) (by kernel_rfl)
theorem laid_met (os : Os) : laidMetH Tryz.prog laidL ((World.laidAll Tryz.prog os laidL).forCall (fun _ _ => 0) ⟨#[], #[.slice none 0 0], []⟩).memory := by
 rw [MakeChecks.laidMetH_plain _ _ _ (by kernel_rfl)]; exact laidMet_laidAll _ (by kernel_rfl) (by kernel_rfl)
theorem kc_laidOut : laidOutB Tryz.pinned.checked.prog = true := by kernel_rfl
theorem kc_mapsRowed : mapsRowed Tryz.pinned.checked.prog = true := by kernel_rfl
theorem kc_heard : Tryz.pinned.checked.prog.stopsHeard = true := by kernel_rfl
theorem kc_enter : Tryz.pinned.checked.prog.mayEnter = true := by kernel_rfl
theorem kc_looks : false = Tryz.pinned.checked.prog.looks [] := by kernel_rfl
end Go.Proofs.YtcchlddiggmcaaaGreatDoor
