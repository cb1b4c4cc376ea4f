/- From a walk by value to a tied card, for rows that list variables of their own. -/
import Derived.Test.YtlhbfcfjepbhpaaGreatDoorQar
import Derived.Test.YtlhbfcfjepbhpaaGreatDoorRows
import Derived.Test.YtlhbfcfjepbhpaaGreatDoorCards
import Derived.Test.YtlhbfcfjepbhpaaGreatDoorTie
import Derived.Lay
import Derived.SevenTiedAt
import Derived.LaidMore
import Derived.Stop.Joined
set_option linter.unusedSimpArgs false
set_option linter.unusedVariables false
namespace Go.Proofs.YtlhbfcfjepbhpaaGreatDoor
open Go Go.ChangeShapes Go.WideShapes Go.ChangeAt Go.RowKit
set_option maxRecDepth 100000
theorem kc_laidOut : laidOutB Tryz.pinned.checked.prog = true := by kernel_rfl
theorem kc_mapsRowed : mapsRowed Tryz.pinned.checked.prog = true := by kernel_rfl
theorem kc_heard : Tryz.pinned.checked.prog.stopsHeard = true := by kernel_rfl
theorem kc_enter : Tryz.pinned.checked.prog.mayEnter = true := by kernel_rfl
end Go.Proofs.YtlhbfcfjepbhpaaGreatDoor
