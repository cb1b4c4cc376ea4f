/- The closed call of the package's own check of its parts: run by the executor. -/
import Derived.Test.YthanangkmjjbaaaGreatDoorProg
import Derived.Test.YthanangkmjjbaaaGreatDoorQap
import Derived.Test.YthanangkmjjbaaaGreatDoorQbv
set_option linter.unusedSimpArgs false
set_option linter.unusedVariables false
/- The closed call of the package's own check of its parts: run by the executor. -/
namespace Go.Proofs.YthanangkmjjbaaaGreatDoor
open Go
set_option maxRecDepth 1000000
theorem ready_run : xrun Tryz.prog xnone 13 = some (.bool true) := by kernel_rfl
theorem ready_a : ACalls Tryz.prog 13 [] [] fun u H => u = .c (B true) ∧ H = [] := acalls_of_xrun (by kernel_rfl) (xnone_ok _) (u := .bool true) ready_run
end Go.Proofs.YthanangkmjjbaaaGreatDoor
