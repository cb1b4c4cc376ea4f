/- The closed call of the package's own check of its parts: run by the executor. -/
import Derived.Test.YtdmeohgojdfmoaaGreatProg
import Derived.Test.YtdmeohgojdfmoaaGreatQas
import Derived.Test.YtdmeohgojdfmoaaGreatQbs
set_option linter.unusedSimpArgs false
set_option linter.unusedVariables false
/- The closed call of the package's own check of its parts: run by the executor. -/
namespace Go.Proofs.YtdmeohgojdfmoaaGreat
open Go
set_option maxRecDepth 1000000
theorem h10_run : xrun Tryz.prog xnone 6 = some (.bool true) := by kernel_rfl
theorem h10_a : ACalls Tryz.prog 6 [] [] fun u H => u = .c (B true) ∧ H = [] := acalls_of_xrun (by kernel_rfl) (xnone_ok _) (u := .bool true) h10_run
end Go.Proofs.YtdmeohgojdfmoaaGreat
