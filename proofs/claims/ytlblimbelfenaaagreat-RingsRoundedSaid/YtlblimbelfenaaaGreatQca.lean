/- The closed call of the package's own check of its parts: run by the executor. -/
import Derived.Test.YtlblimbelfenaaaGreatProg
import Derived.Test.YtlblimbelfenaaaGreatQao
import Derived.Test.YtlblimbelfenaaaGreatQbz
set_option linter.unusedSimpArgs false
set_option linter.unusedVariables false
/- The closed call of the package's own check of its parts: run by the executor. -/
namespace Go.Proofs.YtlblimbelfenaaaGreat
open Go
set_option maxRecDepth 1000000
theorem sliced_run : xrun Tryz.prog xnone 18 = some (.bool true) := by kernel_rfl
theorem sliced_a : ACalls Tryz.prog 18 [] [] fun u H => u = .c (B true) ∧ H = [] := acalls_of_xrun (by kernel_rfl) (xnone_ok _) (u := .bool true) sliced_run
end Go.Proofs.YtlblimbelfenaaaGreat
