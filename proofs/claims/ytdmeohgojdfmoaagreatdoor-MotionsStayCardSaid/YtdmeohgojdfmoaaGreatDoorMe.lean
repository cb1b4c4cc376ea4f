/- The document's speeds, by value: they are the program's. -/
import Derived.Test.YtdmeohgojdfmoaaGreatDoorMd
import Derived.Test.YtdmeohgojdfmoaaGreatDoorMq
set_option linter.unusedSimpArgs false
set_option linter.unusedVariables false
namespace Go.Proofs.YtdmeohgojdfmoaaGreatDoor
open Go Go.RowKit
set_option maxRecDepth 100000
end Go.Proofs.YtdmeohgojdfmoaaGreatDoor
