/- Exact and its faults, of the program and of its document, by value. -/
import Derived.Test.YtdmeohgojdfmoaaGreatDoorMf
set_option linter.unusedSimpArgs false
set_option linter.unusedVariables false
namespace Go.Proofs.YtdmeohgojdfmoaaGreatDoor
open Go Go.RowKit
set_option maxRecDepth 100000
def exactV (f t : Int) (x : Leg) (ch : Int) : Int := if oneF x ch ≠ 0 then oneF x ch else if 0 ≤ f ∧ f ≤ x.limit ∧ 0 ≤ t ∧ t ≤ x.limit then (if 2 * ch * x.long < max (f * f - t * t) (-(f * f - t * t)) then 16 else 0) else 1
theorem oneF_ok {x : Leg} {ch : Int} (h : oneF x ch = 0) : x.good ∧ 1 ≤ ch ∧ ch ≤ 10000000 := by
  unfold oneF at h
  split at h
  · omega
  · rename_i hb
    exact ⟨legBad_iff.1 (by simpa using hb), changeF_ok h⟩
end Go.Proofs.YtdmeohgojdfmoaaGreatDoor
