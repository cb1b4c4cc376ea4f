/- The document's fault of Exact, by value. -/
import Derived.Test.YtdmeohgojdfmoaaGreatDoorMg
set_option linter.unusedSimpArgs false
set_option linter.unusedVariables false
namespace Go.Proofs.YtdmeohgojdfmoaaGreatDoor
open Go Go.RowKit
set_option maxRecDepth 100000
theorem first4_eq (f t : Int) (x : Leg) (ch : Int) : firstK [legsF [x], changeF ch, spanF f 0 x.limit, spanF t 0 x.limit] = if oneF x ch ≠ 0 then oneF x ch else if 0 ≤ f ∧ f ≤ x.limit ∧ 0 ≤ t ∧ t ≤ x.limit then 0 else 1 := by
  have hl : legsF [x] = if legBad x then 1 else 0 := by simp [legsF]
  rw [hl]
  unfold oneF changeF spanF
  simp only [firstK]
  cases legBad x
  · by_cases h1 : 1 ≤ ch ∧ ch ≤ 10000000
    · by_cases h2 : 0 ≤ f ∧ f ≤ x.limit
      · by_cases h3 : 0 ≤ t ∧ t ≤ x.limit
        · simp [h1, h2, h3]
        · have : ¬ (0 ≤ f ∧ f ≤ x.limit ∧ 0 ≤ t ∧ t ≤ x.limit) := fun h => h3 h.2.2
          simp [h1, h2, h3]
      · have : ¬ (0 ≤ f ∧ f ≤ x.limit ∧ 0 ≤ t ∧ t ≤ x.limit) := fun h => h2 ⟨h.1, h.2.1⟩
        rw [if_neg h2, if_neg this]; simp [h1]
    · simp [h1]
  · simp
end Go.Proofs.YtdmeohgojdfmoaaGreatDoor
