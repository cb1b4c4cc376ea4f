/- Texts for the functions of package slices, at any type of elements; what they do to rows. -/
import Derived.Test.YtdmeohgojdfmoaaGreatDoorSs
import Derived.Test.YtdmeohgojdfmoaaGreatDoorPvr
set_option linter.unusedSimpArgs false
set_option linter.unusedVariables false
namespace Go.Proofs.YtdmeohgojdfmoaaGreatDoor
open Go Go.RowKit
/-- Rows of this size, of plain cells. -/
def OkR (sz : Nat) (R : List (List CV)) : Prop := ∀ row ∈ R, row.length = sz ∧ ∀ u ∈ row, u.one = true
section
variable {β : Type} {r : List β} {y z : β} {i : Nat}
theorem ins_1 (hi : i < r.length) : (r.take i ++ List.replicate (r.length + 1 - i) z).take (0 + i) ++ [y] ++ (r.take i ++ List.replicate (r.length + 1 - i) z).drop (0 + i + [y].length) = r.take i ++ y :: List.replicate (r.length - i) z := by
  have hl : (r.take i).length = i := by simp; omega
  rw [Nat.zero_add, List.take_append_of_le_length (by omega), List.take_of_length_le (by omega), List.drop_append, List.drop_eq_nil_of_le (by simp; omega), hl]
  simp only [List.drop_replicate, List.length_cons, List.length_nil, List.nil_append, List.append_assoc, List.cons_append]
  rw [show r.length + 1 - i - (i + (0 + 1) - i) = r.length - i from by omega]
theorem ins_2 (hi : i < r.length) : (r.take i ++ y :: List.replicate (r.length - i) z).take (0 + (i + 1)) ++ r.drop i ++ (r.take i ++ y :: List.replicate (r.length - i) z).drop (0 + (i + 1) + (r.drop i).length) = r.take i ++ y :: r.drop i := by
  have hl : (r.take i).length = i := by simp; omega
  have e : (r.take i ++ y :: List.replicate (r.length - i) z).drop (0 + (i + 1) + (r.drop i).length) = [] := List.drop_eq_nil_of_le (by simp; omega)
  rw [e, Nat.zero_add, List.append_nil, List.take_append, hl, List.take_of_length_le (by omega), show i + 1 - i = 1 from by omega]
  simp
theorem ins_3 (hi : i < r.length) : r.take (0 + (i + 1)) ++ r.drop i ++ r.drop (0 + (i + 1) + (r.drop i).length) = r.take (i + 1) ++ r.drop i := by
  have e : r.drop (0 + (i + 1) + (r.drop i).length) = [] := List.drop_eq_nil_of_le (by simp; omega)
  rw [e, Nat.zero_add, List.append_nil]
theorem ins_4 (hi : i < r.length) : (r.take (i + 1) ++ r.drop i).take (0 + i) ++ [y] ++ (r.take (i + 1) ++ r.drop i).drop (0 + i + [y].length) = r.take i ++ y :: r.drop i := by
  have hl : (r.take (i + 1)).length = i + 1 := by simp; omega
  rw [Nat.zero_add, List.take_append_of_le_length (by omega), List.take_take, Nat.min_eq_left (by omega), List.drop_append_of_le_length (by simp; omega)]
  simp
end
end Go.Proofs.YtdmeohgojdfmoaaGreatDoor
