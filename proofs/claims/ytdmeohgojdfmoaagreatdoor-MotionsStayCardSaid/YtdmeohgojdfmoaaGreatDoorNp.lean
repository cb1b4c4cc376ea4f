/- Plain law: what kept speeds are; places of speeds that could be greater. -/
import Derived.Test.YtdmeohgojdfmoaaGreatDoorMp
set_option linter.unusedSimpArgs false
set_option linter.unusedVariables false
namespace Go.Proofs.YtdmeohgojdfmoaaGreatDoor
def KeptP (l : List Leg) (cs q : List Int) (ch : Int) : Prop := (∀ i, i ≤ l.length → 0 ≤ q.getD i 0 ∧ q.getD i 0 ≤ capL l cs i) ∧ ∀ i, i < l.length → max (q.getD i 0 * q.getD i 0 - q.getD (i + 1) 0 * q.getD (i + 1) 0) (-(q.getD i 0 * q.getD i 0 - q.getD (i + 1) 0 * q.getD (i + 1) 0)) ≤ disL l ch i
def slowU (l : List Leg) (cs q : List Int) (ch : Int) (k : Nat) : List Int := ((List.range k).filter fun i => decide (q.getD i 0 < spdL l cs ch i)).map fun (i : Nat) => (i : Int)
theorem slowU_t {l : List Leg} {cs q : List Int} {ch : Int} {k : Nat} (h : q.getD k 0 < spdL l cs ch k) : slowU l cs q ch (k + 1) = slowU l cs q ch k ++ [(k : Int)] := by
  unfold slowU; rw [List.range_succ, List.filter_append, List.map_append]
  have : List.filter (fun i => decide (q.getD i 0 < spdL l cs ch i)) [k] = [k] := List.filter_cons_of_pos (p := fun i => decide (q.getD i 0 < spdL l cs ch i)) (l := []) (decide_eq_true h)
  rw [this]; rfl
theorem slowU_f {l : List Leg} {cs q : List Int} {ch : Int} {k : Nat} (h : ¬ q.getD k 0 < spdL l cs ch k) : slowU l cs q ch (k + 1) = slowU l cs q ch k := by
  unfold slowU; rw [List.range_succ, List.filter_append, List.map_append]
  have : List.filter (fun i => decide (q.getD i 0 < spdL l cs ch i)) [k] = [] := List.filter_cons_of_neg (p := fun i => decide (q.getD i 0 < spdL l cs ch i)) (l := []) (by rw [decide_eq_false h]; exact Bool.false_ne_true)
  rw [this]; simp
theorem slowU_len (l : List Leg) (cs q : List Int) (ch : Int) (k : Nat) : (slowU l cs q ch k).length ≤ k := by
  unfold slowU; rw [List.length_map]; have := List.length_filter_le (fun i => decide (q.getD i 0 < spdL l cs ch i)) (List.range k); simp at this ⊢; omega
def slowS (l : List Leg) (cs q : List Int) (ch : Int) : List Int := slowU l cs q ch (l.length + 1)
theorem get_getD {q : List Int} {k : Nat} (h : k < q.length) : q[k]? = some (q.getD k 0) := by
  rw [List.getD_eq_getElem?_getD, List.getElem?_eq_getElem h]; rfl
def givenF (l : List Leg) (cs q : List Int) (ch : Int) : Int := if faultL l cs ch ≠ 0 then faultL l cs ch else if (q.length : Int) ≠ l.length + 1 then 3 else 0
end Go.Proofs.YtdmeohgojdfmoaaGreatDoor
