/- The stream of raw numbers, in the logic over values: each of its functions gives some value within its range and moves its counter on. -/
import Derived.Test.YtlhbfcfjepbhpaaGreatDoorQap
set_option linter.unusedSimpArgs false
set_option linter.unusedVariables false
namespace Go.Proofs.YtlhbfcfjepbhpaaGreatDoor
open Go Go.RowKit
set_option maxRecDepth 100000
abbrev I (n : Int) : CV := .s (.int .i64 n)
abbrev B (b : Bool) : CV := .s (.bool b)
def in64 (n : Int) : Prop := -9223372036854775808 ≤ n ∧ n ≤ 9223372036854775807
def belowF (x n : Int) : Int := if n < 1 then 0 else if Int.tmod x n < 0 then wrap64 (Int.tmod x n + n) else Int.tmod x n
theorem zY1 (x n : Int) (hn : in64 n) : 0 ≤ belowF x n ∧ (1 ≤ n → belowF x n < n) := by
 unfold belowF
 by_cases h : n < 1
 ·rw [if_pos h]; omega
 ·rw [if_neg h]
  have hl : Int.tmod x n < n := Int.tmod_lt_of_pos x (by omega)
  have hg : -n < Int.tmod x n := Int.lt_tmod_of_pos x (by omega)
  unfold in64 at hn
  split
  ·rw [IntWalk.wrap64_in _ (by constructor <;> omega)]; omega
  ·omega
theorem below_a (x n : Int) : ACalls Tryz.prog 105 [.c (I x), .c (I n)] [] fun u H => u = .c (I (belowF x n)) ∧ H = [] := by
 refine zg (N := 16) Tryz.func105 rfl rfl (by simp) fun E hE => ?_
 repeat' (first
  | (with_reducible refine zC ?_) | (with_reducible refine zA ?_) | (with_reducible refine zE ?_) | (with_reducible refine zI ?_) | (with_reducible refine zG ?_) | (with_reducible refine zJ ?_) | (with_reducible refine zH rfl ?_) | (with_reducible refine zF ?_) | (with_reducible refine zq ?_) | (with_reducible refine zj ?_) | (with_reducible refine zD ?_) | (with_reducible refine zt ?_)
  | refine zb rfl ?_ | refine za rfl ?_ | refine zr rfl (by assumption) ?_ | refine zo rfl (by assumption) ?_ | refine zw rfl (fun _ => ?_) (fun _ => ?_) | refine zn rfl (fun _ => ?_) (fun _ => ?_)
  | (refine zd ?_; refine WE ?_))
 all_goals (refine zh [] _ rfl rfl rfl (by decide) (ZNK rfl) (fun _ => .nil) ?_)
 all_goals (refine ⟨congrArg (fun z => AV.c (I z)) ?_, rfl⟩; unfold belowF; simp [*]; try omega)
abbrev strm (v : Value) (zs : List Int) (a : Int) : OB := .box [.c (.r v (zs.map fun z => [I z])), .c (I a)]
theorem zl {K : CV → Prop} {v : Value} {zs : List Int} {a : Int} (h : K (.r v (zs.map fun z => [I z]))) : ∀ o ∈ [strm v zs a], FlatO K o := fun o ho => by
 rw [List.mem_singleton.1 ho]
 intro x hx
 simp only [List.mem_cons, List.not_mem_nil, or_false] at hx
 rcases hx with rfl | rfl
 ·exact .c (.inr h)
 ·exact .c (.inl trivial)
structure StrOk (zs : List Int) : Prop where
 ok : ∀ z ∈ zs, in64 z
 len : zs.length ≤ 9223372036854775807
end Go.Proofs.YtlhbfcfjepbhpaaGreatDoor
