/- The program's faults of steps, by value. -/
import Derived.Test.YtdmeohgojdfmoaaGreatQas
import Derived.Test.YtdmeohgojdfmoaaGreatQan
set_option linter.unusedSimpArgs false
set_option linter.unusedVariables false
/- The program's faults of steps, by value. -/
namespace Go.Proofs.YtdmeohgojdfmoaaGreat
open Go Go.RowKit
set_option maxRecDepth 100000
theorem outside_a (n lo hi : Int) : ACalls Tryz.prog 30 [.c (I n), .c (I lo), .c (I hi)] [] fun u H => ∃ b : Bool, u = .c (B b) ∧ H = [] ∧ (b = false → lo ≤ n ∧ n ≤ hi) ∧ (b = true → n < lo ∨ hi < n) := by
  refine acalls_of (N := 15) Tryz.func30 rfl rfl (by simp) fun E hE => ?_
  by_cases h1 : n < lo
  · repeat' (first
      | (with_reducible refine aw_seq ?_) | (with_reducible refine aseq_n ?_) | (with_reducible refine aseq_r ?_) | (with_reducible refine ablk_n ?_) | (with_reducible refine ablk_r ?_) | (with_reducible refine ablk_e ?_) | (with_reducible refine ablk_o rfl ?_) | (with_reducible refine aseq_e ?_) | (with_reducible refine aw_skip ?_) | (with_reducible refine aw_block ?_) | (with_reducible refine aw_ret ?_) | (with_reducible refine aw_exit ?_)
      | refine aw_cond_t rfl ?_ | refine aw_cond_f rfl ?_ | refine aw_if_t rfl (by assumption) ?_ | refine aw_if_f rfl (by assumption) ?_ | refine aw_if rfl (fun _ => ?_) (fun _ => ?_) | refine aw_cond rfl (fun _ => ?_) (fun _ => ?_)
      | (refine aw_region ?_; refine WE ?_))
    refine aret_1 [] _ rfl rfl rfl (by decide) (ZNK rfl) (fun _ => .nil) ?_
    exact ⟨_, rfl, rfl, by simp, by simp; omega⟩
  · by_cases h2 : hi < n
    · repeat' (first
        | (with_reducible refine aw_seq ?_) | (with_reducible refine aseq_n ?_) | (with_reducible refine aseq_r ?_) | (with_reducible refine ablk_n ?_) | (with_reducible refine ablk_r ?_) | (with_reducible refine ablk_e ?_) | (with_reducible refine ablk_o rfl ?_) | (with_reducible refine aseq_e ?_) | (with_reducible refine aw_skip ?_) | (with_reducible refine aw_block ?_) | (with_reducible refine aw_ret ?_) | (with_reducible refine aw_exit ?_)
        | refine aw_cond_t rfl ?_ | refine aw_cond_f rfl ?_ | refine aw_if_t rfl (by assumption) ?_ | refine aw_if_f rfl (by assumption) ?_ | refine aw_if rfl (fun _ => ?_) (fun _ => ?_) | refine aw_cond rfl (fun _ => ?_) (fun _ => ?_)
        | (refine aw_region ?_; refine WE ?_))
      refine aret_1 [] _ rfl rfl rfl (by decide) (ZNK rfl) (fun _ => .nil) ?_
      exact ⟨_, rfl, rfl, by simp, by simp; omega⟩
    · repeat' (first
        | (with_reducible refine aw_seq ?_) | (with_reducible refine aseq_n ?_) | (with_reducible refine aseq_r ?_) | (with_reducible refine ablk_n ?_) | (with_reducible refine ablk_r ?_) | (with_reducible refine ablk_e ?_) | (with_reducible refine ablk_o rfl ?_) | (with_reducible refine aseq_e ?_) | (with_reducible refine aw_skip ?_) | (with_reducible refine aw_block ?_) | (with_reducible refine aw_ret ?_) | (with_reducible refine aw_exit ?_)
        | refine aw_cond_t rfl ?_ | refine aw_cond_f rfl ?_ | refine aw_if_t rfl (by assumption) ?_ | refine aw_if_f rfl (by assumption) ?_ | refine aw_if rfl (fun _ => ?_) (fun _ => ?_) | refine aw_cond rfl (fun _ => ?_) (fun _ => ?_)
        | (refine aw_region ?_; refine WE ?_))
      refine aret_1 [] _ rfl rfl rfl (by decide) (ZNK rfl) (fun _ => .nil) ?_
      exact ⟨_, rfl, rfl, by simp; omega, by simp⟩
theorem iskind_a (n : Int) : ACalls Tryz.prog 60 [.c (I n)] [] fun u H => ∃ b : Bool, u = .c (B b) ∧ H = [] ∧ (b = true → 1 ≤ n ∧ n ≤ 9) ∧ (b = false → n < 1 ∨ 9 < n) := by
  refine acalls_of (N := 6) Tryz.func60 rfl rfl (by simp) fun E hE => ?_
  refine WA ?_
  refine WR ?_
  refine al_ef rfl (ef_call0 false (fun _ => outside_a _ _ _) rfl .fn rfl (by decide) (by kernel_rfl) rfl (fun _g => .cons (.c rfl) (.cons (.c rfl) (.cons (.c rfl) .nil))) (by simp)) ?_
  rintro _ _ ⟨_, _, _, ⟨b, rfl, rfl, hb1, hb2⟩, hF, hH⟩
  (try simp only [nsl, Nat.reduceAdd, Nat.reduceLT, Nat.reduceSub] at hF); (try simp only [nsl, Nat.reduceAdd, Nat.reduceLT, Nat.reduceSub] at hH); subst hF; subst hH
  cases b
  all_goals (simp only [true_implies, false_implies, reduceCtorEq] at hb1 hb2)
  all_goals (refine WE ?_)
  all_goals (refine aret_1 [] _ rfl rfl rfl (by decide) (ZNK rfl) (fun _ => .nil) ?_)
  all_goals exact ⟨_, rfl, rfl, by simp; try omega, by simp; try omega⟩
theorem isplace_a (n : Int) : ACalls Tryz.prog 62 [.c (I n)] [] fun u H => ∃ b : Bool, u = .c (B b) ∧ H = [] ∧ (b = true → -200000 ≤ n ∧ n ≤ 200000) ∧ (b = false → n < -200000 ∨ 200000 < n) := by
  refine acalls_of (N := 6) Tryz.func62 rfl rfl (by simp) fun E hE => ?_
  refine WA ?_
  refine WR ?_
  refine al_ef rfl (ef_call0 false (fun _ => outside_a _ _ _) rfl .fn rfl (by decide) (by kernel_rfl) rfl (fun _g => .cons (.c rfl) (.cons (.c rfl) (.cons (.c rfl) .nil))) (by simp)) ?_
  rintro _ _ ⟨_, _, _, ⟨b, rfl, rfl, hb1, hb2⟩, hF, hH⟩
  (try simp only [nsl, Nat.reduceAdd, Nat.reduceLT, Nat.reduceSub] at hF); (try simp only [nsl, Nat.reduceAdd, Nat.reduceLT, Nat.reduceSub] at hH); subst hF; subst hH
  cases b
  all_goals (simp only [true_implies, false_implies, reduceCtorEq] at hb1 hb2)
  all_goals (refine WE ?_)
  all_goals (refine aret_1 [] _ rfl rfl rfl (by decide) (ZNK rfl) (fun _ => .nil) ?_)
  all_goals exact ⟨_, rfl, rfl, by simp; try omega, by simp; try omega⟩
structure Form where
  w : ByteArray
  pl : Bool
  fl : Bool
  zz : Bool
  nn : Bool
  lo : Int
  hi : Int
abbrev Form.row (f : Form) : List CV := [.s (.string f.w), B f.pl, B f.fl, B f.zz, B f.nn, I f.lo, I f.hi]
def formL : List Form := [⟨ByteArray.empty, false, false, false, false, 0, 0⟩, ⟨⟨#[97, 98, 115, 111, 108, 117, 116, 101]⟩, false, false, false, false, 0, 0⟩, ⟨⟨#[114, 101, 108, 97, 116, 105, 118, 101]⟩, false, false, false, false, 0, 0⟩,
  ⟨⟨#[109, 111, 118, 101]⟩, true, false, false, false, 0, 0⟩, ⟨⟨#[112, 114, 105, 110, 116]⟩, true, true, false, false, 0, 0⟩, ⟨⟨#[108, 97, 121, 101, 114]⟩, false, false, true, false, 0, 0⟩,
  ⟨⟨#[115, 112, 101, 101, 100]⟩, false, false, false, true, 1, 100000⟩, ⟨⟨#[119, 97, 105, 116]⟩, false, false, false, true, 0, 10000000⟩, ⟨⟨#[104, 101, 97, 116]⟩, false, false, false, true, 0, 500⟩, ⟨⟨#[116, 111, 111, 108]⟩, false, false, false, true, 0, 9⟩]
theorem forms_a : ACalls Tryz.prog 61 [] [] fun u H => ∃ v, u = .c (.r v (formL.map Form.row)) ∧ H = [] := by
  refine acalls_of (N := 12) Tryz.func61 rfl rfl (by simp) fun E hE => ?_
  refine WA ?_
  refine WA ?_
  exact aret_f1 [] [] rfl rfl rfl rfl rfl rfl (by decide) (by decide) (ZNK rfl) (fun _ => .nil) (fun v' => ⟨v', rfl, rfl⟩)
end Go.Proofs.YtdmeohgojdfmoaaGreat
