/- The reference's faults of steps, by value. -/
import Derived.Test.YtdmeohgojdfmoaaGreatDoorSt
set_option linter.unusedSimpArgs false
set_option linter.unusedVariables false
namespace Go.Proofs.YtdmeohgojdfmoaaGreatDoor
open Go Go.RowKit
set_option maxRecDepth 100000
/-- The error of a step. -/
def faultS (s : Step) : Int :=
  if s.k < 1 ∨ 9 < s.k then 4
  else if ¬ (-200000 ≤ s.x ∧ s.x ≤ 200000 ∧ -200000 ≤ s.y ∧ s.y ≤ 200000 ∧ -1000000 ≤ s.z ∧ s.z ≤ 1000000 ∧ 0 ≤ s.f ∧ s.f ≤ 100000000) then 1
  else if (s.k = 6 ∧ ¬ (1 ≤ s.n ∧ s.n ≤ 100000)) ∨ (s.k = 7 ∧ ¬ (0 ≤ s.n ∧ s.n ≤ 10000000)) ∨ (s.k = 8 ∧ ¬ (0 ≤ s.n ∧ s.n ≤ 500)) ∨ (s.k = 9 ∧ ¬ (0 ≤ s.n ∧ s.n ≤ 9)) then 1
  else if (s.k ≠ 3 ∧ s.k ≠ 4 ∧ ¬ (s.x = 0 ∧ s.y = 0)) ∨ (s.k ≠ 4 ∧ s.f ≠ 0) ∨ (s.k ≠ 5 ∧ s.z ≠ 0) ∨ (s.k < 6 ∧ s.n ≠ 0) then 3
  else 0
theorem qin_a (n lo hi : Int) : ACalls Tryz.prog 73 [.c (I n), .c (I lo), .c (I hi)] [] fun u H => ∃ b : Bool, u = .c (B b) ∧ H = [] ∧ (b = true → lo ≤ n ∧ n ≤ hi) ∧ (b = false → n < lo ∨ hi < n) := by
  refine acalls_of (N := 15) Tryz.func73 rfl rfl (by simp) fun E hE => ?_
  by_cases h1 : lo ≤ n
  · by_cases h2 : n ≤ hi
    · repeat' (first
        | (with_reducible refine aw_seq ?_) | (with_reducible refine aseq_n ?_) | (with_reducible refine aseq_r ?_) | (with_reducible refine ablk_n ?_) | (with_reducible refine ablk_r ?_) | (with_reducible refine ablk_e ?_) | (with_reducible refine ablk_o rfl ?_) | (with_reducible refine aseq_e ?_) | (with_reducible refine aw_skip ?_) | (with_reducible refine aw_block ?_) | (with_reducible refine aw_ret ?_) | (with_reducible refine aw_exit ?_)
        | refine aw_cond_t rfl ?_ | refine aw_cond_f rfl ?_ | refine aw_if_t rfl (by assumption) ?_ | refine aw_if_f rfl (by assumption) ?_ | refine aw_if rfl (fun _ => ?_) (fun _ => ?_) | refine aw_cond rfl (fun _ => ?_) (fun _ => ?_)
        | (refine aw_region ?_; refine WE ?_))
      refine aret_1 [] _ rfl rfl rfl (by decide) (ZNK rfl) (fun _ => .nil) ?_
      exact ⟨_, rfl, rfl, by simp; omega, by simp⟩
    · repeat' (first
        | (with_reducible refine aw_seq ?_) | (with_reducible refine aseq_n ?_) | (with_reducible refine aseq_r ?_) | (with_reducible refine ablk_n ?_) | (with_reducible refine ablk_r ?_) | (with_reducible refine ablk_e ?_) | (with_reducible refine ablk_o rfl ?_) | (with_reducible refine aseq_e ?_) | (with_reducible refine aw_skip ?_) | (with_reducible refine aw_block ?_) | (with_reducible refine aw_ret ?_) | (with_reducible refine aw_exit ?_)
        | refine aw_cond_t rfl ?_ | refine aw_cond_f rfl ?_ | refine aw_if_t rfl (by assumption) ?_ | refine aw_if_f rfl (by assumption) ?_ | refine aw_if rfl (fun _ => ?_) (fun _ => ?_) | refine aw_cond rfl (fun _ => ?_) (fun _ => ?_)
        | (refine aw_region ?_; refine WE ?_))
      refine aret_1 [] _ rfl rfl rfl (by decide) (ZNK rfl) (fun _ => .nil) ?_
      exact ⟨_, rfl, rfl, by simp, by simp; omega⟩
  · repeat' (first
      | (with_reducible refine aw_seq ?_) | (with_reducible refine aseq_n ?_) | (with_reducible refine aseq_r ?_) | (with_reducible refine ablk_n ?_) | (with_reducible refine ablk_r ?_) | (with_reducible refine ablk_e ?_) | (with_reducible refine ablk_o rfl ?_) | (with_reducible refine aseq_e ?_) | (with_reducible refine aw_skip ?_) | (with_reducible refine aw_block ?_) | (with_reducible refine aw_ret ?_) | (with_reducible refine aw_exit ?_)
      | refine aw_cond_t rfl ?_ | refine aw_cond_f rfl ?_ | refine aw_if_t rfl (by assumption) ?_ | refine aw_if_f rfl (by assumption) ?_ | refine aw_if rfl (fun _ => ?_) (fun _ => ?_) | refine aw_cond rfl (fun _ => ?_) (fun _ => ?_)
      | (refine aw_region ?_; refine WE ?_))
    refine aret_1 [] _ rfl rfl rfl (by decide) (ZNK rfl) (fun _ => .nil) ?_
    exact ⟨_, rfl, rfl, by simp, by simp; omega⟩
set_option maxHeartbeats 8000000 in
theorem qfault_a (s : Step) : ACalls Tryz.prog 136 [.a (s.row.map .c)] [] fun u H => u = .c (I (faultS s)) ∧ H = [] := by
  obtain ⟨k, x, y, z, f, n⟩ := s
  refine acalls_of (N := 98) Tryz.func136 rfl rfl (by simp) fun E hE => ?_
  refine WA ?_
  refine WA ?_
  refine WR ?_
  refine al_nil ?_
  refine aseq_n ?_
  refine aw_seq ?_
  refine aw_cut (fun F H => ∃ ux uy uz uf lo hi : Int, (1 ≤ k ∧ k ≤ 9) ∧ (k = 3 ∨ k = 4 → ux = x ∧ uy = y) ∧ (k ≠ 3 ∧ k ≠ 4 → ux = 0 ∧ uy = 0) ∧ (k = 5 → uz = z) ∧ (k ≠ 5 → uz = 0) ∧ (k = 4 → uf = f) ∧ (k ≠ 4 → uf = 0) ∧ (k = 6 → lo = 1 ∧ hi = 100000) ∧ (k = 7 → lo = 0 ∧ hi = 10000000) ∧ (k = 8 → lo = 0 ∧ hi = 500) ∧ (k = 9 → lo = 0 ∧ hi = 9) ∧ F = [(1, .p 0 0 0), (3, .p 1 0 0), (4, .c (I lo)), (5, .c (I hi))] ∧ H = [.box ((⟨k, x, y, z, f, n⟩ : Step).row.map .c), .box ((⟨k, ux, uy, uz, uf, 0⟩ : Step).row.map .c)]) ?_ ?_ wk_aw
  · repeat' (first
      | (with_reducible refine aw_seq ?_) | (with_reducible refine aseq_n ?_) | (with_reducible refine aseq_r ?_) | (with_reducible refine ablk_n ?_) | (with_reducible refine ablk_r ?_) | (with_reducible refine ablk_e ?_) | (with_reducible refine ablk_o rfl ?_) | (with_reducible refine aseq_e ?_) | (with_reducible refine aw_skip ?_) | (with_reducible refine aw_block ?_) | (with_reducible refine aw_ret ?_) | (with_reducible refine aw_exit ?_)
      | refine aw_cond_t rfl ?_ | refine aw_cond_f rfl ?_ | refine aw_if_t rfl (by assumption) ?_ | refine aw_if_f rfl (by assumption) ?_ | refine aw_if rfl (fun _ => ?_) (fun _ => ?_) | refine aw_cond rfl (fun _ => ?_) (fun _ => ?_)
      | (refine aw_region (id := 0) ?_
         refine WE ?_)
      | (refine aw_region (id := 1) ?_
         refine WE ?_)
      | (refine aw_region (id := 2) ?_
         refine WE ?_)
      | (refine aw_region (id := 3) ?_
         refine WE ?_)
      | (refine aw_region (id := 5) ?_
         refine WE ?_)
      | (refine aw_region (id := 6) ?_
         refine WE ?_)
      | (refine aw_region (id := 7) ?_
         refine WE ?_)
      | (refine aw_regionT (id := 8) [(0, none), (1, none), (2, none), (3, none), (4, none), (5, some [2, 3]), (6, none), (7, some [])] hMixed (by kernel_rfl) ?_
         refine WQ ?_)
      | (refine aw_region (id := 9) ?_
         refine WE ?_)
      | (refine aw_regionT (id := 10) [(0, none), (1, none), (2, none), (3, none), (4, none), (5, none), (6, none), (7, some [2, 3, 4, 5]), (8, none), (9, some [4, 5]), (10, none), (11, some [])] hMixed (by kernel_rfl) ?_
         refine WQ ?_)
      | (refine aw_region (id := 11) ?_
         refine WE ?_)
      | (refine aw_region (id := 12) ?_
         refine WE ?_)
      | (refine aw_region (id := 13) ?_
         refine WE ?_)
      | (refine aw_region (id := 14) ?_
         refine WE ?_)
      | (refine aw_region (id := 15) ?_
         refine WE ?_)
      | (refine aw_region (id := 16) ?_
         refine WE ?_)
      | (refine aw_region (id := 17) ?_
         refine WE ?_)
      | (refine aw_region (id := 18) ?_
         refine WE ?_)
      | (refine aw_region (id := 19) ?_
         refine WE ?_)
      | (refine aw_region (id := 20) ?_
         refine WE ?_)
      | (refine aw_region (id := 4) ?_
         refine WE ?_))
    all_goals try (refine aret_1 [] _ rfl rfl rfl (by decide) (ZNK rfl) (fun _ => .nil) ⟨?_, rfl⟩; rw [faultS, if_pos (by simp only; omega)])
    all_goals refine wk_of [some 0, some 1] (fun _ => [(1, .p 0 0 0), (3, .p 1 0 0), (4, .c (I _)), (5, .c (I _))]) (fun _ => _) (by decide) (ZNL hE) ZCF ZCH (fun _ => ⟨_, _, _, _, _, _, by omega, by omega, by omega, by omega, by omega, by omega, by omega, by omega, by omega, by omega, by omega, rfl, rfl⟩)
  · rintro F H ⟨ux, uy, uz, uf, lo, hi, hk, c1, c2, c3, c4, c5, c6, c7, c8, c9, c10, rfl, rfl⟩
    repeat' (first
      | (with_reducible refine aw_seq ?_) | (with_reducible refine aseq_n ?_) | (with_reducible refine aseq_r ?_) | (with_reducible refine ablk_n ?_) | (with_reducible refine ablk_r ?_) | (with_reducible refine ablk_e ?_) | (with_reducible refine ablk_o rfl ?_) | (with_reducible refine aseq_e ?_) | (with_reducible refine aw_skip ?_) | (with_reducible refine aw_block ?_) | (with_reducible refine aw_ret ?_) | (with_reducible refine aw_exit ?_)
      | refine aw_cond_t rfl ?_ | refine aw_cond_f rfl ?_ | refine aw_if_t rfl (by assumption) ?_ | refine aw_if_f rfl (by assumption) ?_ | refine aw_if rfl (fun _ => ?_) (fun _ => ?_) | refine aw_cond rfl (fun _ => ?_) (fun _ => ?_)
      | (refine aw_regionT (id := 8) [(0, none), (1, none), (2, none), (3, none), (4, none), (5, some [2, 3]), (6, none), (7, some [])] hMixed (by kernel_rfl) ?_
         refine WQ ?_)
      | (refine aw_regionT (id := 10) [(0, none), (1, none), (2, none), (3, none), (4, none), (5, none), (6, none), (7, some [2, 3, 4, 5]), (8, none), (9, some [4, 5]), (10, none), (11, some [])] hMixed (by kernel_rfl) ?_
         refine WQ ?_)
      | (refine aw_region (id := 21) ?_
         refine WO ?_
         refine al_ef rfl (ef_call0 false (fun _ => qin_a _ _ _) rfl .fn rfl (by decide) (by kernel_rfl) rfl (fun _g => .cons (.c rfl) (.cons (.c rfl) (.cons (.c rfl) .nil))) (by simp)) ?_
         rintro _ _ ⟨_, _, _, ⟨b, rfl, rfl, hb1, hb2⟩, hF, hH⟩
         (try simp only [nsl, Nat.reduceAdd, Nat.reduceLT, Nat.reduceSub] at hF); (try simp only [nsl, Nat.reduceAdd, Nat.reduceLT, Nat.reduceSub] at hH); subst hF; subst hH
         cases b
         all_goals (simp only [true_implies, false_implies, reduceCtorEq] at hb1 hb2)
         all_goals (refine WE ?_))
      | (refine aw_region (id := 25) ?_
         refine WO ?_
         refine al_ef rfl (ef_call0 false (fun _ => qin_a _ _ _) rfl .fn rfl (by decide) (by kernel_rfl) rfl (fun _g => .cons (.c rfl) (.cons (.c rfl) (.cons (.c rfl) .nil))) (by simp)) ?_
         rintro _ _ ⟨_, _, _, ⟨b, rfl, rfl, hb1, hb2⟩, hF, hH⟩
         (try simp only [nsl, Nat.reduceAdd, Nat.reduceLT, Nat.reduceSub] at hF); (try simp only [nsl, Nat.reduceAdd, Nat.reduceLT, Nat.reduceSub] at hH); subst hF; subst hH
         cases b
         all_goals (simp only [true_implies, false_implies, reduceCtorEq] at hb1 hb2)
         all_goals (refine WO ?_)
         all_goals (first | refine ZS ?_ | (refine G1 rfl ?_; refine al_ef rfl (ef_call0 false (fun _ => qin_a _ _ _) rfl .fn rfl (by decide) (by kernel_rfl) rfl (fun _g => .cons (.c rfl) (.cons (.c rfl) (.cons (.c rfl) .nil))) (by simp)) ?_; rintro _ _ ⟨_, _, _, ⟨b, rfl, rfl, hb1, hb2⟩, hF, hH⟩; (try simp only [nsl, Nat.reduceAdd, Nat.reduceLT, Nat.reduceSub] at hF); (try simp only [nsl, Nat.reduceAdd, Nat.reduceLT, Nat.reduceSub] at hH); subst hF; subst hH; cases b; all_goals (simp only [true_implies, false_implies, reduceCtorEq] at hb1 hb2)) | skip)
         all_goals (refine WO ?_)
         all_goals (first | refine ZS ?_ | (refine G1 rfl ?_; refine al_ef rfl (ef_call0 false (fun _ => qin_a _ _ _) rfl .fn rfl (by decide) (by kernel_rfl) rfl (fun _g => .cons (.c rfl) (.cons (.c rfl) (.cons (.c rfl) .nil))) (by simp)) ?_; rintro _ _ ⟨_, _, _, ⟨b, rfl, rfl, hb1, hb2⟩, hF, hH⟩; (try simp only [nsl, Nat.reduceAdd, Nat.reduceLT, Nat.reduceSub] at hF); (try simp only [nsl, Nat.reduceAdd, Nat.reduceLT, Nat.reduceSub] at hH); subst hF; subst hH; cases b; all_goals (simp only [true_implies, false_implies, reduceCtorEq] at hb1 hb2)) | skip)
         all_goals (refine WO ?_)
         all_goals (first | refine ZS ?_ | (refine G1 rfl ?_; refine al_ef rfl (ef_call0 false (fun _ => qin_a _ _ _) rfl .fn rfl (by decide) (by kernel_rfl) rfl (fun _g => .cons (.c rfl) (.cons (.c rfl) (.cons (.c rfl) .nil))) (by simp)) ?_; rintro _ _ ⟨_, _, _, ⟨b, rfl, rfl, hb1, hb2⟩, hF, hH⟩; (try simp only [nsl, Nat.reduceAdd, Nat.reduceLT, Nat.reduceSub] at hF); (try simp only [nsl, Nat.reduceAdd, Nat.reduceLT, Nat.reduceSub] at hH); subst hF; subst hH; cases b; all_goals (simp only [true_implies, false_implies, reduceCtorEq] at hb1 hb2)) | skip)
         all_goals (refine WE ?_))
      | (refine aw_region (id := 27) ?_
         refine WO ?_
         first | refine ZS ?_ | (refine G1 rfl ?_; refine al_ef rfl (ef_call0 false (fun _ => qin_a _ _ _) rfl .fn rfl (by decide) (by kernel_rfl) rfl (fun _g => .cons (.c rfl) (.cons (.c rfl) (.cons (.c rfl) .nil))) (by simp)) ?_; rintro _ _ ⟨_, _, _, ⟨b, rfl, rfl, hb1, hb2⟩, hF, hH⟩; (try simp only [nsl, Nat.reduceAdd, Nat.reduceLT, Nat.reduceSub] at hF); (try simp only [nsl, Nat.reduceAdd, Nat.reduceLT, Nat.reduceSub] at hH); subst hF; subst hH; cases b; all_goals (simp only [true_implies, false_implies, reduceCtorEq] at hb1 hb2)) | skip
         all_goals (refine WE ?_))
      | (refine aw_region ?_; refine WE ?_))
    all_goals (refine aret_1 [] _ rfl rfl rfl (by decide) (ZNK rfl) (fun _ => .nil) ⟨?_, rfl⟩)
    all_goals (rw [faultS, if_neg (by simp only; omega)]; simp only)
    all_goals first
      | rw [if_pos (by omega)]
      | rw [if_neg (by omega), if_pos (by omega)]
      | rw [if_neg (by omega), if_neg (by omega), if_pos (by omega)]
      | rw [if_neg (by omega), if_neg (by omega), if_neg (by omega)]
end Go.Proofs.YtdmeohgojdfmoaaGreatDoor
