/- The program's status after a step, by value. -/
import Derived.Test.YtpbedckdnoogpaaRf
set_option linter.unusedSimpArgs false
set_option linter.unusedVariables false
namespace Go.Proofs.Ytpbedckdnoogpaa
open Go Go.RowKit
set_option maxRecDepth 100000
set_option maxHeartbeats 4000000 in
theorem after_a (m : Mach) (s : Step) (hs : s.ok) : ACalls Try.prog 161 [.a (m.row.map .c), .a (s.row.map .c)] [] fun u H => u = .a ((afterS m s).row.map .c) ∧ H = [] := by
  obtain ⟨mx, my, mz, msp, mhe, mtl, mfl, mrel⟩ := m
  obtain ⟨k, x, y, z, f, n⟩ := s
  clear hs
  refine acalls_of (N := 69) Try.func161 rfl rfl (by simp) fun E hE => ?_
  refine WA ?_
  refine WR ?_
  refine al_nil ?_
  refine aseq_n ?_
  refine aw_cut (fun F H => ∃ bx bz by_ : Int, bx = relS mrel mx x ∧ by_ = relS mrel my y ∧ bz = relS mrel mz z ∧ F = [(2, .p 0 0 0), (3, .p 1 0 0), (4, .p 2 0 0)] ∧ H = [.box ((⟨mx, my, mz, msp, mhe, mtl, mfl, mrel⟩ : Mach).row.map .c), .box ((⟨k, bx, by_, bz, f, n⟩ : Step).row.map .c), .box (Mach.zero.row.map .c)]) ?_ ?_ wk_aw
  · refine aw_cond rfl (fun h => ?_) (fun h => ?_)
    · refine ZZ ?_
      refine aw_regionT [(0, none), (1, none), (2, none), (3, none), (4, none), (5, none), (6, none), (7, none), (8, none), (9, none), (10, none), (11, none), (12, none), (13, none), (14, none), (15, none), (16, some [7, 8, 9, 12, 13, 14]), (17, none), (18, some [12, 13, 14]), (19, none), (20, some [])] hMixed (by kernel_rfl) ?_
      refine WQ ?_
      all_goals refine wk_of [some 0, some 1, some 2] (fun _ => [(2, .p 0 0 0), (3, .p 1 0 0), (4, .p 2 0 0)]) (fun _ => _) (by decide) (ZNL hE) ZCF ZCH (fun _ => ?_)
      all_goals exact ⟨_, _, _, by simp only [relS, h, if_true]; rw [Int.add_comm], by simp only [relS, h, if_true]; rw [Int.add_comm], by simp only [relS, h, if_true]; rw [Int.add_comm], rfl, rfl⟩
    · refine ZZ ?_
      refine wk_of [some 0, some 1, some 2] (fun _ => [(2, .p 0 0 0), (3, .p 1 0 0), (4, .p 2 0 0)]) (fun _ => _) (by decide) (ZNL hE) ZCF ZCH (fun _ => ?_)
      exact ⟨_, _, _, by simp [relS, h], by simp [relS, h], by simp [relS, h], rfl, rfl⟩
  · rintro F H ⟨bx, bz, by_, hbx, hby, hbz, rfl, rfl⟩
    repeat' (first
      | (with_reducible refine aw_seq ?_) | (with_reducible refine aseq_n ?_) | (with_reducible refine aseq_r ?_) | (with_reducible refine ablk_n ?_) | (with_reducible refine ablk_r ?_) | (with_reducible refine ablk_e ?_) | (with_reducible refine ablk_o rfl ?_) | (with_reducible refine aseq_e ?_) | (with_reducible refine aw_skip ?_) | (with_reducible refine aw_block ?_) | (with_reducible refine aw_ret ?_) | (with_reducible refine aw_exit ?_)
      | refine aw_cond_t rfl ?_ | refine aw_cond_f rfl ?_ | refine aw_if_t rfl (by assumption) ?_ | refine aw_if_f rfl (by assumption) ?_ | refine aw_if rfl (fun _ => ?_) (fun _ => ?_) | refine aw_cond rfl (fun _ => ?_) (fun _ => ?_)
      | (refine aw_region (id := 0) ?_
         refine WE ?_)
      | (refine aw_region (id := 1) ?_
         refine WE ?_)
      | (refine aw_region (id := 3) ?_
         refine WE ?_)
      | (refine aw_region (id := 4) ?_
         refine WE ?_)
      | (refine aw_region (id := 5) ?_
         refine WE ?_)
      | (refine aw_region (id := 6) ?_
         refine WE ?_)
      | (refine aw_region (id := 7) ?_
         refine WE ?_)
      | (refine aw_region (id := 8) ?_
         refine WE ?_)
      | (refine aw_region (id := 9) ?_
         refine WE ?_)
      | (refine aw_regionT (id := 10) [(0, none), (1, none), (2, none), (3, none), (4, none), (5, some [2, 3]), (6, none), (7, some [])] hMixed (by kernel_rfl) ?_
         refine WQ ?_)
      | (refine aw_region (id := 11) ?_
         refine WE ?_)
      | (refine aw_region (id := 12) ?_
         refine WE ?_)
      | (refine aw_region (id := 13) ?_
         refine WE ?_)
      | (refine aw_region (id := 14) ?_
         refine WE ?_)
      | (refine aw_region (id := 15) ?_
         refine WE ?_)
      | (refine aw_region (id := 16) ?_
         refine WE ?_)
      | (refine aw_region (id := 17) ?_
         refine WE ?_)
      | (refine aw_region (id := 18) ?_
         refine WE ?_)
      | (refine aw_region (id := 19) ?_
         refine WE ?_)
      | (refine aw_region (id := 20) ?_
         refine WE ?_))
    all_goals (refine aret_a [] _ rfl (KK (t := 42) rfl) rfl (Cells.box rfl) (by simp) (by (try simp only [nm, putL, Nat.reduceAdd, cellsOf, cvOf]) <;> rfl) (by decide) (ZNK rfl) (fun _ => C0 rfl) (fun _ => .nil) ⟨?_, rfl⟩)
    all_goals (clear hE; subst hbx hby hbz; try dsimp only at *)
    all_goals first
      | (exfalso; omega)
      | simp [afterS, *]
end Go.Proofs.Ytpbedckdnoogpaa
