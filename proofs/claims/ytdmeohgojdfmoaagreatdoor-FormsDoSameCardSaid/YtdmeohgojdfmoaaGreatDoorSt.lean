/- The stream's steps and programs. -/
import Derived.Test.YtdmeohgojdfmoaaGreatDoorSs
set_option linter.unusedSimpArgs false
set_option linter.unusedVariables false
namespace Go.Proofs.YtdmeohgojdfmoaaGreatDoor
open Go Go.RowKit
set_option maxRecDepth 100000
structure Step where
  k : Int
  x : Int
  y : Int
  z : Int
  f : Int
  n : Int
abbrev Step.row (s : Step) : List CV := [I s.k, I s.x, I s.y, I s.z, I s.f, I s.n]
def Step.ok (s : Step) : Prop := in64 s.k ∧ in64 s.x ∧ in64 s.y ∧ in64 s.z ∧ in64 s.f ∧ in64 s.n

set_option maxHeartbeats 4000000 in
theorem astepof_a (v : Value) (zs : List Int) (a : Int) (hs : StrOk zs) (h0 : 0 ≤ a) (h1 : a ≤ 800000000) :
    ACalls Tryz.prog 135 [.p 0 0 0] [strm v zs a] fun u H => ∃ (s : Step) (a' : Int), u = .a (s.row.map .c) ∧ H = [strm v zs a'] ∧ a ≤ a' ∧ a' ≤ a + 20 ∧ s.ok := by
  refine acalls_of (N := 99) Tryz.func135 rfl rfl (by simp) fun E hE => ?_
  refine WA ?_
  refine WR ?_
  refine al_ef rfl (ef_callm true (fun _ => pick_a [3, 3, 4, 4, 4, 5, 1, 2, 6, 7, 8, 9] _ _ _ _ hs (by omega) (by omega) (by simp) (by simp)) rfl .fn rfl (by decide) (by kernel_rfl) rfl rfl (fun _g => .cons (.p rfl) (.cons (.frz rfl rfl rfl rfl rfl) .nil)) (fun _g => .cons (.c rfl) (.cons (.c rfl) .nil)) (fun _ _ _ _ ⟨_, hu, hH, _⟩ => by rw [hu, hH]; exact ⟨.c (.inl trivial), strm_flat (.inr ⟨0, _, rfl, by simp⟩)⟩)) ?_
  rintro F1 H1 ⟨_, _, _, _, ⟨rr, rfl, hq, hrm⟩, hF, hH⟩
  injection hq with hq1 hq2; subst hq1; subst hq2
  (try simp only [nsl, Nat.reduceAdd, Nat.reduceLT, Nat.reduceSub] at hF); (try simp only [nsl, Nat.reduceAdd, Nat.reduceLT, Nat.reduceSub] at hH); subst hF; subst hH
  have h64r : in64 rr := by simp only [List.mem_cons, List.not_mem_nil, or_false] at hrm; simp only [in64] at *; omega
  clear hrm
  refine WE ?_
  refine WR ?_
  refine al_nil ?_
  refine aseq_n ?_
  refine aw_cut (fun F H => ∃ (s : Step) (a' : Int), s.ok ∧ a ≤ a' ∧ a' ≤ a + 8 ∧ F = [(0, .p 0 0 0), (2, .p 1 0 0), (3, .p 2 0 0)] ∧ H = [strm v zs a', .box ((⟨0, 0, 0, 0, 0, 0⟩ : Step).row.map .c), .box (s.row.map .c)]) ?_ ?_ wk_aw
  · repeat' (first
      | (with_reducible refine aw_seq ?_) | (with_reducible refine aseq_n ?_) | (with_reducible refine aseq_r ?_) | (with_reducible refine ablk_n ?_) | (with_reducible refine ablk_r ?_) | (with_reducible refine ablk_e ?_) | (with_reducible refine ablk_o rfl ?_) | (with_reducible refine aseq_e ?_) | (with_reducible refine aw_skip ?_) | (with_reducible refine aw_block ?_) | (with_reducible refine aw_ret ?_) | (with_reducible refine aw_exit ?_)
      | refine aw_cond_t rfl ?_ | refine aw_cond_f rfl ?_ | refine aw_if_t rfl (by assumption) ?_ | refine aw_if_f rfl (by assumption) ?_ | refine aw_if rfl (fun _ => ?_) (fun _ => ?_) | refine aw_cond rfl (fun _ => ?_) (fun _ => ?_)
      | (refine aw_region (id := 4) ?_
         refine WO ?_
         refine al_ef rfl (ef_callm true (fun _ => pick_a [0, 5, 10, -5, 15] _ _ _ _ hs (by omega) (by omega) (by simp) (by simp)) rfl .fn rfl (by decide) (by kernel_rfl) rfl rfl (fun _g => .cons (.p rfl) (.cons (.frz rfl rfl rfl rfl rfl) .nil)) (fun _g => .cons (.c rfl) (.cons (.c rfl) .nil)) (fun _ _ _ _ ⟨_, hu, hH, _⟩ => by rw [hu, hH]; exact ⟨.c (.inl trivial), strm_flat (.inr ⟨0, _, rfl, by simp⟩)⟩)) ?_
         rintro F1 H1 ⟨_, _, _, _, ⟨rr, rfl, hq, hrm⟩, hF, hH⟩
         injection hq with hq1 hq2; subst hq1; subst hq2
         (try simp only [nsl, Nat.reduceAdd, Nat.reduceLT, Nat.reduceSub] at hF); (try simp only [nsl, Nat.reduceAdd, Nat.reduceLT, Nat.reduceSub] at hH); subst hF; subst hH
         have h64r : in64 rr := by simp only [List.mem_cons, List.not_mem_nil, or_false] at hrm; simp only [in64] at *; omega
         clear hrm
         refine WO ?_
         refine al_ef rfl (ef_callm true (fun _ => pick_a [0, 0, 10] _ _ _ _ hs (by omega) (by omega) (by simp) (by simp)) rfl .fn rfl (by decide) (by kernel_rfl) rfl rfl (fun _g => .cons (.p rfl) (.cons (.frz rfl rfl rfl rfl rfl) .nil)) (fun _g => .cons (.c rfl) (.cons (.c rfl) .nil)) (fun _ _ _ _ ⟨_, hu, hH, _⟩ => by rw [hu, hH]; exact ⟨.c (.inl trivial), strm_flat (.inr ⟨0, _, rfl, by simp⟩)⟩)) ?_
         rintro F1 H1 ⟨_, _, _, _, ⟨rr, rfl, hq, hrm⟩, hF, hH⟩
         injection hq with hq1 hq2; subst hq1; subst hq2
         (try simp only [nsl, Nat.reduceAdd, Nat.reduceLT, Nat.reduceSub] at hF); (try simp only [nsl, Nat.reduceAdd, Nat.reduceLT, Nat.reduceSub] at hH); subst hF; subst hH
         have h64r : in64 rr := by simp only [List.mem_cons, List.not_mem_nil, or_false] at hrm; simp only [in64] at *; omega
         clear hrm
         refine WE ?_)
      | (refine aw_region (id := 6) ?_
         refine WO ?_
         refine al_ef rfl (ef_callm true (fun _ => pick_a [0, 5, 10, 20] _ _ _ _ hs (by omega) (by omega) (by simp) (by simp)) rfl .fn rfl (by decide) (by kernel_rfl) rfl rfl (fun _g => .cons (.p rfl) (.cons (.frz rfl rfl rfl rfl rfl) .nil)) (fun _g => .cons (.c rfl) (.cons (.c rfl) .nil)) (fun _ _ _ _ ⟨_, hu, hH, _⟩ => by rw [hu, hH]; exact ⟨.c (.inl trivial), strm_flat (.inr ⟨0, _, rfl, by simp⟩)⟩)) ?_
         rintro F1 H1 ⟨_, _, _, _, ⟨rr, rfl, hq, hrm⟩, hF, hH⟩
         injection hq with hq1 hq2; subst hq1; subst hq2
         (try simp only [nsl, Nat.reduceAdd, Nat.reduceLT, Nat.reduceSub] at hF); (try simp only [nsl, Nat.reduceAdd, Nat.reduceLT, Nat.reduceSub] at hH); subst hF; subst hH
         have h64r : in64 rr := by simp only [List.mem_cons, List.not_mem_nil, or_false] at hrm; simp only [in64] at *; omega
         clear hrm
         refine WO ?_
         refine al_ef rfl (ef_callm true (fun _ => pick_a [0, 0, 10] _ _ _ _ hs (by omega) (by omega) (by simp) (by simp)) rfl .fn rfl (by decide) (by kernel_rfl) rfl rfl (fun _g => .cons (.p rfl) (.cons (.frz rfl rfl rfl rfl rfl) .nil)) (fun _g => .cons (.c rfl) (.cons (.c rfl) .nil)) (fun _ _ _ _ ⟨_, hu, hH, _⟩ => by rw [hu, hH]; exact ⟨.c (.inl trivial), strm_flat (.inr ⟨0, _, rfl, by simp⟩)⟩)) ?_
         rintro F1 H1 ⟨_, _, _, _, ⟨rr, rfl, hq, hrm⟩, hF, hH⟩
         injection hq with hq1 hq2; subst hq1; subst hq2
         (try simp only [nsl, Nat.reduceAdd, Nat.reduceLT, Nat.reduceSub] at hF); (try simp only [nsl, Nat.reduceAdd, Nat.reduceLT, Nat.reduceSub] at hH); subst hF; subst hH
         have h64r : in64 rr := by simp only [List.mem_cons, List.not_mem_nil, or_false] at hrm; simp only [in64] at *; omega
         clear hrm
         refine WO ?_
         refine al_ef rfl (ef_callm true (fun _ => pick_a [0, 1, 7, 30] _ _ _ _ hs (by omega) (by omega) (by simp) (by simp)) rfl .fn rfl (by decide) (by kernel_rfl) rfl rfl (fun _g => .cons (.p rfl) (.cons (.frz rfl rfl rfl rfl rfl) .nil)) (fun _g => .cons (.c rfl) (.cons (.c rfl) .nil)) (fun _ _ _ _ ⟨_, hu, hH, _⟩ => by rw [hu, hH]; exact ⟨.c (.inl trivial), strm_flat (.inr ⟨0, _, rfl, by simp⟩)⟩)) ?_
         rintro F1 H1 ⟨_, _, _, _, ⟨rr, rfl, hq, hrm⟩, hF, hH⟩
         injection hq with hq1 hq2; subst hq1; subst hq2
         (try simp only [nsl, Nat.reduceAdd, Nat.reduceLT, Nat.reduceSub] at hF); (try simp only [nsl, Nat.reduceAdd, Nat.reduceLT, Nat.reduceSub] at hH); subst hF; subst hH
         have h64r : in64 rr := by simp only [List.mem_cons, List.not_mem_nil, or_false] at hrm; simp only [in64] at *; omega
         clear hrm
         refine WE ?_)
      | (refine aw_region (id := 8) ?_
         refine WO ?_
         refine al_ef rfl (ef_callm true (fun _ => pick_a [0, 1, 2, 5, 200] _ _ _ _ hs (by omega) (by omega) (by simp) (by simp)) rfl .fn rfl (by decide) (by kernel_rfl) rfl rfl (fun _g => .cons (.p rfl) (.cons (.frz rfl rfl rfl rfl rfl) .nil)) (fun _g => .cons (.c rfl) (.cons (.c rfl) .nil)) (fun _ _ _ _ ⟨_, hu, hH, _⟩ => by rw [hu, hH]; exact ⟨.c (.inl trivial), strm_flat (.inr ⟨0, _, rfl, by simp⟩)⟩)) ?_
         rintro F1 H1 ⟨_, _, _, _, ⟨rr, rfl, hq, hrm⟩, hF, hH⟩
         injection hq with hq1 hq2; subst hq1; subst hq2
         (try simp only [nsl, Nat.reduceAdd, Nat.reduceLT, Nat.reduceSub] at hF); (try simp only [nsl, Nat.reduceAdd, Nat.reduceLT, Nat.reduceSub] at hH); subst hF; subst hH
         have h64r : in64 rr := by simp only [List.mem_cons, List.not_mem_nil, or_false] at hrm; simp only [in64] at *; omega
         clear hrm
         refine WE ?_)
      | (refine aw_region (id := 10) ?_
         refine WO ?_
         refine al_ef rfl (ef_callm true (fun _ => pick_a [100, 50, 7] _ _ _ _ hs (by omega) (by omega) (by simp) (by simp)) rfl .fn rfl (by decide) (by kernel_rfl) rfl rfl (fun _g => .cons (.p rfl) (.cons (.frz rfl rfl rfl rfl rfl) .nil)) (fun _g => .cons (.c rfl) (.cons (.c rfl) .nil)) (fun _ _ _ _ ⟨_, hu, hH, _⟩ => by rw [hu, hH]; exact ⟨.c (.inl trivial), strm_flat (.inr ⟨0, _, rfl, by simp⟩)⟩)) ?_
         rintro F1 H1 ⟨_, _, _, _, ⟨rr, rfl, hq, hrm⟩, hF, hH⟩
         injection hq with hq1 hq2; subst hq1; subst hq2
         (try simp only [nsl, Nat.reduceAdd, Nat.reduceLT, Nat.reduceSub] at hF); (try simp only [nsl, Nat.reduceAdd, Nat.reduceLT, Nat.reduceSub] at hH); subst hF; subst hH
         have h64r : in64 rr := by simp only [List.mem_cons, List.not_mem_nil, or_false] at hrm; simp only [in64] at *; omega
         clear hrm
         refine WE ?_)
      | (refine aw_region (id := 12) ?_
         refine WO ?_
         refine al_ef rfl (ef_callm true (fun _ => pick_a [0, 0, 5, 100] _ _ _ _ hs (by omega) (by omega) (by simp) (by simp)) rfl .fn rfl (by decide) (by kernel_rfl) rfl rfl (fun _g => .cons (.p rfl) (.cons (.frz rfl rfl rfl rfl rfl) .nil)) (fun _g => .cons (.c rfl) (.cons (.c rfl) .nil)) (fun _ _ _ _ ⟨_, hu, hH, _⟩ => by rw [hu, hH]; exact ⟨.c (.inl trivial), strm_flat (.inr ⟨0, _, rfl, by simp⟩)⟩)) ?_
         rintro F1 H1 ⟨_, _, _, _, ⟨rr, rfl, hq, hrm⟩, hF, hH⟩
         injection hq with hq1 hq2; subst hq1; subst hq2
         (try simp only [nsl, Nat.reduceAdd, Nat.reduceLT, Nat.reduceSub] at hF); (try simp only [nsl, Nat.reduceAdd, Nat.reduceLT, Nat.reduceSub] at hH); subst hF; subst hH
         have h64r : in64 rr := by simp only [List.mem_cons, List.not_mem_nil, or_false] at hrm; simp only [in64] at *; omega
         clear hrm
         refine WE ?_)
      | (refine aw_region (id := 14) ?_
         refine WO ?_
         refine al_ef rfl (ef_callm true (fun _ => pick_a [0, 200, 220] _ _ _ _ hs (by omega) (by omega) (by simp) (by simp)) rfl .fn rfl (by decide) (by kernel_rfl) rfl rfl (fun _g => .cons (.p rfl) (.cons (.frz rfl rfl rfl rfl rfl) .nil)) (fun _g => .cons (.c rfl) (.cons (.c rfl) .nil)) (fun _ _ _ _ ⟨_, hu, hH, _⟩ => by rw [hu, hH]; exact ⟨.c (.inl trivial), strm_flat (.inr ⟨0, _, rfl, by simp⟩)⟩)) ?_
         rintro F1 H1 ⟨_, _, _, _, ⟨rr, rfl, hq, hrm⟩, hF, hH⟩
         injection hq with hq1 hq2; subst hq1; subst hq2
         (try simp only [nsl, Nat.reduceAdd, Nat.reduceLT, Nat.reduceSub] at hF); (try simp only [nsl, Nat.reduceAdd, Nat.reduceLT, Nat.reduceSub] at hH); subst hF; subst hH
         have h64r : in64 rr := by simp only [List.mem_cons, List.not_mem_nil, or_false] at hrm; simp only [in64] at *; omega
         clear hrm
         refine WE ?_)
      | (refine aw_region (id := 16) ?_
         refine WO ?_
         refine al_ef rfl (ef_callm false (fun _ => range_a 0 2 _ _ _ hs (by omega) (by omega) (by omega) (by omega) (by omega) (by omega)) rfl .fn rfl (by decide) (by kernel_rfl) rfl rfl (fun _g => .cons (.p rfl) (.cons (.c rfl) (.cons (.c rfl) .nil))) (fun _g => .cons (.c rfl) (.cons (.c rfl) .nil)) (by simp)) ?_
         rintro F1 H1 ⟨_, _, _, _, ⟨rr, ar, rfl, hq, hr3, hr4, hr1, hr2, _⟩, hF, hH⟩
         injection hq with hq1 hq2; subst hq1; subst hq2
         (try simp only [nsl, Nat.reduceAdd, Nat.reduceLT, Nat.reduceSub] at hF); (try simp only [nsl, Nat.reduceAdd, Nat.reduceLT, Nat.reduceSub] at hH); subst hF; subst hH
         have h64r : in64 rr := by simp only [in64]; omega
         refine WE ?_)
      | (refine aw_region ?_; refine WE ?_))
    all_goals refine wk_of [some 0, some 1, some 3] (fun _ => [(0, .p 0 0 0), (2, .p 1 0 0), (3, .p 2 0 0)]) (fun _ => _) (by decide) (ZNL hE) ZCF ZCH (fun _ => ⟨⟨_, _, _, _, _, _⟩, _, ⟨?_, ?_, ?_, ?_, ?_, ?_⟩, ?_, ?_, rfl, rfl⟩)
    all_goals first | assumption | exact z64 | omega
  · rintro F H ⟨⟨k, x, y, z, f, n⟩, a', ⟨o1, o2, o3, o4, o5, o6⟩, ha1, ha2, rfl, rfl⟩
    simp only at o1 o2 o3 o4 o5 o6
    repeat' (first
      | (with_reducible refine aw_seq ?_) | (with_reducible refine aseq_n ?_) | (with_reducible refine aseq_r ?_) | (with_reducible refine ablk_n ?_) | (with_reducible refine ablk_r ?_) | (with_reducible refine ablk_e ?_) | (with_reducible refine ablk_o rfl ?_) | (with_reducible refine aseq_e ?_) | (with_reducible refine aw_skip ?_) | (with_reducible refine aw_block ?_) | (with_reducible refine aw_ret ?_) | (with_reducible refine aw_exit ?_)
      | refine aw_cond_t rfl ?_ | refine aw_cond_f rfl ?_ | refine aw_if_t rfl (by assumption) ?_ | refine aw_if_f rfl (by assumption) ?_ | refine aw_if rfl (fun _ => ?_) (fun _ => ?_) | refine aw_cond rfl (fun _ => ?_) (fun _ => ?_)
      | (refine aw_region (id := 17) ?_
         refine WO ?_
         refine al_ef rfl (ef_callm false (fun _ => flip_a 80 _ _ _ hs (by omega) (by omega) (by simp only [in64]; omega)) rfl .fn rfl (by decide) (by kernel_rfl) rfl rfl (fun _g => .cons (.p rfl) (.cons (.c rfl) .nil)) (fun _g => .cons (.c rfl) (.cons (.c rfl) .nil)) (by simp)) ?_
         rintro F1 H1 ⟨_, _, _, _, ⟨bb, rfl, hq⟩, hF, hH⟩
         injection hq with hq1 hq2; subst hq1; subst hq2
         (try simp only [nsl, Nat.reduceAdd, Nat.reduceLT, Nat.reduceSub] at hF); (try simp only [nsl, Nat.reduceAdd, Nat.reduceLT, Nat.reduceSub] at hH); subst hF; subst hH
         refine WE ?_)
      | (refine aw_region (id := 18) ?_
         refine WO ?_
         refine al_ef rfl (ef_callm false (fun _ => next_a 4 _ _ _ hs (by omega) (by omega) (by simp only [in64]; omega)) rfl .fn rfl (by decide) (by kernel_rfl) rfl rfl (fun _g => .cons (.p rfl) (.cons (.c rfl) .nil)) (fun _g => .cons (.c rfl) (.cons (.c rfl) .nil)) (by simp)) ?_
         rintro F1 H1 ⟨_, _, _, _, ⟨rr, rfl, hq, hr1, hr2⟩, hF, hH⟩
         injection hq with hq1 hq2; subst hq1; subst hq2
         (try simp only [nsl, Nat.reduceAdd, Nat.reduceLT, Nat.reduceSub] at hF); (try simp only [nsl, Nat.reduceAdd, Nat.reduceLT, Nat.reduceSub] at hH); subst hF; subst hH
         refine WE ?_)
      | (refine aw_region (id := 21) ?_
         refine WO ?_
         refine al_ef rfl (ef_callm false (fun _ => odd_a 1 9 _ _ _ hs (by omega) (by omega) (by omega) (by omega) (by omega) (by omega)) rfl .fn rfl (by decide) (by kernel_rfl) rfl rfl (fun _g => .cons (.p rfl) (.cons (.c rfl) (.cons (.c rfl) .nil))) (fun _g => .cons (.c rfl) (.cons (.c rfl) .nil)) (by simp)) ?_
         rintro F1 H1 ⟨_, _, _, _, ⟨rr, ar, rfl, hq, hr3, hr4, h64r⟩, hF, hH⟩
         injection hq with hq1 hq2; subst hq1; subst hq2
         (try simp only [nsl, Nat.reduceAdd, Nat.reduceLT, Nat.reduceSub] at hF); (try simp only [nsl, Nat.reduceAdd, Nat.reduceLT, Nat.reduceSub] at hH); subst hF; subst hH
         refine WE ?_)
      | (refine aw_regionM (id := 23) [[(0, none), (1, none), (2, none), (5, none), (6, none), (7, none), (3, some [0, 5, 6, 7]), (4, some [5, 6, 7]), (10, none), (8, some [0, 1, 2, 5, 10]), (9, some [10]), (11, some []), (12, none), (13, some [])], [(0, none), (1, none), (2, none), (5, none), (6, none), (7, none), (3, some [0, 5, 6, 7]), (8, some [0, 1, 2, 5]), (4, some [5, 6, 7]), (10, none), (9, some [10]), (11, some []), (12, none), (13, some [])], [(0, none), (1, none), (2, none), (5, none), (6, none), (7, none), (8, some [0, 1, 2, 5]), (3, some [0, 5, 6, 7]), (4, some [5, 6, 7]), (10, none), (9, some [10]), (11, some []), (12, none), (13, some [])]] hMixed (by kernel_rfl) ?_
         focus
           refine ZM (i := 0) (ps' := [[(1, none), (2, none), (5, none), (6, none), (7, none), (3, some [0, 5, 6, 7]), (4, some [5, 6, 7]), (10, none), (8, some [0, 1, 2, 5, 10]), (9, some [10]), (11, some []), (12, none), (13, some [])], [(1, none), (2, none), (5, none), (6, none), (7, none), (3, some [0, 5, 6, 7]), (8, some [0, 1, 2, 5]), (4, some [5, 6, 7]), (10, none), (9, some [10]), (11, some []), (12, none), (13, some [])], [(1, none), (2, none), (5, none), (6, none), (7, none), (8, some [0, 1, 2, 5]), (3, some [0, 5, 6, 7]), (4, some [5, 6, 7]), (10, none), (9, some [10]), (11, some []), (12, none), (13, some [])]]) (by rfl) (by rfl) rfl (rd_move rfl rfl) ?_
           refine ZM (i := 1) (ps' := [[(2, none), (5, none), (6, none), (7, none), (3, some [0, 5, 6, 7]), (4, some [5, 6, 7]), (10, none), (8, some [0, 1, 2, 5, 10]), (9, some [10]), (11, some []), (12, none), (13, some [])], [(2, none), (5, none), (6, none), (7, none), (3, some [0, 5, 6, 7]), (8, some [0, 1, 2, 5]), (4, some [5, 6, 7]), (10, none), (9, some [10]), (11, some []), (12, none), (13, some [])], [(2, none), (5, none), (6, none), (7, none), (8, some [0, 1, 2, 5]), (3, some [0, 5, 6, 7]), (4, some [5, 6, 7]), (10, none), (9, some [10]), (11, some []), (12, none), (13, some [])]]) (by rfl) (by rfl) rfl (ZX (KF (t := 68) (f := 1) rfl rfl)) ?_
           refine ZM (i := 2) (ps' := [[(5, none), (6, none), (7, none), (3, some [0, 5, 6, 7]), (4, some [5, 6, 7]), (10, none), (8, some [0, 1, 2, 5, 10]), (9, some [10]), (11, some []), (12, none), (13, some [])], [(5, none), (6, none), (7, none), (3, some [0, 5, 6, 7]), (8, some [0, 1, 2, 5]), (4, some [5, 6, 7]), (10, none), (9, some [10]), (11, some []), (12, none), (13, some [])], [(5, none), (6, none), (7, none), (8, some [0, 1, 2, 5]), (3, some [0, 5, 6, 7]), (4, some [5, 6, 7]), (10, none), (9, some [10]), (11, some []), (12, none), (13, some [])]]) (by rfl) (by rfl) rfl (ZL (KK (t := 3) rfl)) ?_
           refine ZM (i := 5) (ps' := [[(6, none), (7, none), (3, some [0, 5, 6, 7]), (4, some [5, 6, 7]), (10, none), (8, some [0, 1, 2, 5, 10]), (9, some [10]), (11, some []), (12, none), (13, some [])], [(6, none), (7, none), (3, some [0, 5, 6, 7]), (8, some [0, 1, 2, 5]), (4, some [5, 6, 7]), (10, none), (9, some [10]), (11, some []), (12, none), (13, some [])], [(6, none), (7, none), (8, some [0, 1, 2, 5]), (3, some [0, 5, 6, 7]), (4, some [5, 6, 7]), (10, none), (9, some [10]), (11, some []), (12, none), (13, some [])]]) (by rfl) (by rfl) rfl (rd_move rfl rfl) ?_
           refine ZM (i := 6) (ps' := [[(7, none), (3, some [0, 5, 6, 7]), (4, some [5, 6, 7]), (10, none), (8, some [0, 1, 2, 5, 10]), (9, some [10]), (11, some []), (12, none), (13, some [])], [(7, none), (3, some [0, 5, 6, 7]), (8, some [0, 1, 2, 5]), (4, some [5, 6, 7]), (10, none), (9, some [10]), (11, some []), (12, none), (13, some [])], [(7, none), (8, some [0, 1, 2, 5]), (3, some [0, 5, 6, 7]), (4, some [5, 6, 7]), (10, none), (9, some [10]), (11, some []), (12, none), (13, some [])]]) (by rfl) (by rfl) rfl (ZX (KF (t := 68) (f := 2) rfl rfl)) ?_
           refine ZM (i := 7) (ps' := [[(3, some [0, 5, 6, 7]), (4, some [5, 6, 7]), (10, none), (8, some [0, 1, 2, 5, 10]), (9, some [10]), (11, some []), (12, none), (13, some [])], [(3, some [0, 5, 6, 7]), (8, some [0, 1, 2, 5]), (4, some [5, 6, 7]), (10, none), (9, some [10]), (11, some []), (12, none), (13, some [])], [(8, some [0, 1, 2, 5]), (3, some [0, 5, 6, 7]), (4, some [5, 6, 7]), (10, none), (9, some [10]), (11, some []), (12, none), (13, some [])]]) (by rfl) (by rfl) rfl (ZL (KK (t := 3) rfl)) ?_
           refine am_two (ps1 := [[(4, some [5, 6, 7]), (10, none), (8, some [0, 1, 2, 5, 10]), (9, some [10]), (11, some []), (12, none), (13, some [])], [(8, some [0, 1, 2, 5]), (4, some [5, 6, 7]), (10, none), (9, some [10]), (11, some []), (12, none), (13, some [])]]) (ps2 := [[(3, some [0, 5, 6, 7]), (4, some [5, 6, 7]), (10, none), (9, some [10]), (11, some []), (12, none), (13, some [])]]) (by rfl) (by rfl) (by rfl) ?_ ?_
           rotate_left
           refine ZG (i := 8) (ps' := [[(3, some [0, 5, 6, 7]), (4, some [5, 6, 7]), (10, none), (9, some [10]), (11, some []), (12, none), (13, some [])]]) (by rfl) (by rfl) rfl (Zbsl rfl (KE (t := 22) rfl) (KZ (t := 3) rfl) (.cons rfl rfl (.cons rfl rfl (.nil _)))) (ag_cons (by first | exact ag_rd rfl rfl rfl (rd_move rfl rfl) rfl) (ag_cons (by first | exact ag_rd rfl rfl rfl (ZX (KF (t := 68) (f := 1) rfl rfl)) rfl) (ag_cons (by first | exact ag_rd rfl rfl rfl (ZL (KK (t := 3) rfl)) rfl) (ag_cons (by first | exact ag_rd rfl rfl rfl (rd_move rfl rfl) rfl) (ag_none))))) ?_
           refine ZG (i := 3) (ps' := [[(4, some [5, 6, 7]), (10, none), (9, some [10]), (11, some []), (12, none), (13, some [])]]) (by rfl) (by rfl) rfl (Zbsl rfl (KE (t := 22) rfl) (KZ (t := 3) rfl) (.cons rfl rfl (.cons rfl rfl (.cons rfl rfl (.nil _))))) (ag_cons (by first | exact ag_rd rfl rfl rfl (rd_move rfl rfl) rfl) (ag_cons (by first | exact ag_rd rfl rfl rfl (rd_move rfl rfl) rfl) (ag_cons (by first | exact ag_rd rfl rfl rfl (ZX (KF (t := 68) (f := 2) rfl rfl)) rfl) (ag_cons (by first | exact ag_rd rfl rfl rfl (ZL (KK (t := 3) rfl)) rfl) (ag_none))))) ?_
           refine am_ef (i := 4) (ps' := [[(10, none), (9, some [10]), (11, some []), (12, none), (13, some [])]]) (by rfl) (by rfl) rfl rfl (ef_callm true (fun _ => pick_a [200000, 200001, x] _ _ _ _ hs (by omega) (by omega) (by simp) (by simp)) rfl .fn rfl (by decide) (by kernel_rfl) rfl rfl (fun _g => .cons (.p rfl) (.cons (.frz rfl rfl rfl rfl rfl) .nil)) (fun _g => .cons (.c rfl) (.cons (.c rfl) .nil)) (fun _ _ _ _ ⟨_, hu, hH, _⟩ => by rw [hu, hH]; exact ⟨.c (.inl trivial), strm_flat (.inr ⟨0, _, rfl, by simp⟩)⟩)) ?_
           rintro F1 H1 ⟨_, _, _, _, ⟨rr, rfl, hq, hrm⟩, hF, hH⟩
           injection hq with hq1 hq2; subst hq1; subst hq2
           (try simp only [nsl, Nat.reduceAdd, Nat.reduceLT, Nat.reduceSub] at hF); (try simp only [nsl, Nat.reduceAdd, Nat.reduceLT, Nat.reduceSub] at hH); subst hF; subst hH
           have h64r : in64 rr := by simp only [List.mem_cons, List.not_mem_nil, or_false] at hrm; simp only [in64] at *; omega
           clear hrm
           refine ⟨ag_cons (by first | exact ag_rd rfl rfl rfl (rd_move rfl rfl) rfl) (ag_cons (by first | exact ag_rd rfl rfl rfl (ZX (KF (t := 68) (f := 2) rfl rfl)) rfl) (ag_cons (by first | exact ag_rd rfl rfl rfl (ZL (KK (t := 3) rfl)) rfl) (ag_none))), ?_⟩
           refine ZM (i := 10) (ps' := [[(9, some [10]), (11, some []), (12, none), (13, some [])]]) (by rfl) (by rfl) rfl (ZX (KF (t := 68) (f := 1) rfl rfl)) ?_
           refine am_ef (i := 9) (ps' := [[(11, some []), (12, none), (13, some [])]]) (by rfl) (by rfl) rfl rfl (ef_callm true (fun _ => pick_a [y, -200001] _ _ _ _ hs (by omega) (by omega) (by simp) (by simp)) rfl .fn rfl (by decide) (by kernel_rfl) rfl rfl (fun _g => .cons (.p rfl) (.cons (.frz rfl rfl rfl rfl rfl) .nil)) (fun _g => .cons (.c rfl) (.cons (.c rfl) .nil)) (fun _ _ _ _ ⟨_, hu, hH, _⟩ => by rw [hu, hH]; exact ⟨.c (.inl trivial), strm_flat (.inr ⟨0, _, rfl, by simp⟩)⟩)) ?_
           rintro F1 H1 ⟨_, _, _, _, ⟨rr, rfl, hq, hrm⟩, hF, hH⟩
           injection hq with hq1 hq2; subst hq1; subst hq2
           (try simp only [nsl, Nat.reduceAdd, Nat.reduceLT, Nat.reduceSub] at hF); (try simp only [nsl, Nat.reduceAdd, Nat.reduceLT, Nat.reduceSub] at hH); subst hF; subst hH
           have h64r : in64 rr := by simp only [List.mem_cons, List.not_mem_nil, or_false] at hrm; simp only [in64] at *; omega
           clear hrm
           refine ⟨ag_cons (by first | exact ag_rd rfl rfl rfl (ZX (KF (t := 68) (f := 1) rfl rfl)) rfl) (ag_none), ?_⟩
           first | refine ZG (i := 11) (ps' := [[(12, none), (13, some [])]]) (by rfl) (by rfl) rfl (Zsto (KS (t := 3) rfl)) (ag_none) ?_ | refine ZG (i := 11) (ps' := [[(12, none), (13, some [])]]) (by rfl) (by rfl) rfl (Zstr (KS (t := 3) rfl)) (ag_none) ?_
           refine ZM (i := 12) (ps' := [[(13, some [])]]) (by rfl) (by rfl) rfl (ZX (KF (t := 68) (f := 2) rfl rfl)) ?_
           first | refine ZG (i := 13) (ps' := [[]]) (by rfl) (by rfl) rfl (Zsto (KS (t := 3) rfl)) (ag_none) ?_ | refine ZG (i := 13) (ps' := [[]]) (by rfl) (by rfl) rfl (Zstr (KS (t := 3) rfl)) (ag_none) ?_
           refine am_nil ?_
           rotate_right
           refine ZG (i := 3) (ps' := [[(4, some [5, 6, 7]), (10, none), (8, some [0, 1, 2, 5, 10]), (9, some [10]), (11, some []), (12, none), (13, some [])], [(8, some [0, 1, 2, 5]), (4, some [5, 6, 7]), (10, none), (9, some [10]), (11, some []), (12, none), (13, some [])]]) (by rfl) (by rfl) rfl (Zbsl rfl (KE (t := 22) rfl) (KZ (t := 3) rfl) (.cons rfl rfl (.cons rfl rfl (.cons rfl rfl (.nil _))))) (ag_cons (by first | exact ag_rd rfl rfl rfl (rd_move rfl rfl) rfl) (ag_cons (by first | exact ag_rd rfl rfl rfl (rd_move rfl rfl) rfl) (ag_cons (by first | exact ag_rd rfl rfl rfl (ZX (KF (t := 68) (f := 2) rfl rfl)) rfl) (ag_cons (by first | exact ag_rd rfl rfl rfl (ZL (KK (t := 3) rfl)) rfl) (ag_none))))) ?_
           refine am_two (ps1 := [[(10, none), (8, some [0, 1, 2, 5, 10]), (9, some [10]), (11, some []), (12, none), (13, some [])]]) (ps2 := [[(4, some [5, 6, 7]), (10, none), (9, some [10]), (11, some []), (12, none), (13, some [])]]) (by rfl) (by rfl) (by rfl) ?_ ?_
           rotate_left
           refine ZG (i := 8) (ps' := [[(4, some [5, 6, 7]), (10, none), (9, some [10]), (11, some []), (12, none), (13, some [])]]) (by rfl) (by rfl) rfl (Zbsl rfl (KE (t := 22) rfl) (KZ (t := 3) rfl) (.cons rfl rfl (.cons rfl rfl (.nil _)))) (ag_cons (by first | exact ag_rd rfl rfl rfl (rd_move rfl rfl) rfl) (ag_cons (by first | exact ag_rd rfl rfl rfl (ZX (KF (t := 68) (f := 1) rfl rfl)) rfl) (ag_cons (by first | exact ag_rd rfl rfl rfl (ZL (KK (t := 3) rfl)) rfl) (ag_cons (by first | exact ag_rd rfl rfl rfl (rd_move rfl rfl) rfl) (ag_none))))) ?_
           refine am_ef (i := 4) (ps' := [[(10, none), (9, some [10]), (11, some []), (12, none), (13, some [])]]) (by rfl) (by rfl) rfl rfl (ef_callm true (fun _ => pick_a [200000, 200001, x] _ _ _ _ hs (by omega) (by omega) (by simp) (by simp)) rfl .fn rfl (by decide) (by kernel_rfl) rfl rfl (fun _g => .cons (.p rfl) (.cons (.frz rfl rfl rfl rfl rfl) .nil)) (fun _g => .cons (.c rfl) (.cons (.c rfl) .nil)) (fun _ _ _ _ ⟨_, hu, hH, _⟩ => by rw [hu, hH]; exact ⟨.c (.inl trivial), strm_flat (.inr ⟨0, _, rfl, by simp⟩)⟩)) ?_
           rintro F1 H1 ⟨_, _, _, _, ⟨rr, rfl, hq, hrm⟩, hF, hH⟩
           injection hq with hq1 hq2; subst hq1; subst hq2
           (try simp only [nsl, Nat.reduceAdd, Nat.reduceLT, Nat.reduceSub] at hF); (try simp only [nsl, Nat.reduceAdd, Nat.reduceLT, Nat.reduceSub] at hH); subst hF; subst hH
           have h64r : in64 rr := by simp only [List.mem_cons, List.not_mem_nil, or_false] at hrm; simp only [in64] at *; omega
           clear hrm
           refine ⟨ag_cons (by first | exact ag_rd rfl rfl rfl (rd_move rfl rfl) rfl) (ag_cons (by first | exact ag_rd rfl rfl rfl (ZX (KF (t := 68) (f := 2) rfl rfl)) rfl) (ag_cons (by first | exact ag_rd rfl rfl rfl (ZL (KK (t := 3) rfl)) rfl) (ag_none))), ?_⟩
           refine ZM (i := 10) (ps' := [[(9, some [10]), (11, some []), (12, none), (13, some [])]]) (by rfl) (by rfl) rfl (ZX (KF (t := 68) (f := 1) rfl rfl)) ?_
           refine am_ef (i := 9) (ps' := [[(11, some []), (12, none), (13, some [])]]) (by rfl) (by rfl) rfl rfl (ef_callm true (fun _ => pick_a [y, -200001] _ _ _ _ hs (by omega) (by omega) (by simp) (by simp)) rfl .fn rfl (by decide) (by kernel_rfl) rfl rfl (fun _g => .cons (.p rfl) (.cons (.frz rfl rfl rfl rfl rfl) .nil)) (fun _g => .cons (.c rfl) (.cons (.c rfl) .nil)) (fun _ _ _ _ ⟨_, hu, hH, _⟩ => by rw [hu, hH]; exact ⟨.c (.inl trivial), strm_flat (.inr ⟨0, _, rfl, by simp⟩)⟩)) ?_
           rintro F1 H1 ⟨_, _, _, _, ⟨rr, rfl, hq, hrm⟩, hF, hH⟩
           injection hq with hq1 hq2; subst hq1; subst hq2
           (try simp only [nsl, Nat.reduceAdd, Nat.reduceLT, Nat.reduceSub] at hF); (try simp only [nsl, Nat.reduceAdd, Nat.reduceLT, Nat.reduceSub] at hH); subst hF; subst hH
           have h64r : in64 rr := by simp only [List.mem_cons, List.not_mem_nil, or_false] at hrm; simp only [in64] at *; omega
           clear hrm
           refine ⟨ag_cons (by first | exact ag_rd rfl rfl rfl (ZX (KF (t := 68) (f := 1) rfl rfl)) rfl) (ag_none), ?_⟩
           first | refine ZG (i := 11) (ps' := [[(12, none), (13, some [])]]) (by rfl) (by rfl) rfl (Zsto (KS (t := 3) rfl)) (ag_none) ?_ | refine ZG (i := 11) (ps' := [[(12, none), (13, some [])]]) (by rfl) (by rfl) rfl (Zstr (KS (t := 3) rfl)) (ag_none) ?_
           refine ZM (i := 12) (ps' := [[(13, some [])]]) (by rfl) (by rfl) rfl (ZX (KF (t := 68) (f := 2) rfl rfl)) ?_
           first | refine ZG (i := 13) (ps' := [[]]) (by rfl) (by rfl) rfl (Zsto (KS (t := 3) rfl)) (ag_none) ?_ | refine ZG (i := 13) (ps' := [[]]) (by rfl) (by rfl) rfl (Zstr (KS (t := 3) rfl)) (ag_none) ?_
           refine am_nil ?_
           rotate_right
           refine am_ef (i := 4) (ps' := [[(10, none), (8, some [0, 1, 2, 5, 10]), (9, some [10]), (11, some []), (12, none), (13, some [])]]) (by rfl) (by rfl) rfl rfl (ef_callm true (fun _ => pick_a [200000, 200001, x] _ _ _ _ hs (by omega) (by omega) (by simp) (by simp)) rfl .fn rfl (by decide) (by kernel_rfl) rfl rfl (fun _g => .cons (.p rfl) (.cons (.frz rfl rfl rfl rfl rfl) .nil)) (fun _g => .cons (.c rfl) (.cons (.c rfl) .nil)) (fun _ _ _ _ ⟨_, hu, hH, _⟩ => by rw [hu, hH]; exact ⟨.c (.inl trivial), strm_flat (.inr ⟨0, _, rfl, by simp⟩)⟩)) ?_
           rintro F1 H1 ⟨_, _, _, _, ⟨rr, rfl, hq, hrm⟩, hF, hH⟩
           injection hq with hq1 hq2; subst hq1; subst hq2
           (try simp only [nsl, Nat.reduceAdd, Nat.reduceLT, Nat.reduceSub] at hF); (try simp only [nsl, Nat.reduceAdd, Nat.reduceLT, Nat.reduceSub] at hH); subst hF; subst hH
           have h64r : in64 rr := by simp only [List.mem_cons, List.not_mem_nil, or_false] at hrm; simp only [in64] at *; omega
           clear hrm
           refine ⟨ag_cons (by first | exact ag_rd rfl rfl rfl (rd_move rfl rfl) rfl) (ag_cons (by first | exact ag_rd rfl rfl rfl (ZX (KF (t := 68) (f := 2) rfl rfl)) rfl) (ag_cons (by first | exact ag_rd rfl rfl rfl (ZL (KK (t := 3) rfl)) rfl) (ag_none))), ?_⟩
           refine ZM (i := 10) (ps' := [[(8, some [0, 1, 2, 5, 10]), (9, some [10]), (11, some []), (12, none), (13, some [])]]) (by rfl) (by rfl) rfl (ZX (KF (t := 68) (f := 1) rfl rfl)) ?_
           refine ZG (i := 8) (ps' := [[(9, some [10]), (11, some []), (12, none), (13, some [])]]) (by rfl) (by rfl) rfl (Zbsl rfl (KE (t := 22) rfl) (KZ (t := 3) rfl) (.cons rfl rfl (.cons rfl rfl (.nil _)))) (ag_cons (by first | exact ag_rd rfl rfl rfl (rd_move rfl rfl) rfl) (ag_cons (by first | exact ag_rd rfl rfl rfl (ZX (KF (t := 68) (f := 1) rfl rfl)) rfl) (ag_cons (by first | exact ag_rd rfl rfl rfl (ZL (KK (t := 3) rfl)) rfl) (ag_cons (by first | exact ag_rd rfl rfl rfl (rd_move rfl rfl) rfl) (ag_cons (by first | exact ag_rd rfl rfl rfl (ZX (KF (t := 68) (f := 1) rfl rfl)) rfl) (ag_none)))))) ?_
           refine am_ef (i := 9) (ps' := [[(11, some []), (12, none), (13, some [])]]) (by rfl) (by rfl) rfl rfl (ef_callm true (fun _ => pick_a [y, -200001] _ _ _ _ hs (by omega) (by omega) (by simp) (by simp)) rfl .fn rfl (by decide) (by kernel_rfl) rfl rfl (fun _g => .cons (.p rfl) (.cons (.frz rfl rfl rfl rfl rfl) .nil)) (fun _g => .cons (.c rfl) (.cons (.c rfl) .nil)) (fun _ _ _ _ ⟨_, hu, hH, _⟩ => by rw [hu, hH]; exact ⟨.c (.inl trivial), strm_flat (.inr ⟨0, _, rfl, by simp⟩)⟩)) ?_
           rintro F1 H1 ⟨_, _, _, _, ⟨rr, rfl, hq, hrm⟩, hF, hH⟩
           injection hq with hq1 hq2; subst hq1; subst hq2
           (try simp only [nsl, Nat.reduceAdd, Nat.reduceLT, Nat.reduceSub] at hF); (try simp only [nsl, Nat.reduceAdd, Nat.reduceLT, Nat.reduceSub] at hH); subst hF; subst hH
           have h64r : in64 rr := by simp only [List.mem_cons, List.not_mem_nil, or_false] at hrm; simp only [in64] at *; omega
           clear hrm
           refine ⟨ag_cons (by first | exact ag_rd rfl rfl rfl (ZX (KF (t := 68) (f := 1) rfl rfl)) rfl) (ag_none), ?_⟩
           first | refine ZG (i := 11) (ps' := [[(12, none), (13, some [])]]) (by rfl) (by rfl) rfl (Zsto (KS (t := 3) rfl)) (ag_none) ?_ | refine ZG (i := 11) (ps' := [[(12, none), (13, some [])]]) (by rfl) (by rfl) rfl (Zstr (KS (t := 3) rfl)) (ag_none) ?_
           refine ZM (i := 12) (ps' := [[(13, some [])]]) (by rfl) (by rfl) rfl (ZX (KF (t := 68) (f := 2) rfl rfl)) ?_
           first | refine ZG (i := 13) (ps' := [[]]) (by rfl) (by rfl) rfl (Zsto (KS (t := 3) rfl)) (ag_none) ?_ | refine ZG (i := 13) (ps' := [[]]) (by rfl) (by rfl) rfl (Zstr (KS (t := 3) rfl)) (ag_none) ?_
           refine am_nil ?_
         all_goals (refine ZZ ?_))
      | (refine aw_region (id := 25) ?_
         refine WO ?_
         refine al_ef rfl (ef_callm false (fun _ => odd_a (-1000000) 1000000 _ _ _ hs (by omega) (by omega) (by omega) (by omega) (by omega) (by omega)) rfl .fn rfl (by decide) (by kernel_rfl) rfl rfl (fun _g => .cons (.p rfl) (.cons (.c rfl) (.cons (.c rfl) .nil))) (fun _g => .cons (.c rfl) (.cons (.c rfl) .nil)) (by simp)) ?_
         rintro F1 H1 ⟨_, _, _, _, ⟨rr, ar, rfl, hq, hr3, hr4, h64r⟩, hF, hH⟩
         injection hq with hq1 hq2; subst hq1; subst hq2
         (try simp only [nsl, Nat.reduceAdd, Nat.reduceLT, Nat.reduceSub] at hF); (try simp only [nsl, Nat.reduceAdd, Nat.reduceLT, Nat.reduceSub] at hH); subst hF; subst hH
         refine WO ?_
         refine al_ef rfl (ef_callm false (fun _ => odd_a 0 100000000 _ _ _ hs (by omega) (by omega) (by omega) (by omega) (by omega) (by omega)) rfl .fn rfl (by decide) (by kernel_rfl) rfl rfl (fun _g => .cons (.p rfl) (.cons (.c rfl) (.cons (.c rfl) .nil))) (fun _g => .cons (.c rfl) (.cons (.c rfl) .nil)) (by simp)) ?_
         rintro F1 H1 ⟨_, _, _, _, ⟨rr, ar, rfl, hq, hr3, hr4, h64r⟩, hF, hH⟩
         injection hq with hq1 hq2; subst hq1; subst hq2
         (try simp only [nsl, Nat.reduceAdd, Nat.reduceLT, Nat.reduceSub] at hF); (try simp only [nsl, Nat.reduceAdd, Nat.reduceLT, Nat.reduceSub] at hH); subst hF; subst hH
         refine WE ?_)
      | (refine aw_region (id := 19) ?_
         refine WO ?_
         refine al_ef rfl (ef_callm true (fun _ => pick_a [-1, 0, 100001, 10000001, 10] _ _ _ _ hs (by omega) (by omega) (by simp) (by simp)) rfl .fn rfl (by decide) (by kernel_rfl) rfl rfl (fun _g => .cons (.p rfl) (.cons (.frz rfl rfl rfl rfl rfl) .nil)) (fun _g => .cons (.c rfl) (.cons (.c rfl) .nil)) (fun _ _ _ _ ⟨_, hu, hH, _⟩ => by rw [hu, hH]; exact ⟨.c (.inl trivial), strm_flat (.inr ⟨0, _, rfl, by simp⟩)⟩)) ?_
         rintro F1 H1 ⟨_, _, _, _, ⟨rr, rfl, hq, hrm⟩, hF, hH⟩
         injection hq with hq1 hq2; subst hq1; subst hq2
         (try simp only [nsl, Nat.reduceAdd, Nat.reduceLT, Nat.reduceSub] at hF); (try simp only [nsl, Nat.reduceAdd, Nat.reduceLT, Nat.reduceSub] at hH); subst hF; subst hH
         have h64r : in64 rr := by simp only [List.mem_cons, List.not_mem_nil, or_false] at hrm; simp only [in64] at *; omega
         clear hrm
         refine WE ?_)
      | (refine aw_region ?_; refine WE ?_))
    all_goals (refine aret_a [some 0] _ rfl (KK (t := 68) rfl) rfl (Cells.box rfl) (by simp) (by (try simp only [nm, putL, Nat.reduceAdd, cellsOf, cvOf]) <;> rfl) (by decide) (ZNK rfl) (fun _ => C0 rfl) ZCH ?_)
    all_goals refine ⟨⟨_, _, _, _, _, _⟩, _, rfl, rfl, ?_, ?_, ⟨?_, ?_, ?_, ?_, ?_, ?_⟩⟩
    all_goals first | assumption | exact z64 | omega
theorem steplist_a (most : Int) (v : Value) (zs : List Int) (a : Int) (hs : StrOk zs) (h0 : 0 ≤ a) (h1 : a ≤ 700000000) (hm : 0 ≤ most) (hm2 : most ≤ 1000000) :
    ACalls Tryz.prog 88 [.p 0 0 0, .c (I most)] [strm v zs a] fun u H => ∃ (l : List Step) (c : Nat) (a' : Int), u = .o 1 0 l.length c ∧ H = [strm v zs a', .arr 68 6 c (l.map Step.row)] ∧ a ≤ a' ∧ a' ≤ a + 20 * most + 20 ∧ (∀ s ∈ l, s.ok) ∧ l.length ≤ most + 6 := by
  refine acalls_of (N := 40) Tryz.func88 rfl rfl (by simp) fun E hE => ?_
  refine WA ?_
  refine WR ?_
  refine al_nil ?_
  refine aseq_n ?_
  refine aw_wk (wk_of (K := fun F H => F = [(0, .p 0 0 0), (1, .c (I most)), (5, .o 1 0 0 0)] ∧ H = [strm v zs a, .arr 68 6 0 []]) [some 0, none] (fun _ => [(0, .p 0 0 0), (1, .c (I most)), (5, .o 1 0 0 0)]) (fun _ => _) (by decide) (ZNL hE) ZCF ZCH (fun _ => ⟨rfl, rfl⟩)) ?_
  rintro F H ⟨rfl, rfl⟩
  refine WR ?_
  refine al_ef rfl (ef_callm false (fun _ => flip_a 2 _ _ _ hs (by omega) (by omega) (by simp only [in64]; omega)) rfl .fn rfl (by decide) (by kernel_rfl) rfl rfl (fun _g => .cons (.p rfl) (.cons (.c rfl) .nil)) (fun _g => .cons (.c rfl) (.cons (.c rfl) .nil)) (by simp)) ?_
  rintro F1 H1 ⟨_, _, _, _, ⟨bb, rfl, hq⟩, hF, hH⟩
  injection hq with hq1 hq2; subst hq1; subst hq2
  (try simp only [nsl, Nat.reduceAdd, Nat.reduceLT, Nat.reduceSub] at hF); (try simp only [nsl, Nat.reduceAdd, Nat.reduceLT, Nat.reduceSub] at hH); subst hF; subst hH
  refine WO ?_
  refine al_nil ?_
  refine aseq_n ?_
  refine aw_cut (fun F H => ∃ (l : List Step) (c : Nat), (∀ s ∈ l, s.ok) ∧ l.length ≤ 2 ∧ F = [(0, .p 0 0 0), (1, .c (I most)), (5, .o 1 0 l.length c)] ∧ H = [strm v zs (a + 1), .arr 68 6 c (l.map Step.row)]) ?_ ?_ wk_aw
  · refine aw_cond rfl (fun _ => ?_) (fun _ => ?_)
    · refine WR ?_
      refine al_ef rfl (Zapp (KA (t := 54) rfl)) ?_
      rintro _ _ ⟨_, cc, hcc, rfl, rfl⟩
      refine WE ?_
      refine wk_of [some 0, some 1] (fun _ => [(0, .p 0 0 0), (1, .c (I most)), (5, .o 1 0 2 cc)]) (fun _ => _) (by decide) (ZNL hE) ZCF ZCH (fun _ => ⟨[⟨6, 0, 0, 0, 0, 100⟩, ⟨8, 0, 0, 0, 0, 200⟩], cc, ?_, ?_, rfl, rfl⟩)
      · simp [Step.ok, in64]
      · simp
    · refine ZZ ?_
      refine wk_of [some 0, some 1] (fun _ => [(0, .p 0 0 0), (1, .c (I most)), (5, .o 1 0 0 0)]) (fun _ => _) (by decide) (ZNL hE) ZCF ZCH (fun _ => ?_)
      exact ⟨[], 0, by simp, by simp, rfl, rfl⟩
  rintro F H ⟨l0, c0, hok0, hl0, rfl, rfl⟩
  refine WR ?_
  refine al_ef rfl (ef_callm false (fun _ => range_a 0 most _ _ _ hs (by omega) (by omega) (by omega) (by omega) (by omega) (by omega)) rfl .fn rfl (by decide) (by kernel_rfl) rfl rfl (fun _g => .cons (.p rfl) (.cons (.c rfl) (.cons (.c rfl) .nil))) (fun _g => .cons (.c rfl) (.cons (.c rfl) .nil)) (by simp)) ?_
  rintro F1 H1 ⟨_, _, _, _, ⟨rr, ar, rfl, hq, hr3, hr4, hr1, hr2, _⟩, hF, hH⟩
  injection hq with hq1 hq2; subst hq1; subst hq2
  (try simp only [nsl, Nat.reduceAdd, Nat.reduceLT, Nat.reduceSub] at hF); (try simp only [nsl, Nat.reduceAdd, Nat.reduceLT, Nat.reduceSub] at hH); subst hF; subst hH
  have h64r : in64 rr := by simp only [in64]; omega
  refine WE ?_
  refine aw_loopw (fun m F H => ∃ (k : Nat) (l : List Step) (c : Nat) (a' : Int), m + k = rr.toNat ∧ a ≤ a' ∧ a' ≤ a + 2 + 20 * k ∧ (∀ s ∈ l, s.ok) ∧ l.length ≤ 2 + k ∧ F = [(0, .p 0 0 0), (5, .o 1 0 l.length c), (15, .c (I rr)), (16, .c (I k))] ∧ H = [strm v zs a', .arr 68 6 c (l.map Step.row)]) ?_ ?_
  · refine wk_of [some 0, some 1] (fun _ => [(0, .p 0 0 0), (5, .o 1 0 l0.length c0), (15, .c (I rr)), (16, .c (I (0 : Nat)))]) (fun _ => _) (by decide) (ZNL hE) ZCF ZCH (fun _ => ?_)
    exact ⟨rr.toNat, 0, l0, c0, _, by omega, by omega, by omega, hok0, by omega, rfl, rfl⟩
  rintro m F H ⟨k, l, c, a', hmk, ha1, ha2, hok, hl, rfl, rfl⟩
  refine WA ?_
  refine aw_if rfl (fun hlt => ?_) (fun hge => ?_)
  · refine WR ?_
    refine al_ef rfl (ef_callm false (fun _ => astepof_a _ _ _ hs (by omega) (by omega)) rfl .fn rfl (by decide) (by kernel_rfl) rfl rfl (fun _g => .cons (.p rfl) .nil) (fun _g => .cons (.c rfl) (.cons (.c rfl) .nil)) (by simp)) ?_
    rintro F1 H1 ⟨_, _, _, _, ⟨st, ar, rfl, hq, hr3', hr4', hok'⟩, hF, hH⟩
    injection hq with hq1 hq2; subst hq1; subst hq2
    (try simp only [nsl, Nat.reduceAdd, Nat.reduceLT, Nat.reduceSub] at hF); (try simp only [nsl, Nat.reduceAdd, Nat.reduceLT, Nat.reduceSub] at hH); subst hF; subst hH
    refine WO ?_
    refine al_ef rfl (Zapp (KA (t := 54) rfl)) ?_
    rintro _ _ ⟨_, cc, hcc, rfl, rfl⟩
    refine WE ?_
    refine WA ?_
    refine wk_of [some 0, some 1] (fun _ => [(0, .p 0 0 0), (5, .o 1 0 (l ++ [st]).length cc), (15, .c (I rr)), (16, .c (I (k + 1 : Nat)))]) (fun _ => _) (by decide) (ZNL hE) ZCF ZCH (fun _ => ?_)
    refine ⟨m - 1, by omega, k + 1, l ++ [st], cc, ar, by omega, by omega, by omega, ?_, ?_, rfl, by simp⟩
    · intro s hs'
      rcases List.mem_append.1 hs' with h | h
      · exact hok s h
      · rw [List.mem_singleton.1 h]; exact hok'
    · simp; omega
  refine ZZ ?_
  refine WR ?_
  refine al_ef rfl (ef_callm false (fun _ => flip_a 60 _ _ _ hs (by omega) (by omega) (by simp only [in64]; omega)) rfl .fn rfl (by decide) (by kernel_rfl) rfl rfl (fun _g => .cons (.p rfl) (.cons (.c rfl) .nil)) (fun _g => .cons (.c rfl) (.cons (.c rfl) .nil)) (by simp)) ?_
  rintro F1 H1 ⟨_, _, _, _, ⟨bb, rfl, hq⟩, hF, hH⟩
  injection hq with hq1 hq2; subst hq1; subst hq2
  (try simp only [nsl, Nat.reduceAdd, Nat.reduceLT, Nat.reduceSub] at hF); (try simp only [nsl, Nat.reduceAdd, Nat.reduceLT, Nat.reduceSub] at hH); subst hF; subst hH
  refine WO ?_
  refine al_nil ?_
  refine aseq_n ?_
  refine aw_cut (fun F H => ∃ (l : List Step) (c : Nat) (a' : Int), a ≤ a' ∧ a' ≤ a + 20 * most + 20 ∧ (∀ s ∈ l, s.ok) ∧ l.length ≤ most + 6 ∧ F = [(5, .o 1 0 l.length c)] ∧ H = [strm v zs a', .arr 68 6 c (l.map Step.row)]) ?_ ?_ wk_aw
  · refine aw_cond rfl (fun _ => ?_) (fun _ => ?_)
    · refine WR ?_
      refine al_ef rfl (Zapp (KA (t := 54) rfl)) ?_
      rintro _ _ ⟨_, cc, hcc, rfl, rfl⟩
      refine WE ?_
      refine WR ?_
      refine al_ef rfl (ef_callm false (fun _ => range_a 1 3 _ _ _ hs (by omega) (by omega) (by omega) (by omega) (by omega) (by omega)) rfl .fn rfl (by decide) (by kernel_rfl) rfl rfl (fun _g => .cons (.p rfl) (.cons (.c rfl) (.cons (.c rfl) .nil))) (fun _g => .cons (.c rfl) (.cons (.c rfl) .nil)) (by simp)) ?_
      rintro F1 H1 ⟨_, _, _, _, ⟨rr, ar, rfl, hq, hr3, hr4, hr1, hr2, _⟩, hF, hH⟩
      injection hq with hq1 hq2; subst hq1; subst hq2
      (try simp only [nsl, Nat.reduceAdd, Nat.reduceLT, Nat.reduceSub] at hF); (try simp only [nsl, Nat.reduceAdd, Nat.reduceLT, Nat.reduceSub] at hH); subst hF; subst hH
      have h64r : in64 rr := by simp only [in64]; omega
      refine WE ?_
      refine aw_loopw (fun m F H => ∃ (k : Nat) (l : List Step) (c : Nat), m + k = rr.toNat ∧ (∀ s ∈ l, s.ok) ∧ l.length ≤ most + 3 + k ∧ F = [(5, .o 1 0 l.length c), (31, .c (I rr)), (32, .c (I k))] ∧ H = [strm v zs ar, .arr 68 6 c (l.map Step.row)]) ?_ ?_
      · refine wk_of [some 0, some 1] (fun _ => [(5, .o 1 0 (l ++ [(⟨2, 0, 0, 0, 0, 0⟩ : Step)]).length cc), (31, .c (I rr)), (32, .c (I (0 : Nat)))]) (fun _ => _) (by decide) (ZNL hE) ZCF ZCH (fun _ => ?_)
        refine ⟨rr.toNat, 0, l ++ [⟨2, 0, 0, 0, 0, 0⟩], cc, by omega, ?_, ?_, rfl, by simp⟩
        · intro s hs'
          rcases List.mem_append.1 hs' with h | h
          · exact hok s h
          · rw [List.mem_singleton.1 h]; simp [Step.ok, in64]
        · simp; omega
      rintro m2 F H ⟨k2, l2, c2, hmk2, hok2, hl2, rfl, rfl⟩
      refine WA ?_
      refine aw_if rfl (fun hlt => ?_) (fun hge => ?_)
      · refine WR ?_
        refine al_ef rfl (Zapp (KA (t := 54) rfl)) ?_
        rintro _ _ ⟨_, cc, hcc, rfl, rfl⟩
        refine WE ?_
        refine WA ?_
        refine wk_of [some 0, some 1] (fun _ => [(5, .o 1 0 (l2 ++ [(⟨3, 200000, -7, 0, 0, 0⟩ : Step)]).length cc), (31, .c (I rr)), (32, .c (I (k2 + 1 : Nat)))]) (fun _ => _) (by decide) (ZNL hE) ZCF ZCH (fun _ => ?_)
        refine ⟨m2 - 1, by omega, k2 + 1, l2 ++ [⟨3, 200000, -7, 0, 0, 0⟩], cc, by omega, ?_, ?_, rfl, by simp⟩
        · intro s hs'
          rcases List.mem_append.1 hs' with h | h
          · exact hok2 s h
          · rw [List.mem_singleton.1 h]; simp [Step.ok, in64]
        · simp; omega
      refine ZZ ?_
      refine wk_of [some 0, some 1] (fun _ => [(5, .o 1 0 l2.length c2)]) (fun _ => _) (by decide) (ZNL hE) ZCF ZCH (fun _ => ?_)
      exact ⟨l2, c2, ar, by omega, by omega, hok2, by omega, rfl, rfl⟩
    · refine ZZ ?_
      refine wk_of [some 0, some 1] (fun _ => [(5, .o 1 0 l.length c)]) (fun _ => _) (by decide) (ZNL hE) ZCF ZCH (fun _ => ?_)
      exact ⟨l, c, _, by omega, by omega, hok, by omega, rfl, rfl⟩
  rintro F H ⟨l, c, a', ha1, ha2, hok, hl, rfl, rfl⟩
  refine WA ?_
  exact aret_o [some 0, some 1] (fun _ => _) rfl rfl rfl rfl rfl (by decide) (ZNK rfl) ZCH (fun _ => ⟨l, c, a', rfl, rfl, ha1, ha2, hok, hl⟩)
end Go.Proofs.YtdmeohgojdfmoaaGreatDoor
