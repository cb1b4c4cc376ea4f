/- The program's faults of a step, by value. -/
import Derived.Test.YtdmeohgojdfmoaaGreatQat
import Derived.Test.YtdmeohgojdfmoaaGreatQao
set_option linter.unusedSimpArgs false
set_option linter.unusedVariables false
/- The program's faults of a step, by value. -/
namespace Go.Proofs.YtdmeohgojdfmoaaGreat
open Go Go.RowKit
set_option maxRecDepth 100000
def formOk (k : Int) (f : Form) : Prop :=
  (f.pl = true ↔ k = 3 ∨ k = 4) ∧ (f.fl = true ↔ k = 4) ∧ (f.zz = true ↔ k = 5) ∧ (f.nn = true ↔ 6 ≤ k) ∧ (k = 6 → f.lo = 1 ∧ f.hi = 100000) ∧ (k = 7 → f.lo = 0 ∧ f.hi = 10000000) ∧ (k = 8 → f.lo = 0 ∧ f.hi = 500) ∧ (k = 9 → f.lo = 0 ∧ f.hi = 9)
theorem form_get {k : Int} (h1 : 1 ≤ k) (h9 : k ≤ 9) : ∃ (i : Nat) (f : Form), k = i ∧ formL[i]? = some f ∧ formOk k f := by
  obtain ⟨i, rfl⟩ : ∃ i : Nat, k = i := ⟨k.toNat, by omega⟩
  have : i < 10 := by omega
  have h0 : 1 ≤ i := by omega
  match i, this, h0 with
  | 1, _, _ => exact ⟨_, _, rfl, rfl, by simp [formOk]⟩
  | 2, _, _ => exact ⟨_, _, rfl, rfl, by simp [formOk]⟩
  | 3, _, _ => exact ⟨_, _, rfl, rfl, by simp [formOk]⟩
  | 4, _, _ => exact ⟨_, _, rfl, rfl, by simp [formOk]⟩
  | 5, _, _ => exact ⟨_, _, rfl, rfl, by simp [formOk]⟩
  | 6, _, _ => exact ⟨_, _, rfl, rfl, by simp [formOk]⟩
  | 7, _, _ => exact ⟨_, _, rfl, rfl, by simp [formOk]⟩
  | 8, _, _ => exact ⟨_, _, rfl, rfl, by simp [formOk]⟩
  | 9, _, _ => exact ⟨_, _, rfl, rfl, by simp [formOk]⟩
set_option maxHeartbeats 8000000 in
theorem fault_a (s : Step) : ACalls Tryz.prog 40 [.a (s.row.map .c)] [] fun u H => u = .c (I (faultS s)) ∧ H = [] := by
  obtain ⟨k, x, y, z, f, n⟩ := s
  refine acalls_of (N := 90) Tryz.func40 rfl rfl (by simp) fun E hE => ?_
  refine WA ?_
  refine WR ?_
  refine al_ef rfl (ef_call0 false (fun _ => iskind_a _) rfl .fn rfl (by decide) (by kernel_rfl) rfl (fun _g => .cons (.c rfl) .nil) (by simp)) ?_
  rintro _ _ ⟨_, _, _, ⟨b, rfl, rfl, hb1, hb2⟩, hF, hH⟩
  (try simp only [nsl, Nat.reduceAdd, Nat.reduceLT, Nat.reduceSub] at hF); (try simp only [nsl, Nat.reduceAdd, Nat.reduceLT, Nat.reduceSub] at hH); subst hF; subst hH
  cases b
  all_goals (simp only [true_implies, false_implies, reduceCtorEq] at hb1 hb2)
  all_goals (refine WE ?_)
  · refine aw_cond_t rfl ?_
    refine WA ?_
    exact aret_1 [] _ rfl rfl rfl (by decide) (ZNK rfl) (fun _ => .nil) ⟨by rw [faultS, if_pos (by simp only; omega)], rfl⟩
  refine aw_cond_f rfl ?_
  refine ZZ ?_
  obtain ⟨i, fm, hki, hfm, hfok⟩ := form_get hb1.1 hb1.2
  have hrow : (formL.map Form.row)[i]? = some fm.row := by rw [List.getElem?_map, hfm]; rfl
  obtain ⟨w, pl, fl, zz, nn, lo, hi⟩ := fm
  obtain ⟨f1, f2, f3, f4, f5, f6, f7, f8⟩ := hfok
  simp only at f1 f2 f3 f4 f5 f6 f7 f8
  refine aw_cut (fun F H => F = [(1, .p 0 0 0), (3, .p 1 0 0)] ∧ H = [.box ((⟨k, x, y, z, f, n⟩ : Step).row.map .c), .box ((⟨w, pl, fl, zz, nn, lo, hi⟩ : Form).row.map .c)]) ?_ ?_ wk_aw
  · refine ZZ ?_
    refine aw_regionM [[(1, none), (2, none), (0, some [1, 2]), (3, none), (4, none), (5, some [1, 2, 3, 4]), (6, some [])], [(1, none), (2, none), (5, some [1, 2]), (0, some [1, 2]), (3, none), (4, none), (6, some [])]] hMixed (by kernel_rfl) ?_
    focus
      refine ZM (i := 1) (ps' := [[(2, none), (0, some [1, 2]), (3, none), (4, none), (5, some [1, 2, 3, 4]), (6, some [])], [(2, none), (5, some [1, 2]), (0, some [1, 2]), (3, none), (4, none), (6, some [])]]) (by rfl) (by rfl) rfl (ZX (KF (t := 36) (f := 0) rfl rfl)) ?_
      refine ZM (i := 2) (ps' := [[(0, some [1, 2]), (3, none), (4, none), (5, some [1, 2, 3, 4]), (6, some [])], [(5, some [1, 2]), (0, some [1, 2]), (3, none), (4, none), (6, some [])]]) (by rfl) (by rfl) rfl (ZL (KK (t := 3) rfl)) ?_
      refine am_two (ps1 := [[(3, none), (4, none), (5, some [1, 2, 3, 4]), (6, some [])]]) (ps2 := [[(0, some [1, 2]), (3, none), (4, none), (6, some [])]]) (by rfl) (by rfl) (by rfl) ?_ ?_
      rotate_left
      refine ZG (i := 5) (ps' := [[(0, some [1, 2]), (3, none), (4, none), (6, some [])]]) (by rfl) (by rfl) rfl (Zall (KZ (t := 112) rfl)) (ag_cons (by first | exact ag_rd rfl rfl rfl (ZX (KF (t := 36) (f := 0) rfl rfl)) rfl) (ag_cons (by first | exact ag_rd rfl rfl rfl (ZL (KK (t := 3) rfl)) rfl) (ag_none))) ?_
      refine am_ef (i := 0) (ps' := [[(3, none), (4, none), (6, some [])]]) (by rfl) (by rfl) rfl rfl (ef_call0 false (fun _ => forms_a) rfl .fn rfl (by decide) (by kernel_rfl) rfl (fun _g => .nil) (by simp)) ?_
      rintro _ _ ⟨_, _, _, ⟨vf, rfl, rfl⟩, hF, hH⟩
      (try simp only [nsl, Nat.reduceAdd, Nat.reduceLT, Nat.reduceSub] at hF); (try simp only [nsl, Nat.reduceAdd, Nat.reduceLT, Nat.reduceSub] at hH); subst hF; subst hH
      refine ⟨ag_cons (by first | exact ag_rd rfl rfl rfl (ZX (KF (t := 36) (f := 0) rfl rfl)) rfl) (ag_cons (by first | exact ag_rd rfl rfl rfl (ZL (KK (t := 3) rfl)) rfl) (ag_none)), ?_⟩
      refine ZM (i := 3) (ps' := [[(4, none), (6, some [])]]) (by rfl) (by rfl) rfl (rd_indexq rfl (KE (t := 113) rfl) rfl rfl (i := i) hki hrow rfl) ?_
      refine ZM (i := 4) (ps' := [[(6, some [])]]) (by rfl) (by rfl) rfl (ZK (KK (t := 112) rfl)) ?_
      first | refine ZG (i := 6) (ps' := [[]]) (by rfl) (by rfl) rfl (Zsto (KS (t := 112) rfl)) (ag_none) ?_ | refine ZG (i := 6) (ps' := [[]]) (by rfl) (by rfl) rfl (Zstr (KS (t := 112) rfl)) (ag_none) ?_
      refine am_nil ?_
      rotate_right
      refine am_ef (i := 0) (ps' := [[(3, none), (4, none), (5, some [1, 2, 3, 4]), (6, some [])]]) (by rfl) (by rfl) rfl rfl (ef_call0 false (fun _ => forms_a) rfl .fn rfl (by decide) (by kernel_rfl) rfl (fun _g => .nil) (by simp)) ?_
      rintro _ _ ⟨_, _, _, ⟨vf, rfl, rfl⟩, hF, hH⟩
      (try simp only [nsl, Nat.reduceAdd, Nat.reduceLT, Nat.reduceSub] at hF); (try simp only [nsl, Nat.reduceAdd, Nat.reduceLT, Nat.reduceSub] at hH); subst hF; subst hH
      refine ⟨ag_cons (by first | exact ag_rd rfl rfl rfl (ZX (KF (t := 36) (f := 0) rfl rfl)) rfl) (ag_cons (by first | exact ag_rd rfl rfl rfl (ZL (KK (t := 3) rfl)) rfl) (ag_none)), ?_⟩
      refine ZM (i := 3) (ps' := [[(4, none), (5, some [1, 2, 3, 4]), (6, some [])]]) (by rfl) (by rfl) rfl (rd_indexq rfl (KE (t := 113) rfl) rfl rfl (i := i) hki hrow rfl) ?_
      refine ZM (i := 4) (ps' := [[(5, some [1, 2, 3, 4]), (6, some [])]]) (by rfl) (by rfl) rfl (ZK (KK (t := 112) rfl)) ?_
      refine ZG (i := 5) (ps' := [[(6, some [])]]) (by rfl) (by rfl) rfl (Zall (KZ (t := 112) rfl)) (ag_cons (by first | exact ag_rd rfl rfl rfl (ZX (KF (t := 36) (f := 0) rfl rfl)) rfl) (ag_cons (by first | exact ag_rd rfl rfl rfl (ZL (KK (t := 3) rfl)) rfl) (ag_cons (by first | exact ag_rd rfl rfl rfl (rd_indexq rfl (KE (t := 113) rfl) rfl rfl (i := i) hki hrow rfl) rfl) (ag_cons (by first | exact ag_rd rfl rfl rfl (ZK (KK (t := 112) rfl)) rfl) (ag_none))))) ?_
      first | refine ZG (i := 6) (ps' := [[]]) (by rfl) (by rfl) rfl (Zsto (KS (t := 112) rfl)) (ag_none) ?_ | refine ZG (i := 6) (ps' := [[]]) (by rfl) (by rfl) rfl (Zstr (KS (t := 112) rfl)) (ag_none) ?_
      refine am_nil ?_
    all_goals (refine ZZ ?_)
    all_goals refine wk_of [some 0, some 1] (fun _ => [(1, .p 0 0 0), (3, .p 1 0 0)]) (fun _ => _) (by decide) (ZNL hE) ZCF ZCH (fun _ => ⟨rfl, rfl⟩)
  rintro F H ⟨rfl, rfl⟩
  clear hrow hfm hki
  have hh := Hid.mk (And.intro f5 (And.intro f6 (And.intro f7 f8)))
  clear f5 f6 f7 f8
  have hc : k ≤ 2 ∨ k = 3 ∨ k = 4 ∨ k = 5 ∨ 6 ≤ k := by omega
  rcases hc with hc | hc | hc | hc | hc
  · obtain rfl : pl = false := Bool.eq_false_iff.2 (fun e => by have := f1.1 e; omega)
    obtain rfl : fl = false := Bool.eq_false_iff.2 (fun e => by have := f2.1 e; omega)
    obtain rfl : zz = false := Bool.eq_false_iff.2 (fun e => by have := f3.1 e; omega)
    obtain rfl : nn = false := Bool.eq_false_iff.2 (fun e => by have := f4.1 e; omega)
    clear f1 f2 f3 f4
    repeat' (first
      | (with_reducible refine aw_seq ?_) | (with_reducible refine aseq_n ?_) | (with_reducible refine aseq_r ?_) | (with_reducible refine ablk_n ?_) | (with_reducible refine ablk_r ?_) | (with_reducible refine ablk_e ?_) | (with_reducible refine ablk_o rfl ?_) | (with_reducible refine aseq_e ?_) | (with_reducible refine aw_skip ?_) | (with_reducible refine aw_block ?_) | (with_reducible refine aw_ret ?_) | (with_reducible refine aw_exit ?_)
      | refine aw_cond_t rfl ?_ | refine aw_cond_f rfl ?_ | refine aw_if_t rfl (by assumption) ?_ | refine aw_if_f rfl (by assumption) ?_ | refine aw_if rfl (fun _ => ?_) (fun _ => ?_) | refine aw_cond rfl (fun _ => ?_) (fun _ => ?_)
      | (refine aw_region (id := 4) ?_
         refine WO ?_
         refine al_ef rfl (ef_call0 false (fun _ => isplace_a _) rfl .fn rfl (by decide) (by kernel_rfl) rfl (fun _g => .cons (.c rfl) .nil) (by simp)) ?_
         rintro _ _ ⟨_, _, _, ⟨b, rfl, rfl, hb1, hb2⟩, hF, hH⟩
         (try simp only [nsl, Nat.reduceAdd, Nat.reduceLT, Nat.reduceSub] at hF); (try simp only [nsl, Nat.reduceAdd, Nat.reduceLT, Nat.reduceSub] at hH); subst hF; subst hH
         cases b
         all_goals (simp only [true_implies, false_implies, reduceCtorEq] at hb1 hb2)
         all_goals (refine WO ?_)
         all_goals (first | refine ZS ?_ | (refine G1 rfl ?_; refine al_ef rfl (ef_call0 false (fun _ => isplace_a _) rfl .fn rfl (by decide) (by kernel_rfl) rfl (fun _g => .cons (.c rfl) .nil) (by simp)) ?_; rintro _ _ ⟨_, _, _, ⟨b, rfl, rfl, hb1, hb2⟩, hF, hH⟩; (try simp only [nsl, Nat.reduceAdd, Nat.reduceLT, Nat.reduceSub] at hF); (try simp only [nsl, Nat.reduceAdd, Nat.reduceLT, Nat.reduceSub] at hH); subst hF; subst hH; cases b; all_goals (simp only [true_implies, false_implies, reduceCtorEq] at hb1 hb2)) | skip)
         all_goals (refine WO ?_)
         all_goals (first | refine ZS ?_ | (refine G1 rfl ?_; refine al_ef rfl (ef_call0 false (fun _ => outside_a _ _ _) rfl .fn rfl (by decide) (by kernel_rfl) rfl (fun _g => .cons (.c rfl) (.cons (.c rfl) (.cons (.c rfl) .nil))) (by simp)) ?_; rintro _ _ ⟨_, _, _, ⟨b, rfl, rfl, hb1, hb2⟩, hF, hH⟩; (try simp only [nsl, Nat.reduceAdd, Nat.reduceLT, Nat.reduceSub] at hF); (try simp only [nsl, Nat.reduceAdd, Nat.reduceLT, Nat.reduceSub] at hH); subst hF; subst hH; cases b; all_goals (simp only [true_implies, false_implies, reduceCtorEq] at hb1 hb2)) | skip)
         all_goals (refine WO ?_)
         all_goals (first | refine ZS ?_ | (refine G1 rfl ?_; refine al_ef rfl (ef_call0 false (fun _ => outside_a _ _ _) rfl .fn rfl (by decide) (by kernel_rfl) rfl (fun _g => .cons (.c rfl) (.cons (.c rfl) (.cons (.c rfl) .nil))) (by simp)) ?_; rintro _ _ ⟨_, _, _, ⟨b, rfl, rfl, hb1, hb2⟩, hF, hH⟩; (try simp only [nsl, Nat.reduceAdd, Nat.reduceLT, Nat.reduceSub] at hF); (try simp only [nsl, Nat.reduceAdd, Nat.reduceLT, Nat.reduceSub] at hH); subst hF; subst hH; cases b; all_goals (simp only [true_implies, false_implies, reduceCtorEq] at hb1 hb2)) | skip)
         all_goals (refine WE ?_))
      | (refine aw_region (id := 5) ?_
         refine WE ?_)
      | (refine aw_region (id := 6) ?_
         refine WO ?_
         first | refine ZS ?_ | (refine G1 rfl ?_; refine al_ef rfl (ef_call0 false (fun _ => outside_a _ _ _) rfl .fn rfl (by decide) (by kernel_rfl) rfl (fun _g => .cons (.c rfl) (.cons (.c rfl) (.cons (.c rfl) .nil))) (by simp)) ?_; rintro _ _ ⟨_, _, _, ⟨b, rfl, rfl, hb1, hb2⟩, hF, hH⟩; (try simp only [nsl, Nat.reduceAdd, Nat.reduceLT, Nat.reduceSub] at hF); (try simp only [nsl, Nat.reduceAdd, Nat.reduceLT, Nat.reduceSub] at hH); subst hF; subst hH; cases b; all_goals (simp only [true_implies, false_implies, reduceCtorEq] at hb1 hb2)) | skip
         all_goals (refine WE ?_))
      | (refine aw_region (id := 7) ?_
         refine WE ?_)
      | (refine aw_region (id := 8) ?_
         iterate 6 refine WX1 ?_
         first | refine ZS ?_ | (refine G1 rfl ?_; by_cases hz : x = 0; all_goals (first | refine al_rd rfl rfl (by decide) (rd_neq_f rfl rfl rfl (by omega)) ?_ | refine al_rd rfl rfl (by decide) (rd_neq_t rfl rfl rfl (by omega)) ?_)) | skip
         all_goals (iterate 3 refine WX1 ?_)
         all_goals (first | refine ZS ?_ | (refine G1 rfl ?_; by_cases hz : y = 0; all_goals (first | refine al_rd rfl rfl (by decide) (rd_neq_f rfl rfl rfl (by omega)) ?_ | refine al_rd rfl rfl (by decide) (rd_neq_t rfl rfl rfl (by omega)) ?_)) | skip)
         all_goals (iterate 9 refine WX1 ?_)
         all_goals (first | refine ZS ?_ | (refine G1 rfl ?_; by_cases hz : f = 0; all_goals (first | refine al_rd rfl rfl (by decide) (rd_neq_f rfl rfl rfl (by omega)) ?_ | refine al_rd rfl rfl (by decide) (rd_neq_t rfl rfl rfl (by omega)) ?_)) | skip)
         all_goals (iterate 9 refine WX1 ?_)
         all_goals (first | refine ZS ?_ | (refine G1 rfl ?_; by_cases hz : z = 0; all_goals (first | refine al_rd rfl rfl (by decide) (rd_neq_f rfl rfl rfl (by omega)) ?_ | refine al_rd rfl rfl (by decide) (rd_neq_t rfl rfl rfl (by omega)) ?_)) | skip)
         all_goals (iterate 9 refine WX1 ?_)
         all_goals (first | refine ZS ?_ | (refine G1 rfl ?_; by_cases hz : n = 0; all_goals (first | refine al_rd rfl rfl (by decide) (rd_neq_f rfl rfl rfl (by omega)) ?_ | refine al_rd rfl rfl (by decide) (rd_neq_t rfl rfl rfl (by omega)) ?_)) | skip)
         all_goals (refine WE ?_))
      | (refine aw_region (id := 9) ?_
         refine WE ?_)
      | (refine aw_region (id := 10) ?_
         refine WE ?_))
    all_goals (refine aret_1 [] _ rfl rfl rfl (by decide) (ZNK rfl) (fun _ => .nil) ⟨?_, rfl⟩)
    all_goals (obtain ⟨f5, f6, f7, f8⟩ := hh.out; clear hh; rw [faultS, if_neg (by simp only; omega)]; simp only)
    all_goals first
      | rw [if_pos (by omega)]
      | rw [if_neg (by omega), if_pos (by omega)]
      | rw [if_neg (by omega), if_neg (by omega), if_pos (by omega)]
      | rw [if_neg (by omega), if_neg (by omega), if_neg (by omega)]
  · obtain rfl : pl = true := f1.2 (by omega)
    obtain rfl : fl = false := Bool.eq_false_iff.2 (fun e => by have := f2.1 e; omega)
    obtain rfl : zz = false := Bool.eq_false_iff.2 (fun e => by have := f3.1 e; omega)
    obtain rfl : nn = false := Bool.eq_false_iff.2 (fun e => by have := f4.1 e; omega)
    clear f1 f2 f3 f4
    repeat' (first
      | (with_reducible refine aw_seq ?_) | (with_reducible refine aseq_n ?_) | (with_reducible refine aseq_r ?_) | (with_reducible refine ablk_n ?_) | (with_reducible refine ablk_r ?_) | (with_reducible refine ablk_e ?_) | (with_reducible refine ablk_o rfl ?_) | (with_reducible refine aseq_e ?_) | (with_reducible refine aw_skip ?_) | (with_reducible refine aw_block ?_) | (with_reducible refine aw_ret ?_) | (with_reducible refine aw_exit ?_)
      | refine aw_cond_t rfl ?_ | refine aw_cond_f rfl ?_ | refine aw_if_t rfl (by assumption) ?_ | refine aw_if_f rfl (by assumption) ?_ | refine aw_if rfl (fun _ => ?_) (fun _ => ?_) | refine aw_cond rfl (fun _ => ?_) (fun _ => ?_)
      | (refine aw_region (id := 4) ?_
         refine WO ?_
         refine al_ef rfl (ef_call0 false (fun _ => isplace_a _) rfl .fn rfl (by decide) (by kernel_rfl) rfl (fun _g => .cons (.c rfl) .nil) (by simp)) ?_
         rintro _ _ ⟨_, _, _, ⟨b, rfl, rfl, hb1, hb2⟩, hF, hH⟩
         (try simp only [nsl, Nat.reduceAdd, Nat.reduceLT, Nat.reduceSub] at hF); (try simp only [nsl, Nat.reduceAdd, Nat.reduceLT, Nat.reduceSub] at hH); subst hF; subst hH
         cases b
         all_goals (simp only [true_implies, false_implies, reduceCtorEq] at hb1 hb2)
         all_goals (refine WO ?_)
         all_goals (first | refine ZS ?_ | (refine G1 rfl ?_; refine al_ef rfl (ef_call0 false (fun _ => isplace_a _) rfl .fn rfl (by decide) (by kernel_rfl) rfl (fun _g => .cons (.c rfl) .nil) (by simp)) ?_; rintro _ _ ⟨_, _, _, ⟨b, rfl, rfl, hb1, hb2⟩, hF, hH⟩; (try simp only [nsl, Nat.reduceAdd, Nat.reduceLT, Nat.reduceSub] at hF); (try simp only [nsl, Nat.reduceAdd, Nat.reduceLT, Nat.reduceSub] at hH); subst hF; subst hH; cases b; all_goals (simp only [true_implies, false_implies, reduceCtorEq] at hb1 hb2)) | skip)
         all_goals (refine WO ?_)
         all_goals (first | refine ZS ?_ | (refine G1 rfl ?_; refine al_ef rfl (ef_call0 false (fun _ => outside_a _ _ _) rfl .fn rfl (by decide) (by kernel_rfl) rfl (fun _g => .cons (.c rfl) (.cons (.c rfl) (.cons (.c rfl) .nil))) (by simp)) ?_; rintro _ _ ⟨_, _, _, ⟨b, rfl, rfl, hb1, hb2⟩, hF, hH⟩; (try simp only [nsl, Nat.reduceAdd, Nat.reduceLT, Nat.reduceSub] at hF); (try simp only [nsl, Nat.reduceAdd, Nat.reduceLT, Nat.reduceSub] at hH); subst hF; subst hH; cases b; all_goals (simp only [true_implies, false_implies, reduceCtorEq] at hb1 hb2)) | skip)
         all_goals (refine WO ?_)
         all_goals (first | refine ZS ?_ | (refine G1 rfl ?_; refine al_ef rfl (ef_call0 false (fun _ => outside_a _ _ _) rfl .fn rfl (by decide) (by kernel_rfl) rfl (fun _g => .cons (.c rfl) (.cons (.c rfl) (.cons (.c rfl) .nil))) (by simp)) ?_; rintro _ _ ⟨_, _, _, ⟨b, rfl, rfl, hb1, hb2⟩, hF, hH⟩; (try simp only [nsl, Nat.reduceAdd, Nat.reduceLT, Nat.reduceSub] at hF); (try simp only [nsl, Nat.reduceAdd, Nat.reduceLT, Nat.reduceSub] at hH); subst hF; subst hH; cases b; all_goals (simp only [true_implies, false_implies, reduceCtorEq] at hb1 hb2)) | skip)
         all_goals (refine WE ?_))
      | (refine aw_region (id := 5) ?_
         refine WE ?_)
      | (refine aw_region (id := 6) ?_
         refine WO ?_
         first | refine ZS ?_ | (refine G1 rfl ?_; refine al_ef rfl (ef_call0 false (fun _ => outside_a _ _ _) rfl .fn rfl (by decide) (by kernel_rfl) rfl (fun _g => .cons (.c rfl) (.cons (.c rfl) (.cons (.c rfl) .nil))) (by simp)) ?_; rintro _ _ ⟨_, _, _, ⟨b, rfl, rfl, hb1, hb2⟩, hF, hH⟩; (try simp only [nsl, Nat.reduceAdd, Nat.reduceLT, Nat.reduceSub] at hF); (try simp only [nsl, Nat.reduceAdd, Nat.reduceLT, Nat.reduceSub] at hH); subst hF; subst hH; cases b; all_goals (simp only [true_implies, false_implies, reduceCtorEq] at hb1 hb2)) | skip
         all_goals (refine WE ?_))
      | (refine aw_region (id := 7) ?_
         refine WE ?_)
      | (refine aw_region (id := 8) ?_
         iterate 6 refine WX1 ?_
         first | refine ZS ?_ | (refine G1 rfl ?_; by_cases hz : x = 0; all_goals (first | refine al_rd rfl rfl (by decide) (rd_neq_f rfl rfl rfl (by omega)) ?_ | refine al_rd rfl rfl (by decide) (rd_neq_t rfl rfl rfl (by omega)) ?_)) | skip
         all_goals (iterate 3 refine WX1 ?_)
         all_goals (first | refine ZS ?_ | (refine G1 rfl ?_; by_cases hz : y = 0; all_goals (first | refine al_rd rfl rfl (by decide) (rd_neq_f rfl rfl rfl (by omega)) ?_ | refine al_rd rfl rfl (by decide) (rd_neq_t rfl rfl rfl (by omega)) ?_)) | skip)
         all_goals (iterate 9 refine WX1 ?_)
         all_goals (first | refine ZS ?_ | (refine G1 rfl ?_; by_cases hz : f = 0; all_goals (first | refine al_rd rfl rfl (by decide) (rd_neq_f rfl rfl rfl (by omega)) ?_ | refine al_rd rfl rfl (by decide) (rd_neq_t rfl rfl rfl (by omega)) ?_)) | skip)
         all_goals (iterate 9 refine WX1 ?_)
         all_goals (first | refine ZS ?_ | (refine G1 rfl ?_; by_cases hz : z = 0; all_goals (first | refine al_rd rfl rfl (by decide) (rd_neq_f rfl rfl rfl (by omega)) ?_ | refine al_rd rfl rfl (by decide) (rd_neq_t rfl rfl rfl (by omega)) ?_)) | skip)
         all_goals (iterate 9 refine WX1 ?_)
         all_goals (first | refine ZS ?_ | (refine G1 rfl ?_; by_cases hz : n = 0; all_goals (first | refine al_rd rfl rfl (by decide) (rd_neq_f rfl rfl rfl (by omega)) ?_ | refine al_rd rfl rfl (by decide) (rd_neq_t rfl rfl rfl (by omega)) ?_)) | skip)
         all_goals (refine WE ?_))
      | (refine aw_region (id := 9) ?_
         refine WE ?_)
      | (refine aw_region (id := 10) ?_
         refine WE ?_))
    all_goals (refine aret_1 [] _ rfl rfl rfl (by decide) (ZNK rfl) (fun _ => .nil) ⟨?_, rfl⟩)
    all_goals (obtain ⟨f5, f6, f7, f8⟩ := hh.out; clear hh; rw [faultS, if_neg (by simp only; omega)]; simp only)
    all_goals first
      | rw [if_pos (by omega)]
      | rw [if_neg (by omega), if_pos (by omega)]
      | rw [if_neg (by omega), if_neg (by omega), if_pos (by omega)]
      | rw [if_neg (by omega), if_neg (by omega), if_neg (by omega)]
  · obtain rfl : pl = true := f1.2 (by omega)
    obtain rfl : fl = true := f2.2 (by omega)
    obtain rfl : zz = false := Bool.eq_false_iff.2 (fun e => by have := f3.1 e; omega)
    obtain rfl : nn = false := Bool.eq_false_iff.2 (fun e => by have := f4.1 e; omega)
    clear f1 f2 f3 f4
    repeat' (first
      | (with_reducible refine aw_seq ?_) | (with_reducible refine aseq_n ?_) | (with_reducible refine aseq_r ?_) | (with_reducible refine ablk_n ?_) | (with_reducible refine ablk_r ?_) | (with_reducible refine ablk_e ?_) | (with_reducible refine ablk_o rfl ?_) | (with_reducible refine aseq_e ?_) | (with_reducible refine aw_skip ?_) | (with_reducible refine aw_block ?_) | (with_reducible refine aw_ret ?_) | (with_reducible refine aw_exit ?_)
      | refine aw_cond_t rfl ?_ | refine aw_cond_f rfl ?_ | refine aw_if_t rfl (by assumption) ?_ | refine aw_if_f rfl (by assumption) ?_ | refine aw_if rfl (fun _ => ?_) (fun _ => ?_) | refine aw_cond rfl (fun _ => ?_) (fun _ => ?_)
      | (refine aw_region (id := 4) ?_
         refine WO ?_
         refine al_ef rfl (ef_call0 false (fun _ => isplace_a _) rfl .fn rfl (by decide) (by kernel_rfl) rfl (fun _g => .cons (.c rfl) .nil) (by simp)) ?_
         rintro _ _ ⟨_, _, _, ⟨b, rfl, rfl, hb1, hb2⟩, hF, hH⟩
         (try simp only [nsl, Nat.reduceAdd, Nat.reduceLT, Nat.reduceSub] at hF); (try simp only [nsl, Nat.reduceAdd, Nat.reduceLT, Nat.reduceSub] at hH); subst hF; subst hH
         cases b
         all_goals (simp only [true_implies, false_implies, reduceCtorEq] at hb1 hb2)
         all_goals (refine WO ?_)
         all_goals (first | refine ZS ?_ | (refine G1 rfl ?_; refine al_ef rfl (ef_call0 false (fun _ => isplace_a _) rfl .fn rfl (by decide) (by kernel_rfl) rfl (fun _g => .cons (.c rfl) .nil) (by simp)) ?_; rintro _ _ ⟨_, _, _, ⟨b, rfl, rfl, hb1, hb2⟩, hF, hH⟩; (try simp only [nsl, Nat.reduceAdd, Nat.reduceLT, Nat.reduceSub] at hF); (try simp only [nsl, Nat.reduceAdd, Nat.reduceLT, Nat.reduceSub] at hH); subst hF; subst hH; cases b; all_goals (simp only [true_implies, false_implies, reduceCtorEq] at hb1 hb2)) | skip)
         all_goals (refine WO ?_)
         all_goals (first | refine ZS ?_ | (refine G1 rfl ?_; refine al_ef rfl (ef_call0 false (fun _ => outside_a _ _ _) rfl .fn rfl (by decide) (by kernel_rfl) rfl (fun _g => .cons (.c rfl) (.cons (.c rfl) (.cons (.c rfl) .nil))) (by simp)) ?_; rintro _ _ ⟨_, _, _, ⟨b, rfl, rfl, hb1, hb2⟩, hF, hH⟩; (try simp only [nsl, Nat.reduceAdd, Nat.reduceLT, Nat.reduceSub] at hF); (try simp only [nsl, Nat.reduceAdd, Nat.reduceLT, Nat.reduceSub] at hH); subst hF; subst hH; cases b; all_goals (simp only [true_implies, false_implies, reduceCtorEq] at hb1 hb2)) | skip)
         all_goals (refine WO ?_)
         all_goals (first | refine ZS ?_ | (refine G1 rfl ?_; refine al_ef rfl (ef_call0 false (fun _ => outside_a _ _ _) rfl .fn rfl (by decide) (by kernel_rfl) rfl (fun _g => .cons (.c rfl) (.cons (.c rfl) (.cons (.c rfl) .nil))) (by simp)) ?_; rintro _ _ ⟨_, _, _, ⟨b, rfl, rfl, hb1, hb2⟩, hF, hH⟩; (try simp only [nsl, Nat.reduceAdd, Nat.reduceLT, Nat.reduceSub] at hF); (try simp only [nsl, Nat.reduceAdd, Nat.reduceLT, Nat.reduceSub] at hH); subst hF; subst hH; cases b; all_goals (simp only [true_implies, false_implies, reduceCtorEq] at hb1 hb2)) | skip)
         all_goals (refine WE ?_))
      | (refine aw_region (id := 5) ?_
         refine WE ?_)
      | (refine aw_region (id := 6) ?_
         refine WO ?_
         first | refine ZS ?_ | (refine G1 rfl ?_; refine al_ef rfl (ef_call0 false (fun _ => outside_a _ _ _) rfl .fn rfl (by decide) (by kernel_rfl) rfl (fun _g => .cons (.c rfl) (.cons (.c rfl) (.cons (.c rfl) .nil))) (by simp)) ?_; rintro _ _ ⟨_, _, _, ⟨b, rfl, rfl, hb1, hb2⟩, hF, hH⟩; (try simp only [nsl, Nat.reduceAdd, Nat.reduceLT, Nat.reduceSub] at hF); (try simp only [nsl, Nat.reduceAdd, Nat.reduceLT, Nat.reduceSub] at hH); subst hF; subst hH; cases b; all_goals (simp only [true_implies, false_implies, reduceCtorEq] at hb1 hb2)) | skip
         all_goals (refine WE ?_))
      | (refine aw_region (id := 7) ?_
         refine WE ?_)
      | (refine aw_region (id := 8) ?_
         iterate 6 refine WX1 ?_
         first | refine ZS ?_ | (refine G1 rfl ?_; by_cases hz : x = 0; all_goals (first | refine al_rd rfl rfl (by decide) (rd_neq_f rfl rfl rfl (by omega)) ?_ | refine al_rd rfl rfl (by decide) (rd_neq_t rfl rfl rfl (by omega)) ?_)) | skip
         all_goals (iterate 3 refine WX1 ?_)
         all_goals (first | refine ZS ?_ | (refine G1 rfl ?_; by_cases hz : y = 0; all_goals (first | refine al_rd rfl rfl (by decide) (rd_neq_f rfl rfl rfl (by omega)) ?_ | refine al_rd rfl rfl (by decide) (rd_neq_t rfl rfl rfl (by omega)) ?_)) | skip)
         all_goals (iterate 9 refine WX1 ?_)
         all_goals (first | refine ZS ?_ | (refine G1 rfl ?_; by_cases hz : f = 0; all_goals (first | refine al_rd rfl rfl (by decide) (rd_neq_f rfl rfl rfl (by omega)) ?_ | refine al_rd rfl rfl (by decide) (rd_neq_t rfl rfl rfl (by omega)) ?_)) | skip)
         all_goals (iterate 9 refine WX1 ?_)
         all_goals (first | refine ZS ?_ | (refine G1 rfl ?_; by_cases hz : z = 0; all_goals (first | refine al_rd rfl rfl (by decide) (rd_neq_f rfl rfl rfl (by omega)) ?_ | refine al_rd rfl rfl (by decide) (rd_neq_t rfl rfl rfl (by omega)) ?_)) | skip)
         all_goals (iterate 9 refine WX1 ?_)
         all_goals (first | refine ZS ?_ | (refine G1 rfl ?_; by_cases hz : n = 0; all_goals (first | refine al_rd rfl rfl (by decide) (rd_neq_f rfl rfl rfl (by omega)) ?_ | refine al_rd rfl rfl (by decide) (rd_neq_t rfl rfl rfl (by omega)) ?_)) | skip)
         all_goals (refine WE ?_))
      | (refine aw_region (id := 9) ?_
         refine WE ?_)
      | (refine aw_region (id := 10) ?_
         refine WE ?_))
    all_goals (refine aret_1 [] _ rfl rfl rfl (by decide) (ZNK rfl) (fun _ => .nil) ⟨?_, rfl⟩)
    all_goals (obtain ⟨f5, f6, f7, f8⟩ := hh.out; clear hh; rw [faultS, if_neg (by simp only; omega)]; simp only)
    all_goals first
      | rw [if_pos (by omega)]
      | rw [if_neg (by omega), if_pos (by omega)]
      | rw [if_neg (by omega), if_neg (by omega), if_pos (by omega)]
      | rw [if_neg (by omega), if_neg (by omega), if_neg (by omega)]
  · obtain rfl : pl = false := Bool.eq_false_iff.2 (fun e => by have := f1.1 e; omega)
    obtain rfl : fl = false := Bool.eq_false_iff.2 (fun e => by have := f2.1 e; omega)
    obtain rfl : zz = true := f3.2 (by omega)
    obtain rfl : nn = false := Bool.eq_false_iff.2 (fun e => by have := f4.1 e; omega)
    clear f1 f2 f3 f4
    repeat' (first
      | (with_reducible refine aw_seq ?_) | (with_reducible refine aseq_n ?_) | (with_reducible refine aseq_r ?_) | (with_reducible refine ablk_n ?_) | (with_reducible refine ablk_r ?_) | (with_reducible refine ablk_e ?_) | (with_reducible refine ablk_o rfl ?_) | (with_reducible refine aseq_e ?_) | (with_reducible refine aw_skip ?_) | (with_reducible refine aw_block ?_) | (with_reducible refine aw_ret ?_) | (with_reducible refine aw_exit ?_)
      | refine aw_cond_t rfl ?_ | refine aw_cond_f rfl ?_ | refine aw_if_t rfl (by assumption) ?_ | refine aw_if_f rfl (by assumption) ?_ | refine aw_if rfl (fun _ => ?_) (fun _ => ?_) | refine aw_cond rfl (fun _ => ?_) (fun _ => ?_)
      | (refine aw_region (id := 4) ?_
         refine WO ?_
         refine al_ef rfl (ef_call0 false (fun _ => isplace_a _) rfl .fn rfl (by decide) (by kernel_rfl) rfl (fun _g => .cons (.c rfl) .nil) (by simp)) ?_
         rintro _ _ ⟨_, _, _, ⟨b, rfl, rfl, hb1, hb2⟩, hF, hH⟩
         (try simp only [nsl, Nat.reduceAdd, Nat.reduceLT, Nat.reduceSub] at hF); (try simp only [nsl, Nat.reduceAdd, Nat.reduceLT, Nat.reduceSub] at hH); subst hF; subst hH
         cases b
         all_goals (simp only [true_implies, false_implies, reduceCtorEq] at hb1 hb2)
         all_goals (refine WO ?_)
         all_goals (first | refine ZS ?_ | (refine G1 rfl ?_; refine al_ef rfl (ef_call0 false (fun _ => isplace_a _) rfl .fn rfl (by decide) (by kernel_rfl) rfl (fun _g => .cons (.c rfl) .nil) (by simp)) ?_; rintro _ _ ⟨_, _, _, ⟨b, rfl, rfl, hb1, hb2⟩, hF, hH⟩; (try simp only [nsl, Nat.reduceAdd, Nat.reduceLT, Nat.reduceSub] at hF); (try simp only [nsl, Nat.reduceAdd, Nat.reduceLT, Nat.reduceSub] at hH); subst hF; subst hH; cases b; all_goals (simp only [true_implies, false_implies, reduceCtorEq] at hb1 hb2)) | skip)
         all_goals (refine WO ?_)
         all_goals (first | refine ZS ?_ | (refine G1 rfl ?_; refine al_ef rfl (ef_call0 false (fun _ => outside_a _ _ _) rfl .fn rfl (by decide) (by kernel_rfl) rfl (fun _g => .cons (.c rfl) (.cons (.c rfl) (.cons (.c rfl) .nil))) (by simp)) ?_; rintro _ _ ⟨_, _, _, ⟨b, rfl, rfl, hb1, hb2⟩, hF, hH⟩; (try simp only [nsl, Nat.reduceAdd, Nat.reduceLT, Nat.reduceSub] at hF); (try simp only [nsl, Nat.reduceAdd, Nat.reduceLT, Nat.reduceSub] at hH); subst hF; subst hH; cases b; all_goals (simp only [true_implies, false_implies, reduceCtorEq] at hb1 hb2)) | skip)
         all_goals (refine WO ?_)
         all_goals (first | refine ZS ?_ | (refine G1 rfl ?_; refine al_ef rfl (ef_call0 false (fun _ => outside_a _ _ _) rfl .fn rfl (by decide) (by kernel_rfl) rfl (fun _g => .cons (.c rfl) (.cons (.c rfl) (.cons (.c rfl) .nil))) (by simp)) ?_; rintro _ _ ⟨_, _, _, ⟨b, rfl, rfl, hb1, hb2⟩, hF, hH⟩; (try simp only [nsl, Nat.reduceAdd, Nat.reduceLT, Nat.reduceSub] at hF); (try simp only [nsl, Nat.reduceAdd, Nat.reduceLT, Nat.reduceSub] at hH); subst hF; subst hH; cases b; all_goals (simp only [true_implies, false_implies, reduceCtorEq] at hb1 hb2)) | skip)
         all_goals (refine WE ?_))
      | (refine aw_region (id := 5) ?_
         refine WE ?_)
      | (refine aw_region (id := 6) ?_
         refine WO ?_
         first | refine ZS ?_ | (refine G1 rfl ?_; refine al_ef rfl (ef_call0 false (fun _ => outside_a _ _ _) rfl .fn rfl (by decide) (by kernel_rfl) rfl (fun _g => .cons (.c rfl) (.cons (.c rfl) (.cons (.c rfl) .nil))) (by simp)) ?_; rintro _ _ ⟨_, _, _, ⟨b, rfl, rfl, hb1, hb2⟩, hF, hH⟩; (try simp only [nsl, Nat.reduceAdd, Nat.reduceLT, Nat.reduceSub] at hF); (try simp only [nsl, Nat.reduceAdd, Nat.reduceLT, Nat.reduceSub] at hH); subst hF; subst hH; cases b; all_goals (simp only [true_implies, false_implies, reduceCtorEq] at hb1 hb2)) | skip
         all_goals (refine WE ?_))
      | (refine aw_region (id := 7) ?_
         refine WE ?_)
      | (refine aw_region (id := 8) ?_
         iterate 6 refine WX1 ?_
         first | refine ZS ?_ | (refine G1 rfl ?_; by_cases hz : x = 0; all_goals (first | refine al_rd rfl rfl (by decide) (rd_neq_f rfl rfl rfl (by omega)) ?_ | refine al_rd rfl rfl (by decide) (rd_neq_t rfl rfl rfl (by omega)) ?_)) | skip
         all_goals (iterate 3 refine WX1 ?_)
         all_goals (first | refine ZS ?_ | (refine G1 rfl ?_; by_cases hz : y = 0; all_goals (first | refine al_rd rfl rfl (by decide) (rd_neq_f rfl rfl rfl (by omega)) ?_ | refine al_rd rfl rfl (by decide) (rd_neq_t rfl rfl rfl (by omega)) ?_)) | skip)
         all_goals (iterate 9 refine WX1 ?_)
         all_goals (first | refine ZS ?_ | (refine G1 rfl ?_; by_cases hz : f = 0; all_goals (first | refine al_rd rfl rfl (by decide) (rd_neq_f rfl rfl rfl (by omega)) ?_ | refine al_rd rfl rfl (by decide) (rd_neq_t rfl rfl rfl (by omega)) ?_)) | skip)
         all_goals (iterate 9 refine WX1 ?_)
         all_goals (first | refine ZS ?_ | (refine G1 rfl ?_; by_cases hz : z = 0; all_goals (first | refine al_rd rfl rfl (by decide) (rd_neq_f rfl rfl rfl (by omega)) ?_ | refine al_rd rfl rfl (by decide) (rd_neq_t rfl rfl rfl (by omega)) ?_)) | skip)
         all_goals (iterate 9 refine WX1 ?_)
         all_goals (first | refine ZS ?_ | (refine G1 rfl ?_; by_cases hz : n = 0; all_goals (first | refine al_rd rfl rfl (by decide) (rd_neq_f rfl rfl rfl (by omega)) ?_ | refine al_rd rfl rfl (by decide) (rd_neq_t rfl rfl rfl (by omega)) ?_)) | skip)
         all_goals (refine WE ?_))
      | (refine aw_region (id := 9) ?_
         refine WE ?_)
      | (refine aw_region (id := 10) ?_
         refine WE ?_))
    all_goals (refine aret_1 [] _ rfl rfl rfl (by decide) (ZNK rfl) (fun _ => .nil) ⟨?_, rfl⟩)
    all_goals (obtain ⟨f5, f6, f7, f8⟩ := hh.out; clear hh; rw [faultS, if_neg (by simp only; omega)]; simp only)
    all_goals first
      | rw [if_pos (by omega)]
      | rw [if_neg (by omega), if_pos (by omega)]
      | rw [if_neg (by omega), if_neg (by omega), if_pos (by omega)]
      | rw [if_neg (by omega), if_neg (by omega), if_neg (by omega)]
  · obtain rfl : pl = false := Bool.eq_false_iff.2 (fun e => by have := f1.1 e; omega)
    obtain rfl : fl = false := Bool.eq_false_iff.2 (fun e => by have := f2.1 e; omega)
    obtain rfl : zz = false := Bool.eq_false_iff.2 (fun e => by have := f3.1 e; omega)
    obtain rfl : nn = true := f4.2 (by omega)
    clear f1 f2 f3 f4
    repeat' (first
      | (with_reducible refine aw_seq ?_) | (with_reducible refine aseq_n ?_) | (with_reducible refine aseq_r ?_) | (with_reducible refine ablk_n ?_) | (with_reducible refine ablk_r ?_) | (with_reducible refine ablk_e ?_) | (with_reducible refine ablk_o rfl ?_) | (with_reducible refine aseq_e ?_) | (with_reducible refine aw_skip ?_) | (with_reducible refine aw_block ?_) | (with_reducible refine aw_ret ?_) | (with_reducible refine aw_exit ?_)
      | refine aw_cond_t rfl ?_ | refine aw_cond_f rfl ?_ | refine aw_if_t rfl (by assumption) ?_ | refine aw_if_f rfl (by assumption) ?_ | refine aw_if rfl (fun _ => ?_) (fun _ => ?_) | refine aw_cond rfl (fun _ => ?_) (fun _ => ?_)
      | (refine aw_region (id := 4) ?_
         refine WO ?_
         refine al_ef rfl (ef_call0 false (fun _ => isplace_a _) rfl .fn rfl (by decide) (by kernel_rfl) rfl (fun _g => .cons (.c rfl) .nil) (by simp)) ?_
         rintro _ _ ⟨_, _, _, ⟨b, rfl, rfl, hb1, hb2⟩, hF, hH⟩
         (try simp only [nsl, Nat.reduceAdd, Nat.reduceLT, Nat.reduceSub] at hF); (try simp only [nsl, Nat.reduceAdd, Nat.reduceLT, Nat.reduceSub] at hH); subst hF; subst hH
         cases b
         all_goals (simp only [true_implies, false_implies, reduceCtorEq] at hb1 hb2)
         all_goals (refine WO ?_)
         all_goals (first | refine ZS ?_ | (refine G1 rfl ?_; refine al_ef rfl (ef_call0 false (fun _ => isplace_a _) rfl .fn rfl (by decide) (by kernel_rfl) rfl (fun _g => .cons (.c rfl) .nil) (by simp)) ?_; rintro _ _ ⟨_, _, _, ⟨b, rfl, rfl, hb1, hb2⟩, hF, hH⟩; (try simp only [nsl, Nat.reduceAdd, Nat.reduceLT, Nat.reduceSub] at hF); (try simp only [nsl, Nat.reduceAdd, Nat.reduceLT, Nat.reduceSub] at hH); subst hF; subst hH; cases b; all_goals (simp only [true_implies, false_implies, reduceCtorEq] at hb1 hb2)) | skip)
         all_goals (refine WO ?_)
         all_goals (first | refine ZS ?_ | (refine G1 rfl ?_; refine al_ef rfl (ef_call0 false (fun _ => outside_a _ _ _) rfl .fn rfl (by decide) (by kernel_rfl) rfl (fun _g => .cons (.c rfl) (.cons (.c rfl) (.cons (.c rfl) .nil))) (by simp)) ?_; rintro _ _ ⟨_, _, _, ⟨b, rfl, rfl, hb1, hb2⟩, hF, hH⟩; (try simp only [nsl, Nat.reduceAdd, Nat.reduceLT, Nat.reduceSub] at hF); (try simp only [nsl, Nat.reduceAdd, Nat.reduceLT, Nat.reduceSub] at hH); subst hF; subst hH; cases b; all_goals (simp only [true_implies, false_implies, reduceCtorEq] at hb1 hb2)) | skip)
         all_goals (refine WO ?_)
         all_goals (first | refine ZS ?_ | (refine G1 rfl ?_; refine al_ef rfl (ef_call0 false (fun _ => outside_a _ _ _) rfl .fn rfl (by decide) (by kernel_rfl) rfl (fun _g => .cons (.c rfl) (.cons (.c rfl) (.cons (.c rfl) .nil))) (by simp)) ?_; rintro _ _ ⟨_, _, _, ⟨b, rfl, rfl, hb1, hb2⟩, hF, hH⟩; (try simp only [nsl, Nat.reduceAdd, Nat.reduceLT, Nat.reduceSub] at hF); (try simp only [nsl, Nat.reduceAdd, Nat.reduceLT, Nat.reduceSub] at hH); subst hF; subst hH; cases b; all_goals (simp only [true_implies, false_implies, reduceCtorEq] at hb1 hb2)) | skip)
         all_goals (refine WE ?_))
      | (refine aw_region (id := 5) ?_
         refine WE ?_)
      | (refine aw_region (id := 6) ?_
         refine WO ?_
         first | refine ZS ?_ | (refine G1 rfl ?_; refine al_ef rfl (ef_call0 false (fun _ => outside_a _ _ _) rfl .fn rfl (by decide) (by kernel_rfl) rfl (fun _g => .cons (.c rfl) (.cons (.c rfl) (.cons (.c rfl) .nil))) (by simp)) ?_; rintro _ _ ⟨_, _, _, ⟨b, rfl, rfl, hb1, hb2⟩, hF, hH⟩; (try simp only [nsl, Nat.reduceAdd, Nat.reduceLT, Nat.reduceSub] at hF); (try simp only [nsl, Nat.reduceAdd, Nat.reduceLT, Nat.reduceSub] at hH); subst hF; subst hH; cases b; all_goals (simp only [true_implies, false_implies, reduceCtorEq] at hb1 hb2)) | skip
         all_goals (refine WE ?_))
      | (refine aw_region (id := 7) ?_
         refine WE ?_)
      | (refine aw_region (id := 8) ?_
         iterate 6 refine WX1 ?_
         first | refine ZS ?_ | (refine G1 rfl ?_; by_cases hz : x = 0; all_goals (first | refine al_rd rfl rfl (by decide) (rd_neq_f rfl rfl rfl (by omega)) ?_ | refine al_rd rfl rfl (by decide) (rd_neq_t rfl rfl rfl (by omega)) ?_)) | skip
         all_goals (iterate 3 refine WX1 ?_)
         all_goals (first | refine ZS ?_ | (refine G1 rfl ?_; by_cases hz : y = 0; all_goals (first | refine al_rd rfl rfl (by decide) (rd_neq_f rfl rfl rfl (by omega)) ?_ | refine al_rd rfl rfl (by decide) (rd_neq_t rfl rfl rfl (by omega)) ?_)) | skip)
         all_goals (iterate 9 refine WX1 ?_)
         all_goals (first | refine ZS ?_ | (refine G1 rfl ?_; by_cases hz : f = 0; all_goals (first | refine al_rd rfl rfl (by decide) (rd_neq_f rfl rfl rfl (by omega)) ?_ | refine al_rd rfl rfl (by decide) (rd_neq_t rfl rfl rfl (by omega)) ?_)) | skip)
         all_goals (iterate 9 refine WX1 ?_)
         all_goals (first | refine ZS ?_ | (refine G1 rfl ?_; by_cases hz : z = 0; all_goals (first | refine al_rd rfl rfl (by decide) (rd_neq_f rfl rfl rfl (by omega)) ?_ | refine al_rd rfl rfl (by decide) (rd_neq_t rfl rfl rfl (by omega)) ?_)) | skip)
         all_goals (iterate 9 refine WX1 ?_)
         all_goals (first | refine ZS ?_ | (refine G1 rfl ?_; by_cases hz : n = 0; all_goals (first | refine al_rd rfl rfl (by decide) (rd_neq_f rfl rfl rfl (by omega)) ?_ | refine al_rd rfl rfl (by decide) (rd_neq_t rfl rfl rfl (by omega)) ?_)) | skip)
         all_goals (refine WE ?_))
      | (refine aw_region (id := 9) ?_
         refine WE ?_)
      | (refine aw_region (id := 10) ?_
         refine WE ?_))
    all_goals (refine aret_1 [] _ rfl rfl rfl (by decide) (ZNK rfl) (fun _ => .nil) ⟨?_, rfl⟩)
    all_goals (obtain ⟨f5, f6, f7, f8⟩ := hh.out; clear hh; rw [faultS, if_neg (by simp only; omega)]; simp only)
    all_goals first
      | rw [if_pos (by omega)]
      | rw [if_neg (by omega), if_pos (by omega)]
      | rw [if_neg (by omega), if_neg (by omega), if_pos (by omega)]
      | rw [if_neg (by omega), if_neg (by omega), if_neg (by omega)]
end Go.Proofs.YtdmeohgojdfmoaaGreat
