/- slices.Insert of legs and of numbers, by value. -/
import Derived.Test.YtdmeohgojdfmoaaGreatDoorKs
set_option linter.unusedSimpArgs false
set_option linter.unusedVariables false
namespace Go.Proofs.YtdmeohgojdfmoaaGreatDoor
open Go Go.RowKit
set_option maxRecDepth 100000
theorem insL_a (y : List CV) (R : List (List CV)) (i c : Nat) (hi : i ≤ R.length) (hc : R.length ≤ c) (hl : R.length ≤ 1000000) : ACalls Tryz.prog 98 [.o 0 0 R.length c, .c (I i), .o 1 0 1 1] [.arr 38 2 c R, .arr 38 2 1 [y]] fun u H =>
    (∃ c2, u = .o 0 0 (R.length + 1) c2 ∧ H = [.arr 38 2 c2 (R.take i ++ y :: R.drop i), .arr 38 2 1 [y]]) ∨ ∃ c2, u = .o 2 0 (R.length + 1) c2 ∧ H = [.arr 38 2 c R, .arr 38 2 1 [y], .arr 38 2 c2 (R.take i ++ y :: R.drop i)] := by
  refine acallsx_of false (N := 95) Tryz.func98 rfl rfl (by simp) fun E hE hP => ?_
  rcases Nat.lt_or_ge i R.length with hin | hin
  · refine WA ?_
    refine ZR ?_
    iterate 2 refine WX1 ?_
    refine ZA (rd_slice (l := i) rfl (KE (t := 26) rfl) rfl rfl (.inr ⟨_, _, _, rfl, rfl, rfl⟩) (.inl ⟨rfl, rfl⟩) (by omega) (by omega) (by omega)) ?_
    refine WE ?_
    refine WA ?_
    refine WA ?_
    refine aw_cond_f rfl ?_
    refine ZZ ?_
    refine WA ?_
    refine WA ?_
    refine aw_cond_f rfl ?_
    refine ZZ ?_
    by_cases hcap : c < R.length + 1
    · refine WA ?_
      refine aw_cond_t rfl ?_
      refine ZR ?_
      iterate 2 refine WX1 ?_
      refine ZA (rd_slice (l := 0) (h := i) rfl (KE (t := 26) rfl) rfl rfl (.inl ⟨rfl, rfl⟩) (.inr ⟨_, _, _, rfl, rfl, rfl⟩) (by omega) (by omega) (by omega)) ?_
      refine WO ?_
      refine al_ef rfl (ef_appzo (n := R.length + 1 - i) rfl rfl (by decide) (KA (t := 26) rfl) Tryz.underlying3 rfl rfl (by omega) rfl (by omega) (by omega) (by omega) (by omega) (KZ (t := 38) rfl) rfl rfl) ?_
      rintro _ _ ⟨c2, hc2, rfl, rfl⟩
      refine WE ?_
      refine aw_wk (wk_of (K := fun F H => F = [(0, .o 0 0 R.length c), (1, .c (I i)), (2, .o 1 0 1 1), (7, .c (I (1 : Nat))), (9, .o 2 0 (i + (R.length + 1 - i)) c2)] ∧ H = [.arr 38 2 c R, .arr 38 2 1 [y], .arr 38 2 c2 (R.take i ++ List.replicate (R.length + 1 - i) [I 0, I 0])]) [some 0, some 1, some 2] (fun _ => [(0, .o 0 0 R.length c), (1, .c (I i)), (2, .o 1 0 1 1), (7, .c (I (1 : Nat))), (9, .o 2 0 (i + (R.length + 1 - i)) c2)]) (fun _ => [.arr 38 2 c R, .arr 38 2 1 [y], .arr 38 2 c2 (R.take i ++ List.replicate (R.length + 1 - i) [I 0, I 0])]) (by decide) (ZNL hE) ZCF ZCH (fun _ => ⟨rfl, rfl⟩)) ?_
      rintro F H ⟨rfl, rfl⟩
      refine ZR ?_
      iterate 2 refine WX1 ?_
      refine ZA (rd_slice (l := i) rfl (KE (t := 26) rfl) rfl rfl (.inr ⟨_, _, _, rfl, rfl, rfl⟩) (.inl ⟨rfl, rfl⟩) (by omega) (by omega) (by omega)) ?_
      refine WX1 ?_
      refine al_ef rfl (ef_copyo (news := [y]) rfl rfl (by decide) (KA (t := 26) rfl) rfl rfl (by first | (simp; omega) | simp) rfl rfl (by rw [Nat.min_eq_left (by omega)]; rfl) (by rw [Nat.min_eq_left (by omega)]; rfl) (ins_1 hin)) ?_
      rintro _ _ ⟨hF, hH⟩
      simp only [List.set_cons_zero, List.set_cons_succ, List.cons_append, List.nil_append] at hH
      subst hF; subst hH
      refine WE ?_
      refine ZZ ?_
      refine aw_regionT [(0, none), (1, none), (2, none), (3, none), (4, none), (5, none), (6, none), (7, none), (8, some [])] hMixed (by kernel_rfl) ?_
      iterate 4 refine WX2 ?_
      refine ZT rfl (rd_slice (l := (i + 1)) rfl (KE (t := 26) rfl) rfl rfl (.inr ⟨_, _, _, rfl, rfl, rfl⟩) (.inl ⟨rfl, rfl⟩) (by omega) (by omega) (by omega)) ?_
      iterate 2 refine WX2 ?_
      refine ZT rfl (rd_slice (l := i) rfl (KE (t := 26) rfl) rfl rfl (.inr ⟨_, _, _, rfl, rfl, rfl⟩) (.inl ⟨rfl, rfl⟩) (by omega) (by omega) (by omega)) ?_
      refine at_ef rfl rfl (ef_copyo (news := (R.drop i)) rfl rfl (by decide) (KA (t := 26) rfl) rfl rfl (by first | (simp; omega) | simp) rfl rfl (by rw [Nat.zero_add, List.take_of_length_le (by simp; omega)]) (by simp; omega) (ins_2 hin)) ?_
      rintro _ _ ⟨hF, hH⟩
      simp only [List.set_cons_zero, List.set_cons_succ, List.cons_append, List.nil_append] at hH
      subst hF; subst hH
      refine ⟨ag_none, ?_⟩
      refine WQ ?_
      refine WA ?_
      refine aret_o [some 0, some 1, some 2] (fun _ => [.arr 38 2 c R, .arr 38 2 1 [y], .arr 38 2 c2 (R.take i ++ y :: R.drop i)]) rfl rfl rfl (by omega) rfl (by decide) (ZNK rfl) ZCH (fun _ => .inr ⟨c2, rfl, rfl⟩)
    · refine WA ?_
      refine aw_cond_f rfl ?_
      refine ZZ ?_
      refine ZR ?_
      iterate 4 refine WX1 ?_
      refine ZA (rd_slicex (l := 0) (h := R.length + 1) rfl (KE (t := 26) rfl) rfl rfl (.inl ⟨rfl, rfl⟩) (.inr ⟨_, _, _, rfl, rfl, by omega⟩) (by omega) (by omega) (by omega)) ?_
      refine WE ?_
      refine aw_wk (wk_of (K := fun F H => F = [(0, .o 0 0 (R.length + 1) c), (1, .c (I i)), (2, .o 1 0 1 1), (7, .c (I (1 : Nat)))] ∧ H = [.arr 38 2 c R, .arr 38 2 1 [y]]) [some 0, some 1] (fun _ => [(0, .o 0 0 (R.length + 1) c), (1, .c (I i)), (2, .o 1 0 1 1), (7, .c (I (1 : Nat)))]) (fun _ => [.arr 38 2 c R, .arr 38 2 1 [y]]) (by decide) (ZNL hE) ZCF ZCH (fun _ => ⟨rfl, rfl⟩)) ?_
      rintro F H ⟨rfl, rfl⟩
      refine ZR ?_
      iterate 5 refine WX1 ?_
      refine ZA (rd_slice (l := (i + 1)) rfl (KE (t := 26) rfl) rfl rfl (.inr ⟨_, _, _, rfl, rfl, rfl⟩) (.inl ⟨rfl, rfl⟩) (by omega) (by omega) (by omega)) ?_
      refine ZA (rd_overlaps (tr := 4) rfl Tryz.func139 (by kernel_rfl) (by kernel_rfl) (by kernel_rfl) (by kernel_rfl) (KA (t := 26) rfl) rfl rfl rfl rfl (by decide) (by omega) (by omega)) ?_
      refine WE ?_
      refine aw_cond_t rfl ?_
      refine ZZ ?_
      refine aw_regionT [(0, none), (1, none), (2, none), (3, none), (4, none), (5, none), (6, none), (7, none), (8, some [])] hMixed (by kernel_rfl) ?_
      iterate 4 refine WX2 ?_
      refine ZT rfl (rd_slice (l := (i + 1)) rfl (KE (t := 26) rfl) rfl rfl (.inr ⟨_, _, _, rfl, rfl, rfl⟩) (.inl ⟨rfl, rfl⟩) (by omega) (by omega) (by omega)) ?_
      iterate 2 refine WX2 ?_
      refine ZT rfl (rd_slice (l := i) rfl (KE (t := 26) rfl) rfl rfl (.inr ⟨_, _, _, rfl, rfl, rfl⟩) (.inl ⟨rfl, rfl⟩) (by omega) (by omega) (by omega)) ?_
      refine at_ef rfl rfl (ef_copyo (news := (R.drop i)) rfl rfl (by decide) (KA (t := 26) rfl) rfl rfl (by first | (simp; omega) | simp) rfl rfl (by rw [Nat.zero_add, List.take_of_length_le (by simp; omega)]) (by simp; omega) (ins_3 hin)) ?_
      rintro _ _ ⟨hF, hH⟩
      simp only [List.set_cons_zero, List.set_cons_succ, List.cons_append, List.nil_append] at hH
      subst hF; subst hH
      refine ⟨ag_none, ?_⟩
      refine WQ ?_
      refine ZR ?_
      iterate 2 refine WX1 ?_
      refine ZA (rd_slice (l := i) rfl (KE (t := 26) rfl) rfl rfl (.inr ⟨_, _, _, rfl, rfl, rfl⟩) (.inl ⟨rfl, rfl⟩) (by omega) (by omega) (by omega)) ?_
      refine WX1 ?_
      refine al_ef rfl (ef_copyo (news := [y]) rfl rfl (by decide) (KA (t := 26) rfl) rfl rfl (by first | (simp; omega) | simp) rfl rfl (by rw [Nat.min_eq_left (by omega)]; rfl) (by rw [Nat.min_eq_left (by omega)]; rfl) (ins_4 hin)) ?_
      rintro _ _ ⟨hF, hH⟩
      simp only [List.set_cons_zero, List.set_cons_succ, List.cons_append, List.nil_append] at hH
      subst hF; subst hH
      refine WE ?_
      refine WA ?_
      exact aret_o [some 0, some 1] (fun _ => [.arr 38 2 c (R.take i ++ y :: R.drop i), .arr 38 2 1 [y]]) rfl rfl rfl rfl rfl (by decide) (ZNK rfl) ZCH (fun _ => .inl ⟨c, rfl, rfl⟩)
  · obtain rfl : i = R.length := by omega
    rcases Nat.lt_or_ge R.length c with hlc | hlc
    · refine WA ?_
      refine ZR ?_
      iterate 2 refine WX1 ?_
      refine ZA (rd_slice (l := R.length) rfl (KE (t := 26) rfl) rfl rfl (.inr ⟨_, _, _, rfl, rfl, rfl⟩) (.inl ⟨rfl, rfl⟩) (by omega) (by omega) (by omega)) ?_
      refine WE ?_
      refine WA ?_
      refine WA ?_
      refine aw_cond_f rfl ?_
      refine ZZ ?_
      refine WA ?_
      refine WA ?_
      refine aw_cond_t rfl ?_
      refine WR ?_
      refine al_ef rfl (Zapp (KA (t := 26) rfl)) ?_
      rintro _ _ ⟨_, cc, hcc, rfl, rfl⟩
      refine WE ?_
      exact aret_o [some 0, some 1] (fun _ => [.arr 38 2 cc (R.take R.length ++ y :: R.drop R.length), .arr 38 2 1 [y]]) rfl rfl rfl rfl rfl (by decide) (ZNK rfl) (fun _ => .arr rfl (by simp) (.arr rfl rfl .nil)) (fun _ => .inl ⟨cc, rfl, rfl⟩)
    · refine WA ?_
      refine ZR ?_
      iterate 2 refine WX1 ?_
      refine ZA (rd_slicee (l := R.length) (h := R.length) rfl (KE (t := 26) rfl) rfl rfl (.inr ⟨_, _, _, rfl, rfl, rfl⟩) (.inl ⟨rfl, rfl⟩) (by omega) (by omega)) ?_
      refine WE ?_
      refine WA ?_
      refine WA ?_
      refine aw_cond_f rfl ?_
      refine ZZ ?_
      refine WA ?_
      refine WA ?_
      refine aw_cond_t rfl ?_
      refine WR ?_
      refine al_ef rfl (Zapp (KA (t := 26) rfl)) ?_
      rintro _ _ ⟨_, cc, hcc, rfl, rfl⟩
      refine WE ?_
      exact aret_o [some 0, some 1] (fun _ => [.arr 38 2 cc (R.take R.length ++ y :: R.drop R.length), .arr 38 2 1 [y]]) rfl rfl rfl rfl rfl (by decide) (ZNK rfl) (fun _ => .arr rfl (by simp) (.arr rfl rfl .nil)) (fun _ => .inl ⟨cc, rfl, rfl⟩)
theorem insI_a (y : List CV) (R : List (List CV)) (i c : Nat) (hi : i ≤ R.length) (hc : R.length ≤ c) (hl : R.length ≤ 1000000) : ACalls Tryz.prog 99 [.o 0 0 R.length c, .c (I i), .o 1 0 1 1] [.arr 3 1 c R, .arr 3 1 1 [y]] fun u H =>
    (∃ c2, u = .o 0 0 (R.length + 1) c2 ∧ H = [.arr 3 1 c2 (R.take i ++ y :: R.drop i), .arr 3 1 1 [y]]) ∨ ∃ c2, u = .o 2 0 (R.length + 1) c2 ∧ H = [.arr 3 1 c R, .arr 3 1 1 [y], .arr 3 1 c2 (R.take i ++ y :: R.drop i)] := by
  refine acallsx_of false (N := 95) Tryz.func99 rfl rfl (by simp) fun E hE hP => ?_
  rcases Nat.lt_or_ge i R.length with hin | hin
  · refine WA ?_
    refine ZR ?_
    iterate 2 refine WX1 ?_
    refine ZA (rd_slice (l := i) rfl (KE (t := 22) rfl) rfl rfl (.inr ⟨_, _, _, rfl, rfl, rfl⟩) (.inl ⟨rfl, rfl⟩) (by omega) (by omega) (by omega)) ?_
    refine WE ?_
    refine WA ?_
    refine WA ?_
    refine aw_cond_f rfl ?_
    refine ZZ ?_
    refine WA ?_
    refine WA ?_
    refine aw_cond_f rfl ?_
    refine ZZ ?_
    by_cases hcap : c < R.length + 1
    · refine WA ?_
      refine aw_cond_t rfl ?_
      refine ZR ?_
      iterate 2 refine WX1 ?_
      refine ZA (rd_slice (l := 0) (h := i) rfl (KE (t := 22) rfl) rfl rfl (.inl ⟨rfl, rfl⟩) (.inr ⟨_, _, _, rfl, rfl, rfl⟩) (by omega) (by omega) (by omega)) ?_
      refine WO ?_
      refine al_ef rfl (ef_appzo (n := R.length + 1 - i) rfl rfl (by decide) (KA (t := 22) rfl) Tryz.underlying3 rfl rfl (by omega) rfl (by omega) (by omega) (by omega) (by omega) (KZ (t := 3) rfl) rfl rfl) ?_
      rintro _ _ ⟨c2, hc2, rfl, rfl⟩
      refine WE ?_
      refine aw_wk (wk_of (K := fun F H => F = [(0, .o 0 0 R.length c), (1, .c (I i)), (2, .o 1 0 1 1), (7, .c (I (1 : Nat))), (9, .o 2 0 (i + (R.length + 1 - i)) c2)] ∧ H = [.arr 3 1 c R, .arr 3 1 1 [y], .arr 3 1 c2 (R.take i ++ List.replicate (R.length + 1 - i) [I 0])]) [some 0, some 1, some 2] (fun _ => [(0, .o 0 0 R.length c), (1, .c (I i)), (2, .o 1 0 1 1), (7, .c (I (1 : Nat))), (9, .o 2 0 (i + (R.length + 1 - i)) c2)]) (fun _ => [.arr 3 1 c R, .arr 3 1 1 [y], .arr 3 1 c2 (R.take i ++ List.replicate (R.length + 1 - i) [I 0])]) (by decide) (ZNL hE) ZCF ZCH (fun _ => ⟨rfl, rfl⟩)) ?_
      rintro F H ⟨rfl, rfl⟩
      refine ZR ?_
      iterate 2 refine WX1 ?_
      refine ZA (rd_slice (l := i) rfl (KE (t := 22) rfl) rfl rfl (.inr ⟨_, _, _, rfl, rfl, rfl⟩) (.inl ⟨rfl, rfl⟩) (by omega) (by omega) (by omega)) ?_
      refine WX1 ?_
      refine al_ef rfl (ef_copyo (news := [y]) rfl rfl (by decide) (KA (t := 22) rfl) rfl rfl (by first | (simp; omega) | simp) rfl rfl (by rw [Nat.min_eq_left (by omega)]; rfl) (by rw [Nat.min_eq_left (by omega)]; rfl) (ins_1 hin)) ?_
      rintro _ _ ⟨hF, hH⟩
      simp only [List.set_cons_zero, List.set_cons_succ, List.cons_append, List.nil_append] at hH
      subst hF; subst hH
      refine WE ?_
      refine ZZ ?_
      refine aw_regionT [(0, none), (1, none), (2, none), (3, none), (4, none), (5, none), (6, none), (7, none), (8, some [])] hMixed (by kernel_rfl) ?_
      iterate 4 refine WX2 ?_
      refine ZT rfl (rd_slice (l := (i + 1)) rfl (KE (t := 22) rfl) rfl rfl (.inr ⟨_, _, _, rfl, rfl, rfl⟩) (.inl ⟨rfl, rfl⟩) (by omega) (by omega) (by omega)) ?_
      iterate 2 refine WX2 ?_
      refine ZT rfl (rd_slice (l := i) rfl (KE (t := 22) rfl) rfl rfl (.inr ⟨_, _, _, rfl, rfl, rfl⟩) (.inl ⟨rfl, rfl⟩) (by omega) (by omega) (by omega)) ?_
      refine at_ef rfl rfl (ef_copyo (news := (R.drop i)) rfl rfl (by decide) (KA (t := 22) rfl) rfl rfl (by first | (simp; omega) | simp) rfl rfl (by rw [Nat.zero_add, List.take_of_length_le (by simp; omega)]) (by simp; omega) (ins_2 hin)) ?_
      rintro _ _ ⟨hF, hH⟩
      simp only [List.set_cons_zero, List.set_cons_succ, List.cons_append, List.nil_append] at hH
      subst hF; subst hH
      refine ⟨ag_none, ?_⟩
      refine WQ ?_
      refine WA ?_
      refine aret_o [some 0, some 1, some 2] (fun _ => [.arr 3 1 c R, .arr 3 1 1 [y], .arr 3 1 c2 (R.take i ++ y :: R.drop i)]) rfl rfl rfl (by omega) rfl (by decide) (ZNK rfl) ZCH (fun _ => .inr ⟨c2, rfl, rfl⟩)
    · refine WA ?_
      refine aw_cond_f rfl ?_
      refine ZZ ?_
      refine ZR ?_
      iterate 4 refine WX1 ?_
      refine ZA (rd_slicex (l := 0) (h := R.length + 1) rfl (KE (t := 22) rfl) rfl rfl (.inl ⟨rfl, rfl⟩) (.inr ⟨_, _, _, rfl, rfl, by omega⟩) (by omega) (by omega) (by omega)) ?_
      refine WE ?_
      refine aw_wk (wk_of (K := fun F H => F = [(0, .o 0 0 (R.length + 1) c), (1, .c (I i)), (2, .o 1 0 1 1), (7, .c (I (1 : Nat)))] ∧ H = [.arr 3 1 c R, .arr 3 1 1 [y]]) [some 0, some 1] (fun _ => [(0, .o 0 0 (R.length + 1) c), (1, .c (I i)), (2, .o 1 0 1 1), (7, .c (I (1 : Nat)))]) (fun _ => [.arr 3 1 c R, .arr 3 1 1 [y]]) (by decide) (ZNL hE) ZCF ZCH (fun _ => ⟨rfl, rfl⟩)) ?_
      rintro F H ⟨rfl, rfl⟩
      refine ZR ?_
      iterate 5 refine WX1 ?_
      refine ZA (rd_slice (l := (i + 1)) rfl (KE (t := 22) rfl) rfl rfl (.inr ⟨_, _, _, rfl, rfl, rfl⟩) (.inl ⟨rfl, rfl⟩) (by omega) (by omega) (by omega)) ?_
      refine ZA (rd_overlaps (tr := 4) rfl Tryz.func141 (by kernel_rfl) (by kernel_rfl) (by kernel_rfl) (by kernel_rfl) (KA (t := 22) rfl) rfl rfl rfl rfl (by decide) (by omega) (by omega)) ?_
      refine WE ?_
      refine aw_cond_t rfl ?_
      refine ZZ ?_
      refine aw_regionT [(0, none), (1, none), (2, none), (3, none), (4, none), (5, none), (6, none), (7, none), (8, some [])] hMixed (by kernel_rfl) ?_
      iterate 4 refine WX2 ?_
      refine ZT rfl (rd_slice (l := (i + 1)) rfl (KE (t := 22) rfl) rfl rfl (.inr ⟨_, _, _, rfl, rfl, rfl⟩) (.inl ⟨rfl, rfl⟩) (by omega) (by omega) (by omega)) ?_
      iterate 2 refine WX2 ?_
      refine ZT rfl (rd_slice (l := i) rfl (KE (t := 22) rfl) rfl rfl (.inr ⟨_, _, _, rfl, rfl, rfl⟩) (.inl ⟨rfl, rfl⟩) (by omega) (by omega) (by omega)) ?_
      refine at_ef rfl rfl (ef_copyo (news := (R.drop i)) rfl rfl (by decide) (KA (t := 22) rfl) rfl rfl (by first | (simp; omega) | simp) rfl rfl (by rw [Nat.zero_add, List.take_of_length_le (by simp; omega)]) (by simp; omega) (ins_3 hin)) ?_
      rintro _ _ ⟨hF, hH⟩
      simp only [List.set_cons_zero, List.set_cons_succ, List.cons_append, List.nil_append] at hH
      subst hF; subst hH
      refine ⟨ag_none, ?_⟩
      refine WQ ?_
      refine ZR ?_
      iterate 2 refine WX1 ?_
      refine ZA (rd_slice (l := i) rfl (KE (t := 22) rfl) rfl rfl (.inr ⟨_, _, _, rfl, rfl, rfl⟩) (.inl ⟨rfl, rfl⟩) (by omega) (by omega) (by omega)) ?_
      refine WX1 ?_
      refine al_ef rfl (ef_copyo (news := [y]) rfl rfl (by decide) (KA (t := 22) rfl) rfl rfl (by first | (simp; omega) | simp) rfl rfl (by rw [Nat.min_eq_left (by omega)]; rfl) (by rw [Nat.min_eq_left (by omega)]; rfl) (ins_4 hin)) ?_
      rintro _ _ ⟨hF, hH⟩
      simp only [List.set_cons_zero, List.set_cons_succ, List.cons_append, List.nil_append] at hH
      subst hF; subst hH
      refine WE ?_
      refine WA ?_
      exact aret_o [some 0, some 1] (fun _ => [.arr 3 1 c (R.take i ++ y :: R.drop i), .arr 3 1 1 [y]]) rfl rfl rfl rfl rfl (by decide) (ZNK rfl) ZCH (fun _ => .inl ⟨c, rfl, rfl⟩)
  · obtain rfl : i = R.length := by omega
    rcases Nat.lt_or_ge R.length c with hlc | hlc
    · refine WA ?_
      refine ZR ?_
      iterate 2 refine WX1 ?_
      refine ZA (rd_slice (l := R.length) rfl (KE (t := 22) rfl) rfl rfl (.inr ⟨_, _, _, rfl, rfl, rfl⟩) (.inl ⟨rfl, rfl⟩) (by omega) (by omega) (by omega)) ?_
      refine WE ?_
      refine WA ?_
      refine WA ?_
      refine aw_cond_f rfl ?_
      refine ZZ ?_
      refine WA ?_
      refine WA ?_
      refine aw_cond_t rfl ?_
      refine WR ?_
      refine al_ef rfl (Zapp (KA (t := 22) rfl)) ?_
      rintro _ _ ⟨_, cc, hcc, rfl, rfl⟩
      refine WE ?_
      exact aret_o [some 0, some 1] (fun _ => [.arr 3 1 cc (R.take R.length ++ y :: R.drop R.length), .arr 3 1 1 [y]]) rfl rfl rfl rfl rfl (by decide) (ZNK rfl) (fun _ => .arr rfl (by simp) (.arr rfl rfl .nil)) (fun _ => .inl ⟨cc, rfl, rfl⟩)
    · refine WA ?_
      refine ZR ?_
      iterate 2 refine WX1 ?_
      refine ZA (rd_slicee (l := R.length) (h := R.length) rfl (KE (t := 22) rfl) rfl rfl (.inr ⟨_, _, _, rfl, rfl, rfl⟩) (.inl ⟨rfl, rfl⟩) (by omega) (by omega)) ?_
      refine WE ?_
      refine WA ?_
      refine WA ?_
      refine aw_cond_f rfl ?_
      refine ZZ ?_
      refine WA ?_
      refine WA ?_
      refine aw_cond_t rfl ?_
      refine WR ?_
      refine al_ef rfl (Zapp (KA (t := 22) rfl)) ?_
      rintro _ _ ⟨_, cc, hcc, rfl, rfl⟩
      refine WE ?_
      exact aret_o [some 0, some 1] (fun _ => [.arr 3 1 cc (R.take R.length ++ y :: R.drop R.length), .arr 3 1 1 [y]]) rfl rfl rfl rfl rfl (by decide) (ZNK rfl) (fun _ => .arr rfl (by simp) (.arr rfl rfl .nil)) (fun _ => .inl ⟨cc, rfl, rfl⟩)
end Go.Proofs.YtdmeohgojdfmoaaGreatDoor
