/- slices.Insert of one step ahead of others, by value. -/
import Derived.Test.YtpbedckdnoogpaaOe
import Derived.Test.YtpbedckdnoogpaaPvq
set_option linter.unusedSimpArgs false
set_option linter.unusedVariables false
namespace Go.Proofs.Ytpbedckdnoogpaa
open Go Go.RowKit
set_option maxRecDepth 100000
theorem insert_a (x : Step) (o : List Step) (c : Nat) (h1 : 1 ≤ o.length) (hc : o.length ≤ c) (hl : o.length ≤ 1000000) : ACalls Try.prog 140 [.o 0 0 o.length c, .c (I 0), .o 1 0 1 1] [.arr 36 6 c (o.map Step.row), .arr 36 6 1 [x.row]] fun u H =>
    (u = .o 0 0 (x :: o).length c ∧ H = [.arr 36 6 c ((x :: o).map Step.row), .arr 36 6 1 [x.row]]) ∨ ∃ c', u = .o 2 0 (x :: o).length c' ∧ H = [.arr 36 6 c (o.map Step.row), .arr 36 6 1 [x.row], .arr 36 6 c' ((x :: o).map Step.row)] := by
  have e1 : (o.map Step.row).length = o.length := by simp
  have hcase : ((o.map Step.row).take 1 ++ o.map Step.row).take (0 + 0) ++ [x.row] ++ ((o.map Step.row).take 1 ++ o.map Step.row).drop (0 + 0 + [x.row].length) = (x :: o).map Step.row := by
    cases o with
    | nil => simp at h1
    | cons y o => simp
  have hA : (List.replicate (o.length + 1) (Step.row ⟨0, 0, 0, 0, 0, 0⟩)).take (0 + 0) ++ [x.row] ++ (List.replicate (o.length + 1) (Step.row ⟨0, 0, 0, 0, 0, 0⟩)).drop (0 + 0 + [x.row].length) = x.row :: List.replicate o.length (Step.row ⟨0, 0, 0, 0, 0, 0⟩) := by simp
  have hB : (x.row :: List.replicate o.length (Step.row ⟨0, 0, 0, 0, 0, 0⟩)).take (0 + 1) ++ o.map Step.row ++ (x.row :: List.replicate o.length (Step.row ⟨0, 0, 0, 0, 0, 0⟩)).drop (0 + 1 + (o.map Step.row).length) = (x :: o).map Step.row := by
    rw [List.drop_eq_nil_of_le (by simp; omega)]; simp
  have hC : (o.map Step.row).take (0 + 1) ++ o.map Step.row ++ (o.map Step.row).drop (0 + 1 + (o.map Step.row).length) = (o.map Step.row).take 1 ++ o.map Step.row := by
    rw [List.drop_eq_nil_of_le (by simp)]; simp
  refine acalls_of (N := 95) Try.func140 rfl rfl (by simp) fun E hE => ?_
  repeat with_reducible first | apply S1 | apply S2 | apply S3 | apply S4 | apply S5 | apply S6 | apply S7 | apply S8 | refine S0 rfl ?_ | apply SA | apply SB | apply SC
  refine aw_region ?_
  refine M1 rfl ?_
  refine al_nil ?_
  repeat with_reducible first | apply S1 | apply S2 | apply S3 | apply S4 | apply S5 | apply S6 | apply S7 | apply S8 | refine S0 rfl ?_ | apply SA | apply SB | apply SC
  refine aw_region ?_
  refine M1 rfl ?_
  refine M1 rfl ?_
  refine RA rfl rfl (by decide) (rd_slice (l := 0) rfl Te26 rfl rfl (.inr ⟨_, _, _, rfl, rfl, rfl⟩) (.inl ⟨rfl, rfl⟩) (by omega) (by omega) (by omega)) ?_
  refine al_nil ?_
  repeat with_reducible first | apply S1 | apply S2 | apply S3 | apply S4 | apply S5 | apply S6 | apply S7 | apply S8 | refine S0 rfl ?_ | apply SA | apply SB | apply SC
  refine aw_region ?_
  refine M1 rfl ?_
  refine RA rfl rfl (by decide) (rd_lx rfl Te26 rfl) ?_
  refine M1 rfl ?_
  refine al_nil ?_
  repeat with_reducible first | apply S1 | apply S2 | apply S3 | apply S4 | apply S5 | apply S6 | apply S7 | apply S8 | refine S0 rfl ?_ | apply SA | apply SB | apply SC
  refine aw_region ?_
  refine M1 rfl ?_
  first | refine RA rfl rfl (by decide) (rd_eql_t rfl rfl rfl (by omega)) ?_ | refine RA rfl rfl (by decide) (rd_eql_f rfl rfl rfl (by omega)) ?_ | refine RA rfl rfl (by decide) (rd_eql rfl rfl rfl) ?_
  refine al_nil ?_
  repeat with_reducible first | apply S1 | apply S2 | apply S3 | apply S4 | apply S5 | apply S6 | apply S7 | apply S8 | refine S0 rfl ?_ | apply SA | apply SB | apply SC
  refine aw_cond_f rfl ?_
  repeat with_reducible first | apply S1 | apply S2 | apply S3 | apply S4 | apply S5 | apply S6 | apply S7 | apply S8 | refine S0 rfl ?_ | apply SA | apply SB | apply SC
  refine aw_region ?_
  refine M1 rfl ?_
  refine RA rfl rfl (by decide) (rd_lx rfl Te26 rfl) ?_
  refine M1 rfl ?_
  refine al_nil ?_
  repeat with_reducible first | apply S1 | apply S2 | apply S3 | apply S4 | apply S5 | apply S6 | apply S7 | apply S8 | refine S0 rfl ?_ | apply SA | apply SB | apply SC
  refine aw_region ?_
  refine M1 rfl ?_
  refine M1 rfl ?_
  first | refine RA rfl rfl (by decide) (rd_eql_t rfl rfl rfl (by omega)) ?_ | refine RA rfl rfl (by decide) (rd_eql_f rfl rfl rfl (by omega)) ?_ | refine RA rfl rfl (by decide) (rd_eql rfl rfl rfl) ?_
  refine al_nil ?_
  repeat with_reducible first | apply S1 | apply S2 | apply S3 | apply S4 | apply S5 | apply S6 | apply S7 | apply S8 | refine S0 rfl ?_ | apply SA | apply SB | apply SC
  refine aw_cond_f rfl ?_
  repeat with_reducible first | apply S1 | apply S2 | apply S3 | apply S4 | apply S5 | apply S6 | apply S7 | apply S8 | refine S0 rfl ?_ | apply SA | apply SB | apply SC
  by_cases hcap : c < o.length + 1
  · repeat with_reducible first | apply S1 | apply S2 | apply S3 | apply S4 | apply S5 | apply S6 | apply S7 | apply S8 | refine S0 rfl ?_ | apply SA | apply SB | apply SC
    refine aw_region ?_
    refine M1 rfl ?_
    refine M1 rfl ?_
    first | refine RA rfl rfl (by decide) (rd_addn rfl rfl rfl (by omega)) ?_ | refine RA rfl rfl (by decide) (rd_add rfl rfl rfl) ?_
    refine M1 rfl ?_
    refine RA rfl rfl (by decide) (rd_cap rfl Te26 rfl) ?_
    first | refine RA rfl rfl (by decide) (rd_gtr_t rfl rfl rfl (by omega)) ?_ | refine RA rfl rfl (by decide) (rd_gtr_f rfl rfl rfl (by omega)) ?_ | refine RA rfl rfl (by decide) (rd_gtr rfl rfl rfl) ?_
    refine al_nil ?_
    repeat with_reducible first | apply S1 | apply S2 | apply S3 | apply S4 | apply S5 | apply S6 | apply S7 | apply S8 | refine S0 rfl ?_ | apply SA | apply SB | apply SC
    refine aw_cond_t rfl ?_
    repeat with_reducible first | apply S1 | apply S2 | apply S3 | apply S4 | apply S5 | apply S6 | apply S7 | apply S8 | refine S0 rfl ?_ | apply SA | apply SB | apply SC
    refine aw_region ?_
    refine M1 rfl ?_
    refine M1 rfl ?_
    refine RA rfl rfl (by decide) (rd_slice (l := 0) (h := 0) rfl Te26 rfl rfl (.inl ⟨rfl, rfl⟩) (.inr ⟨_, _, _, rfl, rfl, rfl⟩) (by omega) (by omega) (by omega)) ?_
    refine M1 rfl ?_
    refine M1 rfl ?_
    first | refine RA rfl rfl (by decide) (rd_addn rfl rfl rfl (by omega)) ?_ | refine RA rfl rfl (by decide) (rd_add rfl rfl rfl) ?_
    refine M1 rfl ?_
    first | refine RA rfl rfl (by decide) (rd_subn rfl rfl rfl (by omega)) ?_ | refine RA rfl rfl (by decide) (rd_sub rfl rfl rfl) ?_
    refine al_ef rfl (ef_appz (n := o.length + 1) rfl rfl (by decide) Ta26 Try.underlying3 rfl rfl rfl (by omega) hcap (by omega) Tz36 rfl rfl) ?_
    rintro _ _ ⟨c2, hc2, rfl, rfl⟩
    refine M1 rfl ?_
    refine al_nil ?_
    repeat with_reducible first | apply S1 | apply S2 | apply S3 | apply S4 | apply S5 | apply S6 | apply S7 | apply S8 | refine S0 rfl ?_ | apply SA | apply SB | apply SC
    refine aw_wk (wk_of (K := fun F H => F = [(0, .o 0 0 o.length c), (1, .c (I 0)), (2, .o 1 0 1 1), (7, .c (I (1 : Nat))), (9, .o 2 0 (o.length + 1) c2)] ∧ H = [.arr 36 6 c (o.map Step.row), .arr 36 6 1 [x.row], .arr 36 6 c2 (List.replicate (o.length + 1) (Step.row ⟨0, 0, 0, 0, 0, 0⟩))]) [some 0, some 1, some 2] (fun _ => [(0, .o 0 0 o.length c), (1, .c (I 0)), (2, .o 1 0 1 1), (7, .c (I (1 : Nat))), (9, .o 2 0 (o.length + 1) c2)]) (fun _ => [.arr 36 6 c (o.map Step.row), .arr 36 6 1 [x.row], .arr 36 6 c2 (List.replicate (o.length + 1) (Step.row ⟨0, 0, 0, 0, 0, 0⟩))]) (by decide) (by rw [hE]; exact (fun i hi => by (have hi : i < 2 := hi); (obtain rfl | rfl : i = 0 ∨ i = 1 := (by omega)) <;> rfl)) (by intro _g; (repeat first | exact W0 | apply W1 rfl | exact L0 | apply L1 | exact V1 rfl | exact V2 rfl | exact V3 rfl rfl | exact V4 | exact V5 rfl | exact V3 rfl (by first | (simp; omega) | simp) | exact V1 (by first | (simp; omega) | simp) | exact V6 rfl rfl (by first | rfl | simp) (by simp) rfl | apply V7 | apply V8 | apply V9 | refine V1 ?_ | refine V3 rfl ?_); fail_if_success focus skip) (by intro _g; (repeat first | exact K0 | apply K1 rfl | apply K2 rfl rfl | apply K2 rfl (by simp) | apply K3 | exact L0 | apply L1 | exact V1 rfl | exact V2 rfl | exact V3 rfl rfl | exact V4 | exact V5 rfl | exact V3 rfl (by first | (simp; omega) | simp) | exact V1 (by first | (simp; omega) | simp) | exact V6 rfl rfl (by first | rfl | simp) (by simp) rfl | apply V7 | apply V8 | apply V9); fail_if_success focus skip) (fun _ => ⟨rfl, rfl⟩)) ?_
    rintro F H ⟨rfl, rfl⟩
    repeat with_reducible first | apply S1 | apply S2 | apply S3 | apply S4 | apply S5 | apply S6 | apply S7 | apply S8 | refine S0 rfl ?_ | apply SA | apply SB | apply SC
    refine aw_region ?_
    refine M1 rfl ?_
    refine M1 rfl ?_
    refine RA rfl rfl (by decide) (rd_slice (l := 0) rfl Te26 rfl rfl (.inr ⟨_, _, _, rfl, rfl, rfl⟩) (.inl ⟨rfl, rfl⟩) (by omega) (by omega) (by omega)) ?_
    refine M1 rfl ?_
    refine al_ef rfl (ef_copyo (news := [x.row]) rfl rfl (by decide) Ta26 rfl rfl (by first | (simp; omega) | simp) rfl rfl (by rw [Nat.min_eq_left (by omega)]; rfl) (by rw [Nat.min_eq_left (by omega)]; rfl) hA) ?_
    rintro _ _ ⟨hF, hH⟩
    simp only [List.set_cons_zero, List.set_cons_succ, List.cons_append, List.nil_append] at hH
    subst hF; subst hH
    refine al_nil ?_
    repeat with_reducible first | apply S1 | apply S2 | apply S3 | apply S4 | apply S5 | apply S6 | apply S7 | apply S8 | refine S0 rfl ?_ | apply SA | apply SB | apply SC
    refine aw_regionT [(0, none), (1, none), (2, none), (3, none), (4, none), (5, none), (6, none), (7, none), (8, some [])] hMixed (by kernel_rfl) ?_
    refine M2 rfl rfl ?_
    refine M2 rfl rfl ?_
    refine M2 rfl rfl ?_
    first | refine RT rfl rfl rfl (by decide) (rd_addn rfl rfl rfl (by omega)) ?_ | refine RT rfl rfl rfl (by decide) (rd_add rfl rfl rfl) ?_
    refine RT rfl rfl rfl (by decide) (rd_slice (l := 1) rfl Te26 rfl rfl (.inr ⟨_, _, _, rfl, rfl, rfl⟩) (.inl ⟨rfl, rfl⟩) (by omega) (by omega) (by omega)) ?_
    refine M2 rfl rfl ?_
    refine M2 rfl rfl ?_
    refine RT rfl rfl rfl (by decide) (rd_slice (l := 0) rfl Te26 rfl rfl (.inr ⟨_, _, _, rfl, rfl, rfl⟩) (.inl ⟨rfl, rfl⟩) (by omega) (by omega) (by omega)) ?_
    refine at_ef rfl rfl (ef_copyo (news := (o.map Step.row)) rfl rfl (by decide) Ta26 rfl rfl (by first | (simp; omega) | simp) rfl rfl (by rw [List.drop_zero, List.take_of_length_le (by simp)]) (by simp) hB) ?_
    rintro _ _ ⟨hF, hH⟩
    simp only [List.set_cons_zero, List.set_cons_succ, List.cons_append, List.nil_append] at hH
    subst hF; subst hH
    refine ⟨ag_none, ?_⟩
    refine at_nil ?_
    repeat with_reducible first | apply S1 | apply S2 | apply S3 | apply S4 | apply S5 | apply S6 | apply S7 | apply S8 | refine S0 rfl ?_ | apply SA | apply SB | apply SC
    refine aw_region ?_
    refine M1 rfl ?_
    refine M1 rfl ?_
    refine al_nil ?_
    repeat with_reducible first | apply S1 | apply S2 | apply S3 | apply S4 | apply S5 | apply S6 | apply S7 | apply S8 | refine S0 rfl ?_ | apply SA | apply SB | apply SC
    exact aret_o [some 0, some 1, some 2] (fun _ => [.arr 36 6 c (o.map Step.row), .arr 36 6 1 [x.row], .arr 36 6 c2 ((x :: o).map Step.row)]) rfl rfl rfl rfl rfl (by decide) (fun i hi => by (have hi : i < 2 := hi); (obtain rfl | rfl : i = 0 ∨ i = 1 := (by omega)) <;> rfl) (by intro _g; (repeat first | exact K0 | apply K1 rfl | apply K2 rfl rfl | apply K2 rfl (by simp) | apply K3 | exact L0 | apply L1 | exact V1 rfl | exact V2 rfl | exact V3 rfl rfl | exact V4 | exact V5 rfl | exact V3 rfl (by first | (simp; omega) | simp) | exact V1 (by first | (simp; omega) | simp) | exact V6 rfl rfl (by first | rfl | simp) (by simp) rfl | apply V7 | apply V8 | apply V9); fail_if_success focus skip) (fun _ => .inr ⟨c2, rfl, rfl⟩)
  · repeat with_reducible first | apply S1 | apply S2 | apply S3 | apply S4 | apply S5 | apply S6 | apply S7 | apply S8 | refine S0 rfl ?_ | apply SA | apply SB | apply SC
    refine aw_region ?_
    refine M1 rfl ?_
    refine M1 rfl ?_
    first | refine RA rfl rfl (by decide) (rd_addn rfl rfl rfl (by omega)) ?_ | refine RA rfl rfl (by decide) (rd_add rfl rfl rfl) ?_
    refine M1 rfl ?_
    refine RA rfl rfl (by decide) (rd_cap rfl Te26 rfl) ?_
    first | refine RA rfl rfl (by decide) (rd_gtr_t rfl rfl rfl (by omega)) ?_ | refine RA rfl rfl (by decide) (rd_gtr_f rfl rfl rfl (by omega)) ?_ | refine RA rfl rfl (by decide) (rd_gtr rfl rfl rfl) ?_
    refine al_nil ?_
    repeat with_reducible first | apply S1 | apply S2 | apply S3 | apply S4 | apply S5 | apply S6 | apply S7 | apply S8 | refine S0 rfl ?_ | apply SA | apply SB | apply SC
    refine aw_cond_f rfl ?_
    repeat with_reducible first | apply S1 | apply S2 | apply S3 | apply S4 | apply S5 | apply S6 | apply S7 | apply S8 | refine S0 rfl ?_ | apply SA | apply SB | apply SC
    refine aw_region ?_
    refine M1 rfl ?_
    refine M1 rfl ?_
    refine M1 rfl ?_
    first | refine RA rfl rfl (by decide) (rd_addn rfl rfl rfl (by omega)) ?_ | refine RA rfl rfl (by decide) (rd_add rfl rfl rfl) ?_
    refine RA rfl rfl (by decide) (rd_slicex (l := 0) (h := o.length + 1) rfl Te26 rfl rfl (.inl ⟨rfl, rfl⟩) (.inr ⟨_, _, _, rfl, rfl, by omega⟩) (by omega) (by omega) (by omega)) ?_
    refine M1 rfl ?_
    refine al_nil ?_
    repeat with_reducible first | apply S1 | apply S2 | apply S3 | apply S4 | apply S5 | apply S6 | apply S7 | apply S8 | refine S0 rfl ?_ | apply SA | apply SB | apply SC
    refine aw_wk (wk_of (K := fun F H => F = [(0, .o 0 0 (o.length + 1) c), (1, .c (I 0)), (2, .o 1 0 1 1), (7, .c (I (1 : Nat)))] ∧ H = [.arr 36 6 c (o.map Step.row), .arr 36 6 1 [x.row]]) [some 0, some 1] (fun _ => [(0, .o 0 0 (o.length + 1) c), (1, .c (I 0)), (2, .o 1 0 1 1), (7, .c (I (1 : Nat)))]) (fun _ => [.arr 36 6 c (o.map Step.row), .arr 36 6 1 [x.row]]) (by decide) (by rw [hE]; exact (fun i hi => by (have hi : i < 2 := hi); (obtain rfl | rfl : i = 0 ∨ i = 1 := (by omega)) <;> rfl)) (by intro _g; (repeat first | exact W0 | apply W1 rfl | exact L0 | apply L1 | exact V1 rfl | exact V2 rfl | exact V3 rfl rfl | exact V4 | exact V5 rfl | exact V3 rfl (by first | (simp; omega) | simp) | exact V1 (by first | (simp; omega) | simp) | exact V6 rfl rfl (by first | rfl | simp) (by simp) rfl | apply V7 | apply V8 | apply V9 | refine V1 ?_ | refine V3 rfl ?_); fail_if_success focus skip) (by intro _g; (repeat first | exact K0 | apply K1 rfl | apply K2 rfl rfl | apply K2 rfl (by simp) | apply K3 | exact L0 | apply L1 | exact V1 rfl | exact V2 rfl | exact V3 rfl rfl | exact V4 | exact V5 rfl | exact V3 rfl (by first | (simp; omega) | simp) | exact V1 (by first | (simp; omega) | simp) | exact V6 rfl rfl (by first | rfl | simp) (by simp) rfl | apply V7 | apply V8 | apply V9); fail_if_success focus skip) (fun _ => ⟨rfl, rfl⟩)) ?_
    rintro F H ⟨rfl, rfl⟩
    repeat with_reducible first | apply S1 | apply S2 | apply S3 | apply S4 | apply S5 | apply S6 | apply S7 | apply S8 | refine S0 rfl ?_ | apply SA | apply SB | apply SC
    refine aw_region ?_
    refine M1 rfl ?_
    refine M1 rfl ?_
    refine M1 rfl ?_
    refine M1 rfl ?_
    first | refine RA rfl rfl (by decide) (rd_addn rfl rfl rfl (by omega)) ?_ | refine RA rfl rfl (by decide) (rd_add rfl rfl rfl) ?_
    refine RA rfl rfl (by decide) (rd_slice (l := 1) rfl Te26 rfl rfl (.inr ⟨_, _, _, rfl, rfl, rfl⟩) (.inl ⟨rfl, rfl⟩) (by omega) (by omega) (by omega)) ?_
    refine RA rfl rfl (by decide) (rd_overlaps (tr := 4) rfl Try.func172 (by kernel_rfl) (by kernel_rfl) (by kernel_rfl) (by kernel_rfl) Ta26 rfl rfl rfl rfl (by decide) (by omega) (by omega)) ?_
    refine RA rfl rfl (by decide) (rd_not rfl rfl) ?_
    refine al_nil ?_
    repeat with_reducible first | apply S1 | apply S2 | apply S3 | apply S4 | apply S5 | apply S6 | apply S7 | apply S8 | refine S0 rfl ?_ | apply SA | apply SB | apply SC
    refine aw_cond_t rfl ?_
    repeat with_reducible first | apply S1 | apply S2 | apply S3 | apply S4 | apply S5 | apply S6 | apply S7 | apply S8 | refine S0 rfl ?_ | apply SA | apply SB | apply SC
    refine aw_regionT [(0, none), (1, none), (2, none), (3, none), (4, none), (5, none), (6, none), (7, none), (8, some [])] hMixed (by kernel_rfl) ?_
    refine M2 rfl rfl ?_
    refine M2 rfl rfl ?_
    refine M2 rfl rfl ?_
    first | refine RT rfl rfl rfl (by decide) (rd_addn rfl rfl rfl (by omega)) ?_ | refine RT rfl rfl rfl (by decide) (rd_add rfl rfl rfl) ?_
    refine RT rfl rfl rfl (by decide) (rd_slice (l := 1) rfl Te26 rfl rfl (.inr ⟨_, _, _, rfl, rfl, rfl⟩) (.inl ⟨rfl, rfl⟩) (by omega) (by omega) (by omega)) ?_
    refine M2 rfl rfl ?_
    refine M2 rfl rfl ?_
    refine RT rfl rfl rfl (by decide) (rd_slice (l := 0) rfl Te26 rfl rfl (.inr ⟨_, _, _, rfl, rfl, rfl⟩) (.inl ⟨rfl, rfl⟩) (by omega) (by omega) (by omega)) ?_
    refine at_ef rfl rfl (ef_copyo (news := (o.map Step.row)) rfl rfl (by decide) Ta26 rfl rfl (by first | (simp; omega) | simp) rfl rfl (by rw [List.drop_zero, List.take_of_length_le (by first | (simp; omega) | simp)]) (by first | (simp; omega) | simp) hC) ?_
    rintro _ _ ⟨hF, hH⟩
    simp only [List.set_cons_zero, List.set_cons_succ, List.cons_append, List.nil_append] at hH
    subst hF; subst hH
    refine ⟨ag_none, ?_⟩
    refine at_nil ?_
    repeat with_reducible first | apply S1 | apply S2 | apply S3 | apply S4 | apply S5 | apply S6 | apply S7 | apply S8 | refine S0 rfl ?_ | apply SA | apply SB | apply SC
    refine aw_region ?_
    refine M1 rfl ?_
    refine M1 rfl ?_
    refine RA rfl rfl (by decide) (rd_slice (l := 0) rfl Te26 rfl rfl (.inr ⟨_, _, _, rfl, rfl, rfl⟩) (.inl ⟨rfl, rfl⟩) (by omega) (by omega) (by omega)) ?_
    refine M1 rfl ?_
    refine al_ef rfl (ef_copyo (news := [x.row]) rfl rfl (by decide) Ta26 rfl rfl (by first | (simp; omega) | simp) rfl rfl (by rw [Nat.min_eq_left (by omega)]; rfl) (by rw [Nat.min_eq_left (by omega)]; rfl) hcase) ?_
    rintro _ _ ⟨hF, hH⟩
    simp only [List.set_cons_zero, List.set_cons_succ, List.cons_append, List.nil_append] at hH
    subst hF; subst hH
    refine al_nil ?_
    repeat with_reducible first | apply S1 | apply S2 | apply S3 | apply S4 | apply S5 | apply S6 | apply S7 | apply S8 | refine S0 rfl ?_ | apply SA | apply SB | apply SC
    refine aw_region ?_
    refine M1 rfl ?_
    refine M1 rfl ?_
    refine al_nil ?_
    repeat with_reducible first | apply S1 | apply S2 | apply S3 | apply S4 | apply S5 | apply S6 | apply S7 | apply S8 | refine S0 rfl ?_ | apply SA | apply SB | apply SC
    exact aret_o [some 0, some 1] (fun _ => [.arr 36 6 c ((x :: o).map Step.row), .arr 36 6 1 [x.row]]) rfl rfl rfl rfl rfl (by decide) (fun i hi => by (have hi : i < 2 := hi); (obtain rfl | rfl : i = 0 ∨ i = 1 := (by omega)) <;> rfl) (by intro _g; (repeat first | exact K0 | apply K1 rfl | apply K2 rfl rfl | apply K2 rfl (by simp) | apply K3 | exact L0 | apply L1 | exact V1 rfl | exact V2 rfl | exact V3 rfl rfl | exact V4 | exact V5 rfl | exact V3 rfl (by first | (simp; omega) | simp) | exact V1 (by first | (simp; omega) | simp) | exact V6 rfl rfl (by first | rfl | simp) (by simp) rfl | apply V7 | apply V8 | apply V9); fail_if_success focus skip) (fun _ => .inl ⟨rfl, rfl⟩)
end Go.Proofs.Ytpbedckdnoogpaa
