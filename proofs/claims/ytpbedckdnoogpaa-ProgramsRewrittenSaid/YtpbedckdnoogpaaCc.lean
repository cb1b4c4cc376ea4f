/- The program's faults of programs, by value. -/
import Derived.Test.YtpbedckdnoogpaaCb
set_option linter.unusedSimpArgs false
set_option linter.unusedVariables false
namespace Go.Proofs.Ytpbedckdnoogpaa
open Go Go.RowKit
set_option maxRecDepth 100000
theorem check_a (l : List Step) (v : Value) (hl : l.length ≤ 1000000000) : ACalls Try.prog 23 [.c (prog_r v l)] [] fun u H => u = .c (I (progF l)) ∧ H = [] := by
  have e1 : (l.map Step.row).length = l.length := by simp
  refine acalls_of (N := 21) Try.func23 rfl rfl (by simp) fun E hE => ?_
  repeat with_reducible first | apply S1 | apply S2 | apply S3 | apply S4 | apply S5 | apply S6 | apply S7 | apply S8 | refine S0 rfl ?_ | apply SA | apply SB | apply SC
  refine aw_region ?_
  refine M1 rfl ?_
  refine al_nil ?_
  repeat with_reducible first | apply S1 | apply S2 | apply S3 | apply S4 | apply S5 | apply S6 | apply S7 | apply S8 | refine S0 rfl ?_ | apply SA | apply SB | apply SC
  refine aw_region ?_
  refine M1 rfl ?_
  refine RA rfl rfl (by decide) (rd_lx rfl Te26 rfl) ?_
  first | refine RA rfl rfl (by decide) (rd_gtr_t rfl rfl rfl (by omega)) ?_ | refine RA rfl rfl (by decide) (rd_gtr_f rfl rfl rfl (by omega)) ?_ | refine RA rfl rfl (by decide) (rd_gtr rfl rfl rfl) ?_
  refine al_nil ?_
  repeat with_reducible first | apply S1 | apply S2 | apply S3 | apply S4 | apply S5 | apply S6 | apply S7 | apply S8 | refine S0 rfl ?_ | apply SA | apply SB | apply SC
  refine aw_if rfl (fun hbig => ?_) (fun hbig => ?_)
  · repeat with_reducible first | apply S1 | apply S2 | apply S3 | apply S4 | apply S5 | apply S6 | apply S7 | apply S8 | refine S0 rfl ?_ | apply SA | apply SB | apply SC
    refine aw_region ?_
    refine M1 rfl ?_
    refine al_nil ?_
    repeat with_reducible first | apply S1 | apply S2 | apply S3 | apply S4 | apply S5 | apply S6 | apply S7 | apply S8 | refine S0 rfl ?_ | apply SA | apply SB | apply SC
    refine aret_1 [] _ rfl rfl rfl (by decide) (fun _ hi => absurd hi (Nat.not_lt_zero _)) (fun _ => .nil) ⟨?_, rfl⟩
    rw [progF, if_pos (by omega)]
  repeat with_reducible first | apply S1 | apply S2 | apply S3 | apply S4 | apply S5 | apply S6 | apply S7 | apply S8 | refine S0 rfl ?_ | apply SA | apply SB | apply SC
  refine aw_region ?_
  refine M1 rfl ?_
  refine RA rfl rfl (by decide) (rd_lx rfl Te26 rfl) ?_
  refine M1 rfl ?_
  refine al_nil ?_
  repeat with_reducible first | apply S1 | apply S2 | apply S3 | apply S4 | apply S5 | apply S6 | apply S7 | apply S8 | refine S0 rfl ?_ | apply SA | apply SB | apply SC
  refine aw_loopw (fun m F H => ∃ (k : Nat), m + k = l.length ∧ firstF (l.drop k) = firstF l ∧ F = [(9, .c (prog_r v l)), (10, .c (I (l.map Step.row).length)), (11, .c (I k))] ∧ H = []) ?_ ?_
  · refine wk_of [] (fun _ => [(9, .c (prog_r v l)), (10, .c (I (l.map Step.row).length)), (11, .c (I (0 : Nat)))]) (fun _ => _) (by decide) (by rw [hE]; first | exact (fun _ hi => absurd hi (Nat.not_lt_zero _)) | exact (fun i hi => by (have hi : i < 1 := hi); (have h0 : i = 0 := (by omega)); (subst h0); rfl)) (by intro _g; (repeat first | exact W0 | apply W1 rfl | exact L0 | apply L1 | exact V1 rfl | exact V2 rfl | exact V3 rfl rfl | exact V4 | exact V5 rfl | exact V3 rfl (by first | (simp; omega) | simp) | exact V1 (by first | (simp; omega) | simp) | exact V6 rfl rfl (by first | rfl | simp) (by simp) rfl | apply V7 | apply V8 | apply V9 | refine V1 ?_ | refine V3 rfl ?_); fail_if_success focus skip) (fun _ => .nil) (fun _ => ?_)
    exact ⟨l.length, 0, by omega, rfl, rfl, rfl⟩
  rintro m F H ⟨k, hk, hf, rfl, rfl⟩
  repeat with_reducible first | apply S1 | apply S2 | apply S3 | apply S4 | apply S5 | apply S6 | apply S7 | apply S8 | refine S0 rfl ?_ | apply SA | apply SB | apply SC
  refine aw_region ?_
  first | refine RA rfl rfl (by decide) (rd_lss_t rfl rfl rfl (by omega)) ?_ | refine RA rfl rfl (by decide) (rd_lss_f rfl rfl rfl (by omega)) ?_ | refine RA rfl rfl (by decide) (rd_lss rfl rfl rfl) ?_
  refine al_nil ?_
  repeat with_reducible first | apply S1 | apply S2 | apply S3 | apply S4 | apply S5 | apply S6 | apply S7 | apply S8 | refine S0 rfl ?_ | apply SA | apply SB | apply SC
  refine aw_if rfl (fun hlt => ?_) (fun hge => ?_)
  · obtain ⟨s, hs⟩ : ∃ s, l[k]? = some s := ⟨_, List.getElem?_eq_getElem (by omega)⟩
    have hrow : (l.map Step.row)[k]? = some s.row := by rw [List.getElem?_map, hs]; rfl
    have hfd := firstF_drop hs
    repeat with_reducible first | apply S1 | apply S2 | apply S3 | apply S4 | apply S5 | apply S6 | apply S7 | apply S8 | refine S0 rfl ?_ | apply SA | apply SB | apply SC
    refine aw_region ?_
    first | refine RA rfl rfl (by decide) (rd_index rfl Te26 rfl rfl rfl (by first | rfl | omega) (by omega)) ?_ | refine RA rfl rfl (by decide) (rd_indexq rfl Te26 rfl rfl (by first | rfl | omega) (by assumption) rfl) ?_
    refine RA rfl rfl (by decide) (rd_loadn rfl Tk36 rfl (by first | exact CB rfl | exact CQ | exact CA rfl (by first | assumption | (rw [Nat.zero_add]; assumption))) (by (try simp only [nm, putL, Nat.reduceAdd, cellsOf, cvOf]) <;> rfl) (by simp)) ?_
    refine EA rfl (ef_allocn rfl rfl (by decide) Tz36 rfl rfl (by (try simp only [nm, putL, Nat.reduceAdd, cellsOf, cvOf]) <;> rfl) (by (try simp only [nm, putL, Nat.reduceAdd, cellsOf, cvOf]) <;> rfl)) ?_
    first | refine EA rfl (ef_storen rfl rfl rfl rfl rfl Ts36 rfl (by simp) rfl (by (try simp only [nm, putL, Nat.reduceAdd, cellsOf, cvOf]) <;> rfl) (by (try simp only [nm, putL, Nat.reduceAdd, cellsOf, cvOf]) <;> rfl)) ?_ | refine EA rfl (ef_storern rfl rfl rfl rfl (by first | assumption | (rw [Nat.zero_add]; assumption)) rfl rfl Ts36 rfl (by simp) rfl (by (try simp only [nm, putL, Nat.reduceAdd, cellsOf, cvOf]) <;> rfl) rfl) ?_
    refine al_nil ?_
    repeat with_reducible first | apply S1 | apply S2 | apply S3 | apply S4 | apply S5 | apply S6 | apply S7 | apply S8 | refine S0 rfl ?_ | apply SA | apply SB | apply SC
    refine aw_region ?_
    refine RA rfl rfl (by decide) (rd_loadn rfl Tk36 rfl (by first | exact CB rfl | exact CQ | exact CA rfl (by first | assumption | (rw [Nat.zero_add]; assumption))) (by (try simp only [nm, putL, Nat.reduceAdd, cellsOf, cvOf]) <;> rfl) (by simp)) ?_
    refine al_ef rfl (ef_call0 false (fun _ => fault_a s) rfl .fn rfl (by decide) Tc100 rfl (fun _ => C0 rfl) (by simp)) ?_
    rintro _ _ ⟨_, _, _, ⟨rfl, rfl⟩, hF, hH⟩
    (try simp only [nsl, Nat.reduceAdd, Nat.reduceLT, Nat.reduceSub] at hF); (try simp only [nsl, Nat.reduceAdd, Nat.reduceLT, Nat.reduceSub] at hH); subst hF; subst hH
    refine M1 rfl ?_
    refine al_nil ?_
    repeat with_reducible first | apply S1 | apply S2 | apply S3 | apply S4 | apply S5 | apply S6 | apply S7 | apply S8 | refine S0 rfl ?_ | apply SA | apply SB | apply SC
    refine aw_region ?_
    refine M1 rfl ?_
    first | refine RA rfl rfl (by decide) (rd_neq_t rfl rfl rfl (by omega)) ?_ | refine RA rfl rfl (by decide) (rd_neq_f rfl rfl rfl (by omega)) ?_ | refine RA rfl rfl (by decide) (rd_neq rfl rfl rfl) ?_
    refine al_nil ?_
    repeat with_reducible first | apply S1 | apply S2 | apply S3 | apply S4 | apply S5 | apply S6 | apply S7 | apply S8 | refine S0 rfl ?_ | apply SA | apply SB | apply SC
    refine aw_if rfl (fun hne => ?_) (fun heq => ?_)
    · repeat with_reducible first | apply S1 | apply S2 | apply S3 | apply S4 | apply S5 | apply S6 | apply S7 | apply S8 | refine S0 rfl ?_ | apply SA | apply SB | apply SC
      refine aw_region ?_
      refine M1 rfl ?_
      refine M1 rfl ?_
      refine al_nil ?_
      repeat with_reducible first | apply S1 | apply S2 | apply S3 | apply S4 | apply S5 | apply S6 | apply S7 | apply S8 | refine S0 rfl ?_ | apply SA | apply SB | apply SC
      refine aret_1 [] _ rfl rfl rfl (by decide) (fun _ hi => absurd hi (Nat.not_lt_zero _)) (fun _ => .nil) ⟨?_, rfl⟩
      rw [progF, if_neg (by omega), ← hf, hfd, if_neg hne]
    · repeat with_reducible first | apply S1 | apply S2 | apply S3 | apply S4 | apply S5 | apply S6 | apply S7 | apply S8 | refine S0 rfl ?_ | apply SA | apply SB | apply SC
      refine aw_region ?_
      first | refine RA rfl rfl (by decide) (rd_addn rfl rfl rfl (by omega)) ?_ | refine RA rfl rfl (by decide) (rd_add rfl rfl rfl) ?_
      refine M1 rfl ?_
      refine al_nil ?_
      repeat with_reducible first | apply S1 | apply S2 | apply S3 | apply S4 | apply S5 | apply S6 | apply S7 | apply S8 | refine S0 rfl ?_ | apply SA | apply SB | apply SC
      refine wk_of [] (fun _ => [(9, .c (prog_r v l)), (10, .c (I (l.map Step.row).length)), (11, .c (I (k + 1 : Nat)))]) (fun _ => _) (by decide) (by rw [hE]; first | exact (fun _ hi => absurd hi (Nat.not_lt_zero _)) | exact (fun i hi => by (have hi : i < 1 := hi); (have h0 : i = 0 := (by omega)); (subst h0); rfl)) (by intro _g; (repeat first | exact W0 | apply W1 rfl | exact L0 | apply L1 | exact V1 rfl | exact V2 rfl | exact V3 rfl rfl | exact V4 | exact V5 rfl | exact V3 rfl (by first | (simp; omega) | simp) | exact V1 (by first | (simp; omega) | simp) | exact V6 rfl rfl (by first | rfl | simp) (by simp) rfl | apply V7 | apply V8 | apply V9 | refine V1 ?_ | refine V3 rfl ?_); fail_if_success focus skip) (fun _ => .nil) (fun _ => ?_)
      exact ⟨m - 1, by omega, k + 1, by omega, by rw [← hf, hfd, if_pos (by omega)], rfl, rfl⟩
  repeat with_reducible first | apply S1 | apply S2 | apply S3 | apply S4 | apply S5 | apply S6 | apply S7 | apply S8 | refine S0 rfl ?_ | apply SA | apply SB | apply SC
  refine aw_region ?_
  refine M1 rfl ?_
  refine al_nil ?_
  repeat with_reducible first | apply S1 | apply S2 | apply S3 | apply S4 | apply S5 | apply S6 | apply S7 | apply S8 | refine S0 rfl ?_ | apply SA | apply SB | apply SC
  refine aret_1 [] _ rfl rfl rfl (by decide) (fun _ hi => absurd hi (Nat.not_lt_zero _)) (fun _ => .nil) ⟨?_, rfl⟩
  rw [progF, if_neg (by omega), ← hf, List.drop_eq_nil_of_le (by omega)]; rfl
end Go.Proofs.Ytpbedckdnoogpaa
