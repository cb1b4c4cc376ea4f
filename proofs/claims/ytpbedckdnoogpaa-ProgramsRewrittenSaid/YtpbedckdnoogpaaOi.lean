/- The law ProgramsRewritten, walked. -/
import Derived.Test.YtpbedckdnoogpaaOh
import Derived.Test.YtpbedckdnoogpaaKa
import Derived.Test.YtpbedckdnoogpaaRf
set_option linter.unusedSimpArgs false
set_option linter.unusedVariables false
namespace Go.Proofs.Ytpbedckdnoogpaa
open Go Go.RowKit
set_option maxRecDepth 100000
theorem last5k_a (v : Value) : ACalls Try.prog 17 [.c (.r v [(⟨3, 5, 0, 0, 0, 0⟩ : Step).row])] [] fun u H => u = .t [.a ((⟨5, 0, 0, 0, 0, 0, 0, false⟩ : Mach).row.map .c), .c (I 0)] ∧ H = [] := by
  have h := last_a [⟨3, 5, 0, 0, 0, 0⟩] v (by simp) (by simp [Step.ok, in64])
  rw [show progF [⟨3, 5, 0, 0, 0, 0⟩] = 0 from by decide, if_pos rfl, show lastS [⟨3, 5, 0, 0, 0, 0⟩] = ⟨5, 0, 0, 0, 0, 0, 0, false⟩ from by simp [lastS, afterS, relS, Mach.zero, IntWalk.wrap64_in 0 (by omega)]] at h
  exact h
theorem flat_rowk {K : CV → Prop} {l : List CV} (h : ∀ x ∈ l, x.flat) : FlatA K (.a (l.map .c)) := .a fun x hx => by
  obtain ⟨y, hy, rfl⟩ := List.mem_map.1 hx
  exact .c (.inl (h y hy))
theorem flat_machk {K : CV → Prop} (m : Mach) : FlatA K (.a (m.row.map .c)) := flat_rowk fun x hx => by
  simp only [List.mem_cons, List.not_mem_nil, or_false] at hx
  rcases hx with rfl | rfl | rfl | rfl | rfl | rfl | rfl | rfl <;> trivial
theorem flat_2k {K : CV → Prop} {x y : AV} (hx : FlatA K x) (hy : FlatA K y) : FlatA K (.t [x, y]) := .t fun z hz => by
  simp only [List.mem_cons, List.not_mem_nil, or_false] at hz
  rcases hz with rfl | rfl
  · exact hx
  · exact hy
theorem codedk_a : ACalls Try.prog 25 [] [] fun u H => u = .c (B true) ∧ H = [] := by
  refine acalls_of (N := 16) Try.func25 rfl rfl (by simp) fun E hE => ?_
  repeat with_reducible first | apply S1 | apply S2 | apply S3 | apply S4 | apply S5 | apply S6 | apply S7 | apply S8 | refine S0 rfl ?_ | apply SA | apply SB | apply SC
  refine aw_region ?_
  refine M1 rfl ?_
  refine al_nil ?_
  repeat with_reducible first | apply S1 | apply S2 | apply S3 | apply S4 | apply S5 | apply S6 | apply S7 | apply S8 | refine S0 rfl ?_ | apply SA | apply SB | apply SC
  refine aw_region ?_
  refine RA rfl rfl (by decide) (rd_build rfl Tz36 rfl Tb36 (.cons rfl rfl rfl (by simp) rfl (by (try simp only [nm, putL, Nat.reduceAdd, cellsOf, cvOf]) <;> rfl) (.cons rfl rfl rfl (by simp) rfl (by (try simp only [nm, putL, Nat.reduceAdd, cellsOf, cvOf]) <;> rfl) (.nil)))) ?_
  refine EA rfl (ef_buildSlicen rfl rfl (by decide) Te26 (.cons rfl rfl (.nil _)) rfl Tz36 rfl rfl (by simp) (by simp) (by (try simp only [nm, putL, Nat.reduceAdd, cellsOf, cvOf]) <;> rfl) (by (try simp only [nm, putL, Nat.reduceAdd, cellsOf, cvOf]) <;> rfl)) ?_
  refine al_ef rfl (ef_call0 true (fun g => last5k_a (g (.o 0 0 1 1))) rfl .fn rfl (by decide) Tc17 rfl (by intro _g; (repeat first | exact K0 | apply K1 rfl | apply K2 rfl rfl | apply K2 rfl (by simp) | apply K3 | exact L0 | apply L1 | exact V1 rfl | exact V2 rfl | exact V3 rfl rfl | exact V4 | exact V5 rfl | exact V3 rfl (by first | (simp; omega) | simp) | exact V1 (by first | (simp; omega) | simp) | exact V6 rfl rfl (by first | rfl | simp) (by simp) rfl | apply V7 | apply V8 | apply V9); fail_if_success focus skip) (fun _ _ _ _ ⟨hu, hH⟩ => by rw [hu, hH]; exact ⟨flat_2k (flat_machk _) (.c (.inl trivial)), fun _ h => by cases h⟩)) ?_
  rintro _ _ ⟨_, _, _, ⟨rfl, rfl⟩, hF, hH⟩
  (try simp only [nsl, Nat.reduceAdd, Nat.reduceLT, Nat.reduceSub] at hF); (try simp only [nsl, Nat.reduceAdd, Nat.reduceLT, Nat.reduceSub] at hH); subst hF; subst hH
  refine M1 rfl ?_
  refine M1 rfl ?_
  refine M1 rfl ?_
  refine EA rfl (ef_allocn rfl rfl (by decide) Tz42 rfl rfl (by (try simp only [nm, putL, Nat.reduceAdd, cellsOf, cvOf]) <;> rfl) (by (try simp only [nm, putL, Nat.reduceAdd, cellsOf, cvOf]) <;> rfl)) ?_
  first | refine EA rfl (ef_storen rfl rfl rfl rfl rfl Ts42 rfl (by simp) rfl (by (try simp only [nm, putL, Nat.reduceAdd, cellsOf, cvOf]) <;> rfl) (by (try simp only [nm, putL, Nat.reduceAdd, cellsOf, cvOf]) <;> rfl)) ?_ | refine EA rfl (ef_storern rfl rfl rfl rfl (by first | assumption | (rw [Nat.zero_add]; assumption)) rfl rfl Ts42 rfl (by simp) rfl (by (try simp only [nm, putL, Nat.reduceAdd, cellsOf, cvOf]) <;> rfl) rfl) ?_
  refine M1 rfl ?_
  refine al_nil ?_
  repeat with_reducible first | apply S1 | apply S2 | apply S3 | apply S4 | apply S5 | apply S6 | apply S7 | apply S8 | refine S0 rfl ?_ | apply SA | apply SB | apply SC
  refine aw_region ?_
  refine M1 rfl ?_
  first | refine RA rfl rfl (by decide) (rd_eql_t rfl rfl rfl (by omega)) ?_ | refine RA rfl rfl (by decide) (rd_eql_f rfl rfl rfl (by omega)) ?_ | refine RA rfl rfl (by decide) (rd_eql rfl rfl rfl) ?_
  refine M1 rfl ?_
  first | (refine G1 rfl ?_; (refine RA rfl rfl (by decide) (rd_fx rfl Tf42_0 rfl) ?_)) | refine G2 rfl rfl (by decide) ?_
  first | (refine G1 rfl ?_; (refine RA rfl rfl (by decide) (rd_loadn1 rfl Tk3 rfl (by first | exact CB rfl | exact CQ | exact CA rfl (by first | assumption | (rw [Nat.zero_add]; assumption))) (by (try simp only [nm, putL, Nat.reduceAdd, cellsOf, cvOf]) <;> rfl)) ?_)) | refine G2 rfl rfl (by decide) ?_
  first | (refine G1 rfl ?_; (first | refine RA rfl rfl (by decide) (rd_eql_t rfl rfl rfl (by omega)) ?_ | refine RA rfl rfl (by decide) (rd_eql_f rfl rfl rfl (by omega)) ?_ | refine RA rfl rfl (by decide) (rd_eql rfl rfl rfl) ?_)) | refine G2 rfl rfl (by decide) ?_
  refine M1 rfl ?_
  refine M1 rfl ?_
  refine al_nil ?_
  repeat with_reducible first | apply S1 | apply S2 | apply S3 | apply S4 | apply S5 | apply S6 | apply S7 | apply S8 | refine S0 rfl ?_ | apply SA | apply SB | apply SC
  exact aret_1 [] _ rfl rfl rfl (by decide) (fun _ hi => absurd hi (Nat.not_lt_zero _)) (fun _ => .nil) ⟨rfl, rfl⟩
theorem law_rewritten (v : Value) (zs : List Int) (hs : StrOk zs) : ACalls Try.prog 7 [.c (.r v (zs.map fun z => [I z]))] [] fun u H => u = .c (B true) := by
  refine acalls_of (N := 127) Try.func7 rfl rfl (by simp) fun E hE => ?_
  repeat with_reducible first | apply S1 | apply S2 | apply S3 | apply S4 | apply S5 | apply S6 | apply S7 | apply S8 | refine S0 rfl ?_ | apply SA | apply SB | apply SC
  refine aw_region ?_
  refine M1 rfl ?_
  refine al_nil ?_
  repeat with_reducible first | apply S1 | apply S2 | apply S3 | apply S4 | apply S5 | apply S6 | apply S7 | apply S8 | refine S0 rfl ?_ | apply SA | apply SB | apply SC
  refine aw_region ?_
  refine M1 rfl ?_
  refine RA rfl rfl (by decide) (rd_build rfl Tz25 rfl Tb25 (.cons rfl rfl rfl (by simp) rfl (by (try simp only [nm, putL, Nat.reduceAdd, cellsOf, cvOf]) <;> rfl) (.nil))) ?_
  refine EA rfl (ef_boxn rfl rfl (by decide) rfl (by (try simp only [nm, putL, Nat.reduceAdd, cellsOf, cvOf]) <;> rfl) rfl (by (try simp only [nm, putL, Nat.reduceAdd, cellsOf, cvOf]) <;> rfl) (by (try simp only [nm, putL, Nat.reduceAdd, cellsOf, cvOf]) <;> rfl)) ?_
  refine M1 rfl ?_
  refine al_nil ?_
  repeat with_reducible first | apply S1 | apply S2 | apply S3 | apply S4 | apply S5 | apply S6 | apply S7 | apply S8 | refine S0 rfl ?_ | apply SA | apply SB | apply SC
  refine aw_region ?_
  refine M1 rfl ?_
  refine al_ef rfl (ef_callm false (fun _ => steplist_a 14 v zs _ hs (by omega) (by omega) (by omega) (by omega)) rfl .fn rfl (by decide) Tc9 rfl rfl (fun _g => .cons (.p rfl) (.cons (.c rfl) .nil)) (fun _g => .cons (.c rfl) (.cons (.c rfl) .nil)) (by simp)) ?_
  rintro F1 H1 ⟨_, _, _, _, ⟨l1, c1, a1, rfl, hq, hp1, hr1, hok1, hl1⟩, hF, hH⟩
  injection hq with hq1 hq2; subst hq1; subst hq2
  (try simp only [nsl, Nat.reduceAdd, Nat.reduceLT, Nat.reduceSub] at hF); (try simp only [nsl, Nat.reduceAdd, Nat.reduceLT, Nat.reduceSub] at hH); subst hF; subst hH
  refine M1 rfl ?_
  refine al_ef rfl (ef_callm false (fun _ => steplist_a 4 v zs _ hs (by omega) (by omega) (by omega) (by omega)) rfl .fn rfl (by decide) Tc9 rfl rfl (fun _g => .cons (.p rfl) (.cons (.c rfl) .nil)) (fun _g => .cons (.c rfl) (.cons (.c rfl) .nil)) (by simp)) ?_
  rintro F1 H1 ⟨_, _, _, _, ⟨l2, c2, a2, rfl, hq, hp2, hr2, hok2, hl2⟩, hF, hH⟩
  injection hq with hq1 hq2; subst hq1; subst hq2
  (try simp only [nsl, Nat.reduceAdd, Nat.reduceLT, Nat.reduceSub] at hF); (try simp only [nsl, Nat.reduceAdd, Nat.reduceLT, Nat.reduceSub] at hH); subst hF; subst hH
  refine M1 rfl ?_
  refine M1 rfl ?_
  refine al_nil ?_
  refine aseq_n ?_
  refine aw_wk (wk_of (K := fun F H => ∃ v1 v2, F = [(4, .c (prog_r v1 l1)), (5, .c (prog_r v2 l2))] ∧ H = []) [] (fun g => [(4, .c (prog_r (g (.o 1 0 l1.length c1)) l1)), (5, .c (prog_r (g (.o 2 0 l2.length c2)) l2))]) (fun _ => _) (by decide) (by rw [hE]; exact (fun _ hi => absurd hi (Nat.not_lt_zero _))) (fun _g => .cons rfl (.frz rfl rfl (by rw [List.drop_zero, List.take_of_length_le (by simp)]) (by simp) rfl) (.cons rfl (.frz rfl rfl (by rw [List.drop_zero, List.take_of_length_le (by simp)]) (by simp) rfl) .nil)) (by intro _g; (repeat first | exact K0 | apply K1 rfl | apply K2 rfl rfl | apply K2 rfl (by simp) | apply K3 | exact L0 | apply L1 | exact V1 rfl | exact V2 rfl | exact V3 rfl rfl | exact V4 | exact V5 rfl | exact V3 rfl (by first | (simp; omega) | simp) | exact V1 (by first | (simp; omega) | simp) | exact V6 rfl rfl (by first | rfl | simp) (by simp) rfl | apply V7 | apply V8 | apply V9); fail_if_success focus skip) (fun g => ⟨_, _, rfl, rfl⟩)) ?_
  rintro F H ⟨v1, v2, rfl, rfl⟩
  obtain ⟨AL, hAL⟩ : ∃ W, W = (if absF l1 = 0 then absS l1 else []) := ⟨_, rfl⟩
  obtain ⟨RL, hRL⟩ : ∃ W, W = (if relF l1 = 0 then relL l1 else []) := ⟨_, rfl⟩
  obtain ⟨SL, hSL⟩ : ∃ W, W = (if absF l1 = 0 then shortS (absS l1) else []) := ⟨_, rfl⟩
  obtain ⟨JL, hJL⟩ : ∃ W, W = (if joinedF l1 l2 = 0 then joinS l1 l2 else []) := ⟨_, rfl⟩
  have hAn : AL.length ≤ 1000 := by
    rw [hAL]; split
    · exact Nat.le_trans (absFrom_len _ _) (by omega)
    · simp
  have hRn : RL.length ≤ 1000 := by
    rw [hRL]; split
    · exact Nat.le_trans (headR_len _) (Nat.le_trans (Nat.succ_le_succ (relFrom_len _ _)) (by omega))
    · simp
  have hSn : SL.length ≤ 1000 := by
    rw [hSL]; split
    · exact Nat.le_trans (shortI_len _ _) (Nat.le_trans (absFrom_len _ _) (by omega))
    · simp
  have hJn : JL.length ≤ 1000 := by
    rw [hJL]; split
    · have := joinS_len l1 l2
      have := midS_len l1
      omega
    · simp
  obtain ⟨AF, hAF⟩ : ∃ p, p = absF l1 := ⟨_, rfl⟩
  obtain ⟨RF, hRF⟩ : ∃ p, p = relF l1 := ⟨_, rfl⟩
  obtain ⟨JF, hJF⟩ : ∃ p, p = joinedF l1 l2 := ⟨_, rfl⟩
  obtain ⟨p1, hP1⟩ : ∃ p, p = progF l1 := ⟨_, rfl⟩
  obtain ⟨p2, hP2⟩ : ∃ p, p = progF l2 := ⟨_, rfl⟩
  obtain ⟨e, he⟩ : ∃ e, e = (if p1 ≠ 0 then p1 else p2) := ⟨_, rfl⟩
  have hee : firstK [p1, p2] = e := by
    rw [he]; simp only [firstK]
    split
    · rfl
    · split
      · rfl
      · omega
  refine aw_seq ?_
  repeat with_reducible first | apply S1 | apply S2 | apply S3 | apply S4 | apply S5 | apply S6 | apply S7 | apply S8 | refine S0 rfl ?_ | apply SA | apply SB | apply SC
  refine aw_region ?_
  refine M1 rfl ?_
  refine al_ef rfl (ef_call0 false (fun _ => absolutex_a l1 v1 (by omega) hok1) rfl .fn rfl (by decide) Tc62 rfl (fun _ => C0 rfl) (by simp)) ?_
  rintro _ _ ⟨_, _, _, ⟨va, rfl, rfl⟩, hF, hH⟩
  rw [← hAL, ← hAF] at hF
  (try simp only [nsl, Nat.reduceAdd, Nat.reduceLT, Nat.reduceSub] at hF); (try simp only [nsl, Nat.reduceAdd, Nat.reduceLT, Nat.reduceSub] at hH); subst hF; subst hH
  refine M1 rfl ?_
  refine M1 rfl ?_
  refine M1 rfl ?_
  refine M1 rfl ?_
  refine M1 rfl ?_
  refine al_nil ?_
  repeat with_reducible first | apply S1 | apply S2 | apply S3 | apply S4 | apply S5 | apply S6 | apply S7 | apply S8 | refine S0 rfl ?_ | apply SA | apply SB | apply SC
  refine aw_region ?_
  refine M1 rfl ?_
  refine al_ef rfl (ef_call0 false (fun _ => relative_a l1 v1 (by omega) hok1) rfl .fn rfl (by decide) Tc63 rfl (fun _ => C0 rfl) (by simp)) ?_
  rintro _ _ ⟨_, _, _, ⟨vr, rfl, rfl⟩, hF, hH⟩
  rw [← hRL, ← hRF] at hF
  (try simp only [nsl, Nat.reduceAdd, Nat.reduceLT, Nat.reduceSub] at hF); (try simp only [nsl, Nat.reduceAdd, Nat.reduceLT, Nat.reduceSub] at hH); subst hF; subst hH
  refine M1 rfl ?_
  refine M1 rfl ?_
  refine M1 rfl ?_
  refine M1 rfl ?_
  refine M1 rfl ?_
  refine al_nil ?_
  repeat with_reducible first | apply S1 | apply S2 | apply S3 | apply S4 | apply S5 | apply S6 | apply S7 | apply S8 | refine S0 rfl ?_ | apply SA | apply SB | apply SC
  refine aw_region ?_
  refine M1 rfl ?_
  refine al_ef rfl (ef_call0 false (fun _ => short_a l1 v1 (by omega) hok1) rfl .fn rfl (by decide) Tc64 rfl (fun _ => C0 rfl) (by simp)) ?_
  rintro _ _ ⟨_, _, _, ⟨vs, rfl, rfl⟩, hF, hH⟩
  rw [← hSL, ← hAF] at hF
  (try simp only [nsl, Nat.reduceAdd, Nat.reduceLT, Nat.reduceSub] at hF); (try simp only [nsl, Nat.reduceAdd, Nat.reduceLT, Nat.reduceSub] at hH); subst hF; subst hH
  refine M1 rfl ?_
  refine M1 rfl ?_
  refine M1 rfl ?_
  refine M1 rfl ?_
  refine M1 rfl ?_
  refine al_nil ?_
  repeat with_reducible first | apply S1 | apply S2 | apply S3 | apply S4 | apply S5 | apply S6 | apply S7 | apply S8 | refine S0 rfl ?_ | apply SA | apply SB | apply SC
  refine aw_region ?_
  refine M1 rfl ?_
  refine M1 rfl ?_
  refine al_ef rfl (ef_call0 false (fun _ => joined_a l1 l2 v1 v2 (by omega) (by omega) hok1) rfl .fn rfl (by decide) Tc65 rfl (fun _ => C0 rfl) (by simp)) ?_
  rintro _ _ ⟨_, _, _, ⟨vj, rfl, rfl⟩, hF, hH⟩
  rw [← hJL, ← hJF] at hF
  (try simp only [nsl, Nat.reduceAdd, Nat.reduceLT, Nat.reduceSub] at hF); (try simp only [nsl, Nat.reduceAdd, Nat.reduceLT, Nat.reduceSub] at hH); subst hF; subst hH
  refine M1 rfl ?_
  refine M1 rfl ?_
  refine M1 rfl ?_
  refine M1 rfl ?_
  refine M1 rfl ?_
  refine al_nil ?_
  repeat with_reducible first | apply S1 | apply S2 | apply S3 | apply S4 | apply S5 | apply S6 | apply S7 | apply S8 | refine S0 rfl ?_ | apply SA | apply SB | apply SC
  refine aw_region ?_
  refine M1 rfl ?_
  refine al_ef rfl (ef_call0 false (fun _ => qsteps_a l1 v1 (by omega)) rfl .fn rfl (by decide) Tc10 rfl (fun _ => C0 rfl) (by simp)) ?_
  rintro _ _ ⟨_, _, _, ⟨rfl, rfl⟩, hF, hH⟩
  rw [← hP1] at hF
  (try simp only [nsl, Nat.reduceAdd, Nat.reduceLT, Nat.reduceSub] at hF); (try simp only [nsl, Nat.reduceAdd, Nat.reduceLT, Nat.reduceSub] at hH); subst hF; subst hH
  refine M1 rfl ?_
  refine al_nil ?_
  repeat with_reducible first | apply S1 | apply S2 | apply S3 | apply S4 | apply S5 | apply S6 | apply S7 | apply S8 | refine S0 rfl ?_ | apply SA | apply SB | apply SC
  refine aw_region ?_
  refine M1 rfl ?_
  refine M1 rfl ?_
  refine M1 rfl ?_
  refine M1 rfl ?_
  refine M1 rfl ?_
  refine al_ef rfl (ef_call0 false (fun _ => qsteps_a l2 v2 (by omega)) rfl .fn rfl (by decide) Tc10 rfl (fun _ => C0 rfl) (by simp)) ?_
  rintro _ _ ⟨_, _, _, ⟨rfl, rfl⟩, hF, hH⟩
  rw [← hP2] at hF
  (try simp only [nsl, Nat.reduceAdd, Nat.reduceLT, Nat.reduceSub] at hF); (try simp only [nsl, Nat.reduceAdd, Nat.reduceLT, Nat.reduceSub] at hH); subst hF; subst hH
  refine EA rfl (ef_buildSlicen rfl rfl (by decide) Te80 (.cons rfl rfl (.cons rfl rfl (.nil _))) rfl Tz28 rfl rfl (by simp) (by simp) (by (try simp only [nm, putL, Nat.reduceAdd, cellsOf, cvOf]) <;> rfl) (by (try simp only [nm, putL, Nat.reduceAdd, cellsOf, cvOf]) <;> rfl)) ?_
  refine al_ef rfl (ef_call0 true (fun g => errsk_a [p1, p2] (g (.o 0 0 2 2)) (by simp)) rfl .fn rfl (by decide) Tc19 rfl (by intro _g; (repeat first | exact K0 | apply K1 rfl | apply K2 rfl rfl | apply K2 rfl (by simp) | apply K3 | exact L0 | apply L1 | exact V1 rfl | exact V2 rfl | exact V3 rfl rfl | exact V4 | exact V5 rfl | exact V3 rfl (by first | (simp; omega) | simp) | exact V1 (by first | (simp; omega) | simp) | exact V6 rfl rfl (by first | rfl | simp) (by simp) rfl | apply V7 | apply V8 | apply V9); fail_if_success focus skip) (fun _ _ _ _ ⟨hu, hH⟩ => by rw [hu, hH]; exact ⟨.c (.inl trivial), fun _ h => by cases h⟩)) ?_
  rintro _ _ ⟨_, _, _, ⟨rfl, rfl⟩, hF, hH⟩
  rw [hee] at hF
  (try simp only [nsl, Nat.reduceAdd, Nat.reduceLT, Nat.reduceSub] at hF); (try simp only [nsl, Nat.reduceAdd, Nat.reduceLT, Nat.reduceSub] at hH); subst hF; subst hH
  refine M1 rfl ?_
  refine M1 rfl ?_
  refine M1 rfl ?_
  refine M1 rfl ?_
  refine al_nil ?_
  repeat with_reducible first | apply S1 | apply S2 | apply S3 | apply S4 | apply S5 | apply S6 | apply S7 | apply S8 | refine S0 rfl ?_ | apply SA | apply SB | apply SC
  refine aw_region ?_
  refine M1 rfl ?_
  refine M1 rfl ?_
  refine M1 rfl ?_
  refine M1 rfl ?_
  refine al_nil ?_
  repeat with_reducible first | apply S1 | apply S2 | apply S3 | apply S4 | apply S5 | apply S6 | apply S7 | apply S8 | refine S0 rfl ?_ | apply SA | apply SB | apply SC
  refine aw_region ?_
  refine M1 rfl ?_
  first | refine RA rfl rfl (by decide) (rd_eql_t rfl rfl rfl (by omega)) ?_ | refine RA rfl rfl (by decide) (rd_eql_f rfl rfl rfl (by omega)) ?_ | refine RA rfl rfl (by decide) (rd_eql rfl rfl rfl) ?_
  refine al_nil ?_
  refine aseq_n ?_
  refine aw_cut (fun F H => ∃ wa wr ws, F = [(4, .c (prog_r v1 l1)), (5, .c (prog_r v2 l2)), (6, .c (prog_r va AL)), (7, .c (I AF)), (8, .c (prog_r vr RL)), (9, .c (I RF)), (10, .c (prog_r vs SL)), (11, .c (I AF)), (12, .c (prog_r vj JL)), (13, .c (I JF)), (15, .c (I AF)), (16, .c (I RF)), (17, .c (I AF)), (18, .c (I e)), (19, .c (prog_r wa AL)), (20, .c (prog_r wr RL)), (21, .c (prog_r ws SL)), (22, .c (.r (.slice none 0 0) []))] ∧ H = []) ?_ ?_ wk_aw
  · refine aw_if rfl (fun h0 => ?_) (fun h0 => ?_)
    · have hz : progF l1 = 0 := by omega
      rw [show absF l1 = progF (absS l1) from by unfold absF; rw [if_neg (by omega)]] at hAL hSL hAF
      rw [show relF l1 = progF (relL l1) from by unfold relF; rw [if_neg (by omega)]] at hRL hRF
      repeat with_reducible first | apply S1 | apply S2 | apply S3 | apply S4 | apply S5 | apply S6 | apply S7 | apply S8 | refine S0 rfl ?_ | apply SA | apply SB | apply SC
      refine aw_region ?_
      refine M1 rfl ?_
      refine al_ef rfl (ef_call0 false (fun _ => qabsof_a l1 v1 (by omega) hok1) rfl .fn rfl (by decide) Tc12 rfl (fun _ => C0 rfl) (by simp)) ?_
      rintro _ _ ⟨_, _, _, ⟨wa, rfl, rfl⟩, hF, hH⟩
      rw [← hAL, ← hAF] at hF
      (try simp only [nsl, Nat.reduceAdd, Nat.reduceLT, Nat.reduceSub] at hF); (try simp only [nsl, Nat.reduceAdd, Nat.reduceLT, Nat.reduceSub] at hH); subst hF; subst hH
      refine M1 rfl ?_
      refine M1 rfl ?_
      refine M1 rfl ?_
      refine M1 rfl ?_
      refine M1 rfl ?_
      refine al_nil ?_
      repeat with_reducible first | apply S1 | apply S2 | apply S3 | apply S4 | apply S5 | apply S6 | apply S7 | apply S8 | refine S0 rfl ?_ | apply SA | apply SB | apply SC
      refine aw_region ?_
      refine M1 rfl ?_
      refine al_ef rfl (ef_call0 false (fun _ => qrelative_a l1 v1 (by omega) hok1) rfl .fn rfl (by decide) Tc66 rfl (fun _ => C0 rfl) (by simp)) ?_
      rintro _ _ ⟨_, _, _, ⟨wr, rfl, rfl⟩, hF, hH⟩
      rw [← hRL, ← hRF] at hF
      (try simp only [nsl, Nat.reduceAdd, Nat.reduceLT, Nat.reduceSub] at hF); (try simp only [nsl, Nat.reduceAdd, Nat.reduceLT, Nat.reduceSub] at hH); subst hF; subst hH
      refine M1 rfl ?_
      refine M1 rfl ?_
      refine M1 rfl ?_
      refine M1 rfl ?_
      refine M1 rfl ?_
      refine al_nil ?_
      repeat with_reducible first | apply S1 | apply S2 | apply S3 | apply S4 | apply S5 | apply S6 | apply S7 | apply S8 | refine S0 rfl ?_ | apply SA | apply SB | apply SC
      refine aw_region ?_
      refine M1 rfl ?_
      refine al_ef rfl (ef_call0 false (fun _ => qshort_a l1 v1 (by omega) hok1) rfl .fn rfl (by decide) Tc67 rfl (fun _ => C0 rfl) (by simp)) ?_
      rintro _ _ ⟨_, _, _, ⟨ws, rfl, rfl⟩, hF, hH⟩
      rw [← hSL, ← hAF] at hF
      (try simp only [nsl, Nat.reduceAdd, Nat.reduceLT, Nat.reduceSub] at hF); (try simp only [nsl, Nat.reduceAdd, Nat.reduceLT, Nat.reduceSub] at hH); subst hF; subst hH
      refine M1 rfl ?_
      refine M1 rfl ?_
      refine M1 rfl ?_
      refine M1 rfl ?_
      refine M1 rfl ?_
      refine al_nil ?_
      repeat with_reducible first | apply S1 | apply S2 | apply S3 | apply S4 | apply S5 | apply S6 | apply S7 | apply S8 | refine S0 rfl ?_ | apply SA | apply SB | apply SC
      refine wk_of [] (fun _ => [(4, .c (prog_r v1 l1)), (5, .c (prog_r v2 l2)), (6, .c (prog_r va AL)), (7, .c (I AF)), (8, .c (prog_r vr RL)), (9, .c (I RF)), (10, .c (prog_r vs SL)), (11, .c (I AF)), (12, .c (prog_r vj JL)), (13, .c (I JF)), (15, .c (I AF)), (16, .c (I RF)), (17, .c (I AF)), (18, .c (I e)), (19, .c (prog_r wa AL)), (20, .c (prog_r wr RL)), (21, .c (prog_r ws SL)), (22, .c (.r (.slice none 0 0) []))]) (fun _ => _) (by decide) (by rw [hE]; first | exact (fun _ hi => absurd hi (Nat.not_lt_zero _)) | exact (fun i hi => by (have hi : i < 1 := hi); (have h0 : i = 0 := (by omega)); (subst h0); rfl)) (by intro _g; (repeat first | exact W0 | apply W1 rfl | exact L0 | apply L1 | exact V1 rfl | exact V2 rfl | exact V3 rfl rfl | exact V4 | exact V5 rfl | exact V3 rfl (by first | (simp; omega) | simp) | exact V1 (by first | (simp; omega) | simp) | exact V6 rfl rfl (by first | rfl | simp) (by simp) rfl | apply V7 | apply V8 | apply V9 | refine V1 ?_ | refine V3 rfl ?_); fail_if_success focus skip) (fun _ => .nil) (fun _ => ?_)
      exact ⟨wa, wr, ws, rfl, rfl⟩
    · have hz : ¬ progF l1 = 0 := by omega
      rw [show absF l1 = progF l1 from by unfold absF; rw [if_pos hz]] at hAL hSL hAF
      rw [show relF l1 = progF l1 from by unfold relF; rw [if_pos hz]] at hRL hRF
      rw [if_neg hz] at hAL hSL hRL
      subst hAL; subst hSL; subst hRL
      obtain rfl : AF = p1 := by omega
      obtain rfl : RF = AF := by omega
      repeat with_reducible first | apply S1 | apply S2 | apply S3 | apply S4 | apply S5 | apply S6 | apply S7 | apply S8 | refine S0 rfl ?_ | apply SA | apply SB | apply SC
      refine wk_of [] (fun _ => [(4, .c (prog_r v1 l1)), (5, .c (prog_r v2 l2)), (6, .c (prog_r va [])), (7, .c (I RF)), (8, .c (prog_r vr [])), (9, .c (I RF)), (10, .c (prog_r vs [])), (11, .c (I RF)), (12, .c (prog_r vj JL)), (13, .c (I JF)), (15, .c (I RF)), (16, .c (I RF)), (17, .c (I RF)), (18, .c (I e)), (19, .c (prog_r (.slice none 0 0) [])), (20, .c (prog_r (.slice none 0 0) [])), (21, .c (prog_r (.slice none 0 0) [])), (22, .c (.r (.slice none 0 0) []))]) (fun _ => _) (by decide) (by rw [hE]; first | exact (fun _ hi => absurd hi (Nat.not_lt_zero _)) | exact (fun i hi => by (have hi : i < 1 := hi); (have h0 : i = 0 := (by omega)); (subst h0); rfl)) (by intro _g; (repeat first | exact W0 | apply W1 rfl | exact L0 | apply L1 | exact V1 rfl | exact V2 rfl | exact V3 rfl rfl | exact V4 | exact V5 rfl | exact V3 rfl (by first | (simp; omega) | simp) | exact V1 (by first | (simp; omega) | simp) | exact V6 rfl rfl (by first | rfl | simp) (by simp) rfl | apply V7 | apply V8 | apply V9 | refine V1 ?_ | refine V3 rfl ?_); fail_if_success focus skip) (fun _ => .nil) (fun _ => ?_)
      exact ⟨_, _, _, rfl, rfl⟩
  rintro F H ⟨wa, wr, ws, rfl, rfl⟩
  repeat with_reducible first | apply S1 | apply S2 | apply S3 | apply S4 | apply S5 | apply S6 | apply S7 | apply S8 | refine S0 rfl ?_ | apply SA | apply SB | apply SC
  refine aw_region ?_
  refine M1 rfl ?_
  first | refine RA rfl rfl (by decide) (rd_eql_t rfl rfl rfl (by omega)) ?_ | refine RA rfl rfl (by decide) (rd_eql_f rfl rfl rfl (by omega)) ?_ | refine RA rfl rfl (by decide) (rd_eql rfl rfl rfl) ?_
  refine al_nil ?_
  refine aseq_n ?_
  refine aw_cut (fun F H => ∃ wj, F = [(6, .c (prog_r va AL)), (7, .c (I AF)), (8, .c (prog_r vr RL)), (9, .c (I RF)), (10, .c (prog_r vs SL)), (11, .c (I AF)), (12, .c (prog_r vj JL)), (13, .c (I JF)), (15, .c (I AF)), (16, .c (I RF)), (17, .c (I AF)), (18, .c (I JF)), (19, .c (prog_r wa AL)), (20, .c (prog_r wr RL)), (21, .c (prog_r ws SL)), (22, .c (prog_r wj JL))] ∧ H = []) ?_ ?_ wk_aw
  · refine aw_if rfl (fun h0 => ?_) (fun h0 => ?_)
    · have h1 : p1 = 0 ∧ p2 = 0 := by
        rw [h0] at he
        split at he <;> omega
      rw [show joinedF l1 l2 = joinF l1 l2 from by unfold joinedF; rw [if_neg (by omega), if_neg (by omega)]] at hJL hJF
      repeat with_reducible first | apply S1 | apply S2 | apply S3 | apply S4 | apply S5 | apply S6 | apply S7 | apply S8 | refine S0 rfl ?_ | apply SA | apply SB | apply SC
      refine aw_region ?_
      refine M1 rfl ?_
      refine M1 rfl ?_
      refine al_ef rfl (ef_call0 false (fun _ => qjoined_a l1 l2 v1 v2 (by omega) (by omega) hok1) rfl .fn rfl (by decide) Tc68 rfl (fun _ => C0 rfl) (by simp)) ?_
      rintro _ _ ⟨_, _, _, ⟨wj, rfl, rfl⟩, hF, hH⟩
      rw [← hJL, ← hJF] at hF
      (try simp only [nsl, Nat.reduceAdd, Nat.reduceLT, Nat.reduceSub] at hF); (try simp only [nsl, Nat.reduceAdd, Nat.reduceLT, Nat.reduceSub] at hH); subst hF; subst hH
      refine M1 rfl ?_
      refine M1 rfl ?_
      refine M1 rfl ?_
      refine M1 rfl ?_
      refine M1 rfl ?_
      refine al_nil ?_
      repeat with_reducible first | apply S1 | apply S2 | apply S3 | apply S4 | apply S5 | apply S6 | apply S7 | apply S8 | refine S0 rfl ?_ | apply SA | apply SB | apply SC
      refine wk_of [] (fun _ => [(6, .c (prog_r va AL)), (7, .c (I AF)), (8, .c (prog_r vr RL)), (9, .c (I RF)), (10, .c (prog_r vs SL)), (11, .c (I AF)), (12, .c (prog_r vj JL)), (13, .c (I JF)), (15, .c (I AF)), (16, .c (I RF)), (17, .c (I AF)), (18, .c (I JF)), (19, .c (prog_r wa AL)), (20, .c (prog_r wr RL)), (21, .c (prog_r ws SL)), (22, .c (prog_r wj JL))]) (fun _ => _) (by decide) (by rw [hE]; first | exact (fun _ hi => absurd hi (Nat.not_lt_zero _)) | exact (fun i hi => by (have hi : i < 1 := hi); (have h0 : i = 0 := (by omega)); (subst h0); rfl)) (by intro _g; (repeat first | exact W0 | apply W1 rfl | exact L0 | apply L1 | exact V1 rfl | exact V2 rfl | exact V3 rfl rfl | exact V4 | exact V5 rfl | exact V3 rfl (by first | (simp; omega) | simp) | exact V1 (by first | (simp; omega) | simp) | exact V6 rfl rfl (by first | rfl | simp) (by simp) rfl | apply V7 | apply V8 | apply V9 | refine V1 ?_ | refine V3 rfl ?_); fail_if_success focus skip) (fun _ => .nil) (fun _ => ?_)
      exact ⟨wj, rfl, rfl⟩
    · have hj : joinedF l1 l2 = e := by
        unfold joinedF
        rw [← hP1, ← hP2]
        rw [he] at h0 ⊢
        split
        · rfl
        · rename_i h2
          rw [if_neg h2] at h0
          rw [if_pos h0]
      rw [hj] at hJF hJL
      rw [if_neg h0] at hJL
      subst hJL
      obtain rfl : JF = e := hJF
      repeat with_reducible first | apply S1 | apply S2 | apply S3 | apply S4 | apply S5 | apply S6 | apply S7 | apply S8 | refine S0 rfl ?_ | apply SA | apply SB | apply SC
      refine wk_of [] (fun _ => [(6, .c (prog_r va AL)), (7, .c (I AF)), (8, .c (prog_r vr RL)), (9, .c (I RF)), (10, .c (prog_r vs SL)), (11, .c (I AF)), (12, .c (prog_r vj [])), (13, .c (I JF)), (15, .c (I AF)), (16, .c (I RF)), (17, .c (I AF)), (18, .c (I JF)), (19, .c (prog_r wa AL)), (20, .c (prog_r wr RL)), (21, .c (prog_r ws SL)), (22, .c (prog_r (.slice none 0 0) []))]) (fun _ => _) (by decide) (by rw [hE]; first | exact (fun _ hi => absurd hi (Nat.not_lt_zero _)) | exact (fun i hi => by (have hi : i < 1 := hi); (have h0 : i = 0 := (by omega)); (subst h0); rfl)) (by intro _g; (repeat first | exact W0 | apply W1 rfl | exact L0 | apply L1 | exact V1 rfl | exact V2 rfl | exact V3 rfl rfl | exact V4 | exact V5 rfl | exact V3 rfl (by first | (simp; omega) | simp) | exact V1 (by first | (simp; omega) | simp) | exact V6 rfl rfl (by first | rfl | simp) (by simp) rfl | apply V7 | apply V8 | apply V9 | refine V1 ?_ | refine V3 rfl ?_); fail_if_success focus skip) (fun _ => .nil) (fun _ => ?_)
      exact ⟨_, rfl, rfl⟩
  rintro F H ⟨wj, rfl, rfl⟩
  repeat with_reducible first | apply S1 | apply S2 | apply S3 | apply S4 | apply S5 | apply S6 | apply S7 | apply S8 | refine S0 rfl ?_ | apply SA | apply SB | apply SC
  refine aw_region ?_
  refine M1 rfl ?_
  refine M1 rfl ?_
  first | refine RA rfl rfl (by decide) (rd_eql_t rfl rfl rfl (by omega)) ?_ | refine RA rfl rfl (by decide) (rd_eql_f rfl rfl rfl (by omega)) ?_ | refine RA rfl rfl (by decide) (rd_eql rfl rfl rfl) ?_
  refine M1 rfl ?_
  first | (refine G1 rfl ?_; refine M1 rfl ?_) | refine G2 rfl rfl (by decide) ?_
  first | (refine G1 rfl ?_; refine M1 rfl ?_) | refine G2 rfl rfl (by decide) ?_
  first | refine G2 rfl rfl (by decide) ?_ | (refine G1 rfl ?_; refine al_ef rfl (ef_call0 false (fun _ => eqS_a AL AL va wa (by omega) (by omega)) rfl .fn rfl (by decide) Tc61 rfl (fun _ => C0 rfl) (by simp)) ?_; rintro _ _ ⟨_, _, _, ⟨bm, rfl, rfl, hbm⟩, hF, hH⟩; obtain rfl : bm = true := hbm.2 rfl; (try simp only [nsl, Nat.reduceAdd, Nat.reduceLT, Nat.reduceSub] at hF); (try simp only [nsl, Nat.reduceAdd, Nat.reduceLT, Nat.reduceSub] at hH); subst hF; subst hH)
  refine M1 rfl ?_
  refine M1 rfl ?_
  first | (refine G1 rfl ?_; refine M1 rfl ?_) | refine G2 rfl rfl (by decide) ?_
  first | (refine G1 rfl ?_; refine M1 rfl ?_) | refine G2 rfl rfl (by decide) ?_
  first | (refine G1 rfl ?_; (first | refine RA rfl rfl (by decide) (rd_eql_t rfl rfl rfl (by omega)) ?_ | refine RA rfl rfl (by decide) (rd_eql_f rfl rfl rfl (by omega)) ?_ | refine RA rfl rfl (by decide) (rd_eql rfl rfl rfl) ?_)) | refine G2 rfl rfl (by decide) ?_
  refine M1 rfl ?_
  refine M1 rfl ?_
  first | (refine G1 rfl ?_; refine M1 rfl ?_) | refine G2 rfl rfl (by decide) ?_
  first | (refine G1 rfl ?_; refine M1 rfl ?_) | refine G2 rfl rfl (by decide) ?_
  first | refine G2 rfl rfl (by decide) ?_ | (refine G1 rfl ?_; refine al_ef rfl (ef_call0 false (fun _ => eqS_a RL RL vr wr (by omega) (by omega)) rfl .fn rfl (by decide) Tc61 rfl (fun _ => C0 rfl) (by simp)) ?_; rintro _ _ ⟨_, _, _, ⟨bm, rfl, rfl, hbm⟩, hF, hH⟩; obtain rfl : bm = true := hbm.2 rfl; (try simp only [nsl, Nat.reduceAdd, Nat.reduceLT, Nat.reduceSub] at hF); (try simp only [nsl, Nat.reduceAdd, Nat.reduceLT, Nat.reduceSub] at hH); subst hF; subst hH)
  refine M1 rfl ?_
  refine M1 rfl ?_
  first | (refine G1 rfl ?_; refine M1 rfl ?_) | refine G2 rfl rfl (by decide) ?_
  first | (refine G1 rfl ?_; refine M1 rfl ?_) | refine G2 rfl rfl (by decide) ?_
  first | (refine G1 rfl ?_; (first | refine RA rfl rfl (by decide) (rd_eql_t rfl rfl rfl (by omega)) ?_ | refine RA rfl rfl (by decide) (rd_eql_f rfl rfl rfl (by omega)) ?_ | refine RA rfl rfl (by decide) (rd_eql rfl rfl rfl) ?_)) | refine G2 rfl rfl (by decide) ?_
  refine M1 rfl ?_
  refine M1 rfl ?_
  first | (refine G1 rfl ?_; refine M1 rfl ?_) | refine G2 rfl rfl (by decide) ?_
  first | (refine G1 rfl ?_; refine M1 rfl ?_) | refine G2 rfl rfl (by decide) ?_
  first | refine G2 rfl rfl (by decide) ?_ | (refine G1 rfl ?_; refine al_ef rfl (ef_call0 false (fun _ => eqS_a SL SL vs ws (by omega) (by omega)) rfl .fn rfl (by decide) Tc61 rfl (fun _ => C0 rfl) (by simp)) ?_; rintro _ _ ⟨_, _, _, ⟨bm, rfl, rfl, hbm⟩, hF, hH⟩; obtain rfl : bm = true := hbm.2 rfl; (try simp only [nsl, Nat.reduceAdd, Nat.reduceLT, Nat.reduceSub] at hF); (try simp only [nsl, Nat.reduceAdd, Nat.reduceLT, Nat.reduceSub] at hH); subst hF; subst hH)
  refine M1 rfl ?_
  refine M1 rfl ?_
  first | (refine G1 rfl ?_; refine M1 rfl ?_) | refine G2 rfl rfl (by decide) ?_
  first | (refine G1 rfl ?_; refine M1 rfl ?_) | refine G2 rfl rfl (by decide) ?_
  first | (refine G1 rfl ?_; (first | refine RA rfl rfl (by decide) (rd_eql_t rfl rfl rfl (by omega)) ?_ | refine RA rfl rfl (by decide) (rd_eql_f rfl rfl rfl (by omega)) ?_ | refine RA rfl rfl (by decide) (rd_eql rfl rfl rfl) ?_)) | refine G2 rfl rfl (by decide) ?_
  refine M1 rfl ?_
  refine M1 rfl ?_
  first | (refine G1 rfl ?_; refine M1 rfl ?_) | refine G2 rfl rfl (by decide) ?_
  first | (refine G1 rfl ?_; refine M1 rfl ?_) | refine G2 rfl rfl (by decide) ?_
  first | refine G2 rfl rfl (by decide) ?_ | (refine G1 rfl ?_; refine al_ef rfl (ef_call0 false (fun _ => eqS_a JL JL vj wj (by omega) (by omega)) rfl .fn rfl (by decide) Tc61 rfl (fun _ => C0 rfl) (by simp)) ?_; rintro _ _ ⟨_, _, _, ⟨bm, rfl, rfl, hbm⟩, hF, hH⟩; obtain rfl : bm = true := hbm.2 rfl; (try simp only [nsl, Nat.reduceAdd, Nat.reduceLT, Nat.reduceSub] at hF); (try simp only [nsl, Nat.reduceAdd, Nat.reduceLT, Nat.reduceSub] at hH); subst hF; subst hH)
  refine M1 rfl ?_
  refine M1 rfl ?_
  first | refine G2 rfl rfl (by decide) ?_ | (refine G1 rfl ?_; refine al_ef rfl (ef_call0 false (fun _ => codedk_a) rfl .fn rfl (by decide) Tc25 rfl (fun _ => C0 rfl) (by simp)) ?_; rintro _ _ ⟨_, _, _, ⟨rfl, rfl⟩, hF, hH⟩; (try simp only [nsl, Nat.reduceAdd, Nat.reduceLT, Nat.reduceSub] at hF); (try simp only [nsl, Nat.reduceAdd, Nat.reduceLT, Nat.reduceSub] at hH); subst hF; subst hH)
  refine M1 rfl ?_
  refine M1 rfl ?_
  refine al_nil ?_
  repeat with_reducible first | apply S1 | apply S2 | apply S3 | apply S4 | apply S5 | apply S6 | apply S7 | apply S8 | refine S0 rfl ?_ | apply SA | apply SB | apply SC
  exact aret_1 [] _ rfl rfl rfl (by decide) (fun _ hi => absurd hi (Nat.not_lt_zero _)) (fun _ => .nil) rfl
end Go.Proofs.Ytpbedckdnoogpaa
