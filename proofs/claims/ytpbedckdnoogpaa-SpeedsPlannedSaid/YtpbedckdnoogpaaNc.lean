/- The law SpeedsPlanned, walked. -/
import Derived.Test.YtpbedckdnoogpaaNb
import Derived.Test.YtpbedckdnoogpaaMk
set_option linter.unusedSimpArgs false
set_option linter.unusedVariables false
namespace Go.Proofs.Ytpbedckdnoogpaa
open Go Go.RowKit
set_option maxRecDepth 100000
theorem rd_eqlb_tk {P : Program} {N : Nat} {E : Env} {o : Oper} {F : Fm} {H : List OB} {x y : Operand} {t yt : TypeId} {b : Bool} (ho : o.op = .binOp .eql t x y yt) (hx : ev F x = some (.c (.s (.bool b)))) (hy : ev F y = some (.c (.s (.bool b)))) (ht : P.underlying t = some .bool) : Rd P N E o F H (.c (.s (.bool true))) := by
  have h := rd_eqlb (P := P) (N := N) (E := E) (H := H) ho hx hy ht
  rwa [beq_self_eq_true] at h
theorem given_eq0 {l : List Leg} {cs q : List Int} {ch : Int} (h : q.length = l.length + 1) : firstK [faultL l cs ch, 0] = givenF l cs q ch := by
  have h1 : (q.length : Int) = l.length + 1 := by omega
  by_cases h0 : faultL l cs ch = 0 <;> simp [firstK, givenF, h0, h1]
theorem given_eq3 {l : List Leg} {cs q : List Int} {ch : Int} (h : ¬ q.length = l.length + 1) : firstK [faultL l cs ch, 3] = givenF l cs q ch := by
  have h1 : ¬ (q.length : Int) = l.length + 1 := by omega
  by_cases h0 : faultL l cs ch = 0 <;> simp [firstK, givenF, h0, h1]
theorem law_speeds (v : Value) (zs : List Int) (hs : StrOk zs) : ACalls Try.prog 5 [.c (.r v (zs.map fun z => [I z]))] [] fun u H => u = .c (B true) := by
  refine acalls_of (N := 135) Try.func5 rfl rfl (by simp) fun E hE => ?_
  repeat with_reducible first | refine S1 ?_ | refine S2 ?_ | refine S3 ?_ | refine S4 ?_ | refine S5 ?_ | refine S6 ?_ | refine S7 ?_ | refine S8 ?_ | refine S9 rfl ?_ | refine SA ?_ | refine SB ?_ | refine SC ?_
  refine aw_region ?_
  refine RA rfl rfl (by decide) (rd_assign rfl rfl) ?_
  refine al_nil ?_
  repeat with_reducible first | refine S1 ?_ | refine S2 ?_ | refine S3 ?_ | refine S4 ?_ | refine S5 ?_ | refine S6 ?_ | refine S7 ?_ | refine S8 ?_ | refine S9 rfl ?_ | refine SA ?_ | refine SB ?_ | refine SC ?_
  refine aw_region ?_
  refine RA rfl rfl (by decide) (rd_move rfl rfl) ?_
  refine RA rfl rfl (by decide) (rd_build rfl Tz25 rfl Tb25 (.cons rfl rfl rfl (by simp) rfl (by (try simp only [nm, putL, Nat.reduceAdd, cellsOf, cvOf]) <;> rfl) (.nil))) ?_
  refine EA rfl (ef_boxn rfl rfl (by decide) rfl (by (try simp only [nm, putL, Nat.reduceAdd, cellsOf, cvOf]) <;> rfl) rfl (by (try simp only [nm, putL, Nat.reduceAdd, cellsOf, cvOf]) <;> rfl) (by (try simp only [nm, putL, Nat.reduceAdd, cellsOf, cvOf]) <;> rfl)) ?_
  refine RA rfl rfl (by decide) (rd_assign rfl rfl) ?_
  refine al_nil ?_
  repeat with_reducible first | refine S1 ?_ | refine S2 ?_ | refine S3 ?_ | refine S4 ?_ | refine S5 ?_ | refine S6 ?_ | refine S7 ?_ | refine S8 ?_ | refine S9 rfl ?_ | refine SA ?_ | refine SB ?_ | refine SC ?_
  repeat with_reducible first | refine S1 ?_ | refine S2 ?_ | refine S3 ?_ | refine S4 ?_ | refine S5 ?_ | refine S6 ?_ | refine S7 ?_ | refine S8 ?_ | refine S9 rfl ?_ | refine SA ?_ | refine SB ?_ | refine SC ?_
  refine aw_region ?_
  refine RA rfl rfl (by decide) (rd_move rfl rfl) ?_
  refine al_ef rfl (ef_callm false (fun _ => leglist_a 8 v zs _ hs (by omega) (by omega) (by omega) (by omega)) rfl .fn rfl (by decide) Tc26 rfl rfl (fun _g => .cons (.p rfl) (.cons (.c rfl) .nil)) (fun _g => .cons (.c rfl) (.cons (.c rfl) .nil)) (by simp)) ?_
  rintro F1 H1 ⟨_, _, _, _, ⟨vl, l, al, rfl, hq, hl1, hl2, hl3⟩, hF, hH⟩
  injection hq with hq1 hq2; subst hq1; subst hq2
  (try simp only [nsl, Nat.reduceAdd, Nat.reduceLT, Nat.reduceSub] at hF); (try simp only [nsl, Nat.reduceAdd, Nat.reduceLT, Nat.reduceSub] at hH); subst hF; subst hH
  have e1 : (l.map Leg.row).length = l.length := by simp
  refine RA rfl rfl (by decide) (rd_assign rfl rfl) ?_
  refine al_nil ?_
  repeat with_reducible first | refine S1 ?_ | refine S2 ?_ | refine S3 ?_ | refine S4 ?_ | refine S5 ?_ | refine S6 ?_ | refine S7 ?_ | refine S8 ?_ | refine S9 rfl ?_ | refine SA ?_ | refine SB ?_ | refine SC ?_
  repeat with_reducible first | refine S1 ?_ | refine S2 ?_ | refine S3 ?_ | refine S4 ?_ | refine S5 ?_ | refine S6 ?_ | refine S7 ?_ | refine S8 ?_ | refine S9 rfl ?_ | refine SA ?_ | refine SB ?_ | refine SC ?_
  refine aw_region ?_
  refine RA rfl rfl (by decide) (rd_move rfl rfl) ?_
  refine RA rfl rfl (by decide) (rd_move rfl rfl) ?_
  first | refine RA rfl rfl (by decide) (rd_len rfl Te54 rfl) ?_ | refine RA rfl rfl (by decide) (rd_lenr rfl Te54 rfl) ?_
  refine al_ef rfl (ef_callm false (fun _ => cornerlist_a (l.map Leg.row).length v zs _ hs (by omega) (by omega) (by omega) (by omega)) rfl .fn rfl (by decide) Tc27 rfl rfl (fun _g => .cons (.p rfl) (.cons (.c rfl) .nil)) (fun _g => .cons (.c rfl) (.cons (.c rfl) .nil)) (by simp)) ?_
  rintro F1 H1 ⟨_, _, _, _, ⟨vc, cs, ac, rfl, hq, hc1, hc2, hc3⟩, hF, hH⟩
  injection hq with hq1 hq2; subst hq1; subst hq2
  (try simp only [nsl, Nat.reduceAdd, Nat.reduceLT, Nat.reduceSub] at hF); (try simp only [nsl, Nat.reduceAdd, Nat.reduceLT, Nat.reduceSub] at hH); subst hF; subst hH
  refine RA rfl rfl (by decide) (rd_move rfl rfl) ?_
  refine al_ef rfl (ef_callm false (fun _ => change_a v zs _ hs (by omega) (by omega)) rfl .fn rfl (by decide) Tc28 rfl rfl (fun _g => .cons (.p rfl) .nil) (fun _g => .cons (.c rfl) (.cons (.c rfl) .nil)) (by simp)) ?_
  rintro F1 H1 ⟨_, _, _, _, ⟨ch, rfl, hq, hch⟩, hF, hH⟩
  injection hq with hq1 hq2; subst hq1; subst hq2
  (try simp only [nsl, Nat.reduceAdd, Nat.reduceLT, Nat.reduceSub] at hF); (try simp only [nsl, Nat.reduceAdd, Nat.reduceLT, Nat.reduceSub] at hH); subst hF; subst hH
  refine RA rfl rfl (by decide) (rd_assign rfl rfl) ?_
  refine RA rfl rfl (by decide) (rd_assign rfl rfl) ?_
  refine al_nil ?_
  repeat with_reducible first | refine S1 ?_ | refine S2 ?_ | refine S3 ?_ | refine S4 ?_ | refine S5 ?_ | refine S6 ?_ | refine S7 ?_ | refine S8 ?_ | refine S9 rfl ?_ | refine SA ?_ | refine SB ?_ | refine SC ?_
  repeat with_reducible first | refine S1 ?_ | refine S2 ?_ | refine S3 ?_ | refine S4 ?_ | refine S5 ?_ | refine S6 ?_ | refine S7 ?_ | refine S8 ?_ | refine S9 rfl ?_ | refine SA ?_ | refine SB ?_ | refine SC ?_
  refine aw_region ?_
  refine RA rfl rfl (by decide) (rd_move rfl rfl) ?_
  refine RA rfl rfl (by decide) (rd_move rfl rfl) ?_
  refine RA rfl rfl (by decide) (rd_move rfl rfl) ?_
  refine RA rfl rfl (by decide) (rd_move rfl rfl) ?_
  refine al_ef rfl (ef_callm false (fun _ => speedlist_a l cs ch vl vc v zs _ hs (by omega) (by omega) (by omega) (by omega)) rfl .fn rfl (by decide) Tc41 rfl rfl (fun _g => .cons (.p rfl) (.cons (.c rfl) (.cons (.c rfl) (.cons (.c rfl) .nil)))) (fun _g => .cons (.c rfl) (.cons (.c rfl) .nil)) (by simp)) ?_
  rintro F1 H1 ⟨_, _, _, _, ⟨vq, q, aq, rfl, hq, hq3⟩, hF, hH⟩
  injection hq with hq1 hq2; subst hq1; subst hq2
  (try simp only [nsl, Nat.reduceAdd, Nat.reduceLT, Nat.reduceSub] at hF); (try simp only [nsl, Nat.reduceAdd, Nat.reduceLT, Nat.reduceSub] at hH); subst hF; subst hH
  refine RA rfl rfl (by decide) (rd_assign rfl rfl) ?_
  refine al_nil ?_
  repeat with_reducible first | refine S1 ?_ | refine S2 ?_ | refine S3 ?_ | refine S4 ?_ | refine S5 ?_ | refine S6 ?_ | refine S7 ?_ | refine S8 ?_ | refine S9 rfl ?_ | refine SA ?_ | refine SB ?_ | refine SC ?_
  have e3 : (q.map fun z => [I z]).length = q.length := by simp
  obtain ⟨Pa, hPa⟩ : ∃ W, W = (if faultL l cs ch = 0 then speedsS l cs ch else []) := ⟨_, rfl⟩
  obtain ⟨p1, hp1⟩ : ∃ p, p = faultL l cs ch := ⟨_, rfl⟩
  obtain ⟨g, hg⟩ : ∃ p, p = givenF l cs q ch := ⟨_, rfl⟩
  have hWl : Pa.length ≤ 1000 := by
    rw [hPa]
    split
    · rw [speedsS_len]; omega
    · simp
  repeat with_reducible first | refine S1 ?_ | refine S2 ?_ | refine S3 ?_ | refine S4 ?_ | refine S5 ?_ | refine S6 ?_ | refine S7 ?_ | refine S8 ?_ | refine S9 rfl ?_ | refine SA ?_ | refine SB ?_ | refine SC ?_
  refine aw_region ?_
  refine RA rfl rfl (by decide) (rd_move rfl rfl) ?_
  refine RA rfl rfl (by decide) (rd_move rfl rfl) ?_
  refine RA rfl rfl (by decide) (rd_move rfl rfl) ?_
  refine al_ef rfl (ef_call0 false (fun _ => speedsx_a l cs ch vl vc (by omega) (by omega)) rfl .fn rfl (by decide) Tc42 rfl (by intro _g; (repeat first | exact K0 | apply K1 rfl | apply K2 rfl rfl | apply K2 rfl (by simp) | apply K3 | exact L0 | apply L1 | exact V1 rfl | exact V2 rfl | exact V3 rfl rfl | exact V4 | exact V5 rfl | exact V3 rfl (by simp; omega) | exact V1 (by simp; omega) | exact V3 rfl (by simp) | exact V1 (by simp) | exact V6 rfl rfl (by first | rfl | simp) (by simp) rfl | apply V7 | apply V8 | apply V9); fail_if_success focus skip) (by simp)) ?_
  rintro _ _ ⟨_, _, _, ⟨va, rfl, rfl⟩, hF, hH⟩
  rw [← hPa, ← hp1] at hF
  (try simp only [nsl, Nat.reduceAdd, Nat.reduceLT, Nat.reduceSub] at hF); (try simp only [nsl, Nat.reduceAdd, Nat.reduceLT, Nat.reduceSub] at hH); subst hF; subst hH
  refine RA rfl rfl (by decide) (rd_move rfl rfl) ?_
  refine RA rfl rfl (by decide) (rd_extract rfl rfl rfl) ?_
  refine RA rfl rfl (by decide) (rd_extract rfl rfl rfl) ?_
  refine RA rfl rfl (by decide) (rd_assign rfl rfl) ?_
  refine RA rfl rfl (by decide) (rd_assign rfl rfl) ?_
  refine al_nil ?_
  repeat with_reducible first | refine S1 ?_ | refine S2 ?_ | refine S3 ?_ | refine S4 ?_ | refine S5 ?_ | refine S6 ?_ | refine S7 ?_ | refine S8 ?_ | refine S9 rfl ?_ | refine SA ?_ | refine SB ?_ | refine SC ?_
  refine aw_region ?_
  refine RA rfl rfl (by decide) (rd_move rfl rfl) ?_
  refine RA rfl rfl (by decide) (rd_move rfl rfl) ?_
  refine RA rfl rfl (by decide) (rd_move rfl rfl) ?_
  refine RA rfl rfl (by decide) (rd_move rfl rfl) ?_
  refine al_ef rfl (ef_call0 false (fun _ => keptx_a l cs q ch vl vc vq (by omega) (by omega)) rfl .fn rfl (by decide) Tc43 rfl (by intro _g; (repeat first | exact K0 | apply K1 rfl | apply K2 rfl rfl | apply K2 rfl (by simp) | apply K3 | exact L0 | apply L1 | exact V1 rfl | exact V2 rfl | exact V3 rfl rfl | exact V4 | exact V5 rfl | exact V3 rfl (by simp; omega) | exact V1 (by simp; omega) | exact V3 rfl (by simp) | exact V1 (by simp) | exact V6 rfl rfl (by first | rfl | simp) (by simp) rfl | apply V7 | apply V8 | apply V9); fail_if_success focus skip) (by simp)) ?_
  rintro _ _ ⟨_, _, _, ⟨bk, rfl, rfl, hbk⟩, hF, hH⟩
  rw [← hg] at hF hbk
  (try simp only [nsl, Nat.reduceAdd, Nat.reduceLT, Nat.reduceSub] at hF); (try simp only [nsl, Nat.reduceAdd, Nat.reduceLT, Nat.reduceSub] at hH); subst hF; subst hH
  refine RA rfl rfl (by decide) (rd_move rfl rfl) ?_
  refine RA rfl rfl (by decide) (rd_extract rfl rfl rfl) ?_
  refine RA rfl rfl (by decide) (rd_extract rfl rfl rfl) ?_
  refine RA rfl rfl (by decide) (rd_assign rfl rfl) ?_
  refine RA rfl rfl (by decide) (rd_assign rfl rfl) ?_
  refine al_nil ?_
  repeat with_reducible first | refine S1 ?_ | refine S2 ?_ | refine S3 ?_ | refine S4 ?_ | refine S5 ?_ | refine S6 ?_ | refine S7 ?_ | refine S8 ?_ | refine S9 rfl ?_ | refine SA ?_ | refine SB ?_ | refine SC ?_
  refine aw_region ?_
  refine RA rfl rfl (by decide) (rd_move rfl rfl) ?_
  refine RA rfl rfl (by decide) (rd_move rfl rfl) ?_
  refine RA rfl rfl (by decide) (rd_move rfl rfl) ?_
  refine RA rfl rfl (by decide) (rd_move rfl rfl) ?_
  refine al_ef rfl (ef_call0 false (fun _ => slowx_a l cs q ch vl vc vq (by omega) (by omega)) rfl .fn rfl (by decide) Tc44 rfl (by intro _g; (repeat first | exact K0 | apply K1 rfl | apply K2 rfl rfl | apply K2 rfl (by simp) | apply K3 | exact L0 | apply L1 | exact V1 rfl | exact V2 rfl | exact V3 rfl rfl | exact V4 | exact V5 rfl | exact V3 rfl (by simp; omega) | exact V1 (by simp; omega) | exact V3 rfl (by simp) | exact V1 (by simp) | exact V6 rfl rfl (by first | rfl | simp) (by simp) rfl | apply V7 | apply V8 | apply V9); fail_if_success focus skip) (by simp)) ?_
  rintro _ _ ⟨_, _, _, ⟨vw, e, rfl, rfl, he1, he2, he3⟩, hF, hH⟩
  obtain ⟨Sa, hSa⟩ : ∃ S, S = (if e = 0 then slowS l cs q ch else []) := ⟨_, rfl⟩
  rw [← hSa] at hF
  rw [← hg] at he1 he2 he3
  (try simp only [nsl, Nat.reduceAdd, Nat.reduceLT, Nat.reduceSub] at hF); (try simp only [nsl, Nat.reduceAdd, Nat.reduceLT, Nat.reduceSub] at hH); subst hF; subst hH
  refine RA rfl rfl (by decide) (rd_move rfl rfl) ?_
  refine RA rfl rfl (by decide) (rd_extract rfl rfl rfl) ?_
  refine RA rfl rfl (by decide) (rd_extract rfl rfl rfl) ?_
  refine RA rfl rfl (by decide) (rd_assign rfl rfl) ?_
  refine RA rfl rfl (by decide) (rd_assign rfl rfl) ?_
  refine al_nil ?_
  repeat with_reducible first | refine S1 ?_ | refine S2 ?_ | refine S3 ?_ | refine S4 ?_ | refine S5 ?_ | refine S6 ?_ | refine S7 ?_ | refine S8 ?_ | refine S9 rfl ?_ | refine SA ?_ | refine SB ?_ | refine SC ?_
  refine aw_region ?_
  refine RA rfl rfl (by decide) (rd_move rfl rfl) ?_
  refine RA rfl rfl (by decide) (rd_move rfl rfl) ?_
  refine RA rfl rfl (by decide) (rd_move rfl rfl) ?_
  refine al_ef rfl (ef_call0 false (fun _ => legsfaultlaw_a l cs ch vl vc (by omega) (by omega)) rfl .fn rfl (by decide) Tc34 rfl (by intro _g; (repeat first | exact K0 | apply K1 rfl | apply K2 rfl rfl | apply K2 rfl (by simp) | apply K3 | exact L0 | apply L1 | exact V1 rfl | exact V2 rfl | exact V3 rfl rfl | exact V4 | exact V5 rfl | exact V3 rfl (by simp; omega) | exact V1 (by simp; omega) | exact V3 rfl (by simp) | exact V1 (by simp) | exact V6 rfl rfl (by first | rfl | simp) (by simp) rfl | apply V7 | apply V8 | apply V9); fail_if_success focus skip) (by simp)) ?_
  rintro _ _ ⟨_, _, _, ⟨rfl, rfl⟩, hF, hH⟩
  rw [← hp1] at hF
  (try simp only [nsl, Nat.reduceAdd, Nat.reduceLT, Nat.reduceSub] at hF); (try simp only [nsl, Nat.reduceAdd, Nat.reduceLT, Nat.reduceSub] at hH); subst hF; subst hH
  refine RA rfl rfl (by decide) (rd_assign rfl rfl) ?_
  refine al_nil ?_
  repeat with_reducible first | refine S1 ?_ | refine S2 ?_ | refine S3 ?_ | refine S4 ?_ | refine S5 ?_ | refine S6 ?_ | refine S7 ?_ | refine S8 ?_ | refine S9 rfl ?_ | refine SA ?_ | refine SB ?_ | refine SC ?_
  have hSl : Sa.length ≤ 1000 := by
    rw [hSa]
    split
    · have := slowU_len l cs q ch (l.length + 1); unfold slowS; omega
    · simp
  refine aw_cut (fun F H => F = [(4, .c (legs_r vl l)), (5, .c (ints_r vc cs)), (6, .c (I ch)), (7, .c (ints_r vq q)), (8, .c (ints_r va Pa)), (9, .c (I p1)), (10, .c (B bk)), (11, .c (I g)), (12, .c (ints_r vw Sa)), (13, .c (I e)), (14, .c (I p1)), (15, .c (I g))] ∧ H = []) ?_ ?_ wk_aw
  · by_cases hql : q.length = l.length + 1
    · have hgg : firstK [p1, 0] = g := by rw [hg, hp1]; exact given_eq0 hql
      repeat with_reducible first | refine S1 ?_ | refine S2 ?_ | refine S3 ?_ | refine S4 ?_ | refine S5 ?_ | refine S6 ?_ | refine S7 ?_ | refine S8 ?_ | refine S9 rfl ?_ | refine SA ?_ | refine SB ?_ | refine SC ?_
      refine aw_region ?_
      refine RA rfl rfl (by decide) (rd_move rfl rfl) ?_
      refine RA rfl rfl (by decide) (rd_move rfl rfl) ?_
      first | refine RA rfl rfl (by decide) (rd_len rfl Te22 rfl) ?_ | refine RA rfl rfl (by decide) (rd_lenr rfl Te22 rfl) ?_
      refine RA rfl rfl (by decide) (rd_move rfl rfl) ?_
      first | refine RA rfl rfl (by decide) (rd_len rfl Te54 rfl) ?_ | refine RA rfl rfl (by decide) (rd_lenr rfl Te54 rfl) ?_
      first | refine RA rfl rfl (by decide) (rd_addn rfl rfl rfl (by omega)) ?_ | refine RA rfl rfl (by decide) (rd_add rfl rfl rfl) ?_
      first | refine RA rfl rfl (by decide) (rd_neq_t rfl rfl rfl (by omega)) ?_ | refine RA rfl rfl (by decide) (rd_neq_f rfl rfl rfl (by omega)) ?_ | refine RA rfl rfl (by decide) (rd_neq rfl rfl rfl) ?_
      refine al_ef rfl (ef_call0 false (fun _ => whenk_a false 3) rfl .fn rfl (by decide) Tc45 rfl (by intro _g; (repeat first | exact K0 | apply K1 rfl | apply K2 rfl rfl | apply K2 rfl (by simp) | apply K3 | exact L0 | apply L1 | exact V1 rfl | exact V2 rfl | exact V3 rfl rfl | exact V4 | exact V5 rfl | exact V3 rfl (by simp; omega) | exact V1 (by simp; omega) | exact V3 rfl (by simp) | exact V1 (by simp) | exact V6 rfl rfl (by first | rfl | simp) (by simp) rfl | apply V7 | apply V8 | apply V9); fail_if_success focus skip) (by simp)) ?_
      rintro _ _ ⟨_, _, _, ⟨rfl, rfl⟩, hF, hH⟩
      (try simp only [nsl, Nat.reduceAdd, Nat.reduceLT, Nat.reduceSub] at hF); (try simp only [nsl, Nat.reduceAdd, Nat.reduceLT, Nat.reduceSub] at hH); subst hF; subst hH
      refine EA rfl (ef_buildSlicen rfl rfl (by decide) Te80 (.cons rfl rfl (.cons rfl rfl (.nil _))) rfl Tz28 rfl rfl (by simp) (by simp) (by (try simp only [nm, putL, Nat.reduceAdd, cellsOf, cvOf]) <;> rfl) (by (try simp only [nm, putL, Nat.reduceAdd, cellsOf, cvOf]) <;> rfl)) ?_
      refine al_ef rfl (ef_call0 true (fun _ => errsk_a [p1, 0] _ (by simp)) rfl .fn rfl (by decide) Tc19 rfl (fun _g => .cons (.frz rfl rfl rfl rfl rfl) .nil) (fun _ _ _ _ ⟨hu, hH⟩ => by rw [hu, hH]; exact ⟨.c (.inl trivial), by simp⟩)) ?_
      rintro _ _ ⟨_, _, _, ⟨rfl, rfl⟩, hF, hH⟩
      (try simp only [nsl, Nat.reduceAdd, Nat.reduceLT, Nat.reduceSub] at hF); (try simp only [nsl, Nat.reduceAdd, Nat.reduceLT, Nat.reduceSub] at hH); subst hF; subst hH
      refine RA rfl rfl (by decide) (rd_assign rfl rfl) ?_
      refine al_nil ?_
      repeat with_reducible first | refine S1 ?_ | refine S2 ?_ | refine S3 ?_ | refine S4 ?_ | refine S5 ?_ | refine S6 ?_ | refine S7 ?_ | refine S8 ?_ | refine S9 rfl ?_ | refine SA ?_ | refine SB ?_ | refine SC ?_
      refine wk_of [] (fun _ => [(4, .c (legs_r vl l)), (5, .c (ints_r vc cs)), (6, .c (I ch)), (7, .c (ints_r vq q)), (8, .c (ints_r va Pa)), (9, .c (I p1)), (10, .c (B bk)), (11, .c (I g)), (12, .c (ints_r vw Sa)), (13, .c (I e)), (14, .c (I p1)), (15, .c (I (firstK [p1, 0])))]) (fun _ => _) (by decide) (by rw [hE]; first | exact (fun _ hi => absurd hi (Nat.not_lt_zero _)) | exact (fun i hi => by (have hi : i < 1 := hi); (have h0 : i = 0 := (by omega)); (subst h0); rfl)) (by intro _g; (repeat first | exact W0 | apply W1 rfl | exact L0 | apply L1 | exact V1 rfl | exact V2 rfl | exact V3 rfl rfl | exact V4 | exact V5 rfl | exact V3 rfl (by simp; omega) | exact V1 (by simp; omega) | exact V3 rfl (by simp) | exact V1 (by simp) | exact V6 rfl rfl (by first | rfl | simp) (by simp) rfl | apply V7 | apply V8 | apply V9 | refine V1 ?_ | refine V3 rfl ?_); fail_if_success focus skip) (by intro _g; (repeat first | exact K0 | apply K1 rfl | apply K2 rfl rfl | apply K2 rfl (by simp) | apply K3 | exact L0 | apply L1 | exact V1 rfl | exact V2 rfl | exact V3 rfl rfl | exact V4 | exact V5 rfl | exact V3 rfl (by simp; omega) | exact V1 (by simp; omega) | exact V3 rfl (by simp) | exact V1 (by simp) | exact V6 rfl rfl (by first | rfl | simp) (by simp) rfl | apply V7 | apply V8 | apply V9); fail_if_success focus skip) (fun _ => ?_)
      exact ⟨by rw [hgg], rfl⟩
    · have hgg : firstK [p1, 3] = g := by rw [hg, hp1]; exact given_eq3 hql
      repeat with_reducible first | refine S1 ?_ | refine S2 ?_ | refine S3 ?_ | refine S4 ?_ | refine S5 ?_ | refine S6 ?_ | refine S7 ?_ | refine S8 ?_ | refine S9 rfl ?_ | refine SA ?_ | refine SB ?_ | refine SC ?_
      refine aw_region ?_
      refine RA rfl rfl (by decide) (rd_move rfl rfl) ?_
      refine RA rfl rfl (by decide) (rd_move rfl rfl) ?_
      first | refine RA rfl rfl (by decide) (rd_len rfl Te22 rfl) ?_ | refine RA rfl rfl (by decide) (rd_lenr rfl Te22 rfl) ?_
      refine RA rfl rfl (by decide) (rd_move rfl rfl) ?_
      first | refine RA rfl rfl (by decide) (rd_len rfl Te54 rfl) ?_ | refine RA rfl rfl (by decide) (rd_lenr rfl Te54 rfl) ?_
      first | refine RA rfl rfl (by decide) (rd_addn rfl rfl rfl (by omega)) ?_ | refine RA rfl rfl (by decide) (rd_add rfl rfl rfl) ?_
      first | refine RA rfl rfl (by decide) (rd_neq_t rfl rfl rfl (by omega)) ?_ | refine RA rfl rfl (by decide) (rd_neq_f rfl rfl rfl (by omega)) ?_ | refine RA rfl rfl (by decide) (rd_neq rfl rfl rfl) ?_
      refine al_ef rfl (ef_call0 false (fun _ => whenk_a true 3) rfl .fn rfl (by decide) Tc45 rfl (by intro _g; (repeat first | exact K0 | apply K1 rfl | apply K2 rfl rfl | apply K2 rfl (by simp) | apply K3 | exact L0 | apply L1 | exact V1 rfl | exact V2 rfl | exact V3 rfl rfl | exact V4 | exact V5 rfl | exact V3 rfl (by simp; omega) | exact V1 (by simp; omega) | exact V3 rfl (by simp) | exact V1 (by simp) | exact V6 rfl rfl (by first | rfl | simp) (by simp) rfl | apply V7 | apply V8 | apply V9); fail_if_success focus skip) (by simp)) ?_
      rintro _ _ ⟨_, _, _, ⟨rfl, rfl⟩, hF, hH⟩
      (try simp only [nsl, Nat.reduceAdd, Nat.reduceLT, Nat.reduceSub] at hF); (try simp only [nsl, Nat.reduceAdd, Nat.reduceLT, Nat.reduceSub] at hH); subst hF; subst hH
      refine EA rfl (ef_buildSlicen rfl rfl (by decide) Te80 (.cons rfl rfl (.cons rfl rfl (.nil _))) rfl Tz28 rfl rfl (by simp) (by simp) (by (try simp only [nm, putL, Nat.reduceAdd, cellsOf, cvOf]) <;> rfl) (by (try simp only [nm, putL, Nat.reduceAdd, cellsOf, cvOf]) <;> rfl)) ?_
      refine al_ef rfl (ef_call0 true (fun _ => errsk_a [p1, 3] _ (by simp)) rfl .fn rfl (by decide) Tc19 rfl (fun _g => .cons (.frz rfl rfl rfl rfl rfl) .nil) (fun _ _ _ _ ⟨hu, hH⟩ => by rw [hu, hH]; exact ⟨.c (.inl trivial), by simp⟩)) ?_
      rintro _ _ ⟨_, _, _, ⟨rfl, rfl⟩, hF, hH⟩
      (try simp only [nsl, Nat.reduceAdd, Nat.reduceLT, Nat.reduceSub] at hF); (try simp only [nsl, Nat.reduceAdd, Nat.reduceLT, Nat.reduceSub] at hH); subst hF; subst hH
      refine RA rfl rfl (by decide) (rd_assign rfl rfl) ?_
      refine al_nil ?_
      repeat with_reducible first | refine S1 ?_ | refine S2 ?_ | refine S3 ?_ | refine S4 ?_ | refine S5 ?_ | refine S6 ?_ | refine S7 ?_ | refine S8 ?_ | refine S9 rfl ?_ | refine SA ?_ | refine SB ?_ | refine SC ?_
      refine wk_of [] (fun _ => [(4, .c (legs_r vl l)), (5, .c (ints_r vc cs)), (6, .c (I ch)), (7, .c (ints_r vq q)), (8, .c (ints_r va Pa)), (9, .c (I p1)), (10, .c (B bk)), (11, .c (I g)), (12, .c (ints_r vw Sa)), (13, .c (I e)), (14, .c (I p1)), (15, .c (I (firstK [p1, 3])))]) (fun _ => _) (by decide) (by rw [hE]; first | exact (fun _ hi => absurd hi (Nat.not_lt_zero _)) | exact (fun i hi => by (have hi : i < 1 := hi); (have h0 : i = 0 := (by omega)); (subst h0); rfl)) (by intro _g; (repeat first | exact W0 | apply W1 rfl | exact L0 | apply L1 | exact V1 rfl | exact V2 rfl | exact V3 rfl rfl | exact V4 | exact V5 rfl | exact V3 rfl (by simp; omega) | exact V1 (by simp; omega) | exact V3 rfl (by simp) | exact V1 (by simp) | exact V6 rfl rfl (by first | rfl | simp) (by simp) rfl | apply V7 | apply V8 | apply V9 | refine V1 ?_ | refine V3 rfl ?_); fail_if_success focus skip) (by intro _g; (repeat first | exact K0 | apply K1 rfl | apply K2 rfl rfl | apply K2 rfl (by simp) | apply K3 | exact L0 | apply L1 | exact V1 rfl | exact V2 rfl | exact V3 rfl rfl | exact V4 | exact V5 rfl | exact V3 rfl (by simp; omega) | exact V1 (by simp; omega) | exact V3 rfl (by simp) | exact V1 (by simp) | exact V6 rfl rfl (by first | rfl | simp) (by simp) rfl | apply V7 | apply V8 | apply V9); fail_if_success focus skip) (fun _ => ?_)
      exact ⟨by rw [hgg], rfl⟩
  rintro F H ⟨rfl, rfl⟩
  repeat with_reducible first | refine S1 ?_ | refine S2 ?_ | refine S3 ?_ | refine S4 ?_ | refine S5 ?_ | refine S6 ?_ | refine S7 ?_ | refine S8 ?_ | refine S9 rfl ?_ | refine SA ?_ | refine SB ?_ | refine SC ?_
  refine aw_region ?_
  refine RA rfl rfl (by decide) (rd_move rfl rfl) ?_
  refine RA rfl rfl (by decide) (rd_assign rfl rfl) ?_
  refine al_nil ?_
  repeat with_reducible first | refine S1 ?_ | refine S2 ?_ | refine S3 ?_ | refine S4 ?_ | refine S5 ?_ | refine S6 ?_ | refine S7 ?_ | refine S8 ?_ | refine S9 rfl ?_ | refine SA ?_ | refine SB ?_ | refine SC ?_
  refine aw_region ?_
  refine RA rfl rfl (by decide) (rd_assign rfl rfl) ?_
  refine RA rfl rfl (by decide) (rd_assign rfl rfl) ?_
  refine al_nil ?_
  repeat with_reducible first | refine S1 ?_ | refine S2 ?_ | refine S3 ?_ | refine S4 ?_ | refine S5 ?_ | refine S6 ?_ | refine S7 ?_ | refine S8 ?_ | refine S9 rfl ?_ | refine SA ?_ | refine SB ?_ | refine SC ?_
  refine aw_region ?_
  refine RA rfl rfl (by decide) (rd_assign rfl rfl) ?_
  refine al_nil ?_
  repeat with_reducible first | refine S1 ?_ | refine S2 ?_ | refine S3 ?_ | refine S4 ?_ | refine S5 ?_ | refine S6 ?_ | refine S7 ?_ | refine S8 ?_ | refine S9 rfl ?_ | refine SA ?_ | refine SB ?_ | refine SC ?_
  repeat with_reducible first | refine S1 ?_ | refine S2 ?_ | refine S3 ?_ | refine S4 ?_ | refine S5 ?_ | refine S6 ?_ | refine S7 ?_ | refine S8 ?_ | refine S9 rfl ?_ | refine SA ?_ | refine SB ?_ | refine SC ?_
  refine aw_region ?_
  refine RA rfl rfl (by decide) (rd_move rfl rfl) ?_
  first | refine RA rfl rfl (by decide) (rd_eql_t rfl rfl rfl (by omega)) ?_ | refine RA rfl rfl (by decide) (rd_eql_f rfl rfl rfl (by omega)) ?_ | refine RA rfl rfl (by decide) (rd_eql rfl rfl rfl) ?_
  refine al_nil ?_
  refine aseq_n ?_
  refine aw_cut (fun F H => ∃ vx, F = [(4, .c (legs_r vl l)), (5, .c (ints_r vc cs)), (6, .c (I ch)), (7, .c (ints_r vq q)), (8, .c (ints_r va Pa)), (9, .c (I p1)), (10, .c (B bk)), (11, .c (I g)), (12, .c (ints_r vw Sa)), (13, .c (I e)), (14, .c (I p1)), (15, .c (I g)), (16, .c (I g)), (17, .c (ints_r vx Pa)), (18, .c (.r (.slice none 0 0) [])), (19, .c (B false))] ∧ H = []) ?_ ?_ wk_aw
  · refine aw_if rfl (fun h0 => ?_) (fun h0 => ?_)
    · obtain ⟨hr, hch'⟩ := faultL_ok (l := l) (cs := cs) (ch := ch) (by omega)
      obtain rfl : Pa = speedsS l cs ch := by rw [hPa, if_pos (by omega)]
      repeat with_reducible first | refine S1 ?_ | refine S2 ?_ | refine S3 ?_ | refine S4 ?_ | refine S5 ?_ | refine S6 ?_ | refine S7 ?_ | refine S8 ?_ | refine S9 rfl ?_ | refine SA ?_ | refine SB ?_ | refine SC ?_
      refine aw_region ?_
      refine RA rfl rfl (by decide) (rd_move rfl rfl) ?_
      refine RA rfl rfl (by decide) (rd_move rfl rfl) ?_
      refine RA rfl rfl (by decide) (rd_move rfl rfl) ?_
      refine al_ef rfl (ef_call0 false (fun _ => speedsof_a l cs ch vl vc hr hch') rfl .fn rfl (by decide) Tc46 rfl (by intro _g; (repeat first | exact K0 | apply K1 rfl | apply K2 rfl rfl | apply K2 rfl (by simp) | apply K3 | exact L0 | apply L1 | exact V1 rfl | exact V2 rfl | exact V3 rfl rfl | exact V4 | exact V5 rfl | exact V3 rfl (by simp; omega) | exact V1 (by simp; omega) | exact V3 rfl (by simp) | exact V1 (by simp) | exact V6 rfl rfl (by first | rfl | simp) (by simp) rfl | apply V7 | apply V8 | apply V9); fail_if_success focus skip) (by simp)) ?_
      rintro _ _ ⟨_, _, _, ⟨rfl, rfl⟩, hF, hH⟩
      (try simp only [nsl, Nat.reduceAdd, Nat.reduceLT, Nat.reduceSub] at hF); (try simp only [nsl, Nat.reduceAdd, Nat.reduceLT, Nat.reduceSub] at hH); subst hF; subst hH
      refine RA rfl rfl (by decide) (rd_assign rfl rfl) ?_
      refine al_nil ?_
      repeat with_reducible first | refine S1 ?_ | refine S2 ?_ | refine S3 ?_ | refine S4 ?_ | refine S5 ?_ | refine S6 ?_ | refine S7 ?_ | refine S8 ?_ | refine S9 rfl ?_ | refine SA ?_ | refine SB ?_ | refine SC ?_
      exact wk_of [] (fun G => [(4, .c (legs_r vl l)), (5, .c (ints_r vc cs)), (6, .c (I ch)), (7, .c (ints_r vq q)), (8, .c (ints_r va (speedsS l cs ch))), (9, .c (I p1)), (10, .c (B bk)), (11, .c (I g)), (12, .c (ints_r vw Sa)), (13, .c (I e)), (14, .c (I p1)), (15, .c (I g)), (16, .c (I g)), (17, .c (ints_r (G (.o 0 0 (l.length + 1) (l.length + 1))) (speedsS l cs ch))), (18, .c (.r (.slice none 0 0) [])), (19, .c (B false))]) (fun _ => _) (by decide) (by rw [hE]; exact (fun _ hi => absurd hi (Nat.not_lt_zero _))) (fun _g => .cons rfl (.c rfl) (.cons rfl (.c rfl) (.cons rfl (.c rfl) (.cons rfl (.c rfl) (.cons rfl (.c rfl) (.cons rfl (.c rfl) (.cons rfl (.c rfl) (.cons rfl (.c rfl) (.cons rfl (.c rfl) (.cons rfl (.c rfl) (.cons rfl (.c rfl) (.cons rfl (.c rfl) (.cons rfl (.c rfl) (.cons rfl (.frz rfl rfl (by rw [List.drop_zero, List.take_of_length_le (by simp [speedsS_len])]) (by simp [speedsS_len]) rfl) (.cons rfl (.c rfl) (.cons rfl (.c rfl) .nil)))))))))))))))) (by intro _g; (repeat first | exact K0 | apply K1 rfl | apply K2 rfl rfl | apply K2 rfl (by simp) | apply K3 | exact L0 | apply L1 | exact V1 rfl | exact V2 rfl | exact V3 rfl rfl | exact V4 | exact V5 rfl | exact V3 rfl (by simp; omega) | exact V1 (by simp; omega) | exact V3 rfl (by simp) | exact V1 (by simp) | exact V6 rfl rfl (by first | rfl | simp) (by simp) rfl | apply V7 | apply V8 | apply V9); fail_if_success focus skip) (fun G => ⟨_, rfl, rfl⟩)
    · obtain rfl : Pa = [] := by rw [hPa, if_neg (by omega)]
      repeat with_reducible first | refine S1 ?_ | refine S2 ?_ | refine S3 ?_ | refine S4 ?_ | refine S5 ?_ | refine S6 ?_ | refine S7 ?_ | refine S8 ?_ | refine S9 rfl ?_ | refine SA ?_ | refine SB ?_ | refine SC ?_
      refine wk_of [] (fun _ => [(4, .c (legs_r vl l)), (5, .c (ints_r vc cs)), (6, .c (I ch)), (7, .c (ints_r vq q)), (8, .c (ints_r va [])), (9, .c (I p1)), (10, .c (B bk)), (11, .c (I g)), (12, .c (ints_r vw Sa)), (13, .c (I e)), (14, .c (I p1)), (15, .c (I g)), (16, .c (I g)), (17, .c (ints_r (.slice none 0 0) [])), (18, .c (.r (.slice none 0 0) [])), (19, .c (B false))]) (fun _ => _) (by decide) (by rw [hE]; first | exact (fun _ hi => absurd hi (Nat.not_lt_zero _)) | exact (fun i hi => by (have hi : i < 1 := hi); (have h0 : i = 0 := (by omega)); (subst h0); rfl)) (by intro _g; (repeat first | exact W0 | apply W1 rfl | exact L0 | apply L1 | exact V1 rfl | exact V2 rfl | exact V3 rfl rfl | exact V4 | exact V5 rfl | exact V3 rfl (by simp; omega) | exact V1 (by simp; omega) | exact V3 rfl (by simp) | exact V1 (by simp) | exact V6 rfl rfl (by first | rfl | simp) (by simp) rfl | apply V7 | apply V8 | apply V9 | refine V1 ?_ | refine V3 rfl ?_); fail_if_success focus skip) (by intro _g; (repeat first | exact K0 | apply K1 rfl | apply K2 rfl rfl | apply K2 rfl (by simp) | apply K3 | exact L0 | apply L1 | exact V1 rfl | exact V2 rfl | exact V3 rfl rfl | exact V4 | exact V5 rfl | exact V3 rfl (by simp; omega) | exact V1 (by simp; omega) | exact V3 rfl (by simp) | exact V1 (by simp) | exact V6 rfl rfl (by first | rfl | simp) (by simp) rfl | apply V7 | apply V8 | apply V9); fail_if_success focus skip) (fun _ => ?_)
      exact ⟨_, rfl, rfl⟩
  rintro F H ⟨vx, rfl, rfl⟩
  repeat with_reducible first | refine S1 ?_ | refine S2 ?_ | refine S3 ?_ | refine S4 ?_ | refine S5 ?_ | refine S6 ?_ | refine S7 ?_ | refine S8 ?_ | refine S9 rfl ?_ | refine SA ?_ | refine SB ?_ | refine SC ?_
  refine aw_region ?_
  refine RA rfl rfl (by decide) (rd_move rfl rfl) ?_
  first | refine RA rfl rfl (by decide) (rd_eql_t rfl rfl rfl (by omega)) ?_ | refine RA rfl rfl (by decide) (rd_eql_f rfl rfl rfl (by omega)) ?_ | refine RA rfl rfl (by decide) (rd_eql rfl rfl rfl) ?_
  refine al_nil ?_
  refine aseq_n ?_
  refine aw_cut (fun F H => F = [(4, .c (legs_r vl l)), (5, .c (ints_r vc cs)), (6, .c (I ch)), (7, .c (ints_r vq q)), (8, .c (ints_r va Pa)), (9, .c (I p1)), (10, .c (B bk)), (11, .c (I g)), (12, .c (ints_r vw Sa)), (13, .c (I e)), (14, .c (I p1)), (15, .c (I g)), (16, .c (I e)), (17, .c (ints_r vx Pa)), (18, .c (.r (.slice none 0 0) [])), (19, .c (B bk))] ∧ H = []) ?_ ?_ wk_aw
  · refine aw_if rfl (fun h0 => ?_) (fun h0 => ?_)
    · obtain ⟨hr, hch', hql⟩ := givenF_ok (l := l) (cs := cs) (q := q) (ch := ch) (by omega)
      repeat with_reducible first | refine S1 ?_ | refine S2 ?_ | refine S3 ?_ | refine S4 ?_ | refine S5 ?_ | refine S6 ?_ | refine S7 ?_ | refine S8 ?_ | refine S9 rfl ?_ | refine SA ?_ | refine SB ?_ | refine SC ?_
      refine aw_region ?_
      refine RA rfl rfl (by decide) (rd_move rfl rfl) ?_
      refine RA rfl rfl (by decide) (rd_move rfl rfl) ?_
      refine RA rfl rfl (by decide) (rd_move rfl rfl) ?_
      refine RA rfl rfl (by decide) (rd_move rfl rfl) ?_
      refine al_ef rfl (ef_call0 false (fun _ => keptof_a l cs q ch vl vc vq hr hch' hql) rfl .fn rfl (by decide) Tc47 rfl (by intro _g; (repeat first | exact K0 | apply K1 rfl | apply K2 rfl rfl | apply K2 rfl (by simp) | apply K3 | exact L0 | apply L1 | exact V1 rfl | exact V2 rfl | exact V3 rfl rfl | exact V4 | exact V5 rfl | exact V3 rfl (by simp; omega) | exact V1 (by simp; omega) | exact V3 rfl (by simp) | exact V1 (by simp) | exact V6 rfl rfl (by first | rfl | simp) (by simp) rfl | apply V7 | apply V8 | apply V9); fail_if_success focus skip) (by simp)) ?_
      rintro _ _ ⟨_, _, _, ⟨b2, rfl, rfl, hb2⟩, hF, hH⟩
      obtain rfl : b2 = bk := Bool.eq_iff_iff.2 (hb2.trans ⟨fun h => hbk.2 ⟨h0, h⟩, fun h => (hbk.1 h).2⟩)
      (try simp only [nsl, Nat.reduceAdd, Nat.reduceLT, Nat.reduceSub] at hF); (try simp only [nsl, Nat.reduceAdd, Nat.reduceLT, Nat.reduceSub] at hH); subst hF; subst hH
      refine RA rfl rfl (by decide) (rd_assign rfl rfl) ?_
      refine al_nil ?_
      repeat with_reducible first | refine S1 ?_ | refine S2 ?_ | refine S3 ?_ | refine S4 ?_ | refine S5 ?_ | refine S6 ?_ | refine S7 ?_ | refine S8 ?_ | refine S9 rfl ?_ | refine SA ?_ | refine SB ?_ | refine SC ?_
      cases b2
      · obtain rfl : e = 16 := he3 h0 (fun h => by have := hb2.2 h; cases this)
        repeat with_reducible first | refine S1 ?_ | refine S2 ?_ | refine S3 ?_ | refine S4 ?_ | refine S5 ?_ | refine S6 ?_ | refine S7 ?_ | refine S8 ?_ | refine S9 rfl ?_ | refine SA ?_ | refine SB ?_ | refine SC ?_
        refine aw_region ?_
        refine RA rfl rfl (by decide) (rd_move rfl rfl) ?_
        refine RA rfl rfl (by decide) (rd_not rfl rfl) ?_
        refine al_ef rfl (ef_call0 false (fun _ => whenk_a true 16) rfl .fn rfl (by decide) Tc45 rfl (by intro _g; (repeat first | exact K0 | apply K1 rfl | apply K2 rfl rfl | apply K2 rfl (by simp) | apply K3 | exact L0 | apply L1 | exact V1 rfl | exact V2 rfl | exact V3 rfl rfl | exact V4 | exact V5 rfl | exact V3 rfl (by simp; omega) | exact V1 (by simp; omega) | exact V3 rfl (by simp) | exact V1 (by simp) | exact V6 rfl rfl (by first | rfl | simp) (by simp) rfl | apply V7 | apply V8 | apply V9); fail_if_success focus skip) (by simp)) ?_
        rintro _ _ ⟨_, _, _, ⟨rfl, rfl⟩, hF, hH⟩
        (try simp only [nsl, Nat.reduceAdd, Nat.reduceLT, Nat.reduceSub] at hF); (try simp only [nsl, Nat.reduceAdd, Nat.reduceLT, Nat.reduceSub] at hH); subst hF; subst hH
        refine RA rfl rfl (by decide) (rd_assign rfl rfl) ?_
        refine al_nil ?_
        repeat with_reducible first | refine S1 ?_ | refine S2 ?_ | refine S3 ?_ | refine S4 ?_ | refine S5 ?_ | refine S6 ?_ | refine S7 ?_ | refine S8 ?_ | refine S9 rfl ?_ | refine SA ?_ | refine SB ?_ | refine SC ?_
        refine wk_of [] (fun _ => [(4, .c (legs_r vl l)), (5, .c (ints_r vc cs)), (6, .c (I ch)), (7, .c (ints_r vq q)), (8, .c (ints_r va Pa)), (9, .c (I p1)), (10, .c (B false)), (11, .c (I g)), (12, .c (ints_r vw Sa)), (13, .c (I 16)), (14, .c (I p1)), (15, .c (I g)), (16, .c (I 16)), (17, .c (ints_r vx Pa)), (18, .c (.r (.slice none 0 0) [])), (19, .c (B false))]) (fun _ => _) (by decide) (by rw [hE]; first | exact (fun _ hi => absurd hi (Nat.not_lt_zero _)) | exact (fun i hi => by (have hi : i < 1 := hi); (have h0 : i = 0 := (by omega)); (subst h0); rfl)) (by intro _g; (repeat first | exact W0 | apply W1 rfl | exact L0 | apply L1 | exact V1 rfl | exact V2 rfl | exact V3 rfl rfl | exact V4 | exact V5 rfl | exact V3 rfl (by simp; omega) | exact V1 (by simp; omega) | exact V3 rfl (by simp) | exact V1 (by simp) | exact V6 rfl rfl (by first | rfl | simp) (by simp) rfl | apply V7 | apply V8 | apply V9 | refine V1 ?_ | refine V3 rfl ?_); fail_if_success focus skip) (by intro _g; (repeat first | exact K0 | apply K1 rfl | apply K2 rfl rfl | apply K2 rfl (by simp) | apply K3 | exact L0 | apply L1 | exact V1 rfl | exact V2 rfl | exact V3 rfl rfl | exact V4 | exact V5 rfl | exact V3 rfl (by simp; omega) | exact V1 (by simp; omega) | exact V3 rfl (by simp) | exact V1 (by simp) | exact V6 rfl rfl (by first | rfl | simp) (by simp) rfl | apply V7 | apply V8 | apply V9); fail_if_success focus skip) (fun _ => ?_)
        exact ⟨rfl, rfl⟩
      · obtain rfl : e = 0 := he2 h0 (hb2.1 rfl)
        repeat with_reducible first | refine S1 ?_ | refine S2 ?_ | refine S3 ?_ | refine S4 ?_ | refine S5 ?_ | refine S6 ?_ | refine S7 ?_ | refine S8 ?_ | refine S9 rfl ?_ | refine SA ?_ | refine SB ?_ | refine SC ?_
        refine aw_region ?_
        refine RA rfl rfl (by decide) (rd_move rfl rfl) ?_
        refine RA rfl rfl (by decide) (rd_not rfl rfl) ?_
        refine al_ef rfl (ef_call0 false (fun _ => whenk_a false 16) rfl .fn rfl (by decide) Tc45 rfl (by intro _g; (repeat first | exact K0 | apply K1 rfl | apply K2 rfl rfl | apply K2 rfl (by simp) | apply K3 | exact L0 | apply L1 | exact V1 rfl | exact V2 rfl | exact V3 rfl rfl | exact V4 | exact V5 rfl | exact V3 rfl (by simp; omega) | exact V1 (by simp; omega) | exact V3 rfl (by simp) | exact V1 (by simp) | exact V6 rfl rfl (by first | rfl | simp) (by simp) rfl | apply V7 | apply V8 | apply V9); fail_if_success focus skip) (by simp)) ?_
        rintro _ _ ⟨_, _, _, ⟨rfl, rfl⟩, hF, hH⟩
        (try simp only [nsl, Nat.reduceAdd, Nat.reduceLT, Nat.reduceSub] at hF); (try simp only [nsl, Nat.reduceAdd, Nat.reduceLT, Nat.reduceSub] at hH); subst hF; subst hH
        refine RA rfl rfl (by decide) (rd_assign rfl rfl) ?_
        refine al_nil ?_
        repeat with_reducible first | refine S1 ?_ | refine S2 ?_ | refine S3 ?_ | refine S4 ?_ | refine S5 ?_ | refine S6 ?_ | refine S7 ?_ | refine S8 ?_ | refine S9 rfl ?_ | refine SA ?_ | refine SB ?_ | refine SC ?_
        refine wk_of [] (fun _ => [(4, .c (legs_r vl l)), (5, .c (ints_r vc cs)), (6, .c (I ch)), (7, .c (ints_r vq q)), (8, .c (ints_r va Pa)), (9, .c (I p1)), (10, .c (B true)), (11, .c (I g)), (12, .c (ints_r vw Sa)), (13, .c (I 0)), (14, .c (I p1)), (15, .c (I g)), (16, .c (I 0)), (17, .c (ints_r vx Pa)), (18, .c (.r (.slice none 0 0) [])), (19, .c (B true))]) (fun _ => _) (by decide) (by rw [hE]; first | exact (fun _ hi => absurd hi (Nat.not_lt_zero _)) | exact (fun i hi => by (have hi : i < 1 := hi); (have h0 : i = 0 := (by omega)); (subst h0); rfl)) (by intro _g; (repeat first | exact W0 | apply W1 rfl | exact L0 | apply L1 | exact V1 rfl | exact V2 rfl | exact V3 rfl rfl | exact V4 | exact V5 rfl | exact V3 rfl (by simp; omega) | exact V1 (by simp; omega) | exact V3 rfl (by simp) | exact V1 (by simp) | exact V6 rfl rfl (by first | rfl | simp) (by simp) rfl | apply V7 | apply V8 | apply V9 | refine V1 ?_ | refine V3 rfl ?_); fail_if_success focus skip) (by intro _g; (repeat first | exact K0 | apply K1 rfl | apply K2 rfl rfl | apply K2 rfl (by simp) | apply K3 | exact L0 | apply L1 | exact V1 rfl | exact V2 rfl | exact V3 rfl rfl | exact V4 | exact V5 rfl | exact V3 rfl (by simp; omega) | exact V1 (by simp; omega) | exact V3 rfl (by simp) | exact V1 (by simp) | exact V6 rfl rfl (by first | rfl | simp) (by simp) rfl | apply V7 | apply V8 | apply V9); fail_if_success focus skip) (fun _ => ?_)
        exact ⟨rfl, rfl⟩
    · obtain rfl : bk = false := Bool.eq_false_iff.2 fun h => h0 (hbk.1 h).1
      obtain rfl : e = g := he1 h0
      repeat with_reducible first | refine S1 ?_ | refine S2 ?_ | refine S3 ?_ | refine S4 ?_ | refine S5 ?_ | refine S6 ?_ | refine S7 ?_ | refine S8 ?_ | refine S9 rfl ?_ | refine SA ?_ | refine SB ?_ | refine SC ?_
      refine wk_of [] (fun _ => [(4, .c (legs_r vl l)), (5, .c (ints_r vc cs)), (6, .c (I ch)), (7, .c (ints_r vq q)), (8, .c (ints_r va Pa)), (9, .c (I p1)), (10, .c (B false)), (11, .c (I e)), (12, .c (ints_r vw Sa)), (13, .c (I e)), (14, .c (I p1)), (15, .c (I e)), (16, .c (I e)), (17, .c (ints_r vx Pa)), (18, .c (.r (.slice none 0 0) [])), (19, .c (B false))]) (fun _ => _) (by decide) (by rw [hE]; first | exact (fun _ hi => absurd hi (Nat.not_lt_zero _)) | exact (fun i hi => by (have hi : i < 1 := hi); (have h0 : i = 0 := (by omega)); (subst h0); rfl)) (by intro _g; (repeat first | exact W0 | apply W1 rfl | exact L0 | apply L1 | exact V1 rfl | exact V2 rfl | exact V3 rfl rfl | exact V4 | exact V5 rfl | exact V3 rfl (by simp; omega) | exact V1 (by simp; omega) | exact V3 rfl (by simp) | exact V1 (by simp) | exact V6 rfl rfl (by first | rfl | simp) (by simp) rfl | apply V7 | apply V8 | apply V9 | refine V1 ?_ | refine V3 rfl ?_); fail_if_success focus skip) (by intro _g; (repeat first | exact K0 | apply K1 rfl | apply K2 rfl rfl | apply K2 rfl (by simp) | apply K3 | exact L0 | apply L1 | exact V1 rfl | exact V2 rfl | exact V3 rfl rfl | exact V4 | exact V5 rfl | exact V3 rfl (by simp; omega) | exact V1 (by simp; omega) | exact V3 rfl (by simp) | exact V1 (by simp) | exact V6 rfl rfl (by first | rfl | simp) (by simp) rfl | apply V7 | apply V8 | apply V9); fail_if_success focus skip) (fun _ => ?_)
      exact ⟨rfl, rfl⟩
  rintro F H ⟨rfl, rfl⟩
  repeat with_reducible first | refine S1 ?_ | refine S2 ?_ | refine S3 ?_ | refine S4 ?_ | refine S5 ?_ | refine S6 ?_ | refine S7 ?_ | refine S8 ?_ | refine S9 rfl ?_ | refine SA ?_ | refine SB ?_ | refine SC ?_
  refine aw_region ?_
  refine RA rfl rfl (by decide) (rd_move rfl rfl) ?_
  first | refine RA rfl rfl (by decide) (rd_eql_t rfl rfl rfl (by omega)) ?_ | refine RA rfl rfl (by decide) (rd_eql_f rfl rfl rfl (by omega)) ?_ | refine RA rfl rfl (by decide) (rd_eql rfl rfl rfl) ?_
  refine al_nil ?_
  refine aseq_n ?_
  refine aw_cut (fun F H => ∃ vy, F = [(4, .c (legs_r vl l)), (8, .c (ints_r va Pa)), (9, .c (I p1)), (10, .c (B bk)), (11, .c (I g)), (12, .c (ints_r vw Sa)), (13, .c (I e)), (14, .c (I p1)), (15, .c (I g)), (16, .c (I e)), (17, .c (ints_r vx Pa)), (18, .c (ints_r vy Sa)), (19, .c (B bk))] ∧ H = []) ?_ ?_ wk_aw
  · refine aw_if rfl (fun h0 => ?_) (fun h0 => ?_)
    · have hg0 : g = 0 := by
        by_cases h : g = 0
        · exact h
        · have := he1 h; omega
      obtain ⟨hr, hch', hql⟩ := givenF_ok (l := l) (cs := cs) (q := q) (ch := ch) (by omega)
      obtain rfl : Sa = slowS l cs q ch := by rw [hSa, if_pos h0]
      repeat with_reducible first | refine S1 ?_ | refine S2 ?_ | refine S3 ?_ | refine S4 ?_ | refine S5 ?_ | refine S6 ?_ | refine S7 ?_ | refine S8 ?_ | refine S9 rfl ?_ | refine SA ?_ | refine SB ?_ | refine SC ?_
      refine aw_region ?_
      refine RA rfl rfl (by decide) (rd_move rfl rfl) ?_
      refine RA rfl rfl (by decide) (rd_move rfl rfl) ?_
      refine RA rfl rfl (by decide) (rd_move rfl rfl) ?_
      refine RA rfl rfl (by decide) (rd_move rfl rfl) ?_
      refine al_ef rfl (ef_call0 false (fun _ => slowof_a l cs q ch vl vc vq hr hch' hql) rfl .fn rfl (by decide) Tc48 rfl (by intro _g; (repeat first | exact K0 | apply K1 rfl | apply K2 rfl rfl | apply K2 rfl (by simp) | apply K3 | exact L0 | apply L1 | exact V1 rfl | exact V2 rfl | exact V3 rfl rfl | exact V4 | exact V5 rfl | exact V3 rfl (by simp; omega) | exact V1 (by simp; omega) | exact V3 rfl (by simp) | exact V1 (by simp) | exact V6 rfl rfl (by first | rfl | simp) (by simp) rfl | apply V7 | apply V8 | apply V9); fail_if_success focus skip) (by simp)) ?_
      rintro _ _ ⟨_, _, _, ⟨vy, rfl, rfl⟩, hF, hH⟩
      (try simp only [nsl, Nat.reduceAdd, Nat.reduceLT, Nat.reduceSub] at hF); (try simp only [nsl, Nat.reduceAdd, Nat.reduceLT, Nat.reduceSub] at hH); subst hF; subst hH
      refine RA rfl rfl (by decide) (rd_assign rfl rfl) ?_
      refine al_nil ?_
      repeat with_reducible first | refine S1 ?_ | refine S2 ?_ | refine S3 ?_ | refine S4 ?_ | refine S5 ?_ | refine S6 ?_ | refine S7 ?_ | refine S8 ?_ | refine S9 rfl ?_ | refine SA ?_ | refine SB ?_ | refine SC ?_
      refine wk_of [] (fun _ => [(4, .c (legs_r vl l)), (8, .c (ints_r va Pa)), (9, .c (I p1)), (10, .c (B bk)), (11, .c (I g)), (12, .c (ints_r vw (slowS l cs q ch))), (13, .c (I e)), (14, .c (I p1)), (15, .c (I g)), (16, .c (I e)), (17, .c (ints_r vx Pa)), (18, .c (ints_r vy (slowS l cs q ch))), (19, .c (B bk))]) (fun _ => _) (by decide) (by rw [hE]; first | exact (fun _ hi => absurd hi (Nat.not_lt_zero _)) | exact (fun i hi => by (have hi : i < 1 := hi); (have h0 : i = 0 := (by omega)); (subst h0); rfl)) (by intro _g; (repeat first | exact W0 | apply W1 rfl | exact L0 | apply L1 | exact V1 rfl | exact V2 rfl | exact V3 rfl rfl | exact V4 | exact V5 rfl | exact V3 rfl (by simp; omega) | exact V1 (by simp; omega) | exact V3 rfl (by simp) | exact V1 (by simp) | exact V6 rfl rfl (by first | rfl | simp) (by simp) rfl | apply V7 | apply V8 | apply V9 | refine V1 ?_ | refine V3 rfl ?_); fail_if_success focus skip) (by intro _g; (repeat first | exact K0 | apply K1 rfl | apply K2 rfl rfl | apply K2 rfl (by simp) | apply K3 | exact L0 | apply L1 | exact V1 rfl | exact V2 rfl | exact V3 rfl rfl | exact V4 | exact V5 rfl | exact V3 rfl (by simp; omega) | exact V1 (by simp; omega) | exact V3 rfl (by simp) | exact V1 (by simp) | exact V6 rfl rfl (by first | rfl | simp) (by simp) rfl | apply V7 | apply V8 | apply V9); fail_if_success focus skip) (fun _ => ?_)
      exact ⟨_, rfl, rfl⟩
    · obtain rfl : Sa = [] := by rw [hSa, if_neg h0]
      repeat with_reducible first | refine S1 ?_ | refine S2 ?_ | refine S3 ?_ | refine S4 ?_ | refine S5 ?_ | refine S6 ?_ | refine S7 ?_ | refine S8 ?_ | refine S9 rfl ?_ | refine SA ?_ | refine SB ?_ | refine SC ?_
      refine wk_of [] (fun _ => [(4, .c (legs_r vl l)), (8, .c (ints_r va Pa)), (9, .c (I p1)), (10, .c (B bk)), (11, .c (I g)), (12, .c (ints_r vw [])), (13, .c (I e)), (14, .c (I p1)), (15, .c (I g)), (16, .c (I e)), (17, .c (ints_r vx Pa)), (18, .c (ints_r (.slice none 0 0) [])), (19, .c (B bk))]) (fun _ => _) (by decide) (by rw [hE]; first | exact (fun _ hi => absurd hi (Nat.not_lt_zero _)) | exact (fun i hi => by (have hi : i < 1 := hi); (have h0 : i = 0 := (by omega)); (subst h0); rfl)) (by intro _g; (repeat first | exact W0 | apply W1 rfl | exact L0 | apply L1 | exact V1 rfl | exact V2 rfl | exact V3 rfl rfl | exact V4 | exact V5 rfl | exact V3 rfl (by simp; omega) | exact V1 (by simp; omega) | exact V3 rfl (by simp) | exact V1 (by simp) | exact V6 rfl rfl (by first | rfl | simp) (by simp) rfl | apply V7 | apply V8 | apply V9 | refine V1 ?_ | refine V3 rfl ?_); fail_if_success focus skip) (by intro _g; (repeat first | exact K0 | apply K1 rfl | apply K2 rfl rfl | apply K2 rfl (by simp) | apply K3 | exact L0 | apply L1 | exact V1 rfl | exact V2 rfl | exact V3 rfl rfl | exact V4 | exact V5 rfl | exact V3 rfl (by simp; omega) | exact V1 (by simp; omega) | exact V3 rfl (by simp) | exact V1 (by simp) | exact V6 rfl rfl (by first | rfl | simp) (by simp) rfl | apply V7 | apply V8 | apply V9); fail_if_success focus skip) (fun _ => ?_)
      exact ⟨_, rfl, rfl⟩
  rintro F H ⟨vy, rfl, rfl⟩
  repeat with_reducible first | refine S1 ?_ | refine S2 ?_ | refine S3 ?_ | refine S4 ?_ | refine S5 ?_ | refine S6 ?_ | refine S7 ?_ | refine S8 ?_ | refine S9 rfl ?_ | refine SA ?_ | refine SB ?_ | refine SC ?_
  refine aw_region ?_
  refine RA rfl rfl (by decide) (rd_move rfl rfl) ?_
  refine al_ef rfl (ef_call0 false (fun _ => checklegs_a l vl) rfl .fn rfl (by decide) Tc49 rfl (by intro _g; (repeat first | exact K0 | apply K1 rfl | apply K2 rfl rfl | apply K2 rfl (by simp) | apply K3 | exact L0 | apply L1 | exact V1 rfl | exact V2 rfl | exact V3 rfl rfl | exact V4 | exact V5 rfl | exact V3 rfl (by simp; omega) | exact V1 (by simp; omega) | exact V3 rfl (by simp) | exact V1 (by simp) | exact V6 rfl rfl (by first | rfl | simp) (by simp) rfl | apply V7 | apply V8 | apply V9); fail_if_success focus skip) (by simp)) ?_
  rintro _ _ ⟨_, _, _, ⟨rfl, rfl⟩, hF, hH⟩
  (try simp only [nsl, Nat.reduceAdd, Nat.reduceLT, Nat.reduceSub] at hF); (try simp only [nsl, Nat.reduceAdd, Nat.reduceLT, Nat.reduceSub] at hH); subst hF; subst hH
  refine RA rfl rfl (by decide) (rd_move rfl rfl) ?_
  refine al_ef rfl (ef_call0 false (fun _ => legsfault_a l vl) rfl .fn rfl (by decide) Tc50 rfl (by intro _g; (repeat first | exact K0 | apply K1 rfl | apply K2 rfl rfl | apply K2 rfl (by simp) | apply K3 | exact L0 | apply L1 | exact V1 rfl | exact V2 rfl | exact V3 rfl rfl | exact V4 | exact V5 rfl | exact V3 rfl (by simp; omega) | exact V1 (by simp; omega) | exact V3 rfl (by simp) | exact V1 (by simp) | exact V6 rfl rfl (by first | rfl | simp) (by simp) rfl | apply V7 | apply V8 | apply V9); fail_if_success focus skip) (by simp)) ?_
  rintro _ _ ⟨_, _, _, ⟨rfl, rfl⟩, hF, hH⟩
  (try simp only [nsl, Nat.reduceAdd, Nat.reduceLT, Nat.reduceSub] at hF); (try simp only [nsl, Nat.reduceAdd, Nat.reduceLT, Nat.reduceSub] at hH); subst hF; subst hH
  first | refine RA rfl rfl (by decide) (rd_eql_t rfl rfl rfl (by omega)) ?_ | refine RA rfl rfl (by decide) (rd_eql_f rfl rfl rfl (by omega)) ?_ | refine RA rfl rfl (by decide) (rd_eql rfl rfl rfl) ?_
  refine RA rfl rfl (by decide) (rd_move rfl rfl) ?_
  first | (refine G1 rfl ?_; (refine RA rfl rfl (by decide) (rd_move rfl rfl) ?_)) | refine G2 rfl rfl (by decide) ?_
  first | (refine G1 rfl ?_; (refine RA rfl rfl (by decide) (rd_move rfl rfl) ?_)) | refine G2 rfl rfl (by decide) ?_
  first | (refine G1 rfl ?_; (first | refine RA rfl rfl (by decide) (rd_eql_t rfl rfl rfl (by omega)) ?_ | refine RA rfl rfl (by decide) (rd_eql_f rfl rfl rfl (by omega)) ?_ | refine RA rfl rfl (by decide) (rd_eql rfl rfl rfl) ?_)) | refine G2 rfl rfl (by decide) ?_
  first | refine RA rfl rfl (by decide) (rd_pick_t rfl rfl rfl) ?_ | refine RA rfl rfl (by decide) (rd_pick_f rfl rfl rfl) ?_
  refine RA rfl rfl (by decide) (rd_move rfl rfl) ?_
  first | (refine G1 rfl ?_; (refine RA rfl rfl (by decide) (rd_move rfl rfl) ?_)) | refine G2 rfl rfl (by decide) ?_
  first | (refine G1 rfl ?_; (refine RA rfl rfl (by decide) (rd_move rfl rfl) ?_)) | refine G2 rfl rfl (by decide) ?_
  first | refine G2 rfl rfl (by decide) ?_ | (refine G1 rfl ?_; refine al_ef rfl (ef_call0 false (fun _ => eqI_a Pa Pa va vx (by omega) (by omega)) rfl .fn rfl (by decide) Tc39 rfl (by intro _g; (repeat first | exact K0 | apply K1 rfl | apply K2 rfl rfl | apply K2 rfl (by simp) | apply K3 | exact L0 | apply L1 | exact V1 rfl | exact V2 rfl | exact V3 rfl rfl | exact V4 | exact V5 rfl | exact V3 rfl (by simp; omega) | exact V1 (by simp; omega) | exact V3 rfl (by simp) | exact V1 (by simp) | exact V6 rfl rfl (by first | rfl | simp) (by simp) rfl | apply V7 | apply V8 | apply V9); fail_if_success focus skip) (by simp)) ?_; rintro _ _ ⟨_, _, _, ⟨bm, rfl, rfl, hbm⟩, hF, hH⟩; obtain rfl : bm = true := hbm.2 rfl; (try simp only [nsl, Nat.reduceAdd, Nat.reduceLT, Nat.reduceSub] at hF); (try simp only [nsl, Nat.reduceAdd, Nat.reduceLT, Nat.reduceSub] at hH); subst hF; subst hH)
  first | refine RA rfl rfl (by decide) (rd_pick_t rfl rfl rfl) ?_ | refine RA rfl rfl (by decide) (rd_pick_f rfl rfl rfl) ?_
  refine RA rfl rfl (by decide) (rd_move rfl rfl) ?_
  first | (refine G1 rfl ?_; (refine RA rfl rfl (by decide) (rd_move rfl rfl) ?_)) | refine G2 rfl rfl (by decide) ?_
  first | (refine G1 rfl ?_; (refine RA rfl rfl (by decide) (rd_move rfl rfl) ?_)) | refine G2 rfl rfl (by decide) ?_
  first | (refine G1 rfl ?_; (first | refine RA rfl rfl (by decide) (rd_eql_t rfl rfl rfl (by omega)) ?_ | refine RA rfl rfl (by decide) (rd_eql_f rfl rfl rfl (by omega)) ?_ | refine RA rfl rfl (by decide) (rd_eql rfl rfl rfl) ?_)) | refine G2 rfl rfl (by decide) ?_
  first | refine RA rfl rfl (by decide) (rd_pick_t rfl rfl rfl) ?_ | refine RA rfl rfl (by decide) (rd_pick_f rfl rfl rfl) ?_
  refine RA rfl rfl (by decide) (rd_move rfl rfl) ?_
  first | (refine G1 rfl ?_; (refine RA rfl rfl (by decide) (rd_move rfl rfl) ?_)) | refine G2 rfl rfl (by decide) ?_
  first | (refine G1 rfl ?_; (refine RA rfl rfl (by decide) (rd_move rfl rfl) ?_)) | refine G2 rfl rfl (by decide) ?_
  first | (refine G1 rfl ?_; (refine RA rfl rfl (by decide) (rd_eqlb_tk rfl rfl rfl Try.underlying4) ?_)) | refine G2 rfl rfl (by decide) ?_
  first | refine RA rfl rfl (by decide) (rd_pick_t rfl rfl rfl) ?_ | refine RA rfl rfl (by decide) (rd_pick_f rfl rfl rfl) ?_
  refine RA rfl rfl (by decide) (rd_move rfl rfl) ?_
  first | (refine G1 rfl ?_; (refine RA rfl rfl (by decide) (rd_move rfl rfl) ?_)) | refine G2 rfl rfl (by decide) ?_
  first | (refine G1 rfl ?_; (refine RA rfl rfl (by decide) (rd_move rfl rfl) ?_)) | refine G2 rfl rfl (by decide) ?_
  first | (refine G1 rfl ?_; (first | refine RA rfl rfl (by decide) (rd_eql_t rfl rfl rfl (by omega)) ?_ | refine RA rfl rfl (by decide) (rd_eql_f rfl rfl rfl (by omega)) ?_ | refine RA rfl rfl (by decide) (rd_eql rfl rfl rfl) ?_)) | refine G2 rfl rfl (by decide) ?_
  first | refine RA rfl rfl (by decide) (rd_pick_t rfl rfl rfl) ?_ | refine RA rfl rfl (by decide) (rd_pick_f rfl rfl rfl) ?_
  refine RA rfl rfl (by decide) (rd_move rfl rfl) ?_
  first | (refine G1 rfl ?_; (refine RA rfl rfl (by decide) (rd_move rfl rfl) ?_)) | refine G2 rfl rfl (by decide) ?_
  first | (refine G1 rfl ?_; (refine RA rfl rfl (by decide) (rd_move rfl rfl) ?_)) | refine G2 rfl rfl (by decide) ?_
  first | refine G2 rfl rfl (by decide) ?_ | (refine G1 rfl ?_; refine al_ef rfl (ef_call0 false (fun _ => eqI_a Sa Sa vw vy (by omega) (by omega)) rfl .fn rfl (by decide) Tc39 rfl (by intro _g; (repeat first | exact K0 | apply K1 rfl | apply K2 rfl rfl | apply K2 rfl (by simp) | apply K3 | exact L0 | apply L1 | exact V1 rfl | exact V2 rfl | exact V3 rfl rfl | exact V4 | exact V5 rfl | exact V3 rfl (by simp; omega) | exact V1 (by simp; omega) | exact V3 rfl (by simp) | exact V1 (by simp) | exact V6 rfl rfl (by first | rfl | simp) (by simp) rfl | apply V7 | apply V8 | apply V9); fail_if_success focus skip) (by simp)) ?_; rintro _ _ ⟨_, _, _, ⟨bm, rfl, rfl, hbm⟩, hF, hH⟩; obtain rfl : bm = true := hbm.2 rfl; (try simp only [nsl, Nat.reduceAdd, Nat.reduceLT, Nat.reduceSub] at hF); (try simp only [nsl, Nat.reduceAdd, Nat.reduceLT, Nat.reduceSub] at hH); subst hF; subst hH)
  first | refine RA rfl rfl (by decide) (rd_pick_t rfl rfl rfl) ?_ | refine RA rfl rfl (by decide) (rd_pick_f rfl rfl rfl) ?_
  refine RA rfl rfl (by decide) (rd_move rfl rfl) ?_
  first | refine G2 rfl rfl (by decide) ?_ | (refine G1 rfl ?_; refine al_ef rfl (ef_call0 false (fun _ => moved_a) rfl .fn rfl (by decide) Tc40 rfl (by intro _g; (repeat first | exact K0 | apply K1 rfl | apply K2 rfl rfl | apply K2 rfl (by simp) | apply K3 | exact L0 | apply L1 | exact V1 rfl | exact V2 rfl | exact V3 rfl rfl | exact V4 | exact V5 rfl | exact V3 rfl (by simp; omega) | exact V1 (by simp; omega) | exact V3 rfl (by simp) | exact V1 (by simp) | exact V6 rfl rfl (by first | rfl | simp) (by simp) rfl | apply V7 | apply V8 | apply V9); fail_if_success focus skip) (by simp)) ?_; rintro _ _ ⟨_, _, _, ⟨rfl, rfl⟩, hF, hH⟩; (try simp only [nsl, Nat.reduceAdd, Nat.reduceLT, Nat.reduceSub] at hF); (try simp only [nsl, Nat.reduceAdd, Nat.reduceLT, Nat.reduceSub] at hH); subst hF; subst hH)
  first | refine RA rfl rfl (by decide) (rd_pick_t rfl rfl rfl) ?_ | refine RA rfl rfl (by decide) (rd_pick_f rfl rfl rfl) ?_
  refine RA rfl rfl (by decide) (rd_assign rfl rfl) ?_
  refine al_nil ?_
  repeat with_reducible first | refine S1 ?_ | refine S2 ?_ | refine S3 ?_ | refine S4 ?_ | refine S5 ?_ | refine S6 ?_ | refine S7 ?_ | refine S8 ?_ | refine S9 rfl ?_ | refine SA ?_ | refine SB ?_ | refine SC ?_
  exact aret_1 [] _ rfl rfl rfl (by decide) (fun _ hi => absurd hi (Nat.not_lt_zero _)) (by intro _g; (repeat first | exact K0 | apply K1 rfl | apply K2 rfl rfl | apply K2 rfl (by simp) | apply K3 | exact L0 | apply L1 | exact V1 rfl | exact V2 rfl | exact V3 rfl rfl | exact V4 | exact V5 rfl | exact V3 rfl (by simp; omega) | exact V1 (by simp; omega) | exact V3 rfl (by simp) | exact V1 (by simp) | exact V6 rfl rfl (by first | rfl | simp) (by simp) rfl | apply V7 | apply V8 | apply V9); fail_if_success focus skip) rfl
end Go.Proofs.Ytpbedckdnoogpaa
