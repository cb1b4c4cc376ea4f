/- The stream's legs, corners and changes of speed. -/
import Derived.Test.YtpbedckdnoogpaaSs
import Derived.Test.YtpbedckdnoogpaaMb
set_option linter.unusedSimpArgs false
set_option linter.unusedVariables false
namespace Go.Proofs.Ytpbedckdnoogpaa
open Go Go.RowKit
set_option maxRecDepth 100000
theorem change_a (v : Value) (zs : List Int) (a : Int) (hs : StrOk zs) (h0 : 0 ≤ a) (h1 : a ≤ 1000000000) :
    ACalls Try.prog 28 [.p 0 0 0] [strm v zs a] fun u H => ∃ r, u = .c (I r) ∧ H = [strm v zs (a + 1)] ∧ -1 ≤ r ∧ r ≤ 10000001 := by
  refine acalls_of (N := 6) Try.func28 rfl rfl (by simp) fun E hE => ?_
  repeat with_reducible first | refine S1 ?_ | refine S2 ?_ | refine S3 ?_ | refine S4 ?_ | refine S5 ?_ | refine S6 ?_ | refine S7 ?_ | refine S8 ?_ | refine S9 rfl ?_ | refine SA ?_ | refine SB ?_ | refine SC ?_
  refine aw_region ?_
  refine RA rfl rfl (by decide) (rd_assign rfl rfl) ?_
  refine al_nil ?_
  repeat with_reducible first | refine S1 ?_ | refine S2 ?_ | refine S3 ?_ | refine S4 ?_ | refine S5 ?_ | refine S6 ?_ | refine S7 ?_ | refine S8 ?_ | refine S9 rfl ?_ | refine SA ?_ | refine SB ?_ | refine SC ?_
  refine aw_region ?_
  refine RA rfl rfl (by decide) (rd_move rfl rfl) ?_
  refine EA rfl (ef_buildSlicen rfl rfl (by decide) Te22 (.cons rfl rfl (.cons rfl rfl (.cons rfl rfl (.cons rfl rfl (.cons rfl rfl (.cons rfl rfl (.cons rfl rfl (.cons rfl rfl (.cons rfl rfl (.nil _)))))))))) rfl Tz3 rfl rfl (by simp) (by simp) (by (try simp only [nm, putL, Nat.reduceAdd, cellsOf, cvOf]) <;> rfl) (by (try simp only [nm, putL, Nat.reduceAdd, cellsOf, cvOf]) <;> rfl)) ?_
  refine al_ef rfl (ef_callm true (fun _ => pick_a [50, 10, 1, 500, 10000, 50, 0, 10000000, 10000001] _ _ _ _ hs (by omega) (by omega) (by simp) (by simp)) rfl .fn rfl (by decide) Tc32 rfl rfl (fun _g => .cons (.p rfl) (.cons (.frz rfl rfl rfl rfl rfl) .nil)) (fun _g => .cons (.c rfl) (.cons (.c rfl) .nil)) (fun _ _ _ _ ⟨_, hu, hH, _⟩ => by rw [hu, hH]; exact ⟨.c (.inl trivial), strm_flat (.inr ⟨0, _, rfl, by simp⟩)⟩)) ?_
  rintro F1 H1 ⟨_, _, _, _, ⟨r, rfl, hq, hrmr⟩, hF, hH⟩
  injection hq with hq1 hq2; subst hq1; subst hq2
  (try simp only [nsl, Nat.reduceAdd, Nat.reduceLT, Nat.reduceSub] at hF); (try simp only [nsl, Nat.reduceAdd, Nat.reduceLT, Nat.reduceSub] at hH); subst hF; subst hH
  refine RA rfl rfl (by decide) (rd_assign rfl rfl) ?_
  refine al_nil ?_
  repeat with_reducible first | refine S1 ?_ | refine S2 ?_ | refine S3 ?_ | refine S4 ?_ | refine S5 ?_ | refine S6 ?_ | refine S7 ?_ | refine S8 ?_ | refine S9 rfl ?_ | refine SA ?_ | refine SB ?_ | refine SC ?_
  refine aret_1 [some 0] _ rfl rfl rfl (by decide) (fun i hi => by (have hi : i < 1 := hi); (have h0 : i = 0 := (by omega)); (subst h0); rfl) (by intro _g; (repeat first | exact K0 | apply K1 rfl | apply K2 rfl rfl | apply K2 rfl (by simp) | apply K3 | exact L0 | apply L1 | exact V1 rfl | exact V2 rfl | exact V3 rfl rfl | exact V4 | exact V5 rfl | exact V3 rfl (by simp; omega) | exact V1 (by simp; omega) | exact V3 rfl (by simp) | exact V1 (by simp) | exact V6 rfl rfl (by first | rfl | simp) (by simp) rfl | apply V7 | apply V8 | apply V9); fail_if_success focus skip) ⟨_, rfl, rfl, ?_⟩
  simp only [List.mem_cons, List.not_mem_nil, or_false] at hrmr
  omega
theorem leglist_a (most : Int) (v : Value) (zs : List Int) (a : Int) (hs : StrOk zs) (h0 : 0 ≤ a) (h1 : a ≤ 700000000) (hm : 1 ≤ most) (hm2 : most ≤ 1000000) :
    ACalls Try.prog 26 [.p 0 0 0, .c (I most)] [strm v zs a] fun u H => ∃ (v' : Value) (l : List Leg) (a' : Int), u = .c (legs_r v' l) ∧ H = [strm v zs a'] ∧ a ≤ a' ∧ a' ≤ a + 2 * most + 10 ∧ l.length ≤ most := by
  refine acalls_of (N := 55) Try.func26 rfl rfl (by simp) fun E hE => ?_
  repeat with_reducible first | refine S1 ?_ | refine S2 ?_ | refine S3 ?_ | refine S4 ?_ | refine S5 ?_ | refine S6 ?_ | refine S7 ?_ | refine S8 ?_ | refine S9 rfl ?_ | refine SA ?_ | refine SB ?_ | refine SC ?_
  refine aw_region ?_
  refine RA rfl rfl (by decide) (rd_assign rfl rfl) ?_
  refine al_nil ?_
  repeat with_reducible first | refine S1 ?_ | refine S2 ?_ | refine S3 ?_ | refine S4 ?_ | refine S5 ?_ | refine S6 ?_ | refine S7 ?_ | refine S8 ?_ | refine S9 rfl ?_ | refine SA ?_ | refine SB ?_ | refine SC ?_
  refine aw_region ?_
  refine RA rfl rfl (by decide) (rd_assign rfl rfl) ?_
  refine al_nil ?_
  repeat with_reducible first | refine S1 ?_ | refine S2 ?_ | refine S3 ?_ | refine S4 ?_ | refine S5 ?_ | refine S6 ?_ | refine S7 ?_ | refine S8 ?_ | refine S9 rfl ?_ | refine SA ?_ | refine SB ?_ | refine SC ?_
  refine aw_region ?_
  refine RA rfl rfl (by decide) (rd_move rfl rfl) ?_
  refine RA rfl rfl (by decide) (rd_move rfl rfl) ?_
  refine al_ef rfl (ef_callm false (fun _ => range_a 1 most _ _ _ hs (by omega) (by omega) (by omega) (by omega) (by omega) (by omega)) rfl .fn rfl (by decide) Tc87 rfl rfl (fun _g => .cons (.p rfl) (.cons (.c rfl) (.cons (.c rfl) .nil))) (fun _g => .cons (.c rfl) (.cons (.c rfl) .nil)) (by simp)) ?_
  rintro F1 H1 ⟨_, _, _, _, ⟨rr, ar, rfl, hq, hr3, hr4, hr1, hr2, _⟩, hF, hH⟩
  injection hq with hq1 hq2; subst hq1; subst hq2
  (try simp only [nsl, Nat.reduceAdd, Nat.reduceLT, Nat.reduceSub] at hF); (try simp only [nsl, Nat.reduceAdd, Nat.reduceLT, Nat.reduceSub] at hH); subst hF; subst hH
  have h64r : in64 rr := by simp only [in64]; omega
  refine RA rfl rfl (by decide) (rd_move rfl rfl) ?_
  refine al_nil ?_
  repeat with_reducible first | refine S1 ?_ | refine S2 ?_ | refine S3 ?_ | refine S4 ?_ | refine S5 ?_ | refine S6 ?_ | refine S7 ?_ | refine S8 ?_ | refine S9 rfl ?_ | refine SA ?_ | refine SB ?_ | refine SC ?_
  refine aw_loopw (fun m F H => ∃ (k : Nat) (l : List Leg) (c : Nat) (a' : Int), m + k = rr.toNat ∧ a ≤ a' ∧ a' ≤ a + 1 + 2 * k ∧ l.length = k ∧ F = [(0, .p 0 0 0), (5, .o 1 0 l.length c), (8, .c (I rr)), (9, .c (I k))] ∧ H = [strm v zs a', .arr 64 2 c (l.map Leg.row)]) ?_ ?_
  · refine wk_of [some 0, none] (fun _ => [(0, .p 0 0 0), (5, .o 1 0 ([] : List Leg).length 0), (8, .c (I rr)), (9, .c (I (0 : Nat)))]) (fun _ => [strm v zs _, .arr 64 2 0 (([] : List Leg).map Leg.row)]) (by decide) (by rw [hE]; first | exact (fun _ hi => absurd hi (Nat.not_lt_zero _)) | exact (fun i hi => by (have hi : i < 1 := hi); (have h0 : i = 0 := (by omega)); (subst h0); rfl)) (by intro _g; (repeat first | exact W0 | apply W1 rfl | exact L0 | apply L1 | exact V1 rfl | exact V2 rfl | exact V3 rfl rfl | exact V4 | exact V5 rfl | exact V3 rfl (by simp; omega) | exact V1 (by simp; omega) | exact V3 rfl (by simp) | exact V1 (by simp) | exact V6 rfl rfl (by first | rfl | simp) (by simp) rfl | apply V7 | apply V8 | apply V9 | refine V1 ?_ | refine V3 rfl ?_); fail_if_success focus skip) (by intro _g; (repeat first | exact K0 | apply K1 rfl | apply K2 rfl rfl | apply K2 rfl (by simp) | apply K3 | exact L0 | apply L1 | exact V1 rfl | exact V2 rfl | exact V3 rfl rfl | exact V4 | exact V5 rfl | exact V3 rfl (by simp; omega) | exact V1 (by simp; omega) | exact V3 rfl (by simp) | exact V1 (by simp) | exact V6 rfl rfl (by first | rfl | simp) (by simp) rfl | apply V7 | apply V8 | apply V9); fail_if_success focus skip) (fun _ => ?_)
    exact ⟨rr.toNat, 0, [], 0, _, by omega, by omega, by omega, rfl, rfl, rfl⟩
  rintro m F H ⟨k, l, c, a', hmk, ha1, ha2, hl, rfl, rfl⟩
  repeat with_reducible first | refine S1 ?_ | refine S2 ?_ | refine S3 ?_ | refine S4 ?_ | refine S5 ?_ | refine S6 ?_ | refine S7 ?_ | refine S8 ?_ | refine S9 rfl ?_ | refine SA ?_ | refine SB ?_ | refine SC ?_
  refine aw_region ?_
  first | refine RA rfl rfl (by decide) (rd_lss_t rfl rfl rfl (by omega)) ?_ | refine RA rfl rfl (by decide) (rd_lss_f rfl rfl rfl (by omega)) ?_ | refine RA rfl rfl (by decide) (rd_lss rfl rfl rfl) ?_
  refine al_nil ?_
  repeat with_reducible first | refine S1 ?_ | refine S2 ?_ | refine S3 ?_ | refine S4 ?_ | refine S5 ?_ | refine S6 ?_ | refine S7 ?_ | refine S8 ?_ | refine S9 rfl ?_ | refine SA ?_ | refine SB ?_ | refine SC ?_
  refine aw_if rfl (fun hlt => ?_) (fun hge => ?_)
  · repeat with_reducible first | refine S1 ?_ | refine S2 ?_ | refine S3 ?_ | refine S4 ?_ | refine S5 ?_ | refine S6 ?_ | refine S7 ?_ | refine S8 ?_ | refine S9 rfl ?_ | refine SA ?_ | refine SB ?_ | refine SC ?_
    refine aw_region ?_
    refine RA rfl rfl (by decide) (rd_move rfl rfl) ?_
    refine RA rfl rfl (by decide) (rd_move rfl rfl) ?_
    refine EA rfl (ef_buildSlicen rfl rfl (by decide) Te22 (.cons rfl rfl (.cons rfl rfl (.cons rfl rfl (.cons rfl rfl (.cons rfl rfl (.nil _)))))) rfl Tz3 rfl rfl (by simp) (by simp) (by (try simp only [nm, putL, Nat.reduceAdd, cellsOf, cvOf]) <;> rfl) (by (try simp only [nm, putL, Nat.reduceAdd, cellsOf, cvOf]) <;> rfl)) ?_
    refine al_ef rfl (ef_callm true (fun _ => pick_a [1, 5, 20, 100, 1000] _ _ _ _ hs (by omega) (by omega) (by simp) (by simp)) rfl .fn rfl (by decide) Tc32 rfl rfl (fun _g => .cons (.p rfl) (.cons (.frz rfl rfl rfl rfl rfl) .nil)) (fun _g => .cons (.c rfl) (.cons (.c rfl) .nil)) (fun _ _ _ _ ⟨_, hu, hH, _⟩ => by rw [hu, hH]; exact ⟨.c (.inl trivial), strm_flat (.inr ⟨0, _, rfl, by simp⟩)⟩)) ?_
    rintro F1 H1 ⟨_, _, _, _, ⟨x, rfl, hq, hrmx⟩, hF, hH⟩
    injection hq with hq1 hq2; subst hq1; subst hq2
    (try simp only [nsl, Nat.reduceAdd, Nat.reduceLT, Nat.reduceSub] at hF); (try simp only [nsl, Nat.reduceAdd, Nat.reduceLT, Nat.reduceSub] at hH); subst hF; subst hH
    refine RA rfl rfl (by decide) (rd_move rfl rfl) ?_
    refine EA rfl (ef_buildSlicen rfl rfl (by decide) Te22 (.cons rfl rfl (.cons rfl rfl (.cons rfl rfl (.cons rfl rfl (.nil _))))) rfl Tz3 rfl rfl (by simp) (by simp) (by (try simp only [nm, putL, Nat.reduceAdd, cellsOf, cvOf]) <;> rfl) (by (try simp only [nm, putL, Nat.reduceAdd, cellsOf, cvOf]) <;> rfl)) ?_
    refine al_ef rfl (ef_callm true (fun _ => pick_a [10, 50, 100, 500] _ _ _ _ hs (by omega) (by omega) (by simp) (by simp)) rfl .fn rfl (by decide) Tc32 rfl rfl (fun _g => .cons (.p rfl) (.cons (.frz rfl rfl rfl rfl rfl) .nil)) (fun _g => .cons (.c rfl) (.cons (.c rfl) .nil)) (fun _ _ _ _ ⟨_, hu, hH, _⟩ => by rw [hu, hH]; exact ⟨.c (.inl trivial), strm_flat (.inr ⟨0, _, rfl, by simp⟩)⟩)) ?_
    rintro F1 H1 ⟨_, _, _, _, ⟨y, rfl, hq, hrmy⟩, hF, hH⟩
    injection hq with hq1 hq2; subst hq1; subst hq2
    (try simp only [nsl, Nat.reduceAdd, Nat.reduceLT, Nat.reduceSub] at hF); (try simp only [nsl, Nat.reduceAdd, Nat.reduceLT, Nat.reduceSub] at hH); subst hF; subst hH
    refine RA rfl rfl (by decide) (rd_build rfl Tz64 rfl Tb64 (.cons rfl rfl rfl (by simp) rfl (by (try simp only [nm, putL, Nat.reduceAdd, cellsOf, cvOf]) <;> rfl) (.cons rfl rfl rfl (by simp) rfl (by (try simp only [nm, putL, Nat.reduceAdd, cellsOf, cvOf]) <;> rfl) (.nil)))) ?_
    refine EA rfl (ef_buildSlicen rfl rfl (by decide) Te54 (.cons rfl rfl (.nil _)) rfl Tz64 rfl rfl (by simp) (by simp) (by (try simp only [nm, putL, Nat.reduceAdd, cellsOf, cvOf]) <;> rfl) (by (try simp only [nm, putL, Nat.reduceAdd, cellsOf, cvOf]) <;> rfl)) ?_
    refine al_ef rfl (ef_appn rfl rfl (by decide) Ta54 rfl rfl (by first | rfl | simp | (simp; omega)) rfl (by first | exact Src.own rfl (by (try simp only [nm, putL, Nat.reduceAdd, cellsOf, cvOf]) <;> rfl) (by first | rfl | simp | (simp; omega)) | exact Src.ro (by simp) (by simp [CV.one, Value.oneCell'])) (by (try simp only [nm, putL, Nat.reduceAdd, cellsOf, cvOf]) <;> rfl) (by omega) (fun _ _ => rfl) (by intro g c2; simp only [List.map_cons, List.map_nil, killO, killV, AV.has, AV.hasL, List.contains_cons, List.contains_nil, Nat.reduceBEq, Bool.or_false, Bool.false_or, Bool.false_eq_true, beq_self_eq_true, if_false, if_true, List.set_cons_zero, List.set_cons_succ, List.nil_append]; rfl)) ?_
    rintro _ _ ⟨_, cc, hcc, rfl, rfl⟩
    refine RA rfl rfl (by decide) (rd_assign rfl rfl) ?_
    refine al_nil ?_
    repeat with_reducible first | refine S1 ?_ | refine S2 ?_ | refine S3 ?_ | refine S4 ?_ | refine S5 ?_ | refine S6 ?_ | refine S7 ?_ | refine S8 ?_ | refine S9 rfl ?_ | refine SA ?_ | refine SB ?_ | refine SC ?_
    refine aw_region ?_
    first | refine RA rfl rfl (by decide) (rd_addn rfl rfl rfl (by omega)) ?_ | refine RA rfl rfl (by decide) (rd_add rfl rfl rfl) ?_
    refine RA rfl rfl (by decide) (rd_move rfl rfl) ?_
    refine al_nil ?_
    repeat with_reducible first | refine S1 ?_ | refine S2 ?_ | refine S3 ?_ | refine S4 ?_ | refine S5 ?_ | refine S6 ?_ | refine S7 ?_ | refine S8 ?_ | refine S9 rfl ?_ | refine SA ?_ | refine SB ?_ | refine SC ?_
    refine wk_of [some 0, some 1] (fun _ => [(0, .p 0 0 0), (5, .o 1 0 (l ++ [(⟨x, y⟩ : Leg)]).length cc), (8, .c (I rr)), (9, .c (I (k + 1 : Nat)))]) (fun _ => _) (by decide) (by rw [hE]; first | exact (fun _ hi => absurd hi (Nat.not_lt_zero _)) | exact (fun i hi => by (have hi : i < 1 := hi); (have h0 : i = 0 := (by omega)); (subst h0); rfl)) (by intro _g; (repeat first | exact W0 | apply W1 rfl | exact L0 | apply L1 | exact V1 rfl | exact V2 rfl | exact V3 rfl rfl | exact V4 | exact V5 rfl | exact V3 rfl (by simp; omega) | exact V1 (by simp; omega) | exact V3 rfl (by simp) | exact V1 (by simp) | exact V6 rfl rfl (by first | rfl | simp) (by simp) rfl | apply V7 | apply V8 | apply V9 | refine V1 ?_ | refine V3 rfl ?_); fail_if_success focus skip) (by intro _g; (repeat first | exact K0 | apply K1 rfl | apply K2 rfl rfl | apply K2 rfl (by simp) | apply K3 | exact L0 | apply L1 | exact V1 rfl | exact V2 rfl | exact V3 rfl rfl | exact V4 | exact V5 rfl | exact V3 rfl (by simp; omega) | exact V1 (by simp; omega) | exact V3 rfl (by simp) | exact V1 (by simp) | exact V6 rfl rfl (by first | rfl | simp) (by simp) rfl | apply V7 | apply V8 | apply V9); fail_if_success focus skip) (fun _ => ?_)
    exact ⟨m - 1, by omega, k + 1, l ++ [⟨x, y⟩], cc, a' + 1 + 1, by omega, by omega, by omega, by simp; omega, rfl, by rw [List.map_append]; rfl⟩
  repeat with_reducible first | refine S1 ?_ | refine S2 ?_ | refine S3 ?_ | refine S4 ?_ | refine S5 ?_ | refine S6 ?_ | refine S7 ?_ | refine S8 ?_ | refine S9 rfl ?_ | refine SA ?_ | refine SB ?_ | refine SC ?_
  repeat with_reducible first | refine S1 ?_ | refine S2 ?_ | refine S3 ?_ | refine S4 ?_ | refine S5 ?_ | refine S6 ?_ | refine S7 ?_ | refine S8 ?_ | refine S9 rfl ?_ | refine SA ?_ | refine SB ?_ | refine SC ?_
  refine aw_region ?_
  refine RA rfl rfl (by decide) (rd_move rfl rfl) ?_
  refine al_ef rfl (ef_callm false (fun _ => flip_a 12 _ _ _ hs (by omega) (by omega) (by simp only [in64]; omega)) rfl .fn rfl (by decide) Tc11 rfl rfl (fun _g => .cons (.p rfl) (.cons (.c rfl) .nil)) (fun _g => .cons (.c rfl) (.cons (.c rfl) .nil)) (by simp)) ?_
  rintro F1 H1 ⟨_, _, _, _, ⟨bb, rfl, hq⟩, hF, hH⟩
  injection hq with hq1 hq2; subst hq1; subst hq2
  (try simp only [nsl, Nat.reduceAdd, Nat.reduceLT, Nat.reduceSub] at hF); (try simp only [nsl, Nat.reduceAdd, Nat.reduceLT, Nat.reduceSub] at hH); subst hF; subst hH
  refine al_nil ?_
  refine aseq_n ?_
  refine aw_cut (fun F H => ∃ (l : List Leg) (c : Nat) (a' : Int), a ≤ a' ∧ a' ≤ a + 2 * most + 10 ∧ l.length ≤ most ∧ F = [(5, .o 1 0 l.length c)] ∧ H = [strm v zs a', .arr 64 2 c (l.map Leg.row)]) ?_ ?_ wk_aw
  · refine aw_cond rfl (fun _ => ?_) (fun _ => ?_)
    · repeat with_reducible first | refine S1 ?_ | refine S2 ?_ | refine S3 ?_ | refine S4 ?_ | refine S5 ?_ | refine S6 ?_ | refine S7 ?_ | refine S8 ?_ | refine S9 rfl ?_ | refine SA ?_ | refine SB ?_ | refine SC ?_
      refine aw_region ?_
      refine RA rfl rfl (by decide) (rd_move rfl rfl) ?_
      refine al_ef rfl (ef_callm false (fun _ => next_a 3 _ _ _ hs (by omega) (by omega) (by simp only [in64]; omega)) rfl .fn rfl (by decide) Tc13 rfl rfl (fun _g => .cons (.p rfl) (.cons (.c rfl) .nil)) (fun _g => .cons (.c rfl) (.cons (.c rfl) .nil)) (by simp)) ?_
      rintro F1 H1 ⟨_, _, _, _, ⟨rr, rfl, hq, hr1, hr2⟩, hF, hH⟩
      injection hq with hq1 hq2; subst hq1; subst hq2
      (try simp only [nsl, Nat.reduceAdd, Nat.reduceLT, Nat.reduceSub] at hF); (try simp only [nsl, Nat.reduceAdd, Nat.reduceLT, Nat.reduceSub] at hH); subst hF; subst hH
      refine al_nil ?_
      repeat with_reducible first | refine S1 ?_ | refine S2 ?_ | refine S3 ?_ | refine S4 ?_ | refine S5 ?_ | refine S6 ?_ | refine S7 ?_ | refine S8 ?_ | refine S9 rfl ?_ | refine SA ?_ | refine SB ?_ | refine SC ?_
      repeat with_reducible first | refine S1 ?_ | refine S2 ?_ | refine S3 ?_ | refine S4 ?_ | refine S5 ?_ | refine S6 ?_ | refine S7 ?_ | refine S8 ?_ | refine S9 rfl ?_ | refine SA ?_ | refine SB ?_ | refine SC ?_
      refine aw_region ?_
      first | refine RA rfl rfl (by decide) (rd_eql_t rfl rfl rfl (by omega)) ?_ | refine RA rfl rfl (by decide) (rd_eql_f rfl rfl rfl (by omega)) ?_ | refine RA rfl rfl (by decide) (rd_eql rfl rfl rfl) ?_
      refine RA rfl rfl (by decide) (rd_assign rfl rfl) ?_
      refine al_nil ?_
      repeat with_reducible first | refine S1 ?_ | refine S2 ?_ | refine S3 ?_ | refine S4 ?_ | refine S5 ?_ | refine S6 ?_ | refine S7 ?_ | refine S8 ?_ | refine S9 rfl ?_ | refine SA ?_ | refine SB ?_ | refine SC ?_
      refine aw_if rfl (fun he => ?_) (fun he => ?_)
      · repeat with_reducible first | refine S1 ?_ | refine S2 ?_ | refine S3 ?_ | refine S4 ?_ | refine S5 ?_ | refine S6 ?_ | refine S7 ?_ | refine S8 ?_ | refine S9 rfl ?_ | refine SA ?_ | refine SB ?_ | refine SC ?_
        refine aw_region ?_
        refine RA rfl rfl (by decide) (rd_assign rfl rfl) ?_
        refine al_nil ?_
        repeat with_reducible first | refine S1 ?_ | refine S2 ?_ | refine S3 ?_ | refine S4 ?_ | refine S5 ?_ | refine S6 ?_ | refine S7 ?_ | refine S8 ?_ | refine S9 rfl ?_ | refine SA ?_ | refine SB ?_ | refine SC ?_
        exact aret_1 [some 0] _ rfl rfl rfl (by decide) (fun i hi => by (have hi : i < 1 := hi); (have h0 : i = 0 := (by omega)); (subst h0); rfl) (by intro _g; (repeat first | exact K0 | apply K1 rfl | apply K2 rfl rfl | apply K2 rfl (by simp) | apply K3 | exact L0 | apply L1 | exact V1 rfl | exact V2 rfl | exact V3 rfl rfl | exact V4 | exact V5 rfl | exact V3 rfl (by simp; omega) | exact V1 (by simp; omega) | exact V3 rfl (by simp) | exact V1 (by simp) | exact V6 rfl rfl (by first | rfl | simp) (by simp) rfl | apply V7 | apply V8 | apply V9); fail_if_success focus skip) ⟨_, [], _, rfl, rfl, by omega, by omega, by simp; omega⟩
      repeat with_reducible first | refine S1 ?_ | refine S2 ?_ | refine S3 ?_ | refine S4 ?_ | refine S5 ?_ | refine S6 ?_ | refine S7 ?_ | refine S8 ?_ | refine S9 rfl ?_ | refine SA ?_ | refine SB ?_ | refine SC ?_
      repeat with_reducible first | refine S1 ?_ | refine S2 ?_ | refine S3 ?_ | refine S4 ?_ | refine S5 ?_ | refine S6 ?_ | refine S7 ?_ | refine S8 ?_ | refine S9 rfl ?_ | refine SA ?_ | refine SB ?_ | refine SC ?_
      refine aw_region ?_
      first | refine RA rfl rfl (by decide) (rd_eql_t rfl rfl rfl (by omega)) ?_ | refine RA rfl rfl (by decide) (rd_eql_f rfl rfl rfl (by omega)) ?_ | refine RA rfl rfl (by decide) (rd_eql rfl rfl rfl) ?_
      refine RA rfl rfl (by decide) (rd_assign rfl rfl) ?_
      refine al_nil ?_
      repeat with_reducible first | refine S1 ?_ | refine S2 ?_ | refine S3 ?_ | refine S4 ?_ | refine S5 ?_ | refine S6 ?_ | refine S7 ?_ | refine S8 ?_ | refine S9 rfl ?_ | refine SA ?_ | refine SB ?_ | refine SC ?_
      refine aw_if rfl (fun he1 => ?_) (fun he1 => ?_)
      · repeat with_reducible first | refine S1 ?_ | refine S2 ?_ | refine S3 ?_ | refine S4 ?_ | refine S5 ?_ | refine S6 ?_ | refine S7 ?_ | refine S8 ?_ | refine S9 rfl ?_ | refine SA ?_ | refine SB ?_ | refine SC ?_
        refine aw_region ?_
        refine RA rfl rfl (by decide) (rd_move rfl rfl) ?_
        refine RA rfl rfl (by decide) (rd_move rfl rfl) ?_
        refine RA rfl rfl (by decide) (rd_move rfl rfl) ?_
        first | refine RA rfl rfl (by decide) (rd_len rfl Te54 rfl) ?_ | refine RA rfl rfl (by decide) (rd_lenr rfl Te54 rfl) ?_
        refine al_ef rfl (ef_callm false (fun _ => next_a _ _ _ _ hs (by omega) (by omega) (by simp only [in64]; omega)) rfl .fn rfl (by decide) Tc13 rfl rfl (fun _g => .cons (.p rfl) (.cons (.c rfl) .nil)) (fun _g => .cons (.c rfl) (.cons (.c rfl) .nil)) (by simp)) ?_
        rintro F1 H1 ⟨_, _, _, _, ⟨r, rfl, hq, hr1, hr2⟩, hF, hH⟩
        injection hq with hq1 hq2; subst hq1; subst hq2
        (try simp only [nsl, Nat.reduceAdd, Nat.reduceLT, Nat.reduceSub] at hF); (try simp only [nsl, Nat.reduceAdd, Nat.reduceLT, Nat.reduceSub] at hH); subst hF; subst hH
        obtain ⟨i, rfl⟩ : ∃ i : Nat, r = i := ⟨r.toNat, by omega⟩
        have hk : i < l.length := by have := hr2 (by omega); omega
        obtain ⟨x, hx⟩ : ∃ x, l[i]? = some x := ⟨_, List.getElem?_eq_getElem hk⟩
        have hrow : (l.map Leg.row)[i]? = some [I x.long, I x.limit] := by rw [List.getElem?_map, hx]; rfl
        refine RA rfl rfl (by decide) (rd_move rfl rfl) ?_
        refine al_ef rfl (ef_callm false (fun _ => odd_a 1 200000 _ _ _ hs (by omega) (by omega) (by omega) (by omega) (by omega) (by omega)) rfl .fn rfl (by decide) Tc101 rfl rfl (fun _g => .cons (.p rfl) (.cons (.c rfl) (.cons (.c rfl) .nil))) (fun _g => .cons (.c rfl) (.cons (.c rfl) .nil)) (by simp)) ?_
        rintro F1 H1 ⟨_, _, _, _, ⟨x1, ar, rfl, hq, hr3, hr4, h64x1⟩, hF, hH⟩
        injection hq with hq1 hq2; subst hq1; subst hq2
        (try simp only [nsl, Nat.reduceAdd, Nat.reduceLT, Nat.reduceSub] at hF); (try simp only [nsl, Nat.reduceAdd, Nat.reduceLT, Nat.reduceSub] at hH); subst hF; subst hH
        refine RA rfl rfl (by decide) (rd_move rfl rfl) ?_
        refine EA rfl (ef_buildSlicen rfl rfl (by decide) Te22 (.cons rfl rfl (.cons rfl rfl (.nil _))) rfl Tz3 rfl rfl (by simp) (by simp) (by (try simp only [nm, putL, Nat.reduceAdd, cellsOf, cvOf]) <;> rfl) (by (try simp only [nm, putL, Nat.reduceAdd, cellsOf, cvOf]) <;> rfl)) ?_
        refine al_ef rfl (ef_callm true (fun _ => pick_a [10, 100000] _ _ _ _ hs (by omega) (by omega) (by simp) (by simp)) rfl .fn rfl (by decide) Tc32 rfl rfl (fun _g => .cons (.p rfl) (.cons (.frz rfl rfl rfl rfl rfl) .nil)) (fun _g => .cons (.c rfl) (.cons (.c rfl) .nil)) (fun _ _ _ _ ⟨_, hu, hH, _⟩ => by rw [hu, hH]; exact ⟨.c (.inl trivial), strm_flat (.inr ⟨0, _, rfl, by simp⟩)⟩)) ?_
        rintro F1 H1 ⟨_, _, _, _, ⟨y1, rfl, hq, hrmy1⟩, hF, hH⟩
        injection hq with hq1 hq2; subst hq1; subst hq2
        (try simp only [nsl, Nat.reduceAdd, Nat.reduceLT, Nat.reduceSub] at hF); (try simp only [nsl, Nat.reduceAdd, Nat.reduceLT, Nat.reduceSub] at hH); subst hF; subst hH
        refine RA rfl rfl (by decide) (rd_build rfl Tz64 rfl Tb64 (.cons rfl rfl rfl (by simp) rfl (by (try simp only [nm, putL, Nat.reduceAdd, cellsOf, cvOf]) <;> rfl) (.cons rfl rfl rfl (by simp) rfl (by (try simp only [nm, putL, Nat.reduceAdd, cellsOf, cvOf]) <;> rfl) (.nil)))) ?_
        first | refine RA rfl rfl (by decide) (rd_index rfl Te54 rfl rfl rfl (by first | rfl | omega) (by omega)) ?_ | refine RA rfl rfl (by decide) (rd_indexq rfl Te54 rfl rfl (by first | rfl | omega) (by assumption) rfl) ?_
        first | refine EA rfl (ef_storen rfl rfl rfl rfl rfl Ts64 rfl (by simp) rfl (by (try simp only [nm, putL, Nat.reduceAdd, cellsOf, cvOf]) <;> rfl) (by (try simp only [nm, putL, Nat.reduceAdd, cellsOf, cvOf]) <;> rfl)) ?_ | refine EA rfl (ef_storern rfl rfl rfl rfl (by first | assumption | (rw [Nat.zero_add]; assumption)) rfl rfl Ts64 rfl (by simp) rfl (by (try simp only [nm, putL, Nat.reduceAdd, cellsOf, cvOf]) <;> rfl) rfl) ?_
        refine al_nil ?_
        repeat with_reducible first | refine S1 ?_ | refine S2 ?_ | refine S3 ?_ | refine S4 ?_ | refine S5 ?_ | refine S6 ?_ | refine S7 ?_ | refine S8 ?_ | refine S9 rfl ?_ | refine SA ?_ | refine SB ?_ | refine SC ?_
        refine wk_of [some 0, some 1] (fun _ => [(5, .o 1 0 (l.set i (⟨x1, y1⟩ : Leg)).length c)]) (fun _ => _) (by decide) (by rw [hE]; first | exact (fun _ hi => absurd hi (Nat.not_lt_zero _)) | exact (fun i hi => by (have hi : i < 1 := hi); (have h0 : i = 0 := (by omega)); (subst h0); rfl)) (by intro _g; (repeat first | exact W0 | apply W1 rfl | exact L0 | apply L1 | exact V1 rfl | exact V2 rfl | exact V3 rfl rfl | exact V4 | exact V5 rfl | exact V3 rfl (by simp; omega) | exact V1 (by simp; omega) | exact V3 rfl (by simp) | exact V1 (by simp) | exact V6 rfl rfl (by first | rfl | simp) (by simp) rfl | apply V7 | apply V8 | apply V9 | refine V1 ?_ | refine V3 rfl ?_); fail_if_success focus skip) (by intro _g; (repeat first | exact K0 | apply K1 rfl | apply K2 rfl rfl | apply K2 rfl (by simp) | apply K3 | exact L0 | apply L1 | exact V1 rfl | exact V2 rfl | exact V3 rfl rfl | exact V4 | exact V5 rfl | exact V3 rfl (by simp; omega) | exact V1 (by simp; omega) | exact V3 rfl (by simp) | exact V1 (by simp) | exact V6 rfl rfl (by first | rfl | simp) (by simp) rfl | apply V7 | apply V8 | apply V9); fail_if_success focus skip) (fun _ => ?_)
        exact ⟨l.set i ⟨x1, y1⟩, c, ar + 1, by omega, by omega, by simp; omega, rfl, by simp [List.map_set]⟩
      · repeat with_reducible first | refine S1 ?_ | refine S2 ?_ | refine S3 ?_ | refine S4 ?_ | refine S5 ?_ | refine S6 ?_ | refine S7 ?_ | refine S8 ?_ | refine S9 rfl ?_ | refine SA ?_ | refine SB ?_ | refine SC ?_
        refine aw_region ?_
        refine RA rfl rfl (by decide) (rd_move rfl rfl) ?_
        refine RA rfl rfl (by decide) (rd_move rfl rfl) ?_
        refine RA rfl rfl (by decide) (rd_move rfl rfl) ?_
        first | refine RA rfl rfl (by decide) (rd_len rfl Te54 rfl) ?_ | refine RA rfl rfl (by decide) (rd_lenr rfl Te54 rfl) ?_
        refine al_ef rfl (ef_callm false (fun _ => next_a _ _ _ _ hs (by omega) (by omega) (by simp only [in64]; omega)) rfl .fn rfl (by decide) Tc13 rfl rfl (fun _g => .cons (.p rfl) (.cons (.c rfl) .nil)) (fun _g => .cons (.c rfl) (.cons (.c rfl) .nil)) (by simp)) ?_
        rintro F1 H1 ⟨_, _, _, _, ⟨r, rfl, hq, hr1, hr2⟩, hF, hH⟩
        injection hq with hq1 hq2; subst hq1; subst hq2
        (try simp only [nsl, Nat.reduceAdd, Nat.reduceLT, Nat.reduceSub] at hF); (try simp only [nsl, Nat.reduceAdd, Nat.reduceLT, Nat.reduceSub] at hH); subst hF; subst hH
        obtain ⟨i, rfl⟩ : ∃ i : Nat, r = i := ⟨r.toNat, by omega⟩
        have hk : i < l.length := by have := hr2 (by omega); omega
        obtain ⟨x, hx⟩ : ∃ x, l[i]? = some x := ⟨_, List.getElem?_eq_getElem hk⟩
        have hrow : (l.map Leg.row)[i]? = some [I x.long, I x.limit] := by rw [List.getElem?_map, hx]; rfl
        refine RA rfl rfl (by decide) (rd_move rfl rfl) ?_
        refine EA rfl (ef_buildSlicen rfl rfl (by decide) Te22 (.cons rfl rfl (.cons rfl rfl (.nil _))) rfl Tz3 rfl rfl (by simp) (by simp) (by (try simp only [nm, putL, Nat.reduceAdd, cellsOf, cvOf]) <;> rfl) (by (try simp only [nm, putL, Nat.reduceAdd, cellsOf, cvOf]) <;> rfl)) ?_
        refine al_ef rfl (ef_callm true (fun _ => pick_a [5, 200000] _ _ _ _ hs (by omega) (by omega) (by simp) (by simp)) rfl .fn rfl (by decide) Tc32 rfl rfl (fun _g => .cons (.p rfl) (.cons (.frz rfl rfl rfl rfl rfl) .nil)) (fun _g => .cons (.c rfl) (.cons (.c rfl) .nil)) (fun _ _ _ _ ⟨_, hu, hH, _⟩ => by rw [hu, hH]; exact ⟨.c (.inl trivial), strm_flat (.inr ⟨0, _, rfl, by simp⟩)⟩)) ?_
        rintro F1 H1 ⟨_, _, _, _, ⟨x1, rfl, hq, hrmx1⟩, hF, hH⟩
        injection hq with hq1 hq2; subst hq1; subst hq2
        (try simp only [nsl, Nat.reduceAdd, Nat.reduceLT, Nat.reduceSub] at hF); (try simp only [nsl, Nat.reduceAdd, Nat.reduceLT, Nat.reduceSub] at hH); subst hF; subst hH
        refine RA rfl rfl (by decide) (rd_move rfl rfl) ?_
        refine al_ef rfl (ef_callm false (fun _ => odd_a 1 100000 _ _ _ hs (by omega) (by omega) (by omega) (by omega) (by omega) (by omega)) rfl .fn rfl (by decide) Tc101 rfl rfl (fun _g => .cons (.p rfl) (.cons (.c rfl) (.cons (.c rfl) .nil))) (fun _g => .cons (.c rfl) (.cons (.c rfl) .nil)) (by simp)) ?_
        rintro F1 H1 ⟨_, _, _, _, ⟨y1, ar, rfl, hq, hr3, hr4, h64y1⟩, hF, hH⟩
        injection hq with hq1 hq2; subst hq1; subst hq2
        (try simp only [nsl, Nat.reduceAdd, Nat.reduceLT, Nat.reduceSub] at hF); (try simp only [nsl, Nat.reduceAdd, Nat.reduceLT, Nat.reduceSub] at hH); subst hF; subst hH
        refine RA rfl rfl (by decide) (rd_build rfl Tz64 rfl Tb64 (.cons rfl rfl rfl (by simp) rfl (by (try simp only [nm, putL, Nat.reduceAdd, cellsOf, cvOf]) <;> rfl) (.cons rfl rfl rfl (by simp) rfl (by (try simp only [nm, putL, Nat.reduceAdd, cellsOf, cvOf]) <;> rfl) (.nil)))) ?_
        first | refine RA rfl rfl (by decide) (rd_index rfl Te54 rfl rfl rfl (by first | rfl | omega) (by omega)) ?_ | refine RA rfl rfl (by decide) (rd_indexq rfl Te54 rfl rfl (by first | rfl | omega) (by assumption) rfl) ?_
        first | refine EA rfl (ef_storen rfl rfl rfl rfl rfl Ts64 rfl (by simp) rfl (by (try simp only [nm, putL, Nat.reduceAdd, cellsOf, cvOf]) <;> rfl) (by (try simp only [nm, putL, Nat.reduceAdd, cellsOf, cvOf]) <;> rfl)) ?_ | refine EA rfl (ef_storern rfl rfl rfl rfl (by first | assumption | (rw [Nat.zero_add]; assumption)) rfl rfl Ts64 rfl (by simp) rfl (by (try simp only [nm, putL, Nat.reduceAdd, cellsOf, cvOf]) <;> rfl) rfl) ?_
        refine al_nil ?_
        repeat with_reducible first | refine S1 ?_ | refine S2 ?_ | refine S3 ?_ | refine S4 ?_ | refine S5 ?_ | refine S6 ?_ | refine S7 ?_ | refine S8 ?_ | refine S9 rfl ?_ | refine SA ?_ | refine SB ?_ | refine SC ?_
        refine wk_of [some 0, some 1] (fun _ => [(5, .o 1 0 (l.set i (⟨x1, y1⟩ : Leg)).length c)]) (fun _ => _) (by decide) (by rw [hE]; first | exact (fun _ hi => absurd hi (Nat.not_lt_zero _)) | exact (fun i hi => by (have hi : i < 1 := hi); (have h0 : i = 0 := (by omega)); (subst h0); rfl)) (by intro _g; (repeat first | exact W0 | apply W1 rfl | exact L0 | apply L1 | exact V1 rfl | exact V2 rfl | exact V3 rfl rfl | exact V4 | exact V5 rfl | exact V3 rfl (by simp; omega) | exact V1 (by simp; omega) | exact V3 rfl (by simp) | exact V1 (by simp) | exact V6 rfl rfl (by first | rfl | simp) (by simp) rfl | apply V7 | apply V8 | apply V9 | refine V1 ?_ | refine V3 rfl ?_); fail_if_success focus skip) (by intro _g; (repeat first | exact K0 | apply K1 rfl | apply K2 rfl rfl | apply K2 rfl (by simp) | apply K3 | exact L0 | apply L1 | exact V1 rfl | exact V2 rfl | exact V3 rfl rfl | exact V4 | exact V5 rfl | exact V3 rfl (by simp; omega) | exact V1 (by simp; omega) | exact V3 rfl (by simp) | exact V1 (by simp) | exact V6 rfl rfl (by first | rfl | simp) (by simp) rfl | apply V7 | apply V8 | apply V9); fail_if_success focus skip) (fun _ => ?_)
        exact ⟨l.set i ⟨x1, y1⟩, c, ar, by omega, by omega, by simp; omega, rfl, by simp [List.map_set]⟩
    · repeat with_reducible first | refine S1 ?_ | refine S2 ?_ | refine S3 ?_ | refine S4 ?_ | refine S5 ?_ | refine S6 ?_ | refine S7 ?_ | refine S8 ?_ | refine S9 rfl ?_ | refine SA ?_ | refine SB ?_ | refine SC ?_
      refine wk_of [some 0, some 1] (fun _ => [(5, .o 1 0 l.length c)]) (fun _ => _) (by decide) (by rw [hE]; first | exact (fun _ hi => absurd hi (Nat.not_lt_zero _)) | exact (fun i hi => by (have hi : i < 1 := hi); (have h0 : i = 0 := (by omega)); (subst h0); rfl)) (by intro _g; (repeat first | exact W0 | apply W1 rfl | exact L0 | apply L1 | exact V1 rfl | exact V2 rfl | exact V3 rfl rfl | exact V4 | exact V5 rfl | exact V3 rfl (by simp; omega) | exact V1 (by simp; omega) | exact V3 rfl (by simp) | exact V1 (by simp) | exact V6 rfl rfl (by first | rfl | simp) (by simp) rfl | apply V7 | apply V8 | apply V9 | refine V1 ?_ | refine V3 rfl ?_); fail_if_success focus skip) (by intro _g; (repeat first | exact K0 | apply K1 rfl | apply K2 rfl rfl | apply K2 rfl (by simp) | apply K3 | exact L0 | apply L1 | exact V1 rfl | exact V2 rfl | exact V3 rfl rfl | exact V4 | exact V5 rfl | exact V3 rfl (by simp; omega) | exact V1 (by simp; omega) | exact V3 rfl (by simp) | exact V1 (by simp) | exact V6 rfl rfl (by first | rfl | simp) (by simp) rfl | apply V7 | apply V8 | apply V9); fail_if_success focus skip) (fun _ => ?_)
      exact ⟨l, c, _, by omega, by omega, by omega, rfl, rfl⟩
  rintro F H ⟨l, c, a', ha1, ha2, hl, rfl, rfl⟩
  repeat with_reducible first | refine S1 ?_ | refine S2 ?_ | refine S3 ?_ | refine S4 ?_ | refine S5 ?_ | refine S6 ?_ | refine S7 ?_ | refine S8 ?_ | refine S9 rfl ?_ | refine SA ?_ | refine SB ?_ | refine SC ?_
  refine aw_region ?_
  refine RA rfl rfl (by decide) (rd_move rfl rfl) ?_
  refine RA rfl rfl (by decide) (rd_assign rfl rfl) ?_
  refine al_nil ?_
  repeat with_reducible first | refine S1 ?_ | refine S2 ?_ | refine S3 ?_ | refine S4 ?_ | refine S5 ?_ | refine S6 ?_ | refine S7 ?_ | refine S8 ?_ | refine S9 rfl ?_ | refine SA ?_ | refine SB ?_ | refine SC ?_
  exact aret_f1 [some 0] [strm v zs a'] rfl rfl rfl rfl (by rw [List.drop_zero, List.take_of_length_le (by simp)]) (by simp) (by decide) (by decide) (fun i hi => by (have hi : i < 1 := hi); (have h0 : i = 0 := (by omega)); (subst h0); rfl) (by intro _g; (repeat first | exact K0 | apply K1 rfl | apply K2 rfl rfl | apply K2 rfl (by simp) | apply K3 | exact L0 | apply L1 | exact V1 rfl | exact V2 rfl | exact V3 rfl rfl | exact V4 | exact V5 rfl | exact V3 rfl (by simp; omega) | exact V1 (by simp; omega) | exact V3 rfl (by simp) | exact V1 (by simp) | exact V6 rfl rfl (by first | rfl | simp) (by simp) rfl | apply V7 | apply V8 | apply V9); fail_if_success focus skip) (fun v' => ⟨v', l, a', rfl, rfl, ha1, ha2, hl⟩)
theorem cornerlist_a (n : Int) (v : Value) (zs : List Int) (a : Int) (hs : StrOk zs) (h0 : 0 ≤ a) (h1 : a ≤ 700000000) (hn0 : 0 ≤ n) (hn2 : n ≤ 1000000) :
    ACalls Try.prog 27 [.p 0 0 0, .c (I n)] [strm v zs a] fun u H => ∃ (v' : Value) (l : List Int) (a' : Int), u = .c (ints_r v' l) ∧ H = [strm v zs a'] ∧ a ≤ a' ∧ a' ≤ a + n + 10 ∧ l.length ≤ n + 1 := by
  refine acalls_of (N := 35) Try.func27 rfl rfl (by simp) fun E hE => ?_
  repeat with_reducible first | refine S1 ?_ | refine S2 ?_ | refine S3 ?_ | refine S4 ?_ | refine S5 ?_ | refine S6 ?_ | refine S7 ?_ | refine S8 ?_ | refine S9 rfl ?_ | refine SA ?_ | refine SB ?_ | refine SC ?_
  refine aw_region ?_
  refine RA rfl rfl (by decide) (rd_assign rfl rfl) ?_
  refine al_nil ?_
  repeat with_reducible first | refine S1 ?_ | refine S2 ?_ | refine S3 ?_ | refine S4 ?_ | refine S5 ?_ | refine S6 ?_ | refine S7 ?_ | refine S8 ?_ | refine S9 rfl ?_ | refine SA ?_ | refine SB ?_ | refine SC ?_
  refine aw_region ?_
  refine RA rfl rfl (by decide) (rd_assign rfl rfl) ?_
  refine al_nil ?_
  repeat with_reducible first | refine S1 ?_ | refine S2 ?_ | refine S3 ?_ | refine S4 ?_ | refine S5 ?_ | refine S6 ?_ | refine S7 ?_ | refine S8 ?_ | refine S9 rfl ?_ | refine SA ?_ | refine SB ?_ | refine SC ?_
  refine aw_region ?_
  refine RA rfl rfl (by decide) (rd_move rfl rfl) ?_
  first | refine RA rfl rfl (by decide) (rd_subn rfl rfl rfl (by omega)) ?_ | refine RA rfl rfl (by decide) (rd_sub rfl rfl rfl) ?_
  refine RA rfl rfl (by decide) (rd_move rfl rfl) ?_
  refine al_nil ?_
  repeat with_reducible first | refine S1 ?_ | refine S2 ?_ | refine S3 ?_ | refine S4 ?_ | refine S5 ?_ | refine S6 ?_ | refine S7 ?_ | refine S8 ?_ | refine S9 rfl ?_ | refine SA ?_ | refine SB ?_ | refine SC ?_
  refine aw_loopw (fun m F H => ∃ (k : Nat) (l : List Int) (c : Nat) (a' : Int), m + k = (n - 1).toNat ∧ a ≤ a' ∧ a' ≤ a + 1 + k ∧ l.length = k ∧ F = [(0, .p 0 0 0), (5, .o 1 0 l.length c), (7, .c (I (n - 1))), (8, .c (I k))] ∧ H = [strm v zs a', .arr 3 1 c (l.map fun z => [I z])]) ?_ ?_
  · refine wk_of [some 0, none] (fun _ => [(0, .p 0 0 0), (5, .o 1 0 ([] : List Int).length 0), (7, .c (I (n - 1))), (8, .c (I (0 : Nat)))]) (fun _ => [strm v zs _, .arr 3 1 0 (([] : List Int).map fun z => [I z])]) (by decide) (by rw [hE]; first | exact (fun _ hi => absurd hi (Nat.not_lt_zero _)) | exact (fun i hi => by (have hi : i < 1 := hi); (have h0 : i = 0 := (by omega)); (subst h0); rfl)) (by intro _g; (repeat first | exact W0 | apply W1 rfl | exact L0 | apply L1 | exact V1 rfl | exact V2 rfl | exact V3 rfl rfl | exact V4 | exact V5 rfl | exact V3 rfl (by simp; omega) | exact V1 (by simp; omega) | exact V3 rfl (by simp) | exact V1 (by simp) | exact V6 rfl rfl (by first | rfl | simp) (by simp) rfl | apply V7 | apply V8 | apply V9 | refine V1 ?_ | refine V3 rfl ?_); fail_if_success focus skip) (by intro _g; (repeat first | exact K0 | apply K1 rfl | apply K2 rfl rfl | apply K2 rfl (by simp) | apply K3 | exact L0 | apply L1 | exact V1 rfl | exact V2 rfl | exact V3 rfl rfl | exact V4 | exact V5 rfl | exact V3 rfl (by simp; omega) | exact V1 (by simp; omega) | exact V3 rfl (by simp) | exact V1 (by simp) | exact V6 rfl rfl (by first | rfl | simp) (by simp) rfl | apply V7 | apply V8 | apply V9); fail_if_success focus skip) (fun _ => ?_)
    exact ⟨(n - 1).toNat, 0, [], 0, _, by omega, by omega, by omega, rfl, rfl, rfl⟩
  rintro m F H ⟨k, l, c, a', hmk, ha1, ha2, hl, rfl, rfl⟩
  repeat with_reducible first | refine S1 ?_ | refine S2 ?_ | refine S3 ?_ | refine S4 ?_ | refine S5 ?_ | refine S6 ?_ | refine S7 ?_ | refine S8 ?_ | refine S9 rfl ?_ | refine SA ?_ | refine SB ?_ | refine SC ?_
  refine aw_region ?_
  first | refine RA rfl rfl (by decide) (rd_lss_t rfl rfl rfl (by omega)) ?_ | refine RA rfl rfl (by decide) (rd_lss_f rfl rfl rfl (by omega)) ?_ | refine RA rfl rfl (by decide) (rd_lss rfl rfl rfl) ?_
  refine al_nil ?_
  repeat with_reducible first | refine S1 ?_ | refine S2 ?_ | refine S3 ?_ | refine S4 ?_ | refine S5 ?_ | refine S6 ?_ | refine S7 ?_ | refine S8 ?_ | refine S9 rfl ?_ | refine SA ?_ | refine SB ?_ | refine SC ?_
  refine aw_if rfl (fun hlt => ?_) (fun hge => ?_)
  · repeat with_reducible first | refine S1 ?_ | refine S2 ?_ | refine S3 ?_ | refine S4 ?_ | refine S5 ?_ | refine S6 ?_ | refine S7 ?_ | refine S8 ?_ | refine S9 rfl ?_ | refine SA ?_ | refine SB ?_ | refine SC ?_
    refine aw_region ?_
    refine RA rfl rfl (by decide) (rd_move rfl rfl) ?_
    refine RA rfl rfl (by decide) (rd_move rfl rfl) ?_
    refine EA rfl (ef_buildSlicen rfl rfl (by decide) Te22 (.cons rfl rfl (.cons rfl rfl (.cons rfl rfl (.cons rfl rfl (.cons rfl rfl (.nil _)))))) rfl Tz3 rfl rfl (by simp) (by simp) (by (try simp only [nm, putL, Nat.reduceAdd, cellsOf, cvOf]) <;> rfl) (by (try simp only [nm, putL, Nat.reduceAdd, cellsOf, cvOf]) <;> rfl)) ?_
    refine al_ef rfl (ef_callm true (fun _ => pick_a [0, 10, 50, 200, 1000] _ _ _ _ hs (by omega) (by omega) (by simp) (by simp)) rfl .fn rfl (by decide) Tc32 rfl rfl (fun _g => .cons (.p rfl) (.cons (.frz rfl rfl rfl rfl rfl) .nil)) (fun _g => .cons (.c rfl) (.cons (.c rfl) .nil)) (fun _ _ _ _ ⟨_, hu, hH, _⟩ => by rw [hu, hH]; exact ⟨.c (.inl trivial), strm_flat (.inr ⟨0, _, rfl, by simp⟩)⟩)) ?_
    rintro F1 H1 ⟨_, _, _, _, ⟨x, rfl, hq, hrmx⟩, hF, hH⟩
    injection hq with hq1 hq2; subst hq1; subst hq2
    (try simp only [nsl, Nat.reduceAdd, Nat.reduceLT, Nat.reduceSub] at hF); (try simp only [nsl, Nat.reduceAdd, Nat.reduceLT, Nat.reduceSub] at hH); subst hF; subst hH
    refine EA rfl (ef_buildSlicen rfl rfl (by decide) Te22 (.cons rfl rfl (.nil _)) rfl Tz3 rfl rfl (by simp) (by simp) (by (try simp only [nm, putL, Nat.reduceAdd, cellsOf, cvOf]) <;> rfl) (by (try simp only [nm, putL, Nat.reduceAdd, cellsOf, cvOf]) <;> rfl)) ?_
    refine al_ef rfl (ef_appn rfl rfl (by decide) Ta22 rfl rfl (by first | rfl | simp | (simp; omega)) rfl (by first | exact Src.own rfl (by (try simp only [nm, putL, Nat.reduceAdd, cellsOf, cvOf]) <;> rfl) (by first | rfl | simp | (simp; omega)) | exact Src.ro (by simp) (by simp [CV.one, Value.oneCell'])) (by (try simp only [nm, putL, Nat.reduceAdd, cellsOf, cvOf]) <;> rfl) (by omega) (fun _ _ => rfl) (by intro g c2; simp only [List.map_cons, List.map_nil, killO, killV, AV.has, AV.hasL, List.contains_cons, List.contains_nil, Nat.reduceBEq, Bool.or_false, Bool.false_or, Bool.false_eq_true, beq_self_eq_true, if_false, if_true, List.set_cons_zero, List.set_cons_succ, List.nil_append]; rfl)) ?_
    rintro _ _ ⟨_, cc, hcc, rfl, rfl⟩
    refine RA rfl rfl (by decide) (rd_assign rfl rfl) ?_
    refine al_nil ?_
    repeat with_reducible first | refine S1 ?_ | refine S2 ?_ | refine S3 ?_ | refine S4 ?_ | refine S5 ?_ | refine S6 ?_ | refine S7 ?_ | refine S8 ?_ | refine S9 rfl ?_ | refine SA ?_ | refine SB ?_ | refine SC ?_
    refine aw_region ?_
    first | refine RA rfl rfl (by decide) (rd_addn rfl rfl rfl (by omega)) ?_ | refine RA rfl rfl (by decide) (rd_add rfl rfl rfl) ?_
    refine RA rfl rfl (by decide) (rd_move rfl rfl) ?_
    refine al_nil ?_
    repeat with_reducible first | refine S1 ?_ | refine S2 ?_ | refine S3 ?_ | refine S4 ?_ | refine S5 ?_ | refine S6 ?_ | refine S7 ?_ | refine S8 ?_ | refine S9 rfl ?_ | refine SA ?_ | refine SB ?_ | refine SC ?_
    refine wk_of [some 0, some 1] (fun _ => [(0, .p 0 0 0), (5, .o 1 0 (l ++ [x]).length cc), (7, .c (I (n - 1))), (8, .c (I (k + 1 : Nat)))]) (fun _ => _) (by decide) (by rw [hE]; first | exact (fun _ hi => absurd hi (Nat.not_lt_zero _)) | exact (fun i hi => by (have hi : i < 1 := hi); (have h0 : i = 0 := (by omega)); (subst h0); rfl)) (by intro _g; (repeat first | exact W0 | apply W1 rfl | exact L0 | apply L1 | exact V1 rfl | exact V2 rfl | exact V3 rfl rfl | exact V4 | exact V5 rfl | exact V3 rfl (by simp; omega) | exact V1 (by simp; omega) | exact V3 rfl (by simp) | exact V1 (by simp) | exact V6 rfl rfl (by first | rfl | simp) (by simp) rfl | apply V7 | apply V8 | apply V9 | refine V1 ?_ | refine V3 rfl ?_); fail_if_success focus skip) (by intro _g; (repeat first | exact K0 | apply K1 rfl | apply K2 rfl rfl | apply K2 rfl (by simp) | apply K3 | exact L0 | apply L1 | exact V1 rfl | exact V2 rfl | exact V3 rfl rfl | exact V4 | exact V5 rfl | exact V3 rfl (by simp; omega) | exact V1 (by simp; omega) | exact V3 rfl (by simp) | exact V1 (by simp) | exact V6 rfl rfl (by first | rfl | simp) (by simp) rfl | apply V7 | apply V8 | apply V9); fail_if_success focus skip) (fun _ => ?_)
    exact ⟨m - 1, by omega, k + 1, l ++ [x], cc, a' + 1, by omega, by omega, by omega, by simp; omega, rfl, by rw [List.map_append]; rfl⟩
  repeat with_reducible first | refine S1 ?_ | refine S2 ?_ | refine S3 ?_ | refine S4 ?_ | refine S5 ?_ | refine S6 ?_ | refine S7 ?_ | refine S8 ?_ | refine S9 rfl ?_ | refine SA ?_ | refine SB ?_ | refine SC ?_
  repeat with_reducible first | refine S1 ?_ | refine S2 ?_ | refine S3 ?_ | refine S4 ?_ | refine S5 ?_ | refine S6 ?_ | refine S7 ?_ | refine S8 ?_ | refine S9 rfl ?_ | refine SA ?_ | refine SB ?_ | refine SC ?_
  refine aw_region ?_
  refine RA rfl rfl (by decide) (rd_move rfl rfl) ?_
  refine al_ef rfl (ef_callm false (fun _ => flip_a 12 _ _ _ hs (by omega) (by omega) (by simp only [in64]; omega)) rfl .fn rfl (by decide) Tc11 rfl rfl (fun _g => .cons (.p rfl) (.cons (.c rfl) .nil)) (fun _g => .cons (.c rfl) (.cons (.c rfl) .nil)) (by simp)) ?_
  rintro F1 H1 ⟨_, _, _, _, ⟨bb, rfl, hq⟩, hF, hH⟩
  injection hq with hq1 hq2; subst hq1; subst hq2
  (try simp only [nsl, Nat.reduceAdd, Nat.reduceLT, Nat.reduceSub] at hF); (try simp only [nsl, Nat.reduceAdd, Nat.reduceLT, Nat.reduceSub] at hH); subst hF; subst hH
  refine al_nil ?_
  refine aseq_n ?_
  refine aw_cut (fun F H => ∃ (l : List Int) (b k c c' : Nat) (rows : List (List CV)) (a' : Int), a ≤ a' ∧ a' ≤ a + n + 10 ∧ l.length ≤ n + 1 ∧ (rows.drop k).take l.length = l.map (fun z => [I z]) ∧ F = [(5, .o 1 k l.length c')] ∧ H = [strm v zs a', .arr 3 1 c rows]) ?_ ?_ wk_aw
  · refine aw_cond rfl (fun _ => ?_) (fun _ => ?_)
    · repeat with_reducible first | refine S1 ?_ | refine S2 ?_ | refine S3 ?_ | refine S4 ?_ | refine S5 ?_ | refine S6 ?_ | refine S7 ?_ | refine S8 ?_ | refine S9 rfl ?_ | refine SA ?_ | refine SB ?_ | refine SC ?_
      refine aw_region ?_
      refine RA rfl rfl (by decide) (rd_move rfl rfl) ?_
      refine RA rfl rfl (by decide) (rd_move rfl rfl) ?_
      refine EA rfl (ef_buildSlicen rfl rfl (by decide) Te22 (.cons rfl rfl (.cons rfl rfl (.cons rfl rfl (.cons rfl rfl (.nil _))))) rfl Tz3 rfl rfl (by simp) (by simp) (by (try simp only [nm, putL, Nat.reduceAdd, cellsOf, cvOf]) <;> rfl) (by (try simp only [nm, putL, Nat.reduceAdd, cellsOf, cvOf]) <;> rfl)) ?_
      refine al_ef rfl (ef_callm true (fun _ => pick_a [0, -1, 100000, 100001] _ _ _ _ hs (by omega) (by omega) (by simp) (by simp)) rfl .fn rfl (by decide) Tc32 rfl rfl (fun _g => .cons (.p rfl) (.cons (.frz rfl rfl rfl rfl rfl) .nil)) (fun _g => .cons (.c rfl) (.cons (.c rfl) .nil)) (fun _ _ _ _ ⟨_, hu, hH, _⟩ => by rw [hu, hH]; exact ⟨.c (.inl trivial), strm_flat (.inr ⟨0, _, rfl, by simp⟩)⟩)) ?_
      rintro F1 H1 ⟨_, _, _, _, ⟨x, rfl, hq, hrmx⟩, hF, hH⟩
      injection hq with hq1 hq2; subst hq1; subst hq2
      (try simp only [nsl, Nat.reduceAdd, Nat.reduceLT, Nat.reduceSub] at hF); (try simp only [nsl, Nat.reduceAdd, Nat.reduceLT, Nat.reduceSub] at hH); subst hF; subst hH
      refine EA rfl (ef_buildSlicen rfl rfl (by decide) Te22 (.cons rfl rfl (.nil _)) rfl Tz3 rfl rfl (by simp) (by simp) (by (try simp only [nm, putL, Nat.reduceAdd, cellsOf, cvOf]) <;> rfl) (by (try simp only [nm, putL, Nat.reduceAdd, cellsOf, cvOf]) <;> rfl)) ?_
      refine al_ef rfl (ef_appn rfl rfl (by decide) Ta22 rfl rfl (by first | rfl | simp | (simp; omega)) rfl (by first | exact Src.own rfl (by (try simp only [nm, putL, Nat.reduceAdd, cellsOf, cvOf]) <;> rfl) (by first | rfl | simp | (simp; omega)) | exact Src.ro (by simp) (by simp [CV.one, Value.oneCell'])) (by (try simp only [nm, putL, Nat.reduceAdd, cellsOf, cvOf]) <;> rfl) (by omega) (fun _ _ => rfl) (by intro g c2; simp only [List.map_cons, List.map_nil, killO, killV, AV.has, AV.hasL, List.contains_cons, List.contains_nil, Nat.reduceBEq, Bool.or_false, Bool.false_or, Bool.false_eq_true, beq_self_eq_true, if_false, if_true, List.set_cons_zero, List.set_cons_succ, List.nil_append]; rfl)) ?_
      rintro _ _ ⟨_, cc, hcc, rfl, rfl⟩
      refine RA rfl rfl (by decide) (rd_assign rfl rfl) ?_
      refine al_nil ?_
      repeat with_reducible first | refine S1 ?_ | refine S2 ?_ | refine S3 ?_ | refine S4 ?_ | refine S5 ?_ | refine S6 ?_ | refine S7 ?_ | refine S8 ?_ | refine S9 rfl ?_ | refine SA ?_ | refine SB ?_ | refine SC ?_
      by_cases hlen : 0 < l.length
      · repeat with_reducible first | refine S1 ?_ | refine S2 ?_ | refine S3 ?_ | refine S4 ?_ | refine S5 ?_ | refine S6 ?_ | refine S7 ?_ | refine S8 ?_ | refine S9 rfl ?_ | refine SA ?_ | refine SB ?_ | refine SC ?_
        refine aw_region ?_
        refine RA rfl rfl (by decide) (rd_move rfl rfl) ?_
        first | refine RA rfl rfl (by decide) (rd_len rfl Te22 rfl) ?_ | refine RA rfl rfl (by decide) (rd_lenr rfl Te22 rfl) ?_
        first | refine RA rfl rfl (by decide) (rd_gtr_t rfl rfl rfl (by omega)) ?_ | refine RA rfl rfl (by decide) (rd_gtr_f rfl rfl rfl (by omega)) ?_ | refine RA rfl rfl (by decide) (rd_gtr rfl rfl rfl) ?_
        refine RA rfl rfl (by decide) (rd_move rfl rfl) ?_
        first | (refine G1 rfl ?_; (refine RA rfl rfl (by decide) (rd_move rfl rfl) ?_)) | refine G2 rfl rfl (by decide) ?_
        first | refine G2 rfl rfl (by decide) ?_ | (refine G1 rfl ?_; refine al_ef rfl (ef_callm false (fun _ => flip_a 2 _ _ _ hs (by omega) (by omega) (by simp only [in64]; omega)) rfl .fn rfl (by decide) Tc11 rfl rfl (fun _g => .cons (.p rfl) (.cons (.c rfl) .nil)) (fun _g => .cons (.c rfl) (.cons (.c rfl) .nil)) (by simp)) ?_; rintro F1 H1 ⟨_, _, _, _, ⟨bb, rfl, hq⟩, hF, hH⟩; injection hq with hq1 hq2; subst hq1; subst hq2; (try simp only [nsl, Nat.reduceAdd, Nat.reduceLT, Nat.reduceSub] at hF); (try simp only [nsl, Nat.reduceAdd, Nat.reduceLT, Nat.reduceSub] at hH); subst hF; subst hH)
        first | refine RA rfl rfl (by decide) (rd_pick_t rfl rfl rfl) ?_ | refine RA rfl rfl (by decide) (rd_pick_f rfl rfl rfl) ?_
        refine al_nil ?_
        repeat with_reducible first | refine S1 ?_ | refine S2 ?_ | refine S3 ?_ | refine S4 ?_ | refine S5 ?_ | refine S6 ?_ | refine S7 ?_ | refine S8 ?_ | refine S9 rfl ?_ | refine SA ?_ | refine SB ?_ | refine SC ?_
        refine aw_cond rfl (fun _ => ?_) (fun _ => ?_)
        · repeat with_reducible first | refine S1 ?_ | refine S2 ?_ | refine S3 ?_ | refine S4 ?_ | refine S5 ?_ | refine S6 ?_ | refine S7 ?_ | refine S8 ?_ | refine S9 rfl ?_ | refine SA ?_ | refine SB ?_ | refine SC ?_
          refine aw_region ?_
          refine RA rfl rfl (by decide) (rd_move rfl rfl) ?_
          refine al_rd rfl rfl (by decide) (rd_slice (l := 1) rfl Te22 rfl rfl (.inr ⟨_, _, _, rfl, rfl, rfl⟩) (.inl ⟨rfl, rfl⟩) (by omega) (by omega) (by omega)) ?_
          refine RA rfl rfl (by decide) (rd_assign rfl rfl) ?_
          refine al_nil ?_
          repeat with_reducible first | refine S1 ?_ | refine S2 ?_ | refine S3 ?_ | refine S4 ?_ | refine S5 ?_ | refine S6 ?_ | refine S7 ?_ | refine S8 ?_ | refine S9 rfl ?_ | refine SA ?_ | refine SB ?_ | refine SC ?_
          refine wk_of [some 0, some 1] (fun _ => [(5, .o 1 1 ((l ++ [x]).drop 1).length (cc - 1))]) (fun _ => _) (by decide) (by rw [hE]; first | exact (fun _ hi => absurd hi (Nat.not_lt_zero _)) | exact (fun i hi => by (have hi : i < 1 := hi); (have h0 : i = 0 := (by omega)); (subst h0); rfl)) (by intro _g; (repeat first | exact W0 | apply W1 rfl | exact L0 | apply L1 | exact V1 rfl | exact V2 rfl | exact V3 rfl rfl | exact V4 | exact V5 rfl | exact V3 rfl (by simp; omega) | exact V1 (by simp; omega) | exact V3 rfl (by simp) | exact V1 (by simp) | exact V6 rfl rfl (by first | rfl | simp) (by simp) rfl | apply V7 | apply V8 | apply V9 | refine V1 ?_ | refine V3 rfl ?_); fail_if_success focus skip) (by intro _g; (repeat first | exact K0 | apply K1 rfl | apply K2 rfl rfl | apply K2 rfl (by simp) | apply K3 | exact L0 | apply L1 | exact V1 rfl | exact V2 rfl | exact V3 rfl rfl | exact V4 | exact V5 rfl | exact V3 rfl (by simp; omega) | exact V1 (by simp; omega) | exact V3 rfl (by simp) | exact V1 (by simp) | exact V6 rfl rfl (by first | rfl | simp) (by simp) rfl | apply V7 | apply V8 | apply V9); fail_if_success focus skip) (fun _ => ?_)
          exact ⟨(l ++ [x]).drop 1, 1, 1, cc, cc - 1, _, a' + 1 + 1 + 1, by omega, by omega, by simp; omega, by rw [List.map_drop, List.map_append, List.take_of_length_le (by simp)]; rfl, rfl, rfl⟩
        · repeat with_reducible first | refine S1 ?_ | refine S2 ?_ | refine S3 ?_ | refine S4 ?_ | refine S5 ?_ | refine S6 ?_ | refine S7 ?_ | refine S8 ?_ | refine S9 rfl ?_ | refine SA ?_ | refine SB ?_ | refine SC ?_
          refine wk_of [some 0, some 1] (fun _ => [(5, .o 1 0 (l ++ [x]).length cc)]) (fun _ => _) (by decide) (by rw [hE]; first | exact (fun _ hi => absurd hi (Nat.not_lt_zero _)) | exact (fun i hi => by (have hi : i < 1 := hi); (have h0 : i = 0 := (by omega)); (subst h0); rfl)) (by intro _g; (repeat first | exact W0 | apply W1 rfl | exact L0 | apply L1 | exact V1 rfl | exact V2 rfl | exact V3 rfl rfl | exact V4 | exact V5 rfl | exact V3 rfl (by simp; omega) | exact V1 (by simp; omega) | exact V3 rfl (by simp) | exact V1 (by simp) | exact V6 rfl rfl (by first | rfl | simp) (by simp) rfl | apply V7 | apply V8 | apply V9 | refine V1 ?_ | refine V3 rfl ?_); fail_if_success focus skip) (by intro _g; (repeat first | exact K0 | apply K1 rfl | apply K2 rfl rfl | apply K2 rfl (by simp) | apply K3 | exact L0 | apply L1 | exact V1 rfl | exact V2 rfl | exact V3 rfl rfl | exact V4 | exact V5 rfl | exact V3 rfl (by simp; omega) | exact V1 (by simp; omega) | exact V3 rfl (by simp) | exact V1 (by simp) | exact V6 rfl rfl (by first | rfl | simp) (by simp) rfl | apply V7 | apply V8 | apply V9); fail_if_success focus skip) (fun _ => ?_)
          exact ⟨l ++ [x], 1, 0, cc, cc, _, a' + 1 + 1 + 1, by omega, by omega, by simp; omega, by rw [List.drop_zero, List.map_append, List.take_of_length_le (by simp)]; rfl, rfl, rfl⟩
      · repeat with_reducible first | refine S1 ?_ | refine S2 ?_ | refine S3 ?_ | refine S4 ?_ | refine S5 ?_ | refine S6 ?_ | refine S7 ?_ | refine S8 ?_ | refine S9 rfl ?_ | refine SA ?_ | refine SB ?_ | refine SC ?_
        refine aw_region ?_
        refine RA rfl rfl (by decide) (rd_move rfl rfl) ?_
        first | refine RA rfl rfl (by decide) (rd_len rfl Te22 rfl) ?_ | refine RA rfl rfl (by decide) (rd_lenr rfl Te22 rfl) ?_
        first | refine RA rfl rfl (by decide) (rd_gtr_t rfl rfl rfl (by omega)) ?_ | refine RA rfl rfl (by decide) (rd_gtr_f rfl rfl rfl (by omega)) ?_ | refine RA rfl rfl (by decide) (rd_gtr rfl rfl rfl) ?_
        refine RA rfl rfl (by decide) (rd_move rfl rfl) ?_
        first | (refine G1 rfl ?_; (refine RA rfl rfl (by decide) (rd_move rfl rfl) ?_)) | refine G2 rfl rfl (by decide) ?_
        first | refine G2 rfl rfl (by decide) ?_ | (refine G1 rfl ?_; refine al_ef rfl (ef_callm false (fun _ => flip_a 2 _ _ _ hs (by omega) (by omega) (by simp only [in64]; omega)) rfl .fn rfl (by decide) Tc11 rfl rfl (fun _g => .cons (.p rfl) (.cons (.c rfl) .nil)) (fun _g => .cons (.c rfl) (.cons (.c rfl) .nil)) (by simp)) ?_; rintro F1 H1 ⟨_, _, _, _, ⟨bb, rfl, hq⟩, hF, hH⟩; injection hq with hq1 hq2; subst hq1; subst hq2; (try simp only [nsl, Nat.reduceAdd, Nat.reduceLT, Nat.reduceSub] at hF); (try simp only [nsl, Nat.reduceAdd, Nat.reduceLT, Nat.reduceSub] at hH); subst hF; subst hH)
        first | refine RA rfl rfl (by decide) (rd_pick_t rfl rfl rfl) ?_ | refine RA rfl rfl (by decide) (rd_pick_f rfl rfl rfl) ?_
        refine al_nil ?_
        repeat with_reducible first | refine S1 ?_ | refine S2 ?_ | refine S3 ?_ | refine S4 ?_ | refine S5 ?_ | refine S6 ?_ | refine S7 ?_ | refine S8 ?_ | refine S9 rfl ?_ | refine SA ?_ | refine SB ?_ | refine SC ?_
        refine aw_cond_f rfl ?_
        repeat with_reducible first | refine S1 ?_ | refine S2 ?_ | refine S3 ?_ | refine S4 ?_ | refine S5 ?_ | refine S6 ?_ | refine S7 ?_ | refine S8 ?_ | refine S9 rfl ?_ | refine SA ?_ | refine SB ?_ | refine SC ?_
        refine wk_of [some 0, some 1] (fun _ => [(5, .o 1 0 (l ++ [x]).length cc)]) (fun _ => _) (by decide) (by rw [hE]; first | exact (fun _ hi => absurd hi (Nat.not_lt_zero _)) | exact (fun i hi => by (have hi : i < 1 := hi); (have h0 : i = 0 := (by omega)); (subst h0); rfl)) (by intro _g; (repeat first | exact W0 | apply W1 rfl | exact L0 | apply L1 | exact V1 rfl | exact V2 rfl | exact V3 rfl rfl | exact V4 | exact V5 rfl | exact V3 rfl (by simp; omega) | exact V1 (by simp; omega) | exact V3 rfl (by simp) | exact V1 (by simp) | exact V6 rfl rfl (by first | rfl | simp) (by simp) rfl | apply V7 | apply V8 | apply V9 | refine V1 ?_ | refine V3 rfl ?_); fail_if_success focus skip) (by intro _g; (repeat first | exact K0 | apply K1 rfl | apply K2 rfl rfl | apply K2 rfl (by simp) | apply K3 | exact L0 | apply L1 | exact V1 rfl | exact V2 rfl | exact V3 rfl rfl | exact V4 | exact V5 rfl | exact V3 rfl (by simp; omega) | exact V1 (by simp; omega) | exact V3 rfl (by simp) | exact V1 (by simp) | exact V6 rfl rfl (by first | rfl | simp) (by simp) rfl | apply V7 | apply V8 | apply V9); fail_if_success focus skip) (fun _ => ?_)
        exact ⟨l ++ [x], 1, 0, cc, cc, _, a' + 1 + 1, by omega, by omega, by simp; omega, by rw [List.drop_zero, List.map_append, List.take_of_length_le (by simp)]; rfl, rfl, rfl⟩
    · repeat with_reducible first | refine S1 ?_ | refine S2 ?_ | refine S3 ?_ | refine S4 ?_ | refine S5 ?_ | refine S6 ?_ | refine S7 ?_ | refine S8 ?_ | refine S9 rfl ?_ | refine SA ?_ | refine SB ?_ | refine SC ?_
      refine wk_of [some 0, some 1] (fun _ => [(5, .o 1 0 l.length c)]) (fun _ => _) (by decide) (by rw [hE]; first | exact (fun _ hi => absurd hi (Nat.not_lt_zero _)) | exact (fun i hi => by (have hi : i < 1 := hi); (have h0 : i = 0 := (by omega)); (subst h0); rfl)) (by intro _g; (repeat first | exact W0 | apply W1 rfl | exact L0 | apply L1 | exact V1 rfl | exact V2 rfl | exact V3 rfl rfl | exact V4 | exact V5 rfl | exact V3 rfl (by simp; omega) | exact V1 (by simp; omega) | exact V3 rfl (by simp) | exact V1 (by simp) | exact V6 rfl rfl (by first | rfl | simp) (by simp) rfl | apply V7 | apply V8 | apply V9 | refine V1 ?_ | refine V3 rfl ?_); fail_if_success focus skip) (by intro _g; (repeat first | exact K0 | apply K1 rfl | apply K2 rfl rfl | apply K2 rfl (by simp) | apply K3 | exact L0 | apply L1 | exact V1 rfl | exact V2 rfl | exact V3 rfl rfl | exact V4 | exact V5 rfl | exact V3 rfl (by simp; omega) | exact V1 (by simp; omega) | exact V3 rfl (by simp) | exact V1 (by simp) | exact V6 rfl rfl (by first | rfl | simp) (by simp) rfl | apply V7 | apply V8 | apply V9); fail_if_success focus skip) (fun _ => ?_)
      exact ⟨l, 1, 0, c, c, _, a' + 1, by omega, by omega, by omega, by rw [List.drop_zero, List.take_of_length_le (by simp)], rfl, rfl⟩
  rintro F H ⟨l, b, k, c, c', rows, a', ha1, ha2, hl, hrows, rfl, rfl⟩
  repeat with_reducible first | refine S1 ?_ | refine S2 ?_ | refine S3 ?_ | refine S4 ?_ | refine S5 ?_ | refine S6 ?_ | refine S7 ?_ | refine S8 ?_ | refine S9 rfl ?_ | refine SA ?_ | refine SB ?_ | refine SC ?_
  refine aw_region ?_
  refine RA rfl rfl (by decide) (rd_move rfl rfl) ?_
  refine RA rfl rfl (by decide) (rd_assign rfl rfl) ?_
  refine al_nil ?_
  repeat with_reducible first | refine S1 ?_ | refine S2 ?_ | refine S3 ?_ | refine S4 ?_ | refine S5 ?_ | refine S6 ?_ | refine S7 ?_ | refine S8 ?_ | refine S9 rfl ?_ | refine SA ?_ | refine SB ?_ | refine SC ?_
  exact aret_f1 [some 0] [strm v zs a'] rfl rfl rfl rfl hrows (by simp) (by decide) (by decide) (fun i hi => by (have hi : i < 1 := hi); (have h0 : i = 0 := (by omega)); (subst h0); rfl) (by intro _g; (repeat first | exact K0 | apply K1 rfl | apply K2 rfl rfl | apply K2 rfl (by simp) | apply K3 | exact L0 | apply L1 | exact V1 rfl | exact V2 rfl | exact V3 rfl rfl | exact V4 | exact V5 rfl | exact V3 rfl (by simp; omega) | exact V1 (by simp; omega) | exact V3 rfl (by simp) | exact V1 (by simp) | exact V6 rfl rfl (by first | rfl | simp) (by simp) rfl | apply V7 | apply V8 | apply V9); fail_if_success focus skip) (fun v' => ⟨v', l, a', rfl, rfl, ha1, ha2, hl⟩)
end Go.Proofs.Ytpbedckdnoogpaa
