/- Faults of legs, corners and changes of speed, of the program and of its document, by value. -/
import Derived.Test.YtpbedckdnoogpaaKa
import Derived.Test.YtpbedckdnoogpaaMp
set_option linter.unusedSimpArgs false
set_option linter.unusedVariables false
namespace Go.Proofs.Ytpbedckdnoogpaa
open Go Go.RowKit
set_option maxRecDepth 100000
abbrev Leg.row (s : Leg) : List CV := [I s.long, I s.limit]
abbrev legs_r (v : Value) (l : List Leg) : CV := .r v (l.map Leg.row)
theorem legBad_t {x : Leg} (h : ¬ x.good) : legBad x = true := by
  cases hb : legBad x
  · exact absurd (legBad_iff.1 hb) h
  · rfl
theorem legBad_f {x : Leg} (h : x.good) : legBad x = false := legBad_iff.2 h
theorem legfault_a (x : Leg) : ACalls Try.prog 119 [.a (x.row.map .c)] [] fun u H => u = .c (I (if legBad x then 1 else 0)) ∧ H = [] := by
  refine acalls_of (N := 11) Try.func119 rfl rfl (by simp) fun E hE => ?_
  repeat' (first
    | (with_reducible refine aw_seq ?_) | (with_reducible refine aseq_n ?_) | (with_reducible refine aseq_r ?_) | (with_reducible refine ablk_n ?_) | (with_reducible refine ablk_r ?_) | (with_reducible refine ablk_e ?_) | (with_reducible refine ablk_o rfl ?_) | (with_reducible refine aseq_e ?_) | (with_reducible refine aw_skip ?_) | (with_reducible refine aw_block ?_) | (with_reducible refine aw_ret ?_) | (with_reducible refine aw_exit ?_)
    | refine aw_cond_t rfl ?_ | refine aw_cond_f rfl ?_ | refine aw_if_t rfl (by assumption) ?_ | refine aw_if_f rfl (by assumption) ?_ | refine aw_if rfl (fun _ => ?_) (fun _ => ?_) | refine aw_cond rfl (fun _ => ?_) (fun _ => ?_)
    | (refine aw_region (id := 0) ?_
       refine EA rfl (ef_boxn rfl rfl (by decide) rfl (by (try simp only [nm, putL, Nat.reduceAdd, cellsOf, cvOf]) <;> rfl) rfl (by (try simp only [nm, putL, Nat.reduceAdd, cellsOf, cvOf]) <;> rfl) (by (try simp only [nm, putL, Nat.reduceAdd, cellsOf, cvOf]) <;> rfl)) ?_
       refine RA rfl rfl (by decide) (rd_assign rfl rfl) ?_
       refine al_nil ?_)
    | (refine aw_region (id := 1) ?_
       first | refine RA rfl rfl (by decide) (rd_field rfl rfl Tf64_0) ?_ | refine RA rfl rfl (by decide) (rd_fieldq rfl rfl Tf64_0) ?_
       refine RA rfl rfl (by decide) (rd_loadn1 rfl Tk3 rfl (by first | exact CB rfl | exact CQ | exact CA rfl (by first | assumption | (rw [Nat.zero_add]; assumption))) (by (try simp only [nm, putL, Nat.reduceAdd, cellsOf, cvOf]) <;> rfl)) ?_
       refine al_ef rfl (ef_call0 false (fun _ => outs_a _ _ _) rfl .fn rfl (by decide) Tc107 rfl (by intro _g; (repeat first | exact K0 | apply K1 rfl | apply K2 rfl rfl | apply K2 rfl (by simp) | apply K3 | exact L0 | apply L1 | exact V1 rfl | exact V2 rfl | exact V3 rfl rfl | exact V4 | exact V5 rfl | exact V3 rfl (by simp; omega) | exact V1 (by simp; omega) | exact V3 rfl (by simp) | exact V1 (by simp) | exact V6 rfl rfl (by first | rfl | simp) (by simp) rfl | apply V7 | apply V8 | apply V9); fail_if_success focus skip) (by simp)) ?_
       rintro _ _ ⟨_, _, _, ⟨bb, rfl, rfl, ⟨rfl, hb⟩ | ⟨rfl, hb⟩⟩, hF, hH⟩
       all_goals ((try simp only [nsl, Nat.reduceAdd, Nat.reduceLT, Nat.reduceSub] at hF); (try simp only [nsl, Nat.reduceAdd, Nat.reduceLT, Nat.reduceSub] at hH); subst hF; subst hH)
       all_goals (refine RA rfl rfl (by decide) (rd_move rfl rfl) ?_)
       all_goals (first | (refine G1 rfl ?_; (first | refine RA rfl rfl (by decide) (rd_field rfl rfl Tf64_1) ?_ | refine RA rfl rfl (by decide) (rd_fieldq rfl rfl Tf64_1) ?_)) | refine G2 rfl rfl (by decide) ?_)
       all_goals (first | (refine G1 rfl ?_; (refine RA rfl rfl (by decide) (rd_loadn1 rfl Tk3 rfl (by first | exact CB rfl | exact CQ | exact CA rfl (by first | assumption | (rw [Nat.zero_add]; assumption))) (by (try simp only [nm, putL, Nat.reduceAdd, cellsOf, cvOf]) <;> rfl)) ?_)) | refine G2 rfl rfl (by decide) ?_)
       all_goals (first | refine G2 rfl rfl (by decide) ?_ | (refine G1 rfl ?_; refine al_ef rfl (ef_call0 false (fun _ => outs_a _ _ _) rfl .fn rfl (by decide) Tc107 rfl (by intro _g; (repeat first | exact K0 | apply K1 rfl | apply K2 rfl rfl | apply K2 rfl (by simp) | apply K3 | exact L0 | apply L1 | exact V1 rfl | exact V2 rfl | exact V3 rfl rfl | exact V4 | exact V5 rfl | exact V3 rfl (by simp; omega) | exact V1 (by simp; omega) | exact V3 rfl (by simp) | exact V1 (by simp) | exact V6 rfl rfl (by first | rfl | simp) (by simp) rfl | apply V7 | apply V8 | apply V9); fail_if_success focus skip) (by simp)) ?_; rintro _ _ ⟨_, _, _, ⟨bb, rfl, rfl, ⟨rfl, hb⟩ | ⟨rfl, hb⟩⟩, hF, hH⟩; all_goals ((try simp only [nsl, Nat.reduceAdd, Nat.reduceLT, Nat.reduceSub] at hF); (try simp only [nsl, Nat.reduceAdd, Nat.reduceLT, Nat.reduceSub] at hH); subst hF; subst hH)))
       all_goals (first | refine RA rfl rfl (by decide) (rd_pick_t rfl rfl rfl) ?_ | refine RA rfl rfl (by decide) (rd_pick_f rfl rfl rfl) ?_)
       all_goals (refine al_nil ?_))
    | (refine aw_region (id := 2) ?_
       refine RA rfl rfl (by decide) (rd_assign rfl rfl) ?_
       refine al_nil ?_)
    | (refine aw_region (id := 3) ?_
       refine RA rfl rfl (by decide) (rd_assign rfl rfl) ?_
       refine al_nil ?_))
  all_goals (refine aret_1 [] _ rfl rfl rfl (by decide) (fun _ hi => absurd hi (Nat.not_lt_zero _)) (by intro _g; (repeat first | exact K0 | apply K1 rfl | apply K2 rfl rfl | apply K2 rfl (by simp) | apply K3 | exact L0 | apply L1 | exact V1 rfl | exact V2 rfl | exact V3 rfl rfl | exact V4 | exact V5 rfl | exact V3 rfl (by simp; omega) | exact V1 (by simp; omega) | exact V3 rfl (by simp) | exact V1 (by simp) | exact V6 rfl rfl (by first | rfl | simp) (by simp) rfl | apply V7 | apply V8 | apply V9); fail_if_success focus skip) ⟨congrArg (fun z => AV.c (I z)) ?_, rfl⟩)
  all_goals first | (rw [legBad_t (by unfold Leg.good; omega)]; rfl) | (rw [legBad_f (by unfold Leg.good; omega)]; rfl)
theorem any_drop {l : List Leg} {k : Nat} {x : Leg} (h : l[k]? = some x) : (l.drop k).any legBad = (legBad x || (l.drop (k + 1)).any legBad) := by
  rw [drop_consk h, List.any_cons]
theorem legsF_any {l : List Leg} (h1 : ¬ l.length = 0) (h2 : ¬ 2000 < l.length) : legsF l = if l.any legBad then 1 else 0 := by
  unfold legsF; rw [if_neg h1, if_neg h2]
theorem checklegs_a (l : List Leg) (v : Value) : ACalls Try.prog 49 [.c (legs_r v l)] [] fun u H => u = .c (I (legsF l)) ∧ H = [] := by
  have e1 : (l.map Leg.row).length = l.length := by simp
  refine acalls_of (N := 24) Try.func49 rfl rfl (by simp) fun E hE => ?_
  repeat with_reducible first | refine S1 ?_ | refine S2 ?_ | refine S3 ?_ | refine S4 ?_ | refine S5 ?_ | refine S6 ?_ | refine S7 ?_ | refine S8 ?_ | refine S9 rfl ?_ | refine SA ?_ | refine SB ?_ | refine SC ?_
  refine aw_region ?_
  refine RA rfl rfl (by decide) (rd_assign rfl rfl) ?_
  refine al_nil ?_
  repeat with_reducible first | refine S1 ?_ | refine S2 ?_ | refine S3 ?_ | refine S4 ?_ | refine S5 ?_ | refine S6 ?_ | refine S7 ?_ | refine S8 ?_ | refine S9 rfl ?_ | refine SA ?_ | refine SB ?_ | refine SC ?_
  refine aw_region ?_
  refine RA rfl rfl (by decide) (rd_move rfl rfl) ?_
  first | refine RA rfl rfl (by decide) (rd_len rfl Te54 rfl) ?_ | refine RA rfl rfl (by decide) (rd_lenr rfl Te54 rfl) ?_
  first | refine RA rfl rfl (by decide) (rd_eql_t rfl rfl rfl (by omega)) ?_ | refine RA rfl rfl (by decide) (rd_eql_f rfl rfl rfl (by omega)) ?_ | refine RA rfl rfl (by decide) (rd_eql rfl rfl rfl) ?_
  refine al_nil ?_
  repeat with_reducible first | refine S1 ?_ | refine S2 ?_ | refine S3 ?_ | refine S4 ?_ | refine S5 ?_ | refine S6 ?_ | refine S7 ?_ | refine S8 ?_ | refine S9 rfl ?_ | refine SA ?_ | refine SB ?_ | refine SC ?_
  refine aw_if rfl (fun h0 => ?_) (fun h0 => ?_)
  · repeat with_reducible first | refine S1 ?_ | refine S2 ?_ | refine S3 ?_ | refine S4 ?_ | refine S5 ?_ | refine S6 ?_ | refine S7 ?_ | refine S8 ?_ | refine S9 rfl ?_ | refine SA ?_ | refine SB ?_ | refine SC ?_
    refine aw_region ?_
    refine RA rfl rfl (by decide) (rd_assign rfl rfl) ?_
    refine al_nil ?_
    repeat with_reducible first | refine S1 ?_ | refine S2 ?_ | refine S3 ?_ | refine S4 ?_ | refine S5 ?_ | refine S6 ?_ | refine S7 ?_ | refine S8 ?_ | refine S9 rfl ?_ | refine SA ?_ | refine SB ?_ | refine SC ?_
    exact aret_1 [] _ rfl rfl rfl (by decide) (fun _ hi => absurd hi (Nat.not_lt_zero _)) (by intro _g; (repeat first | exact K0 | apply K1 rfl | apply K2 rfl rfl | apply K2 rfl (by simp) | apply K3 | exact L0 | apply L1 | exact V1 rfl | exact V2 rfl | exact V3 rfl rfl | exact V4 | exact V5 rfl | exact V3 rfl (by simp; omega) | exact V1 (by simp; omega) | exact V3 rfl (by simp) | exact V1 (by simp) | exact V6 rfl rfl (by first | rfl | simp) (by simp) rfl | apply V7 | apply V8 | apply V9); fail_if_success focus skip) ⟨by rw [legsF, if_pos (by omega)], rfl⟩
  repeat with_reducible first | refine S1 ?_ | refine S2 ?_ | refine S3 ?_ | refine S4 ?_ | refine S5 ?_ | refine S6 ?_ | refine S7 ?_ | refine S8 ?_ | refine S9 rfl ?_ | refine SA ?_ | refine SB ?_ | refine SC ?_
  repeat with_reducible first | refine S1 ?_ | refine S2 ?_ | refine S3 ?_ | refine S4 ?_ | refine S5 ?_ | refine S6 ?_ | refine S7 ?_ | refine S8 ?_ | refine S9 rfl ?_ | refine SA ?_ | refine SB ?_ | refine SC ?_
  refine aw_region ?_
  refine RA rfl rfl (by decide) (rd_move rfl rfl) ?_
  first | refine RA rfl rfl (by decide) (rd_len rfl Te54 rfl) ?_ | refine RA rfl rfl (by decide) (rd_lenr rfl Te54 rfl) ?_
  first | refine RA rfl rfl (by decide) (rd_gtr_t rfl rfl rfl (by omega)) ?_ | refine RA rfl rfl (by decide) (rd_gtr_f rfl rfl rfl (by omega)) ?_ | refine RA rfl rfl (by decide) (rd_gtr rfl rfl rfl) ?_
  refine al_nil ?_
  repeat with_reducible first | refine S1 ?_ | refine S2 ?_ | refine S3 ?_ | refine S4 ?_ | refine S5 ?_ | refine S6 ?_ | refine S7 ?_ | refine S8 ?_ | refine S9 rfl ?_ | refine SA ?_ | refine SB ?_ | refine SC ?_
  refine aw_if rfl (fun hbig => ?_) (fun hbig => ?_)
  · repeat with_reducible first | refine S1 ?_ | refine S2 ?_ | refine S3 ?_ | refine S4 ?_ | refine S5 ?_ | refine S6 ?_ | refine S7 ?_ | refine S8 ?_ | refine S9 rfl ?_ | refine SA ?_ | refine SB ?_ | refine SC ?_
    refine aw_region ?_
    refine RA rfl rfl (by decide) (rd_assign rfl rfl) ?_
    refine al_nil ?_
    repeat with_reducible first | refine S1 ?_ | refine S2 ?_ | refine S3 ?_ | refine S4 ?_ | refine S5 ?_ | refine S6 ?_ | refine S7 ?_ | refine S8 ?_ | refine S9 rfl ?_ | refine SA ?_ | refine SB ?_ | refine SC ?_
    exact aret_1 [] _ rfl rfl rfl (by decide) (fun _ hi => absurd hi (Nat.not_lt_zero _)) (by intro _g; (repeat first | exact K0 | apply K1 rfl | apply K2 rfl rfl | apply K2 rfl (by simp) | apply K3 | exact L0 | apply L1 | exact V1 rfl | exact V2 rfl | exact V3 rfl rfl | exact V4 | exact V5 rfl | exact V3 rfl (by simp; omega) | exact V1 (by simp; omega) | exact V3 rfl (by simp) | exact V1 (by simp) | exact V6 rfl rfl (by first | rfl | simp) (by simp) rfl | apply V7 | apply V8 | apply V9); fail_if_success focus skip) ⟨by rw [legsF, if_neg (by omega), if_pos (by omega)], rfl⟩
  have hF := legsF_any (l := l) (by omega) (by omega)
  repeat with_reducible first | refine S1 ?_ | refine S2 ?_ | refine S3 ?_ | refine S4 ?_ | refine S5 ?_ | refine S6 ?_ | refine S7 ?_ | refine S8 ?_ | refine S9 rfl ?_ | refine SA ?_ | refine SB ?_ | refine SC ?_
  repeat with_reducible first | refine S1 ?_ | refine S2 ?_ | refine S3 ?_ | refine S4 ?_ | refine S5 ?_ | refine S6 ?_ | refine S7 ?_ | refine S8 ?_ | refine S9 rfl ?_ | refine SA ?_ | refine SB ?_ | refine SC ?_
  refine aw_region ?_
  refine RA rfl rfl (by decide) (rd_move rfl rfl) ?_
  first | refine RA rfl rfl (by decide) (rd_len rfl Te54 rfl) ?_ | refine RA rfl rfl (by decide) (rd_lenr rfl Te54 rfl) ?_
  refine RA rfl rfl (by decide) (rd_move rfl rfl) ?_
  refine al_nil ?_
  repeat with_reducible first | refine S1 ?_ | refine S2 ?_ | refine S3 ?_ | refine S4 ?_ | refine S5 ?_ | refine S6 ?_ | refine S7 ?_ | refine S8 ?_ | refine S9 rfl ?_ | refine SA ?_ | refine SB ?_ | refine SC ?_
  refine aw_loopw (fun m F H => ∃ (k : Nat), m + k = l.length ∧ (l.drop k).any legBad = l.any legBad ∧ F = [(12, .c (legs_r v l)), (13, .c (I (l.map Leg.row).length)), (14, .c (I k))] ∧ H = []) ?_ ?_
  · refine wk_of [] (fun _ => [(12, .c (legs_r v l)), (13, .c (I (l.map Leg.row).length)), (14, .c (I (0 : Nat)))]) (fun _ => _) (by decide) (by rw [hE]; first | exact (fun _ hi => absurd hi (Nat.not_lt_zero _)) | exact (fun i hi => by (have hi : i < 1 := hi); (have h0 : i = 0 := (by omega)); (subst h0); rfl)) (by intro _g; (repeat first | exact W0 | apply W1 rfl | exact L0 | apply L1 | exact V1 rfl | exact V2 rfl | exact V3 rfl rfl | exact V4 | exact V5 rfl | exact V3 rfl (by simp; omega) | exact V1 (by simp; omega) | exact V3 rfl (by simp) | exact V1 (by simp) | exact V6 rfl rfl (by first | rfl | simp) (by simp) rfl | apply V7 | apply V8 | apply V9 | refine V1 ?_ | refine V3 rfl ?_); fail_if_success focus skip) (by intro _g; (repeat first | exact K0 | apply K1 rfl | apply K2 rfl rfl | apply K2 rfl (by simp) | apply K3 | exact L0 | apply L1 | exact V1 rfl | exact V2 rfl | exact V3 rfl rfl | exact V4 | exact V5 rfl | exact V3 rfl (by simp; omega) | exact V1 (by simp; omega) | exact V3 rfl (by simp) | exact V1 (by simp) | exact V6 rfl rfl (by first | rfl | simp) (by simp) rfl | apply V7 | apply V8 | apply V9); fail_if_success focus skip) (fun _ => ?_)
    exact ⟨l.length, 0, by omega, rfl, rfl, rfl⟩
  rintro m F H ⟨k, hk, hf, rfl, rfl⟩
  repeat with_reducible first | refine S1 ?_ | refine S2 ?_ | refine S3 ?_ | refine S4 ?_ | refine S5 ?_ | refine S6 ?_ | refine S7 ?_ | refine S8 ?_ | refine S9 rfl ?_ | refine SA ?_ | refine SB ?_ | refine SC ?_
  refine aw_region ?_
  first | refine RA rfl rfl (by decide) (rd_lss_t rfl rfl rfl (by omega)) ?_ | refine RA rfl rfl (by decide) (rd_lss_f rfl rfl rfl (by omega)) ?_ | refine RA rfl rfl (by decide) (rd_lss rfl rfl rfl) ?_
  refine al_nil ?_
  repeat with_reducible first | refine S1 ?_ | refine S2 ?_ | refine S3 ?_ | refine S4 ?_ | refine S5 ?_ | refine S6 ?_ | refine S7 ?_ | refine S8 ?_ | refine S9 rfl ?_ | refine SA ?_ | refine SB ?_ | refine SC ?_
  refine aw_if rfl (fun hlt => ?_) (fun hge => ?_)
  · obtain ⟨x, hx⟩ : ∃ e, l[k]? = some e := ⟨_, List.getElem?_eq_getElem (by omega)⟩
    have hrow : (l.map Leg.row)[k]? = some x.row := by rw [List.getElem?_map, hx]; rfl
    have hfd := any_drop hx
    repeat with_reducible first | refine S1 ?_ | refine S2 ?_ | refine S3 ?_ | refine S4 ?_ | refine S5 ?_ | refine S6 ?_ | refine S7 ?_ | refine S8 ?_ | refine S9 rfl ?_ | refine SA ?_ | refine SB ?_ | refine SC ?_
    refine aw_region ?_
    first | refine RA rfl rfl (by decide) (rd_index rfl Te54 rfl rfl rfl (by first | rfl | omega) (by omega)) ?_ | refine RA rfl rfl (by decide) (rd_indexq rfl Te54 rfl rfl (by first | rfl | omega) (by assumption) rfl) ?_
    refine RA rfl rfl (by decide) (rd_loadn rfl Tk64 rfl (by first | exact CB rfl | exact CQ | exact CA rfl (by first | assumption | (rw [Nat.zero_add]; assumption))) (by (try simp only [nm, putL, Nat.reduceAdd, cellsOf, cvOf]) <;> rfl) (by simp)) ?_
    refine EA rfl (ef_allocn rfl rfl (by decide) Tz64 rfl rfl (by (try simp only [nm, putL, Nat.reduceAdd, cellsOf, cvOf]) <;> rfl) (by (try simp only [nm, putL, Nat.reduceAdd, cellsOf, cvOf]) <;> rfl)) ?_
    first | refine EA rfl (ef_storen rfl rfl rfl rfl rfl Ts64 rfl (by simp) rfl (by (try simp only [nm, putL, Nat.reduceAdd, cellsOf, cvOf]) <;> rfl) (by (try simp only [nm, putL, Nat.reduceAdd, cellsOf, cvOf]) <;> rfl)) ?_ | refine EA rfl (ef_storern rfl rfl rfl rfl (by first | assumption | (rw [Nat.zero_add]; assumption)) rfl rfl Ts64 rfl (by simp) rfl (by (try simp only [nm, putL, Nat.reduceAdd, cellsOf, cvOf]) <;> rfl) rfl) ?_
    refine al_nil ?_
    repeat with_reducible first | refine S1 ?_ | refine S2 ?_ | refine S3 ?_ | refine S4 ?_ | refine S5 ?_ | refine S6 ?_ | refine S7 ?_ | refine S8 ?_ | refine S9 rfl ?_ | refine SA ?_ | refine SB ?_ | refine SC ?_
    refine aw_region ?_
    refine RA rfl rfl (by decide) (rd_loadn rfl Tk64 rfl (by first | exact CB rfl | exact CQ | exact CA rfl (by first | assumption | (rw [Nat.zero_add]; assumption))) (by (try simp only [nm, putL, Nat.reduceAdd, cellsOf, cvOf]) <;> rfl) (by simp)) ?_
    refine al_ef rfl (ef_call0 false (fun _ => legfault_a x) rfl .fn rfl (by decide) Tc119 rfl (by intro _g; (repeat first | exact K0 | apply K1 rfl | apply K2 rfl rfl | apply K2 rfl (by simp) | apply K3 | exact L0 | apply L1 | exact V1 rfl | exact V2 rfl | exact V3 rfl rfl | exact V4 | exact V5 rfl | exact V3 rfl (by simp; omega) | exact V1 (by simp; omega) | exact V3 rfl (by simp) | exact V1 (by simp) | exact V6 rfl rfl (by first | rfl | simp) (by simp) rfl | apply V7 | apply V8 | apply V9); fail_if_success focus skip) (by simp)) ?_
    rintro _ _ ⟨_, _, _, ⟨rfl, rfl⟩, hF, hH⟩
    (try simp only [nsl, Nat.reduceAdd, Nat.reduceLT, Nat.reduceSub] at hF); (try simp only [nsl, Nat.reduceAdd, Nat.reduceLT, Nat.reduceSub] at hH); subst hF; subst hH
    refine RA rfl rfl (by decide) (rd_assign rfl rfl) ?_
    refine al_nil ?_
    repeat with_reducible first | refine S1 ?_ | refine S2 ?_ | refine S3 ?_ | refine S4 ?_ | refine S5 ?_ | refine S6 ?_ | refine S7 ?_ | refine S8 ?_ | refine S9 rfl ?_ | refine SA ?_ | refine SB ?_ | refine SC ?_
    refine aw_region ?_
    refine RA rfl rfl (by decide) (rd_move rfl rfl) ?_
    first | refine RA rfl rfl (by decide) (rd_neq_t rfl rfl rfl (by omega)) ?_ | refine RA rfl rfl (by decide) (rd_neq_f rfl rfl rfl (by omega)) ?_ | refine RA rfl rfl (by decide) (rd_neq rfl rfl rfl) ?_
    refine al_nil ?_
    repeat with_reducible first | refine S1 ?_ | refine S2 ?_ | refine S3 ?_ | refine S4 ?_ | refine S5 ?_ | refine S6 ?_ | refine S7 ?_ | refine S8 ?_ | refine S9 rfl ?_ | refine SA ?_ | refine SB ?_ | refine SC ?_
    refine aw_if rfl (fun hne => ?_) (fun heq => ?_)
    · have hb : legBad x = true := by cases h : legBad x <;> simp_all
      repeat with_reducible first | refine S1 ?_ | refine S2 ?_ | refine S3 ?_ | refine S4 ?_ | refine S5 ?_ | refine S6 ?_ | refine S7 ?_ | refine S8 ?_ | refine S9 rfl ?_ | refine SA ?_ | refine SB ?_ | refine SC ?_
      refine aw_region ?_
      refine RA rfl rfl (by decide) (rd_move rfl rfl) ?_
      refine RA rfl rfl (by decide) (rd_assign rfl rfl) ?_
      refine al_nil ?_
      repeat with_reducible first | refine S1 ?_ | refine S2 ?_ | refine S3 ?_ | refine S4 ?_ | refine S5 ?_ | refine S6 ?_ | refine S7 ?_ | refine S8 ?_ | refine S9 rfl ?_ | refine SA ?_ | refine SB ?_ | refine SC ?_
      exact aret_1 [] _ rfl rfl rfl (by decide) (fun _ hi => absurd hi (Nat.not_lt_zero _)) (by intro _g; (repeat first | exact K0 | apply K1 rfl | apply K2 rfl rfl | apply K2 rfl (by simp) | apply K3 | exact L0 | apply L1 | exact V1 rfl | exact V2 rfl | exact V3 rfl rfl | exact V4 | exact V5 rfl | exact V3 rfl (by simp; omega) | exact V1 (by simp; omega) | exact V3 rfl (by simp) | exact V1 (by simp) | exact V6 rfl rfl (by first | rfl | simp) (by simp) rfl | apply V7 | apply V8 | apply V9); fail_if_success focus skip) ⟨by rw [hF, ← hf, hfd, hb]; rfl, rfl⟩
    · have hb : legBad x = false := by cases h : legBad x <;> simp_all
      repeat with_reducible first | refine S1 ?_ | refine S2 ?_ | refine S3 ?_ | refine S4 ?_ | refine S5 ?_ | refine S6 ?_ | refine S7 ?_ | refine S8 ?_ | refine S9 rfl ?_ | refine SA ?_ | refine SB ?_ | refine SC ?_
      repeat with_reducible first | refine S1 ?_ | refine S2 ?_ | refine S3 ?_ | refine S4 ?_ | refine S5 ?_ | refine S6 ?_ | refine S7 ?_ | refine S8 ?_ | refine S9 rfl ?_ | refine SA ?_ | refine SB ?_ | refine SC ?_
      refine aw_region ?_
      first | refine RA rfl rfl (by decide) (rd_addn rfl rfl rfl (by omega)) ?_ | refine RA rfl rfl (by decide) (rd_add rfl rfl rfl) ?_
      refine RA rfl rfl (by decide) (rd_move rfl rfl) ?_
      refine al_nil ?_
      repeat with_reducible first | refine S1 ?_ | refine S2 ?_ | refine S3 ?_ | refine S4 ?_ | refine S5 ?_ | refine S6 ?_ | refine S7 ?_ | refine S8 ?_ | refine S9 rfl ?_ | refine SA ?_ | refine SB ?_ | refine SC ?_
      refine wk_of [] (fun _ => [(12, .c (legs_r v l)), (13, .c (I (l.map Leg.row).length)), (14, .c (I (k + 1 : Nat)))]) (fun _ => _) (by decide) (by rw [hE]; first | exact (fun _ hi => absurd hi (Nat.not_lt_zero _)) | exact (fun i hi => by (have hi : i < 1 := hi); (have h0 : i = 0 := (by omega)); (subst h0); rfl)) (by intro _g; (repeat first | exact W0 | apply W1 rfl | exact L0 | apply L1 | exact V1 rfl | exact V2 rfl | exact V3 rfl rfl | exact V4 | exact V5 rfl | exact V3 rfl (by simp; omega) | exact V1 (by simp; omega) | exact V3 rfl (by simp) | exact V1 (by simp) | exact V6 rfl rfl (by first | rfl | simp) (by simp) rfl | apply V7 | apply V8 | apply V9 | refine V1 ?_ | refine V3 rfl ?_); fail_if_success focus skip) (by intro _g; (repeat first | exact K0 | apply K1 rfl | apply K2 rfl rfl | apply K2 rfl (by simp) | apply K3 | exact L0 | apply L1 | exact V1 rfl | exact V2 rfl | exact V3 rfl rfl | exact V4 | exact V5 rfl | exact V3 rfl (by simp; omega) | exact V1 (by simp; omega) | exact V3 rfl (by simp) | exact V1 (by simp) | exact V6 rfl rfl (by first | rfl | simp) (by simp) rfl | apply V7 | apply V8 | apply V9); fail_if_success focus skip) (fun _ => ?_)
      exact ⟨m - 1, by omega, k + 1, by omega, by rw [← hf, hfd, hb, Bool.false_or], rfl, rfl⟩
  repeat with_reducible first | refine S1 ?_ | refine S2 ?_ | refine S3 ?_ | refine S4 ?_ | refine S5 ?_ | refine S6 ?_ | refine S7 ?_ | refine S8 ?_ | refine S9 rfl ?_ | refine SA ?_ | refine SB ?_ | refine SC ?_
  refine aw_region ?_
  refine RA rfl rfl (by decide) (rd_assign rfl rfl) ?_
  refine al_nil ?_
  repeat with_reducible first | refine S1 ?_ | refine S2 ?_ | refine S3 ?_ | refine S4 ?_ | refine S5 ?_ | refine S6 ?_ | refine S7 ?_ | refine S8 ?_ | refine S9 rfl ?_ | refine SA ?_ | refine SB ?_ | refine SC ?_
  exact aret_1 [] _ rfl rfl rfl (by decide) (fun _ hi => absurd hi (Nat.not_lt_zero _)) (by intro _g; (repeat first | exact K0 | apply K1 rfl | apply K2 rfl rfl | apply K2 rfl (by simp) | apply K3 | exact L0 | apply L1 | exact V1 rfl | exact V2 rfl | exact V3 rfl rfl | exact V4 | exact V5 rfl | exact V3 rfl (by simp; omega) | exact V1 (by simp; omega) | exact V3 rfl (by simp) | exact V1 (by simp) | exact V6 rfl rfl (by first | rfl | simp) (by simp) rfl | apply V7 | apply V8 | apply V9); fail_if_success focus skip) ⟨by rw [hF, ← hf, List.drop_eq_nil_of_le (by omega)]; rfl, rfl⟩
theorem legsfault_a (l : List Leg) (v : Value) : ACalls Try.prog 50 [.c (legs_r v l)] [] fun u H => u = .c (I (legsF l)) ∧ H = [] := by
  have e1 : (l.map Leg.row).length = l.length := by simp
  refine acalls_of (N := 30) Try.func50 rfl rfl (by simp) fun E hE => ?_
  repeat with_reducible first | refine S1 ?_ | refine S2 ?_ | refine S3 ?_ | refine S4 ?_ | refine S5 ?_ | refine S6 ?_ | refine S7 ?_ | refine S8 ?_ | refine S9 rfl ?_ | refine SA ?_ | refine SB ?_ | refine SC ?_
  refine aw_region ?_
  refine RA rfl rfl (by decide) (rd_assign rfl rfl) ?_
  refine al_nil ?_
  repeat with_reducible first | refine S1 ?_ | refine S2 ?_ | refine S3 ?_ | refine S4 ?_ | refine S5 ?_ | refine S6 ?_ | refine S7 ?_ | refine S8 ?_ | refine S9 rfl ?_ | refine SA ?_ | refine SB ?_ | refine SC ?_
  refine aw_region ?_
  refine RA rfl rfl (by decide) (rd_move rfl rfl) ?_
  first | refine RA rfl rfl (by decide) (rd_len rfl Te54 rfl) ?_ | refine RA rfl rfl (by decide) (rd_lenr rfl Te54 rfl) ?_
  first | refine RA rfl rfl (by decide) (rd_eql_t rfl rfl rfl (by omega)) ?_ | refine RA rfl rfl (by decide) (rd_eql_f rfl rfl rfl (by omega)) ?_ | refine RA rfl rfl (by decide) (rd_eql rfl rfl rfl) ?_
  refine RA rfl rfl (by decide) (rd_assign rfl rfl) ?_
  refine al_nil ?_
  repeat with_reducible first | refine S1 ?_ | refine S2 ?_ | refine S3 ?_ | refine S4 ?_ | refine S5 ?_ | refine S6 ?_ | refine S7 ?_ | refine S8 ?_ | refine S9 rfl ?_ | refine SA ?_ | refine SB ?_ | refine SC ?_
  refine aw_if rfl (fun h0 => ?_) (fun h0 => ?_)
  · repeat with_reducible first | refine S1 ?_ | refine S2 ?_ | refine S3 ?_ | refine S4 ?_ | refine S5 ?_ | refine S6 ?_ | refine S7 ?_ | refine S8 ?_ | refine S9 rfl ?_ | refine SA ?_ | refine SB ?_ | refine SC ?_
    refine aw_region ?_
    refine RA rfl rfl (by decide) (rd_assign rfl rfl) ?_
    refine al_nil ?_
    repeat with_reducible first | refine S1 ?_ | refine S2 ?_ | refine S3 ?_ | refine S4 ?_ | refine S5 ?_ | refine S6 ?_ | refine S7 ?_ | refine S8 ?_ | refine S9 rfl ?_ | refine SA ?_ | refine SB ?_ | refine SC ?_
    exact aret_1 [] _ rfl rfl rfl (by decide) (fun _ hi => absurd hi (Nat.not_lt_zero _)) (by intro _g; (repeat first | exact K0 | apply K1 rfl | apply K2 rfl rfl | apply K2 rfl (by simp) | apply K3 | exact L0 | apply L1 | exact V1 rfl | exact V2 rfl | exact V3 rfl rfl | exact V4 | exact V5 rfl | exact V3 rfl (by simp; omega) | exact V1 (by simp; omega) | exact V3 rfl (by simp) | exact V1 (by simp) | exact V6 rfl rfl (by first | rfl | simp) (by simp) rfl | apply V7 | apply V8 | apply V9); fail_if_success focus skip) ⟨by rw [legsF, if_pos (by omega)], rfl⟩
  repeat with_reducible first | refine S1 ?_ | refine S2 ?_ | refine S3 ?_ | refine S4 ?_ | refine S5 ?_ | refine S6 ?_ | refine S7 ?_ | refine S8 ?_ | refine S9 rfl ?_ | refine SA ?_ | refine SB ?_ | refine SC ?_
  repeat with_reducible first | refine S1 ?_ | refine S2 ?_ | refine S3 ?_ | refine S4 ?_ | refine S5 ?_ | refine S6 ?_ | refine S7 ?_ | refine S8 ?_ | refine S9 rfl ?_ | refine SA ?_ | refine SB ?_ | refine SC ?_
  refine aw_region ?_
  refine RA rfl rfl (by decide) (rd_move rfl rfl) ?_
  first | refine RA rfl rfl (by decide) (rd_len rfl Te54 rfl) ?_ | refine RA rfl rfl (by decide) (rd_lenr rfl Te54 rfl) ?_
  first | refine RA rfl rfl (by decide) (rd_gtr_t rfl rfl rfl (by omega)) ?_ | refine RA rfl rfl (by decide) (rd_gtr_f rfl rfl rfl (by omega)) ?_ | refine RA rfl rfl (by decide) (rd_gtr rfl rfl rfl) ?_
  refine RA rfl rfl (by decide) (rd_assign rfl rfl) ?_
  refine al_nil ?_
  repeat with_reducible first | refine S1 ?_ | refine S2 ?_ | refine S3 ?_ | refine S4 ?_ | refine S5 ?_ | refine S6 ?_ | refine S7 ?_ | refine S8 ?_ | refine S9 rfl ?_ | refine SA ?_ | refine SB ?_ | refine SC ?_
  refine aw_if rfl (fun hbig => ?_) (fun hbig => ?_)
  · repeat with_reducible first | refine S1 ?_ | refine S2 ?_ | refine S3 ?_ | refine S4 ?_ | refine S5 ?_ | refine S6 ?_ | refine S7 ?_ | refine S8 ?_ | refine S9 rfl ?_ | refine SA ?_ | refine SB ?_ | refine SC ?_
    refine aw_region ?_
    refine RA rfl rfl (by decide) (rd_assign rfl rfl) ?_
    refine al_nil ?_
    repeat with_reducible first | refine S1 ?_ | refine S2 ?_ | refine S3 ?_ | refine S4 ?_ | refine S5 ?_ | refine S6 ?_ | refine S7 ?_ | refine S8 ?_ | refine S9 rfl ?_ | refine SA ?_ | refine SB ?_ | refine SC ?_
    exact aret_1 [] _ rfl rfl rfl (by decide) (fun _ hi => absurd hi (Nat.not_lt_zero _)) (by intro _g; (repeat first | exact K0 | apply K1 rfl | apply K2 rfl rfl | apply K2 rfl (by simp) | apply K3 | exact L0 | apply L1 | exact V1 rfl | exact V2 rfl | exact V3 rfl rfl | exact V4 | exact V5 rfl | exact V3 rfl (by simp; omega) | exact V1 (by simp; omega) | exact V3 rfl (by simp) | exact V1 (by simp) | exact V6 rfl rfl (by first | rfl | simp) (by simp) rfl | apply V7 | apply V8 | apply V9); fail_if_success focus skip) ⟨by rw [legsF, if_neg (by omega), if_pos (by omega)], rfl⟩
  have hF := legsF_any (l := l) (by omega) (by omega)
  repeat with_reducible first | refine S1 ?_ | refine S2 ?_ | refine S3 ?_ | refine S4 ?_ | refine S5 ?_ | refine S6 ?_ | refine S7 ?_ | refine S8 ?_ | refine S9 rfl ?_ | refine SA ?_ | refine SB ?_ | refine SC ?_
  repeat with_reducible first | refine S1 ?_ | refine S2 ?_ | refine S3 ?_ | refine S4 ?_ | refine S5 ?_ | refine S6 ?_ | refine S7 ?_ | refine S8 ?_ | refine S9 rfl ?_ | refine SA ?_ | refine SB ?_ | refine SC ?_
  refine aw_region ?_
  refine RA rfl rfl (by decide) (rd_move rfl rfl) ?_
  first | refine RA rfl rfl (by decide) (rd_len rfl Te54 rfl) ?_ | refine RA rfl rfl (by decide) (rd_lenr rfl Te54 rfl) ?_
  refine RA rfl rfl (by decide) (rd_move rfl rfl) ?_
  refine al_nil ?_
  repeat with_reducible first | refine S1 ?_ | refine S2 ?_ | refine S3 ?_ | refine S4 ?_ | refine S5 ?_ | refine S6 ?_ | refine S7 ?_ | refine S8 ?_ | refine S9 rfl ?_ | refine SA ?_ | refine SB ?_ | refine SC ?_
  refine aw_loopw (fun m F H => ∃ (k : Nat), m + k = l.length ∧ (l.drop k).any legBad = l.any legBad ∧ F = [(13, .c (legs_r v l)), (14, .c (I (l.map Leg.row).length)), (15, .c (I k))] ∧ H = []) ?_ ?_
  · refine wk_of [] (fun _ => [(13, .c (legs_r v l)), (14, .c (I (l.map Leg.row).length)), (15, .c (I (0 : Nat)))]) (fun _ => _) (by decide) (by rw [hE]; first | exact (fun _ hi => absurd hi (Nat.not_lt_zero _)) | exact (fun i hi => by (have hi : i < 1 := hi); (have h0 : i = 0 := (by omega)); (subst h0); rfl)) (by intro _g; (repeat first | exact W0 | apply W1 rfl | exact L0 | apply L1 | exact V1 rfl | exact V2 rfl | exact V3 rfl rfl | exact V4 | exact V5 rfl | exact V3 rfl (by simp; omega) | exact V1 (by simp; omega) | exact V3 rfl (by simp) | exact V1 (by simp) | exact V6 rfl rfl (by first | rfl | simp) (by simp) rfl | apply V7 | apply V8 | apply V9 | refine V1 ?_ | refine V3 rfl ?_); fail_if_success focus skip) (by intro _g; (repeat first | exact K0 | apply K1 rfl | apply K2 rfl rfl | apply K2 rfl (by simp) | apply K3 | exact L0 | apply L1 | exact V1 rfl | exact V2 rfl | exact V3 rfl rfl | exact V4 | exact V5 rfl | exact V3 rfl (by simp; omega) | exact V1 (by simp; omega) | exact V3 rfl (by simp) | exact V1 (by simp) | exact V6 rfl rfl (by first | rfl | simp) (by simp) rfl | apply V7 | apply V8 | apply V9); fail_if_success focus skip) (fun _ => ?_)
    exact ⟨l.length, 0, by omega, rfl, rfl, rfl⟩
  rintro m F H ⟨k, hk, hf, rfl, rfl⟩
  repeat with_reducible first | refine S1 ?_ | refine S2 ?_ | refine S3 ?_ | refine S4 ?_ | refine S5 ?_ | refine S6 ?_ | refine S7 ?_ | refine S8 ?_ | refine S9 rfl ?_ | refine SA ?_ | refine SB ?_ | refine SC ?_
  refine aw_region ?_
  first | refine RA rfl rfl (by decide) (rd_lss_t rfl rfl rfl (by omega)) ?_ | refine RA rfl rfl (by decide) (rd_lss_f rfl rfl rfl (by omega)) ?_ | refine RA rfl rfl (by decide) (rd_lss rfl rfl rfl) ?_
  refine al_nil ?_
  repeat with_reducible first | refine S1 ?_ | refine S2 ?_ | refine S3 ?_ | refine S4 ?_ | refine S5 ?_ | refine S6 ?_ | refine S7 ?_ | refine S8 ?_ | refine S9 rfl ?_ | refine SA ?_ | refine SB ?_ | refine SC ?_
  refine aw_if rfl (fun hlt => ?_) (fun hge => ?_)
  · obtain ⟨x, hx⟩ : ∃ e, l[k]? = some e := ⟨_, List.getElem?_eq_getElem (by omega)⟩
    have hrow : (l.map Leg.row)[k]? = some x.row := by rw [List.getElem?_map, hx]; rfl
    have hfd := any_drop hx
    repeat with_reducible first | refine S1 ?_ | refine S2 ?_ | refine S3 ?_ | refine S4 ?_ | refine S5 ?_ | refine S6 ?_ | refine S7 ?_ | refine S8 ?_ | refine S9 rfl ?_ | refine SA ?_ | refine SB ?_ | refine SC ?_
    refine aw_region ?_
    first | refine RA rfl rfl (by decide) (rd_index rfl Te54 rfl rfl rfl (by first | rfl | omega) (by omega)) ?_ | refine RA rfl rfl (by decide) (rd_indexq rfl Te54 rfl rfl (by first | rfl | omega) (by assumption) rfl) ?_
    refine RA rfl rfl (by decide) (rd_loadn rfl Tk64 rfl (by first | exact CB rfl | exact CQ | exact CA rfl (by first | assumption | (rw [Nat.zero_add]; assumption))) (by (try simp only [nm, putL, Nat.reduceAdd, cellsOf, cvOf]) <;> rfl) (by simp)) ?_
    refine EA rfl (ef_allocn rfl rfl (by decide) Tz64 rfl rfl (by (try simp only [nm, putL, Nat.reduceAdd, cellsOf, cvOf]) <;> rfl) (by (try simp only [nm, putL, Nat.reduceAdd, cellsOf, cvOf]) <;> rfl)) ?_
    first | refine EA rfl (ef_storen rfl rfl rfl rfl rfl Ts64 rfl (by simp) rfl (by (try simp only [nm, putL, Nat.reduceAdd, cellsOf, cvOf]) <;> rfl) (by (try simp only [nm, putL, Nat.reduceAdd, cellsOf, cvOf]) <;> rfl)) ?_ | refine EA rfl (ef_storern rfl rfl rfl rfl (by first | assumption | (rw [Nat.zero_add]; assumption)) rfl rfl Ts64 rfl (by simp) rfl (by (try simp only [nm, putL, Nat.reduceAdd, cellsOf, cvOf]) <;> rfl) rfl) ?_
    refine al_nil ?_
    repeat with_reducible first | refine S1 ?_ | refine S2 ?_ | refine S3 ?_ | refine S4 ?_ | refine S5 ?_ | refine S6 ?_ | refine S7 ?_ | refine S8 ?_ | refine S9 rfl ?_ | refine SA ?_ | refine SB ?_ | refine SC ?_
    repeat' (first
      | (with_reducible refine aw_seq ?_) | (with_reducible refine aseq_n ?_) | (with_reducible refine aseq_r ?_) | (with_reducible refine ablk_n ?_) | (with_reducible refine ablk_r ?_) | (with_reducible refine ablk_e ?_) | (with_reducible refine ablk_o rfl ?_) | (with_reducible refine aseq_e ?_) | (with_reducible refine aw_skip ?_) | (with_reducible refine aw_block ?_) | (with_reducible refine aw_ret ?_) | (with_reducible refine aw_exit ?_)
      | refine aw_cond_t rfl ?_ | refine aw_cond_f rfl ?_ | refine aw_if_t rfl (by assumption) ?_ | refine aw_if_f rfl (by assumption) ?_ | refine aw_if rfl (fun _ => ?_) (fun _ => ?_) | refine aw_cond rfl (fun _ => ?_) (fun _ => ?_)
      | (refine aw_region (id := 0) ?_
         refine RA rfl rfl (by decide) (rd_assign rfl rfl) ?_
         refine al_nil ?_)
      | (refine aw_region (id := 1) ?_
         refine RA rfl rfl (by decide) (rd_move rfl rfl) ?_
         first | refine RA rfl rfl (by decide) (rd_len rfl Te54 rfl) ?_ | refine RA rfl rfl (by decide) (rd_lenr rfl Te54 rfl) ?_
         first | refine RA rfl rfl (by decide) (rd_eql_t rfl rfl rfl (by omega)) ?_ | refine RA rfl rfl (by decide) (rd_eql_f rfl rfl rfl (by omega)) ?_ | refine RA rfl rfl (by decide) (rd_eql rfl rfl rfl) ?_
         refine RA rfl rfl (by decide) (rd_assign rfl rfl) ?_
         refine al_nil ?_)
      | (refine aw_region (id := 2) ?_
         refine RA rfl rfl (by decide) (rd_assign rfl rfl) ?_
         refine al_nil ?_)
      | (refine aw_region (id := 3) ?_
         refine RA rfl rfl (by decide) (rd_move rfl rfl) ?_
         first | refine RA rfl rfl (by decide) (rd_len rfl Te54 rfl) ?_ | refine RA rfl rfl (by decide) (rd_lenr rfl Te54 rfl) ?_
         first | refine RA rfl rfl (by decide) (rd_gtr_t rfl rfl rfl (by omega)) ?_ | refine RA rfl rfl (by decide) (rd_gtr_f rfl rfl rfl (by omega)) ?_ | refine RA rfl rfl (by decide) (rd_gtr rfl rfl rfl) ?_
         refine RA rfl rfl (by decide) (rd_assign rfl rfl) ?_
         refine al_nil ?_)
      | (refine aw_region (id := 4) ?_
         refine RA rfl rfl (by decide) (rd_assign rfl rfl) ?_
         refine al_nil ?_)
      | (refine aw_region (id := 5) ?_
         refine RA rfl rfl (by decide) (rd_move rfl rfl) ?_
         first | refine RA rfl rfl (by decide) (rd_len rfl Te54 rfl) ?_ | refine RA rfl rfl (by decide) (rd_lenr rfl Te54 rfl) ?_
         refine RA rfl rfl (by decide) (rd_move rfl rfl) ?_
         refine al_nil ?_)
      | (refine aw_region (id := 6) ?_
         first | refine RA rfl rfl (by decide) (rd_lss_t rfl rfl rfl (by omega)) ?_ | refine RA rfl rfl (by decide) (rd_lss_f rfl rfl rfl (by omega)) ?_ | refine RA rfl rfl (by decide) (rd_lss rfl rfl rfl) ?_
         refine al_nil ?_)
      | (refine aw_region (id := 8) ?_
         first | refine RA rfl rfl (by decide) (rd_field rfl rfl Tf64_0) ?_ | refine RA rfl rfl (by decide) (rd_fieldq rfl rfl Tf64_0) ?_
         refine RA rfl rfl (by decide) (rd_loadn1 rfl Tk3 rfl (by first | exact CB rfl | exact CQ | exact CA rfl (by first | assumption | (rw [Nat.zero_add]; assumption))) (by (try simp only [nm, putL, Nat.reduceAdd, cellsOf, cvOf]) <;> rfl)) ?_
         refine al_ef rfl (ef_call0 false (fun _ => in2_a _ _ _) rfl .fn rfl (by decide) Tc120 rfl (by intro _g; (repeat first | exact K0 | apply K1 rfl | apply K2 rfl rfl | apply K2 rfl (by simp) | apply K3 | exact L0 | apply L1 | exact V1 rfl | exact V2 rfl | exact V3 rfl rfl | exact V4 | exact V5 rfl | exact V3 rfl (by simp; omega) | exact V1 (by simp; omega) | exact V3 rfl (by simp) | exact V1 (by simp) | exact V6 rfl rfl (by first | rfl | simp) (by simp) rfl | apply V7 | apply V8 | apply V9); fail_if_success focus skip) (by simp)) ?_
         rintro _ _ ⟨_, _, _, ⟨bb, rfl, rfl, ⟨rfl, hb⟩ | ⟨rfl, hb⟩⟩, hF, hH⟩
         all_goals ((try simp only [nsl, Nat.reduceAdd, Nat.reduceLT, Nat.reduceSub] at hF); (try simp only [nsl, Nat.reduceAdd, Nat.reduceLT, Nat.reduceSub] at hH); subst hF; subst hH)
         all_goals (refine RA rfl rfl (by decide) (rd_not rfl rfl) ?_)
         all_goals (refine RA rfl rfl (by decide) (rd_move rfl rfl) ?_)
         all_goals (first | (refine G1 rfl ?_; (first | refine RA rfl rfl (by decide) (rd_field rfl rfl Tf64_1) ?_ | refine RA rfl rfl (by decide) (rd_fieldq rfl rfl Tf64_1) ?_)) | refine G2 rfl rfl (by decide) ?_)
         all_goals (first | (refine G1 rfl ?_; (refine RA rfl rfl (by decide) (rd_loadn1 rfl Tk3 rfl (by first | exact CB rfl | exact CQ | exact CA rfl (by first | assumption | (rw [Nat.zero_add]; assumption))) (by (try simp only [nm, putL, Nat.reduceAdd, cellsOf, cvOf]) <;> rfl)) ?_)) | refine G2 rfl rfl (by decide) ?_)
         all_goals (first | refine G2 rfl rfl (by decide) ?_ | (refine G1 rfl ?_; refine al_ef rfl (ef_call0 false (fun _ => in2_a _ _ _) rfl .fn rfl (by decide) Tc120 rfl (by intro _g; (repeat first | exact K0 | apply K1 rfl | apply K2 rfl rfl | apply K2 rfl (by simp) | apply K3 | exact L0 | apply L1 | exact V1 rfl | exact V2 rfl | exact V3 rfl rfl | exact V4 | exact V5 rfl | exact V3 rfl (by simp; omega) | exact V1 (by simp; omega) | exact V3 rfl (by simp) | exact V1 (by simp) | exact V6 rfl rfl (by first | rfl | simp) (by simp) rfl | apply V7 | apply V8 | apply V9); fail_if_success focus skip) (by simp)) ?_; rintro _ _ ⟨_, _, _, ⟨bb, rfl, rfl, ⟨rfl, hb⟩ | ⟨rfl, hb⟩⟩, hF, hH⟩; all_goals ((try simp only [nsl, Nat.reduceAdd, Nat.reduceLT, Nat.reduceSub] at hF); (try simp only [nsl, Nat.reduceAdd, Nat.reduceLT, Nat.reduceSub] at hH); subst hF; subst hH)))
         all_goals (first | (refine G1 rfl ?_; (refine RA rfl rfl (by decide) (rd_not rfl rfl) ?_)) | refine G2 rfl rfl (by decide) ?_)
         all_goals (first | refine RA rfl rfl (by decide) (rd_pick_t rfl rfl rfl) ?_ | refine RA rfl rfl (by decide) (rd_pick_f rfl rfl rfl) ?_)
         all_goals (refine al_nil ?_))
      | (refine aw_region (id := 9) ?_
         refine RA rfl rfl (by decide) (rd_assign rfl rfl) ?_
         refine al_nil ?_))
    all_goals first
      | (have hb : legBad x = true := legBad_t (by unfold Leg.good; omega)
         exact aret_1 [] _ rfl rfl rfl (by decide) (fun _ hi => absurd hi (Nat.not_lt_zero _)) (by intro _g; (repeat first | exact K0 | apply K1 rfl | apply K2 rfl rfl | apply K2 rfl (by simp) | apply K3 | exact L0 | apply L1 | exact V1 rfl | exact V2 rfl | exact V3 rfl rfl | exact V4 | exact V5 rfl | exact V3 rfl (by simp; omega) | exact V1 (by simp; omega) | exact V3 rfl (by simp) | exact V1 (by simp) | exact V6 rfl rfl (by first | rfl | simp) (by simp) rfl | apply V7 | apply V8 | apply V9); fail_if_success focus skip) ⟨by rw [hF, ← hf, hfd, hb]; rfl, rfl⟩)
      | (have hb : legBad x = false := legBad_f (by unfold Leg.good; omega)
         repeat with_reducible first | refine S1 ?_ | refine S2 ?_ | refine S3 ?_ | refine S4 ?_ | refine S5 ?_ | refine S6 ?_ | refine S7 ?_ | refine S8 ?_ | refine S9 rfl ?_ | refine SA ?_ | refine SB ?_ | refine SC ?_
         refine aw_region ?_
         first | refine RA rfl rfl (by decide) (rd_addn rfl rfl rfl (by omega)) ?_ | refine RA rfl rfl (by decide) (rd_add rfl rfl rfl) ?_
         refine RA rfl rfl (by decide) (rd_move rfl rfl) ?_
         refine al_nil ?_
         repeat with_reducible first | refine S1 ?_ | refine S2 ?_ | refine S3 ?_ | refine S4 ?_ | refine S5 ?_ | refine S6 ?_ | refine S7 ?_ | refine S8 ?_ | refine S9 rfl ?_ | refine SA ?_ | refine SB ?_ | refine SC ?_
         refine wk_of [] (fun _ => [(13, .c (legs_r v l)), (14, .c (I (l.map Leg.row).length)), (15, .c (I (k + 1 : Nat)))]) (fun _ => _) (by decide) (by rw [hE]; first | exact (fun _ hi => absurd hi (Nat.not_lt_zero _)) | exact (fun i hi => by (have hi : i < 1 := hi); (have h0 : i = 0 := (by omega)); (subst h0); rfl)) (by intro _g; (repeat first | exact W0 | apply W1 rfl | exact L0 | apply L1 | exact V1 rfl | exact V2 rfl | exact V3 rfl rfl | exact V4 | exact V5 rfl | exact V3 rfl (by simp; omega) | exact V1 (by simp; omega) | exact V3 rfl (by simp) | exact V1 (by simp) | exact V6 rfl rfl (by first | rfl | simp) (by simp) rfl | apply V7 | apply V8 | apply V9 | refine V1 ?_ | refine V3 rfl ?_); fail_if_success focus skip) (by intro _g; (repeat first | exact K0 | apply K1 rfl | apply K2 rfl rfl | apply K2 rfl (by simp) | apply K3 | exact L0 | apply L1 | exact V1 rfl | exact V2 rfl | exact V3 rfl rfl | exact V4 | exact V5 rfl | exact V3 rfl (by simp; omega) | exact V1 (by simp; omega) | exact V3 rfl (by simp) | exact V1 (by simp) | exact V6 rfl rfl (by first | rfl | simp) (by simp) rfl | apply V7 | apply V8 | apply V9); fail_if_success focus skip) (fun _ => ?_)
         exact ⟨m - 1, by omega, k + 1, by omega, by rw [← hf, hfd, hb, Bool.false_or], rfl, rfl⟩)
  repeat with_reducible first | refine S1 ?_ | refine S2 ?_ | refine S3 ?_ | refine S4 ?_ | refine S5 ?_ | refine S6 ?_ | refine S7 ?_ | refine S8 ?_ | refine S9 rfl ?_ | refine SA ?_ | refine SB ?_ | refine SC ?_
  refine aw_region ?_
  refine RA rfl rfl (by decide) (rd_assign rfl rfl) ?_
  refine al_nil ?_
  repeat with_reducible first | refine S1 ?_ | refine S2 ?_ | refine S3 ?_ | refine S4 ?_ | refine S5 ?_ | refine S6 ?_ | refine S7 ?_ | refine S8 ?_ | refine S9 rfl ?_ | refine SA ?_ | refine SB ?_ | refine SC ?_
  exact aret_1 [] _ rfl rfl rfl (by decide) (fun _ hi => absurd hi (Nat.not_lt_zero _)) (by intro _g; (repeat first | exact K0 | apply K1 rfl | apply K2 rfl rfl | apply K2 rfl (by simp) | apply K3 | exact L0 | apply L1 | exact V1 rfl | exact V2 rfl | exact V3 rfl rfl | exact V4 | exact V5 rfl | exact V3 rfl (by simp; omega) | exact V1 (by simp; omega) | exact V3 rfl (by simp) | exact V1 (by simp) | exact V6 rfl rfl (by first | rfl | simp) (by simp) rfl | apply V7 | apply V8 | apply V9); fail_if_success focus skip) ⟨by rw [hF, ← hf, List.drop_eq_nil_of_le (by omega)]; rfl, rfl⟩
theorem cornerBad_t {n : Int} (h : n < 0 ∨ 100000 < n) : cornerBad n = true := by
  unfold cornerBad
  cases h1 : decide (0 ≤ n)
  · rfl
  · have h2 : decide (n ≤ 100000) = false := decide_eq_false (by have := of_decide_eq_true h1; omega)
    rw [h2]; rfl
theorem cornerBad_f {n : Int} (h1 : 0 ≤ n) (h2 : n ≤ 100000) : cornerBad n = false := by
  unfold cornerBad; rw [decide_eq_true h1, decide_eq_true h2]; rfl
theorem cbad1_a (n : Int) : ACalls Try.prog 178 [.c (I n)] [] fun u H => u = .c (B (cornerBad n)) ∧ H = [] := by
  refine acalls_of (N := 5) Try.func178 rfl rfl (by simp) fun E hE => ?_
  repeat' (first
    | (with_reducible refine aw_seq ?_) | (with_reducible refine aseq_n ?_) | (with_reducible refine aseq_r ?_) | (with_reducible refine ablk_n ?_) | (with_reducible refine ablk_r ?_) | (with_reducible refine ablk_e ?_) | (with_reducible refine ablk_o rfl ?_) | (with_reducible refine aseq_e ?_) | (with_reducible refine aw_skip ?_) | (with_reducible refine aw_block ?_) | (with_reducible refine aw_ret ?_) | (with_reducible refine aw_exit ?_)
    | refine aw_cond_t rfl ?_ | refine aw_cond_f rfl ?_ | refine aw_if_t rfl (by assumption) ?_ | refine aw_if_f rfl (by assumption) ?_ | refine aw_if rfl (fun _ => ?_) (fun _ => ?_) | refine aw_cond rfl (fun _ => ?_) (fun _ => ?_)
    | (refine aw_region (id := 0) ?_
       refine RA rfl rfl (by decide) (rd_assign rfl rfl) ?_
       refine al_nil ?_)
    | (refine aw_region (id := 1) ?_
       refine RA rfl rfl (by decide) (rd_move rfl rfl) ?_
       refine al_ef rfl (ef_call0 false (fun _ => outs_a _ _ _) rfl .fn rfl (by decide) Tc107 rfl (by intro _g; (repeat first | exact K0 | apply K1 rfl | apply K2 rfl rfl | apply K2 rfl (by simp) | apply K3 | exact L0 | apply L1 | exact V1 rfl | exact V2 rfl | exact V3 rfl rfl | exact V4 | exact V5 rfl | exact V3 rfl (by simp; omega) | exact V1 (by simp; omega) | exact V3 rfl (by simp) | exact V1 (by simp) | exact V6 rfl rfl (by first | rfl | simp) (by simp) rfl | apply V7 | apply V8 | apply V9); fail_if_success focus skip) (by simp)) ?_
       rintro _ _ ⟨_, _, _, ⟨bb, rfl, rfl, ⟨rfl, hb⟩ | ⟨rfl, hb⟩⟩, hF, hH⟩
       all_goals ((try simp only [nsl, Nat.reduceAdd, Nat.reduceLT, Nat.reduceSub] at hF); (try simp only [nsl, Nat.reduceAdd, Nat.reduceLT, Nat.reduceSub] at hH); subst hF; subst hH)
       all_goals (refine RA rfl rfl (by decide) (rd_assign rfl rfl) ?_)
       all_goals (refine al_nil ?_)))
  all_goals (refine aret_1 [] _ rfl rfl rfl (by decide) (fun _ hi => absurd hi (Nat.not_lt_zero _)) (by intro _g; (repeat first | exact K0 | apply K1 rfl | apply K2 rfl rfl | apply K2 rfl (by simp) | apply K3 | exact L0 | apply L1 | exact V1 rfl | exact V2 rfl | exact V3 rfl rfl | exact V4 | exact V5 rfl | exact V3 rfl (by simp; omega) | exact V1 (by simp; omega) | exact V3 rfl (by simp) | exact V1 (by simp) | exact V6 rfl rfl (by first | rfl | simp) (by simp) rfl | apply V7 | apply V8 | apply V9); fail_if_success focus skip) ⟨congrArg (fun z => AV.c (B z)) ?_, rfl⟩)
  all_goals first | (rw [cornerBad_t (by omega)]) | (rw [cornerBad_f (by omega) (by omega)])
theorem cbad2_a (n : Int) : ACalls Try.prog 157 [.c (I n)] [] fun u H => u = .c (B (cornerBad n)) ∧ H = [] := by
  refine acalls_of (N := 6) Try.func157 rfl rfl (by simp) fun E hE => ?_
  repeat' (first
    | (with_reducible refine aw_seq ?_) | (with_reducible refine aseq_n ?_) | (with_reducible refine aseq_r ?_) | (with_reducible refine ablk_n ?_) | (with_reducible refine ablk_r ?_) | (with_reducible refine ablk_e ?_) | (with_reducible refine ablk_o rfl ?_) | (with_reducible refine aseq_e ?_) | (with_reducible refine aw_skip ?_) | (with_reducible refine aw_block ?_) | (with_reducible refine aw_ret ?_) | (with_reducible refine aw_exit ?_)
    | refine aw_cond_t rfl ?_ | refine aw_cond_f rfl ?_ | refine aw_if_t rfl (by assumption) ?_ | refine aw_if_f rfl (by assumption) ?_ | refine aw_if rfl (fun _ => ?_) (fun _ => ?_) | refine aw_cond rfl (fun _ => ?_) (fun _ => ?_)
    | (refine aw_region (id := 0) ?_
       refine RA rfl rfl (by decide) (rd_assign rfl rfl) ?_
       refine al_nil ?_)
    | (refine aw_region (id := 1) ?_
       refine RA rfl rfl (by decide) (rd_move rfl rfl) ?_
       refine al_ef rfl (ef_call0 false (fun _ => in2_a _ _ _) rfl .fn rfl (by decide) Tc120 rfl (by intro _g; (repeat first | exact K0 | apply K1 rfl | apply K2 rfl rfl | apply K2 rfl (by simp) | apply K3 | exact L0 | apply L1 | exact V1 rfl | exact V2 rfl | exact V3 rfl rfl | exact V4 | exact V5 rfl | exact V3 rfl (by simp; omega) | exact V1 (by simp; omega) | exact V3 rfl (by simp) | exact V1 (by simp) | exact V6 rfl rfl (by first | rfl | simp) (by simp) rfl | apply V7 | apply V8 | apply V9); fail_if_success focus skip) (by simp)) ?_
       rintro _ _ ⟨_, _, _, ⟨bb, rfl, rfl, ⟨rfl, hb⟩ | ⟨rfl, hb⟩⟩, hF, hH⟩
       all_goals ((try simp only [nsl, Nat.reduceAdd, Nat.reduceLT, Nat.reduceSub] at hF); (try simp only [nsl, Nat.reduceAdd, Nat.reduceLT, Nat.reduceSub] at hH); subst hF; subst hH)
       all_goals (refine RA rfl rfl (by decide) (rd_not rfl rfl) ?_)
       all_goals (refine RA rfl rfl (by decide) (rd_assign rfl rfl) ?_)
       all_goals (refine al_nil ?_)))
  all_goals (refine aret_1 [] _ rfl rfl rfl (by decide) (fun _ hi => absurd hi (Nat.not_lt_zero _)) (by intro _g; (repeat first | exact K0 | apply K1 rfl | apply K2 rfl rfl | apply K2 rfl (by simp) | apply K3 | exact L0 | apply L1 | exact V1 rfl | exact V2 rfl | exact V3 rfl rfl | exact V4 | exact V5 rfl | exact V3 rfl (by simp; omega) | exact V1 (by simp; omega) | exact V3 rfl (by simp) | exact V1 (by simp) | exact V6 rfl rfl (by first | rfl | simp) (by simp) rfl | apply V7 | apply V8 | apply V9); fail_if_success focus skip) ⟨congrArg (fun z => AV.c (B z)) ?_, rfl⟩)
  all_goals first | (rw [cornerBad_t (by omega)]; rfl) | (rw [cornerBad_f (by omega) (by omega)]; rfl)
theorem corners1_a (l : List Leg) (cs : List Int) (v w : Value) (hl : l.length ≤ 1000000000) (hc : cs.length ≤ 1000000000) : ACalls Try.prog 147 [.c (legs_r v l), .c (ints_r w cs)] [] fun u H => u = .c (I (cornersF l cs)) ∧ H = [] := by
  have e1 : (l.map Leg.row).length = l.length := by simp
  have e2 : (cs.map fun z => [I z]).length = cs.length := by simp
  refine acalls_of (N := 19) Try.func147 rfl rfl (by simp) fun E hE => ?_
  repeat with_reducible first | refine S1 ?_ | refine S2 ?_ | refine S3 ?_ | refine S4 ?_ | refine S5 ?_ | refine S6 ?_ | refine S7 ?_ | refine S8 ?_ | refine S9 rfl ?_ | refine SA ?_ | refine SB ?_ | refine SC ?_
  refine aw_region ?_
  refine RA rfl rfl (by decide) (rd_assign rfl rfl) ?_
  refine al_nil ?_
  repeat with_reducible first | refine S1 ?_ | refine S2 ?_ | refine S3 ?_ | refine S4 ?_ | refine S5 ?_ | refine S6 ?_ | refine S7 ?_ | refine S8 ?_ | refine S9 rfl ?_ | refine SA ?_ | refine SB ?_ | refine SC ?_
  refine aw_region ?_
  refine RA rfl rfl (by decide) (rd_move rfl rfl) ?_
  refine al_ef rfl (ef_call0 false (fun _ => checklegs_a l v) rfl .fn rfl (by decide) Tc49 rfl (by intro _g; (repeat first | exact K0 | apply K1 rfl | apply K2 rfl rfl | apply K2 rfl (by simp) | apply K3 | exact L0 | apply L1 | exact V1 rfl | exact V2 rfl | exact V3 rfl rfl | exact V4 | exact V5 rfl | exact V3 rfl (by simp; omega) | exact V1 (by simp; omega) | exact V3 rfl (by simp) | exact V1 (by simp) | exact V6 rfl rfl (by first | rfl | simp) (by simp) rfl | apply V7 | apply V8 | apply V9); fail_if_success focus skip) (by simp)) ?_
  rintro _ _ ⟨_, _, _, ⟨rfl, rfl⟩, hF, hH⟩
  (try simp only [nsl, Nat.reduceAdd, Nat.reduceLT, Nat.reduceSub] at hF); (try simp only [nsl, Nat.reduceAdd, Nat.reduceLT, Nat.reduceSub] at hH); subst hF; subst hH
  refine RA rfl rfl (by decide) (rd_assign rfl rfl) ?_
  refine al_nil ?_
  repeat with_reducible first | refine S1 ?_ | refine S2 ?_ | refine S3 ?_ | refine S4 ?_ | refine S5 ?_ | refine S6 ?_ | refine S7 ?_ | refine S8 ?_ | refine S9 rfl ?_ | refine SA ?_ | refine SB ?_ | refine SC ?_
  refine aw_region ?_
  refine RA rfl rfl (by decide) (rd_move rfl rfl) ?_
  first | refine RA rfl rfl (by decide) (rd_neq_t rfl rfl rfl (by omega)) ?_ | refine RA rfl rfl (by decide) (rd_neq_f rfl rfl rfl (by omega)) ?_ | refine RA rfl rfl (by decide) (rd_neq rfl rfl rfl) ?_
  refine al_nil ?_
  repeat with_reducible first | refine S1 ?_ | refine S2 ?_ | refine S3 ?_ | refine S4 ?_ | refine S5 ?_ | refine S6 ?_ | refine S7 ?_ | refine S8 ?_ | refine S9 rfl ?_ | refine SA ?_ | refine SB ?_ | refine SC ?_
  refine aw_if rfl (fun hne => ?_) (fun heq => ?_)
  · repeat with_reducible first | refine S1 ?_ | refine S2 ?_ | refine S3 ?_ | refine S4 ?_ | refine S5 ?_ | refine S6 ?_ | refine S7 ?_ | refine S8 ?_ | refine S9 rfl ?_ | refine SA ?_ | refine SB ?_ | refine SC ?_
    refine aw_region ?_
    refine RA rfl rfl (by decide) (rd_move rfl rfl) ?_
    refine RA rfl rfl (by decide) (rd_assign rfl rfl) ?_
    refine al_nil ?_
    repeat with_reducible first | refine S1 ?_ | refine S2 ?_ | refine S3 ?_ | refine S4 ?_ | refine S5 ?_ | refine S6 ?_ | refine S7 ?_ | refine S8 ?_ | refine S9 rfl ?_ | refine SA ?_ | refine SB ?_ | refine SC ?_
    exact aret_1 [] _ rfl rfl rfl (by decide) (fun _ hi => absurd hi (Nat.not_lt_zero _)) (by intro _g; (repeat first | exact K0 | apply K1 rfl | apply K2 rfl rfl | apply K2 rfl (by simp) | apply K3 | exact L0 | apply L1 | exact V1 rfl | exact V2 rfl | exact V3 rfl rfl | exact V4 | exact V5 rfl | exact V3 rfl (by simp; omega) | exact V1 (by simp; omega) | exact V3 rfl (by simp) | exact V1 (by simp) | exact V6 rfl rfl (by first | rfl | simp) (by simp) rfl | apply V7 | apply V8 | apply V9); fail_if_success focus skip) ⟨by rw [cornersF, if_pos hne], rfl⟩
  have h0 : legsF l = 0 := by omega
  have h1 := (legsF_ok h0).1
  repeat with_reducible first | refine S1 ?_ | refine S2 ?_ | refine S3 ?_ | refine S4 ?_ | refine S5 ?_ | refine S6 ?_ | refine S7 ?_ | refine S8 ?_ | refine S9 rfl ?_ | refine SA ?_ | refine SB ?_ | refine SC ?_
  repeat with_reducible first | refine S1 ?_ | refine S2 ?_ | refine S3 ?_ | refine S4 ?_ | refine S5 ?_ | refine S6 ?_ | refine S7 ?_ | refine S8 ?_ | refine S9 rfl ?_ | refine SA ?_ | refine SB ?_ | refine SC ?_
  refine aw_region ?_
  refine RA rfl rfl (by decide) (rd_move rfl rfl) ?_
  first | refine RA rfl rfl (by decide) (rd_len rfl Te22 rfl) ?_ | refine RA rfl rfl (by decide) (rd_lenr rfl Te22 rfl) ?_
  refine RA rfl rfl (by decide) (rd_move rfl rfl) ?_
  first | refine RA rfl rfl (by decide) (rd_len rfl Te54 rfl) ?_ | refine RA rfl rfl (by decide) (rd_lenr rfl Te54 rfl) ?_
  first | refine RA rfl rfl (by decide) (rd_subn rfl rfl rfl (by omega)) ?_ | refine RA rfl rfl (by decide) (rd_sub rfl rfl rfl) ?_
  first | refine RA rfl rfl (by decide) (rd_neq_t rfl rfl rfl (by omega)) ?_ | refine RA rfl rfl (by decide) (rd_neq_f rfl rfl rfl (by omega)) ?_ | refine RA rfl rfl (by decide) (rd_neq rfl rfl rfl) ?_
  refine al_nil ?_
  repeat with_reducible first | refine S1 ?_ | refine S2 ?_ | refine S3 ?_ | refine S4 ?_ | refine S5 ?_ | refine S6 ?_ | refine S7 ?_ | refine S8 ?_ | refine S9 rfl ?_ | refine SA ?_ | refine SB ?_ | refine SC ?_
  refine aw_if rfl (fun hne => ?_) (fun hlen => ?_)
  · repeat with_reducible first | refine S1 ?_ | refine S2 ?_ | refine S3 ?_ | refine S4 ?_ | refine S5 ?_ | refine S6 ?_ | refine S7 ?_ | refine S8 ?_ | refine S9 rfl ?_ | refine SA ?_ | refine SB ?_ | refine SC ?_
    refine aw_region ?_
    refine RA rfl rfl (by decide) (rd_assign rfl rfl) ?_
    refine al_nil ?_
    repeat with_reducible first | refine S1 ?_ | refine S2 ?_ | refine S3 ?_ | refine S4 ?_ | refine S5 ?_ | refine S6 ?_ | refine S7 ?_ | refine S8 ?_ | refine S9 rfl ?_ | refine SA ?_ | refine SB ?_ | refine SC ?_
    exact aret_1 [] _ rfl rfl rfl (by decide) (fun _ hi => absurd hi (Nat.not_lt_zero _)) (by intro _g; (repeat first | exact K0 | apply K1 rfl | apply K2 rfl rfl | apply K2 rfl (by simp) | apply K3 | exact L0 | apply L1 | exact V1 rfl | exact V2 rfl | exact V3 rfl rfl | exact V4 | exact V5 rfl | exact V3 rfl (by simp; omega) | exact V1 (by simp; omega) | exact V3 rfl (by simp) | exact V1 (by simp) | exact V6 rfl rfl (by first | rfl | simp) (by simp) rfl | apply V7 | apply V8 | apply V9); fail_if_success focus skip) ⟨by rw [cornersF, if_neg (by omega), if_pos (by omega)], rfl⟩
  repeat with_reducible first | refine S1 ?_ | refine S2 ?_ | refine S3 ?_ | refine S4 ?_ | refine S5 ?_ | refine S6 ?_ | refine S7 ?_ | refine S8 ?_ | refine S9 rfl ?_ | refine SA ?_ | refine SB ?_ | refine SC ?_
  repeat with_reducible first | refine S1 ?_ | refine S2 ?_ | refine S3 ?_ | refine S4 ?_ | refine S5 ?_ | refine S6 ?_ | refine S7 ?_ | refine S8 ?_ | refine S9 rfl ?_ | refine SA ?_ | refine SB ?_ | refine SC ?_
  refine aw_region ?_
  refine RA rfl rfl (by decide) (rd_move rfl rfl) ?_
  refine al_ef rfl (ef_call0 false (fun _ => contains_a 178 cornerBad Tc178 cbad1_a cs w hc) rfl .fn rfl (by decide) Tc156 rfl (by intro _g; (repeat first | exact K0 | apply K1 rfl | apply K2 rfl rfl | apply K2 rfl (by simp) | apply K3 | exact L0 | apply L1 | exact V1 rfl | exact V2 rfl | exact V3 rfl rfl | exact V4 | exact V5 rfl | exact V3 rfl (by simp; omega) | exact V1 (by simp; omega) | exact V3 rfl (by simp) | exact V1 (by simp) | exact V6 rfl rfl (by first | rfl | simp) (by simp) rfl | apply V7 | apply V8 | apply V9); fail_if_success focus skip) (by simp)) ?_
  rintro _ _ ⟨_, _, _, ⟨rfl, rfl⟩, hF, hH⟩
  (try simp only [nsl, Nat.reduceAdd, Nat.reduceLT, Nat.reduceSub] at hF); (try simp only [nsl, Nat.reduceAdd, Nat.reduceLT, Nat.reduceSub] at hH); subst hF; subst hH
  refine al_nil ?_
  repeat with_reducible first | refine S1 ?_ | refine S2 ?_ | refine S3 ?_ | refine S4 ?_ | refine S5 ?_ | refine S6 ?_ | refine S7 ?_ | refine S8 ?_ | refine S9 rfl ?_ | refine SA ?_ | refine SB ?_ | refine SC ?_
  refine aw_cond rfl (fun hb => ?_) (fun hb => ?_)
  · repeat with_reducible first | refine S1 ?_ | refine S2 ?_ | refine S3 ?_ | refine S4 ?_ | refine S5 ?_ | refine S6 ?_ | refine S7 ?_ | refine S8 ?_ | refine S9 rfl ?_ | refine SA ?_ | refine SB ?_ | refine SC ?_
    refine aw_region ?_
    refine RA rfl rfl (by decide) (rd_assign rfl rfl) ?_
    refine al_nil ?_
    repeat with_reducible first | refine S1 ?_ | refine S2 ?_ | refine S3 ?_ | refine S4 ?_ | refine S5 ?_ | refine S6 ?_ | refine S7 ?_ | refine S8 ?_ | refine S9 rfl ?_ | refine SA ?_ | refine SB ?_ | refine SC ?_
    exact aret_1 [] _ rfl rfl rfl (by decide) (fun _ hi => absurd hi (Nat.not_lt_zero _)) (by intro _g; (repeat first | exact K0 | apply K1 rfl | apply K2 rfl rfl | apply K2 rfl (by simp) | apply K3 | exact L0 | apply L1 | exact V1 rfl | exact V2 rfl | exact V3 rfl rfl | exact V4 | exact V5 rfl | exact V3 rfl (by simp; omega) | exact V1 (by simp; omega) | exact V3 rfl (by simp) | exact V1 (by simp) | exact V6 rfl rfl (by first | rfl | simp) (by simp) rfl | apply V7 | apply V8 | apply V9); fail_if_success focus skip) ⟨by rw [cornersF, if_neg (by omega), if_neg (by omega), if_pos hb], rfl⟩
  · repeat with_reducible first | refine S1 ?_ | refine S2 ?_ | refine S3 ?_ | refine S4 ?_ | refine S5 ?_ | refine S6 ?_ | refine S7 ?_ | refine S8 ?_ | refine S9 rfl ?_ | refine SA ?_ | refine SB ?_ | refine SC ?_
    repeat with_reducible first | refine S1 ?_ | refine S2 ?_ | refine S3 ?_ | refine S4 ?_ | refine S5 ?_ | refine S6 ?_ | refine S7 ?_ | refine S8 ?_ | refine S9 rfl ?_ | refine SA ?_ | refine SB ?_ | refine SC ?_
    refine aw_region ?_
    refine RA rfl rfl (by decide) (rd_assign rfl rfl) ?_
    refine al_nil ?_
    repeat with_reducible first | refine S1 ?_ | refine S2 ?_ | refine S3 ?_ | refine S4 ?_ | refine S5 ?_ | refine S6 ?_ | refine S7 ?_ | refine S8 ?_ | refine S9 rfl ?_ | refine SA ?_ | refine SB ?_ | refine SC ?_
    exact aret_1 [] _ rfl rfl rfl (by decide) (fun _ hi => absurd hi (Nat.not_lt_zero _)) (by intro _g; (repeat first | exact K0 | apply K1 rfl | apply K2 rfl rfl | apply K2 rfl (by simp) | apply K3 | exact L0 | apply L1 | exact V1 rfl | exact V2 rfl | exact V3 rfl rfl | exact V4 | exact V5 rfl | exact V3 rfl (by simp; omega) | exact V1 (by simp; omega) | exact V3 rfl (by simp) | exact V1 (by simp) | exact V6 rfl rfl (by first | rfl | simp) (by simp) rfl | apply V7 | apply V8 | apply V9); fail_if_success focus skip) ⟨by rw [cornersF, if_neg (by omega), if_neg (by omega), if_neg (by simp [hb])], rfl⟩
theorem corners2_a (l : List Leg) (cs : List Int) (v w : Value) (hl : l.length ≤ 1000000000) (hc : cs.length ≤ 1000000000) : ACalls Try.prog 80 [.c (legs_r v l), .c (ints_r w cs)] [] fun u H => u = .c (I (cornersF l cs)) ∧ H = [] := by
  have e1 : (l.map Leg.row).length = l.length := by simp
  have e2 : (cs.map fun z => [I z]).length = cs.length := by simp
  refine acalls_of (N := 19) Try.func80 rfl rfl (by simp) fun E hE => ?_
  repeat with_reducible first | refine S1 ?_ | refine S2 ?_ | refine S3 ?_ | refine S4 ?_ | refine S5 ?_ | refine S6 ?_ | refine S7 ?_ | refine S8 ?_ | refine S9 rfl ?_ | refine SA ?_ | refine SB ?_ | refine SC ?_
  refine aw_region ?_
  refine RA rfl rfl (by decide) (rd_assign rfl rfl) ?_
  refine al_nil ?_
  repeat with_reducible first | refine S1 ?_ | refine S2 ?_ | refine S3 ?_ | refine S4 ?_ | refine S5 ?_ | refine S6 ?_ | refine S7 ?_ | refine S8 ?_ | refine S9 rfl ?_ | refine SA ?_ | refine SB ?_ | refine SC ?_
  refine aw_region ?_
  refine RA rfl rfl (by decide) (rd_move rfl rfl) ?_
  refine al_ef rfl (ef_call0 false (fun _ => legsfault_a l v) rfl .fn rfl (by decide) Tc50 rfl (by intro _g; (repeat first | exact K0 | apply K1 rfl | apply K2 rfl rfl | apply K2 rfl (by simp) | apply K3 | exact L0 | apply L1 | exact V1 rfl | exact V2 rfl | exact V3 rfl rfl | exact V4 | exact V5 rfl | exact V3 rfl (by simp; omega) | exact V1 (by simp; omega) | exact V3 rfl (by simp) | exact V1 (by simp) | exact V6 rfl rfl (by first | rfl | simp) (by simp) rfl | apply V7 | apply V8 | apply V9); fail_if_success focus skip) (by simp)) ?_
  rintro _ _ ⟨_, _, _, ⟨rfl, rfl⟩, hF, hH⟩
  (try simp only [nsl, Nat.reduceAdd, Nat.reduceLT, Nat.reduceSub] at hF); (try simp only [nsl, Nat.reduceAdd, Nat.reduceLT, Nat.reduceSub] at hH); subst hF; subst hH
  refine RA rfl rfl (by decide) (rd_assign rfl rfl) ?_
  refine al_nil ?_
  repeat with_reducible first | refine S1 ?_ | refine S2 ?_ | refine S3 ?_ | refine S4 ?_ | refine S5 ?_ | refine S6 ?_ | refine S7 ?_ | refine S8 ?_ | refine S9 rfl ?_ | refine SA ?_ | refine SB ?_ | refine SC ?_
  refine aw_region ?_
  refine RA rfl rfl (by decide) (rd_move rfl rfl) ?_
  first | refine RA rfl rfl (by decide) (rd_neq_t rfl rfl rfl (by omega)) ?_ | refine RA rfl rfl (by decide) (rd_neq_f rfl rfl rfl (by omega)) ?_ | refine RA rfl rfl (by decide) (rd_neq rfl rfl rfl) ?_
  refine al_nil ?_
  repeat with_reducible first | refine S1 ?_ | refine S2 ?_ | refine S3 ?_ | refine S4 ?_ | refine S5 ?_ | refine S6 ?_ | refine S7 ?_ | refine S8 ?_ | refine S9 rfl ?_ | refine SA ?_ | refine SB ?_ | refine SC ?_
  refine aw_if rfl (fun hne => ?_) (fun heq => ?_)
  · repeat with_reducible first | refine S1 ?_ | refine S2 ?_ | refine S3 ?_ | refine S4 ?_ | refine S5 ?_ | refine S6 ?_ | refine S7 ?_ | refine S8 ?_ | refine S9 rfl ?_ | refine SA ?_ | refine SB ?_ | refine SC ?_
    refine aw_region ?_
    refine RA rfl rfl (by decide) (rd_move rfl rfl) ?_
    refine RA rfl rfl (by decide) (rd_assign rfl rfl) ?_
    refine al_nil ?_
    repeat with_reducible first | refine S1 ?_ | refine S2 ?_ | refine S3 ?_ | refine S4 ?_ | refine S5 ?_ | refine S6 ?_ | refine S7 ?_ | refine S8 ?_ | refine S9 rfl ?_ | refine SA ?_ | refine SB ?_ | refine SC ?_
    exact aret_1 [] _ rfl rfl rfl (by decide) (fun _ hi => absurd hi (Nat.not_lt_zero _)) (by intro _g; (repeat first | exact K0 | apply K1 rfl | apply K2 rfl rfl | apply K2 rfl (by simp) | apply K3 | exact L0 | apply L1 | exact V1 rfl | exact V2 rfl | exact V3 rfl rfl | exact V4 | exact V5 rfl | exact V3 rfl (by simp; omega) | exact V1 (by simp; omega) | exact V3 rfl (by simp) | exact V1 (by simp) | exact V6 rfl rfl (by first | rfl | simp) (by simp) rfl | apply V7 | apply V8 | apply V9); fail_if_success focus skip) ⟨by rw [cornersF, if_pos hne], rfl⟩
  have h0 : legsF l = 0 := by omega
  have h1 := (legsF_ok h0).1
  repeat with_reducible first | refine S1 ?_ | refine S2 ?_ | refine S3 ?_ | refine S4 ?_ | refine S5 ?_ | refine S6 ?_ | refine S7 ?_ | refine S8 ?_ | refine S9 rfl ?_ | refine SA ?_ | refine SB ?_ | refine SC ?_
  repeat with_reducible first | refine S1 ?_ | refine S2 ?_ | refine S3 ?_ | refine S4 ?_ | refine S5 ?_ | refine S6 ?_ | refine S7 ?_ | refine S8 ?_ | refine S9 rfl ?_ | refine SA ?_ | refine SB ?_ | refine SC ?_
  refine aw_region ?_
  refine RA rfl rfl (by decide) (rd_move rfl rfl) ?_
  first | refine RA rfl rfl (by decide) (rd_len rfl Te22 rfl) ?_ | refine RA rfl rfl (by decide) (rd_lenr rfl Te22 rfl) ?_
  refine RA rfl rfl (by decide) (rd_move rfl rfl) ?_
  first | refine RA rfl rfl (by decide) (rd_len rfl Te54 rfl) ?_ | refine RA rfl rfl (by decide) (rd_lenr rfl Te54 rfl) ?_
  first | refine RA rfl rfl (by decide) (rd_subn rfl rfl rfl (by omega)) ?_ | refine RA rfl rfl (by decide) (rd_sub rfl rfl rfl) ?_
  first | refine RA rfl rfl (by decide) (rd_neq_t rfl rfl rfl (by omega)) ?_ | refine RA rfl rfl (by decide) (rd_neq_f rfl rfl rfl (by omega)) ?_ | refine RA rfl rfl (by decide) (rd_neq rfl rfl rfl) ?_
  refine al_nil ?_
  repeat with_reducible first | refine S1 ?_ | refine S2 ?_ | refine S3 ?_ | refine S4 ?_ | refine S5 ?_ | refine S6 ?_ | refine S7 ?_ | refine S8 ?_ | refine S9 rfl ?_ | refine SA ?_ | refine SB ?_ | refine SC ?_
  refine aw_if rfl (fun hne => ?_) (fun hlen => ?_)
  · repeat with_reducible first | refine S1 ?_ | refine S2 ?_ | refine S3 ?_ | refine S4 ?_ | refine S5 ?_ | refine S6 ?_ | refine S7 ?_ | refine S8 ?_ | refine S9 rfl ?_ | refine SA ?_ | refine SB ?_ | refine SC ?_
    refine aw_region ?_
    refine RA rfl rfl (by decide) (rd_assign rfl rfl) ?_
    refine al_nil ?_
    repeat with_reducible first | refine S1 ?_ | refine S2 ?_ | refine S3 ?_ | refine S4 ?_ | refine S5 ?_ | refine S6 ?_ | refine S7 ?_ | refine S8 ?_ | refine S9 rfl ?_ | refine SA ?_ | refine SB ?_ | refine SC ?_
    exact aret_1 [] _ rfl rfl rfl (by decide) (fun _ hi => absurd hi (Nat.not_lt_zero _)) (by intro _g; (repeat first | exact K0 | apply K1 rfl | apply K2 rfl rfl | apply K2 rfl (by simp) | apply K3 | exact L0 | apply L1 | exact V1 rfl | exact V2 rfl | exact V3 rfl rfl | exact V4 | exact V5 rfl | exact V3 rfl (by simp; omega) | exact V1 (by simp; omega) | exact V3 rfl (by simp) | exact V1 (by simp) | exact V6 rfl rfl (by first | rfl | simp) (by simp) rfl | apply V7 | apply V8 | apply V9); fail_if_success focus skip) ⟨by rw [cornersF, if_neg (by omega), if_pos (by omega)], rfl⟩
  repeat with_reducible first | refine S1 ?_ | refine S2 ?_ | refine S3 ?_ | refine S4 ?_ | refine S5 ?_ | refine S6 ?_ | refine S7 ?_ | refine S8 ?_ | refine S9 rfl ?_ | refine SA ?_ | refine SB ?_ | refine SC ?_
  repeat with_reducible first | refine S1 ?_ | refine S2 ?_ | refine S3 ?_ | refine S4 ?_ | refine S5 ?_ | refine S6 ?_ | refine S7 ?_ | refine S8 ?_ | refine S9 rfl ?_ | refine SA ?_ | refine SB ?_ | refine SC ?_
  refine aw_region ?_
  refine RA rfl rfl (by decide) (rd_move rfl rfl) ?_
  refine al_ef rfl (ef_call0 false (fun _ => contains_a 157 cornerBad Tc157 cbad2_a cs w hc) rfl .fn rfl (by decide) Tc156 rfl (by intro _g; (repeat first | exact K0 | apply K1 rfl | apply K2 rfl rfl | apply K2 rfl (by simp) | apply K3 | exact L0 | apply L1 | exact V1 rfl | exact V2 rfl | exact V3 rfl rfl | exact V4 | exact V5 rfl | exact V3 rfl (by simp; omega) | exact V1 (by simp; omega) | exact V3 rfl (by simp) | exact V1 (by simp) | exact V6 rfl rfl (by first | rfl | simp) (by simp) rfl | apply V7 | apply V8 | apply V9); fail_if_success focus skip) (by simp)) ?_
  rintro _ _ ⟨_, _, _, ⟨rfl, rfl⟩, hF, hH⟩
  (try simp only [nsl, Nat.reduceAdd, Nat.reduceLT, Nat.reduceSub] at hF); (try simp only [nsl, Nat.reduceAdd, Nat.reduceLT, Nat.reduceSub] at hH); subst hF; subst hH
  refine al_nil ?_
  repeat with_reducible first | refine S1 ?_ | refine S2 ?_ | refine S3 ?_ | refine S4 ?_ | refine S5 ?_ | refine S6 ?_ | refine S7 ?_ | refine S8 ?_ | refine S9 rfl ?_ | refine SA ?_ | refine SB ?_ | refine SC ?_
  refine aw_cond rfl (fun hb => ?_) (fun hb => ?_)
  · repeat with_reducible first | refine S1 ?_ | refine S2 ?_ | refine S3 ?_ | refine S4 ?_ | refine S5 ?_ | refine S6 ?_ | refine S7 ?_ | refine S8 ?_ | refine S9 rfl ?_ | refine SA ?_ | refine SB ?_ | refine SC ?_
    refine aw_region ?_
    refine RA rfl rfl (by decide) (rd_assign rfl rfl) ?_
    refine al_nil ?_
    repeat with_reducible first | refine S1 ?_ | refine S2 ?_ | refine S3 ?_ | refine S4 ?_ | refine S5 ?_ | refine S6 ?_ | refine S7 ?_ | refine S8 ?_ | refine S9 rfl ?_ | refine SA ?_ | refine SB ?_ | refine SC ?_
    exact aret_1 [] _ rfl rfl rfl (by decide) (fun _ hi => absurd hi (Nat.not_lt_zero _)) (by intro _g; (repeat first | exact K0 | apply K1 rfl | apply K2 rfl rfl | apply K2 rfl (by simp) | apply K3 | exact L0 | apply L1 | exact V1 rfl | exact V2 rfl | exact V3 rfl rfl | exact V4 | exact V5 rfl | exact V3 rfl (by simp; omega) | exact V1 (by simp; omega) | exact V3 rfl (by simp) | exact V1 (by simp) | exact V6 rfl rfl (by first | rfl | simp) (by simp) rfl | apply V7 | apply V8 | apply V9); fail_if_success focus skip) ⟨by rw [cornersF, if_neg (by omega), if_neg (by omega), if_pos hb], rfl⟩
  · repeat with_reducible first | refine S1 ?_ | refine S2 ?_ | refine S3 ?_ | refine S4 ?_ | refine S5 ?_ | refine S6 ?_ | refine S7 ?_ | refine S8 ?_ | refine S9 rfl ?_ | refine SA ?_ | refine SB ?_ | refine SC ?_
    repeat with_reducible first | refine S1 ?_ | refine S2 ?_ | refine S3 ?_ | refine S4 ?_ | refine S5 ?_ | refine S6 ?_ | refine S7 ?_ | refine S8 ?_ | refine S9 rfl ?_ | refine SA ?_ | refine SB ?_ | refine SC ?_
    refine aw_region ?_
    refine RA rfl rfl (by decide) (rd_assign rfl rfl) ?_
    refine al_nil ?_
    repeat with_reducible first | refine S1 ?_ | refine S2 ?_ | refine S3 ?_ | refine S4 ?_ | refine S5 ?_ | refine S6 ?_ | refine S7 ?_ | refine S8 ?_ | refine S9 rfl ?_ | refine SA ?_ | refine SB ?_ | refine SC ?_
    exact aret_1 [] _ rfl rfl rfl (by decide) (fun _ hi => absurd hi (Nat.not_lt_zero _)) (by intro _g; (repeat first | exact K0 | apply K1 rfl | apply K2 rfl rfl | apply K2 rfl (by simp) | apply K3 | exact L0 | apply L1 | exact V1 rfl | exact V2 rfl | exact V3 rfl rfl | exact V4 | exact V5 rfl | exact V3 rfl (by simp; omega) | exact V1 (by simp; omega) | exact V3 rfl (by simp) | exact V1 (by simp) | exact V6 rfl rfl (by first | rfl | simp) (by simp) rfl | apply V7 | apply V8 | apply V9); fail_if_success focus skip) ⟨by rw [cornersF, if_neg (by omega), if_neg (by omega), if_neg (by simp [hb])], rfl⟩
theorem change1_a (n : Int) : ACalls Try.prog 146 [.c (I n)] [] fun u H => u = .c (I (changeF n)) ∧ H = [] := by
  refine acalls_of (N := 5) Try.func146 rfl rfl (by simp) fun E hE => ?_
  repeat' (first
    | (with_reducible refine aw_seq ?_) | (with_reducible refine aseq_n ?_) | (with_reducible refine aseq_r ?_) | (with_reducible refine ablk_n ?_) | (with_reducible refine ablk_r ?_) | (with_reducible refine ablk_e ?_) | (with_reducible refine ablk_o rfl ?_) | (with_reducible refine aseq_e ?_) | (with_reducible refine aw_skip ?_) | (with_reducible refine aw_block ?_) | (with_reducible refine aw_ret ?_) | (with_reducible refine aw_exit ?_)
    | refine aw_cond_t rfl ?_ | refine aw_cond_f rfl ?_ | refine aw_if_t rfl (by assumption) ?_ | refine aw_if_f rfl (by assumption) ?_ | refine aw_if rfl (fun _ => ?_) (fun _ => ?_) | refine aw_cond rfl (fun _ => ?_) (fun _ => ?_)
    | (refine aw_region (id := 0) ?_
       refine RA rfl rfl (by decide) (rd_assign rfl rfl) ?_
       refine al_nil ?_)
    | (refine aw_region (id := 1) ?_
       refine RA rfl rfl (by decide) (rd_move rfl rfl) ?_
       refine al_ef rfl (ef_call0 false (fun _ => outs_a _ _ _) rfl .fn rfl (by decide) Tc107 rfl (by intro _g; (repeat first | exact K0 | apply K1 rfl | apply K2 rfl rfl | apply K2 rfl (by simp) | apply K3 | exact L0 | apply L1 | exact V1 rfl | exact V2 rfl | exact V3 rfl rfl | exact V4 | exact V5 rfl | exact V3 rfl (by simp; omega) | exact V1 (by simp; omega) | exact V3 rfl (by simp) | exact V1 (by simp) | exact V6 rfl rfl (by first | rfl | simp) (by simp) rfl | apply V7 | apply V8 | apply V9); fail_if_success focus skip) (by simp)) ?_
       rintro _ _ ⟨_, _, _, ⟨bb, rfl, rfl, ⟨rfl, hb⟩ | ⟨rfl, hb⟩⟩, hF, hH⟩
       all_goals ((try simp only [nsl, Nat.reduceAdd, Nat.reduceLT, Nat.reduceSub] at hF); (try simp only [nsl, Nat.reduceAdd, Nat.reduceLT, Nat.reduceSub] at hH); subst hF; subst hH)
       all_goals (refine al_nil ?_))
    | (refine aw_region (id := 2) ?_
       refine RA rfl rfl (by decide) (rd_assign rfl rfl) ?_
       refine al_nil ?_)
    | (refine aw_region (id := 3) ?_
       refine RA rfl rfl (by decide) (rd_assign rfl rfl) ?_
       refine al_nil ?_))
  all_goals (refine aret_1 [] _ rfl rfl rfl (by decide) (fun _ hi => absurd hi (Nat.not_lt_zero _)) (by intro _g; (repeat first | exact K0 | apply K1 rfl | apply K2 rfl rfl | apply K2 rfl (by simp) | apply K3 | exact L0 | apply L1 | exact V1 rfl | exact V2 rfl | exact V3 rfl rfl | exact V4 | exact V5 rfl | exact V3 rfl (by simp; omega) | exact V1 (by simp; omega) | exact V3 rfl (by simp) | exact V1 (by simp) | exact V6 rfl rfl (by first | rfl | simp) (by simp) rfl | apply V7 | apply V8 | apply V9); fail_if_success focus skip) ⟨congrArg (fun z => AV.c (I z)) ?_, rfl⟩)
  all_goals (unfold changeF; first | rw [if_pos (by omega)] | rw [if_neg (by omega)])
theorem change2_a (n : Int) : ACalls Try.prog 78 [.c (I n)] [] fun u H => u = .c (I (changeF n)) ∧ H = [] := by
  refine acalls_of (N := 5) Try.func78 rfl rfl (by simp) fun E hE => ?_
  repeat' (first
    | (with_reducible refine aw_seq ?_) | (with_reducible refine aseq_n ?_) | (with_reducible refine aseq_r ?_) | (with_reducible refine ablk_n ?_) | (with_reducible refine ablk_r ?_) | (with_reducible refine ablk_e ?_) | (with_reducible refine ablk_o rfl ?_) | (with_reducible refine aseq_e ?_) | (with_reducible refine aw_skip ?_) | (with_reducible refine aw_block ?_) | (with_reducible refine aw_ret ?_) | (with_reducible refine aw_exit ?_)
    | refine aw_cond_t rfl ?_ | refine aw_cond_f rfl ?_ | refine aw_if_t rfl (by assumption) ?_ | refine aw_if_f rfl (by assumption) ?_ | refine aw_if rfl (fun _ => ?_) (fun _ => ?_) | refine aw_cond rfl (fun _ => ?_) (fun _ => ?_)
    | (refine aw_region (id := 0) ?_
       refine RA rfl rfl (by decide) (rd_assign rfl rfl) ?_
       refine al_nil ?_)
    | (refine aw_region (id := 1) ?_
       refine RA rfl rfl (by decide) (rd_move rfl rfl) ?_
       refine al_ef rfl (ef_call0 false (fun _ => span_a _ _ _) rfl .fn rfl (by decide) Tc111 rfl (by intro _g; (repeat first | exact K0 | apply K1 rfl | apply K2 rfl rfl | apply K2 rfl (by simp) | apply K3 | exact L0 | apply L1 | exact V1 rfl | exact V2 rfl | exact V3 rfl rfl | exact V4 | exact V5 rfl | exact V3 rfl (by simp; omega) | exact V1 (by simp; omega) | exact V3 rfl (by simp) | exact V1 (by simp) | exact V6 rfl rfl (by first | rfl | simp) (by simp) rfl | apply V7 | apply V8 | apply V9); fail_if_success focus skip) (by simp)) ?_
       rintro _ _ ⟨_, _, _, ⟨rfl, rfl⟩, hF, hH⟩
       (try simp only [nsl, Nat.reduceAdd, Nat.reduceLT, Nat.reduceSub] at hF); (try simp only [nsl, Nat.reduceAdd, Nat.reduceLT, Nat.reduceSub] at hH); subst hF; subst hH
       refine RA rfl rfl (by decide) (rd_assign rfl rfl) ?_
       refine al_nil ?_))
  exact aret_1 [] _ rfl rfl rfl (by decide) (fun _ hi => absurd hi (Nat.not_lt_zero _)) (by intro _g; (repeat first | exact K0 | apply K1 rfl | apply K2 rfl rfl | apply K2 rfl (by simp) | apply K3 | exact L0 | apply L1 | exact V1 rfl | exact V2 rfl | exact V3 rfl rfl | exact V4 | exact V5 rfl | exact V3 rfl (by simp; omega) | exact V1 (by simp; omega) | exact V3 rfl (by simp) | exact V1 (by simp) | exact V6 rfl rfl (by first | rfl | simp) (by simp) rfl | apply V7 | apply V8 | apply V9); fail_if_success focus skip) ⟨rfl, rfl⟩
theorem fault1_a (l : List Leg) (cs : List Int) (ch : Int) (v w : Value) (hl : l.length ≤ 1000000000) (hc : cs.length ≤ 1000000000) : ACalls Try.prog 102 [.c (legs_r v l), .c (ints_r w cs), .c (I ch)] [] fun u H => u = .c (I (faultL l cs ch)) ∧ H = [] := by
  refine acalls_of (N := 16) Try.func102 rfl rfl (by simp) fun E hE => ?_
  repeat with_reducible first | refine S1 ?_ | refine S2 ?_ | refine S3 ?_ | refine S4 ?_ | refine S5 ?_ | refine S6 ?_ | refine S7 ?_ | refine S8 ?_ | refine S9 rfl ?_ | refine SA ?_ | refine SB ?_ | refine SC ?_
  refine aw_region ?_
  refine RA rfl rfl (by decide) (rd_assign rfl rfl) ?_
  refine al_nil ?_
  repeat with_reducible first | refine S1 ?_ | refine S2 ?_ | refine S3 ?_ | refine S4 ?_ | refine S5 ?_ | refine S6 ?_ | refine S7 ?_ | refine S8 ?_ | refine S9 rfl ?_ | refine SA ?_ | refine SB ?_ | refine SC ?_
  refine aw_region ?_
  refine RA rfl rfl (by decide) (rd_move rfl rfl) ?_
  refine RA rfl rfl (by decide) (rd_move rfl rfl) ?_
  refine al_ef rfl (ef_call0 false (fun _ => corners1_a l cs v w hl hc) rfl .fn rfl (by decide) Tc147 rfl (by intro _g; (repeat first | exact K0 | apply K1 rfl | apply K2 rfl rfl | apply K2 rfl (by simp) | apply K3 | exact L0 | apply L1 | exact V1 rfl | exact V2 rfl | exact V3 rfl rfl | exact V4 | exact V5 rfl | exact V3 rfl (by simp; omega) | exact V1 (by simp; omega) | exact V3 rfl (by simp) | exact V1 (by simp) | exact V6 rfl rfl (by first | rfl | simp) (by simp) rfl | apply V7 | apply V8 | apply V9); fail_if_success focus skip) (by simp)) ?_
  rintro _ _ ⟨_, _, _, ⟨rfl, rfl⟩, hF, hH⟩
  (try simp only [nsl, Nat.reduceAdd, Nat.reduceLT, Nat.reduceSub] at hF); (try simp only [nsl, Nat.reduceAdd, Nat.reduceLT, Nat.reduceSub] at hH); subst hF; subst hH
  refine RA rfl rfl (by decide) (rd_assign rfl rfl) ?_
  refine al_nil ?_
  repeat with_reducible first | refine S1 ?_ | refine S2 ?_ | refine S3 ?_ | refine S4 ?_ | refine S5 ?_ | refine S6 ?_ | refine S7 ?_ | refine S8 ?_ | refine S9 rfl ?_ | refine SA ?_ | refine SB ?_ | refine SC ?_
  refine aw_region ?_
  refine RA rfl rfl (by decide) (rd_move rfl rfl) ?_
  first | refine RA rfl rfl (by decide) (rd_neq_t rfl rfl rfl (by omega)) ?_ | refine RA rfl rfl (by decide) (rd_neq_f rfl rfl rfl (by omega)) ?_ | refine RA rfl rfl (by decide) (rd_neq rfl rfl rfl) ?_
  refine al_nil ?_
  repeat with_reducible first | refine S1 ?_ | refine S2 ?_ | refine S3 ?_ | refine S4 ?_ | refine S5 ?_ | refine S6 ?_ | refine S7 ?_ | refine S8 ?_ | refine S9 rfl ?_ | refine SA ?_ | refine SB ?_ | refine SC ?_
  refine aw_if rfl (fun hne => ?_) (fun heq => ?_)
  · repeat with_reducible first | refine S1 ?_ | refine S2 ?_ | refine S3 ?_ | refine S4 ?_ | refine S5 ?_ | refine S6 ?_ | refine S7 ?_ | refine S8 ?_ | refine S9 rfl ?_ | refine SA ?_ | refine SB ?_ | refine SC ?_
    refine aw_region ?_
    refine RA rfl rfl (by decide) (rd_move rfl rfl) ?_
    refine RA rfl rfl (by decide) (rd_assign rfl rfl) ?_
    refine al_nil ?_
    repeat with_reducible first | refine S1 ?_ | refine S2 ?_ | refine S3 ?_ | refine S4 ?_ | refine S5 ?_ | refine S6 ?_ | refine S7 ?_ | refine S8 ?_ | refine S9 rfl ?_ | refine SA ?_ | refine SB ?_ | refine SC ?_
    exact aret_1 [] _ rfl rfl rfl (by decide) (fun _ hi => absurd hi (Nat.not_lt_zero _)) (by intro _g; (repeat first | exact K0 | apply K1 rfl | apply K2 rfl rfl | apply K2 rfl (by simp) | apply K3 | exact L0 | apply L1 | exact V1 rfl | exact V2 rfl | exact V3 rfl rfl | exact V4 | exact V5 rfl | exact V3 rfl (by simp; omega) | exact V1 (by simp; omega) | exact V3 rfl (by simp) | exact V1 (by simp) | exact V6 rfl rfl (by first | rfl | simp) (by simp) rfl | apply V7 | apply V8 | apply V9); fail_if_success focus skip) ⟨by rw [faultL, if_pos hne], rfl⟩
  repeat with_reducible first | refine S1 ?_ | refine S2 ?_ | refine S3 ?_ | refine S4 ?_ | refine S5 ?_ | refine S6 ?_ | refine S7 ?_ | refine S8 ?_ | refine S9 rfl ?_ | refine SA ?_ | refine SB ?_ | refine SC ?_
  repeat with_reducible first | refine S1 ?_ | refine S2 ?_ | refine S3 ?_ | refine S4 ?_ | refine S5 ?_ | refine S6 ?_ | refine S7 ?_ | refine S8 ?_ | refine S9 rfl ?_ | refine SA ?_ | refine SB ?_ | refine SC ?_
  refine aw_region ?_
  refine RA rfl rfl (by decide) (rd_move rfl rfl) ?_
  refine al_ef rfl (ef_call0 false (fun _ => change1_a _) rfl .fn rfl (by decide) Tc146 rfl (by intro _g; (repeat first | exact K0 | apply K1 rfl | apply K2 rfl rfl | apply K2 rfl (by simp) | apply K3 | exact L0 | apply L1 | exact V1 rfl | exact V2 rfl | exact V3 rfl rfl | exact V4 | exact V5 rfl | exact V3 rfl (by simp; omega) | exact V1 (by simp; omega) | exact V3 rfl (by simp) | exact V1 (by simp) | exact V6 rfl rfl (by first | rfl | simp) (by simp) rfl | apply V7 | apply V8 | apply V9); fail_if_success focus skip) (by simp)) ?_
  rintro _ _ ⟨_, _, _, ⟨rfl, rfl⟩, hF, hH⟩
  (try simp only [nsl, Nat.reduceAdd, Nat.reduceLT, Nat.reduceSub] at hF); (try simp only [nsl, Nat.reduceAdd, Nat.reduceLT, Nat.reduceSub] at hH); subst hF; subst hH
  refine RA rfl rfl (by decide) (rd_assign rfl rfl) ?_
  refine al_nil ?_
  repeat with_reducible first | refine S1 ?_ | refine S2 ?_ | refine S3 ?_ | refine S4 ?_ | refine S5 ?_ | refine S6 ?_ | refine S7 ?_ | refine S8 ?_ | refine S9 rfl ?_ | refine SA ?_ | refine SB ?_ | refine SC ?_
  exact aret_1 [] _ rfl rfl rfl (by decide) (fun _ hi => absurd hi (Nat.not_lt_zero _)) (by intro _g; (repeat first | exact K0 | apply K1 rfl | apply K2 rfl rfl | apply K2 rfl (by simp) | apply K3 | exact L0 | apply L1 | exact V1 rfl | exact V2 rfl | exact V3 rfl rfl | exact V4 | exact V5 rfl | exact V3 rfl (by simp; omega) | exact V1 (by simp; omega) | exact V3 rfl (by simp) | exact V1 (by simp) | exact V6 rfl rfl (by first | rfl | simp) (by simp) rfl | apply V7 | apply V8 | apply V9); fail_if_success focus skip) ⟨by rw [faultL, if_neg heq], rfl⟩
def oneF (x : Leg) (ch : Int) : Int := if legBad x then 1 else changeF ch
theorem one_a (x : Leg) (ch : Int) : ACalls Try.prog 106 [.a (x.row.map .c), .c (I ch)] [] fun u H => u = .c (I (oneF x ch)) ∧ H = [] := by
  refine acalls_of (N := 13) Try.func106 rfl rfl (by simp) fun E hE => ?_
  repeat with_reducible first | refine S1 ?_ | refine S2 ?_ | refine S3 ?_ | refine S4 ?_ | refine S5 ?_ | refine S6 ?_ | refine S7 ?_ | refine S8 ?_ | refine S9 rfl ?_ | refine SA ?_ | refine SB ?_ | refine SC ?_
  refine aw_region ?_
  refine EA rfl (ef_boxn rfl rfl (by decide) rfl (by (try simp only [nm, putL, Nat.reduceAdd, cellsOf, cvOf]) <;> rfl) rfl (by (try simp only [nm, putL, Nat.reduceAdd, cellsOf, cvOf]) <;> rfl) (by (try simp only [nm, putL, Nat.reduceAdd, cellsOf, cvOf]) <;> rfl)) ?_
  refine RA rfl rfl (by decide) (rd_assign rfl rfl) ?_
  refine al_nil ?_
  repeat with_reducible first | refine S1 ?_ | refine S2 ?_ | refine S3 ?_ | refine S4 ?_ | refine S5 ?_ | refine S6 ?_ | refine S7 ?_ | refine S8 ?_ | refine S9 rfl ?_ | refine SA ?_ | refine SB ?_ | refine SC ?_
  refine aw_region ?_
  refine RA rfl rfl (by decide) (rd_loadn rfl Tk64 rfl (by first | exact CB rfl | exact CQ | exact CA rfl (by first | assumption | (rw [Nat.zero_add]; assumption))) (by (try simp only [nm, putL, Nat.reduceAdd, cellsOf, cvOf]) <;> rfl) (by simp)) ?_
  refine al_ef rfl (ef_call0 false (fun _ => legfault_a x) rfl .fn rfl (by decide) Tc119 rfl (by intro _g; (repeat first | exact K0 | apply K1 rfl | apply K2 rfl rfl | apply K2 rfl (by simp) | apply K3 | exact L0 | apply L1 | exact V1 rfl | exact V2 rfl | exact V3 rfl rfl | exact V4 | exact V5 rfl | exact V3 rfl (by simp; omega) | exact V1 (by simp; omega) | exact V3 rfl (by simp) | exact V1 (by simp) | exact V6 rfl rfl (by first | rfl | simp) (by simp) rfl | apply V7 | apply V8 | apply V9); fail_if_success focus skip) (by simp)) ?_
  rintro _ _ ⟨_, _, _, ⟨rfl, rfl⟩, hF, hH⟩
  (try simp only [nsl, Nat.reduceAdd, Nat.reduceLT, Nat.reduceSub] at hF); (try simp only [nsl, Nat.reduceAdd, Nat.reduceLT, Nat.reduceSub] at hH); subst hF; subst hH
  refine RA rfl rfl (by decide) (rd_assign rfl rfl) ?_
  refine al_nil ?_
  repeat with_reducible first | refine S1 ?_ | refine S2 ?_ | refine S3 ?_ | refine S4 ?_ | refine S5 ?_ | refine S6 ?_ | refine S7 ?_ | refine S8 ?_ | refine S9 rfl ?_ | refine SA ?_ | refine SB ?_ | refine SC ?_
  refine aw_region ?_
  refine RA rfl rfl (by decide) (rd_move rfl rfl) ?_
  first | refine RA rfl rfl (by decide) (rd_neq_t rfl rfl rfl (by omega)) ?_ | refine RA rfl rfl (by decide) (rd_neq_f rfl rfl rfl (by omega)) ?_ | refine RA rfl rfl (by decide) (rd_neq rfl rfl rfl) ?_
  refine al_nil ?_
  repeat with_reducible first | refine S1 ?_ | refine S2 ?_ | refine S3 ?_ | refine S4 ?_ | refine S5 ?_ | refine S6 ?_ | refine S7 ?_ | refine S8 ?_ | refine S9 rfl ?_ | refine SA ?_ | refine SB ?_ | refine SC ?_
  refine aw_if rfl (fun hne => ?_) (fun heq => ?_)
  · have hb : legBad x = true := by cases h : legBad x <;> simp_all
    repeat with_reducible first | refine S1 ?_ | refine S2 ?_ | refine S3 ?_ | refine S4 ?_ | refine S5 ?_ | refine S6 ?_ | refine S7 ?_ | refine S8 ?_ | refine S9 rfl ?_ | refine SA ?_ | refine SB ?_ | refine SC ?_
    refine aw_region ?_
    refine RA rfl rfl (by decide) (rd_move rfl rfl) ?_
    refine RA rfl rfl (by decide) (rd_assign rfl rfl) ?_
    refine al_nil ?_
    repeat with_reducible first | refine S1 ?_ | refine S2 ?_ | refine S3 ?_ | refine S4 ?_ | refine S5 ?_ | refine S6 ?_ | refine S7 ?_ | refine S8 ?_ | refine S9 rfl ?_ | refine SA ?_ | refine SB ?_ | refine SC ?_
    exact aret_1 [] _ rfl rfl rfl (by decide) (fun _ hi => absurd hi (Nat.not_lt_zero _)) (by intro _g; (repeat first | exact K0 | apply K1 rfl | apply K2 rfl rfl | apply K2 rfl (by simp) | apply K3 | exact L0 | apply L1 | exact V1 rfl | exact V2 rfl | exact V3 rfl rfl | exact V4 | exact V5 rfl | exact V3 rfl (by simp; omega) | exact V1 (by simp; omega) | exact V3 rfl (by simp) | exact V1 (by simp) | exact V6 rfl rfl (by first | rfl | simp) (by simp) rfl | apply V7 | apply V8 | apply V9); fail_if_success focus skip) ⟨by rw [oneF, hb]; rfl, rfl⟩
  have hb : legBad x = false := by cases h : legBad x <;> simp_all
  repeat with_reducible first | refine S1 ?_ | refine S2 ?_ | refine S3 ?_ | refine S4 ?_ | refine S5 ?_ | refine S6 ?_ | refine S7 ?_ | refine S8 ?_ | refine S9 rfl ?_ | refine SA ?_ | refine SB ?_ | refine SC ?_
  repeat with_reducible first | refine S1 ?_ | refine S2 ?_ | refine S3 ?_ | refine S4 ?_ | refine S5 ?_ | refine S6 ?_ | refine S7 ?_ | refine S8 ?_ | refine S9 rfl ?_ | refine SA ?_ | refine SB ?_ | refine SC ?_
  refine aw_region ?_
  refine RA rfl rfl (by decide) (rd_move rfl rfl) ?_
  refine al_ef rfl (ef_call0 false (fun _ => change1_a _) rfl .fn rfl (by decide) Tc146 rfl (by intro _g; (repeat first | exact K0 | apply K1 rfl | apply K2 rfl rfl | apply K2 rfl (by simp) | apply K3 | exact L0 | apply L1 | exact V1 rfl | exact V2 rfl | exact V3 rfl rfl | exact V4 | exact V5 rfl | exact V3 rfl (by simp; omega) | exact V1 (by simp; omega) | exact V3 rfl (by simp) | exact V1 (by simp) | exact V6 rfl rfl (by first | rfl | simp) (by simp) rfl | apply V7 | apply V8 | apply V9); fail_if_success focus skip) (by simp)) ?_
  rintro _ _ ⟨_, _, _, ⟨rfl, rfl⟩, hF, hH⟩
  (try simp only [nsl, Nat.reduceAdd, Nat.reduceLT, Nat.reduceSub] at hF); (try simp only [nsl, Nat.reduceAdd, Nat.reduceLT, Nat.reduceSub] at hH); subst hF; subst hH
  refine RA rfl rfl (by decide) (rd_assign rfl rfl) ?_
  refine al_nil ?_
  repeat with_reducible first | refine S1 ?_ | refine S2 ?_ | refine S3 ?_ | refine S4 ?_ | refine S5 ?_ | refine S6 ?_ | refine S7 ?_ | refine S8 ?_ | refine S9 rfl ?_ | refine SA ?_ | refine SB ?_ | refine SC ?_
  exact aret_1 [] _ rfl rfl rfl (by decide) (fun _ hi => absurd hi (Nat.not_lt_zero _)) (by intro _g; (repeat first | exact K0 | apply K1 rfl | apply K2 rfl rfl | apply K2 rfl (by simp) | apply K3 | exact L0 | apply L1 | exact V1 rfl | exact V2 rfl | exact V3 rfl rfl | exact V4 | exact V5 rfl | exact V3 rfl (by simp; omega) | exact V1 (by simp; omega) | exact V3 rfl (by simp) | exact V1 (by simp) | exact V6 rfl rfl (by first | rfl | simp) (by simp) rfl | apply V7 | apply V8 | apply V9); fail_if_success focus skip) ⟨by rw [oneF, hb]; rfl, rfl⟩
/-- The error of legs, corners and a change, as the law asks for it. -/
theorem legsfaultlaw_a (l : List Leg) (cs : List Int) (ch : Int) (v w : Value) (hl : l.length ≤ 1000000000) (hc : cs.length ≤ 1000000000) : ACalls Try.prog 34 [.c (legs_r v l), .c (ints_r w cs), .c (I ch)] [] fun u H => u = .c (I (faultL l cs ch)) ∧ H = [] := by
  refine acalls_of (N := 14) Try.func34 rfl rfl (by simp) fun E hE => ?_
  repeat with_reducible first | refine S1 ?_ | refine S2 ?_ | refine S3 ?_ | refine S4 ?_ | refine S5 ?_ | refine S6 ?_ | refine S7 ?_ | refine S8 ?_ | refine S9 rfl ?_ | refine SA ?_ | refine SB ?_ | refine SC ?_
  refine aw_region ?_
  refine RA rfl rfl (by decide) (rd_assign rfl rfl) ?_
  refine al_nil ?_
  repeat with_reducible first | refine S1 ?_ | refine S2 ?_ | refine S3 ?_ | refine S4 ?_ | refine S5 ?_ | refine S6 ?_ | refine S7 ?_ | refine S8 ?_ | refine S9 rfl ?_ | refine SA ?_ | refine SB ?_ | refine SC ?_
  refine aw_region ?_
  refine RA rfl rfl (by decide) (rd_move rfl rfl) ?_
  refine RA rfl rfl (by decide) (rd_move rfl rfl) ?_
  refine al_ef rfl (ef_call0 false (fun _ => corners2_a l cs v w hl hc) rfl .fn rfl (by decide) Tc80 rfl (by intro _g; (repeat first | exact K0 | apply K1 rfl | apply K2 rfl rfl | apply K2 rfl (by simp) | apply K3 | exact L0 | apply L1 | exact V1 rfl | exact V2 rfl | exact V3 rfl rfl | exact V4 | exact V5 rfl | exact V3 rfl (by simp; omega) | exact V1 (by simp; omega) | exact V3 rfl (by simp) | exact V1 (by simp) | exact V6 rfl rfl (by first | rfl | simp) (by simp) rfl | apply V7 | apply V8 | apply V9); fail_if_success focus skip) (by simp)) ?_
  rintro _ _ ⟨_, _, _, ⟨rfl, rfl⟩, hF, hH⟩
  (try simp only [nsl, Nat.reduceAdd, Nat.reduceLT, Nat.reduceSub] at hF); (try simp only [nsl, Nat.reduceAdd, Nat.reduceLT, Nat.reduceSub] at hH); subst hF; subst hH
  refine RA rfl rfl (by decide) (rd_move rfl rfl) ?_
  refine al_ef rfl (ef_call0 false (fun _ => change2_a _) rfl .fn rfl (by decide) Tc78 rfl (by intro _g; (repeat first | exact K0 | apply K1 rfl | apply K2 rfl rfl | apply K2 rfl (by simp) | apply K3 | exact L0 | apply L1 | exact V1 rfl | exact V2 rfl | exact V3 rfl rfl | exact V4 | exact V5 rfl | exact V3 rfl (by simp; omega) | exact V1 (by simp; omega) | exact V3 rfl (by simp) | exact V1 (by simp) | exact V6 rfl rfl (by first | rfl | simp) (by simp) rfl | apply V7 | apply V8 | apply V9); fail_if_success focus skip) (by simp)) ?_
  rintro _ _ ⟨_, _, _, ⟨rfl, rfl⟩, hF, hH⟩
  (try simp only [nsl, Nat.reduceAdd, Nat.reduceLT, Nat.reduceSub] at hF); (try simp only [nsl, Nat.reduceAdd, Nat.reduceLT, Nat.reduceSub] at hH); subst hF; subst hH
  refine EA rfl (ef_buildSlicen rfl rfl (by decide) Te80 (.cons rfl rfl (.cons rfl rfl (.nil _))) rfl Tz28 rfl rfl (by simp) (by simp) (by (try simp only [nm, putL, Nat.reduceAdd, cellsOf, cvOf]) <;> rfl) (by (try simp only [nm, putL, Nat.reduceAdd, cellsOf, cvOf]) <;> rfl)) ?_
  refine al_ef rfl (ef_call0 true (fun _ => errsk_a [cornersF l cs, changeF ch] _ (by simp)) rfl .fn rfl (by decide) Tc19 rfl (fun _g => .cons (.frz rfl rfl rfl rfl rfl) .nil) (fun _ _ _ _ ⟨hu, hH⟩ => by rw [hu, hH]; exact ⟨.c (.inl trivial), by simp⟩)) ?_
  rintro _ _ ⟨_, _, _, ⟨rfl, rfl⟩, hF, hH⟩
  (try simp only [nsl, Nat.reduceAdd, Nat.reduceLT, Nat.reduceSub] at hF); (try simp only [nsl, Nat.reduceAdd, Nat.reduceLT, Nat.reduceSub] at hH); subst hF; subst hH
  refine RA rfl rfl (by decide) (rd_assign rfl rfl) ?_
  refine al_nil ?_
  repeat with_reducible first | refine S1 ?_ | refine S2 ?_ | refine S3 ?_ | refine S4 ?_ | refine S5 ?_ | refine S6 ?_ | refine S7 ?_ | refine S8 ?_ | refine S9 rfl ?_ | refine SA ?_ | refine SB ?_ | refine SC ?_
  refine aret_1 [] _ rfl rfl rfl (by decide) (fun _ hi => absurd hi (Nat.not_lt_zero _)) (by intro _g; (repeat first | exact K0 | apply K1 rfl | apply K2 rfl rfl | apply K2 rfl (by simp) | apply K3 | exact L0 | apply L1 | exact V1 rfl | exact V2 rfl | exact V3 rfl rfl | exact V4 | exact V5 rfl | exact V3 rfl (by simp; omega) | exact V1 (by simp; omega) | exact V3 rfl (by simp) | exact V1 (by simp) | exact V6 rfl rfl (by first | rfl | simp) (by simp) rfl | apply V7 | apply V8 | apply V9); fail_if_success focus skip) ⟨congrArg (fun z => AV.c (I z)) ?_, rfl⟩
  simp only [firstK, faultL, changeF]
  split <;> first | rfl | (split <;> first | rfl | (simp_all; done))
end Go.Proofs.Ytpbedckdnoogpaa
