/- The document's fault of Exact, by value. -/
import Derived.Test.YtpbedckdnoogpaaMg
set_option linter.unusedSimpArgs false
set_option linter.unusedVariables false
namespace Go.Proofs.Ytpbedckdnoogpaa
open Go Go.RowKit
set_option maxRecDepth 100000
theorem first4_eq (f t : Int) (x : Leg) (ch : Int) : firstK [legsF [x], changeF ch, spanF f 0 x.limit, spanF t 0 x.limit] = if oneF x ch ≠ 0 then oneF x ch else if 0 ≤ f ∧ f ≤ x.limit ∧ 0 ≤ t ∧ t ≤ x.limit then 0 else 1 := by
  have hl : legsF [x] = if legBad x then 1 else 0 := by simp [legsF]
  rw [hl]
  unfold oneF changeF spanF
  simp only [firstK]
  cases legBad x
  · by_cases h1 : 1 ≤ ch ∧ ch ≤ 10000000
    · by_cases h2 : 0 ≤ f ∧ f ≤ x.limit
      · by_cases h3 : 0 ≤ t ∧ t ≤ x.limit
        · simp [h1, h2, h3]
        · have : ¬ (0 ≤ f ∧ f ≤ x.limit ∧ 0 ≤ t ∧ t ≤ x.limit) := fun h => h3 h.2.2
          simp [h1, h2, h3]
      · have : ¬ (0 ≤ f ∧ f ≤ x.limit ∧ 0 ≤ t ∧ t ≤ x.limit) := fun h => h2 ⟨h.1, h.2.1⟩
        rw [if_neg h2, if_neg this]; simp [h1]
    · simp [h1]
  · simp
theorem exactfault_a (f t : Int) (x : Leg) (ch : Int) : ACalls Try.prog 35 [.c (I f), .c (I t), .a (x.row.map .c), .c (I ch)] [] fun u H => u = .c (I (exactV f t x ch)) ∧ H = [] := by
  refine acalls_of (N := 42) Try.func35 rfl rfl (by simp) fun E hE => ?_
  have hfe := first4_eq f t x ch
  repeat with_reducible first | refine S1 ?_ | refine S2 ?_ | refine S3 ?_ | refine S4 ?_ | refine S5 ?_ | refine S6 ?_ | refine S7 ?_ | refine S8 ?_ | refine S9 rfl ?_ | refine SA ?_ | refine SB ?_ | refine SC ?_
  refine aw_region ?_
  refine EA rfl (ef_boxn rfl rfl (by decide) rfl (by (try simp only [nm, putL, Nat.reduceAdd, cellsOf, cvOf]) <;> rfl) rfl (by (try simp only [nm, putL, Nat.reduceAdd, cellsOf, cvOf]) <;> rfl) (by (try simp only [nm, putL, Nat.reduceAdd, cellsOf, cvOf]) <;> rfl)) ?_
  refine RA rfl rfl (by decide) (rd_assign rfl rfl) ?_
  refine al_nil ?_
  repeat with_reducible first | refine S1 ?_ | refine S2 ?_ | refine S3 ?_ | refine S4 ?_ | refine S5 ?_ | refine S6 ?_ | refine S7 ?_ | refine S8 ?_ | refine S9 rfl ?_ | refine SA ?_ | refine SB ?_ | refine SC ?_
  refine aw_regionT [(0, none), (3, none), (5, none), (6, none), (7, none), (9, none), (10, none), (11, none), (1, some [3, 5, 6, 7, 9, 10, 11]), (2, some [3, 5, 6, 7, 9, 10, 11]), (4, some [5, 6, 7, 9, 10, 11]), (8, some [9, 10, 11]), (12, some []), (13, some []), (14, some []), (15, none)] hMixed (by kernel_rfl) ?_
  refine RT rfl rfl rfl (by decide) (rd_loadn rfl Tk64 rfl (by first | exact CB rfl | exact CQ | exact CA rfl (by first | assumption | (rw [Nat.zero_add]; assumption))) (by (try simp only [nm, putL, Nat.reduceAdd, cellsOf, cvOf]) <;> rfl) (by simp)) ?_
  refine RT rfl rfl rfl (by decide) (rd_move rfl rfl) ?_
  refine RT rfl rfl rfl (by decide) (rd_move rfl rfl) ?_
  first | refine RT rfl rfl rfl (by decide) (rd_field rfl rfl Tf64_1) ?_ | refine RT rfl rfl rfl (by decide) (rd_fieldq rfl rfl Tf64_1) ?_
  refine RT rfl rfl rfl (by decide) (rd_loadn1 rfl Tk3 rfl (by first | exact CB rfl | exact CQ | exact CA rfl (by first | assumption | (rw [Nat.zero_add]; assumption))) (by (try simp only [nm, putL, Nat.reduceAdd, cellsOf, cvOf]) <;> rfl)) ?_
  refine RT rfl rfl rfl (by decide) (rd_move rfl rfl) ?_
  first | refine RT rfl rfl rfl (by decide) (rd_field rfl rfl Tf64_1) ?_ | refine RT rfl rfl rfl (by decide) (rd_fieldq rfl rfl Tf64_1) ?_
  refine RT rfl rfl rfl (by decide) (rd_loadn1 rfl Tk3 rfl (by first | exact CB rfl | exact CQ | exact CA rfl (by first | assumption | (rw [Nat.zero_add]; assumption))) (by (try simp only [nm, putL, Nat.reduceAdd, cellsOf, cvOf]) <;> rfl)) ?_
  refine at_ef2 rfl rfl (ef_buildSlicen rfl rfl (by decide) Te54 (.cons rfl rfl (.nil _)) rfl Tz64 rfl rfl (by simp) (by simp) (by (try simp only [nm, putL, Nat.reduceAdd, cellsOf, cvOf]) <;> rfl) (by (try simp only [nm, putL, Nat.reduceAdd, cellsOf, cvOf]) <;> rfl)) (ag_cons (by first | exact ag_rd rfl rfl rfl (rd_move rfl rfl) rfl) (ag_cons (by first | exact ag_rd rfl rfl rfl (rd_move rfl rfl) rfl) (ag_cons (by first | exact ag_rd rfl rfl rfl (rd_field rfl rfl Tf64_1) rfl | exact ag_rd rfl rfl rfl (rd_fieldq rfl rfl Tf64_1) rfl) (ag_cons (by first | exact ag_rd rfl rfl rfl (rd_loadn1 rfl Tk3 rfl (by first | exact CB rfl | exact CQ | exact CA rfl (by first | assumption | (rw [Nat.zero_add]; assumption))) (by (try simp only [nm, putL, Nat.reduceAdd, cellsOf, cvOf]) <;> rfl)) rfl) (ag_cons (by first | exact ag_rd rfl rfl rfl (rd_move rfl rfl) rfl) (ag_cons (by first | exact ag_rd rfl rfl rfl (rd_field rfl rfl Tf64_1) rfl | exact ag_rd rfl rfl rfl (rd_fieldq rfl rfl Tf64_1) rfl) (ag_cons (by first | exact ag_rd rfl rfl rfl (rd_loadn1 rfl Tk3 rfl (by first | exact CB rfl | exact CQ | exact CA rfl (by first | assumption | (rw [Nat.zero_add]; assumption))) (by (try simp only [nm, putL, Nat.reduceAdd, cellsOf, cvOf]) <;> rfl)) rfl) (ag_none)))))))) ?_
  refine at_ef rfl rfl (ef_call0 true (fun _ => legsfault_a [x] _) rfl .fn rfl (by decide) Tc50 rfl (fun _g => .cons (.frz rfl rfl rfl rfl rfl) .nil) (fun _ _ _ _ ⟨hu, hH⟩ => by rw [hu, hH]; exact ⟨.c (.inl trivial), by simp⟩)) ?_
  rintro _ _ ⟨_, _, _, ⟨rfl, rfl⟩, hF, hH⟩
  (try simp only [nsl, Nat.reduceAdd, Nat.reduceLT, Nat.reduceSub] at hF); (try simp only [nsl, Nat.reduceAdd, Nat.reduceLT, Nat.reduceSub] at hH); subst hF; subst hH
  refine ⟨ag_cons (by first | exact ag_rd rfl rfl rfl (rd_move rfl rfl) rfl) (ag_cons (by first | exact ag_rd rfl rfl rfl (rd_move rfl rfl) rfl) (ag_cons (by first | exact ag_rd rfl rfl rfl (rd_field rfl rfl Tf64_1) rfl | exact ag_rd rfl rfl rfl (rd_fieldq rfl rfl Tf64_1) rfl) (ag_cons (by first | exact ag_rd rfl rfl rfl (rd_loadn1 rfl Tk3 rfl (by first | exact CB rfl | exact CQ | exact CA rfl (by first | assumption | (rw [Nat.zero_add]; assumption))) (by (try simp only [nm, putL, Nat.reduceAdd, cellsOf, cvOf]) <;> rfl)) rfl) (ag_cons (by first | exact ag_rd rfl rfl rfl (rd_move rfl rfl) rfl) (ag_cons (by first | exact ag_rd rfl rfl rfl (rd_field rfl rfl Tf64_1) rfl | exact ag_rd rfl rfl rfl (rd_fieldq rfl rfl Tf64_1) rfl) (ag_cons (by first | exact ag_rd rfl rfl rfl (rd_loadn1 rfl Tk3 rfl (by first | exact CB rfl | exact CQ | exact CA rfl (by first | assumption | (rw [Nat.zero_add]; assumption))) (by (try simp only [nm, putL, Nat.reduceAdd, cellsOf, cvOf]) <;> rfl)) rfl) (ag_none))))))), ?_⟩
  refine at_ef rfl rfl (ef_call0 false (fun _ => change2_a _) rfl .fn rfl (by decide) Tc78 rfl (by intro _g; (repeat first | exact K0 | apply K1 rfl | apply K2 rfl rfl | apply K2 rfl (by simp) | apply K3 | exact L0 | apply L1 | exact V1 rfl | exact V2 rfl | exact V3 rfl rfl | exact V4 | exact V5 rfl | exact V3 rfl (by simp; omega) | exact V1 (by simp; omega) | exact V3 rfl (by simp) | exact V1 (by simp) | exact V6 rfl rfl (by first | rfl | simp) (by simp) rfl | apply V7 | apply V8 | apply V9); fail_if_success focus skip) (by simp)) ?_
  rintro _ _ ⟨_, _, _, ⟨rfl, rfl⟩, hF, hH⟩
  (try simp only [nsl, Nat.reduceAdd, Nat.reduceLT, Nat.reduceSub] at hF); (try simp only [nsl, Nat.reduceAdd, Nat.reduceLT, Nat.reduceSub] at hH); subst hF; subst hH
  refine ⟨ag_cons (by first | exact ag_rd rfl rfl rfl (rd_move rfl rfl) rfl) (ag_cons (by first | exact ag_rd rfl rfl rfl (rd_field rfl rfl Tf64_1) rfl | exact ag_rd rfl rfl rfl (rd_fieldq rfl rfl Tf64_1) rfl) (ag_cons (by first | exact ag_rd rfl rfl rfl (rd_loadn1 rfl Tk3 rfl (by first | exact CB rfl | exact CQ | exact CA rfl (by first | assumption | (rw [Nat.zero_add]; assumption))) (by (try simp only [nm, putL, Nat.reduceAdd, cellsOf, cvOf]) <;> rfl)) rfl) (ag_cons (by first | exact ag_rd rfl rfl rfl (rd_move rfl rfl) rfl) (ag_cons (by first | exact ag_rd rfl rfl rfl (rd_field rfl rfl Tf64_1) rfl | exact ag_rd rfl rfl rfl (rd_fieldq rfl rfl Tf64_1) rfl) (ag_cons (by first | exact ag_rd rfl rfl rfl (rd_loadn1 rfl Tk3 rfl (by first | exact CB rfl | exact CQ | exact CA rfl (by first | assumption | (rw [Nat.zero_add]; assumption))) (by (try simp only [nm, putL, Nat.reduceAdd, cellsOf, cvOf]) <;> rfl)) rfl) (ag_none)))))), ?_⟩
  refine at_ef rfl rfl (ef_call0 false (fun _ => span_a _ _ _) rfl .fn rfl (by decide) Tc111 rfl (by intro _g; (repeat first | exact K0 | apply K1 rfl | apply K2 rfl rfl | apply K2 rfl (by simp) | apply K3 | exact L0 | apply L1 | exact V1 rfl | exact V2 rfl | exact V3 rfl rfl | exact V4 | exact V5 rfl | exact V3 rfl (by simp; omega) | exact V1 (by simp; omega) | exact V3 rfl (by simp) | exact V1 (by simp) | exact V6 rfl rfl (by first | rfl | simp) (by simp) rfl | apply V7 | apply V8 | apply V9); fail_if_success focus skip) (by simp)) ?_
  rintro _ _ ⟨_, _, _, ⟨rfl, rfl⟩, hF, hH⟩
  (try simp only [nsl, Nat.reduceAdd, Nat.reduceLT, Nat.reduceSub] at hF); (try simp only [nsl, Nat.reduceAdd, Nat.reduceLT, Nat.reduceSub] at hH); subst hF; subst hH
  refine ⟨ag_cons (by first | exact ag_rd rfl rfl rfl (rd_move rfl rfl) rfl) (ag_cons (by first | exact ag_rd rfl rfl rfl (rd_field rfl rfl Tf64_1) rfl | exact ag_rd rfl rfl rfl (rd_fieldq rfl rfl Tf64_1) rfl) (ag_cons (by first | exact ag_rd rfl rfl rfl (rd_loadn1 rfl Tk3 rfl (by first | exact CB rfl | exact CQ | exact CA rfl (by first | assumption | (rw [Nat.zero_add]; assumption))) (by (try simp only [nm, putL, Nat.reduceAdd, cellsOf, cvOf]) <;> rfl)) rfl) (ag_none))), ?_⟩
  refine at_ef rfl rfl (ef_call0 false (fun _ => span_a _ _ _) rfl .fn rfl (by decide) Tc111 rfl (by intro _g; (repeat first | exact K0 | apply K1 rfl | apply K2 rfl rfl | apply K2 rfl (by simp) | apply K3 | exact L0 | apply L1 | exact V1 rfl | exact V2 rfl | exact V3 rfl rfl | exact V4 | exact V5 rfl | exact V3 rfl (by simp; omega) | exact V1 (by simp; omega) | exact V3 rfl (by simp) | exact V1 (by simp) | exact V6 rfl rfl (by first | rfl | simp) (by simp) rfl | apply V7 | apply V8 | apply V9); fail_if_success focus skip) (by simp)) ?_
  rintro _ _ ⟨_, _, _, ⟨rfl, rfl⟩, hF, hH⟩
  (try simp only [nsl, Nat.reduceAdd, Nat.reduceLT, Nat.reduceSub] at hF); (try simp only [nsl, Nat.reduceAdd, Nat.reduceLT, Nat.reduceSub] at hH); subst hF; subst hH
  refine ⟨ag_none, ?_⟩
  refine at_ef2 rfl rfl (ef_buildSlicen rfl rfl (by decide) Te80 (.cons rfl rfl (.cons rfl rfl (.cons rfl rfl (.cons rfl rfl (.nil _))))) rfl Tz28 rfl rfl (by simp) (by simp) (by (try simp only [nm, putL, Nat.reduceAdd, cellsOf, cvOf]) <;> rfl) (by (try simp only [nm, putL, Nat.reduceAdd, cellsOf, cvOf]) <;> rfl)) (ag_none) ?_
  refine at_ef rfl rfl (ef_call0 true (fun _ => firstk_a [legsF [x], changeF ch, spanF f 0 x.limit, spanF t 0 x.limit] _ (by simp)) rfl .fn rfl (by decide) Tc110 rfl (fun _g => .cons (.frz rfl rfl rfl rfl rfl) .nil) (fun _ _ _ _ ⟨hu, hH⟩ => by rw [hu, hH]; exact ⟨.c (.inl trivial), by simp⟩)) ?_
  rintro _ _ ⟨_, _, _, ⟨rfl, rfl⟩, hF, hH⟩
  (try simp only [nsl, Nat.reduceAdd, Nat.reduceLT, Nat.reduceSub] at hF); (try simp only [nsl, Nat.reduceAdd, Nat.reduceLT, Nat.reduceSub] at hH); subst hF; subst hH
  refine ⟨ag_none, ?_⟩
  refine RT rfl rfl rfl (by decide) (rd_assign rfl rfl) ?_
  refine at_nil ?_
  repeat with_reducible first | refine S1 ?_ | refine S2 ?_ | refine S3 ?_ | refine S4 ?_ | refine S5 ?_ | refine S6 ?_ | refine S7 ?_ | refine S8 ?_ | refine S9 rfl ?_ | refine SA ?_ | refine SB ?_ | refine SC ?_
  rw [hfe]
  repeat with_reducible first | refine S1 ?_ | refine S2 ?_ | refine S3 ?_ | refine S4 ?_ | refine S5 ?_ | refine S6 ?_ | refine S7 ?_ | refine S8 ?_ | refine S9 rfl ?_ | refine SA ?_ | refine SB ?_ | refine SC ?_
  refine aw_region ?_
  refine RA rfl rfl (by decide) (rd_move rfl rfl) ?_
  first | refine RA rfl rfl (by decide) (rd_neq_t rfl rfl rfl (by omega)) ?_ | refine RA rfl rfl (by decide) (rd_neq_f rfl rfl rfl (by omega)) ?_ | refine RA rfl rfl (by decide) (rd_neq rfl rfl rfl) ?_
  refine al_nil ?_
  repeat with_reducible first | refine S1 ?_ | refine S2 ?_ | refine S3 ?_ | refine S4 ?_ | refine S5 ?_ | refine S6 ?_ | refine S7 ?_ | refine S8 ?_ | refine S9 rfl ?_ | refine SA ?_ | refine SB ?_ | refine SC ?_
  refine aw_if rfl (fun hne => ?_) (fun heq => ?_)
  · repeat with_reducible first | refine S1 ?_ | refine S2 ?_ | refine S3 ?_ | refine S4 ?_ | refine S5 ?_ | refine S6 ?_ | refine S7 ?_ | refine S8 ?_ | refine S9 rfl ?_ | refine SA ?_ | refine SB ?_ | refine SC ?_
    refine aw_region ?_
    refine RA rfl rfl (by decide) (rd_move rfl rfl) ?_
    refine RA rfl rfl (by decide) (rd_assign rfl rfl) ?_
    refine al_nil ?_
    repeat with_reducible first | refine S1 ?_ | refine S2 ?_ | refine S3 ?_ | refine S4 ?_ | refine S5 ?_ | refine S6 ?_ | refine S7 ?_ | refine S8 ?_ | refine S9 rfl ?_ | refine SA ?_ | refine SB ?_ | refine SC ?_
    refine aret_1 [] _ rfl rfl rfl (by decide) (fun _ hi => absurd hi (Nat.not_lt_zero _)) (by intro _g; (repeat first | exact K0 | apply K1 rfl | apply K2 rfl rfl | apply K2 rfl (by simp) | apply K3 | exact L0 | apply L1 | exact V1 rfl | exact V2 rfl | exact V3 rfl rfl | exact V4 | exact V5 rfl | exact V3 rfl (by simp; omega) | exact V1 (by simp; omega) | exact V3 rfl (by simp) | exact V1 (by simp) | exact V6 rfl rfl (by first | rfl | simp) (by simp) rfl | apply V7 | apply V8 | apply V9); fail_if_success focus skip) ⟨congrArg (fun z => AV.c (I z)) ?_, rfl⟩
    unfold exactV
    by_cases h1 : oneF x ch ≠ 0
    · rw [if_pos h1, if_pos h1]
    · rw [if_neg h1] at hne ⊢
      rw [if_neg h1]
      by_cases h2 : 0 ≤ f ∧ f ≤ x.limit ∧ 0 ≤ t ∧ t ≤ x.limit
      · rw [if_pos h2] at hne; exact absurd rfl hne
      · rw [if_neg h2, if_neg h2]
  have h0 : oneF x ch = 0 := by
    by_cases h1 : oneF x ch ≠ 0
    · rw [if_pos h1] at heq; exact absurd h1 heq
    · omega
  have hin : 0 ≤ f ∧ f ≤ x.limit ∧ 0 ≤ t ∧ t ≤ x.limit := by
    by_cases h2 : 0 ≤ f ∧ f ≤ x.limit ∧ 0 ≤ t ∧ t ≤ x.limit
    · exact h2
    · rw [if_neg (by omega), if_neg h2] at heq; exact absurd (by decide) heq
  obtain ⟨hx, hc⟩ := oneF_ok h0
  have hl := hx.2.2.2
  have hd := dis_b hc hx
  have s1 := sq_b (a := f) (by omega) (by omega)
  have s2 := sq_b (a := t) (by omega) (by omega)
  repeat with_reducible first | refine S1 ?_ | refine S2 ?_ | refine S3 ?_ | refine S4 ?_ | refine S5 ?_ | refine S6 ?_ | refine S7 ?_ | refine S8 ?_ | refine S9 rfl ?_ | refine SA ?_ | refine SB ?_ | refine SC ?_
  repeat with_reducible first | refine S1 ?_ | refine S2 ?_ | refine S3 ?_ | refine S4 ?_ | refine S5 ?_ | refine S6 ?_ | refine S7 ?_ | refine S8 ?_ | refine S9 rfl ?_ | refine SA ?_ | refine SB ?_ | refine SC ?_
  refine aw_regionT [(0, none), (1, none), (2, none), (3, none), (4, none), (5, none), (6, none), (8, none), (9, none), (10, none), (11, none), (12, none), (7, some [8, 9, 10, 11, 12]), (13, none)] hMixed (by kernel_rfl) ?_
  refine RT rfl rfl rfl (by decide) (rd_move rfl rfl) ?_
  refine RT rfl rfl rfl (by decide) (rd_move rfl rfl) ?_
  first | refine RT rfl rfl rfl (by decide) (rd_muln rfl rfl rfl (by omega)) ?_ | refine RT rfl rfl rfl (by decide) (rd_mul rfl rfl rfl) ?_
  refine RT rfl rfl rfl (by decide) (rd_move rfl rfl) ?_
  refine RT rfl rfl rfl (by decide) (rd_move rfl rfl) ?_
  first | refine RT rfl rfl rfl (by decide) (rd_muln rfl rfl rfl (by omega)) ?_ | refine RT rfl rfl rfl (by decide) (rd_mul rfl rfl rfl) ?_
  first | refine RT rfl rfl rfl (by decide) (rd_subn rfl rfl rfl (by omega)) ?_ | refine RT rfl rfl rfl (by decide) (rd_sub rfl rfl rfl) ?_
  refine RT rfl rfl rfl (by decide) (rd_move rfl rfl) ?_
  first | refine RT rfl rfl rfl (by decide) (rd_muln rfl rfl rfl (by omega)) ?_ | refine RT rfl rfl rfl (by decide) (rd_mul rfl rfl rfl) ?_
  first | refine RT rfl rfl rfl (by decide) (rd_field rfl rfl Tf64_0) ?_ | refine RT rfl rfl rfl (by decide) (rd_fieldq rfl rfl Tf64_0) ?_
  refine RT rfl rfl rfl (by decide) (rd_loadn1 rfl Tk3 rfl (by first | exact CB rfl | exact CQ | exact CA rfl (by first | assumption | (rw [Nat.zero_add]; assumption))) (by (try simp only [nm, putL, Nat.reduceAdd, cellsOf, cvOf]) <;> rfl)) ?_
  first | refine RT rfl rfl rfl (by decide) (rd_muln rfl rfl rfl (by omega)) ?_ | refine RT rfl rfl rfl (by decide) (rd_mul rfl rfl rfl) ?_
  refine at_ef rfl rfl (ef_call0 false (fun _ => abs2_a (f * f - t * t) (by omega)) rfl .fn rfl (by decide) Tc112 rfl (by intro _g; (repeat first | exact K0 | apply K1 rfl | apply K2 rfl rfl | apply K2 rfl (by simp) | apply K3 | exact L0 | apply L1 | exact V1 rfl | exact V2 rfl | exact V3 rfl rfl | exact V4 | exact V5 rfl | exact V3 rfl (by simp; omega) | exact V1 (by simp; omega) | exact V3 rfl (by simp) | exact V1 (by simp) | exact V6 rfl rfl (by first | rfl | simp) (by simp) rfl | apply V7 | apply V8 | apply V9); fail_if_success focus skip) (by simp)) ?_
  rintro _ _ ⟨_, _, _, ⟨rfl, rfl⟩, hF, hH⟩
  (try simp only [nsl, Nat.reduceAdd, Nat.reduceLT, Nat.reduceSub] at hF); (try simp only [nsl, Nat.reduceAdd, Nat.reduceLT, Nat.reduceSub] at hH); subst hF; subst hH
  refine ⟨ag_cons (by first | exact ag_rd rfl rfl rfl (rd_move rfl rfl) rfl) (ag_cons (by first | exact ag_rd rfl rfl rfl (rd_muln rfl rfl rfl (by omega)) rfl | exact ag_rd rfl rfl rfl (rd_mul rfl rfl rfl) rfl) (ag_cons (by first | exact ag_rd rfl rfl rfl (rd_field rfl rfl Tf64_0) rfl | exact ag_rd rfl rfl rfl (rd_fieldq rfl rfl Tf64_0) rfl) (ag_cons (by first | exact ag_rd rfl rfl rfl (rd_loadn1 rfl Tk3 rfl (by first | exact CB rfl | exact CQ | exact CA rfl (by first | assumption | (rw [Nat.zero_add]; assumption))) (by (try simp only [nm, putL, Nat.reduceAdd, cellsOf, cvOf]) <;> rfl)) rfl) (ag_cons (by first | exact ag_rd rfl rfl rfl (rd_muln rfl rfl rfl (by omega)) rfl | exact ag_rd rfl rfl rfl (rd_mul rfl rfl rfl) rfl) (ag_none))))), ?_⟩
  first | refine RT rfl rfl rfl (by decide) (rd_gtr_t rfl rfl rfl (by omega)) ?_ | refine RT rfl rfl rfl (by decide) (rd_gtr_f rfl rfl rfl (by omega)) ?_ | refine RT rfl rfl rfl (by decide) (rd_gtr rfl rfl rfl) ?_
  refine at_nil ?_
  repeat with_reducible first | refine S1 ?_ | refine S2 ?_ | refine S3 ?_ | refine S4 ?_ | refine S5 ?_ | refine S6 ?_ | refine S7 ?_ | refine S8 ?_ | refine S9 rfl ?_ | refine SA ?_ | refine SB ?_ | refine SC ?_
  refine aw_if rfl (fun hgt => ?_) (fun hle => ?_)
  · repeat with_reducible first | refine S1 ?_ | refine S2 ?_ | refine S3 ?_ | refine S4 ?_ | refine S5 ?_ | refine S6 ?_ | refine S7 ?_ | refine S8 ?_ | refine S9 rfl ?_ | refine SA ?_ | refine SB ?_ | refine SC ?_
    refine aw_region ?_
    refine RA rfl rfl (by decide) (rd_assign rfl rfl) ?_
    refine al_nil ?_
    repeat with_reducible first | refine S1 ?_ | refine S2 ?_ | refine S3 ?_ | refine S4 ?_ | refine S5 ?_ | refine S6 ?_ | refine S7 ?_ | refine S8 ?_ | refine S9 rfl ?_ | refine SA ?_ | refine SB ?_ | refine SC ?_
    exact aret_1 [] _ rfl rfl rfl (by decide) (fun _ hi => absurd hi (Nat.not_lt_zero _)) (by intro _g; (repeat first | exact K0 | apply K1 rfl | apply K2 rfl rfl | apply K2 rfl (by simp) | apply K3 | exact L0 | apply L1 | exact V1 rfl | exact V2 rfl | exact V3 rfl rfl | exact V4 | exact V5 rfl | exact V3 rfl (by simp; omega) | exact V1 (by simp; omega) | exact V3 rfl (by simp) | exact V1 (by simp) | exact V6 rfl rfl (by first | rfl | simp) (by simp) rfl | apply V7 | apply V8 | apply V9); fail_if_success focus skip) ⟨by rw [exactV, if_neg (by omega), if_pos hin, if_pos hgt], rfl⟩
  · repeat with_reducible first | refine S1 ?_ | refine S2 ?_ | refine S3 ?_ | refine S4 ?_ | refine S5 ?_ | refine S6 ?_ | refine S7 ?_ | refine S8 ?_ | refine S9 rfl ?_ | refine SA ?_ | refine SB ?_ | refine SC ?_
    repeat with_reducible first | refine S1 ?_ | refine S2 ?_ | refine S3 ?_ | refine S4 ?_ | refine S5 ?_ | refine S6 ?_ | refine S7 ?_ | refine S8 ?_ | refine S9 rfl ?_ | refine SA ?_ | refine SB ?_ | refine SC ?_
    refine aw_region ?_
    refine RA rfl rfl (by decide) (rd_assign rfl rfl) ?_
    refine al_nil ?_
    repeat with_reducible first | refine S1 ?_ | refine S2 ?_ | refine S3 ?_ | refine S4 ?_ | refine S5 ?_ | refine S6 ?_ | refine S7 ?_ | refine S8 ?_ | refine S9 rfl ?_ | refine SA ?_ | refine SB ?_ | refine SC ?_
    exact aret_1 [] _ rfl rfl rfl (by decide) (fun _ hi => absurd hi (Nat.not_lt_zero _)) (by intro _g; (repeat first | exact K0 | apply K1 rfl | apply K2 rfl rfl | apply K2 rfl (by simp) | apply K3 | exact L0 | apply L1 | exact V1 rfl | exact V2 rfl | exact V3 rfl rfl | exact V4 | exact V5 rfl | exact V3 rfl (by simp; omega) | exact V1 (by simp; omega) | exact V3 rfl (by simp) | exact V1 (by simp) | exact V6 rfl rfl (by first | rfl | simp) (by simp) rfl | apply V7 | apply V8 | apply V9); fail_if_success focus skip) ⟨by rw [exactV, if_neg (by omega), if_pos hin, if_neg hle], rfl⟩
end Go.Proofs.Ytpbedckdnoogpaa
