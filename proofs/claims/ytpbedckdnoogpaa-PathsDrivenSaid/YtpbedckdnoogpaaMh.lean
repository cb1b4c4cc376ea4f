/- The document's fault of Exact, by value. -/
import Derived.Test.YtpbedckdnoogpaaMg
set_option linter.unusedSimpArgs false
set_option linter.unusedVariables false
namespace Go.Proofs.Ytpbedckdnoogpaa
open Go Go.RowKit
set_option maxRecDepth 100000
theorem first4_eq (f t : Int) (x : Leg) (ch : Int) : firstK [legsF [x], changeF ch, spanF f 0 x.limit, spanF t 0 x.limit] = if oneF x ch ≠ 0 then oneF x ch else if 0 ≤ f ∧ f ≤ x.limit ∧ 0 ≤ t ∧ t ≤ x.limit then 0 else 1 := by
  have hl : legsF [x] = if legBad x then 1 else 0 := by simp [legsF]
  rw [hl]
  unfold oneF changeF spanF
  simp only [firstK]
  cases legBad x
  · by_cases h1 : 1 ≤ ch ∧ ch ≤ 10000000
    · by_cases h2 : 0 ≤ f ∧ f ≤ x.limit
      · by_cases h3 : 0 ≤ t ∧ t ≤ x.limit
        · simp [h1, h2, h3]
        · have : ¬ (0 ≤ f ∧ f ≤ x.limit ∧ 0 ≤ t ∧ t ≤ x.limit) := fun h => h3 h.2.2
          simp [h1, h2, h3]
      · have : ¬ (0 ≤ f ∧ f ≤ x.limit ∧ 0 ≤ t ∧ t ≤ x.limit) := fun h => h2 ⟨h.1, h.2.1⟩
        rw [if_neg h2, if_neg this]; simp [h1]
    · simp [h1]
  · simp
theorem exactfault_a (f t : Int) (x : Leg) (ch : Int) : ACalls Try.prog 35 [.c (I f), .c (I t), .a (x.row.map .c), .c (I ch)] [] fun u H => u = .c (I (exactV f t x ch)) ∧ H = [] := by
  refine acalls_of (N := 42) Try.func35 rfl rfl (by simp) fun E hE => ?_
  have hfe := first4_eq f t x ch
  refine WA ?_
  refine ZZ ?_
  refine aw_regionT [(0, none), (3, none), (5, none), (6, none), (7, none), (9, none), (10, none), (11, none), (1, some [3, 5, 6, 7, 9, 10, 11]), (2, some [3, 5, 6, 7, 9, 10, 11]), (4, some [5, 6, 7, 9, 10, 11]), (8, some [9, 10, 11]), (12, some []), (13, some []), (14, some []), (15, none)] hMixed (by kernel_rfl) ?_
  refine WP ?_
  refine at_ef rfl rfl (ef_call0 true (fun _ => legsfault_a [x] _) rfl .fn rfl (by decide) (by kernel_rfl) rfl (fun _g => .cons (.frz rfl rfl rfl rfl rfl) .nil) (fun _ _ _ _ ⟨hu, hH⟩ => by rw [hu, hH]; exact ⟨.c (.inl trivial), by simp⟩)) ?_
  rintro _ _ ⟨_, _, _, ⟨rfl, rfl⟩, hF, hH⟩
  (try simp only [nsl, Nat.reduceAdd, Nat.reduceLT, Nat.reduceSub] at hF); (try simp only [nsl, Nat.reduceAdd, Nat.reduceLT, Nat.reduceSub] at hH); subst hF; subst hH
  refine ⟨ag_cons (by first | exact ag_rd rfl rfl rfl (rd_move rfl rfl) rfl) (ag_cons (by first | exact ag_rd rfl rfl rfl (rd_move rfl rfl) rfl) (ag_cons (by first | exact ag_rd rfl rfl rfl (ZX (KF (t := 64) (f := 1) rfl rfl)) rfl) (ag_cons (by first | exact ag_rd rfl rfl rfl (ZL (KK (t := 3) rfl)) rfl) (ag_cons (by first | exact ag_rd rfl rfl rfl (rd_move rfl rfl) rfl) (ag_cons (by first | exact ag_rd rfl rfl rfl (ZX (KF (t := 64) (f := 1) rfl rfl)) rfl) (ag_cons (by first | exact ag_rd rfl rfl rfl (ZL (KK (t := 3) rfl)) rfl) (ag_none))))))), ?_⟩
  refine at_ef rfl rfl (ef_call0 false (fun _ => change2_a _) rfl .fn rfl (by decide) (by kernel_rfl) rfl (fun _ => C0 rfl) (by simp)) ?_
  rintro _ _ ⟨_, _, _, ⟨rfl, rfl⟩, hF, hH⟩
  (try simp only [nsl, Nat.reduceAdd, Nat.reduceLT, Nat.reduceSub] at hF); (try simp only [nsl, Nat.reduceAdd, Nat.reduceLT, Nat.reduceSub] at hH); subst hF; subst hH
  refine ⟨ag_cons (by first | exact ag_rd rfl rfl rfl (rd_move rfl rfl) rfl) (ag_cons (by first | exact ag_rd rfl rfl rfl (ZX (KF (t := 64) (f := 1) rfl rfl)) rfl) (ag_cons (by first | exact ag_rd rfl rfl rfl (ZL (KK (t := 3) rfl)) rfl) (ag_cons (by first | exact ag_rd rfl rfl rfl (rd_move rfl rfl) rfl) (ag_cons (by first | exact ag_rd rfl rfl rfl (ZX (KF (t := 64) (f := 1) rfl rfl)) rfl) (ag_cons (by first | exact ag_rd rfl rfl rfl (ZL (KK (t := 3) rfl)) rfl) (ag_none)))))), ?_⟩
  refine at_ef rfl rfl (ef_call0 false (fun _ => span_a _ _ _) rfl .fn rfl (by decide) (by kernel_rfl) rfl (fun _ => C0 rfl) (by simp)) ?_
  rintro _ _ ⟨_, _, _, ⟨rfl, rfl⟩, hF, hH⟩
  (try simp only [nsl, Nat.reduceAdd, Nat.reduceLT, Nat.reduceSub] at hF); (try simp only [nsl, Nat.reduceAdd, Nat.reduceLT, Nat.reduceSub] at hH); subst hF; subst hH
  refine ⟨ag_cons (by first | exact ag_rd rfl rfl rfl (rd_move rfl rfl) rfl) (ag_cons (by first | exact ag_rd rfl rfl rfl (ZX (KF (t := 64) (f := 1) rfl rfl)) rfl) (ag_cons (by first | exact ag_rd rfl rfl rfl (ZL (KK (t := 3) rfl)) rfl) (ag_none))), ?_⟩
  refine at_ef rfl rfl (ef_call0 false (fun _ => span_a _ _ _) rfl .fn rfl (by decide) (by kernel_rfl) rfl (fun _ => C0 rfl) (by simp)) ?_
  rintro _ _ ⟨_, _, _, ⟨rfl, rfl⟩, hF, hH⟩
  (try simp only [nsl, Nat.reduceAdd, Nat.reduceLT, Nat.reduceSub] at hF); (try simp only [nsl, Nat.reduceAdd, Nat.reduceLT, Nat.reduceSub] at hH); subst hF; subst hH
  refine ⟨ag_none, ?_⟩
  refine WP ?_
  refine at_ef rfl rfl (ef_call0 true (fun _ => firstk_a [legsF [x], changeF ch, spanF f 0 x.limit, spanF t 0 x.limit] _ (by simp)) rfl .fn rfl (by decide) (by kernel_rfl) rfl (fun _g => .cons (.frz rfl rfl rfl rfl rfl) .nil) (fun _ _ _ _ ⟨hu, hH⟩ => by rw [hu, hH]; exact ⟨.c (.inl trivial), by simp⟩)) ?_
  rintro _ _ ⟨_, _, _, ⟨rfl, rfl⟩, hF, hH⟩
  (try simp only [nsl, Nat.reduceAdd, Nat.reduceLT, Nat.reduceSub] at hF); (try simp only [nsl, Nat.reduceAdd, Nat.reduceLT, Nat.reduceSub] at hH); subst hF; subst hH
  refine ⟨ag_none, ?_⟩
  refine WQ ?_
  rw [hfe]
  refine WA ?_
  refine aw_if rfl (fun hne => ?_) (fun heq => ?_)
  · refine WA ?_
    refine aret_1 [] _ rfl rfl rfl (by decide) (ZNK rfl) (fun _ => .nil) ⟨congrArg (fun z => AV.c (I z)) ?_, rfl⟩
    unfold exactV
    by_cases h1 : oneF x ch ≠ 0
    · rw [if_pos h1, if_pos h1]
    · rw [if_neg h1] at hne ⊢
      rw [if_neg h1]
      by_cases h2 : 0 ≤ f ∧ f ≤ x.limit ∧ 0 ≤ t ∧ t ≤ x.limit
      · rw [if_pos h2] at hne; exact absurd rfl hne
      · rw [if_neg h2, if_neg h2]
  have h0 : oneF x ch = 0 := by
    by_cases h1 : oneF x ch ≠ 0
    · rw [if_pos h1] at heq; exact absurd h1 heq
    · omega
  have hin : 0 ≤ f ∧ f ≤ x.limit ∧ 0 ≤ t ∧ t ≤ x.limit := by
    by_cases h2 : 0 ≤ f ∧ f ≤ x.limit ∧ 0 ≤ t ∧ t ≤ x.limit
    · exact h2
    · rw [if_neg (by omega), if_neg h2] at heq; exact absurd (by decide) heq
  obtain ⟨hx, hc⟩ := oneF_ok h0
  have hl := hx.2.2.2
  have hd := dis_b hc hx
  have s1 := sq_b (a := f) (by omega) (by omega)
  have s2 := sq_b (a := t) (by omega) (by omega)
  refine ZZ ?_
  refine aw_regionT [(0, none), (1, none), (2, none), (3, none), (4, none), (5, none), (6, none), (8, none), (9, none), (10, none), (11, none), (12, none), (7, some [8, 9, 10, 11, 12]), (13, none)] hMixed (by kernel_rfl) ?_
  refine WP ?_
  refine at_ef rfl rfl (ef_call0 false (fun _ => abs2_a (f * f - t * t) (by omega)) rfl .fn rfl (by decide) (by kernel_rfl) rfl (fun _ => C0 rfl) (by simp)) ?_
  rintro _ _ ⟨_, _, _, ⟨rfl, rfl⟩, hF, hH⟩
  (try simp only [nsl, Nat.reduceAdd, Nat.reduceLT, Nat.reduceSub] at hF); (try simp only [nsl, Nat.reduceAdd, Nat.reduceLT, Nat.reduceSub] at hH); subst hF; subst hH
  refine ⟨ag_cons (by first | exact ag_rd rfl rfl rfl (rd_move rfl rfl) rfl) (ag_cons (by first | exact ag_rd rfl rfl rfl (Zmul) rfl) (ag_cons (by first | exact ag_rd rfl rfl rfl (ZX (KF (t := 64) (f := 0) rfl rfl)) rfl) (ag_cons (by first | exact ag_rd rfl rfl rfl (ZL (KK (t := 3) rfl)) rfl) (ag_cons (by first | exact ag_rd rfl rfl rfl (Zmul) rfl) (ag_none))))), ?_⟩
  refine WQ ?_
  refine aw_if rfl (fun hgt => ?_) (fun hle => ?_)
  · refine WA ?_
    exact aret_1 [] _ rfl rfl rfl (by decide) (ZNK rfl) (fun _ => .nil) ⟨by rw [exactV, if_neg (by omega), if_pos hin, if_pos hgt], rfl⟩
  · refine ZZ ?_
    refine WA ?_
    exact aret_1 [] _ rfl rfl rfl (by decide) (ZNK rfl) (fun _ => .nil) ⟨by rw [exactV, if_neg (by omega), if_pos hin, if_neg hle], rfl⟩
end Go.Proofs.Ytpbedckdnoogpaa
