/- The reference's Same, by value. -/
import Derived.Test.YtpbedckdnoogpaaRf
set_option linter.unusedSimpArgs false
set_option linter.unusedVariables false
namespace Go.Proofs.Ytpbedckdnoogpaa
open Go Go.RowKit
set_option maxRecDepth 100000
def sameM (a b : List Step) : Prop := (momS a a.length).out = (momS b b.length).out ∧ (momS a a.length).wait = (momS b b.length).wait
theorem momS_len (l : List Step) : ∀ k, (momS l k).out.length ≤ k
  | 0 => Nat.le_refl _
  | k + 1 => by
    have h := momS_len l k
    unfold momS
    split
    · unfold stepMS
      split
      · simp; omega
      · simp; omega
    · omega
theorem qsame_a (l l' : List Step) (v v' : Value) (hl : l.length ≤ 1000000) (hl' : l'.length ≤ 1000000) (hok : ∀ s ∈ l, s.ok) (hok' : ∀ s ∈ l', s.ok) : ACalls Try.prog 22 [.c (prog_r v l), .c (prog_r v' l')] [] fun u H => ∃ b : Bool, u = .c (B b) ∧ H = [] ∧ (b = true ↔ sameM l l') := by
  have hm := momS_len l l.length
  have hm' := momS_len l' l'.length
  refine acalls_of (N := 27) Try.func22 rfl rfl (by simp) fun E hE => ?_
  repeat with_reducible first | refine S1 ?_ | refine S2 ?_ | refine S3 ?_ | refine S4 ?_ | refine S5 ?_ | refine S6 ?_ | refine S7 ?_ | refine S8 ?_ | refine S9 rfl ?_ | refine SA ?_ | refine SB ?_ | refine SC ?_
  refine aw_region ?_
  refine RA rfl rfl (by decide) (rd_assign rfl rfl) ?_
  refine al_nil ?_
  repeat with_reducible first | refine S1 ?_ | refine S2 ?_ | refine S3 ?_ | refine S4 ?_ | refine S5 ?_ | refine S6 ?_ | refine S7 ?_ | refine S8 ?_ | refine S9 rfl ?_ | refine SA ?_ | refine SB ?_ | refine SC ?_
  refine aw_region ?_
  refine RA rfl rfl (by decide) (rd_move rfl rfl) ?_
  refine al_ef rfl (ef_call0 false (fun _ => qmoms_a l v (by omega) hok) rfl .fn rfl (by decide) Tc98 rfl (by intro _g; (repeat first | exact K0 | apply K1 rfl | apply K2 rfl rfl | apply K2 rfl (by simp) | apply K3 | exact L0 | apply L1 | exact V1 rfl | exact V2 rfl | exact V3 rfl rfl | exact V4 | exact V5 rfl | exact V3 rfl (by simp) | exact V1 (by simp) | exact V3 rfl (by simp; omega) | exact V1 (by simp; omega) | exact V6 rfl rfl (by first | rfl | simp) (by simp) rfl | apply V7 | apply V8 | apply V9); fail_if_success focus skip) (by simp)) ?_
  rintro _ _ ⟨_, _, _, ⟨q, rfl, rfl⟩, hF, hH⟩
  (try simp only [nsl, Nat.reduceAdd, Nat.reduceLT, Nat.reduceSub] at hF); (try simp only [nsl, Nat.reduceAdd, Nat.reduceLT, Nat.reduceSub] at hH); subst hF; subst hH
  refine RA rfl rfl (by decide) (rd_move rfl rfl) ?_
  refine RA rfl rfl (by decide) (rd_extract rfl rfl rfl) ?_
  refine RA rfl rfl (by decide) (rd_extract rfl rfl rfl) ?_
  refine RA rfl rfl (by decide) (rd_assign rfl rfl) ?_
  refine RA rfl rfl (by decide) (rd_assign rfl rfl) ?_
  refine al_nil ?_
  repeat with_reducible first | refine S1 ?_ | refine S2 ?_ | refine S3 ?_ | refine S4 ?_ | refine S5 ?_ | refine S6 ?_ | refine S7 ?_ | refine S8 ?_ | refine S9 rfl ?_ | refine SA ?_ | refine SB ?_ | refine SC ?_
  refine aw_region ?_
  refine RA rfl rfl (by decide) (rd_move rfl rfl) ?_
  refine al_ef rfl (ef_call0 false (fun _ => qmoms_a l' v' (by omega) hok') rfl .fn rfl (by decide) Tc98 rfl (by intro _g; (repeat first | exact K0 | apply K1 rfl | apply K2 rfl rfl | apply K2 rfl (by simp) | apply K3 | exact L0 | apply L1 | exact V1 rfl | exact V2 rfl | exact V3 rfl rfl | exact V4 | exact V5 rfl | exact V3 rfl (by simp) | exact V1 (by simp) | exact V3 rfl (by simp; omega) | exact V1 (by simp; omega) | exact V6 rfl rfl (by first | rfl | simp) (by simp) rfl | apply V7 | apply V8 | apply V9); fail_if_success focus skip) (by simp)) ?_
  rintro _ _ ⟨_, _, _, ⟨q', rfl, rfl⟩, hF, hH⟩
  (try simp only [nsl, Nat.reduceAdd, Nat.reduceLT, Nat.reduceSub] at hF); (try simp only [nsl, Nat.reduceAdd, Nat.reduceLT, Nat.reduceSub] at hH); subst hF; subst hH
  refine RA rfl rfl (by decide) (rd_move rfl rfl) ?_
  refine RA rfl rfl (by decide) (rd_extract rfl rfl rfl) ?_
  refine RA rfl rfl (by decide) (rd_extract rfl rfl rfl) ?_
  refine RA rfl rfl (by decide) (rd_assign rfl rfl) ?_
  refine RA rfl rfl (by decide) (rd_assign rfl rfl) ?_
  refine al_nil ?_
  repeat with_reducible first | refine S1 ?_ | refine S2 ?_ | refine S3 ?_ | refine S4 ?_ | refine S5 ?_ | refine S6 ?_ | refine S7 ?_ | refine S8 ?_ | refine S9 rfl ?_ | refine SA ?_ | refine SB ?_ | refine SC ?_
  repeat with_reducible first | refine S1 ?_ | refine S2 ?_ | refine S3 ?_ | refine S4 ?_ | refine S5 ?_ | refine S6 ?_ | refine S7 ?_ | refine S8 ?_ | refine S9 rfl ?_ | refine SA ?_ | refine SB ?_ | refine SC ?_
  refine aw_region ?_
  refine RA rfl rfl (by decide) (rd_move rfl rfl) ?_
  refine RA rfl rfl (by decide) (rd_move rfl rfl) ?_
  refine al_ef rfl (ef_call0 false (fun _ => eqN_a _ _ _ _ (by omega) (by omega)) rfl .fn rfl (by decide) Tc99 rfl (fun _g => .cons (.c rfl) (.cons (.c rfl) .nil)) (by simp)) ?_
  rintro _ _ ⟨_, _, _, ⟨b, rfl, rfl, hb⟩, hF, hH⟩
  (try simp only [nsl, Nat.reduceAdd, Nat.reduceLT, Nat.reduceSub] at hF); (try simp only [nsl, Nat.reduceAdd, Nat.reduceLT, Nat.reduceSub] at hH); subst hF; subst hH
  cases b
  all_goals (refine RA rfl rfl (by decide) (rd_move rfl rfl) ?_)
  all_goals (first | (refine G1 rfl ?_; (refine RA rfl rfl (by decide) (rd_move rfl rfl) ?_)) | refine G2 rfl rfl (by decide) ?_)
  all_goals (first | (refine G1 rfl ?_; (refine RA rfl rfl (by decide) (rd_move rfl rfl) ?_)) | refine G2 rfl rfl (by decide) ?_)
  all_goals (first | (refine G1 rfl ?_; (first | refine RA rfl rfl (by decide) (rd_eql_t rfl rfl rfl (by omega)) ?_ | refine RA rfl rfl (by decide) (rd_eql_f rfl rfl rfl (by omega)) ?_ | refine RA rfl rfl (by decide) (rd_eql rfl rfl rfl) ?_)) | refine G2 rfl rfl (by decide) ?_)
  all_goals (first | refine RA rfl rfl (by decide) (rd_pick_t rfl rfl rfl) ?_ | refine RA rfl rfl (by decide) (rd_pick_f rfl rfl rfl) ?_)
  all_goals (refine RA rfl rfl (by decide) (rd_assign rfl rfl) ?_)
  all_goals (refine al_nil ?_)
  all_goals (repeat with_reducible first | refine S1 ?_ | refine S2 ?_ | refine S3 ?_ | refine S4 ?_ | refine S5 ?_ | refine S6 ?_ | refine S7 ?_ | refine S8 ?_ | refine S9 rfl ?_ | refine SA ?_ | refine SB ?_ | refine SC ?_)
  · exact aret_1 [] _ rfl rfl rfl (by decide) (fun _ hi => absurd hi (Nat.not_lt_zero _)) (by intro _g; (repeat first | exact K0 | apply K1 rfl | apply K2 rfl rfl | apply K2 rfl (by simp) | apply K3 | exact L0 | apply L1 | exact V1 rfl | exact V2 rfl | exact V3 rfl rfl | exact V4 | exact V5 rfl | exact V3 rfl (by simp) | exact V1 (by simp) | exact V3 rfl (by simp; omega) | exact V1 (by simp; omega) | exact V6 rfl rfl (by first | rfl | simp) (by simp) rfl | apply V7 | apply V8 | apply V9); fail_if_success focus skip) ⟨_, rfl, rfl, by simp only [Bool.false_eq_true, false_iff] at hb ⊢; exact fun h => hb h.1⟩
  · exact aret_1 [] _ rfl rfl rfl (by decide) (fun _ hi => absurd hi (Nat.not_lt_zero _)) (by intro _g; (repeat first | exact K0 | apply K1 rfl | apply K2 rfl rfl | apply K2 rfl (by simp) | apply K3 | exact L0 | apply L1 | exact V1 rfl | exact V2 rfl | exact V3 rfl rfl | exact V4 | exact V5 rfl | exact V3 rfl (by simp) | exact V1 (by simp) | exact V3 rfl (by simp; omega) | exact V1 (by simp; omega) | exact V6 rfl rfl (by first | rfl | simp) (by simp) rfl | apply V7 | apply V8 | apply V9); fail_if_success focus skip) ⟨_, rfl, rfl, by simp only [true_iff] at hb; simp [sameM, hb]⟩
end Go.Proofs.Ytpbedckdnoogpaa
