/- The law ProgramsRun, walked: its programs. -/
import Derived.Test.YtpbedckdnoogpaaLb
import Derived.Test.YtpbedckdnoogpaaLc
import Derived.Test.YtpbedckdnoogpaaRe
set_option linter.unusedSimpArgs false
set_option linter.unusedVariables false
namespace Go.Proofs.Ytpbedckdnoogpaa
open Go Go.RowKit
set_option maxRecDepth 100000
theorem rd_dec_t {P : Program} {N : Nat} {E : Env} {o : Oper} {F : Fm} {H : List OB} {p : Prop} {_ : Decidable p} (hp : p) (h : Rd P N E o F H (.c (.s (.bool (decide p))))) : Rd P N E o F H (.c (.s (.bool true))) := by
  rwa [decide_eq_true hp] at h
theorem rd_eqlb_t {P : Program} {N : Nat} {E : Env} {o : Oper} {F : Fm} {H : List OB} {x y : Operand} {t yt : TypeId} {b : Bool} (ho : o.op = .binOp .eql t x y yt) (hx : ev F x = some (.c (.s (.bool b)))) (hy : ev F y = some (.c (.s (.bool b)))) (ht : P.underlying t = some .bool) : Rd P N E o F H (.c (.s (.bool true))) := by
  have h := rd_eqlb (P := P) (N := N) (E := E) (H := H) ho hx hy ht
  rwa [beq_self_eq_true] at h
def Mach.in (m : Mach) : Prop := in64 m.x ∧ in64 m.y ∧ in64 m.z
theorem wrap64_64 (n : Int) : in64 (wrap64 n) := by
  unfold in64 wrap64
  omega
theorem relS_64 {r : Bool} {a b : Int} (h : in64 b) : in64 (relS r a b) := by
  unfold relS
  split
  · exact wrap64_64 _
  · exact h
theorem afterS_in {m : Mach} {s : Step} (hm : m.in) (hs : s.ok) : (afterS m s).in := by
  obtain ⟨m1, m2, m3⟩ := hm
  obtain ⟨s1, s2, s3, s4, s5, s6⟩ := hs
  unfold afterS
  repeat' split
  all_goals first
    | exact ⟨m1, m2, m3⟩
    | exact ⟨relS_64 s2, relS_64 s3, m3⟩
    | exact ⟨m1, m2, relS_64 s4⟩
theorem absStep_ok {m : Mach} {s : Step} (hm : m.in) (hs : s.ok) : (absStep m s).ok := by
  obtain ⟨m1, m2, m3⟩ := hm
  obtain ⟨s1, s2, s3, s4, s5, s6⟩ := hs
  unfold absStep
  repeat' split
  · exact ⟨s1, m1, m2, s4, s5, s6⟩
  · exact ⟨s1, s2, s3, m3, s5, s6⟩
  · exact ⟨s1, s2, s3, s4, s5, s6⟩
theorem absFrom_ok : ∀ (l : List Step) (m : Mach), m.in → (∀ s ∈ l, s.ok) → ∀ s ∈ absFrom m l, s.ok
  | [], _, _, _, s, hs => by simp [absFrom] at hs
  | t :: l, m, hm, hl, s, hs => by
    have ht := hl t (by simp)
    have h1 := afterS_in hm ht
    unfold absFrom at hs
    split at hs
    · exact absFrom_ok l _ h1 (fun s h => hl s (by simp [h])) s hs
    · rcases List.mem_cons.1 hs with rfl | hs
      · exact absStep_ok h1 ht
      · exact absFrom_ok l _ h1 (fun s h => hl s (by simp [h])) s hs
theorem absS_ok {l : List Step} (hl : ∀ s ∈ l, s.ok) : ∀ s ∈ absS l, s.ok := absFrom_ok l _ (by simp [Mach.in, in64]) hl
theorem law_a (v : Value) (zs : List Int) (hs : StrOk zs) : ACalls Try.prog 3 [.c (.r v (zs.map fun z => [I z]))] [] fun u H => u = .c (B true) := by
  refine acalls_of (N := 129) Try.func3 rfl rfl (by simp) fun E hE => ?_
  repeat with_reducible first | refine S1 ?_ | refine S2 ?_ | refine S3 ?_ | refine S4 ?_ | refine S5 ?_ | refine S6 ?_ | refine S7 ?_ | refine S8 ?_ | refine S9 rfl ?_ | refine SA ?_ | refine SB ?_ | refine SC ?_
  refine aw_region ?_
  refine RA rfl rfl (by decide) (rd_assign rfl rfl) ?_
  refine al_nil ?_
  repeat with_reducible first | refine S1 ?_ | refine S2 ?_ | refine S3 ?_ | refine S4 ?_ | refine S5 ?_ | refine S6 ?_ | refine S7 ?_ | refine S8 ?_ | refine S9 rfl ?_ | refine SA ?_ | refine SB ?_ | refine SC ?_
  refine aw_region ?_
  refine RA rfl rfl (by decide) (rd_move rfl rfl) ?_
  refine RA rfl rfl (by decide) (rd_build rfl Tz25 rfl Tb25 (.cons rfl rfl rfl (by simp) rfl (by (try simp only [nm, putL, Nat.reduceAdd, cellsOf, cvOf]) <;> rfl) (.nil))) ?_
  refine EA rfl (ef_boxn rfl rfl (by decide) rfl (by (try simp only [nm, putL, Nat.reduceAdd, cellsOf, cvOf]) <;> rfl) rfl (by (try simp only [nm, putL, Nat.reduceAdd, cellsOf, cvOf]) <;> rfl) (by (try simp only [nm, putL, Nat.reduceAdd, cellsOf, cvOf]) <;> rfl)) ?_
  refine RA rfl rfl (by decide) (rd_assign rfl rfl) ?_
  refine al_nil ?_
  repeat with_reducible first | refine S1 ?_ | refine S2 ?_ | refine S3 ?_ | refine S4 ?_ | refine S5 ?_ | refine S6 ?_ | refine S7 ?_ | refine S8 ?_ | refine S9 rfl ?_ | refine SA ?_ | refine SB ?_ | refine SC ?_
  repeat with_reducible first | refine S1 ?_ | refine S2 ?_ | refine S3 ?_ | refine S4 ?_ | refine S5 ?_ | refine S6 ?_ | refine S7 ?_ | refine S8 ?_ | refine S9 rfl ?_ | refine SA ?_ | refine SB ?_ | refine SC ?_
  refine aw_region ?_
  refine RA rfl rfl (by decide) (rd_move rfl rfl) ?_
  refine al_ef rfl (ef_callm false (fun _ => steplist_a 12 v zs _ hs (by omega) (by omega) (by omega) (by omega)) rfl .fn rfl (by decide) Tc9 rfl rfl (fun _g => .cons (.p rfl) (.cons (.c rfl) .nil)) (fun _g => .cons (.c rfl) (.cons (.c rfl) .nil)) (by simp)) ?_
  rintro F1 H1 ⟨_, _, _, _, ⟨l1, c1, a1, rfl, hq, hp1, hr1, hok1, hl1⟩, hF, hH⟩
  injection hq with hq1 hq2; subst hq1; subst hq2
  (try simp only [nsl, Nat.reduceAdd, Nat.reduceLT, Nat.reduceSub] at hF); (try simp only [nsl, Nat.reduceAdd, Nat.reduceLT, Nat.reduceSub] at hH); subst hF; subst hH
  refine RA rfl rfl (by decide) (rd_move rfl rfl) ?_
  refine al_ef rfl (ef_callm false (fun _ => steplist_a 4 v zs _ hs (by omega) (by omega) (by omega) (by omega)) rfl .fn rfl (by decide) Tc9 rfl rfl (fun _g => .cons (.p rfl) (.cons (.c rfl) .nil)) (fun _g => .cons (.c rfl) (.cons (.c rfl) .nil)) (by simp)) ?_
  rintro F1 H1 ⟨_, _, _, _, ⟨l2, c2, a2, rfl, hq, hp2, hr2, hok2, hl2⟩, hF, hH⟩
  injection hq with hq1 hq2; subst hq1; subst hq2
  (try simp only [nsl, Nat.reduceAdd, Nat.reduceLT, Nat.reduceSub] at hF); (try simp only [nsl, Nat.reduceAdd, Nat.reduceLT, Nat.reduceSub] at hH); subst hF; subst hH
  refine RA rfl rfl (by decide) (rd_assign rfl rfl) ?_
  refine RA rfl rfl (by decide) (rd_assign rfl rfl) ?_
  refine al_nil ?_
  refine aseq_n ?_
  refine aw_wk (wk_of (K := fun F H => ∃ v1 v2, F = [(3, .p 0 0 0), (4, .c (prog_r v1 l1)), (5, .c (prog_r v2 l2))] ∧ H = [strm v zs a2]) [some 0] (fun g => [(3, .p 0 0 0), (4, .c (prog_r (g (.o 1 0 l1.length c1)) l1)), (5, .c (prog_r (g (.o 2 0 l2.length c2)) l2))]) (fun _ => _) (by decide) (by rw [hE]; exact (fun _ hi => absurd hi (Nat.not_lt_zero _))) (fun _g => .cons rfl (.p rfl) (.cons rfl (.frz rfl rfl (by rw [List.drop_zero, List.take_of_length_le (by simp)]) (by simp) rfl) (.cons rfl (.frz rfl rfl (by rw [List.drop_zero, List.take_of_length_le (by simp)]) (by simp) rfl) .nil))) (by intro _g; (repeat first | exact K0 | apply K1 rfl | apply K2 rfl rfl | apply K2 rfl (by simp) | apply K3 | exact L0 | apply L1 | exact V1 rfl | exact V2 rfl | exact V3 rfl rfl | exact V4 | exact V5 rfl | exact V3 rfl (by simp) | exact V1 (by simp) | exact V3 rfl (by simp; omega) | exact V1 (by simp; omega) | exact V6 rfl rfl (by first | rfl | simp) (by simp) rfl | apply V7 | apply V8 | apply V9); fail_if_success focus skip) (fun g => ⟨_, _, rfl, rfl⟩)) ?_
  rintro F H ⟨v1, v2, rfl, rfl⟩
  refine aw_seq ?_
  refine aw_cut (fun F H => ∃ v3 l3, (∀ s ∈ l3, s.ok) ∧ l3.length ≤ 1000 ∧ F = [(4, .c (prog_r v1 l1)), (5, .c (prog_r v3 l3))] ∧ ∃ a3, H = [strm v zs a3]) ?_ ?_ wk_aw
  · repeat with_reducible first | refine S1 ?_ | refine S2 ?_ | refine S3 ?_ | refine S4 ?_ | refine S5 ?_ | refine S6 ?_ | refine S7 ?_ | refine S8 ?_ | refine S9 rfl ?_ | refine SA ?_ | refine SB ?_ | refine SC ?_
    by_cases h0 : progF l1 = 0
    · repeat with_reducible first | refine S1 ?_ | refine S2 ?_ | refine S3 ?_ | refine S4 ?_ | refine S5 ?_ | refine S6 ?_ | refine S7 ?_ | refine S8 ?_ | refine S9 rfl ?_ | refine SA ?_ | refine SB ?_ | refine SC ?_
      refine aw_region ?_
      refine RA rfl rfl (by decide) (rd_move rfl rfl) ?_
      refine al_ef rfl (ef_call0 false (fun _ => qsteps_a l1 v1 (by omega)) rfl .fn rfl (by decide) Tc10 rfl (by intro _g; (repeat first | exact K0 | apply K1 rfl | apply K2 rfl rfl | apply K2 rfl (by simp) | apply K3 | exact L0 | apply L1 | exact V1 rfl | exact V2 rfl | exact V3 rfl rfl | exact V4 | exact V5 rfl | exact V3 rfl (by simp) | exact V1 (by simp) | exact V3 rfl (by simp; omega) | exact V1 (by simp; omega) | exact V6 rfl rfl (by first | rfl | simp) (by simp) rfl | apply V7 | apply V8 | apply V9); fail_if_success focus skip) (by simp)) ?_
      rintro _ _ ⟨_, _, _, ⟨rfl, rfl⟩, hF, hH⟩
      (try simp only [nsl, Nat.reduceAdd, Nat.reduceLT, Nat.reduceSub] at hF); (try simp only [nsl, Nat.reduceAdd, Nat.reduceLT, Nat.reduceSub] at hH); subst hF; subst hH
      first | refine RA rfl rfl (by decide) (rd_eql_t rfl rfl rfl (by omega)) ?_ | refine RA rfl rfl (by decide) (rd_eql_f rfl rfl rfl (by omega)) ?_ | refine RA rfl rfl (by decide) (rd_eql rfl rfl rfl) ?_
      refine RA rfl rfl (by decide) (rd_move rfl rfl) ?_
      first | (refine G1 rfl ?_; (refine RA rfl rfl (by decide) (rd_move rfl rfl) ?_)) | refine G2 rfl rfl (by decide) ?_
      first | refine G2 rfl rfl (by decide) ?_ | (refine G1 rfl ?_; refine al_ef rfl (ef_callm false (fun _ => flip_a 2 _ _ _ hs (by omega) (by omega) (by simp only [in64]; omega)) rfl .fn rfl (by decide) Tc11 rfl rfl (fun _g => .cons (.p rfl) (.cons (.c rfl) .nil)) (fun _g => .cons (.c rfl) (.cons (.c rfl) .nil)) (by simp)) ?_; rintro F1 H1 ⟨_, _, _, _, ⟨bb, rfl, hq⟩, hF, hH⟩; injection hq with hq1 hq2; subst hq1; subst hq2; (try simp only [nsl, Nat.reduceAdd, Nat.reduceLT, Nat.reduceSub] at hF); (try simp only [nsl, Nat.reduceAdd, Nat.reduceLT, Nat.reduceSub] at hH); subst hF; subst hH; cases bb)
      all_goals (first | refine RA rfl rfl (by decide) (rd_pick_t rfl rfl rfl) ?_ | refine RA rfl rfl (by decide) (rd_pick_f rfl rfl rfl) ?_)
      all_goals (refine al_nil ?_)
      all_goals (refine aseq_n ?_)
      · refine aw_cond_f rfl ?_
        repeat with_reducible first | refine S1 ?_ | refine S2 ?_ | refine S3 ?_ | refine S4 ?_ | refine S5 ?_ | refine S6 ?_ | refine S7 ?_ | refine S8 ?_ | refine S9 rfl ?_ | refine SA ?_ | refine SB ?_ | refine SC ?_
        exact wk_of [some 0] (fun g => [(4, .c (prog_r v1 l1)), (5, .c (prog_r v2 l2))]) (fun _ => _) (by decide) (by rw [hE]; exact (fun _ hi => absurd hi (Nat.not_lt_zero _))) (fun _g => .cons rfl (.c rfl) (.cons rfl (.c rfl) .nil)) (by intro _g; (repeat first | exact K0 | apply K1 rfl | apply K2 rfl rfl | apply K2 rfl (by simp) | apply K3 | exact L0 | apply L1 | exact V1 rfl | exact V2 rfl | exact V3 rfl rfl | exact V4 | exact V5 rfl | exact V3 rfl (by simp) | exact V1 (by simp) | exact V3 rfl (by simp; omega) | exact V1 (by simp; omega) | exact V6 rfl rfl (by first | rfl | simp) (by simp) rfl | apply V7 | apply V8 | apply V9); fail_if_success focus skip) (fun g => ⟨_, _, hok2, by omega, rfl, _, rfl⟩)
      · refine aw_cond_t rfl ?_
        repeat with_reducible first | refine S1 ?_ | refine S2 ?_ | refine S3 ?_ | refine S4 ?_ | refine S5 ?_ | refine S6 ?_ | refine S7 ?_ | refine S8 ?_ | refine S9 rfl ?_ | refine SA ?_ | refine SB ?_ | refine SC ?_
        obtain ⟨l3, hl3⟩ : ∃ l3, l3 = (if progF (absS l1) = 0 then absS l1 else []) := ⟨_, rfl⟩
        have hok3 : ∀ s ∈ l3, s.ok := by
          rw [hl3]
          split
          · exact absS_ok hok1
          · intro s h; cases h
        have hlen3 : l3.length ≤ l1.length := by
          rw [hl3]
          split
          · exact absFrom_len l1 _
          · simp
        repeat with_reducible first | refine S1 ?_ | refine S2 ?_ | refine S3 ?_ | refine S4 ?_ | refine S5 ?_ | refine S6 ?_ | refine S7 ?_ | refine S8 ?_ | refine S9 rfl ?_ | refine SA ?_ | refine SB ?_ | refine SC ?_
        refine aw_region ?_
        refine RA rfl rfl (by decide) (rd_move rfl rfl) ?_
        refine al_ef rfl (ef_call0 false (fun _ => qabsof_a l1 v1 (by omega) hok1) rfl .fn rfl (by decide) Tc12 rfl (by intro _g; (repeat first | exact K0 | apply K1 rfl | apply K2 rfl rfl | apply K2 rfl (by simp) | apply K3 | exact L0 | apply L1 | exact V1 rfl | exact V2 rfl | exact V3 rfl rfl | exact V4 | exact V5 rfl | exact V3 rfl (by simp) | exact V1 (by simp) | exact V3 rfl (by simp; omega) | exact V1 (by simp; omega) | exact V6 rfl rfl (by first | rfl | simp) (by simp) rfl | apply V7 | apply V8 | apply V9); fail_if_success focus skip) (by simp)) ?_
        rintro _ _ ⟨_, _, _, ⟨v3, rfl, rfl⟩, hF, hH⟩
        rw [← hl3] at hF
        (try simp only [nsl, Nat.reduceAdd, Nat.reduceLT, Nat.reduceSub] at hF); (try simp only [nsl, Nat.reduceAdd, Nat.reduceLT, Nat.reduceSub] at hH); subst hF; subst hH
        refine RA rfl rfl (by decide) (rd_move rfl rfl) ?_
        refine RA rfl rfl (by decide) (rd_extract rfl rfl rfl) ?_
        refine RA rfl rfl (by decide) (rd_extract rfl rfl rfl) ?_
        refine RA rfl rfl (by decide) (rd_assign rfl rfl) ?_
        refine al_nil ?_
        repeat with_reducible first | refine S1 ?_ | refine S2 ?_ | refine S3 ?_ | refine S4 ?_ | refine S5 ?_ | refine S6 ?_ | refine S7 ?_ | refine S8 ?_ | refine S9 rfl ?_ | refine SA ?_ | refine SB ?_ | refine SC ?_
        have e3 : (l3.map Step.row).length = l3.length := by simp
        by_cases hz : l3.length = 0
        · repeat with_reducible first | refine S1 ?_ | refine S2 ?_ | refine S3 ?_ | refine S4 ?_ | refine S5 ?_ | refine S6 ?_ | refine S7 ?_ | refine S8 ?_ | refine S9 rfl ?_ | refine SA ?_ | refine SB ?_ | refine SC ?_
          refine aw_region ?_
          refine RA rfl rfl (by decide) (rd_move rfl rfl) ?_
          first | refine RA rfl rfl (by decide) (rd_len rfl Te26 rfl) ?_ | refine RA rfl rfl (by decide) (rd_lenr rfl Te26 rfl) ?_
          first | refine RA rfl rfl (by decide) (rd_gtr_t rfl rfl rfl (by omega)) ?_ | refine RA rfl rfl (by decide) (rd_gtr_f rfl rfl rfl (by omega)) ?_ | refine RA rfl rfl (by decide) (rd_gtr rfl rfl rfl) ?_
          refine RA rfl rfl (by decide) (rd_move rfl rfl) ?_
          first | (refine G1 rfl ?_; (refine RA rfl rfl (by decide) (rd_move rfl rfl) ?_)) | refine G2 rfl rfl (by decide) ?_
          first | refine G2 rfl rfl (by decide) ?_ | (refine G1 rfl ?_; refine al_ef rfl (ef_callm false (fun _ => flip_a 3 _ _ _ hs (by omega) (by omega) (by simp only [in64]; omega)) rfl .fn rfl (by decide) Tc11 rfl rfl (fun _g => .cons (.p rfl) (.cons (.c rfl) .nil)) (fun _g => .cons (.c rfl) (.cons (.c rfl) .nil)) (by simp)) ?_; rintro F1 H1 ⟨_, _, _, _, ⟨bb, rfl, hq⟩, hF, hH⟩; injection hq with hq1 hq2; subst hq1; subst hq2; (try simp only [nsl, Nat.reduceAdd, Nat.reduceLT, Nat.reduceSub] at hF); (try simp only [nsl, Nat.reduceAdd, Nat.reduceLT, Nat.reduceSub] at hH); subst hF; subst hH; cases bb)
          all_goals (first | refine RA rfl rfl (by decide) (rd_pick_t rfl rfl rfl) ?_ | refine RA rfl rfl (by decide) (rd_pick_f rfl rfl rfl) ?_)
          all_goals (refine al_nil ?_)
          all_goals (refine aseq_n ?_)
          refine aw_cond_f rfl ?_
          repeat with_reducible first | refine S1 ?_ | refine S2 ?_ | refine S3 ?_ | refine S4 ?_ | refine S5 ?_ | refine S6 ?_ | refine S7 ?_ | refine S8 ?_ | refine S9 rfl ?_ | refine SA ?_ | refine SB ?_ | refine SC ?_
          exact wk_of [some 0] (fun g => [(4, .c (prog_r v1 l1)), (5, .c (prog_r v3 l3))]) (fun _ => _) (by decide) (by rw [hE]; exact (fun _ hi => absurd hi (Nat.not_lt_zero _))) (fun _g => .cons rfl (.c rfl) (.cons rfl (.c rfl) .nil)) (by intro _g; (repeat first | exact K0 | apply K1 rfl | apply K2 rfl rfl | apply K2 rfl (by simp) | apply K3 | exact L0 | apply L1 | exact V1 rfl | exact V2 rfl | exact V3 rfl rfl | exact V4 | exact V5 rfl | exact V3 rfl (by simp) | exact V1 (by simp) | exact V3 rfl (by simp; omega) | exact V1 (by simp; omega) | exact V6 rfl rfl (by first | rfl | simp) (by simp) rfl | apply V7 | apply V8 | apply V9); fail_if_success focus skip) (fun g => ⟨_, _, hok3, by omega, rfl, _, rfl⟩)
        · repeat with_reducible first | refine S1 ?_ | refine S2 ?_ | refine S3 ?_ | refine S4 ?_ | refine S5 ?_ | refine S6 ?_ | refine S7 ?_ | refine S8 ?_ | refine S9 rfl ?_ | refine SA ?_ | refine SB ?_ | refine SC ?_
          refine aw_region ?_
          refine RA rfl rfl (by decide) (rd_move rfl rfl) ?_
          first | refine RA rfl rfl (by decide) (rd_len rfl Te26 rfl) ?_ | refine RA rfl rfl (by decide) (rd_lenr rfl Te26 rfl) ?_
          first | refine RA rfl rfl (by decide) (rd_gtr_t rfl rfl rfl (by omega)) ?_ | refine RA rfl rfl (by decide) (rd_gtr_f rfl rfl rfl (by omega)) ?_ | refine RA rfl rfl (by decide) (rd_gtr rfl rfl rfl) ?_
          refine RA rfl rfl (by decide) (rd_move rfl rfl) ?_
          first | (refine G1 rfl ?_; (refine RA rfl rfl (by decide) (rd_move rfl rfl) ?_)) | refine G2 rfl rfl (by decide) ?_
          first | refine G2 rfl rfl (by decide) ?_ | (refine G1 rfl ?_; refine al_ef rfl (ef_callm false (fun _ => flip_a 3 _ _ _ hs (by omega) (by omega) (by simp only [in64]; omega)) rfl .fn rfl (by decide) Tc11 rfl rfl (fun _g => .cons (.p rfl) (.cons (.c rfl) .nil)) (fun _g => .cons (.c rfl) (.cons (.c rfl) .nil)) (by simp)) ?_; rintro F1 H1 ⟨_, _, _, _, ⟨bb, rfl, hq⟩, hF, hH⟩; injection hq with hq1 hq2; subst hq1; subst hq2; (try simp only [nsl, Nat.reduceAdd, Nat.reduceLT, Nat.reduceSub] at hF); (try simp only [nsl, Nat.reduceAdd, Nat.reduceLT, Nat.reduceSub] at hH); subst hF; subst hH; cases bb)
          all_goals (first | refine RA rfl rfl (by decide) (rd_pick_t rfl rfl rfl) ?_ | refine RA rfl rfl (by decide) (rd_pick_f rfl rfl rfl) ?_)
          all_goals (refine al_nil ?_)
          all_goals (refine aseq_n ?_)
          · refine aw_cond_f rfl ?_
            repeat with_reducible first | refine S1 ?_ | refine S2 ?_ | refine S3 ?_ | refine S4 ?_ | refine S5 ?_ | refine S6 ?_ | refine S7 ?_ | refine S8 ?_ | refine S9 rfl ?_ | refine SA ?_ | refine SB ?_ | refine SC ?_
            exact wk_of [some 0] (fun g => [(4, .c (prog_r v1 l1)), (5, .c (prog_r v3 l3))]) (fun _ => _) (by decide) (by rw [hE]; exact (fun _ hi => absurd hi (Nat.not_lt_zero _))) (fun _g => .cons rfl (.c rfl) (.cons rfl (.c rfl) .nil)) (by intro _g; (repeat first | exact K0 | apply K1 rfl | apply K2 rfl rfl | apply K2 rfl (by simp) | apply K3 | exact L0 | apply L1 | exact V1 rfl | exact V2 rfl | exact V3 rfl rfl | exact V4 | exact V5 rfl | exact V3 rfl (by simp) | exact V1 (by simp) | exact V3 rfl (by simp; omega) | exact V1 (by simp; omega) | exact V6 rfl rfl (by first | rfl | simp) (by simp) rfl | apply V7 | apply V8 | apply V9); fail_if_success focus skip) (fun g => ⟨_, _, hok3, by omega, rfl, _, rfl⟩)
          · refine aw_cond_t rfl ?_
            repeat with_reducible first | refine S1 ?_ | refine S2 ?_ | refine S3 ?_ | refine S4 ?_ | refine S5 ?_ | refine S6 ?_ | refine S7 ?_ | refine S8 ?_ | refine S9 rfl ?_ | refine SA ?_ | refine SB ?_ | refine SC ?_
            repeat with_reducible first | refine S1 ?_ | refine S2 ?_ | refine S3 ?_ | refine S4 ?_ | refine S5 ?_ | refine S6 ?_ | refine S7 ?_ | refine S8 ?_ | refine S9 rfl ?_ | refine SA ?_ | refine SB ?_ | refine SC ?_
            refine aw_region ?_
            refine RA rfl rfl (by decide) (rd_move rfl rfl) ?_
            refine RA rfl rfl (by decide) (rd_move rfl rfl) ?_
            first | refine RA rfl rfl (by decide) (rd_len rfl Te26 rfl) ?_ | refine RA rfl rfl (by decide) (rd_lenr rfl Te26 rfl) ?_
            refine al_ef rfl (ef_callm false (fun _ => next_a _ _ _ _ hs (by omega) (by omega) (by simp only [in64]; omega)) rfl .fn rfl (by decide) Tc13 rfl rfl (fun _g => .cons (.p rfl) (.cons (.c rfl) .nil)) (fun _g => .cons (.c rfl) (.cons (.c rfl) .nil)) (by simp)) ?_
            rintro F1 H1 ⟨_, _, _, _, ⟨r, rfl, hq, hr1, hr2⟩, hF, hH⟩
            injection hq with hq1 hq2; subst hq1; subst hq2
            (try simp only [nsl, Nat.reduceAdd, Nat.reduceLT, Nat.reduceSub] at hF); (try simp only [nsl, Nat.reduceAdd, Nat.reduceLT, Nat.reduceSub] at hH); subst hF; subst hH
            refine RA rfl rfl (by decide) (rd_assign rfl rfl) ?_
            refine al_nil ?_
            repeat with_reducible first | refine S1 ?_ | refine S2 ?_ | refine S3 ?_ | refine S4 ?_ | refine S5 ?_ | refine S6 ?_ | refine S7 ?_ | refine S8 ?_ | refine S9 rfl ?_ | refine SA ?_ | refine SB ?_ | refine SC ?_
            obtain ⟨i, rfl⟩ : ∃ i : Nat, r = i := ⟨r.toNat, by omega⟩
            have hi : i < l3.length := by simp at hr2; omega
            repeat with_reducible first | refine S1 ?_ | refine S2 ?_ | refine S3 ?_ | refine S4 ?_ | refine S5 ?_ | refine S6 ?_ | refine S7 ?_ | refine S8 ?_ | refine S9 rfl ?_ | refine SA ?_ | refine SB ?_ | refine SC ?_
            refine aw_region ?_
            refine RA rfl rfl (by decide) (rd_move rfl rfl) ?_
            refine al_ef rfl (ef_call0 false (fun _ => clone_a l3 v3 (by omega)) rfl .fn rfl (by decide) Tc15 rfl (by intro _g; (repeat first | exact K0 | apply K1 rfl | apply K2 rfl rfl | apply K2 rfl (by simp) | apply K3 | exact L0 | apply L1 | exact V1 rfl | exact V2 rfl | exact V3 rfl rfl | exact V4 | exact V5 rfl | exact V3 rfl (by simp) | exact V1 (by simp) | exact V3 rfl (by simp; omega) | exact V1 (by simp; omega) | exact V6 rfl rfl (by first | rfl | simp) (by simp) rfl | apply V7 | apply V8 | apply V9); fail_if_success focus skip) (by simp)) ?_
            rintro _ _ ⟨_, _, _, ⟨c3, hc3, rfl, rfl⟩, hF, hH⟩
            (try simp only [nsl, Nat.reduceAdd, Nat.reduceLT, Nat.reduceSub] at hF); (try simp only [nsl, Nat.reduceAdd, Nat.reduceLT, Nat.reduceSub] at hH); subst hF; subst hH
            refine RA rfl rfl (by decide) (rd_move rfl rfl) ?_
            refine RA rfl rfl (by decide) (rd_move rfl rfl) ?_
            first | refine RA rfl rfl (by decide) (rd_addn rfl rfl rfl (by omega)) ?_ | refine RA rfl rfl (by decide) (rd_add rfl rfl rfl) ?_
            refine al_ef rfl (ef_call [1] (fun _ => [.arr 36 6 c3 (l3.map Step.row)]) false (fun _ => delete_a l3 i c3 hi (by omega) hc3) rfl .fn rfl (by decide) Tc14 rfl (by intro _g; (repeat first | exact K0 | apply K1 rfl | apply K2 rfl rfl | apply K2 rfl (by simp) | apply K3 | exact L0 | apply L1 | exact V1 rfl | exact V2 rfl | exact V3 rfl rfl | exact V4 | exact V5 rfl | exact V3 rfl (by simp) | exact V1 (by simp) | exact V3 rfl (by simp; omega) | exact V1 (by simp; omega) | exact V6 rfl rfl (by first | rfl | simp) (by simp) rfl | apply V7 | apply V8 | apply V9); fail_if_success focus skip) (by decide) (by intro _g; (repeat first | exact K0 | apply K1 rfl | apply K2 rfl rfl | apply K2 rfl (by simp) | apply K3 | exact L0 | apply L1 | exact V1 rfl | exact V2 rfl | exact V3 rfl rfl | exact V4 | exact V5 rfl | exact V3 rfl (by simp) | exact V1 (by simp) | exact V3 rfl (by simp; omega) | exact V1 (by simp; omega) | exact V6 rfl rfl (by first | rfl | simp) (by simp) rfl | apply V7 | apply V8 | apply V9); fail_if_success focus skip) (by simp)) ?_
            rintro F1 H1 ⟨_, _, _, _, ⟨l4, hl4, rfl, hq⟩, hF, hH⟩
            subst hq
            (try simp only [List.set_cons_zero, List.set_cons_succ, updH, posOf, lentArr, killF, killO, killV, AV.has, AV.hasL, AV.emb, AV.embL, OB.emb, embB, List.filter_cons, List.filter_nil, List.getElem?_cons_zero, List.getElem?_cons_succ, List.getD_cons_zero, List.getD_cons_succ, List.drop_succ_cons, List.drop_zero, List.drop_nil, List.contains_cons, List.contains_nil, Nat.reduceBEq, Nat.reduceEqDiff, beq_self_eq_true, Bool.or_false, Bool.false_or, Bool.or_true, Bool.true_or, Bool.false_eq_true, Option.map_some, Option.map_none, List.map_cons, List.map_nil, List.cons_append, List.nil_append, List.append_nil, List.length_cons, List.length_nil, Nat.reduceAdd, Nat.reduceLT, Nat.reduceSub, if_true, if_false, Nat.zero_add, Nat.add_zero, Nat.sub_zero, Nat.lt_irrefl, Nat.not_lt_zero, Nat.zero_lt_one, Nat.lt_add_one] at hF); (try simp only [List.set_cons_zero, List.set_cons_succ, updH, posOf, lentArr, killF, killO, killV, AV.has, AV.hasL, AV.emb, AV.embL, OB.emb, embB, List.filter_cons, List.filter_nil, List.getElem?_cons_zero, List.getElem?_cons_succ, List.getD_cons_zero, List.getD_cons_succ, List.drop_succ_cons, List.drop_zero, List.drop_nil, List.contains_cons, List.contains_nil, Nat.reduceBEq, Nat.reduceEqDiff, beq_self_eq_true, Bool.or_false, Bool.false_or, Bool.or_true, Bool.true_or, Bool.false_eq_true, Option.map_some, Option.map_none, List.map_cons, List.map_nil, List.cons_append, List.nil_append, List.append_nil, List.length_cons, List.length_nil, Nat.reduceAdd, Nat.reduceLT, Nat.reduceSub, if_true, if_false, Nat.zero_add, Nat.add_zero, Nat.sub_zero, Nat.lt_irrefl, Nat.not_lt_zero, Nat.zero_lt_one, Nat.lt_add_one] at hH); subst hF; subst hH
            refine RA rfl rfl (by decide) (rd_assign rfl rfl) ?_
            refine al_nil ?_
            repeat with_reducible first | refine S1 ?_ | refine S2 ?_ | refine S3 ?_ | refine S4 ?_ | refine S5 ?_ | refine S6 ?_ | refine S7 ?_ | refine S8 ?_ | refine S9 rfl ?_ | refine SA ?_ | refine SB ?_ | refine SC ?_
            have hok4 : ∀ s ∈ l4, s.ok := fun s h => by
              rw [hl4] at h
              rcases List.mem_append.1 h with h | h
              · exact hok3 s (List.mem_of_mem_take h)
              · exact hok3 s (List.mem_of_mem_drop h)
            have hlen4 : l4.length ≤ 1000 := by rw [hl4]; simp; omega
            exact wk_of [some 0] (fun g => [(4, .c (prog_r v1 l1)), (5, .c (prog_r (g (.o 1 0 l4.length c3)) l4))]) (fun _ => _) (by decide) (by rw [hE]; exact (fun _ hi => absurd hi (Nat.not_lt_zero _))) (fun _g => .cons rfl (.c rfl) (.cons rfl (.frz rfl rfl (by rw [List.drop_zero, List.take_of_length_le (by simp)]) (by simp) rfl) .nil)) (by intro _g; (repeat first | exact K0 | apply K1 rfl | apply K2 rfl rfl | apply K2 rfl (by simp) | apply K3 | exact L0 | apply L1 | exact V1 rfl | exact V2 rfl | exact V3 rfl rfl | exact V4 | exact V5 rfl | exact V3 rfl (by simp) | exact V1 (by simp) | exact V3 rfl (by simp; omega) | exact V1 (by simp; omega) | exact V6 rfl rfl (by first | rfl | simp) (by simp) rfl | apply V7 | apply V8 | apply V9); fail_if_success focus skip) (fun g => ⟨_, _, hok4, hlen4, rfl, _, rfl⟩)
    · repeat with_reducible first | refine S1 ?_ | refine S2 ?_ | refine S3 ?_ | refine S4 ?_ | refine S5 ?_ | refine S6 ?_ | refine S7 ?_ | refine S8 ?_ | refine S9 rfl ?_ | refine SA ?_ | refine SB ?_ | refine SC ?_
      refine aw_region ?_
      refine RA rfl rfl (by decide) (rd_move rfl rfl) ?_
      refine al_ef rfl (ef_call0 false (fun _ => qsteps_a l1 v1 (by omega)) rfl .fn rfl (by decide) Tc10 rfl (by intro _g; (repeat first | exact K0 | apply K1 rfl | apply K2 rfl rfl | apply K2 rfl (by simp) | apply K3 | exact L0 | apply L1 | exact V1 rfl | exact V2 rfl | exact V3 rfl rfl | exact V4 | exact V5 rfl | exact V3 rfl (by simp) | exact V1 (by simp) | exact V3 rfl (by simp; omega) | exact V1 (by simp; omega) | exact V6 rfl rfl (by first | rfl | simp) (by simp) rfl | apply V7 | apply V8 | apply V9); fail_if_success focus skip) (by simp)) ?_
      rintro _ _ ⟨_, _, _, ⟨rfl, rfl⟩, hF, hH⟩
      (try simp only [nsl, Nat.reduceAdd, Nat.reduceLT, Nat.reduceSub] at hF); (try simp only [nsl, Nat.reduceAdd, Nat.reduceLT, Nat.reduceSub] at hH); subst hF; subst hH
      first | refine RA rfl rfl (by decide) (rd_eql_t rfl rfl rfl (by omega)) ?_ | refine RA rfl rfl (by decide) (rd_eql_f rfl rfl rfl (by omega)) ?_ | refine RA rfl rfl (by decide) (rd_eql rfl rfl rfl) ?_
      refine RA rfl rfl (by decide) (rd_move rfl rfl) ?_
      first | (refine G1 rfl ?_; (refine RA rfl rfl (by decide) (rd_move rfl rfl) ?_)) | refine G2 rfl rfl (by decide) ?_
      first | refine G2 rfl rfl (by decide) ?_ | (refine G1 rfl ?_; refine al_ef rfl (ef_callm false (fun _ => flip_a 2 _ _ _ hs (by omega) (by omega) (by simp only [in64]; omega)) rfl .fn rfl (by decide) Tc11 rfl rfl (fun _g => .cons (.p rfl) (.cons (.c rfl) .nil)) (fun _g => .cons (.c rfl) (.cons (.c rfl) .nil)) (by simp)) ?_; rintro F1 H1 ⟨_, _, _, _, ⟨bb, rfl, hq⟩, hF, hH⟩; injection hq with hq1 hq2; subst hq1; subst hq2; (try simp only [nsl, Nat.reduceAdd, Nat.reduceLT, Nat.reduceSub] at hF); (try simp only [nsl, Nat.reduceAdd, Nat.reduceLT, Nat.reduceSub] at hH); subst hF; subst hH; cases bb)
      all_goals (first | refine RA rfl rfl (by decide) (rd_pick_t rfl rfl rfl) ?_ | refine RA rfl rfl (by decide) (rd_pick_f rfl rfl rfl) ?_)
      all_goals (refine al_nil ?_)
      all_goals (refine aseq_n ?_)
      refine aw_cond_f rfl ?_
      repeat with_reducible first | refine S1 ?_ | refine S2 ?_ | refine S3 ?_ | refine S4 ?_ | refine S5 ?_ | refine S6 ?_ | refine S7 ?_ | refine S8 ?_ | refine S9 rfl ?_ | refine SA ?_ | refine SB ?_ | refine SC ?_
      exact wk_of [some 0] (fun g => [(4, .c (prog_r v1 l1)), (5, .c (prog_r v2 l2))]) (fun _ => _) (by decide) (by rw [hE]; exact (fun _ hi => absurd hi (Nat.not_lt_zero _))) (fun _g => .cons rfl (.c rfl) (.cons rfl (.c rfl) .nil)) (by intro _g; (repeat first | exact K0 | apply K1 rfl | apply K2 rfl rfl | apply K2 rfl (by simp) | apply K3 | exact L0 | apply L1 | exact V1 rfl | exact V2 rfl | exact V3 rfl rfl | exact V4 | exact V5 rfl | exact V3 rfl (by simp) | exact V1 (by simp) | exact V3 rfl (by simp; omega) | exact V1 (by simp; omega) | exact V6 rfl rfl (by first | rfl | simp) (by simp) rfl | apply V7 | apply V8 | apply V9); fail_if_success focus skip) (fun g => ⟨_, _, hok2, by omega, rfl, _, rfl⟩)
  rintro F H ⟨v3, l3, hok3, hl3, rfl, a3, rfl⟩
  clear hok2 hl2 hr2 hp2 l2 c2 v2
  refine aw_wk (wk_of (K := fun F H => F = [(4, .c (prog_r v1 l1)), (5, .c (prog_r v3 l3))] ∧ H = []) [] (fun _ => [(4, .c (prog_r v1 l1)), (5, .c (prog_r v3 l3))]) (fun _ => _) (by decide) (by rw [hE]; exact (fun _ hi => absurd hi (Nat.not_lt_zero _))) (by intro _g; (repeat first | exact W0 | apply W1 rfl | exact L0 | apply L1 | exact V1 rfl | exact V2 rfl | exact V3 rfl rfl | exact V4 | exact V5 rfl | exact V3 rfl (by simp) | exact V1 (by simp) | exact V3 rfl (by simp; omega) | exact V1 (by simp; omega) | exact V6 rfl rfl (by first | rfl | simp) (by simp) rfl | apply V7 | apply V8 | apply V9 | refine V1 ?_ | refine V3 rfl ?_); fail_if_success focus skip) (by intro _g; (repeat first | exact K0 | apply K1 rfl | apply K2 rfl rfl | apply K2 rfl (by simp) | apply K3 | exact L0 | apply L1 | exact V1 rfl | exact V2 rfl | exact V3 rfl rfl | exact V4 | exact V5 rfl | exact V3 rfl (by simp) | exact V1 (by simp) | exact V3 rfl (by simp; omega) | exact V1 (by simp; omega) | exact V6 rfl rfl (by first | rfl | simp) (by simp) rfl | apply V7 | apply V8 | apply V9); fail_if_success focus skip) (fun _ => ⟨rfl, rfl⟩)) ?_
  rintro F H ⟨rfl, rfl⟩
  obtain ⟨W, hW⟩ : ∃ W, W = (if progF l1 = 0 then runsS l1 else []) := ⟨_, rfl⟩
  obtain ⟨L, hL⟩ : ∃ L, L = (if progF l1 = 0 then lastS l1 else Mach.zero) := ⟨_, rfl⟩
  obtain ⟨p1, hp1⟩ : ∃ p, p = progF l1 := ⟨_, rfl⟩
  obtain ⟨p3, hp3⟩ : ∃ p, p = progF l3 := ⟨_, rfl⟩
  have hWl : W.length ≤ 1000 := by
    rw [hW]
    split
    · simp [runsS]; omega
    · simp
  repeat with_reducible first | refine S1 ?_ | refine S2 ?_ | refine S3 ?_ | refine S4 ?_ | refine S5 ?_ | refine S6 ?_ | refine S7 ?_ | refine S8 ?_ | refine S9 rfl ?_ | refine SA ?_ | refine SB ?_ | refine SC ?_
  refine aw_region ?_
  refine RA rfl rfl (by decide) (rd_move rfl rfl) ?_
  refine al_ef rfl (ef_call0 false (fun _ => run_a l1 v1 (by omega) hok1) rfl .fn rfl (by decide) Tc16 rfl (by intro _g; (repeat first | exact K0 | apply K1 rfl | apply K2 rfl rfl | apply K2 rfl (by simp) | apply K3 | exact L0 | apply L1 | exact V1 rfl | exact V2 rfl | exact V3 rfl rfl | exact V4 | exact V5 rfl | exact V3 rfl (by simp) | exact V1 (by simp) | exact V3 rfl (by simp; omega) | exact V1 (by simp; omega) | exact V6 rfl rfl (by first | rfl | simp) (by simp) rfl | apply V7 | apply V8 | apply V9); fail_if_success focus skip) (by simp)) ?_
  rintro _ _ ⟨_, _, _, ⟨vr, rfl, rfl⟩, hF, hH⟩
  rw [← hW, ← hp1] at hF
  (try simp only [nsl, Nat.reduceAdd, Nat.reduceLT, Nat.reduceSub] at hF); (try simp only [nsl, Nat.reduceAdd, Nat.reduceLT, Nat.reduceSub] at hH); subst hF; subst hH
  refine RA rfl rfl (by decide) (rd_move rfl rfl) ?_
  refine RA rfl rfl (by decide) (rd_extract rfl rfl rfl) ?_
  refine RA rfl rfl (by decide) (rd_extract rfl rfl rfl) ?_
  refine RA rfl rfl (by decide) (rd_assign rfl rfl) ?_
  refine RA rfl rfl (by decide) (rd_assign rfl rfl) ?_
  refine al_nil ?_
  repeat with_reducible first | refine S1 ?_ | refine S2 ?_ | refine S3 ?_ | refine S4 ?_ | refine S5 ?_ | refine S6 ?_ | refine S7 ?_ | refine S8 ?_ | refine S9 rfl ?_ | refine SA ?_ | refine SB ?_ | refine SC ?_
  refine aw_region ?_
  refine RA rfl rfl (by decide) (rd_move rfl rfl) ?_
  refine al_ef rfl (ef_call0 false (fun _ => last_a l1 v1 (by omega) hok1) rfl .fn rfl (by decide) Tc17 rfl (by intro _g; (repeat first | exact K0 | apply K1 rfl | apply K2 rfl rfl | apply K2 rfl (by simp) | apply K3 | exact L0 | apply L1 | exact V1 rfl | exact V2 rfl | exact V3 rfl rfl | exact V4 | exact V5 rfl | exact V3 rfl (by simp) | exact V1 (by simp) | exact V3 rfl (by simp; omega) | exact V1 (by simp; omega) | exact V6 rfl rfl (by first | rfl | simp) (by simp) rfl | apply V7 | apply V8 | apply V9); fail_if_success focus skip) (by simp)) ?_
  rintro _ _ ⟨_, _, _, ⟨rfl, rfl⟩, hF, hH⟩
  rw [← hL, ← hp1] at hF
  (try simp only [nsl, Nat.reduceAdd, Nat.reduceLT, Nat.reduceSub] at hF); (try simp only [nsl, Nat.reduceAdd, Nat.reduceLT, Nat.reduceSub] at hH); subst hF; subst hH
  refine RA rfl rfl (by decide) (rd_move rfl rfl) ?_
  refine RA rfl rfl (by decide) (rd_extract rfl rfl rfl) ?_
  refine RA rfl rfl (by decide) (rd_extract rfl rfl rfl) ?_
  refine EA rfl (ef_allocn rfl rfl (by decide) Tz42 rfl rfl (by (try simp only [nm, putL, Nat.reduceAdd, cellsOf, cvOf]) <;> rfl) (by (try simp only [nm, putL, Nat.reduceAdd, cellsOf, cvOf]) <;> rfl)) ?_
  first | refine EA rfl (ef_storen rfl rfl rfl rfl rfl Ts42 rfl (by simp) rfl (by (try simp only [nm, putL, Nat.reduceAdd, cellsOf, cvOf]) <;> rfl) (by (try simp only [nm, putL, Nat.reduceAdd, cellsOf, cvOf]) <;> rfl)) ?_ | refine EA rfl (ef_storern rfl rfl rfl rfl (by first | assumption | (rw [Nat.zero_add]; assumption)) rfl rfl Ts42 rfl (by simp) rfl (by (try simp only [nm, putL, Nat.reduceAdd, cellsOf, cvOf]) <;> rfl) rfl) ?_
  refine RA rfl rfl (by decide) (rd_assign rfl rfl) ?_
  refine al_nil ?_
  repeat with_reducible first | refine S1 ?_ | refine S2 ?_ | refine S3 ?_ | refine S4 ?_ | refine S5 ?_ | refine S6 ?_ | refine S7 ?_ | refine S8 ?_ | refine S9 rfl ?_ | refine SA ?_ | refine SB ?_ | refine SC ?_
  refine aw_region ?_
  refine RA rfl rfl (by decide) (rd_move rfl rfl) ?_
  refine RA rfl rfl (by decide) (rd_move rfl rfl) ?_
  refine al_ef rfl (ef_call0 false (fun _ => same_a l1 l3 v1 v3 (by omega) (by omega) hok1 hok3) rfl .fn rfl (by decide) Tc18 rfl (by intro _g; (repeat first | exact K0 | apply K1 rfl | apply K2 rfl rfl | apply K2 rfl (by simp) | apply K3 | exact L0 | apply L1 | exact V1 rfl | exact V2 rfl | exact V3 rfl rfl | exact V4 | exact V5 rfl | exact V3 rfl (by simp) | exact V1 (by simp) | exact V3 rfl (by simp; omega) | exact V1 (by simp; omega) | exact V6 rfl rfl (by first | rfl | simp) (by simp) rfl | apply V7 | apply V8 | apply V9); fail_if_success focus skip) (by simp)) ?_
  rintro _ _ ⟨_, _, _, ⟨ok, e, rfl, rfl, he, hok⟩, hF, hH⟩
  rw [← hp1, ← hp3] at he hok
  (try simp only [nsl, Nat.reduceAdd, Nat.reduceLT, Nat.reduceSub] at hF); (try simp only [nsl, Nat.reduceAdd, Nat.reduceLT, Nat.reduceSub] at hH); subst hF; subst hH
  refine RA rfl rfl (by decide) (rd_move rfl rfl) ?_
  refine RA rfl rfl (by decide) (rd_extract rfl rfl rfl) ?_
  refine RA rfl rfl (by decide) (rd_extract rfl rfl rfl) ?_
  refine RA rfl rfl (by decide) (rd_assign rfl rfl) ?_
  refine RA rfl rfl (by decide) (rd_assign rfl rfl) ?_
  refine al_nil ?_
  repeat with_reducible first | refine S1 ?_ | refine S2 ?_ | refine S3 ?_ | refine S4 ?_ | refine S5 ?_ | refine S6 ?_ | refine S7 ?_ | refine S8 ?_ | refine S9 rfl ?_ | refine SA ?_ | refine SB ?_ | refine SC ?_
  have hee : firstE [p1, p3] = e := by
    rw [he]; simp only [firstE]
    split
    · rfl
    · split
      · rfl
      · omega
  repeat with_reducible first | refine S1 ?_ | refine S2 ?_ | refine S3 ?_ | refine S4 ?_ | refine S5 ?_ | refine S6 ?_ | refine S7 ?_ | refine S8 ?_ | refine S9 rfl ?_ | refine SA ?_ | refine SB ?_ | refine SC ?_
  refine aw_region ?_
  refine RA rfl rfl (by decide) (rd_move rfl rfl) ?_
  refine al_ef rfl (ef_call0 false (fun _ => qsteps_a l1 v1 (by omega)) rfl .fn rfl (by decide) Tc10 rfl (by intro _g; (repeat first | exact K0 | apply K1 rfl | apply K2 rfl rfl | apply K2 rfl (by simp) | apply K3 | exact L0 | apply L1 | exact V1 rfl | exact V2 rfl | exact V3 rfl rfl | exact V4 | exact V5 rfl | exact V3 rfl (by simp) | exact V1 (by simp) | exact V3 rfl (by simp; omega) | exact V1 (by simp; omega) | exact V6 rfl rfl (by first | rfl | simp) (by simp) rfl | apply V7 | apply V8 | apply V9); fail_if_success focus skip) (by simp)) ?_
  rintro _ _ ⟨_, _, _, ⟨rfl, rfl⟩, hF, hH⟩
  rw [← hp1] at hF
  (try simp only [nsl, Nat.reduceAdd, Nat.reduceLT, Nat.reduceSub] at hF); (try simp only [nsl, Nat.reduceAdd, Nat.reduceLT, Nat.reduceSub] at hH); subst hF; subst hH
  refine RA rfl rfl (by decide) (rd_move rfl rfl) ?_
  refine al_ef rfl (ef_call0 false (fun _ => qsteps_a l1 v1 (by omega)) rfl .fn rfl (by decide) Tc10 rfl (by intro _g; (repeat first | exact K0 | apply K1 rfl | apply K2 rfl rfl | apply K2 rfl (by simp) | apply K3 | exact L0 | apply L1 | exact V1 rfl | exact V2 rfl | exact V3 rfl rfl | exact V4 | exact V5 rfl | exact V3 rfl (by simp) | exact V1 (by simp) | exact V3 rfl (by simp; omega) | exact V1 (by simp; omega) | exact V6 rfl rfl (by first | rfl | simp) (by simp) rfl | apply V7 | apply V8 | apply V9); fail_if_success focus skip) (by simp)) ?_
  rintro _ _ ⟨_, _, _, ⟨rfl, rfl⟩, hF, hH⟩
  rw [← hp1] at hF
  (try simp only [nsl, Nat.reduceAdd, Nat.reduceLT, Nat.reduceSub] at hF); (try simp only [nsl, Nat.reduceAdd, Nat.reduceLT, Nat.reduceSub] at hH); subst hF; subst hH
  refine RA rfl rfl (by decide) (rd_move rfl rfl) ?_
  refine al_ef rfl (ef_call0 false (fun _ => qsteps_a l3 v3 (by omega)) rfl .fn rfl (by decide) Tc10 rfl (by intro _g; (repeat first | exact K0 | apply K1 rfl | apply K2 rfl rfl | apply K2 rfl (by simp) | apply K3 | exact L0 | apply L1 | exact V1 rfl | exact V2 rfl | exact V3 rfl rfl | exact V4 | exact V5 rfl | exact V3 rfl (by simp) | exact V1 (by simp) | exact V3 rfl (by simp; omega) | exact V1 (by simp; omega) | exact V6 rfl rfl (by first | rfl | simp) (by simp) rfl | apply V7 | apply V8 | apply V9); fail_if_success focus skip) (by simp)) ?_
  rintro _ _ ⟨_, _, _, ⟨rfl, rfl⟩, hF, hH⟩
  rw [← hp3] at hF
  (try simp only [nsl, Nat.reduceAdd, Nat.reduceLT, Nat.reduceSub] at hF); (try simp only [nsl, Nat.reduceAdd, Nat.reduceLT, Nat.reduceSub] at hH); subst hF; subst hH
  refine EA rfl (ef_buildSlicen rfl rfl (by decide) Te80 (.cons rfl rfl (.cons rfl rfl (.nil _))) rfl Tz28 rfl rfl (by simp) (by simp) (by (try simp only [nm, putL, Nat.reduceAdd, cellsOf, cvOf]) <;> rfl) (by (try simp only [nm, putL, Nat.reduceAdd, cellsOf, cvOf]) <;> rfl)) ?_
  refine al_ef rfl (ef_call0 true (fun g => errs_a [p1, p3] (g (.o 1 0 2 2)) (by simp)) rfl .fn rfl (by decide) Tc19 rfl (by intro _g; (repeat first | exact K0 | apply K1 rfl | apply K2 rfl rfl | apply K2 rfl (by simp) | apply K3 | exact L0 | apply L1 | exact V1 rfl | exact V2 rfl | exact V3 rfl rfl | exact V4 | exact V5 rfl | exact V3 rfl (by simp) | exact V1 (by simp) | exact V3 rfl (by simp; omega) | exact V1 (by simp; omega) | exact V6 rfl rfl (by first | rfl | simp) (by simp) rfl | apply V7 | apply V8 | apply V9); fail_if_success focus skip) (fun _ _ _ _ ⟨hu, hH⟩ => by rw [hu, hH]; exact ⟨.c (.inl trivial), fun _ h => by cases h⟩)) ?_
  rintro _ _ ⟨_, _, _, ⟨rfl, rfl⟩, hF, hH⟩
  rw [hee] at hF
  (try simp only [nsl, Nat.reduceAdd, Nat.reduceLT, Nat.reduceSub] at hF); (try simp only [nsl, Nat.reduceAdd, Nat.reduceLT, Nat.reduceSub] at hH); subst hF; subst hH
  refine RA rfl rfl (by decide) (rd_assign rfl rfl) ?_
  refine RA rfl rfl (by decide) (rd_assign rfl rfl) ?_
  refine al_nil ?_
  repeat with_reducible first | refine S1 ?_ | refine S2 ?_ | refine S3 ?_ | refine S4 ?_ | refine S5 ?_ | refine S6 ?_ | refine S7 ?_ | refine S8 ?_ | refine S9 rfl ?_ | refine SA ?_ | refine SB ?_ | refine SC ?_
  repeat with_reducible first | refine S1 ?_ | refine S2 ?_ | refine S3 ?_ | refine S4 ?_ | refine S5 ?_ | refine S6 ?_ | refine S7 ?_ | refine S8 ?_ | refine S9 rfl ?_ | refine SA ?_ | refine SB ?_ | refine SC ?_
  refine aw_region ?_
  refine RA rfl rfl (by decide) (rd_assign rfl rfl) ?_
  refine al_nil ?_
  repeat with_reducible first | refine S1 ?_ | refine S2 ?_ | refine S3 ?_ | refine S4 ?_ | refine S5 ?_ | refine S6 ?_ | refine S7 ?_ | refine S8 ?_ | refine S9 rfl ?_ | refine SA ?_ | refine SB ?_ | refine SC ?_
  refine aw_region ?_
  refine RA rfl rfl (by decide) (rd_build rfl Tz42 rfl Tb42 (.nil)) ?_
  refine EA rfl (ef_allocn rfl rfl (by decide) Tz42 rfl rfl (by (try simp only [nm, putL, Nat.reduceAdd, cellsOf, cvOf]) <;> rfl) (by (try simp only [nm, putL, Nat.reduceAdd, cellsOf, cvOf]) <;> rfl)) ?_
  first | refine EA rfl (ef_storen rfl rfl rfl rfl rfl Ts42 rfl (by simp) rfl (by (try simp only [nm, putL, Nat.reduceAdd, cellsOf, cvOf]) <;> rfl) (by (try simp only [nm, putL, Nat.reduceAdd, cellsOf, cvOf]) <;> rfl)) ?_ | refine EA rfl (ef_storern rfl rfl rfl rfl (by first | assumption | (rw [Nat.zero_add]; assumption)) rfl rfl Ts42 rfl (by simp) rfl (by (try simp only [nm, putL, Nat.reduceAdd, cellsOf, cvOf]) <;> rfl) rfl) ?_
  refine al_nil ?_
  refine aseq_n ?_
  refine aw_seq ?_
  refine aw_cut (fun F H => ∃ vx, F = [(4, .c (prog_r v1 l1)), (5, .c (prog_r v3 l3)), (7, .c (.r vr (W.map Mach.row))), (8, .c (I p1)), (9, .p 0 0 0), (10, .c (I p1)), (11, .c (B ok)), (12, .c (I e)), (13, .c (I p1)), (14, .c (I e)), (15, .c (.r vx (W.map Mach.row))), (16, .p 1 0 0)] ∧ H = [.box (L.row.map .c), .box (L.row.map .c)]) ?_ ?_ wk_aw
  · repeat with_reducible first | refine S1 ?_ | refine S2 ?_ | refine S3 ?_ | refine S4 ?_ | refine S5 ?_ | refine S6 ?_ | refine S7 ?_ | refine S8 ?_ | refine S9 rfl ?_ | refine SA ?_ | refine SB ?_ | refine SC ?_
    repeat with_reducible first | refine S1 ?_ | refine S2 ?_ | refine S3 ?_ | refine S4 ?_ | refine S5 ?_ | refine S6 ?_ | refine S7 ?_ | refine S8 ?_ | refine S9 rfl ?_ | refine SA ?_ | refine SB ?_ | refine SC ?_
    refine aw_region ?_
    refine RA rfl rfl (by decide) (rd_move rfl rfl) ?_
    first | refine RA rfl rfl (by decide) (rd_eql_t rfl rfl rfl (by omega)) ?_ | refine RA rfl rfl (by decide) (rd_eql_f rfl rfl rfl (by omega)) ?_ | refine RA rfl rfl (by decide) (rd_eql rfl rfl rfl) ?_
    refine al_nil ?_
    repeat with_reducible first | refine S1 ?_ | refine S2 ?_ | refine S3 ?_ | refine S4 ?_ | refine S5 ?_ | refine S6 ?_ | refine S7 ?_ | refine S8 ?_ | refine S9 rfl ?_ | refine SA ?_ | refine SB ?_ | refine SC ?_
    refine aw_if rfl (fun h1 => ?_) (fun h1 => ?_)
    · obtain rfl : W = runsS l1 := by rw [hW, if_pos (by omega)]
      obtain rfl : L = lastS l1 := by rw [hL, if_pos (by omega)]
      repeat with_reducible first | refine S1 ?_ | refine S2 ?_ | refine S3 ?_ | refine S4 ?_ | refine S5 ?_ | refine S6 ?_ | refine S7 ?_ | refine S8 ?_ | refine S9 rfl ?_ | refine SA ?_ | refine SB ?_ | refine SC ?_
      refine aw_region ?_
      refine RA rfl rfl (by decide) (rd_move rfl rfl) ?_
      refine al_ef rfl (ef_call0 false (fun _ => qruns_a l1 v1 (by omega) hok1) rfl .fn rfl (by decide) Tc20 rfl (by intro _g; (repeat first | exact K0 | apply K1 rfl | apply K2 rfl rfl | apply K2 rfl (by simp) | apply K3 | exact L0 | apply L1 | exact V1 rfl | exact V2 rfl | exact V3 rfl rfl | exact V4 | exact V5 rfl | exact V3 rfl (by simp) | exact V1 (by simp) | exact V3 rfl (by simp; omega) | exact V1 (by simp; omega) | exact V6 rfl rfl (by first | rfl | simp) (by simp) rfl | apply V7 | apply V8 | apply V9); fail_if_success focus skip) (by simp)) ?_
      rintro _ _ ⟨_, _, _, ⟨vq, rfl, rfl⟩, hF, hH⟩
      (try simp only [nsl, Nat.reduceAdd, Nat.reduceLT, Nat.reduceSub] at hF); (try simp only [nsl, Nat.reduceAdd, Nat.reduceLT, Nat.reduceSub] at hH); subst hF; subst hH
      refine RA rfl rfl (by decide) (rd_move rfl rfl) ?_
      refine al_ef rfl (ef_call0 false (fun _ => qlast_a l1 v1 (by omega) hok1) rfl .fn rfl (by decide) Tc21 rfl (by intro _g; (repeat first | exact K0 | apply K1 rfl | apply K2 rfl rfl | apply K2 rfl (by simp) | apply K3 | exact L0 | apply L1 | exact V1 rfl | exact V2 rfl | exact V3 rfl rfl | exact V4 | exact V5 rfl | exact V3 rfl (by simp) | exact V1 (by simp) | exact V3 rfl (by simp; omega) | exact V1 (by simp; omega) | exact V6 rfl rfl (by first | rfl | simp) (by simp) rfl | apply V7 | apply V8 | apply V9); fail_if_success focus skip) (by simp)) ?_
      rintro _ _ ⟨_, _, _, ⟨rfl, rfl⟩, hF, hH⟩
      (try simp only [nsl, Nat.reduceAdd, Nat.reduceLT, Nat.reduceSub] at hF); (try simp only [nsl, Nat.reduceAdd, Nat.reduceLT, Nat.reduceSub] at hH); subst hF; subst hH
      refine RA rfl rfl (by decide) (rd_assign rfl rfl) ?_
      first | refine EA rfl (ef_storen rfl rfl rfl rfl rfl Ts42 rfl (by simp) rfl (by (try simp only [nm, putL, Nat.reduceAdd, cellsOf, cvOf]) <;> rfl) (by (try simp only [nm, putL, Nat.reduceAdd, cellsOf, cvOf]) <;> rfl)) ?_ | refine EA rfl (ef_storern rfl rfl rfl rfl (by first | assumption | (rw [Nat.zero_add]; assumption)) rfl rfl Ts42 rfl (by simp) rfl (by (try simp only [nm, putL, Nat.reduceAdd, cellsOf, cvOf]) <;> rfl) rfl) ?_
      refine al_nil ?_
      repeat with_reducible first | refine S1 ?_ | refine S2 ?_ | refine S3 ?_ | refine S4 ?_ | refine S5 ?_ | refine S6 ?_ | refine S7 ?_ | refine S8 ?_ | refine S9 rfl ?_ | refine SA ?_ | refine SB ?_ | refine SC ?_
      exact wk_of [some 0, some 2] (fun _ => [(4, .c (prog_r v1 l1)), (5, .c (prog_r v3 l3)), (7, .c (.r vr ((runsS l1).map Mach.row))), (8, .c (I p1)), (9, .p 0 0 0), (10, .c (I p1)), (11, .c (B ok)), (12, .c (I e)), (13, .c (I p1)), (14, .c (I e)), (15, .c (.r vq ((runsS l1).map Mach.row))), (16, .p 1 0 0)]) (fun _ => _) (by decide) (by rw [hE]; exact (fun _ hi => absurd hi (Nat.not_lt_zero _))) (by intro _g; (repeat first | exact W0 | apply W1 rfl | exact L0 | apply L1 | exact V1 rfl | exact V2 rfl | exact V3 rfl rfl | exact V4 | exact V5 rfl | exact V3 rfl (by simp) | exact V1 (by simp) | exact V3 rfl (by simp; omega) | exact V1 (by simp; omega) | exact V6 rfl rfl (by first | rfl | simp) (by simp) rfl | apply V7 | apply V8 | apply V9 | refine V1 ?_ | refine V3 rfl ?_); fail_if_success focus skip) (by intro _g; (repeat first | exact K0 | apply K1 rfl | apply K2 rfl rfl | apply K2 rfl (by simp) | apply K3 | exact L0 | apply L1 | exact V1 rfl | exact V2 rfl | exact V3 rfl rfl | exact V4 | exact V5 rfl | exact V3 rfl (by simp) | exact V1 (by simp) | exact V3 rfl (by simp; omega) | exact V1 (by simp; omega) | exact V6 rfl rfl (by first | rfl | simp) (by simp) rfl | apply V7 | apply V8 | apply V9); fail_if_success focus skip) (fun _ => ⟨vq, rfl, rfl⟩)
    · obtain rfl : W = [] := by rw [hW, if_neg (by omega)]
      obtain rfl : L = Mach.zero := by rw [hL, if_neg (by omega)]
      repeat with_reducible first | refine S1 ?_ | refine S2 ?_ | refine S3 ?_ | refine S4 ?_ | refine S5 ?_ | refine S6 ?_ | refine S7 ?_ | refine S8 ?_ | refine S9 rfl ?_ | refine SA ?_ | refine SB ?_ | refine SC ?_
      exact wk_of [some 0, some 2] (fun _ => [(4, .c (prog_r v1 l1)), (5, .c (prog_r v3 l3)), (7, .c (.r vr (([] : List Mach).map Mach.row))), (8, .c (I p1)), (9, .p 0 0 0), (10, .c (I p1)), (11, .c (B ok)), (12, .c (I e)), (13, .c (I p1)), (14, .c (I e)), (15, .c (.r (.slice none 0 0) (([] : List Mach).map Mach.row))), (16, .p 1 0 0)]) (fun _ => _) (by decide) (by rw [hE]; exact (fun _ hi => absurd hi (Nat.not_lt_zero _))) (by intro _g; (repeat first | exact W0 | apply W1 rfl | exact L0 | apply L1 | exact V1 rfl | exact V2 rfl | exact V3 rfl rfl | exact V4 | exact V5 rfl | exact V3 rfl (by simp) | exact V1 (by simp) | exact V3 rfl (by simp; omega) | exact V1 (by simp; omega) | exact V6 rfl rfl (by first | rfl | simp) (by simp) rfl | apply V7 | apply V8 | apply V9 | refine V1 ?_ | refine V3 rfl ?_); fail_if_success focus skip) (by intro _g; (repeat first | exact K0 | apply K1 rfl | apply K2 rfl rfl | apply K2 rfl (by simp) | apply K3 | exact L0 | apply L1 | exact V1 rfl | exact V2 rfl | exact V3 rfl rfl | exact V4 | exact V5 rfl | exact V3 rfl (by simp) | exact V1 (by simp) | exact V3 rfl (by simp; omega) | exact V1 (by simp; omega) | exact V6 rfl rfl (by first | rfl | simp) (by simp) rfl | apply V7 | apply V8 | apply V9); fail_if_success focus skip) (fun _ => ⟨_, rfl, rfl⟩)
  rintro F H ⟨vx, rfl, rfl⟩
  repeat with_reducible first | refine S1 ?_ | refine S2 ?_ | refine S3 ?_ | refine S4 ?_ | refine S5 ?_ | refine S6 ?_ | refine S7 ?_ | refine S8 ?_ | refine S9 rfl ?_ | refine SA ?_ | refine SB ?_ | refine SC ?_
  refine aw_cut (fun F H => F = [(4, .c (prog_r v1 l1)), (5, .c (prog_r v3 l3)), (7, .c (.r vr (W.map Mach.row))), (8, .c (I p1)), (9, .p 0 0 0), (10, .c (I p1)), (11, .c (B ok)), (12, .c (I e)), (13, .c (I p1)), (14, .c (I e)), (15, .c (.r vx (W.map Mach.row))), (16, .p 1 0 0), (17, .c (B ok))] ∧ H = [.box (L.row.map .c), .box (L.row.map .c)]) ?_ ?_ wk_aw
  · by_cases he0 : e = 0
    · have h10 : p1 = 0 := by rw [he0] at he; split at he <;> omega
      have h30 : p3 = 0 := by rw [he0, if_neg (by omega)] at he; exact he.symm
      have hoks : ok = true ↔ sameM l1 l3 := by rw [hok]; simp [h10, h30, same_iff]
      repeat with_reducible first | refine S1 ?_ | refine S2 ?_ | refine S3 ?_ | refine S4 ?_ | refine S5 ?_ | refine S6 ?_ | refine S7 ?_ | refine S8 ?_ | refine S9 rfl ?_ | refine SA ?_ | refine SB ?_ | refine SC ?_
      refine aw_region ?_
      refine RA rfl rfl (by decide) (rd_move rfl rfl) ?_
      first | refine RA rfl rfl (by decide) (rd_eql_t rfl rfl rfl (by omega)) ?_ | refine RA rfl rfl (by decide) (rd_eql_f rfl rfl rfl (by omega)) ?_ | refine RA rfl rfl (by decide) (rd_eql rfl rfl rfl) ?_
      refine RA rfl rfl (by decide) (rd_move rfl rfl) ?_
      first | (refine G1 rfl ?_; (refine RA rfl rfl (by decide) (rd_move rfl rfl) ?_)) | refine G2 rfl rfl (by decide) ?_
      first | (refine G1 rfl ?_; (refine RA rfl rfl (by decide) (rd_move rfl rfl) ?_)) | refine G2 rfl rfl (by decide) ?_
      first | refine G2 rfl rfl (by decide) ?_ | (refine G1 rfl ?_; refine al_ef rfl (ef_call0 false (fun _ => qsame_a l1 l3 v1 v3 (by omega) (by omega) hok1 hok3) rfl .fn rfl (by decide) Tc22 rfl (by intro _g; (repeat first | exact K0 | apply K1 rfl | apply K2 rfl rfl | apply K2 rfl (by simp) | apply K3 | exact L0 | apply L1 | exact V1 rfl | exact V2 rfl | exact V3 rfl rfl | exact V4 | exact V5 rfl | exact V3 rfl (by simp) | exact V1 (by simp) | exact V3 rfl (by simp; omega) | exact V1 (by simp; omega) | exact V6 rfl rfl (by first | rfl | simp) (by simp) rfl | apply V7 | apply V8 | apply V9); fail_if_success focus skip) (by simp)) ?_; rintro _ _ ⟨_, _, _, ⟨b2, rfl, rfl, hb2⟩, hF, hH⟩; obtain rfl : ok = b2 := Bool.eq_iff_iff.2 (hoks.trans hb2.symm); (try simp only [nsl, Nat.reduceAdd, Nat.reduceLT, Nat.reduceSub] at hF); (try simp only [nsl, Nat.reduceAdd, Nat.reduceLT, Nat.reduceSub] at hH); subst hF; subst hH)
      first | refine RA rfl rfl (by decide) (rd_pick_t rfl rfl rfl) ?_ | refine RA rfl rfl (by decide) (rd_pick_f rfl rfl rfl) ?_
      refine RA rfl rfl (by decide) (rd_assign rfl rfl) ?_
      refine al_nil ?_
      repeat with_reducible first | refine S1 ?_ | refine S2 ?_ | refine S3 ?_ | refine S4 ?_ | refine S5 ?_ | refine S6 ?_ | refine S7 ?_ | refine S8 ?_ | refine S9 rfl ?_ | refine SA ?_ | refine SB ?_ | refine SC ?_
      exact wk_of [some 0, some 1] (fun _ => [(4, .c (prog_r v1 l1)), (5, .c (prog_r v3 l3)), (7, .c (.r vr (W.map Mach.row))), (8, .c (I p1)), (9, .p 0 0 0), (10, .c (I p1)), (11, .c (B ok)), (12, .c (I e)), (13, .c (I p1)), (14, .c (I e)), (15, .c (.r vx (W.map Mach.row))), (16, .p 1 0 0), (17, .c (B ok))]) (fun _ => _) (by decide) (by rw [hE]; exact (fun _ hi => absurd hi (Nat.not_lt_zero _))) (by intro _g; (repeat first | exact W0 | apply W1 rfl | exact L0 | apply L1 | exact V1 rfl | exact V2 rfl | exact V3 rfl rfl | exact V4 | exact V5 rfl | exact V3 rfl (by simp) | exact V1 (by simp) | exact V3 rfl (by simp; omega) | exact V1 (by simp; omega) | exact V6 rfl rfl (by first | rfl | simp) (by simp) rfl | apply V7 | apply V8 | apply V9 | refine V1 ?_ | refine V3 rfl ?_); fail_if_success focus skip) (by intro _g; (repeat first | exact K0 | apply K1 rfl | apply K2 rfl rfl | apply K2 rfl (by simp) | apply K3 | exact L0 | apply L1 | exact V1 rfl | exact V2 rfl | exact V3 rfl rfl | exact V4 | exact V5 rfl | exact V3 rfl (by simp) | exact V1 (by simp) | exact V3 rfl (by simp; omega) | exact V1 (by simp; omega) | exact V6 rfl rfl (by first | rfl | simp) (by simp) rfl | apply V7 | apply V8 | apply V9); fail_if_success focus skip) (fun _ => ⟨rfl, rfl⟩)
    · obtain rfl : ok = false := by
        refine Bool.eq_false_iff.2 fun h => he0 ?_
        obtain ⟨q1, q2, _⟩ := hok.1 h
        rw [he, q1, q2]; simp
      repeat with_reducible first | refine S1 ?_ | refine S2 ?_ | refine S3 ?_ | refine S4 ?_ | refine S5 ?_ | refine S6 ?_ | refine S7 ?_ | refine S8 ?_ | refine S9 rfl ?_ | refine SA ?_ | refine SB ?_ | refine SC ?_
      refine aw_region ?_
      refine RA rfl rfl (by decide) (rd_move rfl rfl) ?_
      first | refine RA rfl rfl (by decide) (rd_eql_t rfl rfl rfl (by omega)) ?_ | refine RA rfl rfl (by decide) (rd_eql_f rfl rfl rfl (by omega)) ?_ | refine RA rfl rfl (by decide) (rd_eql rfl rfl rfl) ?_
      refine RA rfl rfl (by decide) (rd_move rfl rfl) ?_
      first | (refine G1 rfl ?_; (refine RA rfl rfl (by decide) (rd_move rfl rfl) ?_)) | refine G2 rfl rfl (by decide) ?_
      first | (refine G1 rfl ?_; (refine RA rfl rfl (by decide) (rd_move rfl rfl) ?_)) | refine G2 rfl rfl (by decide) ?_
      first | refine G2 rfl rfl (by decide) ?_ | (refine G1 rfl ?_; refine al_ef rfl (ef_call0 false (fun _ => qsame_a l1 l3 v1 v3 (by omega) (by omega) hok1 hok3) rfl .fn rfl (by decide) Tc22 rfl (by intro _g; (repeat first | exact K0 | apply K1 rfl | apply K2 rfl rfl | apply K2 rfl (by simp) | apply K3 | exact L0 | apply L1 | exact V1 rfl | exact V2 rfl | exact V3 rfl rfl | exact V4 | exact V5 rfl | exact V3 rfl (by simp) | exact V1 (by simp) | exact V3 rfl (by simp; omega) | exact V1 (by simp; omega) | exact V6 rfl rfl (by first | rfl | simp) (by simp) rfl | apply V7 | apply V8 | apply V9); fail_if_success focus skip) (by simp)) ?_; rintro _ _ ⟨_, _, _, ⟨b2, rfl, rfl, hb2⟩, hF, hH⟩; obtain rfl : ok = b2 := Bool.eq_iff_iff.2 (hoks.trans hb2.symm); (try simp only [nsl, Nat.reduceAdd, Nat.reduceLT, Nat.reduceSub] at hF); (try simp only [nsl, Nat.reduceAdd, Nat.reduceLT, Nat.reduceSub] at hH); subst hF; subst hH)
      first | refine RA rfl rfl (by decide) (rd_pick_t rfl rfl rfl) ?_ | refine RA rfl rfl (by decide) (rd_pick_f rfl rfl rfl) ?_
      refine RA rfl rfl (by decide) (rd_assign rfl rfl) ?_
      refine al_nil ?_
      repeat with_reducible first | refine S1 ?_ | refine S2 ?_ | refine S3 ?_ | refine S4 ?_ | refine S5 ?_ | refine S6 ?_ | refine S7 ?_ | refine S8 ?_ | refine S9 rfl ?_ | refine SA ?_ | refine SB ?_ | refine SC ?_
      exact wk_of [some 0, some 1] (fun _ => [(4, .c (prog_r v1 l1)), (5, .c (prog_r v3 l3)), (7, .c (.r vr (W.map Mach.row))), (8, .c (I p1)), (9, .p 0 0 0), (10, .c (I p1)), (11, .c (B false)), (12, .c (I e)), (13, .c (I p1)), (14, .c (I e)), (15, .c (.r vx (W.map Mach.row))), (16, .p 1 0 0), (17, .c (B false))]) (fun _ => _) (by decide) (by rw [hE]; exact (fun _ hi => absurd hi (Nat.not_lt_zero _))) (by intro _g; (repeat first | exact W0 | apply W1 rfl | exact L0 | apply L1 | exact V1 rfl | exact V2 rfl | exact V3 rfl rfl | exact V4 | exact V5 rfl | exact V3 rfl (by simp) | exact V1 (by simp) | exact V3 rfl (by simp; omega) | exact V1 (by simp; omega) | exact V6 rfl rfl (by first | rfl | simp) (by simp) rfl | apply V7 | apply V8 | apply V9 | refine V1 ?_ | refine V3 rfl ?_); fail_if_success focus skip) (by intro _g; (repeat first | exact K0 | apply K1 rfl | apply K2 rfl rfl | apply K2 rfl (by simp) | apply K3 | exact L0 | apply L1 | exact V1 rfl | exact V2 rfl | exact V3 rfl rfl | exact V4 | exact V5 rfl | exact V3 rfl (by simp) | exact V1 (by simp) | exact V3 rfl (by simp; omega) | exact V1 (by simp; omega) | exact V6 rfl rfl (by first | rfl | simp) (by simp) rfl | apply V7 | apply V8 | apply V9); fail_if_success focus skip) (fun _ => ⟨rfl, rfl⟩)
  rintro F H ⟨rfl, rfl⟩
  repeat with_reducible first | refine S1 ?_ | refine S2 ?_ | refine S3 ?_ | refine S4 ?_ | refine S5 ?_ | refine S6 ?_ | refine S7 ?_ | refine S8 ?_ | refine S9 rfl ?_ | refine SA ?_ | refine SB ?_ | refine SC ?_
  refine aw_region ?_
  refine RA rfl rfl (by decide) (rd_move rfl rfl) ?_
  refine al_ef rfl (ef_call0 false (fun _ => check_a l1 v1 (by omega)) rfl .fn rfl (by decide) Tc23 rfl (by intro _g; (repeat first | exact K0 | apply K1 rfl | apply K2 rfl rfl | apply K2 rfl (by simp) | apply K3 | exact L0 | apply L1 | exact V1 rfl | exact V2 rfl | exact V3 rfl rfl | exact V4 | exact V5 rfl | exact V3 rfl (by simp) | exact V1 (by simp) | exact V3 rfl (by simp; omega) | exact V1 (by simp; omega) | exact V6 rfl rfl (by first | rfl | simp) (by simp) rfl | apply V7 | apply V8 | apply V9); fail_if_success focus skip) (by simp)) ?_
  rintro _ _ ⟨_, _, _, ⟨rfl, rfl⟩, hF, hH⟩
  rw [← hp1] at hF
  (try simp only [nsl, Nat.reduceAdd, Nat.reduceLT, Nat.reduceSub] at hF); (try simp only [nsl, Nat.reduceAdd, Nat.reduceLT, Nat.reduceSub] at hH); subst hF; subst hH
  refine RA rfl rfl (by decide) (rd_move rfl rfl) ?_
  first | refine RA rfl rfl (by decide) (rd_eql_t rfl rfl rfl (by omega)) ?_ | refine RA rfl rfl (by decide) (rd_eql_f rfl rfl rfl (by omega)) ?_ | refine RA rfl rfl (by decide) (rd_eql rfl rfl rfl) ?_
  refine RA rfl rfl (by decide) (rd_move rfl rfl) ?_
  first | (refine G1 rfl ?_; (refine RA rfl rfl (by decide) (rd_move rfl rfl) ?_)) | refine G2 rfl rfl (by decide) ?_
  first | (refine G1 rfl ?_; (refine RA rfl rfl (by decide) (rd_move rfl rfl) ?_)) | refine G2 rfl rfl (by decide) ?_
  first | (refine G1 rfl ?_; (first | refine RA rfl rfl (by decide) (rd_eql_t rfl rfl rfl (by omega)) ?_ | refine RA rfl rfl (by decide) (rd_eql_f rfl rfl rfl (by omega)) ?_ | refine RA rfl rfl (by decide) (rd_eql rfl rfl rfl) ?_)) | refine G2 rfl rfl (by decide) ?_
  first | refine RA rfl rfl (by decide) (rd_pick_t rfl rfl rfl) ?_ | refine RA rfl rfl (by decide) (rd_pick_f rfl rfl rfl) ?_
  refine RA rfl rfl (by decide) (rd_move rfl rfl) ?_
  first | (refine G1 rfl ?_; (refine RA rfl rfl (by decide) (rd_move rfl rfl) ?_)) | refine G2 rfl rfl (by decide) ?_
  first | (refine G1 rfl ?_; (refine RA rfl rfl (by decide) (rd_move rfl rfl) ?_)) | refine G2 rfl rfl (by decide) ?_
  first | refine G2 rfl rfl (by decide) ?_ | (refine G1 rfl ?_; refine al_ef rfl (ef_call0 false (fun _ => eqM_a W W vr vx (by omega) (by omega)) rfl .fn rfl (by decide) Tc24 rfl (by intro _g; (repeat first | exact K0 | apply K1 rfl | apply K2 rfl rfl | apply K2 rfl (by simp) | apply K3 | exact L0 | apply L1 | exact V1 rfl | exact V2 rfl | exact V3 rfl rfl | exact V4 | exact V5 rfl | exact V3 rfl (by simp) | exact V1 (by simp) | exact V3 rfl (by simp; omega) | exact V1 (by simp; omega) | exact V6 rfl rfl (by first | rfl | simp) (by simp) rfl | apply V7 | apply V8 | apply V9); fail_if_success focus skip) (by simp)) ?_; rintro _ _ ⟨_, _, _, ⟨bm, rfl, rfl, hbm⟩, hF, hH⟩; obtain rfl : bm = true := hbm.2 rfl; (try simp only [nsl, Nat.reduceAdd, Nat.reduceLT, Nat.reduceSub] at hF); (try simp only [nsl, Nat.reduceAdd, Nat.reduceLT, Nat.reduceSub] at hH); subst hF; subst hH)
  first | refine RA rfl rfl (by decide) (rd_pick_t rfl rfl rfl) ?_ | refine RA rfl rfl (by decide) (rd_pick_f rfl rfl rfl) ?_
  refine RA rfl rfl (by decide) (rd_move rfl rfl) ?_
  first | (refine G1 rfl ?_; (refine RA rfl rfl (by decide) (rd_move rfl rfl) ?_)) | refine G2 rfl rfl (by decide) ?_
  first | (refine G1 rfl ?_; (refine RA rfl rfl (by decide) (rd_move rfl rfl) ?_)) | refine G2 rfl rfl (by decide) ?_
  first | (refine G1 rfl ?_; (first | refine RA rfl rfl (by decide) (rd_eql_t rfl rfl rfl (by omega)) ?_ | refine RA rfl rfl (by decide) (rd_eql_f rfl rfl rfl (by omega)) ?_ | refine RA rfl rfl (by decide) (rd_eql rfl rfl rfl) ?_)) | refine G2 rfl rfl (by decide) ?_
  first | refine RA rfl rfl (by decide) (rd_pick_t rfl rfl rfl) ?_ | refine RA rfl rfl (by decide) (rd_pick_f rfl rfl rfl) ?_
  refine RA rfl rfl (by decide) (rd_move rfl rfl) ?_
  first | (refine G1 rfl ?_; (refine RA rfl rfl (by decide) (rd_loadn rfl Tk42 rfl (by first | exact CB rfl | exact CQ | exact CA rfl (by first | assumption | (rw [Nat.zero_add]; assumption))) (by (try simp only [nm, putL, Nat.reduceAdd, cellsOf, cvOf]) <;> rfl) (by simp)) ?_)) | refine G2 rfl rfl (by decide) ?_
  first | (refine G1 rfl ?_; (refine RA rfl rfl (by decide) (rd_loadn rfl Tk42 rfl (by first | exact CB rfl | exact CQ | exact CA rfl (by first | assumption | (rw [Nat.zero_add]; assumption))) (by (try simp only [nm, putL, Nat.reduceAdd, cellsOf, cvOf]) <;> rfl) (by simp)) ?_)) | refine G2 rfl rfl (by decide) ?_
  first | refine G2 rfl rfl (by decide) ?_ | (refine G1 rfl ?_; refine al_rd rfl rfl (by decide) (rd_dec_t (by simp) (rd_eqla42 rfl rfl rfl)) ?_)
  first | refine RA rfl rfl (by decide) (rd_pick_t rfl rfl rfl) ?_ | refine RA rfl rfl (by decide) (rd_pick_f rfl rfl rfl) ?_
  refine RA rfl rfl (by decide) (rd_move rfl rfl) ?_
  first | (refine G1 rfl ?_; (refine RA rfl rfl (by decide) (rd_move rfl rfl) ?_)) | refine G2 rfl rfl (by decide) ?_
  first | (refine G1 rfl ?_; (refine RA rfl rfl (by decide) (rd_move rfl rfl) ?_)) | refine G2 rfl rfl (by decide) ?_
  first | (refine G1 rfl ?_; (first | refine RA rfl rfl (by decide) (rd_eql_t rfl rfl rfl (by omega)) ?_ | refine RA rfl rfl (by decide) (rd_eql_f rfl rfl rfl (by omega)) ?_ | refine RA rfl rfl (by decide) (rd_eql rfl rfl rfl) ?_)) | refine G2 rfl rfl (by decide) ?_
  first | refine RA rfl rfl (by decide) (rd_pick_t rfl rfl rfl) ?_ | refine RA rfl rfl (by decide) (rd_pick_f rfl rfl rfl) ?_
  refine RA rfl rfl (by decide) (rd_move rfl rfl) ?_
  first | (refine G1 rfl ?_; (refine RA rfl rfl (by decide) (rd_move rfl rfl) ?_)) | refine G2 rfl rfl (by decide) ?_
  first | (refine G1 rfl ?_; (refine RA rfl rfl (by decide) (rd_move rfl rfl) ?_)) | refine G2 rfl rfl (by decide) ?_
  first | refine G2 rfl rfl (by decide) ?_ | (refine G1 rfl ?_; refine al_rd rfl rfl (by decide) (rd_eqlb_t rfl rfl rfl Try.underlying4) ?_)
  first | refine RA rfl rfl (by decide) (rd_pick_t rfl rfl rfl) ?_ | refine RA rfl rfl (by decide) (rd_pick_f rfl rfl rfl) ?_
  refine RA rfl rfl (by decide) (rd_move rfl rfl) ?_
  first | refine G2 rfl rfl (by decide) ?_ | (refine G1 rfl ?_; refine al_ef rfl (ef_call0 false (fun _ => coded_a) rfl .fn rfl (by decide) Tc25 rfl (by intro _g; (repeat first | exact K0 | apply K1 rfl | apply K2 rfl rfl | apply K2 rfl (by simp) | apply K3 | exact L0 | apply L1 | exact V1 rfl | exact V2 rfl | exact V3 rfl rfl | exact V4 | exact V5 rfl | exact V3 rfl (by simp) | exact V1 (by simp) | exact V3 rfl (by simp; omega) | exact V1 (by simp; omega) | exact V6 rfl rfl (by first | rfl | simp) (by simp) rfl | apply V7 | apply V8 | apply V9); fail_if_success focus skip) (by simp)) ?_; rintro _ _ ⟨_, _, _, ⟨rfl, rfl⟩, hF, hH⟩; (try simp only [nsl, Nat.reduceAdd, Nat.reduceLT, Nat.reduceSub] at hF); (try simp only [nsl, Nat.reduceAdd, Nat.reduceLT, Nat.reduceSub] at hH); subst hF; subst hH)
  first | refine RA rfl rfl (by decide) (rd_pick_t rfl rfl rfl) ?_ | refine RA rfl rfl (by decide) (rd_pick_f rfl rfl rfl) ?_
  refine RA rfl rfl (by decide) (rd_assign rfl rfl) ?_
  refine al_nil ?_
  repeat with_reducible first | refine S1 ?_ | refine S2 ?_ | refine S3 ?_ | refine S4 ?_ | refine S5 ?_ | refine S6 ?_ | refine S7 ?_ | refine S8 ?_ | refine S9 rfl ?_ | refine SA ?_ | refine SB ?_ | refine SC ?_
  exact aret_1 [] _ rfl rfl rfl (by decide) (fun _ hi => absurd hi (Nat.not_lt_zero _)) (by intro _g; (repeat first | exact K0 | apply K1 rfl | apply K2 rfl rfl | apply K2 rfl (by simp) | apply K3 | exact L0 | apply L1 | exact V1 rfl | exact V2 rfl | exact V3 rfl rfl | exact V4 | exact V5 rfl | exact V3 rfl (by simp) | exact V1 (by simp) | exact V3 rfl (by simp; omega) | exact V1 (by simp; omega) | exact V6 rfl rfl (by first | rfl | simp) (by simp) rfl | apply V7 | apply V8 | apply V9); fail_if_success focus skip) rfl
end Go.Proofs.Ytpbedckdnoogpaa
