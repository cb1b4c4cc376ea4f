/- Runs that gather steps; the absolute form, by value. -/
import Derived.Test.YtpbedckdnoogpaaCe
import Derived.Test.YtpbedckdnoogpaaRe
set_option linter.unusedSimpArgs false
set_option linter.unusedVariables false
namespace Go.Proofs.Ytpbedckdnoogpaa
open Go Go.RowKit
set_option maxRecDepth 100000
theorem placed_a (n : Int) : ACalls Try.prog 124 [.c (I n)] [] fun u H => ∃ b : Bool, u = .c (B b) ∧ H = [] ∧ ((b = true ∧ (n = 3 ∨ n = 4)) ∨ (b = false ∧ ¬ (n = 3 ∨ n = 4))) := by
  refine acalls_of (N := 9) Try.func124 rfl rfl (by simp) fun E hE => ?_
  by_cases h1 : n = 3
  · repeat' (first
      | (with_reducible refine aw_seq ?_) | (with_reducible refine aseq_n ?_) | (with_reducible refine aseq_r ?_) | (with_reducible refine ablk_n ?_) | (with_reducible refine ablk_r ?_) | (with_reducible refine ablk_e ?_) | (with_reducible refine ablk_o rfl ?_) | (with_reducible refine aseq_e ?_) | (with_reducible refine aw_skip ?_) | (with_reducible refine aw_block ?_) | (with_reducible refine aw_ret ?_) | (with_reducible refine aw_exit ?_)
      | refine aw_cond_t rfl ?_ | refine aw_cond_f rfl ?_ | refine aw_if_t rfl (by assumption) ?_ | refine aw_if_f rfl (by assumption) ?_ | refine aw_if rfl (fun _ => ?_) (fun _ => ?_) | refine aw_cond rfl (fun _ => ?_) (fun _ => ?_)
      | (refine aw_region (id := 0) ?_
         refine M1 rfl ?_
         refine al_nil ?_)
      | (refine aw_region (id := 1) ?_
         refine M1 rfl ?_
         first | refine RA rfl rfl (by decide) (rd_eql_t rfl rfl rfl (by omega)) ?_ | refine RA rfl rfl (by decide) (rd_eql_f rfl rfl rfl (by omega)) ?_ | refine RA rfl rfl (by decide) (rd_eql rfl rfl rfl) ?_
         refine M1 rfl ?_
         first | (refine G1 rfl ?_; refine M1 rfl ?_) | refine G2 rfl rfl (by decide) ?_
         first | (refine G1 rfl ?_; (first | refine RA rfl rfl (by decide) (rd_eql_t rfl rfl rfl (by omega)) ?_ | refine RA rfl rfl (by decide) (rd_eql_f rfl rfl rfl (by omega)) ?_ | refine RA rfl rfl (by decide) (rd_eql rfl rfl rfl) ?_)) | refine G2 rfl rfl (by decide) ?_
         refine M1 rfl ?_
         refine M1 rfl ?_
         refine al_nil ?_))
    exact aret_1 [] _ rfl rfl rfl (by decide) (fun _ hi => absurd hi (Nat.not_lt_zero _)) (fun _ => .nil) ⟨true, rfl, rfl, .inl ⟨rfl, .inl h1⟩⟩
  · by_cases h2 : n = 4
    · repeat' (first
        | (with_reducible refine aw_seq ?_) | (with_reducible refine aseq_n ?_) | (with_reducible refine aseq_r ?_) | (with_reducible refine ablk_n ?_) | (with_reducible refine ablk_r ?_) | (with_reducible refine ablk_e ?_) | (with_reducible refine ablk_o rfl ?_) | (with_reducible refine aseq_e ?_) | (with_reducible refine aw_skip ?_) | (with_reducible refine aw_block ?_) | (with_reducible refine aw_ret ?_) | (with_reducible refine aw_exit ?_)
        | refine aw_cond_t rfl ?_ | refine aw_cond_f rfl ?_ | refine aw_if_t rfl (by assumption) ?_ | refine aw_if_f rfl (by assumption) ?_ | refine aw_if rfl (fun _ => ?_) (fun _ => ?_) | refine aw_cond rfl (fun _ => ?_) (fun _ => ?_)
        | (refine aw_region (id := 0) ?_
           refine M1 rfl ?_
           refine al_nil ?_)
        | (refine aw_region (id := 1) ?_
           refine M1 rfl ?_
           first | refine RA rfl rfl (by decide) (rd_eql_t rfl rfl rfl (by omega)) ?_ | refine RA rfl rfl (by decide) (rd_eql_f rfl rfl rfl (by omega)) ?_ | refine RA rfl rfl (by decide) (rd_eql rfl rfl rfl) ?_
           refine M1 rfl ?_
           first | (refine G1 rfl ?_; refine M1 rfl ?_) | refine G2 rfl rfl (by decide) ?_
           first | (refine G1 rfl ?_; (first | refine RA rfl rfl (by decide) (rd_eql_t rfl rfl rfl (by omega)) ?_ | refine RA rfl rfl (by decide) (rd_eql_f rfl rfl rfl (by omega)) ?_ | refine RA rfl rfl (by decide) (rd_eql rfl rfl rfl) ?_)) | refine G2 rfl rfl (by decide) ?_
           refine M1 rfl ?_
           refine M1 rfl ?_
           refine al_nil ?_))
      exact aret_1 [] _ rfl rfl rfl (by decide) (fun _ hi => absurd hi (Nat.not_lt_zero _)) (fun _ => .nil) ⟨true, rfl, rfl, .inl ⟨rfl, .inr h2⟩⟩
    · repeat' (first
        | (with_reducible refine aw_seq ?_) | (with_reducible refine aseq_n ?_) | (with_reducible refine aseq_r ?_) | (with_reducible refine ablk_n ?_) | (with_reducible refine ablk_r ?_) | (with_reducible refine ablk_e ?_) | (with_reducible refine ablk_o rfl ?_) | (with_reducible refine aseq_e ?_) | (with_reducible refine aw_skip ?_) | (with_reducible refine aw_block ?_) | (with_reducible refine aw_ret ?_) | (with_reducible refine aw_exit ?_)
        | refine aw_cond_t rfl ?_ | refine aw_cond_f rfl ?_ | refine aw_if_t rfl (by assumption) ?_ | refine aw_if_f rfl (by assumption) ?_ | refine aw_if rfl (fun _ => ?_) (fun _ => ?_) | refine aw_cond rfl (fun _ => ?_) (fun _ => ?_)
        | (refine aw_region (id := 0) ?_
           refine M1 rfl ?_
           refine al_nil ?_)
        | (refine aw_region (id := 1) ?_
           refine M1 rfl ?_
           first | refine RA rfl rfl (by decide) (rd_eql_t rfl rfl rfl (by omega)) ?_ | refine RA rfl rfl (by decide) (rd_eql_f rfl rfl rfl (by omega)) ?_ | refine RA rfl rfl (by decide) (rd_eql rfl rfl rfl) ?_
           refine M1 rfl ?_
           first | (refine G1 rfl ?_; refine M1 rfl ?_) | refine G2 rfl rfl (by decide) ?_
           first | (refine G1 rfl ?_; (first | refine RA rfl rfl (by decide) (rd_eql_t rfl rfl rfl (by omega)) ?_ | refine RA rfl rfl (by decide) (rd_eql_f rfl rfl rfl (by omega)) ?_ | refine RA rfl rfl (by decide) (rd_eql rfl rfl rfl) ?_)) | refine G2 rfl rfl (by decide) ?_
           refine M1 rfl ?_
           refine M1 rfl ?_
           refine al_nil ?_))
      exact aret_1 [] _ rfl rfl rfl (by decide) (fun _ hi => absurd hi (Nat.not_lt_zero _)) (fun _ => .nil) ⟨false, rfl, rfl, .inr ⟨rfl, by omega⟩⟩
/-- The blocks of a run that gathers steps. -/
abbrev gath (l : List Step) (v : Value) (c : Nat) (o : List Step) : List OB := [.box [.c (prog_r v l)], .box [.o 2 0 o.length c], .arr 36 6 c (o.map Step.row)]
theorem runS_a (fn : FuncId) (hfn : okFn Try.prog fn = true) (J : Nat → List Step → Prop) (l : List Step) (v : Value) (hl : l.length ≤ 1000000) (hok : ∀ s ∈ l, s.ok)
    (hst : ∀ k c o s, l[k]? = some s → J k o → k ≤ 1000000 → ACalls Try.prog fn [.c (I k), .a ((lastS (l.take k)).row.map .c), .a ((afterS (lastS (l.take k)) s).row.map .c), .p 0 0 0, .p 1 0 0] (gath l v c o) fun u H => ∃ c' o', u = .t [] ∧ J (k + 1) o' ∧ H = gath l v c' o') (c0 : Nat) (o0 : List Step) (h0 : J 0 o0) :
    ACalls Try.prog 92 [.c (prog_r v l), .f (.func fn) [.p 0 0 0, .p 1 0 0]] (gath l v c0 o0) fun u H => ∃ c o, u = .a ((lastS l).row.map .c) ∧ J l.length o ∧ H = gath l v c o := by
  have e1 : (l.map Step.row).length = l.length := by simp
  refine acalls_of (N := 27) Try.func92 rfl rfl (by simp) fun E hE => ?_
  repeat with_reducible first | apply S1 | apply S2 | apply S3 | apply S4 | apply S5 | apply S6 | apply S7 | apply S8 | refine S0 rfl ?_ | apply SA | apply SB | apply SC
  refine aw_region ?_
  refine EA rfl (ef_allocn rfl rfl (by decide) Tz42 rfl rfl (by (try simp only [nm, putL, Nat.reduceAdd, cellsOf, cvOf]) <;> rfl) (by (try simp only [nm, putL, Nat.reduceAdd, cellsOf, cvOf]) <;> rfl)) ?_
  refine al_nil ?_
  repeat with_reducible first | apply S1 | apply S2 | apply S3 | apply S4 | apply S5 | apply S6 | apply S7 | apply S8 | refine S0 rfl ?_ | apply SA | apply SB | apply SC
  refine aw_region ?_
  refine EA rfl (ef_allocn rfl rfl (by decide) Tz42 rfl rfl (by (try simp only [nm, putL, Nat.reduceAdd, cellsOf, cvOf]) <;> rfl) (by (try simp only [nm, putL, Nat.reduceAdd, cellsOf, cvOf]) <;> rfl)) ?_
  refine al_nil ?_
  repeat with_reducible first | apply S1 | apply S2 | apply S3 | apply S4 | apply S5 | apply S6 | apply S7 | apply S8 | refine S0 rfl ?_ | apply SA | apply SB | apply SC
  refine aw_region ?_
  refine M1 rfl ?_
  refine RA rfl rfl (by decide) (rd_lx rfl Te26 rfl) ?_
  refine M1 rfl ?_
  refine al_nil ?_
  repeat with_reducible first | apply S1 | apply S2 | apply S3 | apply S4 | apply S5 | apply S6 | apply S7 | apply S8 | refine S0 rfl ?_ | apply SA | apply SB | apply SC
  refine aw_loopw (fun n F H => ∃ (k c : Nat) (o : List Step), n + k = l.length ∧ J k o ∧ F = [(1, .f (.func fn) [.p 0 0 0, .p 1 0 0]), (4, .p 3 0 0), (5, .p 4 0 0), (9, .c (prog_r v l)), (10, .c (I (l.map Step.row).length)), (11, .c (I k))] ∧ H = [.box [.c (prog_r v l)], .box [.o 2 0 o.length c], .arr 36 6 c (o.map Step.row), .box (Mach.zero.row.map .c), .box ((lastS (l.take k)).row.map .c)]) ?_ ?_
  · refine wk_of [some 0, some 1, some 2, some 3, some 4] (fun _ => [(1, .f (.func fn) [.p 0 0 0, .p 1 0 0]), (4, .p 3 0 0), (5, .p 4 0 0), (9, .c (prog_r v l)), (10, .c (I (l.map Step.row).length)), (11, .c (I (0 : Nat)))]) (fun _ => [.box [.c (prog_r v l)], .box [.o 2 0 o0.length c0], .arr 36 6 c0 (o0.map Step.row), .box (Mach.zero.row.map .c), .box ((lastS (l.take 0)).row.map .c)]) (by decide) (by rw [hE]; exact (fun i hi => by (have hi : i < 3 := hi); (obtain rfl | rfl | rfl : i = 0 ∨ i = 1 ∨ i = 2 := (by omega)) <;> rfl)) (by intro _g; (repeat first | exact W0 | apply W1 rfl | exact L0 | apply L1 | exact V1 rfl | exact V2 rfl | exact V3 rfl rfl | exact V4 | exact V5 rfl | exact V3 rfl (by first | (simp; omega) | simp) | exact V1 (by first | (simp; omega) | simp) | exact V6 rfl rfl (by first | rfl | simp) (by simp) rfl | apply V7 | apply V8 | apply V9 | refine V1 ?_ | refine V3 rfl ?_); fail_if_success focus skip) (by intro _g; (repeat first | exact K0 | apply K1 rfl | apply K2 rfl rfl | apply K2 rfl (by simp) | apply K3 | exact L0 | apply L1 | exact V1 rfl | exact V2 rfl | exact V3 rfl rfl | exact V4 | exact V5 rfl | exact V3 rfl (by first | (simp; omega) | simp) | exact V1 (by first | (simp; omega) | simp) | exact V6 rfl rfl (by first | rfl | simp) (by simp) rfl | apply V7 | apply V8 | apply V9); fail_if_success focus skip) (fun _ => ?_)
    exact ⟨l.length, 0, c0, o0, by omega, h0, rfl, rfl⟩
  rintro n F H ⟨k, c, o, hk, hJ, rfl, rfl⟩
  repeat with_reducible first | apply S1 | apply S2 | apply S3 | apply S4 | apply S5 | apply S6 | apply S7 | apply S8 | refine S0 rfl ?_ | apply SA | apply SB | apply SC
  refine aw_region ?_
  first | refine RA rfl rfl (by decide) (rd_lss_t rfl rfl rfl (by omega)) ?_ | refine RA rfl rfl (by decide) (rd_lss_f rfl rfl rfl (by omega)) ?_ | refine RA rfl rfl (by decide) (rd_lss rfl rfl rfl) ?_
  refine al_nil ?_
  repeat with_reducible first | apply S1 | apply S2 | apply S3 | apply S4 | apply S5 | apply S6 | apply S7 | apply S8 | refine S0 rfl ?_ | apply SA | apply SB | apply SC
  refine aw_if rfl (fun hlt => ?_) (fun hge => ?_)
  · obtain ⟨s, hs⟩ : ∃ s, l[k]? = some s := ⟨_, List.getElem?_eq_getElem (by omega)⟩
    have hrow : (l.map Step.row)[k]? = some s.row := by rw [List.getElem?_map, hs]; rfl
    have hso := hok s (List.mem_of_getElem? hs)
    repeat with_reducible first | apply S1 | apply S2 | apply S3 | apply S4 | apply S5 | apply S6 | apply S7 | apply S8 | refine S0 rfl ?_ | apply SA | apply SB | apply SC
    refine aw_region ?_
    refine M1 rfl ?_
    first | refine RA rfl rfl (by decide) (rd_index rfl Te26 rfl rfl rfl (by first | rfl | omega) (by omega)) ?_ | refine RA rfl rfl (by decide) (rd_indexq rfl Te26 rfl rfl (by first | rfl | omega) (by assumption) rfl) ?_
    refine RA rfl rfl (by decide) (rd_loadn rfl Tk36 rfl (by first | exact CB rfl | exact CQ | exact CA rfl (by first | assumption | (rw [Nat.zero_add]; assumption))) (by (try simp only [nm, putL, Nat.reduceAdd, cellsOf, cvOf]) <;> rfl) (by simp)) ?_
    refine EA rfl (ef_allocn rfl rfl (by decide) Tz36 rfl rfl (by (try simp only [nm, putL, Nat.reduceAdd, cellsOf, cvOf]) <;> rfl) (by (try simp only [nm, putL, Nat.reduceAdd, cellsOf, cvOf]) <;> rfl)) ?_
    refine M1 rfl ?_
    first | refine EA rfl (ef_storen rfl rfl rfl rfl rfl Ts36 rfl (by simp) rfl (by (try simp only [nm, putL, Nat.reduceAdd, cellsOf, cvOf]) <;> rfl) (by (try simp only [nm, putL, Nat.reduceAdd, cellsOf, cvOf]) <;> rfl)) ?_ | refine EA rfl (ef_storern rfl rfl rfl rfl (by first | assumption | (rw [Nat.zero_add]; assumption)) rfl rfl Ts36 rfl (by simp) rfl (by (try simp only [nm, putL, Nat.reduceAdd, cellsOf, cvOf]) <;> rfl) rfl) ?_
    refine al_nil ?_
    repeat with_reducible first | apply S1 | apply S2 | apply S3 | apply S4 | apply S5 | apply S6 | apply S7 | apply S8 | refine S0 rfl ?_ | apply SA | apply SB | apply SC
    refine aw_region ?_
    refine RA rfl rfl (by decide) (rd_loadn rfl Tk42 rfl (by first | exact CB rfl | exact CQ | exact CA rfl (by first | assumption | (rw [Nat.zero_add]; assumption))) (by (try simp only [nm, putL, Nat.reduceAdd, cellsOf, cvOf]) <;> rfl) (by simp)) ?_
    refine EA rfl (ef_allocn rfl rfl (by decide) Tz42 rfl rfl (by (try simp only [nm, putL, Nat.reduceAdd, cellsOf, cvOf]) <;> rfl) (by (try simp only [nm, putL, Nat.reduceAdd, cellsOf, cvOf]) <;> rfl)) ?_
    first | refine EA rfl (ef_storen rfl rfl rfl rfl rfl Ts42 rfl (by simp) rfl (by (try simp only [nm, putL, Nat.reduceAdd, cellsOf, cvOf]) <;> rfl) (by (try simp only [nm, putL, Nat.reduceAdd, cellsOf, cvOf]) <;> rfl)) ?_ | refine EA rfl (ef_storern rfl rfl rfl rfl (by first | assumption | (rw [Nat.zero_add]; assumption)) rfl rfl Ts42 rfl (by simp) rfl (by (try simp only [nm, putL, Nat.reduceAdd, cellsOf, cvOf]) <;> rfl) rfl) ?_
    refine al_nil ?_
    repeat with_reducible first | apply S1 | apply S2 | apply S3 | apply S4 | apply S5 | apply S6 | apply S7 | apply S8 | refine S0 rfl ?_ | apply SA | apply SB | apply SC
    refine aw_region ?_
    refine RA rfl rfl (by decide) (rd_loadn rfl Tk42 rfl (by first | exact CB rfl | exact CQ | exact CA rfl (by first | assumption | (rw [Nat.zero_add]; assumption))) (by (try simp only [nm, putL, Nat.reduceAdd, cellsOf, cvOf]) <;> rfl) (by simp)) ?_
    refine RA rfl rfl (by decide) (rd_loadn rfl Tk36 rfl (by first | exact CB rfl | exact CQ | exact CA rfl (by first | assumption | (rw [Nat.zero_add]; assumption))) (by (try simp only [nm, putL, Nat.reduceAdd, cellsOf, cvOf]) <;> rfl) (by simp)) ?_
    refine al_ef rfl (ef_call0 false (fun _ => after_a (lastS (l.take k)) s hso) rfl .fn rfl (by decide) Tc161 rfl (fun _ => C0 rfl) (by simp)) ?_
    rintro _ _ ⟨_, _, _, ⟨rfl, rfl⟩, hF, hH⟩
    (try simp only [nsl, Nat.reduceAdd, Nat.reduceLT, Nat.reduceSub] at hF); (try simp only [nsl, Nat.reduceAdd, Nat.reduceLT, Nat.reduceSub] at hH); subst hF; subst hH
    first | refine EA rfl (ef_storen rfl rfl rfl rfl rfl Ts42 rfl (by simp) rfl (by (try simp only [nm, putL, Nat.reduceAdd, cellsOf, cvOf]) <;> rfl) (by (try simp only [nm, putL, Nat.reduceAdd, cellsOf, cvOf]) <;> rfl)) ?_ | refine EA rfl (ef_storern rfl rfl rfl rfl (by first | assumption | (rw [Nat.zero_add]; assumption)) rfl rfl Ts42 rfl (by simp) rfl (by (try simp only [nm, putL, Nat.reduceAdd, cellsOf, cvOf]) <;> rfl) rfl) ?_
    refine al_nil ?_
    repeat with_reducible first | apply S1 | apply S2 | apply S3 | apply S4 | apply S5 | apply S6 | apply S7 | apply S8 | refine S0 rfl ?_ | apply SA | apply SB | apply SC
    refine aw_region ?_
    refine M1 rfl ?_
    refine M1 rfl ?_
    refine RA rfl rfl (by decide) (rd_loadn rfl Tk42 rfl (by first | exact CB rfl | exact CQ | exact CA rfl (by first | assumption | (rw [Nat.zero_add]; assumption))) (by (try simp only [nm, putL, Nat.reduceAdd, cellsOf, cvOf]) <;> rfl) (by simp)) ?_
    refine RA rfl rfl (by decide) (rd_loadn rfl Tk42 rfl (by first | exact CB rfl | exact CQ | exact CA rfl (by first | assumption | (rw [Nat.zero_add]; assumption))) (by (try simp only [nm, putL, Nat.reduceAdd, cellsOf, cvOf]) <;> rfl) (by simp)) ?_
    refine al_ef rfl (ef_call [0, 1, 2] (fun _ => [.box [.c (prog_r v l)], .box [.o 2 0 o.length c], .arr 36 6 c (o.map Step.row)]) false (fun _ => hst k c o s hs hJ (by omega)) rfl (.clo rfl) rfl (by decide) hfn rfl (by intro _g; (repeat first | exact K0 | apply K1 rfl | apply K2 rfl rfl | apply K2 rfl (by simp) | apply K3 | exact L0 | apply L1 | exact V1 rfl | exact V2 rfl | exact V3 rfl rfl | exact V4 | exact V5 rfl | exact V3 rfl (by first | (simp; omega) | simp) | exact V1 (by first | (simp; omega) | simp) | exact V6 rfl rfl (by first | rfl | simp) (by simp) rfl | apply V7 | apply V8 | apply V9); fail_if_success focus skip) (by decide) (by intro _g; (repeat first | exact K0 | apply K1 rfl | apply K2 rfl rfl | apply K2 rfl (by simp) | apply K3 | exact L0 | apply L1 | exact V1 rfl | exact V2 rfl | exact V3 rfl rfl | exact V4 | exact V5 rfl | exact V3 rfl (by first | (simp; omega) | simp) | exact V1 (by first | (simp; omega) | simp) | exact V6 rfl rfl (by first | rfl | simp) (by simp) rfl | apply V7 | apply V8 | apply V9); fail_if_success focus skip) (by simp)) ?_
    rintro F1 H1 ⟨_, _, _, _, ⟨c', o', rfl, hJ', hq⟩, hF, hH⟩
    subst hq
    (try simp only [List.set_cons_zero, List.set_cons_succ, updH, posOf, lentArr, killF, killO, killV, AV.has, AV.hasL, AV.emb, AV.embL, OB.emb, embB, List.filter_cons, List.filter_nil, List.getElem?_cons_zero, List.getElem?_cons_succ, List.getD_cons_zero, List.getD_cons_succ, List.drop_succ_cons, List.drop_zero, List.drop_nil, List.contains_cons, List.contains_nil, Nat.reduceBEq, Nat.reduceEqDiff, beq_self_eq_true, Bool.or_false, Bool.false_or, Bool.or_true, Bool.true_or, Bool.false_eq_true, Option.map_some, Option.map_none, List.map_cons, List.map_nil, List.cons_append, List.nil_append, List.append_nil, List.length_cons, List.length_nil, Nat.reduceAdd, Nat.reduceLT, Nat.reduceSub, if_true, if_false, Nat.zero_add, Nat.add_zero, Nat.sub_zero, Nat.lt_irrefl, Nat.not_lt_zero, Nat.zero_lt_one, Nat.lt_add_one] at hF); (try simp only [List.set_cons_zero, List.set_cons_succ, updH, posOf, lentArr, killF, killO, killV, AV.has, AV.hasL, AV.emb, AV.embL, OB.emb, embB, List.filter_cons, List.filter_nil, List.getElem?_cons_zero, List.getElem?_cons_succ, List.getD_cons_zero, List.getD_cons_succ, List.drop_succ_cons, List.drop_zero, List.drop_nil, List.contains_cons, List.contains_nil, Nat.reduceBEq, Nat.reduceEqDiff, beq_self_eq_true, Bool.or_false, Bool.false_or, Bool.or_true, Bool.true_or, Bool.false_eq_true, Option.map_some, Option.map_none, List.map_cons, List.map_nil, List.cons_append, List.nil_append, List.append_nil, List.length_cons, List.length_nil, Nat.reduceAdd, Nat.reduceLT, Nat.reduceSub, if_true, if_false, Nat.zero_add, Nat.add_zero, Nat.sub_zero, Nat.lt_irrefl, Nat.not_lt_zero, Nat.zero_lt_one, Nat.lt_add_one] at hH); subst hF; subst hH
    refine al_nil ?_
    repeat with_reducible first | apply S1 | apply S2 | apply S3 | apply S4 | apply S5 | apply S6 | apply S7 | apply S8 | refine S0 rfl ?_ | apply SA | apply SB | apply SC
    refine aw_region ?_
    first | refine RA rfl rfl (by decide) (rd_addn rfl rfl rfl (by omega)) ?_ | refine RA rfl rfl (by decide) (rd_add rfl rfl rfl) ?_
    refine M1 rfl ?_
    refine al_nil ?_
    repeat with_reducible first | apply S1 | apply S2 | apply S3 | apply S4 | apply S5 | apply S6 | apply S7 | apply S8 | refine S0 rfl ?_ | apply SA | apply SB | apply SC
    refine wk_of [some 0, some 1, some 2, some 3, some 4] (fun _ => [(1, .f (.func fn) [.p 0 0 0, .p 1 0 0]), (4, .p 3 0 0), (5, .p 4 0 0), (9, .c (prog_r v l)), (10, .c (I (l.map Step.row).length)), (11, .c (I (k + 1 : Nat)))]) (fun _ => [.box [.c (prog_r v l)], .box [.o 2 0 o'.length c'], .arr 36 6 c' (o'.map Step.row), .box (Mach.zero.row.map .c), .box ((afterS (lastS (l.take k)) s).row.map .c)]) (by decide) (by rw [hE]; exact (fun i hi => by (have hi : i < 3 := hi); (obtain rfl | rfl | rfl : i = 0 ∨ i = 1 ∨ i = 2 := (by omega)) <;> rfl)) (by intro _g; (repeat first | exact W0 | apply W1 rfl | exact L0 | apply L1 | exact V1 rfl | exact V2 rfl | exact V3 rfl rfl | exact V4 | exact V5 rfl | exact V3 rfl (by first | (simp; omega) | simp) | exact V1 (by first | (simp; omega) | simp) | exact V6 rfl rfl (by first | rfl | simp) (by simp) rfl | apply V7 | apply V8 | apply V9 | refine V1 ?_ | refine V3 rfl ?_); fail_if_success focus skip) (by intro _g; (repeat first | exact K0 | apply K1 rfl | apply K2 rfl rfl | apply K2 rfl (by simp) | apply K3 | exact L0 | apply L1 | exact V1 rfl | exact V2 rfl | exact V3 rfl rfl | exact V4 | exact V5 rfl | exact V3 rfl (by first | (simp; omega) | simp) | exact V1 (by first | (simp; omega) | simp) | exact V6 rfl rfl (by first | rfl | simp) (by simp) rfl | apply V7 | apply V8 | apply V9); fail_if_success focus skip) (fun _ => ?_)
    exact ⟨n - 1, by omega, k + 1, c', o', by omega, hJ', rfl, by rw [lastS_succ hs]⟩
  repeat with_reducible first | apply S1 | apply S2 | apply S3 | apply S4 | apply S5 | apply S6 | apply S7 | apply S8 | refine S0 rfl ?_ | apply SA | apply SB | apply SC
  refine aw_region ?_
  refine RA rfl rfl (by decide) (rd_loadn rfl Tk42 rfl (by first | exact CB rfl | exact CQ | exact CA rfl (by first | assumption | (rw [Nat.zero_add]; assumption))) (by (try simp only [nm, putL, Nat.reduceAdd, cellsOf, cvOf]) <;> rfl) (by simp)) ?_
  first | refine EA rfl (ef_storen rfl rfl rfl rfl rfl Ts42 rfl (by simp) rfl (by (try simp only [nm, putL, Nat.reduceAdd, cellsOf, cvOf]) <;> rfl) (by (try simp only [nm, putL, Nat.reduceAdd, cellsOf, cvOf]) <;> rfl)) ?_ | refine EA rfl (ef_storern rfl rfl rfl rfl (by first | assumption | (rw [Nat.zero_add]; assumption)) rfl rfl Ts42 rfl (by simp) rfl (by (try simp only [nm, putL, Nat.reduceAdd, cellsOf, cvOf]) <;> rfl) rfl) ?_
  refine al_nil ?_
  repeat with_reducible first | apply S1 | apply S2 | apply S3 | apply S4 | apply S5 | apply S6 | apply S7 | apply S8 | refine S0 rfl ?_ | apply SA | apply SB | apply SC
  obtain rfl : k = l.length := by omega
  refine aret_a [some 0, some 1, some 2] [.box [.c (prog_r v l)], .box [.o 2 0 o.length c], .arr 36 6 c (o.map Step.row)] rfl Tk42 rfl (Cells.box rfl) (by simp) (by (try simp only [nm, putL, Nat.reduceAdd, cellsOf, cvOf]) <;> rfl) (by decide) (fun i hi => by (have hi : i < 3 := hi); (obtain rfl | rfl | rfl : i = 0 ∨ i = 1 ∨ i = 2 := (by omega)) <;> rfl) (fun _ => C0 rfl) (by intro _g; (repeat first | exact K0 | apply K1 rfl | apply K2 rfl rfl | apply K2 rfl (by simp) | apply K3 | exact L0 | apply L1 | exact V1 rfl | exact V2 rfl | exact V3 rfl rfl | exact V4 | exact V5 rfl | exact V3 rfl (by first | (simp; omega) | simp) | exact V1 (by first | (simp; omega) | simp) | exact V6 rfl rfl (by first | rfl | simp) (by simp) rfl | apply V7 | apply V8 | apply V9); fail_if_success focus skip) ⟨c, o, ?_, hJ, rfl⟩
  rw [List.take_of_length_le (by omega)]; rfl
/-- What a step gives in the absolute form. -/
def absE (is : Mach) (s : Step) : List Step := if s.k = 1 ∨ s.k = 2 then [] else [absStep is s]
theorem absolute1_a (k : Nat) (was is : Mach) (o : List Step) (c : Nat) (l : List Step) (v : Value) (s : Step) (hs : l[k]? = some s) (ho : o.length ≤ 1000000) :
    ACalls Try.prog 170 [.c (I k), .a (was.row.map .c), .a (is.row.map .c), .p 0 0 0, .p 1 0 0] (gath l v c o) fun u H => ∃ c' o', u = .t [] ∧ o' = o ++ absE is s ∧ H = gath l v c' o' := by
  have hlk : k < l.length := (List.getElem?_eq_some_iff.1 hs).1
  have e1 : (l.map Step.row).length = l.length := by simp
  have hrow : (l.map Step.row)[k]? = some s.row := by rw [List.getElem?_map, hs]; rfl
  refine acalls_of (N := 43) Try.func170 rfl rfl (by simp) fun E hE => ?_
  repeat with_reducible first | apply S1 | apply S2 | apply S3 | apply S4 | apply S5 | apply S6 | apply S7 | apply S8 | refine S0 rfl ?_ | apply SA | apply SB | apply SC
  refine aw_region ?_
  refine EA rfl (ef_boxn rfl rfl (by decide) rfl (by (try simp only [nm, putL, Nat.reduceAdd, cellsOf, cvOf]) <;> rfl) rfl (by (try simp only [nm, putL, Nat.reduceAdd, cellsOf, cvOf]) <;> rfl) (by (try simp only [nm, putL, Nat.reduceAdd, cellsOf, cvOf]) <;> rfl)) ?_
  refine EA rfl (ef_boxn rfl rfl (by decide) rfl (by (try simp only [nm, putL, Nat.reduceAdd, cellsOf, cvOf]) <;> rfl) rfl (by (try simp only [nm, putL, Nat.reduceAdd, cellsOf, cvOf]) <;> rfl) (by (try simp only [nm, putL, Nat.reduceAdd, cellsOf, cvOf]) <;> rfl)) ?_
  refine al_nil ?_
  repeat with_reducible first | apply S1 | apply S2 | apply S3 | apply S4 | apply S5 | apply S6 | apply S7 | apply S8 | refine S0 rfl ?_ | apply SA | apply SB | apply SC
  refine aw_region ?_
  refine RA rfl rfl (by decide) (rd_loadn1 rfl Tk26 rfl (by first | exact CB rfl | exact CQ | exact CA rfl (by first | assumption | (rw [Nat.zero_add]; assumption))) (by (try simp only [nm, putL, Nat.reduceAdd, cellsOf, cvOf]) <;> rfl)) ?_
  refine M1 rfl ?_
  first | refine RA rfl rfl (by decide) (rd_index rfl Te26 rfl rfl rfl (by first | rfl | omega) (by omega)) ?_ | refine RA rfl rfl (by decide) (rd_indexq rfl Te26 rfl rfl (by first | rfl | omega) (by assumption) rfl) ?_
  refine RA rfl rfl (by decide) (rd_loadn rfl Tk36 rfl (by first | exact CB rfl | exact CQ | exact CA rfl (by first | assumption | (rw [Nat.zero_add]; assumption))) (by (try simp only [nm, putL, Nat.reduceAdd, cellsOf, cvOf]) <;> rfl) (by simp)) ?_
  refine EA rfl (ef_allocn rfl rfl (by decide) Tz36 rfl rfl (by (try simp only [nm, putL, Nat.reduceAdd, cellsOf, cvOf]) <;> rfl) (by (try simp only [nm, putL, Nat.reduceAdd, cellsOf, cvOf]) <;> rfl)) ?_
  first | refine EA rfl (ef_storen rfl rfl rfl rfl rfl Ts36 rfl (by simp) rfl (by (try simp only [nm, putL, Nat.reduceAdd, cellsOf, cvOf]) <;> rfl) (by (try simp only [nm, putL, Nat.reduceAdd, cellsOf, cvOf]) <;> rfl)) ?_ | refine EA rfl (ef_storern rfl rfl rfl rfl (by first | assumption | (rw [Nat.zero_add]; assumption)) rfl rfl Ts36 rfl (by simp) rfl (by (try simp only [nm, putL, Nat.reduceAdd, cellsOf, cvOf]) <;> rfl) rfl) ?_
  refine al_nil ?_
  repeat with_reducible first | apply S1 | apply S2 | apply S3 | apply S4 | apply S5 | apply S6 | apply S7 | apply S8 | refine S0 rfl ?_ | apply SA | apply SB | apply SC
  by_cases h1 : s.k = 1
  · repeat with_reducible first | apply S1 | apply S2 | apply S3 | apply S4 | apply S5 | apply S6 | apply S7 | apply S8 | refine S0 rfl ?_ | apply SA | apply SB | apply SC
    refine aw_region ?_
    refine RA rfl rfl (by decide) (rd_fx rfl Tf36_0 rfl) ?_
    refine RA rfl rfl (by decide) (rd_loadn1 rfl Tk3 rfl (by first | exact CB rfl | exact CQ | exact CA rfl (by first | assumption | (rw [Nat.zero_add]; assumption))) (by (try simp only [nm, putL, Nat.reduceAdd, cellsOf, cvOf]) <;> rfl)) ?_
    first | refine RA rfl rfl (by decide) (rd_eql_t rfl rfl rfl (by omega)) ?_ | refine RA rfl rfl (by decide) (rd_eql_f rfl rfl rfl (by omega)) ?_ | refine RA rfl rfl (by decide) (rd_eql rfl rfl rfl) ?_
    refine M1 rfl ?_
    first | (refine G1 rfl ?_; (refine RA rfl rfl (by decide) (rd_fx rfl Tf36_0 rfl) ?_)) | refine G2 rfl rfl (by decide) ?_
    first | (refine G1 rfl ?_; (refine RA rfl rfl (by decide) (rd_loadn1 rfl Tk3 rfl (by first | exact CB rfl | exact CQ | exact CA rfl (by first | assumption | (rw [Nat.zero_add]; assumption))) (by (try simp only [nm, putL, Nat.reduceAdd, cellsOf, cvOf]) <;> rfl)) ?_)) | refine G2 rfl rfl (by decide) ?_
    first | (refine G1 rfl ?_; (first | refine RA rfl rfl (by decide) (rd_eql_t rfl rfl rfl (by omega)) ?_ | refine RA rfl rfl (by decide) (rd_eql_f rfl rfl rfl (by omega)) ?_ | refine RA rfl rfl (by decide) (rd_eql rfl rfl rfl) ?_)) | refine G2 rfl rfl (by decide) ?_
    refine M1 rfl ?_
    refine M1 rfl ?_
    refine al_nil ?_
    repeat with_reducible first | apply S1 | apply S2 | apply S3 | apply S4 | apply S5 | apply S6 | apply S7 | apply S8 | refine S0 rfl ?_ | apply SA | apply SB | apply SC
    refine aw_cond_t rfl ?_
    repeat with_reducible first | apply S1 | apply S2 | apply S3 | apply S4 | apply S5 | apply S6 | apply S7 | apply S8 | refine S0 rfl ?_ | apply SA | apply SB | apply SC
    exact aret_0 [some 0, some 1, some 2] (fun _ => [.box [.c (prog_r v l)], .box [.o 2 0 o.length c], .arr 36 6 c (o.map Step.row)]) (by first | exact .inl rfl | exact .inr rfl) rfl (by decide) (fun i hi => by (have hi : i < 3 := hi); (obtain rfl | rfl | rfl : i = 0 ∨ i = 1 ∨ i = 2 := (by omega)) <;> rfl) (by intro _g; (repeat first | exact K0 | apply K1 rfl | apply K2 rfl rfl | apply K2 rfl (by simp) | apply K3 | exact L0 | apply L1 | exact V1 rfl | exact V2 rfl | exact V3 rfl rfl | exact V4 | exact V5 rfl | exact V3 rfl (by first | (simp; omega) | simp) | exact V1 (by first | (simp; omega) | simp) | exact V6 rfl rfl (by first | rfl | simp) (by simp) rfl | apply V7 | apply V8 | apply V9); fail_if_success focus skip) (fun _ => ⟨c, o, rfl, by rw [absE, if_pos (by omega), List.append_nil], rfl⟩)
  by_cases h2 : s.k = 2
  · repeat with_reducible first | apply S1 | apply S2 | apply S3 | apply S4 | apply S5 | apply S6 | apply S7 | apply S8 | refine S0 rfl ?_ | apply SA | apply SB | apply SC
    refine aw_region ?_
    refine RA rfl rfl (by decide) (rd_fx rfl Tf36_0 rfl) ?_
    refine RA rfl rfl (by decide) (rd_loadn1 rfl Tk3 rfl (by first | exact CB rfl | exact CQ | exact CA rfl (by first | assumption | (rw [Nat.zero_add]; assumption))) (by (try simp only [nm, putL, Nat.reduceAdd, cellsOf, cvOf]) <;> rfl)) ?_
    first | refine RA rfl rfl (by decide) (rd_eql_t rfl rfl rfl (by omega)) ?_ | refine RA rfl rfl (by decide) (rd_eql_f rfl rfl rfl (by omega)) ?_ | refine RA rfl rfl (by decide) (rd_eql rfl rfl rfl) ?_
    refine M1 rfl ?_
    first | (refine G1 rfl ?_; (refine RA rfl rfl (by decide) (rd_fx rfl Tf36_0 rfl) ?_)) | refine G2 rfl rfl (by decide) ?_
    first | (refine G1 rfl ?_; (refine RA rfl rfl (by decide) (rd_loadn1 rfl Tk3 rfl (by first | exact CB rfl | exact CQ | exact CA rfl (by first | assumption | (rw [Nat.zero_add]; assumption))) (by (try simp only [nm, putL, Nat.reduceAdd, cellsOf, cvOf]) <;> rfl)) ?_)) | refine G2 rfl rfl (by decide) ?_
    first | (refine G1 rfl ?_; (first | refine RA rfl rfl (by decide) (rd_eql_t rfl rfl rfl (by omega)) ?_ | refine RA rfl rfl (by decide) (rd_eql_f rfl rfl rfl (by omega)) ?_ | refine RA rfl rfl (by decide) (rd_eql rfl rfl rfl) ?_)) | refine G2 rfl rfl (by decide) ?_
    refine M1 rfl ?_
    refine M1 rfl ?_
    refine al_nil ?_
    repeat with_reducible first | apply S1 | apply S2 | apply S3 | apply S4 | apply S5 | apply S6 | apply S7 | apply S8 | refine S0 rfl ?_ | apply SA | apply SB | apply SC
    refine aw_cond_t rfl ?_
    repeat with_reducible first | apply S1 | apply S2 | apply S3 | apply S4 | apply S5 | apply S6 | apply S7 | apply S8 | refine S0 rfl ?_ | apply SA | apply SB | apply SC
    exact aret_0 [some 0, some 1, some 2] (fun _ => [.box [.c (prog_r v l)], .box [.o 2 0 o.length c], .arr 36 6 c (o.map Step.row)]) (by first | exact .inl rfl | exact .inr rfl) rfl (by decide) (fun i hi => by (have hi : i < 3 := hi); (obtain rfl | rfl | rfl : i = 0 ∨ i = 1 ∨ i = 2 := (by omega)) <;> rfl) (by intro _g; (repeat first | exact K0 | apply K1 rfl | apply K2 rfl rfl | apply K2 rfl (by simp) | apply K3 | exact L0 | apply L1 | exact V1 rfl | exact V2 rfl | exact V3 rfl rfl | exact V4 | exact V5 rfl | exact V3 rfl (by first | (simp; omega) | simp) | exact V1 (by first | (simp; omega) | simp) | exact V6 rfl rfl (by first | rfl | simp) (by simp) rfl | apply V7 | apply V8 | apply V9); fail_if_success focus skip) (fun _ => ⟨c, o, rfl, by rw [absE, if_pos (by omega), List.append_nil], rfl⟩)
  repeat with_reducible first | apply S1 | apply S2 | apply S3 | apply S4 | apply S5 | apply S6 | apply S7 | apply S8 | refine S0 rfl ?_ | apply SA | apply SB | apply SC
  refine aw_region ?_
  refine RA rfl rfl (by decide) (rd_fx rfl Tf36_0 rfl) ?_
  refine RA rfl rfl (by decide) (rd_loadn1 rfl Tk3 rfl (by first | exact CB rfl | exact CQ | exact CA rfl (by first | assumption | (rw [Nat.zero_add]; assumption))) (by (try simp only [nm, putL, Nat.reduceAdd, cellsOf, cvOf]) <;> rfl)) ?_
  first | refine RA rfl rfl (by decide) (rd_eql_t rfl rfl rfl (by omega)) ?_ | refine RA rfl rfl (by decide) (rd_eql_f rfl rfl rfl (by omega)) ?_ | refine RA rfl rfl (by decide) (rd_eql rfl rfl rfl) ?_
  refine M1 rfl ?_
  first | (refine G1 rfl ?_; (refine RA rfl rfl (by decide) (rd_fx rfl Tf36_0 rfl) ?_)) | refine G2 rfl rfl (by decide) ?_
  first | (refine G1 rfl ?_; (refine RA rfl rfl (by decide) (rd_loadn1 rfl Tk3 rfl (by first | exact CB rfl | exact CQ | exact CA rfl (by first | assumption | (rw [Nat.zero_add]; assumption))) (by (try simp only [nm, putL, Nat.reduceAdd, cellsOf, cvOf]) <;> rfl)) ?_)) | refine G2 rfl rfl (by decide) ?_
  first | (refine G1 rfl ?_; (first | refine RA rfl rfl (by decide) (rd_eql_t rfl rfl rfl (by omega)) ?_ | refine RA rfl rfl (by decide) (rd_eql_f rfl rfl rfl (by omega)) ?_ | refine RA rfl rfl (by decide) (rd_eql rfl rfl rfl) ?_)) | refine G2 rfl rfl (by decide) ?_
  refine M1 rfl ?_
  refine M1 rfl ?_
  refine al_nil ?_
  repeat with_reducible first | apply S1 | apply S2 | apply S3 | apply S4 | apply S5 | apply S6 | apply S7 | apply S8 | refine S0 rfl ?_ | apply SA | apply SB | apply SC
  refine aw_cond_f rfl ?_
  repeat with_reducible first | apply S1 | apply S2 | apply S3 | apply S4 | apply S5 | apply S6 | apply S7 | apply S8 | refine S0 rfl ?_ | apply SA | apply SB | apply SC
  by_cases h3 : s.k = 3 ∨ s.k = 4
  · repeat with_reducible first | apply S1 | apply S2 | apply S3 | apply S4 | apply S5 | apply S6 | apply S7 | apply S8 | refine S0 rfl ?_ | apply SA | apply SB | apply SC
    refine aw_region ?_
    refine RA rfl rfl (by decide) (rd_fx rfl Tf36_0 rfl) ?_
    refine RA rfl rfl (by decide) (rd_loadn1 rfl Tk3 rfl (by first | exact CB rfl | exact CQ | exact CA rfl (by first | assumption | (rw [Nat.zero_add]; assumption))) (by (try simp only [nm, putL, Nat.reduceAdd, cellsOf, cvOf]) <;> rfl)) ?_
    refine al_ef rfl (ef_call0 false (fun _ => placed_a _) rfl .fn rfl (by decide) Tc124 rfl (fun _g => .cons (.c rfl) .nil) (by simp)) ?_
    rintro _ _ ⟨_, _, _, ⟨bb, rfl, rfl, ⟨rfl, hb⟩ | ⟨rfl, hb⟩⟩, hF, hH⟩
    all_goals ((try simp only [nsl, Nat.reduceAdd, Nat.reduceLT, Nat.reduceSub] at hF); (try simp only [nsl, Nat.reduceAdd, Nat.reduceLT, Nat.reduceSub] at hH); subst hF; subst hH)
    all_goals (refine M1 rfl ?_)
    all_goals (refine al_nil ?_)
    all_goals (repeat with_reducible first | apply S1 | apply S2 | apply S3 | apply S4 | apply S5 | apply S6 | apply S7 | apply S8 | refine S0 rfl ?_ | apply SA | apply SB | apply SC)
    · refine aw_cond_t rfl ?_
      repeat with_reducible first | apply S1 | apply S2 | apply S3 | apply S4 | apply S5 | apply S6 | apply S7 | apply S8 | refine S0 rfl ?_ | apply SA | apply SB | apply SC
      refine aw_regionT [(0, none), (1, none), (2, none), (3, none), (4, none), (5, some [2, 3]), (6, none), (7, some [])] hMixed (by kernel_rfl) ?_
      refine RT rfl rfl rfl (by decide) (rd_fx rfl Tf42_0 rfl) ?_
      refine RT rfl rfl rfl (by decide) (rd_loadn1 rfl Tk3 rfl (by first | exact CB rfl | exact CQ | exact CA rfl (by first | assumption | (rw [Nat.zero_add]; assumption))) (by (try simp only [nm, putL, Nat.reduceAdd, cellsOf, cvOf]) <;> rfl)) ?_
      refine RT rfl rfl rfl (by decide) (rd_fx rfl Tf42_1 rfl) ?_
      refine RT rfl rfl rfl (by decide) (rd_loadn1 rfl Tk3 rfl (by first | exact CB rfl | exact CQ | exact CA rfl (by first | assumption | (rw [Nat.zero_add]; assumption))) (by (try simp only [nm, putL, Nat.reduceAdd, cellsOf, cvOf]) <;> rfl)) ?_
      refine RT rfl rfl rfl (by decide) (rd_fx rfl Tf36_1 rfl) ?_
      first | refine at_ef2 rfl rfl (ef_storen rfl rfl rfl rfl rfl Ts3 rfl (by simp) rfl (by (try simp only [nm, putL, Nat.reduceAdd, cellsOf, cvOf]) <;> rfl) (by (try simp only [nm, putL, Nat.reduceAdd, cellsOf, cvOf]) <;> rfl)) (ag_cons (by first | exact ag_rd rfl rfl rfl (rd_fx rfl Tf42_1 rfl) rfl) (ag_cons (by first | exact ag_rd rfl rfl rfl (rd_loadn1 rfl Tk3 rfl (by first | exact CB rfl | exact CQ | exact CA rfl (by first | assumption | (rw [Nat.zero_add]; assumption))) (by (try simp only [nm, putL, Nat.reduceAdd, cellsOf, cvOf]) <;> rfl)) rfl) (ag_none))) ?_ | refine at_ef2 rfl rfl (ef_storern rfl rfl rfl rfl (by first | assumption | (rw [Nat.zero_add]; assumption)) rfl rfl Ts3 rfl (by simp) rfl (by (try simp only [nm, putL, Nat.reduceAdd, cellsOf, cvOf]) <;> rfl) rfl) (ag_cons (by first | exact ag_rd rfl rfl rfl (rd_fx rfl Tf42_1 rfl) rfl) (ag_cons (by first | exact ag_rd rfl rfl rfl (rd_loadn1 rfl Tk3 rfl (by first | exact CB rfl | exact CQ | exact CA rfl (by first | assumption | (rw [Nat.zero_add]; assumption))) (by (try simp only [nm, putL, Nat.reduceAdd, cellsOf, cvOf]) <;> rfl)) rfl) (ag_none))) ?_
      refine RT rfl rfl rfl (by decide) (rd_fx rfl Tf36_2 rfl) ?_
      first | refine at_ef2 rfl rfl (ef_storen rfl rfl rfl rfl rfl Ts3 rfl (by simp) rfl (by (try simp only [nm, putL, Nat.reduceAdd, cellsOf, cvOf]) <;> rfl) (by (try simp only [nm, putL, Nat.reduceAdd, cellsOf, cvOf]) <;> rfl)) (ag_none) ?_ | refine at_ef2 rfl rfl (ef_storern rfl rfl rfl rfl (by first | assumption | (rw [Nat.zero_add]; assumption)) rfl rfl Ts3 rfl (by simp) rfl (by (try simp only [nm, putL, Nat.reduceAdd, cellsOf, cvOf]) <;> rfl) rfl) (ag_none) ?_
      refine at_nil ?_
      repeat with_reducible first | apply S1 | apply S2 | apply S3 | apply S4 | apply S5 | apply S6 | apply S7 | apply S8 | refine S0 rfl ?_ | apply SA | apply SB | apply SC
      all_goals skip
      repeat with_reducible first | apply S1 | apply S2 | apply S3 | apply S4 | apply S5 | apply S6 | apply S7 | apply S8 | refine S0 rfl ?_ | apply SA | apply SB | apply SC
      refine aw_region ?_
      refine RA rfl rfl (by decide) (rd_loadn1 rfl Tk26 rfl (by first | exact CB rfl | exact CQ | exact CA rfl (by first | assumption | (rw [Nat.zero_add]; assumption))) (by (try simp only [nm, putL, Nat.reduceAdd, cellsOf, cvOf]) <;> rfl)) ?_
      refine RA rfl rfl (by decide) (rd_loadn rfl Tk36 rfl (by first | exact CB rfl | exact CQ | exact CA rfl (by first | assumption | (rw [Nat.zero_add]; assumption))) (by (try simp only [nm, putL, Nat.reduceAdd, cellsOf, cvOf]) <;> rfl) (by simp)) ?_
      refine EA rfl (ef_buildSlicen rfl rfl (by decide) Te26 (.cons rfl rfl (.nil _)) rfl Tz36 rfl rfl (by simp) (by simp) (by (try simp only [nm, putL, Nat.reduceAdd, cellsOf, cvOf]) <;> rfl) (by (try simp only [nm, putL, Nat.reduceAdd, cellsOf, cvOf]) <;> rfl)) ?_
      refine al_ef rfl (ef_appn rfl rfl (by decide) Ta26 rfl rfl (by first | rfl | simp | (simp; omega)) rfl (by first | exact Src.own rfl (by (try simp only [nm, putL, Nat.reduceAdd, cellsOf, cvOf]) <;> rfl) (by first | rfl | simp | (simp; omega)) | exact Src.ro (by simp) (by simp [CV.one, Value.oneCell'])) (by (try simp only [nm, putL, Nat.reduceAdd, cellsOf, cvOf]) <;> rfl) (by omega) (fun _ _ => rfl) (by intro g c2; simp only [List.map_cons, List.map_nil, killO, killV, AV.has, AV.hasL, List.contains_cons, List.contains_nil, Nat.reduceBEq, Bool.or_false, Bool.false_or, Bool.false_eq_true, beq_self_eq_true, if_false, if_true, List.set_cons_zero, List.set_cons_succ, List.nil_append]; rfl)) ?_
      rintro _ _ ⟨_, cc, hcc, rfl, rfl⟩
      first | refine EA rfl (ef_storen rfl rfl rfl rfl rfl Ts26 rfl (by simp) rfl (by (try simp only [nm, putL, Nat.reduceAdd, cellsOf, cvOf]) <;> rfl) (by (try simp only [nm, putL, Nat.reduceAdd, cellsOf, cvOf]) <;> rfl)) ?_ | refine EA rfl (ef_storern rfl rfl rfl rfl (by first | assumption | (rw [Nat.zero_add]; assumption)) rfl rfl Ts26 rfl (by simp) rfl (by (try simp only [nm, putL, Nat.reduceAdd, cellsOf, cvOf]) <;> rfl) rfl) ?_
      refine al_nil ?_
      repeat with_reducible first | apply S1 | apply S2 | apply S3 | apply S4 | apply S5 | apply S6 | apply S7 | apply S8 | refine S0 rfl ?_ | apply SA | apply SB | apply SC
      exact aret_0 [some 0, some 1, some 2] (fun _ => [.box [.c (prog_r v l)], .box [.o 2 0 (o ++ [(⟨s.k, is.x, is.y, s.z, s.f, s.n⟩ : Step)]).length cc], .arr 36 6 cc ((o ++ [(⟨s.k, is.x, is.y, s.z, s.f, s.n⟩ : Step)]).map Step.row)]) (.inr rfl) rfl (by decide) (fun i hi => by (have hi : i < 3 := hi); (obtain rfl | rfl | rfl : i = 0 ∨ i = 1 ∨ i = 2 := (by omega)) <;> rfl) (by intro _g; (repeat first | exact K0 | apply K1 rfl | apply K2 rfl rfl | apply K2 rfl (by simp) | apply K3 | exact L0 | apply L1 | exact V1 rfl | exact V2 rfl | exact V3 rfl rfl | exact V4 | exact V5 rfl | exact V3 rfl (by first | (simp; omega) | simp) | exact V1 (by first | (simp; omega) | simp) | exact V6 rfl rfl (by first | rfl | simp) (by simp) rfl | apply V7 | apply V8 | apply V9); fail_if_success focus skip) (fun _ => ⟨cc, o ++ [(⟨s.k, is.x, is.y, s.z, s.f, s.n⟩ : Step)], rfl, by rw [absE, if_neg (by omega), absStep, if_pos h3], rfl⟩)
    · exact absurd h3 hb
  · repeat with_reducible first | apply S1 | apply S2 | apply S3 | apply S4 | apply S5 | apply S6 | apply S7 | apply S8 | refine S0 rfl ?_ | apply SA | apply SB | apply SC
    refine aw_region ?_
    refine RA rfl rfl (by decide) (rd_fx rfl Tf36_0 rfl) ?_
    refine RA rfl rfl (by decide) (rd_loadn1 rfl Tk3 rfl (by first | exact CB rfl | exact CQ | exact CA rfl (by first | assumption | (rw [Nat.zero_add]; assumption))) (by (try simp only [nm, putL, Nat.reduceAdd, cellsOf, cvOf]) <;> rfl)) ?_
    refine al_ef rfl (ef_call0 false (fun _ => placed_a _) rfl .fn rfl (by decide) Tc124 rfl (fun _g => .cons (.c rfl) .nil) (by simp)) ?_
    rintro _ _ ⟨_, _, _, ⟨bb, rfl, rfl, ⟨rfl, hb⟩ | ⟨rfl, hb⟩⟩, hF, hH⟩
    all_goals ((try simp only [nsl, Nat.reduceAdd, Nat.reduceLT, Nat.reduceSub] at hF); (try simp only [nsl, Nat.reduceAdd, Nat.reduceLT, Nat.reduceSub] at hH); subst hF; subst hH)
    all_goals (refine M1 rfl ?_)
    all_goals (refine al_nil ?_)
    all_goals (repeat with_reducible first | apply S1 | apply S2 | apply S3 | apply S4 | apply S5 | apply S6 | apply S7 | apply S8 | refine S0 rfl ?_ | apply SA | apply SB | apply SC)
    · exact absurd hb h3
    · refine aw_cond_f rfl ?_
      repeat with_reducible first | apply S1 | apply S2 | apply S3 | apply S4 | apply S5 | apply S6 | apply S7 | apply S8 | refine S0 rfl ?_ | apply SA | apply SB | apply SC
      refine aw_region ?_
      refine RA rfl rfl (by decide) (rd_fx rfl Tf36_0 rfl) ?_
      refine RA rfl rfl (by decide) (rd_loadn1 rfl Tk3 rfl (by first | exact CB rfl | exact CQ | exact CA rfl (by first | assumption | (rw [Nat.zero_add]; assumption))) (by (try simp only [nm, putL, Nat.reduceAdd, cellsOf, cvOf]) <;> rfl)) ?_
      first | refine RA rfl rfl (by decide) (rd_eql_t rfl rfl rfl (by omega)) ?_ | refine RA rfl rfl (by decide) (rd_eql_f rfl rfl rfl (by omega)) ?_ | refine RA rfl rfl (by decide) (rd_eql rfl rfl rfl) ?_
      refine M1 rfl ?_
      refine al_nil ?_
      repeat with_reducible first | apply S1 | apply S2 | apply S3 | apply S4 | apply S5 | apply S6 | apply S7 | apply S8 | refine S0 rfl ?_ | apply SA | apply SB | apply SC
      refine aw_if rfl (fun h5 => ?_) (fun h5 => ?_)
      · repeat with_reducible first | apply S1 | apply S2 | apply S3 | apply S4 | apply S5 | apply S6 | apply S7 | apply S8 | refine S0 rfl ?_ | apply SA | apply SB | apply SC
        refine aw_region ?_
        refine RA rfl rfl (by decide) (rd_fx rfl Tf42_2 rfl) ?_
        refine RA rfl rfl (by decide) (rd_loadn1 rfl Tk3 rfl (by first | exact CB rfl | exact CQ | exact CA rfl (by first | assumption | (rw [Nat.zero_add]; assumption))) (by (try simp only [nm, putL, Nat.reduceAdd, cellsOf, cvOf]) <;> rfl)) ?_
        refine RA rfl rfl (by decide) (rd_fx rfl Tf36_3 rfl) ?_
        first | refine EA rfl (ef_storen rfl rfl rfl rfl rfl Ts3 rfl (by simp) rfl (by (try simp only [nm, putL, Nat.reduceAdd, cellsOf, cvOf]) <;> rfl) (by (try simp only [nm, putL, Nat.reduceAdd, cellsOf, cvOf]) <;> rfl)) ?_ | refine EA rfl (ef_storern rfl rfl rfl rfl (by first | assumption | (rw [Nat.zero_add]; assumption)) rfl rfl Ts3 rfl (by simp) rfl (by (try simp only [nm, putL, Nat.reduceAdd, cellsOf, cvOf]) <;> rfl) rfl) ?_
        refine al_nil ?_
        repeat with_reducible first | apply S1 | apply S2 | apply S3 | apply S4 | apply S5 | apply S6 | apply S7 | apply S8 | refine S0 rfl ?_ | apply SA | apply SB | apply SC
        refine aw_region ?_
        refine RA rfl rfl (by decide) (rd_loadn1 rfl Tk26 rfl (by first | exact CB rfl | exact CQ | exact CA rfl (by first | assumption | (rw [Nat.zero_add]; assumption))) (by (try simp only [nm, putL, Nat.reduceAdd, cellsOf, cvOf]) <;> rfl)) ?_
        refine RA rfl rfl (by decide) (rd_loadn rfl Tk36 rfl (by first | exact CB rfl | exact CQ | exact CA rfl (by first | assumption | (rw [Nat.zero_add]; assumption))) (by (try simp only [nm, putL, Nat.reduceAdd, cellsOf, cvOf]) <;> rfl) (by simp)) ?_
        refine EA rfl (ef_buildSlicen rfl rfl (by decide) Te26 (.cons rfl rfl (.nil _)) rfl Tz36 rfl rfl (by simp) (by simp) (by (try simp only [nm, putL, Nat.reduceAdd, cellsOf, cvOf]) <;> rfl) (by (try simp only [nm, putL, Nat.reduceAdd, cellsOf, cvOf]) <;> rfl)) ?_
        refine al_ef rfl (ef_appn rfl rfl (by decide) Ta26 rfl rfl (by first | rfl | simp | (simp; omega)) rfl (by first | exact Src.own rfl (by (try simp only [nm, putL, Nat.reduceAdd, cellsOf, cvOf]) <;> rfl) (by first | rfl | simp | (simp; omega)) | exact Src.ro (by simp) (by simp [CV.one, Value.oneCell'])) (by (try simp only [nm, putL, Nat.reduceAdd, cellsOf, cvOf]) <;> rfl) (by omega) (fun _ _ => rfl) (by intro g c2; simp only [List.map_cons, List.map_nil, killO, killV, AV.has, AV.hasL, List.contains_cons, List.contains_nil, Nat.reduceBEq, Bool.or_false, Bool.false_or, Bool.false_eq_true, beq_self_eq_true, if_false, if_true, List.set_cons_zero, List.set_cons_succ, List.nil_append]; rfl)) ?_
        rintro _ _ ⟨_, cc, hcc, rfl, rfl⟩
        first | refine EA rfl (ef_storen rfl rfl rfl rfl rfl Ts26 rfl (by simp) rfl (by (try simp only [nm, putL, Nat.reduceAdd, cellsOf, cvOf]) <;> rfl) (by (try simp only [nm, putL, Nat.reduceAdd, cellsOf, cvOf]) <;> rfl)) ?_ | refine EA rfl (ef_storern rfl rfl rfl rfl (by first | assumption | (rw [Nat.zero_add]; assumption)) rfl rfl Ts26 rfl (by simp) rfl (by (try simp only [nm, putL, Nat.reduceAdd, cellsOf, cvOf]) <;> rfl) rfl) ?_
        refine al_nil ?_
        repeat with_reducible first | apply S1 | apply S2 | apply S3 | apply S4 | apply S5 | apply S6 | apply S7 | apply S8 | refine S0 rfl ?_ | apply SA | apply SB | apply SC
        exact aret_0 [some 0, some 1, some 2] (fun _ => [.box [.c (prog_r v l)], .box [.o 2 0 (o ++ [(⟨s.k, s.x, s.y, is.z, s.f, s.n⟩ : Step)]).length cc], .arr 36 6 cc ((o ++ [(⟨s.k, s.x, s.y, is.z, s.f, s.n⟩ : Step)]).map Step.row)]) (.inr rfl) rfl (by decide) (fun i hi => by (have hi : i < 3 := hi); (obtain rfl | rfl | rfl : i = 0 ∨ i = 1 ∨ i = 2 := (by omega)) <;> rfl) (by intro _g; (repeat first | exact K0 | apply K1 rfl | apply K2 rfl rfl | apply K2 rfl (by simp) | apply K3 | exact L0 | apply L1 | exact V1 rfl | exact V2 rfl | exact V3 rfl rfl | exact V4 | exact V5 rfl | exact V3 rfl (by first | (simp; omega) | simp) | exact V1 (by first | (simp; omega) | simp) | exact V6 rfl rfl (by first | rfl | simp) (by simp) rfl | apply V7 | apply V8 | apply V9); fail_if_success focus skip) (fun _ => ⟨cc, o ++ [(⟨s.k, s.x, s.y, is.z, s.f, s.n⟩ : Step)], rfl, by rw [absE, if_neg (by omega), absStep, if_neg h3, if_pos h5], rfl⟩)
      · repeat with_reducible first | apply S1 | apply S2 | apply S3 | apply S4 | apply S5 | apply S6 | apply S7 | apply S8 | refine S0 rfl ?_ | apply SA | apply SB | apply SC
        repeat with_reducible first | apply S1 | apply S2 | apply S3 | apply S4 | apply S5 | apply S6 | apply S7 | apply S8 | refine S0 rfl ?_ | apply SA | apply SB | apply SC
        refine aw_region ?_
        refine RA rfl rfl (by decide) (rd_loadn1 rfl Tk26 rfl (by first | exact CB rfl | exact CQ | exact CA rfl (by first | assumption | (rw [Nat.zero_add]; assumption))) (by (try simp only [nm, putL, Nat.reduceAdd, cellsOf, cvOf]) <;> rfl)) ?_
        refine RA rfl rfl (by decide) (rd_loadn rfl Tk36 rfl (by first | exact CB rfl | exact CQ | exact CA rfl (by first | assumption | (rw [Nat.zero_add]; assumption))) (by (try simp only [nm, putL, Nat.reduceAdd, cellsOf, cvOf]) <;> rfl) (by simp)) ?_
        refine EA rfl (ef_buildSlicen rfl rfl (by decide) Te26 (.cons rfl rfl (.nil _)) rfl Tz36 rfl rfl (by simp) (by simp) (by (try simp only [nm, putL, Nat.reduceAdd, cellsOf, cvOf]) <;> rfl) (by (try simp only [nm, putL, Nat.reduceAdd, cellsOf, cvOf]) <;> rfl)) ?_
        refine al_ef rfl (ef_appn rfl rfl (by decide) Ta26 rfl rfl (by first | rfl | simp | (simp; omega)) rfl (by first | exact Src.own rfl (by (try simp only [nm, putL, Nat.reduceAdd, cellsOf, cvOf]) <;> rfl) (by first | rfl | simp | (simp; omega)) | exact Src.ro (by simp) (by simp [CV.one, Value.oneCell'])) (by (try simp only [nm, putL, Nat.reduceAdd, cellsOf, cvOf]) <;> rfl) (by omega) (fun _ _ => rfl) (by intro g c2; simp only [List.map_cons, List.map_nil, killO, killV, AV.has, AV.hasL, List.contains_cons, List.contains_nil, Nat.reduceBEq, Bool.or_false, Bool.false_or, Bool.false_eq_true, beq_self_eq_true, if_false, if_true, List.set_cons_zero, List.set_cons_succ, List.nil_append]; rfl)) ?_
        rintro _ _ ⟨_, cc, hcc, rfl, rfl⟩
        first | refine EA rfl (ef_storen rfl rfl rfl rfl rfl Ts26 rfl (by simp) rfl (by (try simp only [nm, putL, Nat.reduceAdd, cellsOf, cvOf]) <;> rfl) (by (try simp only [nm, putL, Nat.reduceAdd, cellsOf, cvOf]) <;> rfl)) ?_ | refine EA rfl (ef_storern rfl rfl rfl rfl (by first | assumption | (rw [Nat.zero_add]; assumption)) rfl rfl Ts26 rfl (by simp) rfl (by (try simp only [nm, putL, Nat.reduceAdd, cellsOf, cvOf]) <;> rfl) rfl) ?_
        refine al_nil ?_
        repeat with_reducible first | apply S1 | apply S2 | apply S3 | apply S4 | apply S5 | apply S6 | apply S7 | apply S8 | refine S0 rfl ?_ | apply SA | apply SB | apply SC
        exact aret_0 [some 0, some 1, some 2] (fun _ => [.box [.c (prog_r v l)], .box [.o 2 0 (o ++ [s]).length cc], .arr 36 6 cc ((o ++ [s]).map Step.row)]) (.inr rfl) rfl (by decide) (fun i hi => by (have hi : i < 3 := hi); (obtain rfl | rfl | rfl : i = 0 ∨ i = 1 ∨ i = 2 := (by omega)) <;> rfl) (by intro _g; (repeat first | exact K0 | apply K1 rfl | apply K2 rfl rfl | apply K2 rfl (by simp) | apply K3 | exact L0 | apply L1 | exact V1 rfl | exact V2 rfl | exact V3 rfl rfl | exact V4 | exact V5 rfl | exact V3 rfl (by first | (simp; omega) | simp) | exact V1 (by first | (simp; omega) | simp) | exact V6 rfl rfl (by first | rfl | simp) (by simp) rfl | apply V7 | apply V8 | apply V9); fail_if_success focus skip) (fun _ => ⟨cc, o ++ [s], rfl, by rw [absE, if_neg (by omega), absStep, if_neg h3, if_neg h5], rfl⟩)
end Go.Proofs.Ytpbedckdnoogpaa
