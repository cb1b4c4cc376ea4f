/- slices.Clone and slices.Delete of steps, by value. -/
import Derived.Test.YtpbedckdnoogpaaRb
import Derived.Test.YtpbedckdnoogpaaPvo
set_option linter.unusedSimpArgs false
set_option linter.unusedVariables false
namespace Go.Proofs.Ytpbedckdnoogpaa
open Go Go.RowKit
set_option maxRecDepth 100000
theorem clone_a (l : List Step) (v : Value) (hl : l.length ≤ 1000000) : ACalls Try.prog 15 [.c (prog_r v l)] [] fun u H => ∃ c : Nat, l.length ≤ c ∧ u = .o 0 0 l.length c ∧ H = [.arr 36 6 c (l.map Step.row)] := by
  have e1 : (l.map Step.row).length = l.length := by simp
  refine acalls_of (N := 8) Try.func15 rfl rfl (by simp) fun E hE => ?_
  refine aw_rnil (t := 0) rfl fun hnil => ?_
  repeat with_reducible first | apply S1 | apply S2 | apply S3 | apply S4 | apply S5 | apply S6 | apply S7 | apply S8 | refine S0 rfl ?_ | apply SA | apply SB | apply SC
  refine aw_region ?_
  refine M1 rfl ?_
  refine al_nil ?_
  repeat with_reducible first | apply S1 | apply S2 | apply S3 | apply S4 | apply S5 | apply S6 | apply S7 | apply S8 | refine S0 rfl ?_ | apply SA | apply SB | apply SC
  refine aw_region ?_
  refine M1 rfl ?_
  refine RA rfl rfl (by decide) (rd_eqlnil rfl rfl Te26) ?_
  refine al_nil ?_
  repeat with_reducible first | apply S1 | apply S2 | apply S3 | apply S4 | apply S5 | apply S6 | apply S7 | apply S8 | refine S0 rfl ?_ | apply SA | apply SB | apply SC
  refine aw_cond rfl (fun h => ?_) (fun h => ?_)
  · obtain rfl : l = [] := by have := hnil h; simpa using this
    repeat with_reducible first | apply S1 | apply S2 | apply S3 | apply S4 | apply S5 | apply S6 | apply S7 | apply S8 | refine S0 rfl ?_ | apply SA | apply SB | apply SC
    refine aw_region ?_
    refine M1 rfl ?_
    refine al_nil ?_
    repeat with_reducible first | apply S1 | apply S2 | apply S3 | apply S4 | apply S5 | apply S6 | apply S7 | apply S8 | refine S0 rfl ?_ | apply SA | apply SB | apply SC
    exact aret_of (us := [.c (.r (.slice none 0 0) [])]) [none] (fun _ => .o 0 0 0 0) (fun _ => [.arr 36 6 0 []]) (.tmp rfl .nil) (by decide) (fun _ hi => absurd hi (Nat.not_lt_zero _)) (fun _ => .nil rfl) (by intro _g; (repeat first | exact K0 | apply K1 rfl | apply K2 rfl rfl | apply K2 rfl (by simp) | apply K3 | exact L0 | apply L1 | exact V1 rfl | exact V2 rfl | exact V3 rfl rfl | exact V4 | exact V5 rfl | exact V3 rfl (by first | (simp; omega) | simp) | exact V1 (by first | (simp; omega) | simp) | exact V6 rfl rfl (by first | rfl | simp) (by simp) rfl | apply V7 | apply V8 | apply V9); fail_if_success focus skip) (fun _ => ⟨0, by simp, rfl, rfl⟩)
  · repeat with_reducible first | apply S1 | apply S2 | apply S3 | apply S4 | apply S5 | apply S6 | apply S7 | apply S8 | refine S0 rfl ?_ | apply SA | apply SB | apply SC
    repeat with_reducible first | apply S1 | apply S2 | apply S3 | apply S4 | apply S5 | apply S6 | apply S7 | apply S8 | refine S0 rfl ?_ | apply SA | apply SB | apply SC
    refine aw_region ?_
    refine EA rfl (ef_buildSlicen rfl rfl (by decide) Te26 (.nil _) rfl Tz36 rfl rfl (by simp) (by simp) (by (try simp only [nm, putL, Nat.reduceAdd, cellsOf, cvOf]) <;> rfl) (by (try simp only [nm, putL, Nat.reduceAdd, cellsOf, cvOf]) <;> rfl)) ?_
    refine M1 rfl ?_
    refine al_ef rfl (ef_appn rfl rfl (by decide) Ta26 rfl rfl (by first | rfl | simp | (simp; omega)) rfl (by first | exact Src.own rfl (by (try simp only [nm, putL, Nat.reduceAdd, cellsOf, cvOf]) <;> rfl) (by first | rfl | simp | (simp; omega)) | exact Src.ro (by simp) (by simp [CV.one, Value.oneCell'])) (by (try simp only [nm, putL, Nat.reduceAdd, cellsOf, cvOf]) <;> rfl) (by omega) (fun _ _ => rfl) (by intro g c2; simp only [List.map_cons, List.map_nil, killO, killV, AV.has, AV.hasL, List.contains_cons, List.contains_nil, Nat.reduceBEq, Bool.or_false, Bool.false_or, Bool.false_eq_true, beq_self_eq_true, if_false, if_true, List.set_cons_zero, List.set_cons_succ, List.nil_append]; rfl)) ?_
    rintro _ _ ⟨_, cc, hcc, rfl, rfl⟩
    refine M1 rfl ?_
    refine al_nil ?_
    repeat with_reducible first | apply S1 | apply S2 | apply S3 | apply S4 | apply S5 | apply S6 | apply S7 | apply S8 | refine S0 rfl ?_ | apply SA | apply SB | apply SC
    exact aret_o [some 0] (fun _ => [.arr 36 6 cc (l.map Step.row)]) rfl rfl rfl (by simp) rfl (by decide) (fun _ hi => absurd hi (Nat.not_lt_zero _)) (by intro _g; (repeat first | exact K0 | apply K1 rfl | apply K2 rfl rfl | apply K2 rfl (by simp) | apply K3 | exact L0 | apply L1 | exact V1 rfl | exact V2 rfl | exact V3 rfl rfl | exact V4 | exact V5 rfl | exact V3 rfl (by first | (simp; omega) | simp) | exact V1 (by first | (simp; omega) | simp) | exact V6 rfl rfl (by first | rfl | simp) (by simp) rfl | apply V7 | apply V8 | apply V9); fail_if_success focus skip) (fun _ => ⟨cc, by omega, rfl, rfl⟩)
theorem delete_a (l : List Step) (i c : Nat) (hi : i < l.length) (hl : l.length ≤ 1000000) (hc : l.length ≤ c) : ACalls Try.prog 14 [.o 0 0 l.length c, .c (I i), .c (I (i + 1))] [.arr 36 6 c (l.map Step.row)] fun u H => ∃ l' : List Step, l' = l.take i ++ l.drop (i + 1) ∧ u = .o 0 0 l'.length c ∧ H = [.arr 36 6 c (l'.map Step.row)] := by
  refine acalls_of (N := 33) Try.func14 rfl rfl (by simp) fun E hE => ?_
  repeat with_reducible first | apply S1 | apply S2 | apply S3 | apply S4 | apply S5 | apply S6 | apply S7 | apply S8 | refine S0 rfl ?_ | apply SA | apply SB | apply SC
  refine aw_region ?_
  refine M1 rfl ?_
  refine al_nil ?_
  repeat with_reducible first | apply S1 | apply S2 | apply S3 | apply S4 | apply S5 | apply S6 | apply S7 | apply S8 | refine S0 rfl ?_ | apply SA | apply SB | apply SC
  refine aw_region ?_
  refine M1 rfl ?_
  refine M1 rfl ?_
  refine M1 rfl ?_
  refine M1 rfl ?_
  refine RA rfl rfl (by decide) (rd_lx rfl Te26 rfl) ?_
  refine RA rfl rfl (by decide) (rd_slice3 (l := i) (h := i + 1) (mx := l.length) rfl Te26 rfl rfl rfl rfl rfl (by omega) rfl rfl (by omega) (by omega) (by omega) (by omega)) ?_
  refine al_nil ?_
  repeat with_reducible first | apply S1 | apply S2 | apply S3 | apply S4 | apply S5 | apply S6 | apply S7 | apply S8 | refine S0 rfl ?_ | apply SA | apply SB | apply SC
  refine aw_region ?_
  refine M1 rfl ?_
  refine M1 rfl ?_
  first | refine RA rfl rfl (by decide) (rd_eql_t rfl rfl rfl (by omega)) ?_ | refine RA rfl rfl (by decide) (rd_eql_f rfl rfl rfl (by omega)) ?_ | refine RA rfl rfl (by decide) (rd_eql rfl rfl rfl) ?_
  refine al_nil ?_
  repeat with_reducible first | apply S1 | apply S2 | apply S3 | apply S4 | apply S5 | apply S6 | apply S7 | apply S8 | refine S0 rfl ?_ | apply SA | apply SB | apply SC
  refine aw_cond_f rfl ?_
  repeat with_reducible first | apply S1 | apply S2 | apply S3 | apply S4 | apply S5 | apply S6 | apply S7 | apply S8 | refine S0 rfl ?_ | apply SA | apply SB | apply SC
  refine aw_region ?_
  refine M1 rfl ?_
  refine RA rfl rfl (by decide) (rd_lx rfl Te26 rfl) ?_
  refine M1 rfl ?_
  refine al_nil ?_
  repeat with_reducible first | apply S1 | apply S2 | apply S3 | apply S4 | apply S5 | apply S6 | apply S7 | apply S8 | refine S0 rfl ?_ | apply SA | apply SB | apply SC
  refine aw_wk (wk_of (K := fun F H => F = [(0, .o 0 0 l.length c), (1, .c (I i)), (2, .c (I (i + 1))), (7, .c (I l.length))] ∧ H = [.arr 36 6 c (l.map Step.row)]) [some 0] (fun _ => [(0, .o 0 0 l.length c), (1, .c (I i)), (2, .c (I (i + 1))), (7, .c (I l.length))]) (fun _ => _) (by decide) (by rw [hE]; exact (fun i hi => by (have hi : i < 1 := hi); (have h0 : i = 0 := (by omega)); (subst h0); rfl)) (by intro _g; (repeat first | exact W0 | apply W1 rfl | exact L0 | apply L1 | exact V1 rfl | exact V2 rfl | exact V3 rfl rfl | exact V4 | exact V5 rfl | exact V3 rfl (by first | (simp; omega) | simp) | exact V1 (by first | (simp; omega) | simp) | exact V6 rfl rfl (by first | rfl | simp) (by simp) rfl | apply V7 | apply V8 | apply V9 | refine V1 ?_ | refine V3 rfl ?_); fail_if_success focus skip) (by intro _g; (repeat first | exact K0 | apply K1 rfl | apply K2 rfl rfl | apply K2 rfl (by simp) | apply K3 | exact L0 | apply L1 | exact V1 rfl | exact V2 rfl | exact V3 rfl rfl | exact V4 | exact V5 rfl | exact V3 rfl (by first | (simp; omega) | simp) | exact V1 (by first | (simp; omega) | simp) | exact V6 rfl rfl (by first | rfl | simp) (by simp) rfl | apply V7 | apply V8 | apply V9); fail_if_success focus skip) (fun _ => ⟨rfl, rfl⟩)) ?_
  rintro F H ⟨rfl, rfl⟩
  have hrows : (l.map Step.row).take i ++ (l.drop (i + 1)).map Step.row = (l.take i ++ l.drop (i + 1)).map Step.row := by
    rw [List.map_append, List.map_take]
  have hlen : (l.take i ++ l.drop (i + 1)).length = i + (l.length - (i + 1)) := by simp; omega
  refine aw_cut (fun F H => ∃ l' : List Step, l' = l.take i ++ l.drop (i + 1) ∧ F = [(0, .o 0 0 l'.length c), (7, .c (I l.length))] ∧ H = [.arr 36 6 c (l'.map Step.row)]) ?_ ?_ wk_aw
  · rcases Nat.lt_or_ge (i + 1) c with hic | hic
    · repeat with_reducible first | apply S1 | apply S2 | apply S3 | apply S4 | apply S5 | apply S6 | apply S7 | apply S8 | refine S0 rfl ?_ | apply SA | apply SB | apply SC
      refine aw_regionT [(0, none), (1, none), (2, none), (3, none), (4, none), (5, none), (6, some []), (7, none)] hMixed (by kernel_rfl) ?_
      refine M2 rfl rfl ?_
      refine M2 rfl rfl ?_
      refine RT rfl rfl rfl (by decide) (rd_slice (l := 0) (h := i) rfl Te26 rfl rfl (.inl ⟨rfl, rfl⟩) (.inr ⟨_, _, _, rfl, rfl, rfl⟩) (by omega) (by omega) (by omega)) ?_
      refine M2 rfl rfl ?_
      refine M2 rfl rfl ?_
      refine RT rfl rfl rfl (by decide) (rd_slice (l := i + 1) (h := l.length) rfl Te26 rfl rfl (.inr ⟨_, _, _, rfl, rfl, rfl⟩) (.inl ⟨rfl, rfl⟩) (by omega) (by omega) (by omega)) ?_
      refine at_ef rfl rfl (ef_appc (b := 0) (n := i) (cap := c) (news := (l.drop (i + 1)).map Step.row) rfl rfl (by decide) Ta26 rfl rfl (by simp; omega) rfl (Src.own rfl (by rw [Nat.zero_add, ← List.map_drop, List.take_of_length_le (by simp)]) (by (try simp) <;> omega)) (by simp; omega)) ?_
      rintro F1 H1 ⟨_, c2, hc2, hcf, hF, hH⟩
      obtain rfl : c2 = c := hcf (by simp; omega)
      (try simp only [List.set_cons_zero, List.set_cons_succ, updH, posOf, lentArr, killF, killO, killV, AV.has, AV.hasL, AV.emb, AV.embL, OB.emb, embB, List.filter_cons, List.filter_nil, List.getElem?_cons_zero, List.getElem?_cons_succ, List.getD_cons_zero, List.getD_cons_succ, List.drop_succ_cons, List.drop_zero, List.drop_nil, List.contains_cons, List.contains_nil, Nat.reduceBEq, Nat.reduceEqDiff, beq_self_eq_true, Bool.or_false, Bool.false_or, Bool.or_true, Bool.true_or, Bool.false_eq_true, Option.map_some, Option.map_none, List.map_cons, List.map_nil, List.cons_append, List.nil_append, List.append_nil, List.length_cons, List.length_nil, Nat.reduceAdd, Nat.reduceLT, Nat.reduceSub, if_true, if_false, Nat.zero_add, Nat.add_zero, Nat.sub_zero, Nat.lt_irrefl, Nat.not_lt_zero, Nat.zero_lt_one, Nat.lt_add_one] at hF); (try simp only [List.set_cons_zero, List.set_cons_succ, updH, posOf, lentArr, killF, killO, killV, AV.has, AV.hasL, AV.emb, AV.embL, OB.emb, embB, List.filter_cons, List.filter_nil, List.getElem?_cons_zero, List.getElem?_cons_succ, List.getD_cons_zero, List.getD_cons_succ, List.drop_succ_cons, List.drop_zero, List.drop_nil, List.contains_cons, List.contains_nil, Nat.reduceBEq, Nat.reduceEqDiff, beq_self_eq_true, Bool.or_false, Bool.false_or, Bool.or_true, Bool.true_or, Bool.false_eq_true, Option.map_some, Option.map_none, List.map_cons, List.map_nil, List.cons_append, List.nil_append, List.append_nil, List.length_cons, List.length_nil, Nat.reduceAdd, Nat.reduceLT, Nat.reduceSub, if_true, if_false, Nat.zero_add, Nat.add_zero, Nat.sub_zero, Nat.lt_irrefl, Nat.not_lt_zero, Nat.zero_lt_one, Nat.lt_add_one] at hH); subst hF; subst hH
      refine ⟨ag_none, ?_⟩
      refine M2 rfl rfl ?_
      refine at_nil ?_
      repeat with_reducible first | apply S1 | apply S2 | apply S3 | apply S4 | apply S5 | apply S6 | apply S7 | apply S8 | refine S0 rfl ?_ | apply SA | apply SB | apply SC
      refine wk_of [some 0] (fun _ => [(0, .o 0 0 (l.take i ++ l.drop (i + 1)).length _), (7, .c (I l.length))]) (fun _ => [.arr 36 6 _ ((l.take i ++ l.drop (i + 1)).map Step.row)]) (by decide) (by rw [hE]; exact (fun i hi => by (have hi : i < 1 := hi); (have h0 : i = 0 := (by omega)); (subst h0); rfl)) (fun _g => .cons rfl (.o rfl (by rw [hlen]; simp)) (.cons rfl (.c rfl) .nil)) (fun _g => .arr rfl hrows .nil) (fun _ => ⟨_, rfl, rfl, rfl⟩)
    · obtain rfl : c = i + 1 := by omega
      have hdn : l.drop (i + 1) = [] := List.drop_eq_nil_of_le (by omega)
      repeat with_reducible first | apply S1 | apply S2 | apply S3 | apply S4 | apply S5 | apply S6 | apply S7 | apply S8 | refine S0 rfl ?_ | apply SA | apply SB | apply SC
      refine aw_regionT [(0, none), (1, none), (2, none), (3, none), (4, none), (5, none), (6, some []), (7, none)] hMixed (by kernel_rfl) ?_
      refine M2 rfl rfl ?_
      refine M2 rfl rfl ?_
      refine RT rfl rfl rfl (by decide) (rd_slice (l := 0) (h := i) rfl Te26 rfl rfl (.inl ⟨rfl, rfl⟩) (.inr ⟨_, _, _, rfl, rfl, rfl⟩) (by omega) (by omega) (by omega)) ?_
      refine M2 rfl rfl ?_
      refine M2 rfl rfl ?_
      refine RT rfl rfl rfl (by decide) (rd_slicee (l := i + 1) (h := l.length) rfl Te26 rfl rfl (.inr ⟨_, _, _, rfl, rfl, rfl⟩) (.inl ⟨rfl, rfl⟩) (by omega) rfl) ?_
      refine at_ef rfl rfl (ef_appc (b := 0) (n := i) (cap := i + 1) (news := (l.drop (i + 1)).map Step.row) rfl rfl (by decide) Ta26 rfl rfl (by simp; omega) rfl (Src.own rfl (by rw [hdn]; simp) (by (try simp) <;> omega)) (by simp; omega)) ?_
      rintro F1 H1 ⟨_, c2, hc2, hcf, hF, hH⟩
      obtain rfl : c2 = i + 1 := hcf (by simp; omega)
      (try simp only [List.set_cons_zero, List.set_cons_succ, updH, posOf, lentArr, killF, killO, killV, AV.has, AV.hasL, AV.emb, AV.embL, OB.emb, embB, List.filter_cons, List.filter_nil, List.getElem?_cons_zero, List.getElem?_cons_succ, List.getD_cons_zero, List.getD_cons_succ, List.drop_succ_cons, List.drop_zero, List.drop_nil, List.contains_cons, List.contains_nil, Nat.reduceBEq, Nat.reduceEqDiff, beq_self_eq_true, Bool.or_false, Bool.false_or, Bool.or_true, Bool.true_or, Bool.false_eq_true, Option.map_some, Option.map_none, List.map_cons, List.map_nil, List.cons_append, List.nil_append, List.append_nil, List.length_cons, List.length_nil, Nat.reduceAdd, Nat.reduceLT, Nat.reduceSub, if_true, if_false, Nat.zero_add, Nat.add_zero, Nat.sub_zero, Nat.lt_irrefl, Nat.not_lt_zero, Nat.zero_lt_one, Nat.lt_add_one] at hF); (try simp only [List.set_cons_zero, List.set_cons_succ, updH, posOf, lentArr, killF, killO, killV, AV.has, AV.hasL, AV.emb, AV.embL, OB.emb, embB, List.filter_cons, List.filter_nil, List.getElem?_cons_zero, List.getElem?_cons_succ, List.getD_cons_zero, List.getD_cons_succ, List.drop_succ_cons, List.drop_zero, List.drop_nil, List.contains_cons, List.contains_nil, Nat.reduceBEq, Nat.reduceEqDiff, beq_self_eq_true, Bool.or_false, Bool.false_or, Bool.or_true, Bool.true_or, Bool.false_eq_true, Option.map_some, Option.map_none, List.map_cons, List.map_nil, List.cons_append, List.nil_append, List.append_nil, List.length_cons, List.length_nil, Nat.reduceAdd, Nat.reduceLT, Nat.reduceSub, if_true, if_false, Nat.zero_add, Nat.add_zero, Nat.sub_zero, Nat.lt_irrefl, Nat.not_lt_zero, Nat.zero_lt_one, Nat.lt_add_one] at hH); subst hF; subst hH
      refine ⟨ag_none, ?_⟩
      refine M2 rfl rfl ?_
      refine at_nil ?_
      repeat with_reducible first | apply S1 | apply S2 | apply S3 | apply S4 | apply S5 | apply S6 | apply S7 | apply S8 | refine S0 rfl ?_ | apply SA | apply SB | apply SC
      refine wk_of [some 0] (fun _ => [(0, .o 0 0 (l.take i ++ l.drop (i + 1)).length _), (7, .c (I l.length))]) (fun _ => [.arr 36 6 _ ((l.take i ++ l.drop (i + 1)).map Step.row)]) (by decide) (by rw [hE]; exact (fun i hi => by (have hi : i < 1 := hi); (have h0 : i = 0 := (by omega)); (subst h0); rfl)) (fun _g => .cons rfl (.o rfl (by rw [hlen]; simp)) (.cons rfl (.c rfl) .nil)) (fun _g => .arr rfl hrows .nil) (fun _ => ⟨_, rfl, rfl, rfl⟩)
  rintro F H ⟨l', hl', rfl, rfl⟩
  have hll : l'.length + 1 = l.length := by rw [hl', hlen]; omega
  repeat with_reducible first | apply S1 | apply S2 | apply S3 | apply S4 | apply S5 | apply S6 | apply S7 | apply S8 | refine S0 rfl ?_ | apply SA | apply SB | apply SC
  refine aw_region ?_
  refine M1 rfl ?_
  refine M1 rfl ?_
  refine RA rfl rfl (by decide) (rd_lx rfl Te26 rfl) ?_
  refine M1 rfl ?_
  refine RA rfl rfl (by decide) (rd_slicex (l := l'.length) (h := l.length) rfl Te26 rfl rfl (.inr ⟨_, _, _, rfl, rfl, rfl⟩) (.inr ⟨_, _, _, rfl, rfl, rfl⟩) (by omega) (by omega) (by omega)) ?_
  refine al_ef rfl (ef_clear rfl rfl Te26 Tz36 rfl rfl rfl rfl (by simp)) ?_
  rintro _ _ ⟨rfl, rfl⟩
  refine al_nil ?_
  repeat with_reducible first | apply S1 | apply S2 | apply S3 | apply S4 | apply S5 | apply S6 | apply S7 | apply S8 | refine S0 rfl ?_ | apply SA | apply SB | apply SC
  refine aw_region ?_
  refine M1 rfl ?_
  refine M1 rfl ?_
  refine al_nil ?_
  repeat with_reducible first | apply S1 | apply S2 | apply S3 | apply S4 | apply S5 | apply S6 | apply S7 | apply S8 | refine S0 rfl ?_ | apply SA | apply SB | apply SC
  exact aret_o [some 0] (fun _ => [.arr 36 6 c (l'.map Step.row)]) rfl rfl rfl rfl rfl (by decide) (fun i hi => by (have hi : i < 1 := hi); (have h0 : i = 0 := (by omega)); (subst h0); rfl) (by intro _g; (repeat first | exact K0 | apply K1 rfl | apply K2 rfl rfl | apply K2 rfl (by simp) | apply K3 | exact L0 | apply L1 | exact V1 rfl | exact V2 rfl | exact V3 rfl rfl | exact V4 | exact V5 rfl | exact V3 rfl (by first | (simp; omega) | simp) | exact V1 (by first | (simp; omega) | simp) | exact V6 rfl rfl (by first | rfl | simp) (by simp) rfl | apply V7 | apply V8 | apply V9); fail_if_success focus skip) (fun _ => ⟨l', hl', rfl, rfl⟩)
end Go.Proofs.Ytpbedckdnoogpaa
