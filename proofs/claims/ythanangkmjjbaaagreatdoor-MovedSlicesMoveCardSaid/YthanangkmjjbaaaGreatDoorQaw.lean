/- slices.Delete of faces, by value. -/
import Derived.Test.YthanangkmjjbaaaGreatDoorQau
import Derived.Test.YthanangkmjjbaaaGreatDoorQam
set_option linter.unusedSimpArgs false
set_option linter.unusedVariables false
/- slices.Delete of faces, by value. -/
namespace Go.Proofs.YthanangkmjjbaaaGreatDoor
open Go Go.RowKit
set_option maxRecDepth 100000
theorem deleteF_v (l : List Fac3) (i c : Nat) (hi : i < l.length) (hl : l.length ≤ 1000000) (hc : l.length ≤ c) : ACalls Tryz.prog 109 [.o 0 0 l.length c, .c (I i), .c (I (i + 1))] [.arr 140 3 c (l.map Fac3.row)] fun u H => ∃ l' : List Fac3, l' = l.take i ++ l.drop (i + 1) ∧ u = .o 0 0 l'.length c ∧ H = [.arr 140 3 c (l'.map Fac3.row)] := by
  refine acallsx_of false (N := 33) Tryz.func109 rfl rfl (by simp) fun E hE hP => ?_
  refine WA ?_
  refine ZR ?_
  iterate 5 refine WX1 ?_
  refine ZA (rd_slice3 (l := i) (h := i + 1) (mx := l.length) rfl (KE (t := 27) rfl) rfl rfl rfl rfl rfl (by omega) rfl rfl (by omega) (by omega) (by omega) (by omega)) ?_
  refine WE ?_
  refine WA ?_
  refine aw_cond_f rfl ?_
  refine ZZ ?_
  refine WA ?_
  refine aw_wk (wk_of (K := fun F H => F = [(0, .o 0 0 l.length c), (1, .c (I i)), (2, .c (I (i + 1))), (7, .c (I l.length))] ∧ H = [.arr 140 3 c (l.map Fac3.row)]) [some 0] (fun _ => [(0, .o 0 0 l.length c), (1, .c (I i)), (2, .c (I (i + 1))), (7, .c (I l.length))]) (fun _ => _) (by decide) (ZNL hE) ZCF ZCH (fun _ => ⟨rfl, rfl⟩)) ?_
  rintro F H ⟨rfl, rfl⟩
  have hrows : (l.map Fac3.row).take i ++ (l.drop (i + 1)).map Fac3.row = (l.take i ++ l.drop (i + 1)).map Fac3.row := by
    rw [List.map_append, List.map_take]
  have hlen : (l.take i ++ l.drop (i + 1)).length = i + (l.length - (i + 1)) := by simp; omega
  refine aw_cut (fun F H => ∃ l' : List Fac3, l' = l.take i ++ l.drop (i + 1) ∧ F = [(0, .o 0 0 l'.length c), (7, .c (I l.length))] ∧ H = [.arr 140 3 c (l'.map Fac3.row)]) ?_ ?_ wk_aw
  · rcases Nat.lt_or_ge (i + 1) c with hic | hic
    · refine ZZ ?_
      refine aw_regionT [(0, none), (1, none), (2, none), (3, none), (4, none), (5, none), (6, some []), (7, none)] hMixed (by kernel_rfl) ?_
      iterate 2 refine WX2 ?_
      refine ZT rfl (rd_slice (l := 0) (h := i) rfl (KE (t := 27) rfl) rfl rfl (.inl ⟨rfl, rfl⟩) (.inr ⟨_, _, _, rfl, rfl, rfl⟩) (by omega) (by omega) (by omega)) ?_
      iterate 2 refine WX2 ?_
      refine ZT rfl (rd_slice (l := i + 1) (h := l.length) rfl (KE (t := 27) rfl) rfl rfl (.inr ⟨_, _, _, rfl, rfl, rfl⟩) (.inl ⟨rfl, rfl⟩) (by omega) (by omega) (by omega)) ?_
      refine at_ef rfl rfl (ef_appc (b := 0) (n := i) (cap := c) (news := (l.drop (i + 1)).map Fac3.row) rfl rfl (by decide) (KA (t := 27) rfl) rfl rfl (by simp; omega) rfl (Src.own rfl (by rw [Nat.zero_add, ← List.map_drop, List.take_of_length_le (by simp)]) (by (try simp) <;> omega)) (by simp; omega)) ?_
      rintro F1 H1 ⟨_, c2, hc2, hcf, hF, hH⟩
      obtain rfl : c2 = c := hcf (by simp; omega)
      (try simp only [List.set_cons_zero, List.set_cons_succ, updH, posOf, lentArr, killF, killO, killV, AV.has, AV.hasL, AV.emb, AV.embL, OB.emb, embB, List.filter_cons, List.filter_nil, List.getElem?_cons_zero, List.getElem?_cons_succ, List.getD_cons_zero, List.getD_cons_succ, List.drop_succ_cons, List.drop_zero, List.drop_nil, List.contains_cons, List.contains_nil, Nat.reduceBEq, Nat.reduceEqDiff, beq_self_eq_true, Bool.or_false, Bool.false_or, Bool.or_true, Bool.true_or, Bool.false_eq_true, Option.map_some, Option.map_none, List.map_cons, List.map_nil, List.cons_append, List.nil_append, List.append_nil, List.length_cons, List.length_nil, Nat.reduceAdd, Nat.reduceLT, Nat.reduceSub, if_true, if_false, Nat.zero_add, Nat.add_zero, Nat.sub_zero, Nat.lt_irrefl, Nat.not_lt_zero, Nat.zero_lt_one, Nat.lt_add_one] at hF); (try simp only [List.set_cons_zero, List.set_cons_succ, updH, posOf, lentArr, killF, killO, killV, AV.has, AV.hasL, AV.emb, AV.embL, OB.emb, embB, List.filter_cons, List.filter_nil, List.getElem?_cons_zero, List.getElem?_cons_succ, List.getD_cons_zero, List.getD_cons_succ, List.drop_succ_cons, List.drop_zero, List.drop_nil, List.contains_cons, List.contains_nil, Nat.reduceBEq, Nat.reduceEqDiff, beq_self_eq_true, Bool.or_false, Bool.false_or, Bool.or_true, Bool.true_or, Bool.false_eq_true, Option.map_some, Option.map_none, List.map_cons, List.map_nil, List.cons_append, List.nil_append, List.append_nil, List.length_cons, List.length_nil, Nat.reduceAdd, Nat.reduceLT, Nat.reduceSub, if_true, if_false, Nat.zero_add, Nat.add_zero, Nat.sub_zero, Nat.lt_irrefl, Nat.not_lt_zero, Nat.zero_lt_one, Nat.lt_add_one] at hH); subst hF; subst hH
      refine ⟨ag_none, ?_⟩
      refine WQ ?_
      refine wk_of [some 0] (fun _ => [(0, .o 0 0 (l.take i ++ l.drop (i + 1)).length _), (7, .c (I l.length))]) (fun _ => [.arr 140 3 _ ((l.take i ++ l.drop (i + 1)).map Fac3.row)]) (by decide) (ZNL hE) (fun _g => .cons rfl (.o rfl (by rw [hlen]; simp)) (.cons rfl (.c rfl) .nil)) (fun _g => .arr rfl hrows .nil) (fun _ => ⟨_, rfl, rfl, rfl⟩)
    · obtain rfl : c = i + 1 := by omega
      have hdn : l.drop (i + 1) = [] := List.drop_eq_nil_of_le (by omega)
      refine ZZ ?_
      refine aw_regionT [(0, none), (1, none), (2, none), (3, none), (4, none), (5, none), (6, some []), (7, none)] hMixed (by kernel_rfl) ?_
      iterate 2 refine WX2 ?_
      refine ZT rfl (rd_slice (l := 0) (h := i) rfl (KE (t := 27) rfl) rfl rfl (.inl ⟨rfl, rfl⟩) (.inr ⟨_, _, _, rfl, rfl, rfl⟩) (by omega) (by omega) (by omega)) ?_
      iterate 2 refine WX2 ?_
      refine ZT rfl (rd_slicee (l := i + 1) (h := l.length) rfl (KE (t := 27) rfl) rfl rfl (.inr ⟨_, _, _, rfl, rfl, rfl⟩) (.inl ⟨rfl, rfl⟩) (by omega) rfl) ?_
      refine at_ef rfl rfl (ef_appc (b := 0) (n := i) (cap := i + 1) (news := (l.drop (i + 1)).map Fac3.row) rfl rfl (by decide) (KA (t := 27) rfl) rfl rfl (by simp; omega) rfl (Src.own rfl (by rw [hdn]; simp) (by (try simp) <;> omega)) (by simp; omega)) ?_
      rintro F1 H1 ⟨_, c2, hc2, hcf, hF, hH⟩
      obtain rfl : c2 = i + 1 := hcf (by simp; omega)
      (try simp only [List.set_cons_zero, List.set_cons_succ, updH, posOf, lentArr, killF, killO, killV, AV.has, AV.hasL, AV.emb, AV.embL, OB.emb, embB, List.filter_cons, List.filter_nil, List.getElem?_cons_zero, List.getElem?_cons_succ, List.getD_cons_zero, List.getD_cons_succ, List.drop_succ_cons, List.drop_zero, List.drop_nil, List.contains_cons, List.contains_nil, Nat.reduceBEq, Nat.reduceEqDiff, beq_self_eq_true, Bool.or_false, Bool.false_or, Bool.or_true, Bool.true_or, Bool.false_eq_true, Option.map_some, Option.map_none, List.map_cons, List.map_nil, List.cons_append, List.nil_append, List.append_nil, List.length_cons, List.length_nil, Nat.reduceAdd, Nat.reduceLT, Nat.reduceSub, if_true, if_false, Nat.zero_add, Nat.add_zero, Nat.sub_zero, Nat.lt_irrefl, Nat.not_lt_zero, Nat.zero_lt_one, Nat.lt_add_one] at hF); (try simp only [List.set_cons_zero, List.set_cons_succ, updH, posOf, lentArr, killF, killO, killV, AV.has, AV.hasL, AV.emb, AV.embL, OB.emb, embB, List.filter_cons, List.filter_nil, List.getElem?_cons_zero, List.getElem?_cons_succ, List.getD_cons_zero, List.getD_cons_succ, List.drop_succ_cons, List.drop_zero, List.drop_nil, List.contains_cons, List.contains_nil, Nat.reduceBEq, Nat.reduceEqDiff, beq_self_eq_true, Bool.or_false, Bool.false_or, Bool.or_true, Bool.true_or, Bool.false_eq_true, Option.map_some, Option.map_none, List.map_cons, List.map_nil, List.cons_append, List.nil_append, List.append_nil, List.length_cons, List.length_nil, Nat.reduceAdd, Nat.reduceLT, Nat.reduceSub, if_true, if_false, Nat.zero_add, Nat.add_zero, Nat.sub_zero, Nat.lt_irrefl, Nat.not_lt_zero, Nat.zero_lt_one, Nat.lt_add_one] at hH); subst hF; subst hH
      refine ⟨ag_none, ?_⟩
      refine WQ ?_
      refine wk_of [some 0] (fun _ => [(0, .o 0 0 (l.take i ++ l.drop (i + 1)).length _), (7, .c (I l.length))]) (fun _ => [.arr 140 3 _ ((l.take i ++ l.drop (i + 1)).map Fac3.row)]) (by decide) (ZNL hE) (fun _g => .cons rfl (.o rfl (by rw [hlen]; simp)) (.cons rfl (.c rfl) .nil)) (fun _g => .arr rfl hrows .nil) (fun _ => ⟨_, rfl, rfl, rfl⟩)
  rintro F H ⟨l', hl', rfl, rfl⟩
  have hll : l'.length + 1 = l.length := by rw [hl', hlen]; omega
  refine ZR ?_
  iterate 4 refine WX1 ?_
  refine ZA (rd_slicex (l := l'.length) (h := l.length) rfl (KE (t := 27) rfl) rfl rfl (.inr ⟨_, _, _, rfl, rfl, rfl⟩) (.inr ⟨_, _, _, rfl, rfl, rfl⟩) (by omega) (by omega) (by omega)) ?_
  refine al_ef rfl (ef_clear rfl rfl (KE (t := 27) rfl) (KZ (t := 140) rfl) rfl rfl rfl rfl (by simp)) ?_
  rintro _ _ ⟨rfl, rfl⟩
  refine WE ?_
  refine WA ?_
  exact aret_o [some 0] (fun _ => [.arr 140 3 c (l'.map Fac3.row)]) rfl rfl rfl rfl rfl (by decide) (ZNK rfl) ZCH (fun _ => ⟨l', hl', rfl, rfl⟩)
end Go.Proofs.YthanangkmjjbaaaGreatDoor
