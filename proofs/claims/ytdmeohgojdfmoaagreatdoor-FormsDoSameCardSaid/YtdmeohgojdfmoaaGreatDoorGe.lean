/- slices.Grow of nil and slices.Concat, by value. -/
import Derived.Test.YtdmeohgojdfmoaaGreatDoorGc
set_option linter.unusedSimpArgs false
set_option linter.unusedVariables false
namespace Go.Proofs.YtdmeohgojdfmoaaGreatDoor
open Go Go.RowKit
set_option maxRecDepth 100000
def catR (ps : List (Value × List (List CV))) : List (List CV) := ps.flatMap (·.2)
theorem catR_next {ps : List (Value × List (List CV))} {k : Nat} {p : Value × List (List CV)} (h : ps[k]? = some p) : catR (ps.take (k + 1)) = catR (ps.take k) ++ p.2 := by
  rw [catR, List.take_add_one, h, List.flatMap_append]; simp [catR]
theorem catR_le {ps : List (Value × List (List CV))} (k : Nat) : (catR (ps.take k)).length ≤ (catR ps).length := by
  conv => rhs; rw [← List.take_append_drop k ps]
  rw [catR, catR, List.flatMap_append, List.length_append]; omega
theorem catR_part {ps : List (Value × List (List CV))} {k : Nat} {p : Value × List (List CV)} (h : ps[k]? = some p) : (catR (ps.take k)).length + p.2.length ≤ (catR ps).length := by
  have := catR_le (ps := ps) (k + 1)
  rw [catR_next h, List.length_append] at this
  exact this
theorem growP_a (n : Nat) (hn : n ≤ 1000000) : ACalls Tryz.prog 181 [.c (.r (.slice none 0 0) []), .c (I n)] [] fun u H => ∃ (c : Nat) (rows : List (List CV)), n ≤ c ∧ u = .o 0 0 0 c ∧ H = [.arr 90 2 c rows] := by
  refine acalls_of (N := 27) Tryz.func181 rfl rfl (by simp) fun E hE => ?_
  refine aw_wk (wk_of (K := fun F H => F = [(0, .o 0 0 0 0), (1, .c (I n))] ∧ H = [.arr 90 2 0 []]) [none] (fun _ => [(0, .o 0 0 0 0), (1, .c (I n))]) (fun _ => [.arr 90 2 0 []]) (by decide) (ZNL hE) ZCF ZCH (fun _ => ⟨rfl, rfl⟩)) ?_
  rintro F H ⟨rfl, rfl⟩
  refine WA ?_
  refine WA ?_
  refine aw_cond_f rfl ?_
  refine ZZ ?_
  rcases Nat.eq_zero_or_pos n with h0 | hp
  · refine WA ?_
    refine WA ?_
    refine aw_cond_f rfl ?_
    refine ZZ ?_
    refine WA ?_
    exact aret_o [some 0] (fun _ => [.arr 90 2 0 []]) rfl rfl rfl rfl rfl (by decide) (ZNK rfl) ZCH (fun _ => ⟨0, [], by omega, rfl, rfl⟩)
  · refine WA ?_
    refine WA ?_
    refine aw_cond_t rfl ?_
    refine ZR ?_
    iterate 3 refine WX1 ?_
    refine ZA (rd_slicee (l := 0) (h := 0) rfl (KE (t := 85) rfl) rfl rfl (.inl ⟨rfl, rfl⟩) (.inr ⟨_, _, _, rfl, rfl, rfl⟩) rfl rfl) ?_
    refine WO ?_
    refine al_ef rfl (ef_appz (n := n) rfl rfl (by decide) (KA (t := 85) rfl) Tryz.underlying3 rfl rfl rfl (by omega) (by omega) (by omega) (KZ (t := 90) rfl) rfl rfl) ?_
    rintro _ _ ⟨c2, hc2, rfl, rfl⟩
    iterate 2 refine WX1 ?_
    refine ZA (rd_slice (l := 0) (h := 0) rfl (KE (t := 85) rfl) rfl rfl (.inl ⟨rfl, rfl⟩) (.inr ⟨_, _, _, rfl, rfl, rfl⟩) (by omega) (by omega) (by omega)) ?_
    refine WE ?_
    refine WA ?_
    exact aret_o [some 1] (fun _ => [.arr 90 2 c2 (List.replicate n [I 0, I 0])]) rfl rfl rfl rfl rfl (by decide) (ZNK rfl) ZCH (fun _ => ⟨c2, _, by omega, rfl, rfl⟩)
theorem concatP_a (ps : List (Value × List (List CV))) (v : Value) (hR : ∀ p ∈ ps, OkR 2 p.2) (h1 : 1 ≤ ps.length) (hl : ps.length ≤ 1000) (hn : (catR ps).length ≤ 1000000) :
    ACalls Tryz.prog 153 [.c (.r v (ps.map fun p => [.r p.1 p.2]))] [] fun u H => ∃ (c : Nat), (catR ps).length ≤ c ∧ u = .o 0 0 (catR ps).length c ∧ H = [.arr 90 2 c (catR ps)] := by
  have e1 : (ps.map fun p => [CV.r p.1 p.2]).length = ps.length := by simp
  refine acalls_of (N := 36) Tryz.func153 rfl rfl (by simp) fun E hE => ?_
  refine WA ?_
  refine WA ?_
  refine WA ?_
  refine aw_loopw (fun m F H => ∃ (k : Nat), m + k = ps.length ∧ F = [(0, .c (.r v (ps.map fun p => [.r p.1 p.2]))), (3, .c (I (catR (ps.take k)).length)), (9, .c (.r v (ps.map fun p => [.r p.1 p.2]))), (10, .c (I (ps.map fun p => [CV.r p.1 p.2]).length)), (11, .c (I k))] ∧ H = []) ?_ ?_
  · refine wk_of [] (fun _ => [(0, .c (.r v (ps.map fun p => [.r p.1 p.2]))), (3, .c (I (catR (ps.take 0)).length)), (9, .c (.r v (ps.map fun p => [.r p.1 p.2]))), (10, .c (I (ps.map fun p => [CV.r p.1 p.2]).length)), (11, .c (I (0 : Nat)))]) (fun _ => _) (by decide) (ZNL hE) ZCF (fun _ => .nil) (fun _ => ?_)
    exact ⟨ps.length, 0, by omega, rfl, rfl⟩
  · rintro m F H ⟨k, hk, rfl, rfl⟩
    refine WA ?_
    refine aw_if rfl (fun hlt => ?_) (fun hge => ?_)
    · obtain ⟨p, hp⟩ : ∃ p, ps[k]? = some p := ⟨_, List.getElem?_eq_getElem (by omega)⟩
      have hrow : (ps.map fun p => [CV.r p.1 p.2])[k]? = some [.r p.1 p.2] := by rw [List.getElem?_map, hp]; rfl
      have hpl := catR_part hp
      refine WA ?_
      refine WA ?_
      refine WA ?_
      refine aw_cond_f rfl ?_
      refine ZZ ?_
      refine WA ?_
      refine wk_of [] (fun _ => [(0, .c (.r v (ps.map fun p => [.r p.1 p.2]))), (3, .c (I (((catR (ps.take k)).length : Int) + p.2.length))), (9, .c (.r v (ps.map fun p => [.r p.1 p.2]))), (10, .c (I (ps.map fun p => [CV.r p.1 p.2]).length)), (11, .c (I (k + 1 : Nat)))]) (fun _ => _) (by decide) (ZNL hE) ZCF (fun _ => .nil) (fun _ => ?_)
      exact ⟨m - 1, by omega, k + 1, by omega, by rw [catR_next hp, List.length_append]; rfl, rfl⟩
    obtain rfl : k = ps.length := by omega
    refine ZZ ?_
    have e3 : ((catR (ps.take ps.length)).length : Int) = (catR ps).length := by rw [List.take_length]
    refine aw_wk (wk_of (K := fun F H => F = [(0, .c (.r v (ps.map fun p => [.r p.1 p.2]))), (3, .c (I (catR ps).length))] ∧ H = []) [] (fun _ => [(0, .c (.r v (ps.map fun p => [.r p.1 p.2]))), (3, .c (I (catR ps).length))]) (fun _ => _) (by decide) (ZNL hE) (fun _ => .cons rfl (.c rfl) (.cons rfl (.c (by rw [e3])) .nil)) (fun _ => .nil) (fun _ => ⟨rfl, rfl⟩)) ?_
    rintro F H ⟨rfl, rfl⟩
    refine WR ?_
    refine al_ef rfl (ef_call0 false (fun _ => growP_a (catR ps).length (by omega)) rfl .fn rfl (by decide) (by kernel_rfl) rfl (fun _ => C0 rfl) (by simp)) ?_
    rintro _ _ ⟨_, _, _, ⟨c, rows, hc, rfl, rfl⟩, hF, hH⟩
    (try simp only [nsl, Nat.reduceAdd, Nat.reduceLT, Nat.reduceSub] at hF); (try simp only [nsl, Nat.reduceAdd, Nat.reduceLT, Nat.reduceSub] at hH); subst hF; subst hH
    refine WE ?_
    refine WA ?_
    refine aw_loopw (fun m F H => ∃ (k c : Nat) (rows : List (List CV)), m + k = ps.length ∧ (catR (ps.take k)).length ≤ c ∧ (catR ps).length ≤ c ∧ (catR (ps.take k)).length ≤ rows.length ∧ rows.take (catR (ps.take k)).length = catR (ps.take k) ∧ (1 ≤ k → rows = catR (ps.take k)) ∧ F = [(6, .o 0 0 (catR (ps.take k)).length c), (25, .c (.r v (ps.map fun p => [.r p.1 p.2]))), (26, .c (I (ps.map fun p => [CV.r p.1 p.2]).length)), (27, .c (I k))] ∧ H = [.arr 90 2 c rows]) ?_ ?_
    · refine wk_of [some 0] (fun _ => [(6, .o 0 0 (catR (ps.take 0)).length c), (25, .c (.r v (ps.map fun p => [.r p.1 p.2]))), (26, .c (I (ps.map fun p => [CV.r p.1 p.2]).length)), (27, .c (I (0 : Nat)))]) (fun _ => _) (by decide) (ZNL hE) ZCF ZCH (fun _ => ?_)
      exact ⟨ps.length, 0, c, rows, by omega, by simp [catR], hc, by simp [catR], by simp [catR], by omega, rfl, rfl⟩
    rintro m F H ⟨k, c, rows, hk, hc1, hc, hq, hrt, hre, rfl, rfl⟩
    refine WA ?_
    refine aw_if rfl (fun hlt => ?_) (fun hge => ?_)
    · obtain ⟨p, hp⟩ : ∃ p, ps[k]? = some p := ⟨_, List.getElem?_eq_getElem (by omega)⟩
      have hrow : (ps.map fun p => [CV.r p.1 p.2])[k]? = some [.r p.1 p.2] := by rw [List.getElem?_map, hp]; rfl
      have hpl := catR_part hp
      have hnx := catR_next hp
      refine WA ?_
      refine WR ?_
      refine al_ef rfl (ef_appc (b := 0) (n := (catR (ps.take k)).length) (cap := c) (news := p.2) rfl rfl (by decide) (KA (t := 85) rfl) rfl rfl hq rfl (.ro (fun r h => (hR p (List.mem_of_getElem? hp) r h).1) (fun r h => (hR p (List.mem_of_getElem? hp) r h).2)) (by omega)) ?_
      rintro F1 H1 ⟨_, c2, hc2, hcf, hF, hH⟩
      obtain rfl : c = c2 := (hcf (by omega)).symm
      (try simp only [List.set_cons_zero, List.set_cons_succ, updH, posOf, lentArr, killF, killO, killV, AV.has, AV.hasL, AV.emb, AV.embL, OB.emb, embB, List.filter_cons, List.filter_nil, List.getElem?_cons_zero, List.getElem?_cons_succ, List.getD_cons_zero, List.getD_cons_succ, List.drop_succ_cons, List.drop_zero, List.drop_nil, List.contains_cons, List.contains_nil, Nat.reduceBEq, Nat.reduceEqDiff, beq_self_eq_true, Bool.or_false, Bool.false_or, Bool.or_true, Bool.true_or, Bool.false_eq_true, Option.map_some, Option.map_none, List.map_cons, List.map_nil, List.cons_append, List.nil_append, List.append_nil, List.length_cons, List.length_nil, Nat.reduceAdd, Nat.reduceLT, Nat.reduceSub, if_true, if_false, Nat.zero_add, Nat.add_zero, Nat.sub_zero, Nat.lt_irrefl, Nat.not_lt_zero, Nat.zero_lt_one, Nat.lt_add_one] at hF); (try simp only [List.set_cons_zero, List.set_cons_succ, updH, posOf, lentArr, killF, killO, killV, AV.has, AV.hasL, AV.emb, AV.embL, OB.emb, embB, List.filter_cons, List.filter_nil, List.getElem?_cons_zero, List.getElem?_cons_succ, List.getD_cons_zero, List.getD_cons_succ, List.drop_succ_cons, List.drop_zero, List.drop_nil, List.contains_cons, List.contains_nil, Nat.reduceBEq, Nat.reduceEqDiff, beq_self_eq_true, Bool.or_false, Bool.false_or, Bool.or_true, Bool.true_or, Bool.false_eq_true, Option.map_some, Option.map_none, List.map_cons, List.map_nil, List.cons_append, List.nil_append, List.append_nil, List.length_cons, List.length_nil, Nat.reduceAdd, Nat.reduceLT, Nat.reduceSub, if_true, if_false, Nat.zero_add, Nat.add_zero, Nat.sub_zero, Nat.lt_irrefl, Nat.not_lt_zero, Nat.zero_lt_one, Nat.lt_add_one] at hH); subst hF; subst hH
      refine WE ?_
      refine WA ?_
      refine wk_of [some 0] (fun _ => [(6, .o 0 0 (catR (ps.take (k + 1))).length _), (25, .c (.r v (ps.map fun p => [.r p.1 p.2]))), (26, .c (I (ps.map fun p => [CV.r p.1 p.2]).length)), (27, .c (I (k + 1 : Nat)))]) (fun _ => _) (by decide) (ZNL hE) (fun _ => .cons rfl (.o rfl (by rw [hnx, List.length_append])) (.cons rfl (.c rfl) (.cons rfl (.c rfl) (.cons rfl (.c (by simp)) .nil)))) ZCH (fun _ => ?_)
      exact ⟨m - 1, by omega, k + 1, _, _, by omega, by rw [hnx, List.length_append]; omega, hc, by rw [hnx, hrt]; simp, by rw [hnx, hrt, List.take_length], fun _ => by rw [hnx, hrt], rfl, rfl⟩
    obtain rfl : k = ps.length := by omega
    obtain rfl : rows = catR ps := by have := hre h1; rwa [List.take_length] at this
    refine ZZ ?_
    refine WA ?_
    exact aret_o [some 0] (fun _ => [.arr 90 2 c (catR ps)]) rfl rfl rfl (by rw [List.take_length]) rfl (by decide) (ZNK rfl) ZCH (fun _ => ⟨c, hc, rfl, rfl⟩)
end Go.Proofs.YtdmeohgojdfmoaaGreatDoor
