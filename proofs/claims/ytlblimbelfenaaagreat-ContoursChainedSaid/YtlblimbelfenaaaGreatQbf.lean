/- The reference's closures over segments, by value. -/
import Derived.Test.YtlblimbelfenaaaGreatQbe
set_option linter.unusedSimpArgs false
set_option linter.unusedVariables false
/- The reference's closures over segments, by value. -/
-- NEWM
namespace Go.Proofs.YtlblimbelfenaaaGreat
open Go Go.RowKit
set_option maxRecDepth 100000
abbrev gR (L : List Seg5) : List (List CV) := L.map Seg5.row
abbrev sB (t : Sid2) : OB := .box (t.row.map .c)
abbrev gB (g : Seg5) : OB := .box (g.row.map .c)
def frIs (t : Sid2) (g : Seg5) : Bool := decide (g.fr = t)
def toIs (t : Sid2) (g : Seg5) : Bool := decide (g.to = t)
theorem dec_sid (a b c d : Int) : decide (a = c ∧ b = d) = decide ((⟨a, b⟩ : Sid2) = ⟨c, d⟩) := by simp
theorem eqTo_v (g : Seg5) (t : Sid2) : ACalls Tryz.prog 88 [.a (g.row.map .c), .p 0 0 0] [sB t] fun u H => u = .c (B (frIs t g)) ∧ H = [sB t] := by
  obtain ⟨gi, ⟨g1, g2⟩, ⟨g3, g4⟩⟩ := g
  obtain ⟨tf, tt⟩ := t
  refine acalls_of (N := 8) Tryz.func88 rfl rfl (by simp) fun E hE => ?_
  refine WA ?_
  refine WA ?_
  exact aret_1 [some 0] _ rfl rfl rfl (by decide) (ZNK rfl) ZCH ⟨by rw [dec_sid]; rfl, rfl⟩
theorem eqFr_v (g : Seg5) (s : Seg5) : ACalls Tryz.prog 91 [.a (g.row.map .c), .p 0 0 0] [gB s] fun u H => u = .c (B (toIs s.fr g)) ∧ H = [gB s] := by
  obtain ⟨gi, ⟨g1, g2⟩, ⟨g3, g4⟩⟩ := g
  obtain ⟨si, ⟨s1, s2⟩, ⟨s3, s4⟩⟩ := s
  refine acalls_of (N := 9) Tryz.func91 rfl rfl (by simp) fun E hE => ?_
  refine WA ?_
  refine WA ?_
  exact aret_1 [some 0] _ rfl rfl rfl (by decide) (ZNK rfl) ZCH ⟨by rw [dec_sid]; rfl, rfl⟩
set_option maxHeartbeats 2000000 in
theorem idxTo_v (L : List Seg5) (c : Nat) (t : Sid2) (hl : L.length ≤ 1000000) : ACallsX true Tryz.prog 87 [.o 0 0 L.length c, .f (.func 88) [.p 1 0 0]] [.arr 77 5 c (gR L), sB t] fun u H => ∃ r : Int, u = .c (I r) ∧ H = [.arr 77 5 c (gR L), sB t] ∧ (r < 0 → ∀ g ∈ L, (frIs t) g = false) ∧ (0 ≤ r → ∃ i : Nat, r = i ∧ (∃ g, L[i]? = some g ∧ (frIs t) g = true) ∧ ∀ j < i, ∀ g, L[j]? = some g → (frIs t) g = false) := by
  have e1 : (gR L).length = L.length := by simp
  refine acallsx_of true (N := 19) Tryz.func87 rfl rfl (by simp) fun E hE hP => ?_
  refine WA ?_
  refine WA ?_
  refine aw_loopw (fun m F H => ∃ (k : Nat), m + k = L.length ∧ (∀ j < k, ∀ g, L[j]? = some g → (frIs t) g = false) ∧ F = [(0, .o 0 0 L.length c), (1, .f (.func 88) [.p 1 0 0]), (7, .c (I L.length)), (8, .c (I k))] ∧ H = [.arr 77 5 c (gR L), sB t]) ?_ ?_
  · refine wk_of [some 0, some 1] (fun _ => [(0, .o 0 0 L.length c), (1, .f (.func 88) [.p 1 0 0]), (7, .c (I L.length)), (8, .c (I (0 : Nat)))]) (fun _ => [.arr 77 5 c (gR L), sB t]) (by decide) (ZNL hE) ZCF ZCH (fun _ => ?_)
    exact ⟨L.length, 0, by omega, fun j hj => absurd hj (Nat.not_lt_zero j), rfl, rfl⟩
  rintro m F H ⟨k, hk, hf, rfl, rfl⟩
  refine WA ?_
  refine aw_if rfl (fun hlt => ?_) (fun hge => ?_)
  · obtain ⟨g, hg⟩ : ∃ e, L[k]? = some e := ⟨_, List.getElem?_eq_getElem (by omega)⟩
    obtain ⟨gi, ⟨g1, g2⟩, ⟨g3, g4⟩⟩ := g
    have hrow : (gR L)[0 + k]? = some [I gi, I g1, I g2, I g3, I g4] := by rw [Nat.zero_add, List.getElem?_map, hg]; rfl
    refine WA ?_
    refine WR ?_
    refine al_ef rfl (ef_call [1] (fun _ => [sB t]) false (fun _ => eqTo_v ⟨gi, ⟨g1, g2⟩, ⟨g3, g4⟩⟩ t) rfl (.clo rfl) rfl (by decide) (by kernel_rfl) rfl ZCH (by decide) ZCH (by simp)) ?_
    rintro F1 H1 ⟨_, _, _, _, ⟨rfl, rfl⟩, hF, hH⟩
    (try simp only [List.set_cons_zero, List.set_cons_succ, updH, posOf, lentArr, killF, killO, killV, AV.has, AV.hasL, AV.emb, AV.embL, OB.emb, embB, List.filter_cons, List.filter_nil, List.getElem?_cons_zero, List.getElem?_cons_succ, List.getD_cons_zero, List.getD_cons_succ, List.drop_succ_cons, List.drop_zero, List.drop_nil, List.contains_cons, List.contains_nil, Nat.reduceBEq, Nat.reduceEqDiff, beq_self_eq_true, Bool.or_false, Bool.false_or, Bool.or_true, Bool.true_or, Bool.false_eq_true, Option.map_some, Option.map_none, List.map_cons, List.map_nil, List.cons_append, List.nil_append, List.append_nil, List.length_cons, List.length_nil, Nat.reduceAdd, Nat.reduceLT, Nat.reduceSub, if_true, if_false, Nat.zero_add, Nat.add_zero, Nat.sub_zero, Nat.lt_irrefl, Nat.not_lt_zero, Nat.zero_lt_one, Nat.lt_add_one] at hF); (try simp only [List.set_cons_zero, List.set_cons_succ, updH, posOf, lentArr, killF, killO, killV, AV.has, AV.hasL, AV.emb, AV.embL, OB.emb, embB, List.filter_cons, List.filter_nil, List.getElem?_cons_zero, List.getElem?_cons_succ, List.getD_cons_zero, List.getD_cons_succ, List.drop_succ_cons, List.drop_zero, List.drop_nil, List.contains_cons, List.contains_nil, Nat.reduceBEq, Nat.reduceEqDiff, beq_self_eq_true, Bool.or_false, Bool.false_or, Bool.or_true, Bool.true_or, Bool.false_eq_true, Option.map_some, Option.map_none, List.map_cons, List.map_nil, List.cons_append, List.nil_append, List.append_nil, List.length_cons, List.length_nil, Nat.reduceAdd, Nat.reduceLT, Nat.reduceSub, if_true, if_false, Nat.zero_add, Nat.add_zero, Nat.sub_zero, Nat.lt_irrefl, Nat.not_lt_zero, Nat.zero_lt_one, Nat.lt_add_one] at hH); subst hF; subst hH
    refine WE ?_
    refine aw_cond rfl (fun hp => ?_) (fun hp => ?_)
    · refine WA ?_
      exact aret_1 [some 0, some 1] _ rfl rfl rfl (by decide) (ZNK rfl) ZCH ⟨_, rfl, rfl, by omega, fun _ => ⟨k, rfl, ⟨_, hg, hp⟩, hf⟩⟩
    · refine ZZ ?_
      refine WA ?_
      refine wk_of [some 0, some 1] (fun _ => [(0, .o 0 0 L.length c), (1, .f (.func 88) [.p 1 0 0]), (7, .c (I L.length)), (8, .c (I (k + 1 : Nat)))]) (fun _ => [.arr 77 5 c (gR L), sB t]) (by decide) (ZNL hE) ZCF ZCH (fun _ => ?_)
      refine ⟨m - 1, by omega, k + 1, by omega, fun j hj g hg2 => ?_, rfl, rfl⟩
      rcases Nat.lt_or_ge j k with h | h
      · exact hf j h g hg2
      · obtain rfl : j = k := by omega
        rw [hg] at hg2
        injection hg2 with hg2
        rw [← hg2]; exact hp
  refine WA ?_
  exact aret_1 [some 0, some 1] _ rfl rfl rfl (by decide) (ZNK rfl) ZCH ⟨_, rfl, rfl, fun _ g hg => (by
    obtain ⟨j, hj, e⟩ := List.getElem_of_mem hg
    exact hf j (by omega) g (by rw [List.getElem?_eq_getElem hj, e])), by omega⟩
set_option maxHeartbeats 2000000 in
theorem idxFr_v (L : List Seg5) (c : Nat) (s : Seg5) (hl : L.length ≤ 1000000) : ACallsX true Tryz.prog 87 [.o 0 0 L.length c, .f (.func 91) [.p 1 0 0]] [.arr 77 5 c (gR L), gB s] fun u H => ∃ r : Int, u = .c (I r) ∧ H = [.arr 77 5 c (gR L), gB s] ∧ (r < 0 → ∀ g ∈ L, (toIs s.fr) g = false) ∧ (0 ≤ r → ∃ i : Nat, r = i ∧ (∃ g, L[i]? = some g ∧ (toIs s.fr) g = true) ∧ ∀ j < i, ∀ g, L[j]? = some g → (toIs s.fr) g = false) := by
  have e1 : (gR L).length = L.length := by simp
  refine acallsx_of true (N := 19) Tryz.func87 rfl rfl (by simp) fun E hE hP => ?_
  refine WA ?_
  refine WA ?_
  refine aw_loopw (fun m F H => ∃ (k : Nat), m + k = L.length ∧ (∀ j < k, ∀ g, L[j]? = some g → (toIs s.fr) g = false) ∧ F = [(0, .o 0 0 L.length c), (1, .f (.func 91) [.p 1 0 0]), (7, .c (I L.length)), (8, .c (I k))] ∧ H = [.arr 77 5 c (gR L), gB s]) ?_ ?_
  · refine wk_of [some 0, some 1] (fun _ => [(0, .o 0 0 L.length c), (1, .f (.func 91) [.p 1 0 0]), (7, .c (I L.length)), (8, .c (I (0 : Nat)))]) (fun _ => [.arr 77 5 c (gR L), gB s]) (by decide) (ZNL hE) ZCF ZCH (fun _ => ?_)
    exact ⟨L.length, 0, by omega, fun j hj => absurd hj (Nat.not_lt_zero j), rfl, rfl⟩
  rintro m F H ⟨k, hk, hf, rfl, rfl⟩
  refine WA ?_
  refine aw_if rfl (fun hlt => ?_) (fun hge => ?_)
  · obtain ⟨g, hg⟩ : ∃ e, L[k]? = some e := ⟨_, List.getElem?_eq_getElem (by omega)⟩
    obtain ⟨gi, ⟨g1, g2⟩, ⟨g3, g4⟩⟩ := g
    have hrow : (gR L)[0 + k]? = some [I gi, I g1, I g2, I g3, I g4] := by rw [Nat.zero_add, List.getElem?_map, hg]; rfl
    refine WA ?_
    refine WR ?_
    refine al_ef rfl (ef_call [1] (fun _ => [gB s]) false (fun _ => eqFr_v ⟨gi, ⟨g1, g2⟩, ⟨g3, g4⟩⟩ s) rfl (.clo rfl) rfl (by decide) (by kernel_rfl) rfl ZCH (by decide) ZCH (by simp)) ?_
    rintro F1 H1 ⟨_, _, _, _, ⟨rfl, rfl⟩, hF, hH⟩
    (try simp only [List.set_cons_zero, List.set_cons_succ, updH, posOf, lentArr, killF, killO, killV, AV.has, AV.hasL, AV.emb, AV.embL, OB.emb, embB, List.filter_cons, List.filter_nil, List.getElem?_cons_zero, List.getElem?_cons_succ, List.getD_cons_zero, List.getD_cons_succ, List.drop_succ_cons, List.drop_zero, List.drop_nil, List.contains_cons, List.contains_nil, Nat.reduceBEq, Nat.reduceEqDiff, beq_self_eq_true, Bool.or_false, Bool.false_or, Bool.or_true, Bool.true_or, Bool.false_eq_true, Option.map_some, Option.map_none, List.map_cons, List.map_nil, List.cons_append, List.nil_append, List.append_nil, List.length_cons, List.length_nil, Nat.reduceAdd, Nat.reduceLT, Nat.reduceSub, if_true, if_false, Nat.zero_add, Nat.add_zero, Nat.sub_zero, Nat.lt_irrefl, Nat.not_lt_zero, Nat.zero_lt_one, Nat.lt_add_one] at hF); (try simp only [List.set_cons_zero, List.set_cons_succ, updH, posOf, lentArr, killF, killO, killV, AV.has, AV.hasL, AV.emb, AV.embL, OB.emb, embB, List.filter_cons, List.filter_nil, List.getElem?_cons_zero, List.getElem?_cons_succ, List.getD_cons_zero, List.getD_cons_succ, List.drop_succ_cons, List.drop_zero, List.drop_nil, List.contains_cons, List.contains_nil, Nat.reduceBEq, Nat.reduceEqDiff, beq_self_eq_true, Bool.or_false, Bool.false_or, Bool.or_true, Bool.true_or, Bool.false_eq_true, Option.map_some, Option.map_none, List.map_cons, List.map_nil, List.cons_append, List.nil_append, List.append_nil, List.length_cons, List.length_nil, Nat.reduceAdd, Nat.reduceLT, Nat.reduceSub, if_true, if_false, Nat.zero_add, Nat.add_zero, Nat.sub_zero, Nat.lt_irrefl, Nat.not_lt_zero, Nat.zero_lt_one, Nat.lt_add_one] at hH); subst hF; subst hH
    refine WE ?_
    refine aw_cond rfl (fun hp => ?_) (fun hp => ?_)
    · refine WA ?_
      exact aret_1 [some 0, some 1] _ rfl rfl rfl (by decide) (ZNK rfl) ZCH ⟨_, rfl, rfl, by omega, fun _ => ⟨k, rfl, ⟨_, hg, hp⟩, hf⟩⟩
    · refine ZZ ?_
      refine WA ?_
      refine wk_of [some 0, some 1] (fun _ => [(0, .o 0 0 L.length c), (1, .f (.func 91) [.p 1 0 0]), (7, .c (I L.length)), (8, .c (I (k + 1 : Nat)))]) (fun _ => [.arr 77 5 c (gR L), gB s]) (by decide) (ZNL hE) ZCF ZCH (fun _ => ?_)
      refine ⟨m - 1, by omega, k + 1, by omega, fun j hj g hg2 => ?_, rfl, rfl⟩
      rcases Nat.lt_or_ge j k with h | h
      · exact hf j h g hg2
      · obtain rfl : j = k := by omega
        rw [hg] at hg2
        injection hg2 with hg2
        rw [← hg2]; exact hp
  refine WA ?_
  exact aret_1 [some 0, some 1] _ rfl rfl rfl (by decide) (ZNK rfl) ZCH ⟨_, rfl, rfl, fun _ g hg => (by
    obtain ⟨j, hj, e⟩ := List.getElem_of_mem hg
    exact hf j (by omega) g (by rw [List.getElem?_eq_getElem hj, e])), by omega⟩
theorem hasFr_v (L : List Seg5) (c : Nat) (s : Seg5) (hl : L.length ≤ 1000000) : ACallsX true Tryz.prog 90 [.o 0 0 L.length c, .f (.func 91) [.p 1 0 0]] [.arr 77 5 c (gR L), gB s] fun u H => u = .c (B (L.any (toIs s.fr))) ∧ H = [.arr 77 5 c (gR L), gB s] := by
  refine acallsx_of true (N := 9) Tryz.func90 rfl rfl (by simp) fun E hE hP => ?_
  refine WA ?_
  refine WR ?_
  refine al_ef rfl (ef_callp [0, 1] (fun _ => [.arr 77 5 c (gR L), gB s]) false (fun _ => idxFr_v L c s hl) rfl .fn rfl (by decide) (by kernel_rfl) rfl ZCH (by decide) ZCH (by simp)) ?_
  rintro F1 H1 ⟨_, _, _, _, ⟨r, rfl, rfl, hr1, hr2⟩, hF, hH⟩
  rw [killF_nil] at hF; (try simp only [List.set_cons_zero, List.set_cons_succ, updH, posOf, lentArr, killF, killO, killV, AV.has, AV.hasL, AV.emb, AV.embL, OB.emb, embB, List.filter_cons, List.filter_nil, List.getElem?_cons_zero, List.getElem?_cons_succ, List.getD_cons_zero, List.getD_cons_succ, List.drop_succ_cons, List.drop_zero, List.drop_nil, List.contains_cons, List.contains_nil, Nat.reduceBEq, Nat.reduceEqDiff, beq_self_eq_true, Bool.or_false, Bool.false_or, Bool.or_true, Bool.true_or, Bool.false_eq_true, Option.map_some, Option.map_none, List.map_cons, List.map_nil, List.cons_append, List.nil_append, List.append_nil, List.length_cons, List.length_nil, Nat.reduceAdd, Nat.reduceLT, Nat.reduceSub, if_true, if_false, Nat.zero_add, Nat.add_zero, Nat.sub_zero, Nat.lt_irrefl, Nat.not_lt_zero, Nat.zero_lt_one, Nat.lt_add_one] at hF); (try simp only [List.set_cons_zero, List.set_cons_succ, updH, posOf, lentArr, killF, killO, killV, AV.has, AV.hasL, AV.emb, AV.embL, OB.emb, embB, List.filter_cons, List.filter_nil, List.getElem?_cons_zero, List.getElem?_cons_succ, List.getD_cons_zero, List.getD_cons_succ, List.drop_succ_cons, List.drop_zero, List.drop_nil, List.contains_cons, List.contains_nil, Nat.reduceBEq, Nat.reduceEqDiff, beq_self_eq_true, Bool.or_false, Bool.false_or, Bool.or_true, Bool.true_or, Bool.false_eq_true, Option.map_some, Option.map_none, List.map_cons, List.map_nil, List.cons_append, List.nil_append, List.append_nil, List.length_cons, List.length_nil, Nat.reduceAdd, Nat.reduceLT, Nat.reduceSub, if_true, if_false, Nat.zero_add, Nat.add_zero, Nat.sub_zero, Nat.lt_irrefl, Nat.not_lt_zero, Nat.zero_lt_one, Nat.lt_add_one] at hH); subst hF; subst hH
  refine WE ?_
  refine aret_1 [some 0, some 1] _ rfl rfl rfl (by decide) (ZNK rfl) ZCH ⟨congrArg (fun z => AV.c (B z)) ?_, rfl⟩
  by_cases h : 0 ≤ r
  · obtain ⟨i, _, ⟨g, hg, hp⟩, _⟩ := hr2 h
    rw [List.any_eq_true.2 ⟨g, List.mem_of_getElem? hg, hp⟩]
    simp; omega
  · have : L.any (toIs s.fr) = false := by
      rw [List.any_eq_false]
      intro g hg
      rw [hr1 (by omega) g hg]; simp
    rw [this]; simp; omega
/-- A segment that follows none of those that are left. -/
def opnB (L : List Seg5) (s : Seg5) : Bool := !(L.any (toIs s.fr))
theorem isOpn_v (L : List Seg5) (c : Nat) (s : Seg5) (hl : L.length ≤ 1000000) : ACallsX true Tryz.prog 89 [.a (s.row.map .c), .p 0 0 0] [.box [.o 1 0 L.length c], .arr 77 5 c (gR L)] fun u H => u = .c (B (opnB L s)) ∧ H = [.box [.o 1 0 L.length c], .arr 77 5 c (gR L)] := by
  obtain ⟨si, ⟨s1, s2⟩, ⟨s3, s4⟩⟩ := s
  refine acallsx_of true (N := 8) Tryz.func89 rfl rfl (by simp) fun E hE hP => ?_
  refine WA ?_
  refine WR ?_
  refine al_ef rfl (ef_callp [1, 2] (fun _ => [.arr 77 5 c (gR L), gB ⟨si, ⟨s1, s2⟩, ⟨s3, s4⟩⟩]) false (fun _ => hasFr_v L c ⟨si, ⟨s1, s2⟩, ⟨s3, s4⟩⟩ hl) rfl .fn rfl (by decide) (by kernel_rfl) rfl ZCH (by decide) ZCH (by simp)) ?_
  rintro F1 H1 ⟨_, _, _, _, ⟨rfl, rfl⟩, hF, hH⟩
  rw [killF_nil] at hF; (try simp only [List.set_cons_zero, List.set_cons_succ, updH, posOf, lentArr, killF, killO, killV, AV.has, AV.hasL, AV.emb, AV.embL, OB.emb, embB, List.filter_cons, List.filter_nil, List.getElem?_cons_zero, List.getElem?_cons_succ, List.getD_cons_zero, List.getD_cons_succ, List.drop_succ_cons, List.drop_zero, List.drop_nil, List.contains_cons, List.contains_nil, Nat.reduceBEq, Nat.reduceEqDiff, beq_self_eq_true, Bool.or_false, Bool.false_or, Bool.or_true, Bool.true_or, Bool.false_eq_true, Option.map_some, Option.map_none, List.map_cons, List.map_nil, List.cons_append, List.nil_append, List.append_nil, List.length_cons, List.length_nil, Nat.reduceAdd, Nat.reduceLT, Nat.reduceSub, if_true, if_false, Nat.zero_add, Nat.add_zero, Nat.sub_zero, Nat.lt_irrefl, Nat.not_lt_zero, Nat.zero_lt_one, Nat.lt_add_one] at hF); (try simp only [List.set_cons_zero, List.set_cons_succ, updH, posOf, lentArr, killF, killO, killV, AV.has, AV.hasL, AV.emb, AV.embL, OB.emb, embB, List.filter_cons, List.filter_nil, List.getElem?_cons_zero, List.getElem?_cons_succ, List.getD_cons_zero, List.getD_cons_succ, List.drop_succ_cons, List.drop_zero, List.drop_nil, List.contains_cons, List.contains_nil, Nat.reduceBEq, Nat.reduceEqDiff, beq_self_eq_true, Bool.or_false, Bool.false_or, Bool.or_true, Bool.true_or, Bool.false_eq_true, Option.map_some, Option.map_none, List.map_cons, List.map_nil, List.cons_append, List.nil_append, List.append_nil, List.length_cons, List.length_nil, Nat.reduceAdd, Nat.reduceLT, Nat.reduceSub, if_true, if_false, Nat.zero_add, Nat.add_zero, Nat.sub_zero, Nat.lt_irrefl, Nat.not_lt_zero, Nat.zero_lt_one, Nat.lt_add_one] at hH); subst hF; subst hH
  refine WE ?_
  exact aret_1 [some 0, some 1] _ rfl rfl rfl (by decide) (ZNK rfl) ZCH ⟨rfl, rfl⟩
set_option maxHeartbeats 2000000 in
theorem idxOp_v (L : List Seg5) (c : Nat) (_ : True) (hl : L.length ≤ 1000000) : ACallsX true Tryz.prog 87 [.o 1 0 L.length c, .f (.func 89) [.p 0 0 0]] [.box [.o 1 0 L.length c], .arr 77 5 c (gR L)] fun u H => ∃ r : Int, u = .c (I r) ∧ H = [.box [.o 1 0 L.length c], .arr 77 5 c (gR L)] ∧ (r < 0 → ∀ g ∈ L, (opnB L) g = false) ∧ (0 ≤ r → ∃ i : Nat, r = i ∧ (∃ g, L[i]? = some g ∧ (opnB L) g = true) ∧ ∀ j < i, ∀ g, L[j]? = some g → (opnB L) g = false) := by
  have e1 : (gR L).length = L.length := by simp
  refine acallsx_of true (N := 19) Tryz.func87 rfl rfl (by simp) fun E hE hP => ?_
  refine WA ?_
  refine WA ?_
  refine aw_loopw (fun m F H => ∃ (k : Nat), m + k = L.length ∧ (∀ j < k, ∀ g, L[j]? = some g → (opnB L) g = false) ∧ F = [(0, .o 1 0 L.length c), (1, .f (.func 89) [.p 0 0 0]), (7, .c (I L.length)), (8, .c (I k))] ∧ H = [.box [.o 1 0 L.length c], .arr 77 5 c (gR L)]) ?_ ?_
  · refine wk_of [some 0, some 1] (fun _ => [(0, .o 1 0 L.length c), (1, .f (.func 89) [.p 0 0 0]), (7, .c (I L.length)), (8, .c (I (0 : Nat)))]) (fun _ => [.box [.o 1 0 L.length c], .arr 77 5 c (gR L)]) (by decide) (ZNL hE) ZCF ZCH (fun _ => ?_)
    exact ⟨L.length, 0, by omega, fun j hj => absurd hj (Nat.not_lt_zero j), rfl, rfl⟩
  rintro m F H ⟨k, hk, hf, rfl, rfl⟩
  refine WA ?_
  refine aw_if rfl (fun hlt => ?_) (fun hge => ?_)
  · obtain ⟨g, hg⟩ : ∃ e, L[k]? = some e := ⟨_, List.getElem?_eq_getElem (by omega)⟩
    obtain ⟨gi, ⟨g1, g2⟩, ⟨g3, g4⟩⟩ := g
    have hrow : (gR L)[0 + k]? = some [I gi, I g1, I g2, I g3, I g4] := by rw [Nat.zero_add, List.getElem?_map, hg]; rfl
    refine WA ?_
    refine WR ?_
    refine al_ef rfl (ef_callp [0, 1] (fun _ => [.box [.o 1 0 L.length c], .arr 77 5 c (gR L)]) false (fun _ => isOpn_v L c ⟨gi, ⟨g1, g2⟩, ⟨g3, g4⟩⟩ hl) rfl (.clo rfl) rfl (by decide) (by kernel_rfl) rfl ZCH (by decide) ZCH (by simp)) ?_
    rintro F1 H1 ⟨_, _, _, _, ⟨rfl, rfl⟩, hF, hH⟩
    rw [killF_nil] at hF; (try simp only [List.set_cons_zero, List.set_cons_succ, updH, posOf, lentArr, killF, killO, killV, AV.has, AV.hasL, AV.emb, AV.embL, OB.emb, embB, List.filter_cons, List.filter_nil, List.getElem?_cons_zero, List.getElem?_cons_succ, List.getD_cons_zero, List.getD_cons_succ, List.drop_succ_cons, List.drop_zero, List.drop_nil, List.contains_cons, List.contains_nil, Nat.reduceBEq, Nat.reduceEqDiff, beq_self_eq_true, Bool.or_false, Bool.false_or, Bool.or_true, Bool.true_or, Bool.false_eq_true, Option.map_some, Option.map_none, List.map_cons, List.map_nil, List.cons_append, List.nil_append, List.append_nil, List.length_cons, List.length_nil, Nat.reduceAdd, Nat.reduceLT, Nat.reduceSub, if_true, if_false, Nat.zero_add, Nat.add_zero, Nat.sub_zero, Nat.lt_irrefl, Nat.not_lt_zero, Nat.zero_lt_one, Nat.lt_add_one] at hF); (try simp only [List.set_cons_zero, List.set_cons_succ, updH, posOf, lentArr, killF, killO, killV, AV.has, AV.hasL, AV.emb, AV.embL, OB.emb, embB, List.filter_cons, List.filter_nil, List.getElem?_cons_zero, List.getElem?_cons_succ, List.getD_cons_zero, List.getD_cons_succ, List.drop_succ_cons, List.drop_zero, List.drop_nil, List.contains_cons, List.contains_nil, Nat.reduceBEq, Nat.reduceEqDiff, beq_self_eq_true, Bool.or_false, Bool.false_or, Bool.or_true, Bool.true_or, Bool.false_eq_true, Option.map_some, Option.map_none, List.map_cons, List.map_nil, List.cons_append, List.nil_append, List.append_nil, List.length_cons, List.length_nil, Nat.reduceAdd, Nat.reduceLT, Nat.reduceSub, if_true, if_false, Nat.zero_add, Nat.add_zero, Nat.sub_zero, Nat.lt_irrefl, Nat.not_lt_zero, Nat.zero_lt_one, Nat.lt_add_one] at hH); subst hF; subst hH
    refine WE ?_
    refine aw_cond rfl (fun hp => ?_) (fun hp => ?_)
    · refine WA ?_
      exact aret_1 [some 0, some 1] _ rfl rfl rfl (by decide) (ZNK rfl) ZCH ⟨_, rfl, rfl, by omega, fun _ => ⟨k, rfl, ⟨_, hg, hp⟩, hf⟩⟩
    · refine ZZ ?_
      refine WA ?_
      refine wk_of [some 0, some 1] (fun _ => [(0, .o 1 0 L.length c), (1, .f (.func 89) [.p 0 0 0]), (7, .c (I L.length)), (8, .c (I (k + 1 : Nat)))]) (fun _ => [.box [.o 1 0 L.length c], .arr 77 5 c (gR L)]) (by decide) (ZNL hE) ZCF ZCH (fun _ => ?_)
      refine ⟨m - 1, by omega, k + 1, by omega, fun j hj g hg2 => ?_, rfl, rfl⟩
      rcases Nat.lt_or_ge j k with h | h
      · exact hf j h g hg2
      · obtain rfl : j = k := by omega
        rw [hg] at hg2
        injection hg2 with hg2
        rw [← hg2]; exact hp
  refine WA ?_
  exact aret_1 [some 0, some 1] _ rfl rfl rfl (by decide) (ZNK rfl) ZCH ⟨_, rfl, rfl, fun _ g hg => (by
    obtain ⟨j, hj, e⟩ := List.getElem_of_mem hg
    exact hf j (by omega) g (by rw [List.getElem?_eq_getElem hj, e])), by omega⟩
end Go.Proofs.YtlblimbelfenaaaGreat
