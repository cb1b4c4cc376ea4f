/- Running programs with their statuses, by value. -/
import Derived.Test.YtpbedckdnoogpaaCe
set_option linter.unusedSimpArgs false
set_option linter.unusedVariables false
namespace Go.Proofs.Ytpbedckdnoogpaa
open Go Go.RowKit
set_option maxRecDepth 100000
theorem run1_a (k : Int) (a b : Mach) (c : Nat) (ms : List Mach) (hb : ms.length ≤ 1000000) : ACalls Try.prog 93 [.c (I k), .a (a.row.map .c), .a (b.row.map .c), .p 0 0 0] [.box [.o 1 0 ms.length c], .arr 42 8 c (ms.map Mach.row)] fun u H => ∃ c', u = .t [] ∧ H = [.box [.o 1 0 (ms ++ [b]).length c'], .arr 42 8 c' ((ms ++ [b]).map Mach.row)] := by
  refine acallsx_of false (N := 11) Try.func93 rfl rfl (by simp) fun E hE hP => ?_
  refine WA ?_
  refine WR ?_
  refine al_ef rfl (Zapp (KA (t := 38) rfl)) ?_
  rintro _ _ ⟨_, cc, hcc, rfl, rfl⟩
  refine WE ?_
  exact aret_0 [some 0, some 1] (fun _ => [.box [.o 1 0 (ms ++ [b]).length cc], .arr 42 8 cc ((ms ++ [b]).map Mach.row)]) (.inr rfl) rfl (by decide) (ZNK rfl) ZCH (fun _ => ⟨cc, rfl, rfl⟩)
abbrev runsK (l : List Step) (k : Nat) : List Mach := (List.range k).map fun i => lastS (l.take (i + 1))
theorem runRun_a (l : List Step) (v : Value) (hl : l.length ≤ 1000000) (hok : ∀ s ∈ l, s.ok) : ACalls Try.prog 92 [.c (prog_r v l), .f (.func 93) [.p 0 0 0]] [.box [.o 1 0 0 0], .arr 42 8 0 []] fun u H => ∃ c, u = .a ((lastS l).row.map .c) ∧ H = [.box [.o 1 0 (runsS l).length c], .arr 42 8 c ((runsS l).map Mach.row)] := by
  have e1 : (l.map Step.row).length = l.length := by simp
  refine acallsx_of false (N := 27) Try.func92 rfl rfl (by simp) fun E hE hP => ?_
  refine WA ?_
  refine WA ?_
  refine WA ?_
  refine aw_loopw (fun n F H => ∃ (k c : Nat) (ms : List Mach), n + k = l.length ∧ ms = runsK l k ∧ F = [(1, .f (.func 93) [.p 0 0 0]), (4, .p 2 0 0), (5, .p 3 0 0), (9, .c (prog_r v l)), (10, .c (I (l.map Step.row).length)), (11, .c (I k))] ∧ H = [.box [.o 1 0 ms.length c], .arr 42 8 c (ms.map Mach.row), .box (Mach.zero.row.map .c), .box ((lastS (l.take k)).row.map .c)]) ?_ ?_
  · refine wk_of [some 0, some 1, some 2, some 3] (fun _ => [(1, .f (.func 93) [.p 0 0 0]), (4, .p 2 0 0), (5, .p 3 0 0), (9, .c (prog_r v l)), (10, .c (I (l.map Step.row).length)), (11, .c (I (0 : Nat)))]) (fun _ => [.box [.o 1 0 ([] : List Mach).length 0], .arr 42 8 0 (([] : List Mach).map Mach.row), .box (Mach.zero.row.map .c), .box ((lastS (l.take 0)).row.map .c)]) (by decide) (ZNL hE) ZCF ZCH (fun _ => ?_)
    exact ⟨l.length, 0, 0, [], by omega, rfl, rfl, rfl⟩
  rintro n F H ⟨k, c, ms, hk, hms, rfl, rfl⟩
  have hml : ms.length = k := by rw [hms]; simp
  refine WA ?_
  refine aw_if rfl (fun hlt => ?_) (fun hge => ?_)
  · obtain ⟨s, hs⟩ : ∃ s, l[k]? = some s := ⟨_, List.getElem?_eq_getElem (by omega)⟩
    have hrow : (l.map Step.row)[k]? = some s.row := by rw [List.getElem?_map, hs]; rfl
    have hso := hok s (List.mem_of_getElem? hs)
    refine WA ?_
    refine WA ?_
    refine WR ?_
    refine al_ef rfl (ef_call0 false (fun _ => after_a (lastS (l.take k)) s hso) rfl .fn rfl (by decide) (by kernel_rfl) rfl (fun _ => C0 rfl) (by simp)) ?_
    rintro _ _ ⟨_, _, _, ⟨rfl, rfl⟩, hF, hH⟩
    (try simp only [nsl, Nat.reduceAdd, Nat.reduceLT, Nat.reduceSub] at hF); (try simp only [nsl, Nat.reduceAdd, Nat.reduceLT, Nat.reduceSub] at hH); subst hF; subst hH
    refine WE ?_
    refine WR ?_
    refine al_ef rfl (ef_call [0, 1] (fun _ => [.box [.o 1 0 ms.length c], .arr 42 8 c (ms.map Mach.row)]) false (fun _ => run1_a k (lastS (l.take k)) (afterS (lastS (l.take k)) s) c ms (by omega)) rfl (.clo rfl) rfl (by decide) (by kernel_rfl) rfl ZCH (by decide) ZCH (by simp)) ?_
    rintro F1 H1 ⟨_, _, _, _, ⟨c', rfl, hq⟩, hF, hH⟩
    subst hq
    (try simp only [List.set_cons_zero, List.set_cons_succ, updH, posOf, lentArr, killF, killO, killV, AV.has, AV.hasL, AV.emb, AV.embL, OB.emb, embB, List.filter_cons, List.filter_nil, List.getElem?_cons_zero, List.getElem?_cons_succ, List.getD_cons_zero, List.getD_cons_succ, List.drop_succ_cons, List.drop_zero, List.drop_nil, List.contains_cons, List.contains_nil, Nat.reduceBEq, Nat.reduceEqDiff, beq_self_eq_true, Bool.or_false, Bool.false_or, Bool.or_true, Bool.true_or, Bool.false_eq_true, Option.map_some, Option.map_none, List.map_cons, List.map_nil, List.cons_append, List.nil_append, List.append_nil, List.length_cons, List.length_nil, Nat.reduceAdd, Nat.reduceLT, Nat.reduceSub, if_true, if_false, Nat.zero_add, Nat.add_zero, Nat.sub_zero, Nat.lt_irrefl, Nat.not_lt_zero, Nat.zero_lt_one, Nat.lt_add_one] at hF); (try simp only [List.set_cons_zero, List.set_cons_succ, updH, posOf, lentArr, killF, killO, killV, AV.has, AV.hasL, AV.emb, AV.embL, OB.emb, embB, List.filter_cons, List.filter_nil, List.getElem?_cons_zero, List.getElem?_cons_succ, List.getD_cons_zero, List.getD_cons_succ, List.drop_succ_cons, List.drop_zero, List.drop_nil, List.contains_cons, List.contains_nil, Nat.reduceBEq, Nat.reduceEqDiff, beq_self_eq_true, Bool.or_false, Bool.false_or, Bool.or_true, Bool.true_or, Bool.false_eq_true, Option.map_some, Option.map_none, List.map_cons, List.map_nil, List.cons_append, List.nil_append, List.append_nil, List.length_cons, List.length_nil, Nat.reduceAdd, Nat.reduceLT, Nat.reduceSub, if_true, if_false, Nat.zero_add, Nat.add_zero, Nat.sub_zero, Nat.lt_irrefl, Nat.not_lt_zero, Nat.zero_lt_one, Nat.lt_add_one] at hH); subst hF; subst hH
    refine WE ?_
    refine WA ?_
    refine wk_of [some 0, some 1, some 2, some 3] (fun _ => [(1, .f (.func 93) [.p 0 0 0]), (4, .p 2 0 0), (5, .p 3 0 0), (9, .c (prog_r v l)), (10, .c (I (l.map Step.row).length)), (11, .c (I (k + 1 : Nat)))]) (fun _ => [.box [.o 1 0 (ms ++ [afterS (lastS (l.take k)) s]).length c'], .arr 42 8 c' ((ms ++ [afterS (lastS (l.take k)) s]).map Mach.row), .box (Mach.zero.row.map .c), .box ((afterS (lastS (l.take k)) s).row.map .c)]) (by decide) (ZNL hE) ZCF ZCH (fun _ => ?_)
    exact ⟨n - 1, by omega, k + 1, c', ms ++ [afterS (lastS (l.take k)) s], by omega, by rw [runsK, runs_next, hms, lastS_succ hs], rfl, by rw [lastS_succ hs]⟩
  refine WA ?_
  obtain rfl : k = l.length := by omega
  refine aret_a [some 0, some 1] [.box [.o 1 0 ms.length c], .arr 42 8 c (ms.map Mach.row)] rfl (KK (t := 42) rfl) rfl (Cells.box rfl) (by simp) (by (try simp only [nm, putL, Nat.reduceAdd, cellsOf, cvOf]) <;> rfl) (by decide) (ZNK rfl) (fun _ => C0 rfl) ZCH ⟨c, ?_, by rw [hms]; rfl⟩
  rw [List.take_of_length_le (by omega)]; rfl
theorem run_a (l : List Step) (v : Value) (hl : l.length ≤ 1000000) (hok : ∀ s ∈ l, s.ok) : ACalls Try.prog 16 [.c (prog_r v l)] [] fun u H => ∃ v', u = .t [.c (.r v' ((if progF l = 0 then runsS l else []).map Mach.row)), .c (I (progF l))] ∧ H = [] := by
  refine acallsx_of false (N := 15) Try.func16 rfl rfl (by simp) fun E hE hP => ?_
  refine WA ?_
  refine WR ?_
  refine al_ef rfl (ef_call0 false (fun _ => check_a l v (by omega)) rfl .fn rfl (by decide) (by kernel_rfl) rfl (fun _ => C0 rfl) (by simp)) ?_
  rintro _ _ ⟨_, _, _, ⟨rfl, rfl⟩, hF, hH⟩
  (try simp only [nsl, Nat.reduceAdd, Nat.reduceLT, Nat.reduceSub] at hF); (try simp only [nsl, Nat.reduceAdd, Nat.reduceLT, Nat.reduceSub] at hH); subst hF; subst hH
  refine WE ?_
  refine WA ?_
  refine aw_if rfl (fun hne => ?_) (fun heq => ?_)
  · refine WA ?_
    exact aret_2 [] _ rfl rfl rfl rfl rfl (by decide) (ZNK rfl) (fun _ => .nil) ⟨_, by rw [if_neg hne]; rfl, rfl⟩
  · have h0 : progF l = 0 := by omega
    refine ZZ ?_
    refine WR ?_
    refine al_nil ?_
    refine aseq_n ?_
    refine aw_wk (wk_of (K := fun F H => F = [(0, .c (prog_r v l)), (5, .p 0 0 0)] ∧ H = [.box [.o 1 0 0 0], .arr 42 8 0 []]) [some 0, none] (fun _ => [(0, .c (prog_r v l)), (5, .p 0 0 0)]) (fun _ => [.box [.o 1 0 0 0], .arr 42 8 0 []]) (by decide) (ZNL hE) ZCF ZCH (fun _ => ⟨rfl, rfl⟩)) ?_
    rintro F H ⟨rfl, rfl⟩
    refine WR ?_
    refine al_ef rfl (ef_call [0, 1] (fun _ => [.box [.o 1 0 0 0], .arr 42 8 0 []]) false (fun _ => runRun_a l v hl hok) rfl .fn rfl (by decide) (by kernel_rfl) rfl ZCH (by decide) ZCH (by simp)) ?_
    rintro F1 H1 ⟨_, _, _, _, ⟨c', rfl, hq⟩, hF, hH⟩
    subst hq
    (try simp only [List.set_cons_zero, List.set_cons_succ, updH, posOf, lentArr, killF, killO, killV, AV.has, AV.hasL, AV.emb, AV.embL, OB.emb, embB, List.filter_cons, List.filter_nil, List.getElem?_cons_zero, List.getElem?_cons_succ, List.getD_cons_zero, List.getD_cons_succ, List.drop_succ_cons, List.drop_zero, List.drop_nil, List.contains_cons, List.contains_nil, Nat.reduceBEq, Nat.reduceEqDiff, beq_self_eq_true, Bool.or_false, Bool.false_or, Bool.or_true, Bool.true_or, Bool.false_eq_true, Option.map_some, Option.map_none, List.map_cons, List.map_nil, List.cons_append, List.nil_append, List.append_nil, List.length_cons, List.length_nil, Nat.reduceAdd, Nat.reduceLT, Nat.reduceSub, if_true, if_false, Nat.zero_add, Nat.add_zero, Nat.sub_zero, Nat.lt_irrefl, Nat.not_lt_zero, Nat.zero_lt_one, Nat.lt_add_one] at hF); (try simp only [List.set_cons_zero, List.set_cons_succ, updH, posOf, lentArr, killF, killO, killV, AV.has, AV.hasL, AV.emb, AV.embL, OB.emb, embB, List.filter_cons, List.filter_nil, List.getElem?_cons_zero, List.getElem?_cons_succ, List.getD_cons_zero, List.getD_cons_succ, List.drop_succ_cons, List.drop_zero, List.drop_nil, List.contains_cons, List.contains_nil, Nat.reduceBEq, Nat.reduceEqDiff, beq_self_eq_true, Bool.or_false, Bool.false_or, Bool.or_true, Bool.true_or, Bool.false_eq_true, Option.map_some, Option.map_none, List.map_cons, List.map_nil, List.cons_append, List.nil_append, List.append_nil, List.length_cons, List.length_nil, Nat.reduceAdd, Nat.reduceLT, Nat.reduceSub, if_true, if_false, Nat.zero_add, Nat.add_zero, Nat.sub_zero, Nat.lt_irrefl, Nat.not_lt_zero, Nat.zero_lt_one, Nat.lt_add_one] at hH); subst hF; subst hH
    refine WE ?_
    refine WA ?_
    exact aret_f2 [] [] rfl rfl rfl rfl rfl rfl (by rw [List.drop_zero, List.take_of_length_le (by simp)]) (by simp) (by decide) (by decide) (ZNK rfl) (fun _ => .nil) (fun v' => ⟨v', by rw [if_pos h0, h0], rfl⟩)
end Go.Proofs.Ytpbedckdnoogpaa
