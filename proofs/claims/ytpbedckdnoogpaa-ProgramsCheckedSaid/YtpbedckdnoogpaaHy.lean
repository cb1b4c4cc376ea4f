/- The steps of a layer, as the reference takes them, by value. -/
import Derived.Test.YtpbedckdnoogpaaCe
import Derived.Test.YtpbedckdnoogpaaRe
import Derived.Test.YtpbedckdnoogpaaHa
import Derived.Test.YtpbedckdnoogpaaPvz
import Derived.Test.YtpbedckdnoogpaaMc
import Derived.Test.YtpbedckdnoogpaaPvy
import Derived.Test.YtpbedckdnoogpaaGd
import Derived.Test.YtpbedckdnoogpaaMf
set_option linter.unusedSimpArgs false
set_option linter.unusedVariables false
/- Runs that gather steps; the absolute form, by value. -/
namespace Go.Proofs.Ytpbedckdnoogpaa
open Go Go.RowKit
set_option maxRecDepth 100000
theorem placed_a (n : Int) : ACalls Try.prog 124 [.c (I n)] [] fun u H => ∃ b : Bool, u = .c (B b) ∧ H = [] ∧ ((b = true ∧ (n = 3 ∨ n = 4)) ∨ (b = false ∧ ¬ (n = 3 ∨ n = 4))) := by
  refine acallsx_of false (N := 9) Try.func124 rfl rfl (by simp) fun E hE hP => ?_
  by_cases h1 : n = 3
  · repeat' (first
      | (with_reducible refine aw_seq ?_) | (with_reducible refine aseq_n ?_) | (with_reducible refine aseq_r ?_) | (with_reducible refine ablk_n ?_) | (with_reducible refine ablk_r ?_) | (with_reducible refine ablk_e ?_) | (with_reducible refine ablk_o rfl ?_) | (with_reducible refine aseq_e ?_) | (with_reducible refine aw_skip ?_) | (with_reducible refine aw_block ?_) | (with_reducible refine aw_ret ?_) | (with_reducible refine aw_exit ?_)
      | refine aw_cond_t rfl ?_ | refine aw_cond_f rfl ?_ | refine aw_if_t rfl (by assumption) ?_ | refine aw_if_f rfl (by assumption) ?_ | refine aw_if rfl (fun _ => ?_) (fun _ => ?_) | refine aw_cond rfl (fun _ => ?_) (fun _ => ?_)
      | (refine aw_region ?_; refine WE ?_))
    exact aret_1 [] _ rfl rfl rfl (by decide) (ZNK rfl) (fun _ => .nil) ⟨true, rfl, rfl, .inl ⟨rfl, .inl h1⟩⟩
  · by_cases h2 : n = 4
    · repeat' (first
        | (with_reducible refine aw_seq ?_) | (with_reducible refine aseq_n ?_) | (with_reducible refine aseq_r ?_) | (with_reducible refine ablk_n ?_) | (with_reducible refine ablk_r ?_) | (with_reducible refine ablk_e ?_) | (with_reducible refine ablk_o rfl ?_) | (with_reducible refine aseq_e ?_) | (with_reducible refine aw_skip ?_) | (with_reducible refine aw_block ?_) | (with_reducible refine aw_ret ?_) | (with_reducible refine aw_exit ?_)
        | refine aw_cond_t rfl ?_ | refine aw_cond_f rfl ?_ | refine aw_if_t rfl (by assumption) ?_ | refine aw_if_f rfl (by assumption) ?_ | refine aw_if rfl (fun _ => ?_) (fun _ => ?_) | refine aw_cond rfl (fun _ => ?_) (fun _ => ?_)
        | (refine aw_region ?_; refine WE ?_))
      exact aret_1 [] _ rfl rfl rfl (by decide) (ZNK rfl) (fun _ => .nil) ⟨true, rfl, rfl, .inl ⟨rfl, .inr h2⟩⟩
    · repeat' (first
        | (with_reducible refine aw_seq ?_) | (with_reducible refine aseq_n ?_) | (with_reducible refine aseq_r ?_) | (with_reducible refine ablk_n ?_) | (with_reducible refine ablk_r ?_) | (with_reducible refine ablk_e ?_) | (with_reducible refine ablk_o rfl ?_) | (with_reducible refine aseq_e ?_) | (with_reducible refine aw_skip ?_) | (with_reducible refine aw_block ?_) | (with_reducible refine aw_ret ?_) | (with_reducible refine aw_exit ?_)
        | refine aw_cond_t rfl ?_ | refine aw_cond_f rfl ?_ | refine aw_if_t rfl (by assumption) ?_ | refine aw_if_f rfl (by assumption) ?_ | refine aw_if rfl (fun _ => ?_) (fun _ => ?_) | refine aw_cond rfl (fun _ => ?_) (fun _ => ?_)
        | (refine aw_region ?_; refine WE ?_))
      exact aret_1 [] _ rfl rfl rfl (by decide) (ZNK rfl) (fun _ => .nil) ⟨false, rfl, rfl, .inr ⟨rfl, by omega⟩⟩
/-- The blocks of a run that gathers steps. -/
abbrev gath (l : List Step) (v : Value) (c : Nat) (o : List Step) : List OB := [.box [.c (prog_r v l)], .box [.o 2 0 o.length c], .arr 36 6 c (o.map Step.row)]
theorem runS_a (fn : FuncId) (hfn : okFn Try.prog fn = true) (J : Nat → List Step → Prop) (l : List Step) (v : Value) (hl : l.length ≤ 1000000) (hok : ∀ s ∈ l, s.ok)
    (hst : ∀ k c o s, l[k]? = some s → J k o → k ≤ 1000000 → ACalls Try.prog fn [.c (I k), .a ((lastS (l.take k)).row.map .c), .a ((afterS (lastS (l.take k)) s).row.map .c), .p 0 0 0, .p 1 0 0] (gath l v c o) fun u H => ∃ c' o', u = .t [] ∧ J (k + 1) o' ∧ H = gath l v c' o') (c0 : Nat) (o0 : List Step) (h0 : J 0 o0) :
    ACalls Try.prog 92 [.c (prog_r v l), .f (.func fn) [.p 0 0 0, .p 1 0 0]] (gath l v c0 o0) fun u H => ∃ c o, u = .a ((lastS l).row.map .c) ∧ J l.length o ∧ H = gath l v c o := by
  have e1 : (l.map Step.row).length = l.length := by simp
  refine acallsx_of false (N := 27) Try.func92 rfl rfl (by simp) fun E hE hP => ?_
  refine WA ?_
  refine WA ?_
  refine WA ?_
  refine aw_loopw (fun n F H => ∃ (k c : Nat) (o : List Step), n + k = l.length ∧ J k o ∧ F = [(1, .f (.func fn) [.p 0 0 0, .p 1 0 0]), (4, .p 3 0 0), (5, .p 4 0 0), (9, .c (prog_r v l)), (10, .c (I (l.map Step.row).length)), (11, .c (I k))] ∧ H = [.box [.c (prog_r v l)], .box [.o 2 0 o.length c], .arr 36 6 c (o.map Step.row), .box (Mach.zero.row.map .c), .box ((lastS (l.take k)).row.map .c)]) ?_ ?_
  · refine wk_of [some 0, some 1, some 2, some 3, some 4] (fun _ => [(1, .f (.func fn) [.p 0 0 0, .p 1 0 0]), (4, .p 3 0 0), (5, .p 4 0 0), (9, .c (prog_r v l)), (10, .c (I (l.map Step.row).length)), (11, .c (I (0 : Nat)))]) (fun _ => [.box [.c (prog_r v l)], .box [.o 2 0 o0.length c0], .arr 36 6 c0 (o0.map Step.row), .box (Mach.zero.row.map .c), .box ((lastS (l.take 0)).row.map .c)]) (by decide) (ZNL hE) ZCF ZCH (fun _ => ?_)
    exact ⟨l.length, 0, c0, o0, by omega, h0, rfl, rfl⟩
  rintro n F H ⟨k, c, o, hk, hJ, rfl, rfl⟩
  refine WA ?_
  refine aw_if rfl (fun hlt => ?_) (fun hge => ?_)
  · obtain ⟨s, hs⟩ : ∃ s, l[k]? = some s := ⟨_, List.getElem?_eq_getElem (by omega)⟩
    have hrow : (l.map Step.row)[k]? = some s.row := by rw [List.getElem?_map, hs]; rfl
    have hso := hok s (List.mem_of_getElem? hs)
    refine WA ?_
    refine WA ?_
    refine WR ?_
    refine al_ef rfl (ef_call0 false (fun _ => after_a (lastS (l.take k)) s hso) rfl .fn rfl (by decide) (by kernel_rfl) rfl (fun _ => C0 rfl) (by simp)) ?_
    rintro _ _ ⟨_, _, _, ⟨rfl, rfl⟩, hF, hH⟩
    (try simp only [nsl, Nat.reduceAdd, Nat.reduceLT, Nat.reduceSub] at hF); (try simp only [nsl, Nat.reduceAdd, Nat.reduceLT, Nat.reduceSub] at hH); subst hF; subst hH
    refine WE ?_
    refine WR ?_
    refine al_ef rfl (ef_call [0, 1, 2] (fun _ => [.box [.c (prog_r v l)], .box [.o 2 0 o.length c], .arr 36 6 c (o.map Step.row)]) false (fun _ => hst k c o s hs hJ (by omega)) rfl (.clo rfl) rfl (by decide) hfn rfl ZCH (by decide) ZCH (by simp)) ?_
    rintro F1 H1 ⟨_, _, _, _, ⟨c', o', rfl, hJ', hq⟩, hF, hH⟩
    subst hq
    (try simp only [List.set_cons_zero, List.set_cons_succ, updH, posOf, lentArr, killF, killO, killV, AV.has, AV.hasL, AV.emb, AV.embL, OB.emb, embB, List.filter_cons, List.filter_nil, List.getElem?_cons_zero, List.getElem?_cons_succ, List.getD_cons_zero, List.getD_cons_succ, List.drop_succ_cons, List.drop_zero, List.drop_nil, List.contains_cons, List.contains_nil, Nat.reduceBEq, Nat.reduceEqDiff, beq_self_eq_true, Bool.or_false, Bool.false_or, Bool.or_true, Bool.true_or, Bool.false_eq_true, Option.map_some, Option.map_none, List.map_cons, List.map_nil, List.cons_append, List.nil_append, List.append_nil, List.length_cons, List.length_nil, Nat.reduceAdd, Nat.reduceLT, Nat.reduceSub, if_true, if_false, Nat.zero_add, Nat.add_zero, Nat.sub_zero, Nat.lt_irrefl, Nat.not_lt_zero, Nat.zero_lt_one, Nat.lt_add_one] at hF); (try simp only [List.set_cons_zero, List.set_cons_succ, updH, posOf, lentArr, killF, killO, killV, AV.has, AV.hasL, AV.emb, AV.embL, OB.emb, embB, List.filter_cons, List.filter_nil, List.getElem?_cons_zero, List.getElem?_cons_succ, List.getD_cons_zero, List.getD_cons_succ, List.drop_succ_cons, List.drop_zero, List.drop_nil, List.contains_cons, List.contains_nil, Nat.reduceBEq, Nat.reduceEqDiff, beq_self_eq_true, Bool.or_false, Bool.false_or, Bool.or_true, Bool.true_or, Bool.false_eq_true, Option.map_some, Option.map_none, List.map_cons, List.map_nil, List.cons_append, List.nil_append, List.append_nil, List.length_cons, List.length_nil, Nat.reduceAdd, Nat.reduceLT, Nat.reduceSub, if_true, if_false, Nat.zero_add, Nat.add_zero, Nat.sub_zero, Nat.lt_irrefl, Nat.not_lt_zero, Nat.zero_lt_one, Nat.lt_add_one] at hH); subst hF; subst hH
    refine WE ?_
    refine WA ?_
    refine wk_of [some 0, some 1, some 2, some 3, some 4] (fun _ => [(1, .f (.func fn) [.p 0 0 0, .p 1 0 0]), (4, .p 3 0 0), (5, .p 4 0 0), (9, .c (prog_r v l)), (10, .c (I (l.map Step.row).length)), (11, .c (I (k + 1 : Nat)))]) (fun _ => [.box [.c (prog_r v l)], .box [.o 2 0 o'.length c'], .arr 36 6 c' (o'.map Step.row), .box (Mach.zero.row.map .c), .box ((afterS (lastS (l.take k)) s).row.map .c)]) (by decide) (ZNL hE) ZCF ZCH (fun _ => ?_)
    exact ⟨n - 1, by omega, k + 1, c', o', by omega, hJ', rfl, by rw [lastS_succ hs]⟩
  refine WA ?_
  obtain rfl : k = l.length := by omega
  refine aret_a [some 0, some 1, some 2] [.box [.c (prog_r v l)], .box [.o 2 0 o.length c], .arr 36 6 c (o.map Step.row)] rfl (KK (t := 42) rfl) rfl (Cells.box rfl) (by simp) (by (try simp only [nm, putL, Nat.reduceAdd, cellsOf, cvOf]) <;> rfl) (by decide) (ZNK rfl) (fun _ => C0 rfl) ZCH ⟨c, o, ?_, hJ, rfl⟩
  rw [List.take_of_length_le (by omega)]; rfl
/-- What a step gives in the absolute form. -/
def absE (is : Mach) (s : Step) : List Step := if s.k = 1 ∨ s.k = 2 then [] else [absStep is s]
theorem absolute1_a (k : Nat) (was is : Mach) (o : List Step) (c : Nat) (l : List Step) (v : Value) (s : Step) (hs : l[k]? = some s) (ho : o.length ≤ 1000000) :
    ACalls Try.prog 170 [.c (I k), .a (was.row.map .c), .a (is.row.map .c), .p 0 0 0, .p 1 0 0] (gath l v c o) fun u H => ∃ c' o', u = .t [] ∧ o' = o ++ absE is s ∧ H = gath l v c' o' := by
  have hlk : k < l.length := (List.getElem?_eq_some_iff.1 hs).1
  have e1 : (l.map Step.row).length = l.length := by simp
  have hrow : (l.map Step.row)[k]? = some s.row := by rw [List.getElem?_map, hs]; rfl
  refine acallsx_of false (N := 43) Try.func170 rfl rfl (by simp) fun E hE hP => ?_
  refine WA ?_
  refine WA ?_
  by_cases h1 : s.k = 1
  · refine WA ?_
    refine aw_cond_t rfl ?_
    refine ZZ ?_
    exact aret_0 [some 0, some 1, some 2] (fun _ => [.box [.c (prog_r v l)], .box [.o 2 0 o.length c], .arr 36 6 c (o.map Step.row)]) (by first | exact .inl rfl | exact .inr rfl) rfl (by decide) (ZNK rfl) ZCH (fun _ => ⟨c, o, rfl, by rw [absE, if_pos (by omega), List.append_nil], rfl⟩)
  by_cases h2 : s.k = 2
  · refine WA ?_
    refine aw_cond_t rfl ?_
    refine ZZ ?_
    exact aret_0 [some 0, some 1, some 2] (fun _ => [.box [.c (prog_r v l)], .box [.o 2 0 o.length c], .arr 36 6 c (o.map Step.row)]) (by first | exact .inl rfl | exact .inr rfl) rfl (by decide) (ZNK rfl) ZCH (fun _ => ⟨c, o, rfl, by rw [absE, if_pos (by omega), List.append_nil], rfl⟩)
  refine WA ?_
  refine aw_cond_f rfl ?_
  refine ZZ ?_
  by_cases h3 : s.k = 3 ∨ s.k = 4
  · refine WR ?_
    refine al_ef rfl (ef_call0 false (fun _ => placed_a _) rfl .fn rfl (by decide) (by kernel_rfl) rfl (fun _g => .cons (.c rfl) .nil) (by simp)) ?_
    rintro _ _ ⟨_, _, _, ⟨bb, rfl, rfl, ⟨rfl, hb⟩ | ⟨rfl, hb⟩⟩, hF, hH⟩
    all_goals ((try simp only [nsl, Nat.reduceAdd, Nat.reduceLT, Nat.reduceSub] at hF); (try simp only [nsl, Nat.reduceAdd, Nat.reduceLT, Nat.reduceSub] at hH); subst hF; subst hH)
    all_goals (refine WE ?_)
    · refine aw_cond_t rfl ?_
      refine ZZ ?_
      refine aw_regionT [(0, none), (1, none), (2, none), (3, none), (4, none), (5, some [2, 3]), (6, none), (7, some [])] hMixed (by kernel_rfl) ?_
      refine WQ ?_
      all_goals skip
      refine WR ?_
      refine al_ef rfl (Zapp (KA (t := 26) rfl)) ?_
      rintro _ _ ⟨_, cc, hcc, rfl, rfl⟩
      refine WE ?_
      exact aret_0 [some 0, some 1, some 2] (fun _ => [.box [.c (prog_r v l)], .box [.o 2 0 (o ++ [(⟨s.k, is.x, is.y, s.z, s.f, s.n⟩ : Step)]).length cc], .arr 36 6 cc ((o ++ [(⟨s.k, is.x, is.y, s.z, s.f, s.n⟩ : Step)]).map Step.row)]) (.inr rfl) rfl (by decide) (ZNK rfl) ZCH (fun _ => ⟨cc, o ++ [(⟨s.k, is.x, is.y, s.z, s.f, s.n⟩ : Step)], rfl, by rw [absE, if_neg (by omega), absStep, if_pos h3], rfl⟩)
    · exact absurd h3 hb
  · refine WR ?_
    refine al_ef rfl (ef_call0 false (fun _ => placed_a _) rfl .fn rfl (by decide) (by kernel_rfl) rfl (fun _g => .cons (.c rfl) .nil) (by simp)) ?_
    rintro _ _ ⟨_, _, _, ⟨bb, rfl, rfl, ⟨rfl, hb⟩ | ⟨rfl, hb⟩⟩, hF, hH⟩
    all_goals ((try simp only [nsl, Nat.reduceAdd, Nat.reduceLT, Nat.reduceSub] at hF); (try simp only [nsl, Nat.reduceAdd, Nat.reduceLT, Nat.reduceSub] at hH); subst hF; subst hH)
    all_goals (refine WE ?_)
    · exact absurd hb h3
    · refine aw_cond_f rfl ?_
      refine ZZ ?_
      refine WA ?_
      refine aw_if rfl (fun h5 => ?_) (fun h5 => ?_)
      · refine WA ?_
        refine WR ?_
        refine al_ef rfl (Zapp (KA (t := 26) rfl)) ?_
        rintro _ _ ⟨_, cc, hcc, rfl, rfl⟩
        refine WE ?_
        exact aret_0 [some 0, some 1, some 2] (fun _ => [.box [.c (prog_r v l)], .box [.o 2 0 (o ++ [(⟨s.k, s.x, s.y, is.z, s.f, s.n⟩ : Step)]).length cc], .arr 36 6 cc ((o ++ [(⟨s.k, s.x, s.y, is.z, s.f, s.n⟩ : Step)]).map Step.row)]) (.inr rfl) rfl (by decide) (ZNK rfl) ZCH (fun _ => ⟨cc, o ++ [(⟨s.k, s.x, s.y, is.z, s.f, s.n⟩ : Step)], rfl, by rw [absE, if_neg (by omega), absStep, if_neg h3, if_pos h5], rfl⟩)
      · refine ZZ ?_
        refine WR ?_
        refine al_ef rfl (Zapp (KA (t := 26) rfl)) ?_
        rintro _ _ ⟨_, cc, hcc, rfl, rfl⟩
        refine WE ?_
        exact aret_0 [some 0, some 1, some 2] (fun _ => [.box [.c (prog_r v l)], .box [.o 2 0 (o ++ [s]).length cc], .arr 36 6 cc ((o ++ [s]).map Step.row)]) (.inr rfl) rfl (by decide) (ZNK rfl) ZCH (fun _ => ⟨cc, o ++ [s], rfl, by rw [absE, if_neg (by omega), absStep, if_neg h3, if_neg h5], rfl⟩)
end Go.Proofs.Ytpbedckdnoogpaa

/- Absolute, by value. -/
namespace Go.Proofs.Ytpbedckdnoogpaa
open Go Go.RowKit
set_option maxRecDepth 100000
def absJ (l : List Step) (k : Nat) (o : List Step) : Prop := o ++ absFrom (lastS (l.take k)) (l.drop k) = absS l ∧ o.length ≤ k
theorem absJ_next {l : List Step} {k : Nat} {o : List Step} {s : Step} (h : absJ l k o) (hs : l[k]? = some s) : absJ l (k + 1) (o ++ absE (afterS (lastS (l.take k)) s) s) := by
  obtain ⟨h1, h2⟩ := h
  refine ⟨?_, ?_⟩
  · rw [← h1, drop_cons hs, lastS_succ hs, absFrom, absE]
    split <;> simp
  · unfold absE; split <;> simp <;> omega
theorem absolute_a (l : List Step) (v : Value) (hl : l.length ≤ 1000000) (hok : ∀ s ∈ l, s.ok) : ACalls Try.prog 131 [.c (prog_r v l)] [] fun u H => ∃ v', u = .c (prog_r v' (absS l)) ∧ H = [] := by
  have h0 : absJ l 0 [] := ⟨rfl, Nat.le_refl _⟩
  have hst : ∀ k c o s, l[k]? = some s → absJ l k o → k ≤ 1000000 → ACalls Try.prog 170 [.c (I k), .a ((lastS (l.take k)).row.map .c), .a ((afterS (lastS (l.take k)) s).row.map .c), .p 0 0 0, .p 1 0 0] (gath l v c o) fun u H => ∃ c' o', u = .t [] ∧ absJ l (k + 1) o' ∧ H = gath l v c' o' := fun k c o s hs hJ hk => by
    refine (absolute1_a k (lastS (l.take k)) (afterS (lastS (l.take k)) s) o c l v s hs (by have := hJ.2; omega)).mono fun u H ⟨c', o', h1, h2, h3⟩ => ⟨c', o', h1, ?_, h3⟩
    rw [h2]; exact absJ_next hJ hs
  refine acallsx_of false (N := 8) Try.func131 rfl rfl (by simp) fun E hE hP => ?_
  refine WA ?_
  refine WR ?_
  refine al_nil ?_
  refine aseq_n ?_
  refine aw_wk (wk_of (K := fun F H => F = [(1, .p 0 0 0), (3, .p 1 0 0)] ∧ H = [.box [.c (prog_r v l)], .box [.o 2 0 0 0], .arr 36 6 0 []]) [some 0, some 1, none] (fun _ => [(1, .p 0 0 0), (3, .p 1 0 0)]) (fun _ => [.box [.c (prog_r v l)], .box [.o 2 0 0 0], .arr 36 6 0 []]) (by decide) (ZNL hE) ZCF ZCH (fun _ => ⟨rfl, rfl⟩)) ?_
  rintro F H ⟨rfl, rfl⟩
  refine WR ?_
  refine al_ef rfl (ef_call [0, 1, 2] (fun _ => [.box [.c (prog_r v l)], .box [.o 2 0 0 0], .arr 36 6 0 []]) false (fun _ => runS_a 170 (by kernel_rfl) (absJ l) l v hl hok hst 0 [] h0) rfl .fn rfl (by decide) (by kernel_rfl) rfl ZCH (by decide) ZCH (by simp)) ?_
  rintro F1 H1 ⟨_, _, _, _, ⟨c', o', rfl, hJ, hq⟩, hF, hH⟩
  subst hq
  (try simp only [List.set_cons_zero, List.set_cons_succ, updH, posOf, lentArr, killF, killO, killV, AV.has, AV.hasL, AV.emb, AV.embL, OB.emb, embB, List.filter_cons, List.filter_nil, List.getElem?_cons_zero, List.getElem?_cons_succ, List.getD_cons_zero, List.getD_cons_succ, List.drop_succ_cons, List.drop_zero, List.drop_nil, List.contains_cons, List.contains_nil, Nat.reduceBEq, Nat.reduceEqDiff, beq_self_eq_true, Bool.or_false, Bool.false_or, Bool.or_true, Bool.true_or, Bool.false_eq_true, Option.map_some, Option.map_none, List.map_cons, List.map_nil, List.cons_append, List.nil_append, List.append_nil, List.length_cons, List.length_nil, Nat.reduceAdd, Nat.reduceLT, Nat.reduceSub, if_true, if_false, Nat.zero_add, Nat.add_zero, Nat.sub_zero, Nat.lt_irrefl, Nat.not_lt_zero, Nat.zero_lt_one, Nat.lt_add_one] at hF); (try simp only [List.set_cons_zero, List.set_cons_succ, updH, posOf, lentArr, killF, killO, killV, AV.has, AV.hasL, AV.emb, AV.embL, OB.emb, embB, List.filter_cons, List.filter_nil, List.getElem?_cons_zero, List.getElem?_cons_succ, List.getD_cons_zero, List.getD_cons_succ, List.drop_succ_cons, List.drop_zero, List.drop_nil, List.contains_cons, List.contains_nil, Nat.reduceBEq, Nat.reduceEqDiff, beq_self_eq_true, Bool.or_false, Bool.false_or, Bool.or_true, Bool.true_or, Bool.false_eq_true, Option.map_some, Option.map_none, List.map_cons, List.map_nil, List.cons_append, List.nil_append, List.append_nil, List.length_cons, List.length_nil, Nat.reduceAdd, Nat.reduceLT, Nat.reduceSub, if_true, if_false, Nat.zero_add, Nat.add_zero, Nat.sub_zero, Nat.lt_irrefl, Nat.not_lt_zero, Nat.zero_lt_one, Nat.lt_add_one] at hH); subst hF; subst hH
  refine WE ?_
  obtain ⟨hJ1, hJ2⟩ := hJ
  rw [List.drop_eq_nil_of_le (Nat.le_refl _), absFrom, List.append_nil] at hJ1
  subst hJ1
  refine WA ?_
  exact aret_f1 [] [] rfl rfl rfl rfl (by rw [List.drop_zero, List.take_of_length_le (by simp)]) (by simp) (by decide) (by decide) (ZNK rfl) (fun _ => .nil) (fun v' => ⟨v', rfl, rfl⟩)
theorem checked_a (l : List Step) (v : Value) (hl : l.length ≤ 1000000) : ACalls Try.prog 134 [.c (prog_r v l)] [] fun u H => ∃ v', u = .t [.c (prog_r v' (if progF l = 0 then l else [])), .c (I (progF l))] ∧ H = [] := by
  refine acallsx_of false (N := 11) Try.func134 rfl rfl (by simp) fun E hE hP => ?_
  refine WA ?_
  refine WR ?_
  refine al_ef rfl (ef_call0 false (fun _ => check_a l v (by omega)) rfl .fn rfl (by decide) (by kernel_rfl) rfl (fun _ => C0 rfl) (by simp)) ?_
  rintro _ _ ⟨_, _, _, ⟨rfl, rfl⟩, hF, hH⟩
  (try simp only [nsl, Nat.reduceAdd, Nat.reduceLT, Nat.reduceSub] at hF); (try simp only [nsl, Nat.reduceAdd, Nat.reduceLT, Nat.reduceSub] at hH); subst hF; subst hH
  refine WE ?_
  refine WA ?_
  refine aw_if rfl (fun hne => ?_) (fun heq => ?_)
  · refine WA ?_
    exact aret_2 [] _ rfl rfl rfl rfl rfl (by decide) (ZNK rfl) (fun _ => .nil) ⟨_, by rw [if_neg hne]; rfl, rfl⟩
  · have h0 : progF l = 0 := by omega
    refine ZZ ?_
    refine WA ?_
    exact aret_2 [] _ rfl rfl rfl rfl rfl (by decide) (ZNK rfl) (fun _ => .nil) ⟨_, by rw [if_pos h0, h0], rfl⟩
def absF (l : List Step) : Int := if progF l ≠ 0 then progF l else progF (absS l)
theorem absolutex_a (l : List Step) (v : Value) (hl : l.length ≤ 1000000) (hok : ∀ s ∈ l, s.ok) : ACalls Try.prog 62 [.c (prog_r v l)] [] fun u H => ∃ v', u = .t [.c (prog_r v' (if absF l = 0 then absS l else [])), .c (I (absF l))] ∧ H = [] := by
  refine acallsx_of false (N := 15) Try.func62 rfl rfl (by simp) fun E hE hP => ?_
  refine WA ?_
  refine WR ?_
  refine al_ef rfl (ef_call0 false (fun _ => check_a l v (by omega)) rfl .fn rfl (by decide) (by kernel_rfl) rfl (fun _ => C0 rfl) (by simp)) ?_
  rintro _ _ ⟨_, _, _, ⟨rfl, rfl⟩, hF, hH⟩
  (try simp only [nsl, Nat.reduceAdd, Nat.reduceLT, Nat.reduceSub] at hF); (try simp only [nsl, Nat.reduceAdd, Nat.reduceLT, Nat.reduceSub] at hH); subst hF; subst hH
  refine WE ?_
  refine WA ?_
  refine aw_if rfl (fun hne => ?_) (fun heq => ?_)
  · have ha : absF l = progF l := by rw [absF, if_pos hne]
    rw [ha]
    refine WA ?_
    exact aret_2 [] _ rfl rfl rfl rfl rfl (by decide) (ZNK rfl) (fun _ => .nil) ⟨_, by rw [if_neg hne]; rfl, rfl⟩
  · have ha : absF l = progF (absS l) := by rw [absF, if_neg heq]
    rw [ha]
    have hal : (absS l).length ≤ l.length := absFrom_len l _
    refine ZZ ?_
    refine WR ?_
    refine al_ef rfl (ef_call0 false (fun _ => absolute_a l v hl hok) rfl .fn rfl (by decide) (by kernel_rfl) rfl (fun _ => C0 rfl) (by simp)) ?_
    rintro _ _ ⟨_, _, _, ⟨va, rfl, rfl⟩, hF, hH⟩
    (try simp only [nsl, Nat.reduceAdd, Nat.reduceLT, Nat.reduceSub] at hF); (try simp only [nsl, Nat.reduceAdd, Nat.reduceLT, Nat.reduceSub] at hH); subst hF; subst hH
    refine al_ef rfl (ef_call0 false (fun _ => checked_a (absS l) va (by omega)) rfl .fn rfl (by decide) (by kernel_rfl) rfl (fun _ => C0 rfl) (by simp)) ?_
    rintro _ _ ⟨_, _, _, ⟨vb, rfl, rfl⟩, hF, hH⟩
    (try simp only [nsl, Nat.reduceAdd, Nat.reduceLT, Nat.reduceSub] at hF); (try simp only [nsl, Nat.reduceAdd, Nat.reduceLT, Nat.reduceSub] at hH); subst hF; subst hH
    refine WE ?_
    exact aret_2 [] _ rfl rfl rfl rfl rfl (by decide) (ZNK rfl) (fun _ => .nil) ⟨_, rfl, rfl⟩
end Go.Proofs.Ytpbedckdnoogpaa

/- Numbers of programs stay 64-bit numbers in the absolute form. -/
namespace Go.Proofs.Ytpbedckdnoogpaa
open Go Go.RowKit
theorem wrap_inj (n : Int) : in64 (wrap64 n) := by
  unfold in64 wrap64
  omega
def Mach.inn (m : Mach) : Prop := in64 m.x ∧ in64 m.y ∧ in64 m.z
theorem relS_in {r : Bool} {a b : Int} (h : in64 b) : in64 (relS r a b) := by
  unfold relS
  split
  · exact wrap_inj _
  · exact h
theorem afterS_inn {m : Mach} {s : Step} (hm : m.inn) (hs : s.ok) : (afterS m s).inn := by
  obtain ⟨m1, m2, m3⟩ := hm
  obtain ⟨s1, s2, s3, s4, s5, s6⟩ := hs
  unfold afterS
  repeat' split
  all_goals first
    | exact ⟨m1, m2, m3⟩
    | exact ⟨relS_in s2, relS_in s3, m3⟩
    | exact ⟨m1, m2, relS_in s4⟩
theorem absStep_inn {m : Mach} {s : Step} (hm : m.inn) (hs : s.ok) : (absStep m s).ok := by
  obtain ⟨m1, m2, m3⟩ := hm
  obtain ⟨s1, s2, s3, s4, s5, s6⟩ := hs
  unfold absStep
  repeat' split
  · exact ⟨s1, m1, m2, s4, s5, s6⟩
  · exact ⟨s1, s2, s3, m3, s5, s6⟩
  · exact ⟨s1, s2, s3, s4, s5, s6⟩
theorem absFrom_inn : ∀ (l : List Step) (m : Mach), m.inn → (∀ s ∈ l, s.ok) → ∀ s ∈ absFrom m l, s.ok
  | [], _, _, _, s, hs => by simp [absFrom] at hs
  | t :: l, m, hm, hl, s, hs => by
    have ht := hl t (by simp)
    have h1 := afterS_inn hm ht
    unfold absFrom at hs
    split at hs
    · exact absFrom_inn l _ h1 (fun s h => hl s (by simp [h])) s hs
    · rcases List.mem_cons.1 hs with rfl | hs
      · exact absStep_inn h1 ht
      · exact absFrom_inn l _ h1 (fun s h => hl s (by simp [h])) s hs
theorem absS_inn {l : List Step} (hl : ∀ s ∈ l, s.ok) : ∀ s ∈ absS l, s.ok := absFrom_inn l _ (by simp [Mach.inn, in64]) hl
end Go.Proofs.Ytpbedckdnoogpaa

/- The reference's faults of a run, by value. -/
namespace Go.Proofs.Ytpbedckdnoogpaa
open Go Go.RowKit
set_option maxRecDepth 100000
-- NEWM
set_option maxHeartbeats 8000000 in
theorem qfaults_a (l : List Step) (v : Value) (least : Int) (hl : l.length ≤ 1000000) (hok : ∀ s ∈ l, s.ok) : ACalls Try.prog 55 [.c (prog_r v l), .c (I least)] [] fun u H => ∃ v' w', u = .t [.c (.r v' ((faultsK l least l.length).map fun z => [I z.1])), .c (.r w' ((faultsK l least l.length).map fun z => [I z.2]))] ∧ H = [] := by
  have e1 : (l.map Step.row).length = l.length := by simp
  have hrl : ∀ row ∈ l.map Step.row, row.length = 6 := by intro row hr; obtain ⟨s, -, rfl⟩ := List.mem_map.1 hr; rfl
  refine acalls_of (N := 99) Try.func55 rfl rfl (by simp) fun E hE => ?_
  refine WA ?_
  refine WA ?_
  refine WA ?_
  refine WA ?_
  refine aw_loopw (fun n F H => ∃ (k c d : Nat) (r : List (Int × Int)), n + k = l.length ∧ r = faultsK l least k ∧ F = [(0, .c (prog_r v l)), (1, .c (I least)), (6, .o 0 0 r.length c), (7, .o 1 0 r.length d), (13, .c (prog_r v l)), (14, .c (I (l.map Step.row).length)), (15, .c (I k))] ∧ H = [.arr 3 1 c (r.map fun z => [I z.1]), .arr 28 1 d (r.map fun z => [I z.2])]) ?_ ?_
  · refine wk_of [none, none] (fun _ => [(0, .c (prog_r v l)), (1, .c (I least)), (6, .o 0 0 ([] : List (Int × Int)).length 0), (7, .o 1 0 ([] : List (Int × Int)).length 0), (13, .c (prog_r v l)), (14, .c (I (l.map Step.row).length)), (15, .c (I (0 : Nat)))]) (fun _ => [.arr 3 1 0 (([] : List (Int × Int)).map fun z => [I z.1]), .arr 28 1 0 (([] : List (Int × Int)).map fun z => [I z.2])]) (by decide) (ZNL hE) ZCF ZCH (fun _ => ?_)
    exact ⟨l.length, 0, 0, 0, [], by omega, rfl, rfl, rfl⟩
  rintro n F H ⟨k, c, d, r, hk, hms, rfl, rfl⟩
  have hml : r.length ≤ k := by rw [hms]; exact faultsK_len _ _ _
  refine WA ?_
  refine aw_if rfl (fun hlt => ?_) (fun hge => ?_)
  · obtain ⟨s, hs⟩ : ∃ s, l[k]? = some s := ⟨_, List.getElem?_eq_getElem (by omega)⟩
    have hrow : (l.map Step.row)[k]? = some s.row := by rw [List.getElem?_map, hs]; rfl
    have hso := hok s (List.mem_of_getElem? hs)
    have hfs := faultsK_succ (least := least) hs
    rw [← hms] at hfs
    refine WA ?_
    refine aw_cutq (fun F H => F = [(0, .c (prog_r v l)), (1, .c (I least)), (6, .o 0 0 r.length c), (7, .o 1 0 r.length d), (8, .c (I k)), (9, .p 2 0 0), (10, .p 3 0 0), (11, .p 4 0 0), (13, .c (prog_r v l)), (14, .c (I (l.map Step.row).length)), (15, .c (I k))] ∧ H = [.arr 3 1 c (r.map fun z => [I z.1]), .arr 28 1 d (r.map fun z => [I z.2]), .box (s.row.map .c), .box ((lastS (l.take k)).row.map .c), .box ((lastS (l.take (k + 1))).row.map .c)]) ?_ ?_ wk_aw
    · refine ZZ ?_
      refine aw_regionM [[(0, none), (1, none), (2, none), (4, none), (5, none), (6, none), (7, none), (3, some [4, 5, 6, 7]), (8, some []), (9, some [0, 1, 2, 4, 5, 6, 7]), (10, some [0, 1, 2, 4, 5, 6, 7]), (11, some []), (12, some [])], [(0, none), (1, none), (2, none), (4, none), (5, none), (6, none), (7, none), (3, some [4, 5, 6, 7]), (8, some []), (10, some [0, 1, 2, 4, 5, 6, 7]), (9, some [0, 1, 2, 4, 5, 6, 7]), (11, some []), (12, some [])], [(0, none), (1, none), (2, none), (4, none), (5, none), (6, none), (7, none), (3, some [4, 5, 6, 7]), (9, some [0, 1, 2, 4, 5, 6, 7]), (8, some []), (10, some [0, 1, 2, 4, 5, 6, 7]), (11, some []), (12, some [])], [(0, none), (1, none), (2, none), (4, none), (5, none), (6, none), (7, none), (3, some [4, 5, 6, 7]), (9, some [0, 1, 2, 4, 5, 6, 7]), (10, some [0, 1, 2, 4, 5, 6, 7]), (8, some []), (11, some []), (12, some [])], [(0, none), (1, none), (2, none), (4, none), (5, none), (6, none), (7, none), (3, some [4, 5, 6, 7]), (10, some [0, 1, 2, 4, 5, 6, 7]), (8, some []), (9, some [0, 1, 2, 4, 5, 6, 7]), (11, some []), (12, some [])], [(0, none), (1, none), (2, none), (4, none), (5, none), (6, none), (7, none), (3, some [4, 5, 6, 7]), (10, some [0, 1, 2, 4, 5, 6, 7]), (9, some [0, 1, 2, 4, 5, 6, 7]), (8, some []), (11, some []), (12, some [])], [(0, none), (1, none), (2, none), (4, none), (5, none), (6, none), (7, none), (9, some [0, 1, 2, 4, 5, 6, 7]), (3, some [4, 5, 6, 7]), (8, some []), (10, some [0, 1, 2, 4, 5, 6, 7]), (11, some []), (12, some [])], [(0, none), (1, none), (2, none), (4, none), (5, none), (6, none), (7, none), (9, some [0, 1, 2, 4, 5, 6, 7]), (3, some [4, 5, 6, 7]), (10, some [0, 1, 2, 4, 5, 6, 7]), (8, some []), (11, some []), (12, some [])], [(0, none), (1, none), (2, none), (4, none), (5, none), (6, none), (7, none), (9, some [0, 1, 2, 4, 5, 6, 7]), (10, some [0, 1, 2, 4, 5, 6, 7]), (3, some [4, 5, 6, 7]), (8, some []), (11, some []), (12, some [])], [(0, none), (1, none), (2, none), (4, none), (5, none), (6, none), (7, none), (10, some [0, 1, 2, 4, 5, 6, 7]), (3, some [4, 5, 6, 7]), (8, some []), (9, some [0, 1, 2, 4, 5, 6, 7]), (11, some []), (12, some [])], [(0, none), (1, none), (2, none), (4, none), (5, none), (6, none), (7, none), (10, some [0, 1, 2, 4, 5, 6, 7]), (3, some [4, 5, 6, 7]), (9, some [0, 1, 2, 4, 5, 6, 7]), (8, some []), (11, some []), (12, some [])], [(0, none), (1, none), (2, none), (4, none), (5, none), (6, none), (7, none), (10, some [0, 1, 2, 4, 5, 6, 7]), (9, some [0, 1, 2, 4, 5, 6, 7]), (3, some [4, 5, 6, 7]), (8, some []), (11, some []), (12, some [])]] hMixed (by kernel_rfl) ?_
      focus
        iterate 5 refine WX3 ?_
        refine ZM (i := 6) (by rfl) (by rfl) rfl (rd_addz (z := ((k + 1 : Nat) : Int)) rfl rfl rfl (by omega) (by omega)) ?_
        refine WM ?_
        refine am_three (by rfl) (by rfl) (by rfl) (by rfl) ?_ ?_ ?_
        rotate_left 2
        refine WM ?_
        refine am_two (by rfl) (by rfl) (by rfl) ?_ ?_
        rotate_left
        refine WM ?_
        refine am_ef (i := 3) (by rfl) (by rfl) rfl rfl (ef_call0 false (fun _ => qlast_a (l.take k) (subV v 0 k 6) (by simp; omega) (fun s hs => hok s (List.mem_of_mem_take hs))) rfl .fn rfl (by decide) (by kernel_rfl) rfl (fun _g => .cons (.c (by simp)) .nil) (by simp)) ?_
        rintro _ _ ⟨_, _, _, ⟨rfl, rfl⟩, hF, hH⟩
        (try simp only [nsl, Nat.reduceAdd, Nat.reduceLT, Nat.reduceSub] at hF); (try simp only [nsl, Nat.reduceAdd, Nat.reduceLT, Nat.reduceSub] at hH); subst hF; subst hH
        refine ⟨AGX, ?_⟩
        refine am_ef (i := 8) (by rfl) (by rfl) rfl rfl (ef_call0 false (fun _ => qlast_a (l.take (k + 1)) (subV v 0 (k + 1) 6) (by simp; omega) (fun s hs => hok s (List.mem_of_mem_take hs))) rfl .fn rfl (by decide) (by kernel_rfl) rfl (fun _g => .cons (.c (by simp)) .nil) (by simp)) ?_
        rintro _ _ ⟨_, _, _, ⟨rfl, rfl⟩, hF, hH⟩
        (try simp only [nsl, Nat.reduceAdd, Nat.reduceLT, Nat.reduceSub] at hF); (try simp only [nsl, Nat.reduceAdd, Nat.reduceLT, Nat.reduceSub] at hH); subst hF; subst hH
        refine ⟨AGX, ?_⟩
        refine WN ?_
        rotate_right
        refine am_ef (i := 3) (by rfl) (by rfl) rfl rfl (ef_call0 false (fun _ => qlast_a (l.take k) (subV v 0 k 6) (by simp; omega) (fun s hs => hok s (List.mem_of_mem_take hs))) rfl .fn rfl (by decide) (by kernel_rfl) rfl (fun _g => .cons (.c (by simp)) .nil) (by simp)) ?_
        rintro _ _ ⟨_, _, _, ⟨rfl, rfl⟩, hF, hH⟩
        (try simp only [nsl, Nat.reduceAdd, Nat.reduceLT, Nat.reduceSub] at hF); (try simp only [nsl, Nat.reduceAdd, Nat.reduceLT, Nat.reduceSub] at hH); subst hF; subst hH
        refine ⟨AGX, ?_⟩
        refine am_two (by rfl) (by rfl) (by rfl) ?_ ?_
        rotate_left
        refine WM ?_
        refine am_ef (i := 8) (by rfl) (by rfl) rfl rfl (ef_call0 false (fun _ => qlast_a (l.take (k + 1)) (subV v 0 (k + 1) 6) (by simp; omega) (fun s hs => hok s (List.mem_of_mem_take hs))) rfl .fn rfl (by decide) (by kernel_rfl) rfl (fun _g => .cons (.c (by simp)) .nil) (by simp)) ?_
        rintro _ _ ⟨_, _, _, ⟨rfl, rfl⟩, hF, hH⟩
        (try simp only [nsl, Nat.reduceAdd, Nat.reduceLT, Nat.reduceSub] at hF); (try simp only [nsl, Nat.reduceAdd, Nat.reduceLT, Nat.reduceSub] at hH); subst hF; subst hH
        refine ⟨AGX, ?_⟩
        refine WN ?_
        rotate_right
        refine am_ef (i := 8) (by rfl) (by rfl) rfl rfl (ef_call0 false (fun _ => qlast_a (l.take (k + 1)) (subV v 0 (k + 1) 6) (by simp; omega) (fun s hs => hok s (List.mem_of_mem_take hs))) rfl .fn rfl (by decide) (by kernel_rfl) rfl (fun _g => .cons (.c (by simp)) .nil) (by simp)) ?_
        rintro _ _ ⟨_, _, _, ⟨rfl, rfl⟩, hF, hH⟩
        (try simp only [nsl, Nat.reduceAdd, Nat.reduceLT, Nat.reduceSub] at hF); (try simp only [nsl, Nat.reduceAdd, Nat.reduceLT, Nat.reduceSub] at hH); subst hF; subst hH
        refine ⟨AGX, ?_⟩
        refine WN ?_
        rotate_right
        refine WM ?_
        refine am_two (by rfl) (by rfl) (by rfl) ?_ ?_
        rotate_left
        refine WM ?_
        refine am_ef (i := 3) (by rfl) (by rfl) rfl rfl (ef_call0 false (fun _ => qlast_a (l.take k) (subV v 0 k 6) (by simp; omega) (fun s hs => hok s (List.mem_of_mem_take hs))) rfl .fn rfl (by decide) (by kernel_rfl) rfl (fun _g => .cons (.c (by simp)) .nil) (by simp)) ?_
        rintro _ _ ⟨_, _, _, ⟨rfl, rfl⟩, hF, hH⟩
        (try simp only [nsl, Nat.reduceAdd, Nat.reduceLT, Nat.reduceSub] at hF); (try simp only [nsl, Nat.reduceAdd, Nat.reduceLT, Nat.reduceSub] at hH); subst hF; subst hH
        refine ⟨AGX, ?_⟩
        refine am_ef (i := 8) (by rfl) (by rfl) rfl rfl (ef_call0 false (fun _ => qlast_a (l.take (k + 1)) (subV v 0 (k + 1) 6) (by simp; omega) (fun s hs => hok s (List.mem_of_mem_take hs))) rfl .fn rfl (by decide) (by kernel_rfl) rfl (fun _g => .cons (.c (by simp)) .nil) (by simp)) ?_
        rintro _ _ ⟨_, _, _, ⟨rfl, rfl⟩, hF, hH⟩
        (try simp only [nsl, Nat.reduceAdd, Nat.reduceLT, Nat.reduceSub] at hF); (try simp only [nsl, Nat.reduceAdd, Nat.reduceLT, Nat.reduceSub] at hH); subst hF; subst hH
        refine ⟨AGX, ?_⟩
        refine WN ?_
        rotate_right
        refine am_ef (i := 3) (by rfl) (by rfl) rfl rfl (ef_call0 false (fun _ => qlast_a (l.take k) (subV v 0 k 6) (by simp; omega) (fun s hs => hok s (List.mem_of_mem_take hs))) rfl .fn rfl (by decide) (by kernel_rfl) rfl (fun _g => .cons (.c (by simp)) .nil) (by simp)) ?_
        rintro _ _ ⟨_, _, _, ⟨rfl, rfl⟩, hF, hH⟩
        (try simp only [nsl, Nat.reduceAdd, Nat.reduceLT, Nat.reduceSub] at hF); (try simp only [nsl, Nat.reduceAdd, Nat.reduceLT, Nat.reduceSub] at hH); subst hF; subst hH
        refine ⟨AGX, ?_⟩
        refine am_two (by rfl) (by rfl) (by rfl) ?_ ?_
        rotate_left
        refine WM ?_
        refine am_ef (i := 8) (by rfl) (by rfl) rfl rfl (ef_call0 false (fun _ => qlast_a (l.take (k + 1)) (subV v 0 (k + 1) 6) (by simp; omega) (fun s hs => hok s (List.mem_of_mem_take hs))) rfl .fn rfl (by decide) (by kernel_rfl) rfl (fun _g => .cons (.c (by simp)) .nil) (by simp)) ?_
        rintro _ _ ⟨_, _, _, ⟨rfl, rfl⟩, hF, hH⟩
        (try simp only [nsl, Nat.reduceAdd, Nat.reduceLT, Nat.reduceSub] at hF); (try simp only [nsl, Nat.reduceAdd, Nat.reduceLT, Nat.reduceSub] at hH); subst hF; subst hH
        refine ⟨AGX, ?_⟩
        refine WN ?_
        rotate_right
        refine am_ef (i := 8) (by rfl) (by rfl) rfl rfl (ef_call0 false (fun _ => qlast_a (l.take (k + 1)) (subV v 0 (k + 1) 6) (by simp; omega) (fun s hs => hok s (List.mem_of_mem_take hs))) rfl .fn rfl (by decide) (by kernel_rfl) rfl (fun _g => .cons (.c (by simp)) .nil) (by simp)) ?_
        rintro _ _ ⟨_, _, _, ⟨rfl, rfl⟩, hF, hH⟩
        (try simp only [nsl, Nat.reduceAdd, Nat.reduceLT, Nat.reduceSub] at hF); (try simp only [nsl, Nat.reduceAdd, Nat.reduceLT, Nat.reduceSub] at hH); subst hF; subst hH
        refine ⟨AGX, ?_⟩
        refine WN ?_
        rotate_right
        refine am_ef (i := 3) (by rfl) (by rfl) rfl rfl (ef_call0 false (fun _ => qlast_a (l.take k) (subV v 0 k 6) (by simp; omega) (fun s hs => hok s (List.mem_of_mem_take hs))) rfl .fn rfl (by decide) (by kernel_rfl) rfl (fun _g => .cons (.c (by simp)) .nil) (by simp)) ?_
        rintro _ _ ⟨_, _, _, ⟨rfl, rfl⟩, hF, hH⟩
        (try simp only [nsl, Nat.reduceAdd, Nat.reduceLT, Nat.reduceSub] at hF); (try simp only [nsl, Nat.reduceAdd, Nat.reduceLT, Nat.reduceSub] at hH); subst hF; subst hH
        refine ⟨AGX, ?_⟩
        refine am_three (by rfl) (by rfl) (by rfl) (by rfl) ?_ ?_ ?_
        rotate_left 2
        refine WM ?_
        refine am_two (by rfl) (by rfl) (by rfl) ?_ ?_
        rotate_left
        refine WM ?_
        refine am_ef (i := 8) (by rfl) (by rfl) rfl rfl (ef_call0 false (fun _ => qlast_a (l.take (k + 1)) (subV v 0 (k + 1) 6) (by simp; omega) (fun s hs => hok s (List.mem_of_mem_take hs))) rfl .fn rfl (by decide) (by kernel_rfl) rfl (fun _g => .cons (.c (by simp)) .nil) (by simp)) ?_
        rintro _ _ ⟨_, _, _, ⟨rfl, rfl⟩, hF, hH⟩
        (try simp only [nsl, Nat.reduceAdd, Nat.reduceLT, Nat.reduceSub] at hF); (try simp only [nsl, Nat.reduceAdd, Nat.reduceLT, Nat.reduceSub] at hH); subst hF; subst hH
        refine ⟨AGX, ?_⟩
        refine WN ?_
        rotate_right
        refine am_ef (i := 8) (by rfl) (by rfl) rfl rfl (ef_call0 false (fun _ => qlast_a (l.take (k + 1)) (subV v 0 (k + 1) 6) (by simp; omega) (fun s hs => hok s (List.mem_of_mem_take hs))) rfl .fn rfl (by decide) (by kernel_rfl) rfl (fun _g => .cons (.c (by simp)) .nil) (by simp)) ?_
        rintro _ _ ⟨_, _, _, ⟨rfl, rfl⟩, hF, hH⟩
        (try simp only [nsl, Nat.reduceAdd, Nat.reduceLT, Nat.reduceSub] at hF); (try simp only [nsl, Nat.reduceAdd, Nat.reduceLT, Nat.reduceSub] at hH); subst hF; subst hH
        refine ⟨AGX, ?_⟩
        refine WN ?_
        rotate_right
        refine WM ?_
        refine am_two (by rfl) (by rfl) (by rfl) ?_ ?_
        rotate_left
        refine WM ?_
        refine am_ef (i := 8) (by rfl) (by rfl) rfl rfl (ef_call0 false (fun _ => qlast_a (l.take (k + 1)) (subV v 0 (k + 1) 6) (by simp; omega) (fun s hs => hok s (List.mem_of_mem_take hs))) rfl .fn rfl (by decide) (by kernel_rfl) rfl (fun _g => .cons (.c (by simp)) .nil) (by simp)) ?_
        rintro _ _ ⟨_, _, _, ⟨rfl, rfl⟩, hF, hH⟩
        (try simp only [nsl, Nat.reduceAdd, Nat.reduceLT, Nat.reduceSub] at hF); (try simp only [nsl, Nat.reduceAdd, Nat.reduceLT, Nat.reduceSub] at hH); subst hF; subst hH
        refine ⟨AGX, ?_⟩
        refine WN ?_
        rotate_right
        refine am_ef (i := 8) (by rfl) (by rfl) rfl rfl (ef_call0 false (fun _ => qlast_a (l.take (k + 1)) (subV v 0 (k + 1) 6) (by simp; omega) (fun s hs => hok s (List.mem_of_mem_take hs))) rfl .fn rfl (by decide) (by kernel_rfl) rfl (fun _g => .cons (.c (by simp)) .nil) (by simp)) ?_
        rintro _ _ ⟨_, _, _, ⟨rfl, rfl⟩, hF, hH⟩
        (try simp only [nsl, Nat.reduceAdd, Nat.reduceLT, Nat.reduceSub] at hF); (try simp only [nsl, Nat.reduceAdd, Nat.reduceLT, Nat.reduceSub] at hH); subst hF; subst hH
        refine ⟨AGX, ?_⟩
        refine WN ?_
        rotate_right
        refine am_ef (i := 8) (by rfl) (by rfl) rfl rfl (ef_call0 false (fun _ => qlast_a (l.take (k + 1)) (subV v 0 (k + 1) 6) (by simp; omega) (fun s hs => hok s (List.mem_of_mem_take hs))) rfl .fn rfl (by decide) (by kernel_rfl) rfl (fun _g => .cons (.c (by simp)) .nil) (by simp)) ?_
        rintro _ _ ⟨_, _, _, ⟨rfl, rfl⟩, hF, hH⟩
        (try simp only [nsl, Nat.reduceAdd, Nat.reduceLT, Nat.reduceSub] at hF); (try simp only [nsl, Nat.reduceAdd, Nat.reduceLT, Nat.reduceSub] at hH); subst hF; subst hH
        refine ⟨AGX, ?_⟩
        refine am_two (by rfl) (by rfl) (by rfl) ?_ ?_
        rotate_left
        refine WN ?_
        rotate_right
        refine WN ?_
      all_goals first
        | exact wk_of [some 0, some 1, some 2, some 3, some 4] (fun _ => [(0, .c (prog_r v l)), (1, .c (I least)), (6, .o 0 0 r.length c), (7, .o 1 0 r.length d), (8, .c (I k)), (9, .p 2 0 0), (10, .p 3 0 0), (11, .p 4 0 0), (13, .c (prog_r v l)), (14, .c (I (l.map Step.row).length)), (15, .c (I k))]) (fun _ => [.arr 3 1 c (r.map fun z => [I z.1]), .arr 28 1 d (r.map fun z => [I z.2]), .box (s.row.map .c), .box ((lastS (l.take k)).row.map .c), .box ((lastS (l.take (k + 1))).row.map .c)]) (by decide) (ZNL hE) ZCF ZCH (fun _ => ⟨rfl, rfl⟩)
        | exact wk_of [some 0, some 1, some 2, some 4, some 3] (fun _ => [(0, .c (prog_r v l)), (1, .c (I least)), (6, .o 0 0 r.length c), (7, .o 1 0 r.length d), (8, .c (I k)), (9, .p 2 0 0), (10, .p 3 0 0), (11, .p 4 0 0), (13, .c (prog_r v l)), (14, .c (I (l.map Step.row).length)), (15, .c (I k))]) (fun _ => [.arr 3 1 c (r.map fun z => [I z.1]), .arr 28 1 d (r.map fun z => [I z.2]), .box (s.row.map .c), .box ((lastS (l.take k)).row.map .c), .box ((lastS (l.take (k + 1))).row.map .c)]) (by decide) (ZNL hE) ZCF ZCH (fun _ => ⟨rfl, rfl⟩)
    rintro F H ⟨rfl, rfl⟩
    refine WR ?_
    refine al_nil ?_
    refine aseq_n ?_
    refine aw_seq ?_
    refine aw_cut (fun F H => ∃ e : Int, e = wrongF s (lastS (l.take k)) (lastS (l.take (k + 1))) least ∧ F = [(0, .c (prog_r v l)), (1, .c (I least)), (6, .o 0 0 r.length c), (7, .o 1 0 r.length d), (8, .c (I k)), (12, .c (I e)), (13, .c (prog_r v l)), (14, .c (I (l.map Step.row).length)), (15, .c (I k))] ∧ H = [.arr 3 1 c (r.map fun z => [I z.1]), .arr 28 1 d (r.map fun z => [I z.2])]) ?_ ?_ wk_aw
    · clear hfs hrow hs hso
      generalize lastS (l.take k) = was
      generalize lastS (l.take (k + 1)) = is
      obtain ⟨mx, my, mz, msp, mhe, mtl, mfl, mrel⟩ := is
      obtain ⟨wx, wy, wz, wsp, whe, wtl, wfl, wrel⟩ := was
      obtain ⟨sk, sx, sy, sz, sf, sn⟩ := s
      by_cases h4 : sk = 4
      · subst h4
        by_cases hf : 0 < sf
        · repeat' (first
            | (with_reducible refine aw_seq ?_) | (with_reducible refine aseq_n ?_) | (with_reducible refine aseq_r ?_) | (with_reducible refine ablk_n ?_) | (with_reducible refine ablk_r ?_) | (with_reducible refine ablk_e ?_) | (with_reducible refine ablk_o rfl ?_) | (with_reducible refine aseq_e ?_) | (with_reducible refine aw_skip ?_) | (with_reducible refine aw_block ?_) | (with_reducible refine aw_ret ?_) | (with_reducible refine aw_exit ?_)
            | refine aw_cond_t rfl ?_ | refine aw_cond_f rfl ?_ | refine aw_if_t rfl (by assumption) ?_ | refine aw_if_f rfl (by assumption) ?_ | refine aw_if rfl (fun _ => ?_) (fun _ => ?_) | refine aw_cond rfl (fun _ => ?_) (fun _ => ?_)
            | (refine aw_region (id := 8) ?_
               refine WO ?_
               refine al_ef rfl (ef_call0 false (fun _ => qin_a _ _ _) rfl .fn rfl (by decide) (by kernel_rfl) rfl (fun _g => .cons (.c rfl) (.cons (.c rfl) (.cons (.c rfl) .nil))) (by simp)) ?_
               rintro _ _ ⟨_, _, _, ⟨b, rfl, rfl, hb1, hb2⟩, hF, hH⟩
               (try simp only [nsl, Nat.reduceAdd, Nat.reduceLT, Nat.reduceSub] at hF); (try simp only [nsl, Nat.reduceAdd, Nat.reduceLT, Nat.reduceSub] at hH); subst hF; subst hH
               cases b
               all_goals (simp only [true_implies, false_implies, reduceCtorEq] at hb1 hb2)
               all_goals (refine WO ?_)
               all_goals (first | refine ZS ?_ | (refine G1 rfl ?_; refine al_ef rfl (ef_call0 false (fun _ => qin_a _ _ _) rfl .fn rfl (by decide) (by kernel_rfl) rfl (fun _g => .cons (.c rfl) (.cons (.c rfl) (.cons (.c rfl) .nil))) (by simp)) ?_; rintro _ _ ⟨_, _, _, ⟨b, rfl, rfl, hb1, hb2⟩, hF, hH⟩; (try simp only [nsl, Nat.reduceAdd, Nat.reduceLT, Nat.reduceSub] at hF); (try simp only [nsl, Nat.reduceAdd, Nat.reduceLT, Nat.reduceSub] at hH); subst hF; subst hH; cases b; all_goals (simp only [true_implies, false_implies, reduceCtorEq] at hb1 hb2)) | skip)
               all_goals (refine WO ?_)
               all_goals (first | refine ZS ?_ | (refine G1 rfl ?_; refine al_ef rfl (ef_call0 false (fun _ => qin_a _ _ _) rfl .fn rfl (by decide) (by kernel_rfl) rfl (fun _g => .cons (.c rfl) (.cons (.c rfl) (.cons (.c rfl) .nil))) (by simp)) ?_; rintro _ _ ⟨_, _, _, ⟨b, rfl, rfl, hb1, hb2⟩, hF, hH⟩; (try simp only [nsl, Nat.reduceAdd, Nat.reduceLT, Nat.reduceSub] at hF); (try simp only [nsl, Nat.reduceAdd, Nat.reduceLT, Nat.reduceSub] at hH); subst hF; subst hH; cases b; all_goals (simp only [true_implies, false_implies, reduceCtorEq] at hb1 hb2)) | skip)
               all_goals (refine WE ?_))
            | (refine aw_region (id := 9) ?_
               refine WE ?_)
            | (refine aw_region (id := 10) ?_
               refine WE ?_)
            | (refine aw_region (id := 11) ?_
               refine WE ?_)
            | (refine aw_region (id := 12) ?_
               refine WE ?_)
            | (refine aw_region (id := 13) ?_
               refine WE ?_)
            | (refine aw_region (id := 14) ?_
               refine WE ?_)
            | (refine aw_region (id := 15) ?_
               refine WE ?_))
          all_goals try (exfalso; omega)
          all_goals refine wk_of [some 0, some 1] (fun _ => [(0, .c (prog_r v l)), (1, .c (I least)), (6, .o 0 0 r.length c), (7, .o 1 0 r.length d), (8, .c (I k)), (12, .c (I _)), (13, .c (prog_r v l)), (14, .c (I (l.map Step.row).length)), (15, .c (I k))]) (fun _ => [.arr 3 1 c (r.map fun z => [I z.1]), .arr 28 1 d (r.map fun z => [I z.2])]) (by decide) (ZNL hE) ZCF ZCH (fun _ => ⟨_, ?_, rfl, rfl⟩)
          all_goals (unfold wrongF; dsimp only)
          all_goals first
            | (exfalso; omega)
            | rw [if_pos (by omega)]
            | rw [if_neg (by omega), if_pos (by omega)]
            | rw [if_neg (by omega), if_neg (by omega), if_pos (by omega)]
            | rw [if_neg (by omega), if_neg (by omega), if_neg (by omega), if_pos (by omega)]
            | rw [if_neg (by omega), if_neg (by omega), if_neg (by omega), if_neg (by omega)]
        · repeat' (first
            | (with_reducible refine aw_seq ?_) | (with_reducible refine aseq_n ?_) | (with_reducible refine aseq_r ?_) | (with_reducible refine ablk_n ?_) | (with_reducible refine ablk_r ?_) | (with_reducible refine ablk_e ?_) | (with_reducible refine ablk_o rfl ?_) | (with_reducible refine aseq_e ?_) | (with_reducible refine aw_skip ?_) | (with_reducible refine aw_block ?_) | (with_reducible refine aw_ret ?_) | (with_reducible refine aw_exit ?_)
            | refine aw_cond_t rfl ?_ | refine aw_cond_f rfl ?_ | refine aw_if_t rfl (by assumption) ?_ | refine aw_if_f rfl (by assumption) ?_ | refine aw_if rfl (fun _ => ?_) (fun _ => ?_) | refine aw_cond rfl (fun _ => ?_) (fun _ => ?_)
            | (refine aw_region (id := 8) ?_
               refine WO ?_
               refine al_ef rfl (ef_call0 false (fun _ => qin_a _ _ _) rfl .fn rfl (by decide) (by kernel_rfl) rfl (fun _g => .cons (.c rfl) (.cons (.c rfl) (.cons (.c rfl) .nil))) (by simp)) ?_
               rintro _ _ ⟨_, _, _, ⟨b, rfl, rfl, hb1, hb2⟩, hF, hH⟩
               (try simp only [nsl, Nat.reduceAdd, Nat.reduceLT, Nat.reduceSub] at hF); (try simp only [nsl, Nat.reduceAdd, Nat.reduceLT, Nat.reduceSub] at hH); subst hF; subst hH
               cases b
               all_goals (simp only [true_implies, false_implies, reduceCtorEq] at hb1 hb2)
               all_goals (refine WO ?_)
               all_goals (first | refine ZS ?_ | (refine G1 rfl ?_; refine al_ef rfl (ef_call0 false (fun _ => qin_a _ _ _) rfl .fn rfl (by decide) (by kernel_rfl) rfl (fun _g => .cons (.c rfl) (.cons (.c rfl) (.cons (.c rfl) .nil))) (by simp)) ?_; rintro _ _ ⟨_, _, _, ⟨b, rfl, rfl, hb1, hb2⟩, hF, hH⟩; (try simp only [nsl, Nat.reduceAdd, Nat.reduceLT, Nat.reduceSub] at hF); (try simp only [nsl, Nat.reduceAdd, Nat.reduceLT, Nat.reduceSub] at hH); subst hF; subst hH; cases b; all_goals (simp only [true_implies, false_implies, reduceCtorEq] at hb1 hb2)) | skip)
               all_goals (refine WO ?_)
               all_goals (first | refine ZS ?_ | (refine G1 rfl ?_; refine al_ef rfl (ef_call0 false (fun _ => qin_a _ _ _) rfl .fn rfl (by decide) (by kernel_rfl) rfl (fun _g => .cons (.c rfl) (.cons (.c rfl) (.cons (.c rfl) .nil))) (by simp)) ?_; rintro _ _ ⟨_, _, _, ⟨b, rfl, rfl, hb1, hb2⟩, hF, hH⟩; (try simp only [nsl, Nat.reduceAdd, Nat.reduceLT, Nat.reduceSub] at hF); (try simp only [nsl, Nat.reduceAdd, Nat.reduceLT, Nat.reduceSub] at hH); subst hF; subst hH; cases b; all_goals (simp only [true_implies, false_implies, reduceCtorEq] at hb1 hb2)) | skip)
               all_goals (refine WE ?_))
            | (refine aw_region (id := 9) ?_
               refine WE ?_)
            | (refine aw_region (id := 10) ?_
               refine WE ?_)
            | (refine aw_region (id := 11) ?_
               refine WE ?_)
            | (refine aw_region (id := 12) ?_
               refine WE ?_)
            | (refine aw_region (id := 13) ?_
               refine WE ?_)
            | (refine aw_region (id := 14) ?_
               refine WE ?_)
            | (refine aw_region (id := 15) ?_
               refine WE ?_))
          all_goals try (exfalso; omega)
          all_goals refine wk_of [some 0, some 1] (fun _ => [(0, .c (prog_r v l)), (1, .c (I least)), (6, .o 0 0 r.length c), (7, .o 1 0 r.length d), (8, .c (I k)), (12, .c (I _)), (13, .c (prog_r v l)), (14, .c (I (l.map Step.row).length)), (15, .c (I k))]) (fun _ => [.arr 3 1 c (r.map fun z => [I z.1]), .arr 28 1 d (r.map fun z => [I z.2])]) (by decide) (ZNL hE) ZCF ZCH (fun _ => ⟨_, ?_, rfl, rfl⟩)
          all_goals (unfold wrongF; dsimp only)
          all_goals first
            | (exfalso; omega)
            | rw [if_pos (by omega)]
            | rw [if_neg (by omega), if_pos (by omega)]
            | rw [if_neg (by omega), if_neg (by omega), if_pos (by omega)]
            | rw [if_neg (by omega), if_neg (by omega), if_neg (by omega), if_pos (by omega)]
            | rw [if_neg (by omega), if_neg (by omega), if_neg (by omega), if_neg (by omega)]
      · by_cases h3 : sk = 3
        · subst h3
          repeat' (first
            | (with_reducible refine aw_seq ?_) | (with_reducible refine aseq_n ?_) | (with_reducible refine aseq_r ?_) | (with_reducible refine ablk_n ?_) | (with_reducible refine ablk_r ?_) | (with_reducible refine ablk_e ?_) | (with_reducible refine ablk_o rfl ?_) | (with_reducible refine aseq_e ?_) | (with_reducible refine aw_skip ?_) | (with_reducible refine aw_block ?_) | (with_reducible refine aw_ret ?_) | (with_reducible refine aw_exit ?_)
            | refine aw_cond_t rfl ?_ | refine aw_cond_f rfl ?_ | refine aw_if_t rfl (by assumption) ?_ | refine aw_if_f rfl (by assumption) ?_ | refine aw_if rfl (fun _ => ?_) (fun _ => ?_) | refine aw_cond rfl (fun _ => ?_) (fun _ => ?_)
            | (refine aw_region (id := 8) ?_
               refine WO ?_
               refine al_ef rfl (ef_call0 false (fun _ => qin_a _ _ _) rfl .fn rfl (by decide) (by kernel_rfl) rfl (fun _g => .cons (.c rfl) (.cons (.c rfl) (.cons (.c rfl) .nil))) (by simp)) ?_
               rintro _ _ ⟨_, _, _, ⟨b, rfl, rfl, hb1, hb2⟩, hF, hH⟩
               (try simp only [nsl, Nat.reduceAdd, Nat.reduceLT, Nat.reduceSub] at hF); (try simp only [nsl, Nat.reduceAdd, Nat.reduceLT, Nat.reduceSub] at hH); subst hF; subst hH
               cases b
               all_goals (simp only [true_implies, false_implies, reduceCtorEq] at hb1 hb2)
               all_goals (refine WO ?_)
               all_goals (first | refine ZS ?_ | (refine G1 rfl ?_; refine al_ef rfl (ef_call0 false (fun _ => qin_a _ _ _) rfl .fn rfl (by decide) (by kernel_rfl) rfl (fun _g => .cons (.c rfl) (.cons (.c rfl) (.cons (.c rfl) .nil))) (by simp)) ?_; rintro _ _ ⟨_, _, _, ⟨b, rfl, rfl, hb1, hb2⟩, hF, hH⟩; (try simp only [nsl, Nat.reduceAdd, Nat.reduceLT, Nat.reduceSub] at hF); (try simp only [nsl, Nat.reduceAdd, Nat.reduceLT, Nat.reduceSub] at hH); subst hF; subst hH; cases b; all_goals (simp only [true_implies, false_implies, reduceCtorEq] at hb1 hb2)) | skip)
               all_goals (refine WO ?_)
               all_goals (first | refine ZS ?_ | (refine G1 rfl ?_; refine al_ef rfl (ef_call0 false (fun _ => qin_a _ _ _) rfl .fn rfl (by decide) (by kernel_rfl) rfl (fun _g => .cons (.c rfl) (.cons (.c rfl) (.cons (.c rfl) .nil))) (by simp)) ?_; rintro _ _ ⟨_, _, _, ⟨b, rfl, rfl, hb1, hb2⟩, hF, hH⟩; (try simp only [nsl, Nat.reduceAdd, Nat.reduceLT, Nat.reduceSub] at hF); (try simp only [nsl, Nat.reduceAdd, Nat.reduceLT, Nat.reduceSub] at hH); subst hF; subst hH; cases b; all_goals (simp only [true_implies, false_implies, reduceCtorEq] at hb1 hb2)) | skip)
               all_goals (refine WE ?_))
            | (refine aw_region (id := 9) ?_
               refine WE ?_)
            | (refine aw_region (id := 10) ?_
               refine WE ?_)
            | (refine aw_region (id := 11) ?_
               refine WE ?_)
            | (refine aw_region (id := 12) ?_
               refine WE ?_)
            | (refine aw_region (id := 13) ?_
               refine WE ?_)
            | (refine aw_region (id := 14) ?_
               refine WE ?_)
            | (refine aw_region (id := 15) ?_
               refine WE ?_))
          all_goals try (exfalso; omega)
          all_goals refine wk_of [some 0, some 1] (fun _ => [(0, .c (prog_r v l)), (1, .c (I least)), (6, .o 0 0 r.length c), (7, .o 1 0 r.length d), (8, .c (I k)), (12, .c (I _)), (13, .c (prog_r v l)), (14, .c (I (l.map Step.row).length)), (15, .c (I k))]) (fun _ => [.arr 3 1 c (r.map fun z => [I z.1]), .arr 28 1 d (r.map fun z => [I z.2])]) (by decide) (ZNL hE) ZCF ZCH (fun _ => ⟨_, ?_, rfl, rfl⟩)
          all_goals (unfold wrongF; dsimp only)
          all_goals first
            | (exfalso; omega)
            | rw [if_pos (by omega)]
            | rw [if_neg (by omega), if_pos (by omega)]
            | rw [if_neg (by omega), if_neg (by omega), if_pos (by omega)]
            | rw [if_neg (by omega), if_neg (by omega), if_neg (by omega), if_pos (by omega)]
            | rw [if_neg (by omega), if_neg (by omega), if_neg (by omega), if_neg (by omega)]
        · by_cases h5 : sk = 5
          · subst h5
            repeat' (first
              | (with_reducible refine aw_seq ?_) | (with_reducible refine aseq_n ?_) | (with_reducible refine aseq_r ?_) | (with_reducible refine ablk_n ?_) | (with_reducible refine ablk_r ?_) | (with_reducible refine ablk_e ?_) | (with_reducible refine ablk_o rfl ?_) | (with_reducible refine aseq_e ?_) | (with_reducible refine aw_skip ?_) | (with_reducible refine aw_block ?_) | (with_reducible refine aw_ret ?_) | (with_reducible refine aw_exit ?_)
              | refine aw_cond_t rfl ?_ | refine aw_cond_f rfl ?_ | refine aw_if_t rfl (by assumption) ?_ | refine aw_if_f rfl (by assumption) ?_ | refine aw_if rfl (fun _ => ?_) (fun _ => ?_) | refine aw_cond rfl (fun _ => ?_) (fun _ => ?_)
              | (refine aw_region (id := 8) ?_
                 refine WO ?_
                 refine al_ef rfl (ef_call0 false (fun _ => qin_a _ _ _) rfl .fn rfl (by decide) (by kernel_rfl) rfl (fun _g => .cons (.c rfl) (.cons (.c rfl) (.cons (.c rfl) .nil))) (by simp)) ?_
                 rintro _ _ ⟨_, _, _, ⟨b, rfl, rfl, hb1, hb2⟩, hF, hH⟩
                 (try simp only [nsl, Nat.reduceAdd, Nat.reduceLT, Nat.reduceSub] at hF); (try simp only [nsl, Nat.reduceAdd, Nat.reduceLT, Nat.reduceSub] at hH); subst hF; subst hH
                 cases b
                 all_goals (simp only [true_implies, false_implies, reduceCtorEq] at hb1 hb2)
                 all_goals (refine WO ?_)
                 all_goals (first | refine ZS ?_ | (refine G1 rfl ?_; refine al_ef rfl (ef_call0 false (fun _ => qin_a _ _ _) rfl .fn rfl (by decide) (by kernel_rfl) rfl (fun _g => .cons (.c rfl) (.cons (.c rfl) (.cons (.c rfl) .nil))) (by simp)) ?_; rintro _ _ ⟨_, _, _, ⟨b, rfl, rfl, hb1, hb2⟩, hF, hH⟩; (try simp only [nsl, Nat.reduceAdd, Nat.reduceLT, Nat.reduceSub] at hF); (try simp only [nsl, Nat.reduceAdd, Nat.reduceLT, Nat.reduceSub] at hH); subst hF; subst hH; cases b; all_goals (simp only [true_implies, false_implies, reduceCtorEq] at hb1 hb2)) | skip)
                 all_goals (refine WO ?_)
                 all_goals (first | refine ZS ?_ | (refine G1 rfl ?_; refine al_ef rfl (ef_call0 false (fun _ => qin_a _ _ _) rfl .fn rfl (by decide) (by kernel_rfl) rfl (fun _g => .cons (.c rfl) (.cons (.c rfl) (.cons (.c rfl) .nil))) (by simp)) ?_; rintro _ _ ⟨_, _, _, ⟨b, rfl, rfl, hb1, hb2⟩, hF, hH⟩; (try simp only [nsl, Nat.reduceAdd, Nat.reduceLT, Nat.reduceSub] at hF); (try simp only [nsl, Nat.reduceAdd, Nat.reduceLT, Nat.reduceSub] at hH); subst hF; subst hH; cases b; all_goals (simp only [true_implies, false_implies, reduceCtorEq] at hb1 hb2)) | skip)
                 all_goals (refine WE ?_))
              | (refine aw_region (id := 9) ?_
                 refine WE ?_)
              | (refine aw_region (id := 10) ?_
                 refine WE ?_)
              | (refine aw_region (id := 11) ?_
                 refine WE ?_)
              | (refine aw_region (id := 12) ?_
                 refine WE ?_)
              | (refine aw_region (id := 13) ?_
                 refine WE ?_)
              | (refine aw_region (id := 14) ?_
                 refine WE ?_)
              | (refine aw_region (id := 15) ?_
                 refine WE ?_))
            all_goals try (exfalso; omega)
            all_goals refine wk_of [some 0, some 1] (fun _ => [(0, .c (prog_r v l)), (1, .c (I least)), (6, .o 0 0 r.length c), (7, .o 1 0 r.length d), (8, .c (I k)), (12, .c (I _)), (13, .c (prog_r v l)), (14, .c (I (l.map Step.row).length)), (15, .c (I k))]) (fun _ => [.arr 3 1 c (r.map fun z => [I z.1]), .arr 28 1 d (r.map fun z => [I z.2])]) (by decide) (ZNL hE) ZCF ZCH (fun _ => ⟨_, ?_, rfl, rfl⟩)
            all_goals (unfold wrongF; dsimp only)
            all_goals first
              | (exfalso; omega)
              | rw [if_pos (by omega)]
              | rw [if_neg (by omega), if_pos (by omega)]
              | rw [if_neg (by omega), if_neg (by omega), if_pos (by omega)]
              | rw [if_neg (by omega), if_neg (by omega), if_neg (by omega), if_pos (by omega)]
              | rw [if_neg (by omega), if_neg (by omega), if_neg (by omega), if_neg (by omega)]
          · repeat' (first
              | (with_reducible refine aw_seq ?_) | (with_reducible refine aseq_n ?_) | (with_reducible refine aseq_r ?_) | (with_reducible refine ablk_n ?_) | (with_reducible refine ablk_r ?_) | (with_reducible refine ablk_e ?_) | (with_reducible refine ablk_o rfl ?_) | (with_reducible refine aseq_e ?_) | (with_reducible refine aw_skip ?_) | (with_reducible refine aw_block ?_) | (with_reducible refine aw_ret ?_) | (with_reducible refine aw_exit ?_)
              | refine aw_cond_t rfl ?_ | refine aw_cond_f rfl ?_ | refine aw_if_t rfl (by assumption) ?_ | refine aw_if_f rfl (by assumption) ?_ | refine aw_if rfl (fun _ => ?_) (fun _ => ?_) | refine aw_cond rfl (fun _ => ?_) (fun _ => ?_)
              | (refine aw_region (id := 8) ?_
                 refine WO ?_
                 refine al_ef rfl (ef_call0 false (fun _ => qin_a _ _ _) rfl .fn rfl (by decide) (by kernel_rfl) rfl (fun _g => .cons (.c rfl) (.cons (.c rfl) (.cons (.c rfl) .nil))) (by simp)) ?_
                 rintro _ _ ⟨_, _, _, ⟨b, rfl, rfl, hb1, hb2⟩, hF, hH⟩
                 (try simp only [nsl, Nat.reduceAdd, Nat.reduceLT, Nat.reduceSub] at hF); (try simp only [nsl, Nat.reduceAdd, Nat.reduceLT, Nat.reduceSub] at hH); subst hF; subst hH
                 cases b
                 all_goals (simp only [true_implies, false_implies, reduceCtorEq] at hb1 hb2)
                 all_goals (refine WO ?_)
                 all_goals (first | refine ZS ?_ | (refine G1 rfl ?_; refine al_ef rfl (ef_call0 false (fun _ => qin_a _ _ _) rfl .fn rfl (by decide) (by kernel_rfl) rfl (fun _g => .cons (.c rfl) (.cons (.c rfl) (.cons (.c rfl) .nil))) (by simp)) ?_; rintro _ _ ⟨_, _, _, ⟨b, rfl, rfl, hb1, hb2⟩, hF, hH⟩; (try simp only [nsl, Nat.reduceAdd, Nat.reduceLT, Nat.reduceSub] at hF); (try simp only [nsl, Nat.reduceAdd, Nat.reduceLT, Nat.reduceSub] at hH); subst hF; subst hH; cases b; all_goals (simp only [true_implies, false_implies, reduceCtorEq] at hb1 hb2)) | skip)
                 all_goals (refine WO ?_)
                 all_goals (first | refine ZS ?_ | (refine G1 rfl ?_; refine al_ef rfl (ef_call0 false (fun _ => qin_a _ _ _) rfl .fn rfl (by decide) (by kernel_rfl) rfl (fun _g => .cons (.c rfl) (.cons (.c rfl) (.cons (.c rfl) .nil))) (by simp)) ?_; rintro _ _ ⟨_, _, _, ⟨b, rfl, rfl, hb1, hb2⟩, hF, hH⟩; (try simp only [nsl, Nat.reduceAdd, Nat.reduceLT, Nat.reduceSub] at hF); (try simp only [nsl, Nat.reduceAdd, Nat.reduceLT, Nat.reduceSub] at hH); subst hF; subst hH; cases b; all_goals (simp only [true_implies, false_implies, reduceCtorEq] at hb1 hb2)) | skip)
                 all_goals (refine WE ?_))
              | (refine aw_region (id := 9) ?_
                 refine WE ?_)
              | (refine aw_region (id := 10) ?_
                 refine WE ?_)
              | (refine aw_region (id := 11) ?_
                 refine WE ?_)
              | (refine aw_region (id := 12) ?_
                 refine WE ?_)
              | (refine aw_region (id := 13) ?_
                 refine WE ?_)
              | (refine aw_region (id := 14) ?_
                 refine WE ?_)
              | (refine aw_region (id := 15) ?_
                 refine WE ?_))
            all_goals try (exfalso; omega)
            all_goals refine wk_of [some 0, some 1] (fun _ => [(0, .c (prog_r v l)), (1, .c (I least)), (6, .o 0 0 r.length c), (7, .o 1 0 r.length d), (8, .c (I k)), (12, .c (I _)), (13, .c (prog_r v l)), (14, .c (I (l.map Step.row).length)), (15, .c (I k))]) (fun _ => [.arr 3 1 c (r.map fun z => [I z.1]), .arr 28 1 d (r.map fun z => [I z.2])]) (by decide) (ZNL hE) ZCF ZCH (fun _ => ⟨_, ?_, rfl, rfl⟩)
            all_goals (unfold wrongF; dsimp only)
            all_goals first
              | (exfalso; omega)
              | rw [if_pos (by omega)]
              | rw [if_neg (by omega), if_pos (by omega)]
              | rw [if_neg (by omega), if_neg (by omega), if_pos (by omega)]
              | rw [if_neg (by omega), if_neg (by omega), if_neg (by omega), if_pos (by omega)]
              | rw [if_neg (by omega), if_neg (by omega), if_neg (by omega), if_neg (by omega)]
    rintro F H ⟨e, he, rfl, rfl⟩
    rw [← he] at hfs
    refine WA ?_
    refine aw_if rfl (fun hne => ?_) (fun heq => ?_)
    · rw [if_pos hne] at hfs
      refine WR ?_
      refine al_ef rfl (Zapp (KA (t := 22) rfl)) ?_
      rintro _ _ ⟨_, cc, hcc, rfl, rfl⟩
      refine WO ?_
      refine al_ef rfl (Zapp (KA (t := 80) rfl)) ?_
      rintro _ _ ⟨_, cc, hcc, rfl, rfl⟩
      refine WE ?_
      refine WA ?_
      all_goals refine wk_of [some 0, some 1] (fun _ => [(0, .c (prog_r v l)), (1, .c (I least)), (6, .o 0 0 (r ++ [((k : Int), e)]).length _), (7, .o 1 0 (r ++ [((k : Int), e)]).length _), (13, .c (prog_r v l)), (14, .c (I (l.map Step.row).length)), (15, .c (I (k + 1 : Nat)))]) (fun _ => [.arr 3 1 _ ((r ++ [((k : Int), e)]).map fun z => [I z.1]), .arr 28 1 _ ((r ++ [((k : Int), e)]).map fun z => [I z.2])]) (by decide) (ZNL hE) ZCF ZCH (fun _ => ?_)
      all_goals exact ⟨n - 1, by omega, k + 1, _, _, r ++ [((k : Int), e)], by omega, hfs.symm, rfl, rfl⟩
    · rw [if_neg (by omega)] at hfs
      refine WA ?_
      all_goals refine wk_of [some 0, some 1] (fun _ => [(0, .c (prog_r v l)), (1, .c (I least)), (6, .o 0 0 r.length c), (7, .o 1 0 r.length d), (13, .c (prog_r v l)), (14, .c (I (l.map Step.row).length)), (15, .c (I (k + 1 : Nat)))]) (fun _ => [.arr 3 1 c (r.map fun z => [I z.1]), .arr 28 1 d (r.map fun z => [I z.2])]) (by decide) (ZNL hE) ZCF ZCH (fun _ => ?_)
      exact ⟨n - 1, by omega, k + 1, c, d, r, by omega, hfs.symm, rfl, rfl⟩
  refine WA ?_
  obtain rfl : k = l.length := by omega
  exact aret_of (us := [.o 0 0 r.length c, .o 1 0 r.length d]) [] (fun g => .t [.c (.r (g (.o 0 0 r.length c)) (r.map fun z => [I z.1])), .c (.r (g (.o 1 0 r.length d)) (r.map fun z => [I z.2]))]) (fun _ => []) (.tmp rfl (.tmp rfl .nil)) (by decide) (ZNK rfl) (fun _ => .tL (.cons (.frz rfl rfl (by rw [List.drop_zero, List.take_of_length_le (by simp)]) (by simp) rfl) (.cons (.frz rfl rfl (by rw [List.drop_zero, List.take_of_length_le (by simp)]) (by simp) rfl) .nil))) (fun _ => .nil) (fun _ => ⟨_, _, by rw [hms], rfl⟩)
end Go.Proofs.Ytpbedckdnoogpaa

/- How long a program takes, by value. -/
namespace Go.Proofs.Ytpbedckdnoogpaa
open Go Go.RowKit
set_option maxRecDepth 100000
-- NEWM
def Mach.bnd (k : Int) (m : Mach) : Prop := (-200000 * k ≤ m.x ∧ m.x ≤ 200000 * k) ∧ (-200000 * k ≤ m.y ∧ m.y ≤ 200000 * k) ∧ (-1000000 * k ≤ m.z ∧ m.z ≤ 1000000 * k) ∧ (0 ≤ m.sp ∧ m.sp ≤ 100000) ∧ (0 ≤ m.fl ∧ m.fl ≤ 100000000 * k)
def Step.good (s : Step) : Prop := (1 ≤ s.k ∧ s.k ≤ 9) ∧ (-200000 ≤ s.x ∧ s.x ≤ 200000) ∧ (-200000 ≤ s.y ∧ s.y ≤ 200000) ∧ (-1000000 ≤ s.z ∧ s.z ≤ 1000000) ∧ (0 ≤ s.f ∧ s.f ≤ 100000000) ∧ (s.k = 6 → 1 ≤ s.n ∧ s.n ≤ 100000) ∧ (s.k = 7 → 0 ≤ s.n ∧ s.n ≤ 10000000)
theorem faultS_good {s : Step} (h : faultS s = 0) : s.good := by
  unfold faultS at h
  unfold Step.good
  split at h
  · omega
  · split at h
    · omega
    · split at h
      · omega
      · omega
theorem relS_bnd {r : Bool} {a b A Bd : Int} (ha : -A ≤ a ∧ a ≤ A) (hb : -Bd ≤ b ∧ b ≤ Bd) (hA : 0 ≤ A) (hs : A + Bd ≤ 9000000000000000000) : -(A + Bd) ≤ relS r a b ∧ relS r a b ≤ A + Bd := by
  unfold relS
  split
  · rw [IntWalk.wrap64_in _ (by constructor <;> omega)]; omega
  · omega
theorem afterS_bnd {m : Mach} {s : Step} {k : Int} (h0 : 0 ≤ k) (hk : k ≤ 5000) (hs : s.good) (hm : m.bnd k) : (afterS m s).bnd (k + 1) := by
  obtain ⟨s1, s2, s3, s4, s5, s6, s7⟩ := hs
  obtain ⟨m1, m2, m3, m4, m5⟩ := hm
  have r1 := relS_bnd (r := m.rel) (a := m.x) (b := s.x) (A := 200000 * k) (Bd := 200000) (by omega) (by omega) (by omega) (by omega)
  have r2 := relS_bnd (r := m.rel) (a := m.y) (b := s.y) (A := 200000 * k) (Bd := 200000) (by omega) (by omega) (by omega) (by omega)
  have r3 := relS_bnd (r := m.rel) (a := m.z) (b := s.z) (A := 1000000 * k) (Bd := 1000000) (by omega) (by omega) (by omega) (by omega)
  have r4 : wrap64 (m.fl + s.f) = m.fl + s.f := IntWalk.wrap64_in _ (by constructor <;> omega)
  unfold afterS Mach.bnd
  repeat' split
  all_goals try dsimp only
  all_goals refine ⟨⟨?_, ?_⟩, ⟨?_, ?_⟩, ⟨?_, ?_⟩, ⟨?_, ?_⟩, ⟨?_, ?_⟩⟩
  all_goals first | omega | (rw [r4]; omega)
theorem firstF_zero : ∀ {l : List Step}, firstF l = 0 → ∀ s ∈ l, faultS s = 0
  | [], _, s, hs => by cases hs
  | x :: l, h, s, hs => by
    rw [firstF] at h
    split at h
    · rcases List.mem_cons.1 hs with rfl | hs
      · assumption
      · exact firstF_zero h s hs
    · contradiction
theorem progF_zero {l : List Step} (h : progF l = 0) : l.length ≤ 5000 ∧ ∀ s ∈ l, s.good := by
  unfold progF at h
  split at h
  · cases h
  · exact ⟨by omega, fun s hs => faultS_good (firstF_zero h s hs)⟩
theorem lastS_bnd {l : List Step} (hl : l.length ≤ 5000) (hg : ∀ s ∈ l, s.good) : ∀ k : Nat, k ≤ l.length → (lastS (l.take k)).bnd k
  | 0, _ => by simp [lastS, Mach.bnd]
  | k + 1, hk => by
    obtain ⟨s, hs⟩ : ∃ s, l[k]? = some s := ⟨_, List.getElem?_eq_getElem (by omega)⟩
    rw [lastS_succ hs]
    have := afterS_bnd (k := k) (by omega) (by omega) (hg s (List.mem_of_getElem? hs)) (lastS_bnd hl hg k (by omega))
    exact_mod_cast this
def absI (n : Int) : Int := max n (-n)
def farS (a b : Mach) : Int := max (max (absI (a.x - b.x)) (absI (a.y - b.y))) (absI (a.z - b.z))
def timeE (s : Step) (a b : Mach) : Int := (if s.k = 7 then s.n else 0) + (if 0 < b.sp then (1000 * farS a b + b.sp - 1) / b.sp else 0)
def timeK (l : List Step) : Nat → Int
  | 0 => 0
  | k + 1 => match l[k]? with
    | some s => timeK l k + timeE s (lastS (l.take k)) (lastS (l.take (k + 1)))
    | none => timeK l k
theorem timeK_succ {l : List Step} {k : Nat} {s : Step} (h : l[k]? = some s) : timeK l (k + 1) = timeK l k + timeE s (lastS (l.take k)) (lastS (l.take (k + 1))) := by
  simp only [timeK, h]
theorem farS_bnd {a b : Mach} {k : Int} (hk : k ≤ 5000) (ha : a.bnd k) (hb : b.bnd (k + 1)) : 0 ≤ farS a b ∧ farS a b ≤ 20000000000 := by
  obtain ⟨a1, a2, a3, a4, a5⟩ := ha
  obtain ⟨b1, b2, b3, b4, b5⟩ := hb
  unfold farS absI
  omega
theorem ceil_bnd {x b : Int} (hx : 0 ≤ x) (hb : 0 < b) : 0 ≤ (x + b - 1) / b ∧ (x + b - 1) / b ≤ x := by
  refine ⟨Int.ediv_nonneg (by omega) (by omega), ?_⟩
  by_cases h : 0 < x
  · have : (x + b - 1) / b < x + 1 := by
      refine Int.ediv_lt_of_lt_mul hb ?_
      have : x + b - 1 < x + b := by omega
      have h2 : x + b ≤ (x + 1) * b := by
        have : 0 ≤ x * (b - 1) := Int.mul_nonneg hx (by omega)
        rw [Int.add_mul, Int.one_mul]
        rw [Int.mul_sub, Int.mul_one] at this
        omega
      omega
    omega
  · obtain rfl : x = 0 := by omega
    rw [Int.ediv_eq_zero_of_lt (by omega) (by omega)]
    omega
theorem timeE_bnd {s : Step} {a b : Mach} {k : Int} (hk : k ≤ 5000) (hs : s.good) (ha : a.bnd k) (hb : b.bnd (k + 1)) : 0 ≤ timeE s a b ∧ timeE s a b ≤ 30000000000000 := by
  have h1 := farS_bnd hk ha hb
  obtain ⟨s1, s2, s3, s4, s5, s6, s7⟩ := hs
  unfold timeE
  split
  · split
    · have := ceil_bnd (x := 1000 * farS a b) (b := b.sp) (by omega) (by omega)
      omega
    · omega
  · split
    · have := ceil_bnd (x := 1000 * farS a b) (b := b.sp) (by omega) (by omega)
      omega
    · omega
theorem timeK_bnd {l : List Step} (hl : l.length ≤ 5000) (hg : ∀ s ∈ l, s.good) : ∀ k : Nat, k ≤ l.length → 0 ≤ timeK l k ∧ timeK l k ≤ 30000000000000 * k
  | 0, _ => by simp [timeK]
  | k + 1, hk => by
    obtain ⟨s, hs⟩ : ∃ s, l[k]? = some s := ⟨_, List.getElem?_eq_getElem (by omega)⟩
    rw [timeK_succ hs]
    have h1 := timeK_bnd hl hg k (by omega)
    have h2 := timeE_bnd (k := k) (by omega) (hg s (List.mem_of_getElem? hs)) (lastS_bnd hl hg k (by omega)) (by exact_mod_cast lastS_bnd hl hg (k + 1) hk)
    omega
theorem cabs_a (n : Int) (h : -9223372036854775807 ≤ n ∧ n ≤ 9223372036854775807) : ACalls Try.prog 127 [.c (I n)] [] fun u H => u = .c (I (absI n)) ∧ H = [] := by
  refine acalls_of (N := 7) Try.func127 rfl rfl (by simp) fun E hE => ?_
  refine WA ?_
  refine WA ?_
  exact aret_1 [] _ rfl rfl rfl (by decide) (ZNK rfl) (fun _ => .nil) ⟨rfl, rfl⟩
theorem place_a (m : Mach) : ACalls Try.prog 126 [.a (m.row.map .c)] [] fun u H => u = .a ((⟨m.x, m.y⟩ : Pt).row.map .c) ∧ H = [] := by
  refine acalls_of (N := 8) Try.func126 rfl rfl (by simp) fun E hE => ?_
  refine WA ?_
  refine WA ?_
  exact aret_a [] [] rfl (KK (t := 145) rfl) rfl (Cells.box rfl) (by simp) (by (try simp only [nm, putL, Nat.reduceAdd, cellsOf, cvOf]) <;> rfl) (by decide) (ZNK rfl) (fun _ => C0 rfl) (fun _ => .nil) ⟨rfl, rfl⟩
/-- What a step moves. -/
structure Moved (s : Step) (a b : Mach) : Prop where
  pl : s.k ≠ 3 ∧ s.k ≠ 4 → b.x = a.x ∧ b.y = a.y
  ly : s.k ≠ 5 → b.z = a.z
theorem moved_after (s : Step) (a : Mach) : Moved s a (afterS a s) := by
  constructor
  · intro h
    unfold afterS
    repeat' split
    all_goals first | exact ⟨rfl, rfl⟩ | (exfalso; omega)
  · intro h
    unfold afterS
    repeat' split
    all_goals first | rfl | (exfalso; omega)
abbrev timH (l : List Step) (v : Value) (n : Int) : List OB := [.box [.c (prog_r v l)], .box [.c (I n)]]
set_option maxHeartbeats 4000000 in
theorem time1_a (l : List Step) (v : Value) (k : Nat) (s : Step) (hs : l[k]? = some s) (hsg : s.good) (a b : Mach) (hmv : Moved s a b) (hk : k ≤ 5000) (ha : a.bnd k) (hb : b.bnd (k + 1)) (n : Int) (hn : 0 ≤ n ∧ n ≤ 200000000000000000) :
    ACalls Try.prog 123 [.c (I k), .a (a.row.map .c), .a (b.row.map .c), .p 0 0 0, .p 1 0 0] (timH l v n) fun u H => u = .t [] ∧ H = timH l v (n + timeE s a b) := by
  have e1 : (l.map Step.row).length = l.length := by simp
  have hlt : k < l.length := (List.getElem?_eq_some_iff.1 hs).1
  have hrow : (l.map Step.row)[k]? = some s.row := by rw [List.getElem?_map, hs]; rfl
  have hfb := farS_bnd (k := k) (by omega) ha hb
  obtain ⟨mv1, mv2⟩ := hmv
  obtain ⟨⟨a1, a1'⟩, ⟨a2, a2'⟩, ⟨a3, a3'⟩, ⟨a4, a4'⟩, a5⟩ := ha
  obtain ⟨⟨b1, b1'⟩, ⟨b2, b2'⟩, ⟨b3, b3'⟩, ⟨b4, b4'⟩, b5⟩ := hb
  obtain ⟨s1, s2, s3, s4, s5, s6, s7⟩ := hsg
  refine acalls_of (N := 55) Try.func123 rfl rfl (by simp) fun E hE => ?_
  refine WA ?_
  refine WA ?_
  refine WR ?_
  refine al_nil ?_
  refine aseq_n ?_
  refine aw_cut (fun F H => ∃ f n' : Int, f = farS a b ∧ n' = n + (if s.k = 7 then s.n else 0) ∧ F = [(4, .p 1 0 0), (6, .p 2 0 0), (7, .p 3 0 0), (8, .c (I f))] ∧ H = [.box [.c (prog_r v l)], .box [.c (I n')], .box (a.row.map .c), .box (b.row.map .c)]) ?_ ?_ wk_aw
  · by_cases h5 : s.k = 5
    · repeat' (first
        | (with_reducible refine aw_seq ?_) | (with_reducible refine aseq_n ?_) | (with_reducible refine aseq_r ?_) | (with_reducible refine ablk_n ?_) | (with_reducible refine ablk_r ?_) | (with_reducible refine ablk_e ?_) | (with_reducible refine ablk_o rfl ?_) | (with_reducible refine aseq_e ?_) | (with_reducible refine aw_skip ?_) | (with_reducible refine aw_block ?_) | (with_reducible refine aw_ret ?_) | (with_reducible refine aw_exit ?_)
        | refine aw_cond_t rfl ?_ | refine aw_cond_f rfl ?_ | refine aw_if_t rfl (by assumption) ?_ | refine aw_if_f rfl (by assumption) ?_ | refine aw_if rfl (fun _ => ?_) (fun _ => ?_) | refine aw_cond rfl (fun _ => ?_) (fun _ => ?_)
        | (refine aw_region (id := 3) ?_
           refine WO ?_
           refine al_ef rfl (ef_call0 false (fun _ => isplaced_h _) rfl .fn rfl (by decide) (by kernel_rfl) rfl (fun _g => .cons (.c rfl) .nil) (by simp)) ?_
           rintro _ _ ⟨_, _, _, ⟨b, rfl, rfl, hb1, hb2⟩, hF, hH⟩
           (try simp only [nsl, Nat.reduceAdd, Nat.reduceLT, Nat.reduceSub] at hF); (try simp only [nsl, Nat.reduceAdd, Nat.reduceLT, Nat.reduceSub] at hH); subst hF; subst hH
           cases b
           all_goals (simp only [true_implies, false_implies, reduceCtorEq] at hb1 hb2)
           all_goals (refine WE ?_))
        | (refine aw_regionT (id := 4) [(0, none), (2, none), (1, some [2]), (3, some []), (4, some []), (5, none)] hMixed (by kernel_rfl) ?_
           refine WP ?_
           refine at_ef rfl rfl (ef_call0 false (fun _ => place_a a) rfl .fn rfl (by decide) (by kernel_rfl) rfl (fun _ => C0 rfl) (by simp)) ?_
           rintro _ _ ⟨_, _, _, ⟨rfl, rfl⟩, hF, hH⟩
           (try simp only [nsl, Nat.reduceAdd, Nat.reduceLT, Nat.reduceSub] at hF); (try simp only [nsl, Nat.reduceAdd, Nat.reduceLT, Nat.reduceSub] at hH); subst hF; subst hH
           refine ⟨ag_cons (by first | exact ag_rd rfl rfl rfl (ZK (KK (t := 42) rfl)) rfl) (ag_none), ?_⟩
           refine at_ef rfl rfl (ef_call0 false (fun _ => place_a b) rfl .fn rfl (by decide) (by kernel_rfl) rfl (fun _ => C0 rfl) (by simp)) ?_
           rintro _ _ ⟨_, _, _, ⟨rfl, rfl⟩, hF, hH⟩
           (try simp only [nsl, Nat.reduceAdd, Nat.reduceLT, Nat.reduceSub] at hF); (try simp only [nsl, Nat.reduceAdd, Nat.reduceLT, Nat.reduceSub] at hH); subst hF; subst hH
           refine ⟨ag_none, ?_⟩
           refine at_ef rfl rfl (ef_call0 false (fun _ => dist_a ⟨a.x, a.y⟩ ⟨b.x, b.y⟩ (by simp only; omega) (by simp only; omega) (by simp only; omega) (by simp only; omega)) rfl .fn rfl (by decide) (by kernel_rfl) rfl (fun _ => C0 rfl) (by simp)) ?_
           rintro _ _ ⟨_, _, _, ⟨rfl, rfl⟩, hF, hH⟩
           (try simp only [nsl, Nat.reduceAdd, Nat.reduceLT, Nat.reduceSub] at hF); (try simp only [nsl, Nat.reduceAdd, Nat.reduceLT, Nat.reduceSub] at hH); subst hF; subst hH
           refine ⟨ag_none, ?_⟩
           refine WQ ?_)
        | (refine aw_region (id := 5) ?_
           refine WE ?_)
        | (refine aw_region (id := 6) ?_
           refine WO ?_
           refine al_ef rfl (ef_call0 false (fun _ => cabs_a (b.z - a.z) (by omega)) rfl .fn rfl (by decide) (by kernel_rfl) rfl (fun _ => C0 rfl) (by simp)) ?_
           rintro _ _ ⟨_, _, _, ⟨rfl, rfl⟩, hF, hH⟩
           (try simp only [nsl, Nat.reduceAdd, Nat.reduceLT, Nat.reduceSub] at hF); (try simp only [nsl, Nat.reduceAdd, Nat.reduceLT, Nat.reduceSub] at hH); subst hF; subst hH
           refine WE ?_)
        | (refine aw_region (id := 7) ?_
           refine WE ?_)
        | (refine aw_region (id := 8) ?_
           refine WE ?_))
      all_goals try (exfalso; omega)
      all_goals refine wk_of [some 0, some 1, some 2, some 3] (fun _ => [(4, .p 1 0 0), (6, .p 2 0 0), (7, .p 3 0 0), (8, .c (I _))]) (fun _ => [.box [.c (prog_r v l)], .box [.c (I _)], .box (a.row.map .c), .box (b.row.map .c)]) (by decide) (ZNL hE) ZCF ZCH (fun _ => ⟨_, _, ?_, ?_, rfl, rfl⟩)
      all_goals first | ((unfold farS absI; try unfold distF); (try dsimp only); omega) | (first | rw [if_pos (by omega)] | (rw [if_neg (by omega)]; omega))
    · by_cases h7 : s.k = 7
      · repeat' (first
          | (with_reducible refine aw_seq ?_) | (with_reducible refine aseq_n ?_) | (with_reducible refine aseq_r ?_) | (with_reducible refine ablk_n ?_) | (with_reducible refine ablk_r ?_) | (with_reducible refine ablk_e ?_) | (with_reducible refine ablk_o rfl ?_) | (with_reducible refine aseq_e ?_) | (with_reducible refine aw_skip ?_) | (with_reducible refine aw_block ?_) | (with_reducible refine aw_ret ?_) | (with_reducible refine aw_exit ?_)
          | refine aw_cond_t rfl ?_ | refine aw_cond_f rfl ?_ | refine aw_if_t rfl (by assumption) ?_ | refine aw_if_f rfl (by assumption) ?_ | refine aw_if rfl (fun _ => ?_) (fun _ => ?_) | refine aw_cond rfl (fun _ => ?_) (fun _ => ?_)
          | (refine aw_region (id := 3) ?_
             refine WO ?_
             refine al_ef rfl (ef_call0 false (fun _ => isplaced_h _) rfl .fn rfl (by decide) (by kernel_rfl) rfl (fun _g => .cons (.c rfl) .nil) (by simp)) ?_
             rintro _ _ ⟨_, _, _, ⟨b, rfl, rfl, hb1, hb2⟩, hF, hH⟩
             (try simp only [nsl, Nat.reduceAdd, Nat.reduceLT, Nat.reduceSub] at hF); (try simp only [nsl, Nat.reduceAdd, Nat.reduceLT, Nat.reduceSub] at hH); subst hF; subst hH
             cases b
             all_goals (simp only [true_implies, false_implies, reduceCtorEq] at hb1 hb2)
             all_goals (refine WE ?_))
          | (refine aw_regionT (id := 4) [(0, none), (2, none), (1, some [2]), (3, some []), (4, some []), (5, none)] hMixed (by kernel_rfl) ?_
             refine WP ?_
             refine at_ef rfl rfl (ef_call0 false (fun _ => place_a a) rfl .fn rfl (by decide) (by kernel_rfl) rfl (fun _ => C0 rfl) (by simp)) ?_
             rintro _ _ ⟨_, _, _, ⟨rfl, rfl⟩, hF, hH⟩
             (try simp only [nsl, Nat.reduceAdd, Nat.reduceLT, Nat.reduceSub] at hF); (try simp only [nsl, Nat.reduceAdd, Nat.reduceLT, Nat.reduceSub] at hH); subst hF; subst hH
             refine ⟨ag_cons (by first | exact ag_rd rfl rfl rfl (ZK (KK (t := 42) rfl)) rfl) (ag_none), ?_⟩
             refine at_ef rfl rfl (ef_call0 false (fun _ => place_a b) rfl .fn rfl (by decide) (by kernel_rfl) rfl (fun _ => C0 rfl) (by simp)) ?_
             rintro _ _ ⟨_, _, _, ⟨rfl, rfl⟩, hF, hH⟩
             (try simp only [nsl, Nat.reduceAdd, Nat.reduceLT, Nat.reduceSub] at hF); (try simp only [nsl, Nat.reduceAdd, Nat.reduceLT, Nat.reduceSub] at hH); subst hF; subst hH
             refine ⟨ag_none, ?_⟩
             refine at_ef rfl rfl (ef_call0 false (fun _ => dist_a ⟨a.x, a.y⟩ ⟨b.x, b.y⟩ (by simp only; omega) (by simp only; omega) (by simp only; omega) (by simp only; omega)) rfl .fn rfl (by decide) (by kernel_rfl) rfl (fun _ => C0 rfl) (by simp)) ?_
             rintro _ _ ⟨_, _, _, ⟨rfl, rfl⟩, hF, hH⟩
             (try simp only [nsl, Nat.reduceAdd, Nat.reduceLT, Nat.reduceSub] at hF); (try simp only [nsl, Nat.reduceAdd, Nat.reduceLT, Nat.reduceSub] at hH); subst hF; subst hH
             refine ⟨ag_none, ?_⟩
             refine WQ ?_)
          | (refine aw_region (id := 5) ?_
             refine WE ?_)
          | (refine aw_region (id := 6) ?_
             refine WO ?_
             refine al_ef rfl (ef_call0 false (fun _ => cabs_a (b.z - a.z) (by omega)) rfl .fn rfl (by decide) (by kernel_rfl) rfl (fun _ => C0 rfl) (by simp)) ?_
             rintro _ _ ⟨_, _, _, ⟨rfl, rfl⟩, hF, hH⟩
             (try simp only [nsl, Nat.reduceAdd, Nat.reduceLT, Nat.reduceSub] at hF); (try simp only [nsl, Nat.reduceAdd, Nat.reduceLT, Nat.reduceSub] at hH); subst hF; subst hH
             refine WE ?_)
          | (refine aw_region (id := 7) ?_
             refine WE ?_)
          | (refine aw_region (id := 8) ?_
             refine WE ?_))
        all_goals try (exfalso; omega)
        all_goals refine wk_of [some 0, some 1, some 2, some 3] (fun _ => [(4, .p 1 0 0), (6, .p 2 0 0), (7, .p 3 0 0), (8, .c (I _))]) (fun _ => [.box [.c (prog_r v l)], .box [.c (I _)], .box (a.row.map .c), .box (b.row.map .c)]) (by decide) (ZNL hE) ZCF ZCH (fun _ => ⟨_, _, ?_, ?_, rfl, rfl⟩)
        all_goals first | ((unfold farS absI; try unfold distF); (try dsimp only); omega) | (first | rw [if_pos (by omega)] | (rw [if_neg (by omega)]; omega))
      · repeat' (first
          | (with_reducible refine aw_seq ?_) | (with_reducible refine aseq_n ?_) | (with_reducible refine aseq_r ?_) | (with_reducible refine ablk_n ?_) | (with_reducible refine ablk_r ?_) | (with_reducible refine ablk_e ?_) | (with_reducible refine ablk_o rfl ?_) | (with_reducible refine aseq_e ?_) | (with_reducible refine aw_skip ?_) | (with_reducible refine aw_block ?_) | (with_reducible refine aw_ret ?_) | (with_reducible refine aw_exit ?_)
          | refine aw_cond_t rfl ?_ | refine aw_cond_f rfl ?_ | refine aw_if_t rfl (by assumption) ?_ | refine aw_if_f rfl (by assumption) ?_ | refine aw_if rfl (fun _ => ?_) (fun _ => ?_) | refine aw_cond rfl (fun _ => ?_) (fun _ => ?_)
          | (refine aw_region (id := 3) ?_
             refine WO ?_
             refine al_ef rfl (ef_call0 false (fun _ => isplaced_h _) rfl .fn rfl (by decide) (by kernel_rfl) rfl (fun _g => .cons (.c rfl) .nil) (by simp)) ?_
             rintro _ _ ⟨_, _, _, ⟨b, rfl, rfl, hb1, hb2⟩, hF, hH⟩
             (try simp only [nsl, Nat.reduceAdd, Nat.reduceLT, Nat.reduceSub] at hF); (try simp only [nsl, Nat.reduceAdd, Nat.reduceLT, Nat.reduceSub] at hH); subst hF; subst hH
             cases b
             all_goals (simp only [true_implies, false_implies, reduceCtorEq] at hb1 hb2)
             all_goals (refine WE ?_))
          | (refine aw_regionT (id := 4) [(0, none), (2, none), (1, some [2]), (3, some []), (4, some []), (5, none)] hMixed (by kernel_rfl) ?_
             refine WP ?_
             refine at_ef rfl rfl (ef_call0 false (fun _ => place_a a) rfl .fn rfl (by decide) (by kernel_rfl) rfl (fun _ => C0 rfl) (by simp)) ?_
             rintro _ _ ⟨_, _, _, ⟨rfl, rfl⟩, hF, hH⟩
             (try simp only [nsl, Nat.reduceAdd, Nat.reduceLT, Nat.reduceSub] at hF); (try simp only [nsl, Nat.reduceAdd, Nat.reduceLT, Nat.reduceSub] at hH); subst hF; subst hH
             refine ⟨ag_cons (by first | exact ag_rd rfl rfl rfl (ZK (KK (t := 42) rfl)) rfl) (ag_none), ?_⟩
             refine at_ef rfl rfl (ef_call0 false (fun _ => place_a b) rfl .fn rfl (by decide) (by kernel_rfl) rfl (fun _ => C0 rfl) (by simp)) ?_
             rintro _ _ ⟨_, _, _, ⟨rfl, rfl⟩, hF, hH⟩
             (try simp only [nsl, Nat.reduceAdd, Nat.reduceLT, Nat.reduceSub] at hF); (try simp only [nsl, Nat.reduceAdd, Nat.reduceLT, Nat.reduceSub] at hH); subst hF; subst hH
             refine ⟨ag_none, ?_⟩
             refine at_ef rfl rfl (ef_call0 false (fun _ => dist_a ⟨a.x, a.y⟩ ⟨b.x, b.y⟩ (by simp only; omega) (by simp only; omega) (by simp only; omega) (by simp only; omega)) rfl .fn rfl (by decide) (by kernel_rfl) rfl (fun _ => C0 rfl) (by simp)) ?_
             rintro _ _ ⟨_, _, _, ⟨rfl, rfl⟩, hF, hH⟩
             (try simp only [nsl, Nat.reduceAdd, Nat.reduceLT, Nat.reduceSub] at hF); (try simp only [nsl, Nat.reduceAdd, Nat.reduceLT, Nat.reduceSub] at hH); subst hF; subst hH
             refine ⟨ag_none, ?_⟩
             refine WQ ?_)
          | (refine aw_region (id := 5) ?_
             refine WE ?_)
          | (refine aw_region (id := 6) ?_
             refine WO ?_
             refine al_ef rfl (ef_call0 false (fun _ => cabs_a (b.z - a.z) (by omega)) rfl .fn rfl (by decide) (by kernel_rfl) rfl (fun _ => C0 rfl) (by simp)) ?_
             rintro _ _ ⟨_, _, _, ⟨rfl, rfl⟩, hF, hH⟩
             (try simp only [nsl, Nat.reduceAdd, Nat.reduceLT, Nat.reduceSub] at hF); (try simp only [nsl, Nat.reduceAdd, Nat.reduceLT, Nat.reduceSub] at hH); subst hF; subst hH
             refine WE ?_)
          | (refine aw_region (id := 7) ?_
             refine WE ?_)
          | (refine aw_region (id := 8) ?_
             refine WE ?_))
        all_goals try (exfalso; omega)
        all_goals refine wk_of [some 0, some 1, some 2, some 3] (fun _ => [(4, .p 1 0 0), (6, .p 2 0 0), (7, .p 3 0 0), (8, .c (I _))]) (fun _ => [.box [.c (prog_r v l)], .box [.c (I _)], .box (a.row.map .c), .box (b.row.map .c)]) (by decide) (ZNL hE) ZCF ZCH (fun _ => ⟨_, _, ?_, ?_, rfl, rfl⟩)
        all_goals first | ((unfold farS absI; try unfold distF); (try dsimp only); omega) | (first | rw [if_pos (by omega)] | (rw [if_neg (by omega)]; omega))
  rintro F H ⟨f, n', rfl, rfl, rfl, rfl⟩
  refine WA ?_
  refine aw_if rfl (fun hp => ?_) (fun hp => ?_)
  · have hc := ceil_bnd (x := 1000 * farS a b) (b := b.sp) (by omega) (by omega)
    have hq : timeE s a b = (if s.k = 7 then s.n else 0) + (1000 * farS a b + b.sp - 1) / b.sp := by unfold timeE; rw [if_pos (show 0 < b.sp by omega)]
    have hif : 0 ≤ (if s.k = 7 then s.n else 0) ∧ (if s.k = 7 then s.n else 0) ≤ 10000000 := by split <;> omega
    generalize (if s.k = 7 then s.n else 0) = wt at *
    refine ZZ ?_
    refine aw_regionT [(0, none), (1, none), (2, none), (3, none), (4, none), (5, none), (6, none), (7, none), (8, none), (9, none), (10, none), (11, some [])] hMixed (by kernel_rfl) ?_
    refine WQ ?_
    all_goals exact aret_0 [some 0, some 1] (fun _ => timH l v (n + wt + (1000 * farS a b + b.sp - 1) / b.sp)) (.inr rfl) rfl (by decide) (ZNL (n := 2) rfl) ZCH (fun _ => ⟨rfl, by rw [hq, Int.add_assoc]⟩)
  · have hq : timeE s a b = (if s.k = 7 then s.n else 0) := by unfold timeE; rw [if_neg (show ¬ 0 < b.sp by omega)]; omega
    refine ZZ ?_
    exact aret_0 [some 0, some 1] (fun _ => timH l v (n + if s.k = 7 then s.n else 0)) (.inr rfl) rfl (by decide) (ZNL (n := 2) rfl) ZCH (fun _ => ⟨rfl, by rw [hq]⟩)
theorem runTim_a (l : List Step) (v : Value) (hl : l.length ≤ 5000) (hg : ∀ s ∈ l, s.good) (hok : ∀ s ∈ l, s.ok) : ACalls Try.prog 92 [.c (prog_r v l), .f (.func 123) [.p 0 0 0, .p 1 0 0]] (timH l v 0) fun u H => u = .a ((lastS l).row.map .c) ∧ H = timH l v (timeK l l.length) := by
  have e1 : (l.map Step.row).length = l.length := by simp
  refine acalls_of (N := 27) Try.func92 rfl rfl (by simp) fun E hE => ?_
  refine WA ?_
  refine WA ?_
  refine WA ?_
  refine aw_loopw (fun n F H => ∃ k : Nat, n + k = l.length ∧ F = [(1, .f (.func 123) [.p 0 0 0, .p 1 0 0]), (4, .p 2 0 0), (5, .p 3 0 0), (9, .c (prog_r v l)), (10, .c (I (l.map Step.row).length)), (11, .c (I k))] ∧ H = timH l v (timeK l k) ++ [.box (Mach.zero.row.map .c), .box ((lastS (l.take k)).row.map .c)]) ?_ ?_
  · refine wk_of [some 0, some 1, some 2, some 3] (fun _ => [(1, .f (.func 123) [.p 0 0 0, .p 1 0 0]), (4, .p 2 0 0), (5, .p 3 0 0), (9, .c (prog_r v l)), (10, .c (I (l.map Step.row).length)), (11, .c (I (0 : Nat)))]) (fun _ => [.box [.c (prog_r v l)], .box [.c (I (timeK l 0))], .box (Mach.zero.row.map .c), .box ((lastS (l.take 0)).row.map .c)]) (by decide) (ZNL hE) ZCF ZCH (fun _ => ?_)
    exact ⟨l.length, 0, by omega, rfl, rfl⟩
  rintro n F H ⟨k, hk, rfl, rfl⟩
  refine WA ?_
  refine aw_if rfl (fun hlt => ?_) (fun hge => ?_)
  · obtain ⟨s, hs⟩ : ∃ s, l[k]? = some s := ⟨_, List.getElem?_eq_getElem (by omega)⟩
    have hrow : (l.map Step.row)[k]? = some s.row := by rw [List.getElem?_map, hs]; rfl
    have hso := hok s (List.mem_of_getElem? hs)
    have hsg := hg s (List.mem_of_getElem? hs)
    have hfs := timeK_succ hs
    rw [lastS_succ hs] at hfs
    have htb := timeK_bnd hl hg k (by omega)
    have hba := lastS_bnd hl hg k (by omega)
    have hbb : (afterS (lastS (l.take k)) s).bnd ((k : Int) + 1) := by have := lastS_bnd hl hg (k + 1) (by omega); rw [lastS_succ hs] at this; exact_mod_cast this
    refine WA ?_
    refine WA ?_
    refine WR ?_
    refine al_ef rfl (ef_call0 false (fun _ => after_a (lastS (l.take k)) s hso) rfl .fn rfl (by decide) (by kernel_rfl) rfl (fun _ => C0 rfl) (by simp)) ?_
    rintro _ _ ⟨_, _, _, ⟨rfl, rfl⟩, hF, hH⟩
    (try simp only [nsl, Nat.reduceAdd, Nat.reduceLT, Nat.reduceSub] at hF); (try simp only [nsl, Nat.reduceAdd, Nat.reduceLT, Nat.reduceSub] at hH); subst hF; subst hH
    refine WE ?_
    refine WR ?_
    refine al_ef rfl (ef_call [0, 1] (fun _ => timH l v (timeK l k)) false (fun _ => time1_a l v k s hs hsg (lastS (l.take k)) (afterS (lastS (l.take k)) s) (moved_after _ _) (by omega) hba hbb (timeK l k) (by omega)) rfl (.clo rfl) rfl (by decide) (by kernel_rfl) rfl ZCH (by decide) ZCH (by simp)) ?_
    rintro F1 H1 ⟨_, _, _, _, ⟨rfl, hq⟩, hF, hH⟩
    subst hq
    (try simp only [List.set_cons_zero, List.set_cons_succ, updH, posOf, lentArr, killF, killO, killV, AV.has, AV.hasL, AV.emb, AV.embL, OB.emb, embB, List.filter_cons, List.filter_nil, List.getElem?_cons_zero, List.getElem?_cons_succ, List.getD_cons_zero, List.getD_cons_succ, List.drop_succ_cons, List.drop_zero, List.drop_nil, List.contains_cons, List.contains_nil, Nat.reduceBEq, Nat.reduceEqDiff, beq_self_eq_true, Bool.or_false, Bool.false_or, Bool.or_true, Bool.true_or, Bool.false_eq_true, Option.map_some, Option.map_none, List.map_cons, List.map_nil, List.cons_append, List.nil_append, List.append_nil, List.length_cons, List.length_nil, Nat.reduceAdd, Nat.reduceLT, Nat.reduceSub, if_true, if_false, Nat.zero_add, Nat.add_zero, Nat.sub_zero, Nat.lt_irrefl, Nat.not_lt_zero, Nat.zero_lt_one, Nat.lt_add_one] at hF); (try simp only [List.set_cons_zero, List.set_cons_succ, updH, posOf, lentArr, killF, killO, killV, AV.has, AV.hasL, AV.emb, AV.embL, OB.emb, embB, List.filter_cons, List.filter_nil, List.getElem?_cons_zero, List.getElem?_cons_succ, List.getD_cons_zero, List.getD_cons_succ, List.drop_succ_cons, List.drop_zero, List.drop_nil, List.contains_cons, List.contains_nil, Nat.reduceBEq, Nat.reduceEqDiff, beq_self_eq_true, Bool.or_false, Bool.false_or, Bool.or_true, Bool.true_or, Bool.false_eq_true, Option.map_some, Option.map_none, List.map_cons, List.map_nil, List.cons_append, List.nil_append, List.append_nil, List.length_cons, List.length_nil, Nat.reduceAdd, Nat.reduceLT, Nat.reduceSub, if_true, if_false, Nat.zero_add, Nat.add_zero, Nat.sub_zero, Nat.lt_irrefl, Nat.not_lt_zero, Nat.zero_lt_one, Nat.lt_add_one] at hH); subst hF; subst hH
    refine WE ?_
    rw [← hfs]
    refine WA ?_
    refine wk_of [some 0, some 1, some 2, some 3] (fun _ => [(1, .f (.func 123) [.p 0 0 0, .p 1 0 0]), (4, .p 2 0 0), (5, .p 3 0 0), (9, .c (prog_r v l)), (10, .c (I (l.map Step.row).length)), (11, .c (I (k + 1 : Nat)))]) (fun _ => [.box [.c (prog_r v l)], .box [.c (I (timeK l (k + 1)))], .box (Mach.zero.row.map .c), .box ((afterS (lastS (l.take k)) s).row.map .c)]) (by decide) (ZNL hE) ZCF ZCH (fun _ => ?_)
    exact ⟨n - 1, by omega, k + 1, by omega, rfl, by rw [lastS_succ hs]; rfl⟩
  refine WA ?_
  obtain rfl : k = l.length := by omega
  refine aret_a [some 0, some 1] (timH l v (timeK l l.length)) rfl (KK (t := 42) rfl) rfl (Cells.box rfl) (by simp) (by (try simp only [nm, putL, Nat.reduceAdd, cellsOf, cvOf]) <;> rfl) (by decide) (ZNL (n := 2) rfl) (fun _ => C0 rfl) ZCH ⟨?_, rfl⟩
  rw [List.take_of_length_le (by omega)]; rfl
def timeF (l : List Step) : Int := if progF l = 0 then timeK l l.length else 0
theorem time_a (l : List Step) (v : Value) (hl : l.length ≤ 1000000) (hok : ∀ s ∈ l, s.ok) : ACalls Try.prog 52 [.c (prog_r v l)] [] fun u H => u = .t [.c (I (timeF l)), .c (I (progF l))] ∧ H = [] := by
  refine acalls_of (N := 15) Try.func52 rfl rfl (by simp) fun E hE => ?_
  refine WA ?_
  refine WR ?_
  refine al_ef rfl (ef_call0 false (fun _ => check_a l v (by omega)) rfl .fn rfl (by decide) (by kernel_rfl) rfl (fun _ => C0 rfl) (by simp)) ?_
  rintro _ _ ⟨_, _, _, ⟨rfl, rfl⟩, hF, hH⟩
  (try simp only [nsl, Nat.reduceAdd, Nat.reduceLT, Nat.reduceSub] at hF); (try simp only [nsl, Nat.reduceAdd, Nat.reduceLT, Nat.reduceSub] at hH); subst hF; subst hH
  refine WE ?_
  refine WA ?_
  refine aw_if rfl (fun hne => ?_) (fun heq => ?_)
  · refine WA ?_
    exact aret_2 [] _ rfl rfl rfl rfl rfl (by decide) (ZNK rfl) (fun _ => .nil) ⟨by rw [timeF, if_neg hne], rfl⟩
  · have h0 : progF l = 0 := by omega
    have hz := progF_zero h0
    refine ZZ ?_
    refine WA ?_
    refine WR ?_
    refine al_ef rfl (ef_call [0, 1] (fun _ => timH l v 0) false (fun _ => runTim_a l v hz.1 hz.2 hok) rfl .fn rfl (by decide) (by kernel_rfl) rfl ZCH (by decide) ZCH (by simp)) ?_
    rintro F1 H1 ⟨_, _, _, _, ⟨rfl, hq⟩, hF, hH⟩
    subst hq
    (try simp only [List.set_cons_zero, List.set_cons_succ, updH, posOf, lentArr, killF, killO, killV, AV.has, AV.hasL, AV.emb, AV.embL, OB.emb, embB, List.filter_cons, List.filter_nil, List.getElem?_cons_zero, List.getElem?_cons_succ, List.getD_cons_zero, List.getD_cons_succ, List.drop_succ_cons, List.drop_zero, List.drop_nil, List.contains_cons, List.contains_nil, Nat.reduceBEq, Nat.reduceEqDiff, beq_self_eq_true, Bool.or_false, Bool.false_or, Bool.or_true, Bool.true_or, Bool.false_eq_true, Option.map_some, Option.map_none, List.map_cons, List.map_nil, List.cons_append, List.nil_append, List.append_nil, List.length_cons, List.length_nil, Nat.reduceAdd, Nat.reduceLT, Nat.reduceSub, if_true, if_false, Nat.zero_add, Nat.add_zero, Nat.sub_zero, Nat.lt_irrefl, Nat.not_lt_zero, Nat.zero_lt_one, Nat.lt_add_one] at hF); (try simp only [List.set_cons_zero, List.set_cons_succ, updH, posOf, lentArr, killF, killO, killV, AV.has, AV.hasL, AV.emb, AV.embL, OB.emb, embB, List.filter_cons, List.filter_nil, List.getElem?_cons_zero, List.getElem?_cons_succ, List.getD_cons_zero, List.getD_cons_succ, List.drop_succ_cons, List.drop_zero, List.drop_nil, List.contains_cons, List.contains_nil, Nat.reduceBEq, Nat.reduceEqDiff, beq_self_eq_true, Bool.or_false, Bool.false_or, Bool.or_true, Bool.true_or, Bool.false_eq_true, Option.map_some, Option.map_none, List.map_cons, List.map_nil, List.cons_append, List.nil_append, List.append_nil, List.length_cons, List.length_nil, Nat.reduceAdd, Nat.reduceLT, Nat.reduceSub, if_true, if_false, Nat.zero_add, Nat.add_zero, Nat.sub_zero, Nat.lt_irrefl, Nat.not_lt_zero, Nat.zero_lt_one, Nat.lt_add_one] at hH); subst hF; subst hH
    refine WE ?_
    refine WA ?_
    exact aret_2 [] _ rfl rfl rfl rfl rfl (by decide) (ZNK rfl) (fun _ => .nil) ⟨by rw [timeF, if_pos h0, h0], rfl⟩
end Go.Proofs.Ytpbedckdnoogpaa

/- How long a program takes, as the reference counts it, by value. -/
namespace Go.Proofs.Ytpbedckdnoogpaa
open Go Go.RowKit
set_option maxRecDepth 100000
-- NEWM
theorem qabs_i (n : Int) (h : -9223372036854775807 ≤ n ∧ n ≤ 9223372036854775807) : ACalls Try.prog 112 [.c (I n)] [] fun u H => u = .c (I (absI n)) ∧ H = [] := by
  refine acalls_of (N := 7) Try.func112 rfl rfl (by simp) fun E hE => ?_
  refine WA ?_
  refine WA ?_
  exact aret_1 [] _ rfl rfl rfl (by decide) (ZNK rfl) (fun _ => .nil) ⟨rfl, rfl⟩
theorem ceil_floor {x b : Int} (hb : 0 < b) : (-x) / b = -((x + b - 1) / b) := by
  have h1 := Int.mul_ediv_add_emod (x + b - 1) b
  have h2 := Int.emod_nonneg (x + b - 1) (show b ≠ 0 by omega)
  have h3 := Int.emod_lt_of_pos (x + b - 1) hb
  refine ((Int.ediv_emod_unique (a := -x) (r := b - 1 - (x + b - 1) % b) hb).2 ⟨?_, by omega, by omega⟩).1
  rw [Int.mul_neg]; omega
section
variable {P : Program} {N : Nat} {E : Env} {F : Fm} {H : List OB} {o : Oper} {t yt : TypeId} {x y : Operand} {m n z : Int}
theorem rd_mulz (ho : o.op = .binOp .mul t x y yt) (hx : ev F x = some (.c (.s (.int .i64 m)))) (hy : ev F y = some (.c (.s (.int .i64 n)))) (hz : m * n = z) (h : -9223372036854775808 ≤ z ∧ z ≤ 9223372036854775807) : Rd P N E o F H (.c (.s (.int .i64 z))) := by
  subst hz; exact rd_muln ho hx hy h
end
set_option maxHeartbeats 8000000 in
theorem qtime_a (l : List Step) (v : Value) (hl : l.length ≤ 5000) (hg : ∀ s ∈ l, s.good) (hok : ∀ s ∈ l, s.ok) : ACalls Try.prog 56 [.c (prog_r v l)] [] fun u H => u = .c (I (timeK l l.length)) ∧ H = [] := by
  have e1 : (l.map Step.row).length = l.length := by simp
  have hrl : ∀ row ∈ l.map Step.row, row.length = 6 := by intro row hr; obtain ⟨s, -, rfl⟩ := List.mem_map.1 hr; rfl
  refine acalls_of (N := 67) Try.func56 rfl rfl (by simp) fun E hE => ?_
  refine WA ?_
  refine WA ?_
  refine WA ?_
  refine aw_loopw (fun n F H => ∃ k : Nat, n + k = l.length ∧ F = [(0, .c (prog_r v l)), (3, .c (I (timeK l k))), (9, .c (prog_r v l)), (10, .c (I (l.map Step.row).length)), (11, .c (I k))] ∧ H = []) ?_ ?_
  · refine wk_of [] (fun _ => [(0, .c (prog_r v l)), (3, .c (I (timeK l 0))), (9, .c (prog_r v l)), (10, .c (I (l.map Step.row).length)), (11, .c (I (0 : Nat)))]) (fun _ => []) (by decide) (ZNL hE) ZCF (fun _ => .nil) (fun _ => ?_)
    exact ⟨l.length, 0, by omega, rfl, rfl⟩
  rintro n F H ⟨k, hk, rfl, rfl⟩
  refine WA ?_
  refine aw_if rfl (fun hlt => ?_) (fun hge => ?_)
  · obtain ⟨s, hs⟩ : ∃ s, l[k]? = some s := ⟨_, List.getElem?_eq_getElem (by omega)⟩
    have hrow : (l.map Step.row)[k]? = some s.row := by rw [List.getElem?_map, hs]; rfl
    have hso := hok s (List.mem_of_getElem? hs)
    have hsg := hg s (List.mem_of_getElem? hs)
    have hfs := timeK_succ hs
    have htb := timeK_bnd hl hg k (by omega)
    refine WA ?_
    refine aw_cutq (fun F H => F = [(0, .c (prog_r v l)), (3, .c (I (timeK l k))), (5, .p 0 0 0), (6, .p 1 0 0), (7, .p 2 0 0), (9, .c (prog_r v l)), (10, .c (I (l.map Step.row).length)), (11, .c (I k))] ∧ H = [.box (s.row.map .c), .box ((lastS (l.take k)).row.map .c), .box ((lastS (l.take (k + 1))).row.map .c)]) ?_ ?_ wk_aw
    · refine ZZ ?_
      refine aw_regionM [[(0, none), (1, none), (2, none), (4, none), (5, none), (6, none), (7, none), (3, some [4, 5, 6, 7]), (8, some []), (9, some [0, 1, 2, 4, 5, 6, 7]), (10, some [0, 1, 2, 4, 5, 6, 7]), (11, some []), (12, some [])], [(0, none), (1, none), (2, none), (4, none), (5, none), (6, none), (7, none), (3, some [4, 5, 6, 7]), (8, some []), (10, some [0, 1, 2, 4, 5, 6, 7]), (9, some [0, 1, 2, 4, 5, 6, 7]), (11, some []), (12, some [])], [(0, none), (1, none), (2, none), (4, none), (5, none), (6, none), (7, none), (3, some [4, 5, 6, 7]), (9, some [0, 1, 2, 4, 5, 6, 7]), (8, some []), (10, some [0, 1, 2, 4, 5, 6, 7]), (11, some []), (12, some [])], [(0, none), (1, none), (2, none), (4, none), (5, none), (6, none), (7, none), (3, some [4, 5, 6, 7]), (9, some [0, 1, 2, 4, 5, 6, 7]), (10, some [0, 1, 2, 4, 5, 6, 7]), (8, some []), (11, some []), (12, some [])], [(0, none), (1, none), (2, none), (4, none), (5, none), (6, none), (7, none), (3, some [4, 5, 6, 7]), (10, some [0, 1, 2, 4, 5, 6, 7]), (8, some []), (9, some [0, 1, 2, 4, 5, 6, 7]), (11, some []), (12, some [])], [(0, none), (1, none), (2, none), (4, none), (5, none), (6, none), (7, none), (3, some [4, 5, 6, 7]), (10, some [0, 1, 2, 4, 5, 6, 7]), (9, some [0, 1, 2, 4, 5, 6, 7]), (8, some []), (11, some []), (12, some [])], [(0, none), (1, none), (2, none), (4, none), (5, none), (6, none), (7, none), (9, some [0, 1, 2, 4, 5, 6, 7]), (3, some [4, 5, 6, 7]), (8, some []), (10, some [0, 1, 2, 4, 5, 6, 7]), (11, some []), (12, some [])], [(0, none), (1, none), (2, none), (4, none), (5, none), (6, none), (7, none), (9, some [0, 1, 2, 4, 5, 6, 7]), (3, some [4, 5, 6, 7]), (10, some [0, 1, 2, 4, 5, 6, 7]), (8, some []), (11, some []), (12, some [])], [(0, none), (1, none), (2, none), (4, none), (5, none), (6, none), (7, none), (9, some [0, 1, 2, 4, 5, 6, 7]), (10, some [0, 1, 2, 4, 5, 6, 7]), (3, some [4, 5, 6, 7]), (8, some []), (11, some []), (12, some [])], [(0, none), (1, none), (2, none), (4, none), (5, none), (6, none), (7, none), (10, some [0, 1, 2, 4, 5, 6, 7]), (3, some [4, 5, 6, 7]), (8, some []), (9, some [0, 1, 2, 4, 5, 6, 7]), (11, some []), (12, some [])], [(0, none), (1, none), (2, none), (4, none), (5, none), (6, none), (7, none), (10, some [0, 1, 2, 4, 5, 6, 7]), (3, some [4, 5, 6, 7]), (9, some [0, 1, 2, 4, 5, 6, 7]), (8, some []), (11, some []), (12, some [])], [(0, none), (1, none), (2, none), (4, none), (5, none), (6, none), (7, none), (10, some [0, 1, 2, 4, 5, 6, 7]), (9, some [0, 1, 2, 4, 5, 6, 7]), (3, some [4, 5, 6, 7]), (8, some []), (11, some []), (12, some [])]] hMixed (by kernel_rfl) ?_
      focus
        iterate 5 refine WX3 ?_
        refine ZM (i := 6) (by rfl) (by rfl) rfl (rd_addz (z := ((k + 1 : Nat) : Int)) rfl rfl rfl (by omega) (by omega)) ?_
        refine WM ?_
        refine am_three (by rfl) (by rfl) (by rfl) (by rfl) ?_ ?_ ?_
        rotate_left 2
        refine WM ?_
        refine am_two (by rfl) (by rfl) (by rfl) ?_ ?_
        rotate_left
        refine WM ?_
        refine am_ef (i := 3) (by rfl) (by rfl) rfl rfl (ef_call0 false (fun _ => qlast_a (l.take k) (subV v 0 k 6) (by simp; omega) (fun s hs => hok s (List.mem_of_mem_take hs))) rfl .fn rfl (by decide) (by kernel_rfl) rfl (fun _g => .cons (.c (by simp)) .nil) (by simp)) ?_
        rintro _ _ ⟨_, _, _, ⟨rfl, rfl⟩, hF, hH⟩
        (try simp only [nsl, Nat.reduceAdd, Nat.reduceLT, Nat.reduceSub] at hF); (try simp only [nsl, Nat.reduceAdd, Nat.reduceLT, Nat.reduceSub] at hH); subst hF; subst hH
        refine ⟨AGX, ?_⟩
        refine am_ef (i := 8) (by rfl) (by rfl) rfl rfl (ef_call0 false (fun _ => qlast_a (l.take (k + 1)) (subV v 0 (k + 1) 6) (by simp; omega) (fun s hs => hok s (List.mem_of_mem_take hs))) rfl .fn rfl (by decide) (by kernel_rfl) rfl (fun _g => .cons (.c (by simp)) .nil) (by simp)) ?_
        rintro _ _ ⟨_, _, _, ⟨rfl, rfl⟩, hF, hH⟩
        (try simp only [nsl, Nat.reduceAdd, Nat.reduceLT, Nat.reduceSub] at hF); (try simp only [nsl, Nat.reduceAdd, Nat.reduceLT, Nat.reduceSub] at hH); subst hF; subst hH
        refine ⟨AGX, ?_⟩
        refine WN ?_
        rotate_right
        refine am_ef (i := 3) (by rfl) (by rfl) rfl rfl (ef_call0 false (fun _ => qlast_a (l.take k) (subV v 0 k 6) (by simp; omega) (fun s hs => hok s (List.mem_of_mem_take hs))) rfl .fn rfl (by decide) (by kernel_rfl) rfl (fun _g => .cons (.c (by simp)) .nil) (by simp)) ?_
        rintro _ _ ⟨_, _, _, ⟨rfl, rfl⟩, hF, hH⟩
        (try simp only [nsl, Nat.reduceAdd, Nat.reduceLT, Nat.reduceSub] at hF); (try simp only [nsl, Nat.reduceAdd, Nat.reduceLT, Nat.reduceSub] at hH); subst hF; subst hH
        refine ⟨AGX, ?_⟩
        refine am_two (by rfl) (by rfl) (by rfl) ?_ ?_
        rotate_left
        refine WM ?_
        refine am_ef (i := 8) (by rfl) (by rfl) rfl rfl (ef_call0 false (fun _ => qlast_a (l.take (k + 1)) (subV v 0 (k + 1) 6) (by simp; omega) (fun s hs => hok s (List.mem_of_mem_take hs))) rfl .fn rfl (by decide) (by kernel_rfl) rfl (fun _g => .cons (.c (by simp)) .nil) (by simp)) ?_
        rintro _ _ ⟨_, _, _, ⟨rfl, rfl⟩, hF, hH⟩
        (try simp only [nsl, Nat.reduceAdd, Nat.reduceLT, Nat.reduceSub] at hF); (try simp only [nsl, Nat.reduceAdd, Nat.reduceLT, Nat.reduceSub] at hH); subst hF; subst hH
        refine ⟨AGX, ?_⟩
        refine WN ?_
        rotate_right
        refine am_ef (i := 8) (by rfl) (by rfl) rfl rfl (ef_call0 false (fun _ => qlast_a (l.take (k + 1)) (subV v 0 (k + 1) 6) (by simp; omega) (fun s hs => hok s (List.mem_of_mem_take hs))) rfl .fn rfl (by decide) (by kernel_rfl) rfl (fun _g => .cons (.c (by simp)) .nil) (by simp)) ?_
        rintro _ _ ⟨_, _, _, ⟨rfl, rfl⟩, hF, hH⟩
        (try simp only [nsl, Nat.reduceAdd, Nat.reduceLT, Nat.reduceSub] at hF); (try simp only [nsl, Nat.reduceAdd, Nat.reduceLT, Nat.reduceSub] at hH); subst hF; subst hH
        refine ⟨AGX, ?_⟩
        refine WN ?_
        rotate_right
        refine WM ?_
        refine am_two (by rfl) (by rfl) (by rfl) ?_ ?_
        rotate_left
        refine WM ?_
        refine am_ef (i := 3) (by rfl) (by rfl) rfl rfl (ef_call0 false (fun _ => qlast_a (l.take k) (subV v 0 k 6) (by simp; omega) (fun s hs => hok s (List.mem_of_mem_take hs))) rfl .fn rfl (by decide) (by kernel_rfl) rfl (fun _g => .cons (.c (by simp)) .nil) (by simp)) ?_
        rintro _ _ ⟨_, _, _, ⟨rfl, rfl⟩, hF, hH⟩
        (try simp only [nsl, Nat.reduceAdd, Nat.reduceLT, Nat.reduceSub] at hF); (try simp only [nsl, Nat.reduceAdd, Nat.reduceLT, Nat.reduceSub] at hH); subst hF; subst hH
        refine ⟨AGX, ?_⟩
        refine am_ef (i := 8) (by rfl) (by rfl) rfl rfl (ef_call0 false (fun _ => qlast_a (l.take (k + 1)) (subV v 0 (k + 1) 6) (by simp; omega) (fun s hs => hok s (List.mem_of_mem_take hs))) rfl .fn rfl (by decide) (by kernel_rfl) rfl (fun _g => .cons (.c (by simp)) .nil) (by simp)) ?_
        rintro _ _ ⟨_, _, _, ⟨rfl, rfl⟩, hF, hH⟩
        (try simp only [nsl, Nat.reduceAdd, Nat.reduceLT, Nat.reduceSub] at hF); (try simp only [nsl, Nat.reduceAdd, Nat.reduceLT, Nat.reduceSub] at hH); subst hF; subst hH
        refine ⟨AGX, ?_⟩
        refine WN ?_
        rotate_right
        refine am_ef (i := 3) (by rfl) (by rfl) rfl rfl (ef_call0 false (fun _ => qlast_a (l.take k) (subV v 0 k 6) (by simp; omega) (fun s hs => hok s (List.mem_of_mem_take hs))) rfl .fn rfl (by decide) (by kernel_rfl) rfl (fun _g => .cons (.c (by simp)) .nil) (by simp)) ?_
        rintro _ _ ⟨_, _, _, ⟨rfl, rfl⟩, hF, hH⟩
        (try simp only [nsl, Nat.reduceAdd, Nat.reduceLT, Nat.reduceSub] at hF); (try simp only [nsl, Nat.reduceAdd, Nat.reduceLT, Nat.reduceSub] at hH); subst hF; subst hH
        refine ⟨AGX, ?_⟩
        refine am_two (by rfl) (by rfl) (by rfl) ?_ ?_
        rotate_left
        refine WM ?_
        refine am_ef (i := 8) (by rfl) (by rfl) rfl rfl (ef_call0 false (fun _ => qlast_a (l.take (k + 1)) (subV v 0 (k + 1) 6) (by simp; omega) (fun s hs => hok s (List.mem_of_mem_take hs))) rfl .fn rfl (by decide) (by kernel_rfl) rfl (fun _g => .cons (.c (by simp)) .nil) (by simp)) ?_
        rintro _ _ ⟨_, _, _, ⟨rfl, rfl⟩, hF, hH⟩
        (try simp only [nsl, Nat.reduceAdd, Nat.reduceLT, Nat.reduceSub] at hF); (try simp only [nsl, Nat.reduceAdd, Nat.reduceLT, Nat.reduceSub] at hH); subst hF; subst hH
        refine ⟨AGX, ?_⟩
        refine WN ?_
        rotate_right
        refine am_ef (i := 8) (by rfl) (by rfl) rfl rfl (ef_call0 false (fun _ => qlast_a (l.take (k + 1)) (subV v 0 (k + 1) 6) (by simp; omega) (fun s hs => hok s (List.mem_of_mem_take hs))) rfl .fn rfl (by decide) (by kernel_rfl) rfl (fun _g => .cons (.c (by simp)) .nil) (by simp)) ?_
        rintro _ _ ⟨_, _, _, ⟨rfl, rfl⟩, hF, hH⟩
        (try simp only [nsl, Nat.reduceAdd, Nat.reduceLT, Nat.reduceSub] at hF); (try simp only [nsl, Nat.reduceAdd, Nat.reduceLT, Nat.reduceSub] at hH); subst hF; subst hH
        refine ⟨AGX, ?_⟩
        refine WN ?_
        rotate_right
        refine am_ef (i := 3) (by rfl) (by rfl) rfl rfl (ef_call0 false (fun _ => qlast_a (l.take k) (subV v 0 k 6) (by simp; omega) (fun s hs => hok s (List.mem_of_mem_take hs))) rfl .fn rfl (by decide) (by kernel_rfl) rfl (fun _g => .cons (.c (by simp)) .nil) (by simp)) ?_
        rintro _ _ ⟨_, _, _, ⟨rfl, rfl⟩, hF, hH⟩
        (try simp only [nsl, Nat.reduceAdd, Nat.reduceLT, Nat.reduceSub] at hF); (try simp only [nsl, Nat.reduceAdd, Nat.reduceLT, Nat.reduceSub] at hH); subst hF; subst hH
        refine ⟨AGX, ?_⟩
        refine am_three (by rfl) (by rfl) (by rfl) (by rfl) ?_ ?_ ?_
        rotate_left 2
        refine WM ?_
        refine am_two (by rfl) (by rfl) (by rfl) ?_ ?_
        rotate_left
        refine WM ?_
        refine am_ef (i := 8) (by rfl) (by rfl) rfl rfl (ef_call0 false (fun _ => qlast_a (l.take (k + 1)) (subV v 0 (k + 1) 6) (by simp; omega) (fun s hs => hok s (List.mem_of_mem_take hs))) rfl .fn rfl (by decide) (by kernel_rfl) rfl (fun _g => .cons (.c (by simp)) .nil) (by simp)) ?_
        rintro _ _ ⟨_, _, _, ⟨rfl, rfl⟩, hF, hH⟩
        (try simp only [nsl, Nat.reduceAdd, Nat.reduceLT, Nat.reduceSub] at hF); (try simp only [nsl, Nat.reduceAdd, Nat.reduceLT, Nat.reduceSub] at hH); subst hF; subst hH
        refine ⟨AGX, ?_⟩
        refine WN ?_
        rotate_right
        refine am_ef (i := 8) (by rfl) (by rfl) rfl rfl (ef_call0 false (fun _ => qlast_a (l.take (k + 1)) (subV v 0 (k + 1) 6) (by simp; omega) (fun s hs => hok s (List.mem_of_mem_take hs))) rfl .fn rfl (by decide) (by kernel_rfl) rfl (fun _g => .cons (.c (by simp)) .nil) (by simp)) ?_
        rintro _ _ ⟨_, _, _, ⟨rfl, rfl⟩, hF, hH⟩
        (try simp only [nsl, Nat.reduceAdd, Nat.reduceLT, Nat.reduceSub] at hF); (try simp only [nsl, Nat.reduceAdd, Nat.reduceLT, Nat.reduceSub] at hH); subst hF; subst hH
        refine ⟨AGX, ?_⟩
        refine WN ?_
        rotate_right
        refine WM ?_
        refine am_two (by rfl) (by rfl) (by rfl) ?_ ?_
        rotate_left
        refine WM ?_
        refine am_ef (i := 8) (by rfl) (by rfl) rfl rfl (ef_call0 false (fun _ => qlast_a (l.take (k + 1)) (subV v 0 (k + 1) 6) (by simp; omega) (fun s hs => hok s (List.mem_of_mem_take hs))) rfl .fn rfl (by decide) (by kernel_rfl) rfl (fun _g => .cons (.c (by simp)) .nil) (by simp)) ?_
        rintro _ _ ⟨_, _, _, ⟨rfl, rfl⟩, hF, hH⟩
        (try simp only [nsl, Nat.reduceAdd, Nat.reduceLT, Nat.reduceSub] at hF); (try simp only [nsl, Nat.reduceAdd, Nat.reduceLT, Nat.reduceSub] at hH); subst hF; subst hH
        refine ⟨AGX, ?_⟩
        refine WN ?_
        rotate_right
        refine am_ef (i := 8) (by rfl) (by rfl) rfl rfl (ef_call0 false (fun _ => qlast_a (l.take (k + 1)) (subV v 0 (k + 1) 6) (by simp; omega) (fun s hs => hok s (List.mem_of_mem_take hs))) rfl .fn rfl (by decide) (by kernel_rfl) rfl (fun _g => .cons (.c (by simp)) .nil) (by simp)) ?_
        rintro _ _ ⟨_, _, _, ⟨rfl, rfl⟩, hF, hH⟩
        (try simp only [nsl, Nat.reduceAdd, Nat.reduceLT, Nat.reduceSub] at hF); (try simp only [nsl, Nat.reduceAdd, Nat.reduceLT, Nat.reduceSub] at hH); subst hF; subst hH
        refine ⟨AGX, ?_⟩
        refine WN ?_
        rotate_right
        refine am_ef (i := 8) (by rfl) (by rfl) rfl rfl (ef_call0 false (fun _ => qlast_a (l.take (k + 1)) (subV v 0 (k + 1) 6) (by simp; omega) (fun s hs => hok s (List.mem_of_mem_take hs))) rfl .fn rfl (by decide) (by kernel_rfl) rfl (fun _g => .cons (.c (by simp)) .nil) (by simp)) ?_
        rintro _ _ ⟨_, _, _, ⟨rfl, rfl⟩, hF, hH⟩
        (try simp only [nsl, Nat.reduceAdd, Nat.reduceLT, Nat.reduceSub] at hF); (try simp only [nsl, Nat.reduceAdd, Nat.reduceLT, Nat.reduceSub] at hH); subst hF; subst hH
        refine ⟨AGX, ?_⟩
        refine am_two (by rfl) (by rfl) (by rfl) ?_ ?_
        rotate_left
        refine WN ?_
        rotate_right
        refine WN ?_
      all_goals first
        | exact wk_of [some 0, some 1, some 2] (fun _ => [(0, .c (prog_r v l)), (3, .c (I (timeK l k))), (5, .p 0 0 0), (6, .p 1 0 0), (7, .p 2 0 0), (9, .c (prog_r v l)), (10, .c (I (l.map Step.row).length)), (11, .c (I k))]) (fun _ => [.box (s.row.map .c), .box ((lastS (l.take k)).row.map .c), .box ((lastS (l.take (k + 1))).row.map .c)]) (by decide) (ZNL hE) ZCF ZCH (fun _ => ⟨rfl, rfl⟩)
        | exact wk_of [some 0, some 2, some 1] (fun _ => [(0, .c (prog_r v l)), (3, .c (I (timeK l k))), (5, .p 0 0 0), (6, .p 1 0 0), (7, .p 2 0 0), (9, .c (prog_r v l)), (10, .c (I (l.map Step.row).length)), (11, .c (I k))]) (fun _ => [.box (s.row.map .c), .box ((lastS (l.take k)).row.map .c), .box ((lastS (l.take (k + 1))).row.map .c)]) (by decide) (ZNL hE) ZCF ZCH (fun _ => ⟨rfl, rfl⟩)
    rintro F H ⟨rfl, rfl⟩
    have ha := lastS_bnd hl hg k (by omega)
    have hb : (lastS (l.take (k + 1))).bnd ((k : Int) + 1) := by exact_mod_cast lastS_bnd hl hg (k + 1) (by omega)
    generalize lastS (l.take k) = a at *
    generalize lastS (l.take (k + 1)) = b at *
    have hfb := farS_bnd (k := k) (by omega) ha hb
    obtain ⟨⟨a1, a1'⟩, ⟨a2, a2'⟩, ⟨a3, a3'⟩, ⟨a4, a4'⟩, a5⟩ := ha
    obtain ⟨⟨b1, b1'⟩, ⟨b2, b2'⟩, ⟨b3, b3'⟩, ⟨b4, b4'⟩, b5⟩ := hb
    obtain ⟨s1, s2, s3, s4, s5, s6, s7⟩ := hsg
    generalize timeK l k = tk at *
    refine aw_seq ?_
    refine aw_cut (fun F H => ∃ n' : Int, n' = tk + (if s.k = 7 then s.n else 0) ∧ F = [(0, .c (prog_r v l)), (3, .c (I n')), (6, .p 0 0 0), (7, .p 1 0 0), (9, .c (prog_r v l)), (10, .c (I (l.map Step.row).length)), (11, .c (I k))] ∧ H = [.box (a.row.map .c), .box (b.row.map .c)]) ?_ ?_ wk_aw
    · refine WA ?_
      refine aw_if rfl (fun h7 => ?_) (fun h7 => ?_)
      · refine WA ?_
        refine wk_of [some 1, some 2] (fun _ => [(0, .c (prog_r v l)), (3, .c (I _)), (6, .p 0 0 0), (7, .p 1 0 0), (9, .c (prog_r v l)), (10, .c (I (l.map Step.row).length)), (11, .c (I k))]) (fun _ => [.box (a.row.map .c), .box (b.row.map .c)]) (by decide) (ZNL hE) ZCF ZCH (fun _ => ⟨_, ?_, rfl, rfl⟩)
        rw [if_pos h7]
      · refine ZZ ?_
        refine wk_of [some 1, some 2] (fun _ => [(0, .c (prog_r v l)), (3, .c (I _)), (6, .p 0 0 0), (7, .p 1 0 0), (9, .c (prog_r v l)), (10, .c (I (l.map Step.row).length)), (11, .c (I k))]) (fun _ => [.box (a.row.map .c), .box (b.row.map .c)]) (by decide) (ZNL hE) ZCF ZCH (fun _ => ⟨_, ?_, rfl, rfl⟩)
        rw [if_neg h7, Int.add_zero]
    rintro F H ⟨n', hn', rfl, rfl⟩
    have hnb : 0 ≤ n' ∧ n' ≤ 200000000000000000 := by rw [hn']; split <;> omega
    refine ZZ ?_
    refine aw_cut (fun F H => F = [(0, .c (prog_r v l)), (3, .c (I n')), (7, .p 0 0 0), (8, .c (I (farS a b))), (9, .c (prog_r v l)), (10, .c (I (l.map Step.row).length)), (11, .c (I k))] ∧ H = [.box (b.row.map .c)]) ?_ ?_ wk_aw
    · refine ZZ ?_
      refine aw_regionT [(0, none), (1, none), (2, none), (3, none), (4, none), (6, none), (7, none), (8, none), (9, none), (10, none), (12, none), (13, none), (14, none), (15, none), (16, none), (5, some [6, 7, 8, 9, 10, 12, 13, 14, 15, 16]), (11, some [12, 13, 14, 15, 16]), (17, some []), (18, none), (19, none)] hMixed (by kernel_rfl) ?_
      refine WP ?_
      refine at_ef rfl rfl (ef_call0 false (fun _ => qabs_i (a.x - b.x) (by omega)) rfl .fn rfl (by decide) (by kernel_rfl) rfl (fun _ => C0 rfl) (by simp)) ?_
      rintro _ _ ⟨_, _, _, ⟨rfl, rfl⟩, hF, hH⟩
      (try simp only [nsl, Nat.reduceAdd, Nat.reduceLT, Nat.reduceSub] at hF); (try simp only [nsl, Nat.reduceAdd, Nat.reduceLT, Nat.reduceSub] at hH); subst hF; subst hH
      refine ⟨ag_cons (by first | exact ag_rd rfl rfl rfl (ZX (KF (t := 42) (f := 1) rfl rfl)) rfl) (ag_cons (by first | exact ag_rd rfl rfl rfl (ZL (KK (t := 3) rfl)) rfl) (ag_cons (by first | exact ag_rd rfl rfl rfl (ZX (KF (t := 42) (f := 1) rfl rfl)) rfl) (ag_cons (by first | exact ag_rd rfl rfl rfl (ZL (KK (t := 3) rfl)) rfl) (ag_cons (by first | exact ag_rd rfl rfl rfl (Zsub) rfl) (ag_cons (by first | exact ag_rd rfl rfl rfl (ZX (KF (t := 42) (f := 2) rfl rfl)) rfl) (ag_cons (by first | exact ag_rd rfl rfl rfl (ZL (KK (t := 3) rfl)) rfl) (ag_cons (by first | exact ag_rd rfl rfl rfl (ZX (KF (t := 42) (f := 2) rfl rfl)) rfl) (ag_cons (by first | exact ag_rd rfl rfl rfl (ZL (KK (t := 3) rfl)) rfl) (ag_cons (by first | exact ag_rd rfl rfl rfl (Zsub) rfl) (ag_none)))))))))), ?_⟩
      refine at_ef rfl rfl (ef_call0 false (fun _ => qabs_i (a.y - b.y) (by omega)) rfl .fn rfl (by decide) (by kernel_rfl) rfl (fun _ => C0 rfl) (by simp)) ?_
      rintro _ _ ⟨_, _, _, ⟨rfl, rfl⟩, hF, hH⟩
      (try simp only [nsl, Nat.reduceAdd, Nat.reduceLT, Nat.reduceSub] at hF); (try simp only [nsl, Nat.reduceAdd, Nat.reduceLT, Nat.reduceSub] at hH); subst hF; subst hH
      refine ⟨ag_cons (by first | exact ag_rd rfl rfl rfl (ZX (KF (t := 42) (f := 2) rfl rfl)) rfl) (ag_cons (by first | exact ag_rd rfl rfl rfl (ZL (KK (t := 3) rfl)) rfl) (ag_cons (by first | exact ag_rd rfl rfl rfl (ZX (KF (t := 42) (f := 2) rfl rfl)) rfl) (ag_cons (by first | exact ag_rd rfl rfl rfl (ZL (KK (t := 3) rfl)) rfl) (ag_cons (by first | exact ag_rd rfl rfl rfl (Zsub) rfl) (ag_none))))), ?_⟩
      refine at_ef rfl rfl (ef_call0 false (fun _ => qabs_i (a.z - b.z) (by omega)) rfl .fn rfl (by decide) (by kernel_rfl) rfl (fun _ => C0 rfl) (by simp)) ?_
      rintro _ _ ⟨_, _, _, ⟨rfl, rfl⟩, hF, hH⟩
      (try simp only [nsl, Nat.reduceAdd, Nat.reduceLT, Nat.reduceSub] at hF); (try simp only [nsl, Nat.reduceAdd, Nat.reduceLT, Nat.reduceSub] at hH); subst hF; subst hH
      refine ⟨ag_none, ?_⟩
      refine WQ ?_
      all_goals exact wk_of [some 1] (fun _ => [(0, .c (prog_r v l)), (3, .c (I n')), (7, .p 0 0 0), (8, .c (I (farS a b))), (9, .c (prog_r v l)), (10, .c (I (l.map Step.row).length)), (11, .c (I k))]) (fun _ => [.box (b.row.map .c)]) (by decide) (ZNL hE) ZCF ZCH (fun _ => ⟨rfl, rfl⟩)
    rintro F H ⟨rfl, rfl⟩
    by_cases hf : 0 < farS a b
    · refine WA ?_
      refine aw_if rfl (fun hp => ?_) (fun hp => ?_)
      · have hc := ceil_bnd (x := 1000 * farS a b) (b := b.sp) (by omega) (by omega)
        have hcf := ceil_floor (x := 1000 * farS a b) (b := b.sp) (by omega)
        have hq : timeE s a b = (if s.k = 7 then s.n else 0) + (1000 * farS a b + b.sp - 1) / b.sp := by unfold timeE; rw [if_pos (show 0 < b.sp by omega)]
        refine ZR ?_
        iterate 2 refine WX1 ?_
        refine ZA (rd_mulz (z := -(1000 * farS a b)) rfl rfl rfl (by omega) (by omega)) ?_
        refine WO ?_
        refine al_ef rfl (ef_call0 false (fun _ => floor_a (1000 * farS a b) b.sp (by omega) (by omega) (by omega) (by omega)) rfl .fn rfl (by decide) (by kernel_rfl) rfl (fun _ => C0 rfl) (by simp)) ?_
        rintro _ _ ⟨_, _, _, ⟨rfl, rfl⟩, hF, hH⟩
        (try simp only [nsl, Nat.reduceAdd, Nat.reduceLT, Nat.reduceSub] at hF); (try simp only [nsl, Nat.reduceAdd, Nat.reduceLT, Nat.reduceSub] at hH); subst hF; subst hH
        refine WE ?_
        refine WA ?_
        refine wk_of [] (fun _ => [(0, .c (prog_r v l)), (3, .c (I (n' - -(1000 * farS a b) / b.sp))), (9, .c (prog_r v l)), (10, .c (I (l.map Step.row).length)), (11, .c (I (k + 1 : Nat)))]) (fun _ => []) (by decide) (ZNL hE) ZCF (fun _ => .nil) (fun _ => ?_)
        refine ⟨n - 1, by omega, k + 1, by omega, ?_, rfl⟩
        congr 4
        refine congrArg I ?_; rw [hfs, hq, hcf, hn']; omega
      · have hq : timeE s a b = (if s.k = 7 then s.n else 0) := by unfold timeE; rw [if_neg (show ¬ 0 < b.sp by omega)]; omega
        refine ZZ ?_
        refine WA ?_
        refine wk_of [] (fun _ => [(0, .c (prog_r v l)), (3, .c (I (n'))), (9, .c (prog_r v l)), (10, .c (I (l.map Step.row).length)), (11, .c (I (k + 1 : Nat)))]) (fun _ => []) (by decide) (ZNL hE) ZCF (fun _ => .nil) (fun _ => ?_)
        refine ⟨n - 1, by omega, k + 1, by omega, ?_, rfl⟩
        congr 4
        rw [hfs, hq, hn']
    · have hq : timeE s a b = (if s.k = 7 then s.n else 0) := by
        unfold timeE
        by_cases hp : 0 < b.sp
        · rw [if_pos hp, show farS a b = 0 by omega, show (1000 * 0 + b.sp - 1) / b.sp = 0 from Int.ediv_eq_zero_of_lt (by omega) (by omega), Int.add_zero]
        · rw [if_neg hp, Int.add_zero]
      refine WA ?_
      refine aw_cond_f rfl ?_
      refine ZZ ?_
      refine WA ?_
      refine wk_of [] (fun _ => [(0, .c (prog_r v l)), (3, .c (I (n'))), (9, .c (prog_r v l)), (10, .c (I (l.map Step.row).length)), (11, .c (I (k + 1 : Nat)))]) (fun _ => []) (by decide) (ZNL hE) ZCF (fun _ => .nil) (fun _ => ?_)
      refine ⟨n - 1, by omega, k + 1, by omega, ?_, rfl⟩
      congr 4
      rw [hfs, hq, hn']
  refine WA ?_
  obtain rfl : k = l.length := by omega
  exact aret_1 [] _ rfl rfl rfl (by decide) (ZNK rfl) (fun _ => .nil) ⟨rfl, rfl⟩
end Go.Proofs.Ytpbedckdnoogpaa

/- The program's faults, by value. -/
namespace Go.Proofs.Ytpbedckdnoogpaa
open Go Go.RowKit
set_option maxRecDepth 100000
-- NEWM
def faultsF (l : List Step) (least : Int) : Int := if progF l ≠ 0 then progF l else if least < 0 ∨ 500 < least then 1 else 0
theorem faults_a (l : List Step) (v : Value) (least : Int) (hl : l.length ≤ 1000000) (hok : ∀ s ∈ l, s.ok) : ACalls Try.prog 51 [.c (prog_r v l), .c (I least)] [] fun u H => ∃ v' w', u = .t [.c (.r v' (((if faultsF l least = 0 then faultsK l least l.length else []).map fun z => [I z.1]))), .c (.r w' ((if faultsF l least = 0 then faultsK l least l.length else []).map fun z => [I z.2])), .c (I (faultsF l least))] ∧ H = [] := by
  refine acalls_of (N := 22) Try.func51 rfl rfl (by simp) fun E hE => ?_
  refine WA ?_
  refine WR ?_
  refine al_ef rfl (ef_call0 false (fun _ => check_a l v (by omega)) rfl .fn rfl (by decide) (by kernel_rfl) rfl (fun _ => C0 rfl) (by simp)) ?_
  rintro _ _ ⟨_, _, _, ⟨rfl, rfl⟩, hF, hH⟩
  (try simp only [nsl, Nat.reduceAdd, Nat.reduceLT, Nat.reduceSub] at hF); (try simp only [nsl, Nat.reduceAdd, Nat.reduceLT, Nat.reduceSub] at hH); subst hF; subst hH
  refine WE ?_
  refine WA ?_
  refine aw_if rfl (fun hne => ?_) (fun heq => ?_)
  · have hv : faultsF l least = progF l := by rw [faultsF, if_pos hne]
    refine WA ?_
    exact aret_of (us := [.c (.r (.slice none 0 0) []), .c (.r (.slice none 0 0) []), .c (I (progF l))]) [] (fun _ => .t [.c (.r (.slice none 0 0) []), .c (.r (.slice none 0 0) []), .c (I (progF l))]) (fun _ => []) (.tmp rfl (.tmp rfl (.tmp rfl .nil))) (by decide) (ZNK rfl) (fun _ => .tL (C0 rfl)) (fun _ => .nil) (fun _ => ⟨_, _, by rw [hv, if_neg (by omega)]; rfl, rfl⟩)
  have h0 : progF l = 0 := by omega
  have hne0 : ¬ progF l ≠ 0 := by omega
  refine ZZ ?_
  refine WR ?_
  refine al_ef rfl (ef_call0 false (fun _ => outside_a _ _ _) rfl .fn rfl (by decide) (by kernel_rfl) rfl (fun _g => .cons (.c rfl) (.cons (.c rfl) (.cons (.c rfl) .nil))) (by simp)) ?_
  rintro _ _ ⟨_, _, _, ⟨b, rfl, rfl, hb1, hb2⟩, hF, hH⟩
  (try simp only [nsl, Nat.reduceAdd, Nat.reduceLT, Nat.reduceSub] at hF); (try simp only [nsl, Nat.reduceAdd, Nat.reduceLT, Nat.reduceSub] at hH); subst hF; subst hH
  cases b
  all_goals (simp only [true_implies, false_implies, reduceCtorEq] at hb1 hb2)
  all_goals (refine WE ?_)
  · refine aw_cond_f rfl ?_
    have hv : faultsF l least = 0 := by rw [faultsF, if_neg hne0, if_neg (by omega)]
    refine ZZ ?_
    refine WA ?_
    refine WR ?_
    refine al_nil ?_
    refine aseq_n ?_
    refine aw_wk (wk_of (K := fun F H => F = [(2, .p 0 0 0), (3, .p 1 0 0), (8, .p 2 0 0), (9, .p 3 0 0)] ∧ H = fltH l v least 0 0 []) [some 0, some 1, some 2, some 3, none, none] (fun _ => [(2, .p 0 0 0), (3, .p 1 0 0), (8, .p 2 0 0), (9, .p 3 0 0)]) (fun _ => fltH l v least 0 0 []) (by decide) (ZNL hE) ZCF ZCH (fun _ => ⟨rfl, rfl⟩)) ?_
    rintro F H ⟨rfl, rfl⟩
    refine WR ?_
    refine al_ef rfl (ef_call [0, 1, 2, 3, 4, 5] (fun _ => fltH l v least 0 0 []) false (fun _ => runFlt_a l v least hl hok) rfl .fn rfl (by decide) (by kernel_rfl) rfl ZCH (by decide) ZCH (by simp)) ?_
    rintro F1 H1 ⟨_, _, _, _, ⟨c', d', rfl, hq⟩, hF, hH⟩
    subst hq
    (try simp only [List.set_cons_zero, List.set_cons_succ, updH, posOf, lentArr, killF, killO, killV, AV.has, AV.hasL, AV.emb, AV.embL, OB.emb, embB, List.filter_cons, List.filter_nil, List.getElem?_cons_zero, List.getElem?_cons_succ, List.getD_cons_zero, List.getD_cons_succ, List.drop_succ_cons, List.drop_zero, List.drop_nil, List.contains_cons, List.contains_nil, Nat.reduceBEq, Nat.reduceEqDiff, beq_self_eq_true, Bool.or_false, Bool.false_or, Bool.or_true, Bool.true_or, Bool.false_eq_true, Option.map_some, Option.map_none, List.map_cons, List.map_nil, List.cons_append, List.nil_append, List.append_nil, List.length_cons, List.length_nil, Nat.reduceAdd, Nat.reduceLT, Nat.reduceSub, if_true, if_false, Nat.zero_add, Nat.add_zero, Nat.sub_zero, Nat.lt_irrefl, Nat.not_lt_zero, Nat.zero_lt_one, Nat.lt_add_one] at hF); (try simp only [List.set_cons_zero, List.set_cons_succ, updH, posOf, lentArr, killF, killO, killV, AV.has, AV.hasL, AV.emb, AV.embL, OB.emb, embB, List.filter_cons, List.filter_nil, List.getElem?_cons_zero, List.getElem?_cons_succ, List.getD_cons_zero, List.getD_cons_succ, List.drop_succ_cons, List.drop_zero, List.drop_nil, List.contains_cons, List.contains_nil, Nat.reduceBEq, Nat.reduceEqDiff, beq_self_eq_true, Bool.or_false, Bool.false_or, Bool.or_true, Bool.true_or, Bool.false_eq_true, Option.map_some, Option.map_none, List.map_cons, List.map_nil, List.cons_append, List.nil_append, List.append_nil, List.length_cons, List.length_nil, Nat.reduceAdd, Nat.reduceLT, Nat.reduceSub, if_true, if_false, Nat.zero_add, Nat.add_zero, Nat.sub_zero, Nat.lt_irrefl, Nat.not_lt_zero, Nat.zero_lt_one, Nat.lt_add_one] at hH); subst hF; subst hH
    refine WE ?_
    refine ZZ ?_
    refine aw_regionT [(0, none), (1, none), (2, none), (3, none), (4, none)] hMixed (by kernel_rfl) ?_
    refine WQ ?_
    all_goals exact aret_of (us := [.o 4 0 (faultsK l least l.length).length c', .o 5 0 (faultsK l least l.length).length d', .c (I 0)]) [] (fun g => .t [.c (.r (g (.o 4 0 (faultsK l least l.length).length c')) ((faultsK l least l.length).map fun z => [I z.1])), .c (.r (g (.o 5 0 (faultsK l least l.length).length d')) ((faultsK l least l.length).map fun z => [I z.2])), .c (I 0)]) (fun _ => []) (.tmp rfl (.tmp rfl (.tmp rfl .nil))) (by decide) (ZNK rfl) (fun _ => .tL (.cons (.frz rfl rfl (by rw [List.drop_zero, List.take_of_length_le (by simp)]) (by simp) rfl) (.cons (.frz rfl rfl (by rw [List.drop_zero, List.take_of_length_le (by simp)]) (by simp) rfl) (.cons (.c rfl) .nil)))) (fun _ => .nil) (fun _ => ⟨_, _, by rw [hv]; rfl, rfl⟩)
  · refine aw_cond_t rfl ?_
    have hv : faultsF l least = 1 := by rw [faultsF, if_neg hne0, if_pos (by omega)]
    refine WA ?_
    exact aret_of (us := [.c (.r (.slice none 0 0) []), .c (.r (.slice none 0 0) []), .c (I 1)]) [] (fun _ => .t [.c (.r (.slice none 0 0) []), .c (.r (.slice none 0 0) []), .c (I 1)]) (fun _ => []) (.tmp rfl (.tmp rfl (.tmp rfl .nil))) (by decide) (ZNK rfl) (fun _ => .tL (C0 rfl)) (fun _ => .nil) (fun _ => ⟨_, _, by rw [hv, if_neg (by omega)]; rfl, rfl⟩)
end Go.Proofs.Ytpbedckdnoogpaa

/- The steps of a layer: those ahead, by value. -/
namespace Go.Proofs.Ytpbedckdnoogpaa
open Go Go.RowKit
set_option maxRecDepth 100000
-- NEWM
def aheadL (m : Mach) : List Step := [⟨6, 0, 0, 0, 0, m.sp⟩, ⟨8, 0, 0, 0, 0, m.he⟩, ⟨9, 0, 0, 0, 0, m.tl⟩]
def takes (s : Step) : Bool := decide (s.n ≠ 0)
def aheadS (m : Mach) : List Step := (aheadL m).filter takes ++ [⟨3, m.x, m.y, 0, 0, 0⟩]
theorem filter_next {l : List Step} {k : Nat} {s : Step} (h : l[k]? = some s) : (l.take (k + 1)).filter takes = (l.take k).filter takes ++ (if s.n ≠ 0 then [s] else []) := by
  rw [take_next h, List.filter_append]
  congr 1
  by_cases hn : s.n = 0
  · simp [takes, hn]
  · simp [takes, hn]
theorem filter_len (m : Mach) (k : Nat) : (((aheadL m).take k).filter takes).length ≤ 3 := by
  have h1 := List.length_filter_le takes ((aheadL m).take k)
  have h2 : ((aheadL m).take k).length ≤ 3 := by rw [List.length_take]; simp [aheadL]; omega
  omega
theorem ahead_a0 (m : Mach) : ACalls Try.prog 133 [.a (m.row.map .c)] [] fun u H => ∃ c, u = .o 0 0 (aheadS m).length c ∧ H = [.arr 36 6 c ((aheadS m).map Step.row)] := by
  refine acalls_of (N := 37) Try.func133 rfl rfl (by simp) fun E hE => ?_
  refine WA ?_
  refine WA ?_
  refine WA ?_
  have e1 : ((aheadL m).map Step.row).length = 3 := rfl
  have e2 : (aheadL m).length = 3 := rfl
  refine aw_loopw (fun n F H => ∃ (k c : Nat) (r : List Step), n + k = 3 ∧ r = ((aheadL m).take k).filter takes ∧ F = [(1, .p 0 0 0), (3, .o 2 0 r.length c), (15, .o 1 0 3 3), (16, .c (I (3 : Nat))), (17, .c (I k))] ∧ H = [.box (m.row.map .c), .arr 36 6 3 ((aheadL m).map Step.row), .arr 36 6 c (r.map Step.row)]) ?_ ?_
  · refine wk_of [some 0, some 1, none] (fun _ => [(1, .p 0 0 0), (3, .o 2 0 ([] : List Step).length 0), (15, .o 1 0 3 3), (16, .c (I (3 : Nat))), (17, .c (I (0 : Nat)))]) (fun _ => [.box (m.row.map .c), .arr 36 6 3 ((aheadL m).map Step.row), .arr 36 6 0 (([] : List Step).map Step.row)]) (by decide) (ZNL hE) ZCF ZCH (fun _ => ?_)
    exact ⟨3, 0, 0, [], by omega, rfl, rfl, rfl⟩
  rintro n F H ⟨k, c, r, hk, hr, rfl, rfl⟩
  have hrl : r.length ≤ 3 := by rw [hr]; exact filter_len m k
  refine WA ?_
  refine aw_if rfl (fun hlt => ?_) (fun hge => ?_)
  · obtain ⟨s, hs⟩ : ∃ s, (aheadL m)[k]? = some s := ⟨_, List.getElem?_eq_getElem (by omega)⟩
    have hrow : ((aheadL m).map Step.row)[k]? = some s.row := by rw [List.getElem?_map, hs]; rfl
    have hn := filter_next hs
    rw [← hr] at hn
    refine WA ?_
    refine WA ?_
    refine aw_if rfl (fun hp => ?_) (fun hp => ?_)
    · rw [if_pos hp] at hn
      refine WR ?_
      refine al_ef rfl (Zapp (KA (t := 26) rfl)) ?_
      rintro _ _ ⟨_, cc, hcc, rfl, rfl⟩
      refine WE ?_
      refine WA ?_
      refine wk_of [some 0, some 1, some 2] (fun _ => [(1, .p 0 0 0), (3, .o 2 0 (r ++ [s]).length cc), (15, .o 1 0 3 3), (16, .c (I (3 : Nat))), (17, .c (I (k + 1 : Nat)))]) (fun _ => [.box (m.row.map .c), .arr 36 6 3 ((aheadL m).map Step.row), .arr 36 6 cc ((r ++ [s]).map Step.row)]) (by decide) (ZNL hE) ZCF ZCH (fun _ => ?_)
      exact ⟨n - 1, by omega, k + 1, cc, r ++ [s], by omega, hn.symm, rfl, rfl⟩
    · rw [if_neg hp, List.append_nil] at hn
      refine WA ?_
      refine wk_of [some 0, some 1, some 2] (fun _ => [(1, .p 0 0 0), (3, .o 2 0 r.length c), (15, .o 1 0 3 3), (16, .c (I (3 : Nat))), (17, .c (I (k + 1 : Nat)))]) (fun _ => [.box (m.row.map .c), .arr 36 6 3 ((aheadL m).map Step.row), .arr 36 6 c (r.map Step.row)]) (by decide) (ZNL hE) ZCF ZCH (fun _ => ?_)
      exact ⟨n - 1, by omega, k + 1, c, r, by omega, hn.symm, rfl, rfl⟩
  obtain rfl : k = 3 := by omega
  rw [List.take_of_length_le (by rw [e2]; omega)] at hr
  refine WR ?_
  refine al_ef rfl (Zapp (KA (t := 26) rfl)) ?_
  rintro _ _ ⟨_, cc, hcc, rfl, rfl⟩
  refine WE ?_
  subst hr
  exact aret_o [some 2] (fun _ => [.arr 36 6 cc (((aheadL m).filter takes ++ [(⟨3, m.x, m.y, 0, 0, 0⟩ : Step)]).map Step.row)]) rfl rfl rfl (by simp [aheadS]) rfl (by decide) (ZNK rfl) ZCH (fun _ => ⟨cc, rfl, rfl⟩)
abbrev layH (l : List Step) (v : Value) (y n : Int) (c : Nat) (out : List Step) : List OB := [.box [.c (prog_r v l)], .box [.c (I y)], .box [.c (I n)], .box [.o 4 0 out.length c], .arr 36 6 c (out.map Step.row)]
def layY (s : Step) (y : Int) : Int := if s.k = 5 then y + 1 else y
def layO (s : Step) (b : Mach) (y n : Int) (out : List Step) : List Step := if s.k = 5 then (if y + 1 = n then aheadS b else out) else if y = n then out ++ [s] else out
theorem layer1_a (l : List Step) (v : Value) (k : Nat) (s : Step) (hs : l[k]? = some s) (a b : Mach) (y n : Int) (hy : 0 ≤ y ∧ y ≤ 1000000) (c : Nat) (out : List Step) (ho : out.length ≤ 1000000) :
    ACalls Try.prog 132 [.c (I k), .a (a.row.map .c), .a (b.row.map .c), .p 0 0 0, .p 1 0 0, .p 2 0 0, .p 3 0 0] (layH l v y n c out) fun u H => ∃ c', u = .t [] ∧ H = layH l v (layY s y) n c' (layO s b y n out) := by
  have e1 : (l.map Step.row).length = l.length := by simp
  have hlt : k < l.length := (List.getElem?_eq_some_iff.1 hs).1
  have hrow : (l.map Step.row)[k]? = some s.row := by rw [List.getElem?_map, hs]; rfl
  refine acallsx_of false (N := 33) Try.func132 rfl rfl (by simp) fun E hE hP => ?_
  refine WA ?_
  refine WA ?_
  refine aw_if rfl (fun h5 => ?_) (fun h5 => ?_)
  · refine WA ?_
    refine WA ?_
    refine aw_if rfl (fun hn => ?_) (fun hn => ?_)
    · refine aw_post ?_
      refine WR ?_
      refine al_ef rfl (ef_call0 false (fun _ => ahead_a0 b) rfl .fn rfl (by decide) (by kernel_rfl) rfl (fun _ => C0 rfl) (by simp)) ?_
      rintro _ _ ⟨_, _, _, ⟨ca, rfl, rfl⟩, hF, hH⟩
      (try simp only [List.set_cons_zero, List.set_cons_succ, updH, posOf, lentArr, killF, killO, killV, AV.has, AV.hasL, AV.emb, AV.embL, OB.emb, embB, List.filter_cons, List.filter_nil, List.getElem?_cons_zero, List.getElem?_cons_succ, List.getD_cons_zero, List.getD_cons_succ, List.drop_succ_cons, List.drop_zero, List.drop_nil, List.contains_cons, List.contains_nil, Nat.reduceBEq, Nat.reduceEqDiff, beq_self_eq_true, Bool.or_false, Bool.false_or, Bool.or_true, Bool.true_or, Bool.false_eq_true, Option.map_some, Option.map_none, List.map_cons, List.map_nil, List.cons_append, List.nil_append, List.append_nil, List.length_cons, List.length_nil, Nat.reduceAdd, Nat.reduceLT, Nat.reduceSub, if_true, if_false, Nat.zero_add, Nat.add_zero, Nat.sub_zero, Nat.lt_irrefl, Nat.not_lt_zero, Nat.zero_lt_one, Nat.lt_add_one] at hF); (try simp only [List.set_cons_zero, List.set_cons_succ, updH, posOf, lentArr, killF, killO, killV, AV.has, AV.hasL, AV.emb, AV.embL, OB.emb, embB, List.filter_cons, List.filter_nil, List.getElem?_cons_zero, List.getElem?_cons_succ, List.getD_cons_zero, List.getD_cons_succ, List.drop_succ_cons, List.drop_zero, List.drop_nil, List.contains_cons, List.contains_nil, Nat.reduceBEq, Nat.reduceEqDiff, beq_self_eq_true, Bool.or_false, Bool.false_or, Bool.or_true, Bool.true_or, Bool.false_eq_true, Option.map_some, Option.map_none, List.map_cons, List.map_nil, List.cons_append, List.nil_append, List.append_nil, List.length_cons, List.length_nil, Nat.reduceAdd, Nat.reduceLT, Nat.reduceSub, if_true, if_false, Nat.zero_add, Nat.add_zero, Nat.sub_zero, Nat.lt_irrefl, Nat.not_lt_zero, Nat.zero_lt_one, Nat.lt_add_one] at hH); subst hF; subst hH
      refine WE ?_
      refine wk_ofk [some 0, some 1, some 2, some 3, some 7] (fun _ => []) (fun _ => layH l v (y + 1) n ca (aheadS b)) hE hP (by decide) (by rfl) (fun _ => .nil) ZCH (fun _ => ?_)
      exact aret_0 [some 0, some 1, some 2, some 3, some 4] (fun _ => layH l v (y + 1) n ca (aheadS b)) (.inr rfl) rfl (by decide) (ZNL (n := 5) rfl) ZCH (fun _ => ⟨ca, rfl, by rw [layY, layO, if_pos h5, if_pos h5, if_pos hn]⟩)
    · refine ZZ ?_
      exact aret_0 [some 0, some 1, some 2, some 3, some 4] (fun _ => layH l v (y + 1) n c out) (.inr rfl) rfl (by decide) (ZNL (n := 5) rfl) ZCH (fun _ => ⟨c, rfl, by rw [layY, layO, if_pos h5, if_pos h5, if_neg hn]⟩)
  · refine WA ?_
    refine aw_if rfl (fun hn => ?_) (fun hn => ?_)
    · refine ZZ ?_
      refine aw_regionT [(0, none), (1, none), (2, none), (3, none), (4, none), (5, some [0]), (6, some []), (7, some [])] hMixed (by kernel_rfl) ?_
      refine WP ?_
      refine at_ef rfl rfl (Zapp (KA (t := 26) rfl)) ?_
      rintro _ _ ⟨_, cc, hcc, rfl, rfl⟩
      refine ⟨ag_none, ?_⟩
      refine WQ ?_
      all_goals exact aret_0 [some 0, some 1, some 2, some 3, some 4] (fun _ => layH l v y n cc (out ++ [s])) (.inr rfl) rfl (by decide) (ZNL (n := 5) rfl) ZCH (fun _ => ⟨cc, rfl, by rw [layY, layO, if_neg h5, if_neg h5, if_pos hn]⟩)
    · refine ZZ ?_
      exact aret_0 [some 0, some 1, some 2, some 3, some 4] (fun _ => layH l v y n c out) (.inr rfl) rfl (by decide) (ZNL (n := 5) rfl) ZCH (fun _ => ⟨c, rfl, by rw [layY, layO, if_neg h5, if_neg h5, if_neg hn]⟩)
end Go.Proofs.Ytpbedckdnoogpaa

/- The steps of a layer, by the program, by value. -/
namespace Go.Proofs.Ytpbedckdnoogpaa
open Go Go.RowKit
set_option maxRecDepth 100000
-- NEWM
/-- Where layers begin. -/
def cutK (l : List Step) : Nat → List Nat
  | 0 => []
  | k + 1 => match l[k]? with
    | some s => if s.k = 5 then cutK l k ++ [k] else cutK l k
    | none => cutK l k
theorem cutK_succ {l : List Step} {k : Nat} {s : Step} (h : l[k]? = some s) : cutK l (k + 1) = if s.k = 5 then cutK l k ++ [k] else cutK l k := by simp only [cutK, h]
theorem cutK_len (l : List Step) : ∀ k, (cutK l k).length ≤ k
  | 0 => Nat.le_refl _
  | k + 1 => by
    have := cutK_len l k
    rw [cutK]
    split
    · split
      · simp; omega
      · omega
    · omega
theorem cutK_lt (l : List Step) : ∀ k, ∀ i ∈ cutK l k, i < k
  | 0, i, h => by cases h
  | k + 1, i, h => by
    have ih := cutK_lt l k i
    rw [cutK] at h
    split at h
    · split at h
      · rcases List.mem_append.1 h with h | h
        · have := ih h; omega
        · rw [List.mem_singleton.1 h]; omega
      · have := ih h; omega
    · have := ih h; omega
def outK (l : List Step) (n : Int) : Nat → List Step
  | 0 => []
  | k + 1 => match l[k]? with
    | some s => layO s (lastS (l.take (k + 1))) ((cutK l k).length) n (outK l n k)
    | none => outK l n k
theorem outK_succ {l : List Step} {n : Int} {k : Nat} {s : Step} (h : l[k]? = some s) : outK l n (k + 1) = layO s (lastS (l.take (k + 1))) ((cutK l k).length) n (outK l n k) := by simp only [outK, h]
theorem cutK_y {l : List Step} {k : Nat} {s : Step} (h : l[k]? = some s) : (((cutK l (k + 1)).length : Nat) : Int) = layY s ((cutK l k).length) := by
  rw [cutK_succ h, layY]
  split <;> simp
theorem aheadS_len (m : Mach) : (aheadS m).length ≤ 4 := by
  have := filter_len m 3
  rw [List.take_of_length_le (by simp [aheadL])] at this
  simp [aheadS]; omega
theorem outK_len (l : List Step) (n : Int) : ∀ k, (outK l n k).length ≤ k + 4
  | 0 => by simp [outK]
  | k + 1 => by
    have := outK_len l n k
    rw [outK]
    split
    · unfold layO
      rename_i s hs
      have := aheadS_len (lastS (l.take (k + 1)))
      split
      · split
        · omega
        · omega
      · split
        · simp; omega
        · omega
    · omega
theorem runLay_a (l : List Step) (v : Value) (n : Int) (hl : l.length ≤ 900000) (hok : ∀ s ∈ l, s.ok) : ACalls Try.prog 92 [.c (prog_r v l), .f (.func 132) [.p 0 0 0, .p 1 0 0, .p 2 0 0, .p 3 0 0]] (layH l v 0 n 0 []) fun u H => ∃ c, u = .a ((lastS l).row.map .c) ∧ H = layH l v ((cutK l l.length).length) n c (outK l n l.length) := by
  have e1 : (l.map Step.row).length = l.length := by simp
  refine acallsx_of false (N := 27) Try.func92 rfl rfl (by simp) fun E hE hP => ?_
  refine WA ?_
  refine WA ?_
  refine WA ?_
  refine aw_loopw (fun j F H => ∃ (k c : Nat) (y : Int) (out : List Step), j + k = l.length ∧ y = (cutK l k).length ∧ out = outK l n k ∧ F = [(1, .f (.func 132) [.p 0 0 0, .p 1 0 0, .p 2 0 0, .p 3 0 0]), (4, .p 5 0 0), (5, .p 6 0 0), (9, .c (prog_r v l)), (10, .c (I (l.map Step.row).length)), (11, .c (I k))] ∧ H = layH l v y n c out ++ [.box (Mach.zero.row.map .c), .box ((lastS (l.take k)).row.map .c)]) ?_ ?_
  · refine wk_of [some 0, some 1, some 2, some 3, some 4, some 5, some 6] (fun _ => [(1, .f (.func 132) [.p 0 0 0, .p 1 0 0, .p 2 0 0, .p 3 0 0]), (4, .p 5 0 0), (5, .p 6 0 0), (9, .c (prog_r v l)), (10, .c (I (l.map Step.row).length)), (11, .c (I (0 : Nat)))]) (fun _ => [.box [.c (prog_r v l)], .box [.c (I 0)], .box [.c (I n)], .box [.o 4 0 ([] : List Step).length 0], .arr 36 6 0 (([] : List Step).map Step.row), .box (Mach.zero.row.map .c), .box ((lastS (l.take 0)).row.map .c)]) (by decide) (ZNL hE) ZCF ZCH (fun _ => ?_)
    exact ⟨l.length, 0, 0, 0, [], by omega, rfl, rfl, rfl, rfl⟩
  rintro j F H ⟨k, c, y, out, hk, hy, hout, rfl, rfl⟩
  have hyl := cutK_len l k
  have hol : out.length ≤ k + 4 := by rw [hout]; exact outK_len l n k
  refine WA ?_
  refine aw_if rfl (fun hlt => ?_) (fun hge => ?_)
  · obtain ⟨s, hs⟩ : ∃ s, l[k]? = some s := ⟨_, List.getElem?_eq_getElem (by omega)⟩
    have hrow : (l.map Step.row)[k]? = some s.row := by rw [List.getElem?_map, hs]; rfl
    have hso := hok s (List.mem_of_getElem? hs)
    have hy' := cutK_y hs
    have ho' := outK_succ (n := n) hs
    rw [← hout, ← hy, lastS_succ hs] at ho'
    rw [← hy] at hy'
    refine WA ?_
    refine WA ?_
    refine WR ?_
    refine al_ef rfl (ef_call0 false (fun _ => after_a (lastS (l.take k)) s hso) rfl .fn rfl (by decide) (by kernel_rfl) rfl (fun _ => C0 rfl) (by simp)) ?_
    rintro _ _ ⟨_, _, _, ⟨rfl, rfl⟩, hF, hH⟩
    (try simp only [nsl, Nat.reduceAdd, Nat.reduceLT, Nat.reduceSub] at hF); (try simp only [nsl, Nat.reduceAdd, Nat.reduceLT, Nat.reduceSub] at hH); subst hF; subst hH
    refine WE ?_
    refine WR ?_
    refine al_ef rfl (ef_call [0, 1, 2, 3, 4] (fun _ => layH l v y n c out) false (fun _ => layer1_a l v k s hs (lastS (l.take k)) (afterS (lastS (l.take k)) s) y n (by omega) c out (by omega)) rfl (.clo rfl) rfl (by decide) (by kernel_rfl) rfl ZCH (by decide) ZCH (by simp)) ?_
    rintro F1 H1 ⟨_, _, _, _, ⟨c', rfl, hq⟩, hF, hH⟩
    subst hq
    (try simp only [List.set_cons_zero, List.set_cons_succ, updH, posOf, lentArr, killF, killO, killV, AV.has, AV.hasL, AV.emb, AV.embL, OB.emb, embB, List.filter_cons, List.filter_nil, List.getElem?_cons_zero, List.getElem?_cons_succ, List.getD_cons_zero, List.getD_cons_succ, List.drop_succ_cons, List.drop_zero, List.drop_nil, List.contains_cons, List.contains_nil, Nat.reduceBEq, Nat.reduceEqDiff, beq_self_eq_true, Bool.or_false, Bool.false_or, Bool.or_true, Bool.true_or, Bool.false_eq_true, Option.map_some, Option.map_none, List.map_cons, List.map_nil, List.cons_append, List.nil_append, List.append_nil, List.length_cons, List.length_nil, Nat.reduceAdd, Nat.reduceLT, Nat.reduceSub, if_true, if_false, Nat.zero_add, Nat.add_zero, Nat.sub_zero, Nat.lt_irrefl, Nat.not_lt_zero, Nat.zero_lt_one, Nat.lt_add_one] at hF); (try simp only [List.set_cons_zero, List.set_cons_succ, updH, posOf, lentArr, killF, killO, killV, AV.has, AV.hasL, AV.emb, AV.embL, OB.emb, embB, List.filter_cons, List.filter_nil, List.getElem?_cons_zero, List.getElem?_cons_succ, List.getD_cons_zero, List.getD_cons_succ, List.drop_succ_cons, List.drop_zero, List.drop_nil, List.contains_cons, List.contains_nil, Nat.reduceBEq, Nat.reduceEqDiff, beq_self_eq_true, Bool.or_false, Bool.false_or, Bool.or_true, Bool.true_or, Bool.false_eq_true, Option.map_some, Option.map_none, List.map_cons, List.map_nil, List.cons_append, List.nil_append, List.append_nil, List.length_cons, List.length_nil, Nat.reduceAdd, Nat.reduceLT, Nat.reduceSub, if_true, if_false, Nat.zero_add, Nat.add_zero, Nat.sub_zero, Nat.lt_irrefl, Nat.not_lt_zero, Nat.zero_lt_one, Nat.lt_add_one] at hH); subst hF; subst hH
    refine WE ?_
    rw [← ho', ← hy']
    refine WA ?_
    refine wk_of [some 0, some 1, some 2, some 3, some 4, some 5, some 6] (fun _ => [(1, .f (.func 132) [.p 0 0 0, .p 1 0 0, .p 2 0 0, .p 3 0 0]), (4, .p 5 0 0), (5, .p 6 0 0), (9, .c (prog_r v l)), (10, .c (I (l.map Step.row).length)), (11, .c (I (k + 1 : Nat)))]) (fun _ => [.box [.c (prog_r v l)], .box [.c (I ((cutK l (k + 1)).length : Nat))], .box [.c (I n)], .box [.o 4 0 (outK l n (k + 1)).length c'], .arr 36 6 c' ((outK l n (k + 1)).map Step.row), .box (Mach.zero.row.map .c), .box ((afterS (lastS (l.take k)) s).row.map .c)]) (by decide) (ZNL hE) ZCF ZCH (fun _ => ?_)
    exact ⟨j - 1, by omega, k + 1, c', _, outK l n (k + 1), by omega, rfl, rfl, rfl, by rw [lastS_succ hs]; rfl⟩
  refine WA ?_
  obtain rfl : k = l.length := by omega
  refine aret_a [some 0, some 1, some 2, some 3, some 4] (layH l v y n c out) rfl (KK (t := 42) rfl) rfl (Cells.box rfl) (by simp) (by (try simp only [nm, putL, Nat.reduceAdd, cellsOf, cvOf]) <;> rfl) (by decide) (ZNL (n := 5) rfl) (fun _ => C0 rfl) ZCH ⟨c, ?_, by rw [hy, hout]⟩
  rw [List.take_of_length_le (by omega)]; rfl
/-- The layer's steps, and the fault of a number. -/
def layN (a : List Step) (n : Int) : Prop := n < 1 ∨ ((cutK a a.length).length : Int) < n
instance (a : List Step) (n : Int) : Decidable (layN a n) := by unfold layN; infer_instance
def layF (l : List Step) (n : Int) : Int := if progF l ≠ 0 then progF l else if layN (absS l) n then 8 else progF (outK (absS l) n (absS l).length)
def layL (l : List Step) (n : Int) : List Step := if layF l n = 0 then outK (absS l) n (absS l).length else []
theorem layer_a (l : List Step) (v : Value) (n : Int) (hl : l.length ≤ 900000) (hok : ∀ s ∈ l, s.ok) : ACalls Try.prog 54 [.c (prog_r v l), .c (I n)] [] fun u H => ∃ v', u = .t [.c (prog_r v' (layL l n)), .c (I (layF l n))] ∧ H = [] := by
  refine acallsx_of false (N := 31) Try.func54 rfl rfl (by simp) fun E hE hP => ?_
  refine WA ?_
  refine WR ?_
  refine al_ef rfl (ef_call0 false (fun _ => check_a l v (by omega)) rfl .fn rfl (by decide) (by kernel_rfl) rfl (fun _ => C0 rfl) (by simp)) ?_
  rintro _ _ ⟨_, _, _, ⟨rfl, rfl⟩, hF, hH⟩
  (try simp only [nsl, Nat.reduceAdd, Nat.reduceLT, Nat.reduceSub] at hF); (try simp only [nsl, Nat.reduceAdd, Nat.reduceLT, Nat.reduceSub] at hH); subst hF; subst hH
  refine WE ?_
  refine WA ?_
  refine aw_if rfl (fun hne => ?_) (fun heq => ?_)
  · have hf : layF l n = progF l := by rw [layF, if_pos hne]
    refine WA ?_
    exact aret_2 [] _ rfl rfl rfl rfl rfl (by decide) (ZNK rfl) (fun _ => .nil) ⟨_, by rw [layL, hf, if_neg hne]; rfl, rfl⟩
  · have hal : (absS l).length ≤ l.length := absFrom_len l _
    have hao := absS_inn hok
    have hf : layF l n = if layN (absS l) n then 8 else progF (outK (absS l) n (absS l).length) := by rw [layF, if_neg heq]
    have hlay : layL l n = if layF l n = 0 then outK (absS l) n (absS l).length else [] := rfl
    have hn : layN (absS l) n ↔ n < 1 ∨ ((cutK (absS l) (absS l).length).length : Int) < n := Iff.rfl
    have hol := outK_len (absS l) n (absS l).length
    refine ZZ ?_
    refine WA ?_
    refine WA ?_
    refine WR ?_
    refine al_ef rfl (ef_call0 false (fun _ => absolute_a l v (by omega) hok) rfl .fn rfl (by decide) (by kernel_rfl) rfl (fun _ => C0 rfl) (by simp)) ?_
    rintro _ _ ⟨_, _, _, ⟨va, rfl, rfl⟩, hF, hH⟩
    (try simp only [nsl, Nat.reduceAdd, Nat.reduceLT, Nat.reduceSub] at hF); (try simp only [nsl, Nat.reduceAdd, Nat.reduceLT, Nat.reduceSub] at hH); subst hF; subst hH
    refine WO ?_
    refine al_nil ?_
    refine aseq_n ?_
    generalize absS l = a at *
    refine aw_wk (wk_of (K := fun F H => F = [(3, .p 2 0 0), (7, .p 3 0 0), (8, .p 1 0 0), (9, .p 0 0 0)] ∧ H = layH a va 0 n 0 []) [some 3, some 2, some 0, some 1, none] (fun _ => [(3, .p 2 0 0), (7, .p 3 0 0), (8, .p 1 0 0), (9, .p 0 0 0)]) (fun _ => layH a va 0 n 0 []) (by decide) (ZNL hE) ZCF ZCH (fun _ => ⟨rfl, rfl⟩)) ?_
    rintro F H ⟨rfl, rfl⟩
    refine WR ?_
    refine al_ef rfl (ef_call [0, 1, 2, 3, 4] (fun _ => layH a va 0 n 0 []) false (fun _ => runLay_a a va n (by omega) hao) rfl .fn rfl (by decide) (by kernel_rfl) rfl ZCH (by decide) ZCH (by simp)) ?_
    rintro F1 H1 ⟨_, _, _, _, ⟨c', rfl, hq⟩, hF, hH⟩
    subst hq
    (try simp only [List.set_cons_zero, List.set_cons_succ, updH, posOf, lentArr, killF, killO, killV, AV.has, AV.hasL, AV.emb, AV.embL, OB.emb, embB, List.filter_cons, List.filter_nil, List.getElem?_cons_zero, List.getElem?_cons_succ, List.getD_cons_zero, List.getD_cons_succ, List.drop_succ_cons, List.drop_zero, List.drop_nil, List.contains_cons, List.contains_nil, Nat.reduceBEq, Nat.reduceEqDiff, beq_self_eq_true, Bool.or_false, Bool.false_or, Bool.or_true, Bool.true_or, Bool.false_eq_true, Option.map_some, Option.map_none, List.map_cons, List.map_nil, List.cons_append, List.nil_append, List.append_nil, List.length_cons, List.length_nil, Nat.reduceAdd, Nat.reduceLT, Nat.reduceSub, if_true, if_false, Nat.zero_add, Nat.add_zero, Nat.sub_zero, Nat.lt_irrefl, Nat.not_lt_zero, Nat.zero_lt_one, Nat.lt_add_one] at hF); (try simp only [List.set_cons_zero, List.set_cons_succ, updH, posOf, lentArr, killF, killO, killV, AV.has, AV.hasL, AV.emb, AV.embL, OB.emb, embB, List.filter_cons, List.filter_nil, List.getElem?_cons_zero, List.getElem?_cons_succ, List.getD_cons_zero, List.getD_cons_succ, List.drop_succ_cons, List.drop_zero, List.drop_nil, List.contains_cons, List.contains_nil, Nat.reduceBEq, Nat.reduceEqDiff, beq_self_eq_true, Bool.or_false, Bool.false_or, Bool.or_true, Bool.true_or, Bool.false_eq_true, Option.map_some, Option.map_none, List.map_cons, List.map_nil, List.cons_append, List.nil_append, List.append_nil, List.length_cons, List.length_nil, Nat.reduceAdd, Nat.reduceLT, Nat.reduceSub, if_true, if_false, Nat.zero_add, Nat.add_zero, Nat.sub_zero, Nat.lt_irrefl, Nat.not_lt_zero, Nat.zero_lt_one, Nat.lt_add_one] at hH); subst hF; subst hH
    refine WE ?_
    by_cases h1 : n < 1
    · refine WA ?_
      refine aw_cond_t rfl ?_
      refine WA ?_
      rw [if_pos (hn.2 (.inl h1))] at hf
      exact aret_2 [] _ rfl rfl rfl rfl rfl (by decide) (ZNK rfl) (fun _ => .nil) ⟨_, by rw [hlay, hf, if_neg (by decide)]; rfl, rfl⟩
    · refine WA ?_
      refine aw_if rfl (fun h2 => ?_) (fun h2 => ?_)
      · refine WA ?_
        rw [if_pos (hn.2 (.inr h2))] at hf
        exact aret_2 [] _ rfl rfl rfl rfl rfl (by decide) (ZNK rfl) (fun _ => .nil) ⟨_, by rw [hlay, hf, if_neg (by decide)]; rfl, rfl⟩
      · rw [if_neg (fun h => by rcases hn.1 h with h | h <;> omega)] at hf
        refine ZZ ?_
        refine aw_wk (wk_of (K := fun F H => ∃ vo, F = [(7, .p 0 0 0)] ∧ H = [.box [.c (prog_r vo (outK a n a.length))]]) [some 3] (fun g => [(7, .p 0 0 0)]) (fun g => [.box [.c (prog_r (g (.o 4 0 (outK a n a.length).length c')) (outK a n a.length))]]) (by decide) (ZNL hE) ZCF (fun _ => .box rfl (.cons (.frz rfl rfl (by rw [List.drop_zero, List.take_of_length_le (by simp)]) (by simp) rfl) .nil) .nil) (fun _ => ⟨_, rfl, rfl⟩)) ?_
        rintro F H ⟨vo, rfl, rfl⟩
        refine WR ?_
        refine al_ef rfl (ef_call0 false (fun _ => checked_a (outK a n a.length) vo (by omega)) rfl .fn rfl (by decide) (by kernel_rfl) rfl (fun _ => C0 rfl) (by simp)) ?_
        rintro _ _ ⟨_, _, _, ⟨vb, rfl, rfl⟩, hF, hH⟩
        (try simp only [nsl, Nat.reduceAdd, Nat.reduceLT, Nat.reduceSub] at hF); (try simp only [nsl, Nat.reduceAdd, Nat.reduceLT, Nat.reduceSub] at hH); subst hF; subst hH
        refine WE ?_
        exact aret_2 [] _ rfl rfl rfl rfl rfl (by decide) (ZNK rfl) (fun _ => .nil) ⟨_, by rw [hlay, hf], rfl⟩
end Go.Proofs.Ytpbedckdnoogpaa

/- The steps of a layer, as the reference takes them, by value. -/
namespace Go.Proofs.Ytpbedckdnoogpaa
open Go Go.RowKit
set_option maxRecDepth 100000
-- NEWM
def endK (a : List Step) (m k : Nat) : Nat := match (cutK a k)[m + 1]? with
  | some j => j
  | none => k
def layS (a : List Step) (m i k : Nat) : List Step := aheadS (lastS (a.take (i + 1))) ++ (a.take (endK a m k)).drop (i + 1)
theorem outK_law (a : List Step) (m : Nat) : ∀ k, k ≤ a.length → ∀ i, (cutK a k)[m]? = some i → outK a ((m + 1 : Nat) : Int) k = layS a m i k
  | 0, _, i, h => by simp [cutK] at h
  | k + 1, hk, i, h => by
    obtain ⟨s, hs⟩ : ∃ s, a[k]? = some s := ⟨_, List.getElem?_eq_getElem (by omega)⟩
    have ih := outK_law a m k (by omega)
    rw [outK_succ hs, layO]
    rw [cutK_succ hs] at h
    have hlen : m < (cutK a k).length → ∃ j, (cutK a k)[m]? = some j := fun h => ⟨_, List.getElem?_eq_getElem h⟩
    by_cases h5 : s.k = 5
    · rw [if_pos h5] at h ⊢
      by_cases hn : (cutK a k).length = m
      · rw [if_pos (by omega)]
        rw [← hn, List.getElem?_append_right (Nat.le_refl _), Nat.sub_self] at h
        injection h with h
        subst h
        rw [layS, endK, cutK_succ hs, if_pos h5, List.getElem?_eq_none (by simp; omega)]
        simp
      · rw [if_neg (by omega)]
        have hlt : m < (cutK a k).length := by
          have := (List.getElem?_eq_some_iff.1 h).1
          simp at this; omega
        rw [List.getElem?_append_left hlt] at h
        rw [ih i h, layS, layS, endK, endK, cutK_succ hs, if_pos h5]
        by_cases hl : m + 1 < (cutK a k).length
        · rw [List.getElem?_append_left hl]
          rw [List.getElem?_eq_getElem hl]
        · have e : m + 1 = (cutK a k).length := by omega
          rw [e, List.getElem?_append_right (Nat.le_refl _), Nat.sub_self, List.getElem?_eq_none (Nat.le_refl _)]
          rfl
    · rw [if_neg h5] at h ⊢
      have hlt := (List.getElem?_eq_some_iff.1 h).1
      have hi := cutK_lt a k i (List.mem_of_getElem? h)
      by_cases hn : (cutK a k).length = m + 1
      · rw [if_pos (by omega), ih i h, layS, layS, endK, endK, cutK_succ hs, if_neg h5, List.getElem?_eq_none (by omega)]
        dsimp only
        rw [take_next hs, List.drop_append_of_le_length (by rw [List.length_take]; omega), List.append_assoc]
      · rw [if_neg (by omega), ih i h, layS, layS, endK, endK, cutK_succ hs, if_neg h5, List.getElem?_eq_getElem (show m + 1 < (cutK a k).length by omega)]
theorem cutK_inc (a : List Step) : ∀ (k m i j : Nat), (cutK a k)[m]? = some i → (cutK a k)[m + 1]? = some j → i + 1 ≤ j
  | 0, m, i, j, h, _ => by simp [cutK] at h
  | k + 1, m, i, j, h1, h2 => by
    have ih := cutK_inc a k m i j
    have hlt := cutK_lt a k
    rw [cutK] at h1 h2
    split at h1
    · rename_i s hs
      simp only [hs] at h2
      split at h1
      · rename_i h5
        rw [if_pos h5] at h2
        by_cases hl : m + 1 < (cutK a k).length
        · rw [List.getElem?_append_left hl] at h2
          rw [List.getElem?_append_left (by omega)] at h1
          exact ih h1 h2
        · have hb := (List.getElem?_eq_some_iff.1 h2).1
          rw [List.length_append, List.length_singleton] at hb
          rw [List.getElem?_append_right (by omega), show m + 1 - (cutK a k).length = 0 by omega] at h2
          injection h2 with h2
          rw [List.getElem?_append_left (by omega)] at h1
          have := hlt i (List.mem_of_getElem? h1)
          omega
      · rename_i h5
        rw [if_neg h5] at h2
        exact ih h1 h2
    · rename_i hs
      simp only [hs] at h2
      exact ih h1 h2
set_option maxHeartbeats 4000000 in
theorem qlayer_a (l : List Step) (v : Value) (n : Int) (hl : l.length ≤ 900000) (hp0 : progF l = 0) (hok : ∀ s ∈ l, s.ok) : ACalls Try.prog 58 [.c (prog_r v l), .c (I n)] [] fun u H => ∃ v', u = .t [.c (prog_r v' (layL l n)), .c (I (layF l n))] ∧ H = [] := by
  have hal : (absS l).length ≤ l.length := absFrom_len l _
  have hao := absS_inn hok
  have hf : layF l n = if layN (absS l) n then 8 else progF (outK (absS l) n (absS l).length) := by rw [layF, if_neg (by omega)]
  have hlay : layL l n = if layF l n = 0 then outK (absS l) n (absS l).length else [] := rfl
  have hn : layN (absS l) n ↔ n < 1 ∨ ((cutK (absS l) (absS l).length).length : Int) < n := Iff.rfl
  have hcl := cutK_len (absS l) (absS l).length
  refine acallsx_of false (N := 101) Try.func58 rfl rfl (by simp) fun E hE hP => ?_
  refine WA ?_
  refine WR ?_
  refine al_ef rfl (ef_call0 false (fun _ => qabs_a l v (by omega) hok) rfl .fn rfl (by decide) (by kernel_rfl) rfl (fun _ => C0 rfl) (by simp)) ?_
  rintro _ _ ⟨_, _, _, ⟨va, rfl, rfl⟩, hF, hH⟩
  (try simp only [nsl, Nat.reduceAdd, Nat.reduceLT, Nat.reduceSub] at hF); (try simp only [nsl, Nat.reduceAdd, Nat.reduceLT, Nat.reduceSub] at hH); subst hF; subst hH
  refine WE ?_
  generalize absS l = a at *
  have e1 : (a.map Step.row).length = a.length := by simp
  have hrl : ∀ row ∈ a.map Step.row, row.length = 6 := by intro row hr; obtain ⟨s, -, rfl⟩ := List.mem_map.1 hr; rfl
  refine WA ?_
  refine WA ?_
  refine aw_loopw (fun j F H => ∃ (k c : Nat) (q : List Nat), j + k = a.length ∧ q = cutK a k ∧ F = [(1, .c (I n)), (6, .c (prog_r va a)), (7, .o 0 0 q.length c), (19, .c (prog_r va a)), (20, .c (I (a.map Step.row).length)), (21, .c (I k))] ∧ H = [.arr 3 1 c (q.map fun (i : Nat) => [I i])]) ?_ ?_
  · refine wk_of [none] (fun _ => [(1, .c (I n)), (6, .c (prog_r va a)), (7, .o 0 0 ([] : List Nat).length 0), (19, .c (prog_r va a)), (20, .c (I (a.map Step.row).length)), (21, .c (I (0 : Nat)))]) (fun _ => [.arr 3 1 0 (([] : List Nat).map fun (i : Nat) => [I i])]) (by decide) (ZNL hE) ZCF ZCH (fun _ => ?_)
    exact ⟨a.length, 0, 0, [], by omega, rfl, rfl, rfl⟩
  rintro j F H ⟨k, c, q, hk, hq, rfl, rfl⟩
  have hqk := cutK_len a k
  rw [← hq] at hqk
  refine WA ?_
  refine aw_if rfl (fun hlt => ?_) (fun hge => ?_)
  · obtain ⟨s, hs⟩ : ∃ s, a[k]? = some s := ⟨_, List.getElem?_eq_getElem (by omega)⟩
    have hrow : (a.map Step.row)[k]? = some s.row := by rw [List.getElem?_map, hs]; rfl
    have hcs := cutK_succ hs
    rw [← hq] at hcs
    refine WA ?_
    refine WA ?_
    refine aw_if rfl (fun h5 => ?_) (fun h5 => ?_)
    · rw [if_pos h5] at hcs
      refine WR ?_
      refine al_ef rfl (Zapp (KA (t := 22) rfl)) ?_
      rintro _ _ ⟨_, cc, hcc, rfl, rfl⟩
      refine WE ?_
      refine WA ?_
      refine wk_of [some 0] (fun _ => [(1, .c (I n)), (6, .c (prog_r va a)), (7, .o 0 0 (q ++ [k]).length cc), (19, .c (prog_r va a)), (20, .c (I (a.map Step.row).length)), (21, .c (I (k + 1 : Nat)))]) (fun _ => [.arr 3 1 cc ((q ++ [k]).map fun (i : Nat) => [I i])]) (by decide) (ZNL hE) ZCF ZCH (fun _ => ?_)
      exact ⟨j - 1, by omega, k + 1, cc, q ++ [k], by omega, hcs.symm, rfl, rfl⟩
    · rw [if_neg h5] at hcs
      refine WA ?_
      refine wk_of [some 0] (fun _ => [(1, .c (I n)), (6, .c (prog_r va a)), (7, .o 0 0 q.length c), (19, .c (prog_r va a)), (20, .c (I (a.map Step.row).length)), (21, .c (I (k + 1 : Nat)))]) (fun _ => [.arr 3 1 c (q.map fun (i : Nat) => [I i])]) (by decide) (ZNL hE) ZCF ZCH (fun _ => ?_)
      exact ⟨j - 1, by omega, k + 1, c, q, by omega, hcs.symm, rfl, rfl⟩
  obtain rfl : k = a.length := by omega
  rw [← hq] at hn
  refine WR ?_
  refine al_ef rfl (ef_call0 false (fun _ => qin_a _ _ _) rfl .fn rfl (by decide) (by kernel_rfl) rfl (fun _g => .cons (.c rfl) (.cons (.c rfl) (.cons (.c rfl) .nil))) (by simp)) ?_
  rintro _ _ ⟨_, _, _, ⟨b, rfl, rfl, hb1, hb2⟩, hF, hH⟩
  (try simp only [nsl, Nat.reduceAdd, Nat.reduceLT, Nat.reduceSub] at hF); (try simp only [nsl, Nat.reduceAdd, Nat.reduceLT, Nat.reduceSub] at hH); subst hF; subst hH
  cases b
  all_goals (simp only [true_implies, false_implies, reduceCtorEq] at hb1 hb2)
  all_goals (refine WE ?_)
  · refine aw_cond_t rfl ?_
    refine WA ?_
    rw [if_pos (hn.2 (by omega))] at hf
    exact aret_2 [] _ rfl rfl rfl rfl rfl (by decide) (ZNK rfl) (fun _ => .nil) ⟨_, by rw [hlay, hf, if_neg (by decide)]; rfl, rfl⟩
  refine aw_cond_f rfl ?_
  rw [if_neg (fun h => by rcases hn.1 h with h | h <;> omega)] at hf
  obtain ⟨m, rfl⟩ : ∃ m : Nat, n = ((m + 1 : Nat) : Int) := ⟨(n - 1).toNat, by omega⟩
  have eq1 : (q.map fun (i : Nat) => [I i]).length = q.length := by simp
  obtain ⟨i, hi⟩ : ∃ i, q[m]? = some i := ⟨_, List.getElem?_eq_getElem (by omega)⟩
  have hir : (q.map fun (i : Nat) => [I i])[m]? = some [I i] := by rw [List.getElem?_map, hi]; rfl
  have hil : i < a.length := cutK_lt a a.length i (by rw [← hq]; exact List.mem_of_getElem? hi)
  have hlaw := outK_law a m a.length (Nat.le_refl _) i (by rw [← hq]; exact hi)
  refine ZZ ?_
  refine ZR ?_
  iterate 3 refine WX1 ?_
  refine ZA (rd_index (i := m) rfl (KE (t := 22) rfl) rfl rfl rfl (by omega) (by omega)) ?_
  refine WX1 ?_
  refine ZA (rd_addz (z := ((i + 1 : Nat) : Int)) rfl rfl rfl (by omega) (by omega)) ?_
  refine WO ?_
  refine al_nil ?_
  refine aseq_n ?_
  refine aw_seq ?_
  refine aw_cut (fun F H => ∃ to : Nat, to = endK a m a.length ∧ i + 1 ≤ to ∧ to ≤ a.length ∧ F = [(6, .c (prog_r va a)), (10, .c (I (i + 1 : Nat))), (11, .c (I to))] ∧ H = []) ?_ ?_ wk_aw
  · refine WA ?_
    refine aw_if rfl (fun h2 => ?_) (fun h2 => ?_)
    · obtain ⟨j, hj⟩ : ∃ j, q[m + 1]? = some j := ⟨_, List.getElem?_eq_getElem (by omega)⟩
      have hjr : (q.map fun (i : Nat) => [I i])[m + 1]? = some [I j] := by rw [List.getElem?_map, hj]; rfl
      refine ZR ?_
      iterate 2 refine WX1 ?_
      refine ZA (rd_index (i := m + 1) rfl (KE (t := 22) rfl) rfl rfl rfl (by omega) (by omega)) ?_
      refine WE ?_
      refine wk_of [] (fun _ => [(6, .c (prog_r va a)), (10, .c (I (i + 1 : Nat))), (11, .c (I j))]) (fun _ => []) (by decide) (ZNL hE) ZCF (fun _ => .nil) (fun _ => ?_)
      refine ⟨j, by rw [endK, ← hq, hj], ?_, ?_, rfl, rfl⟩
      · exact cutK_inc a a.length m i j (by rw [← hq]; exact hi) (by rw [← hq]; exact hj)
      · exact Nat.le_of_lt (cutK_lt a a.length j (by rw [← hq]; exact List.mem_of_getElem? hj))
    · refine ZZ ?_
      refine wk_of [] (fun _ => [(6, .c (prog_r va a)), (10, .c (I (i + 1 : Nat))), (11, .c (I (a.map Step.row).length))]) (fun _ => []) (by decide) (ZNL hE) ZCF (fun _ => .nil) (fun _ => ?_)
      exact ⟨a.length, by rw [endK, ← hq, List.getElem?_eq_none (by omega)], by omega, by omega, by rw [e1], rfl⟩
  rintro F H ⟨to, hto, hto1, hto2, rfl, rfl⟩
  refine ZR ?_
  iterate 2 refine WX1 ?_
  refine ZA (rd_slicer (l := 0) (h := i + 1) rfl (KE (t := 26) rfl) rfl hrl (.inl ⟨rfl, rfl⟩) (.inr ⟨_, _, _, rfl, rfl, by omega⟩) (by omega) (by omega)) ?_
  refine al_ef rfl (ef_call0 false (fun _ => qlast_a (a.take (i + 1)) (subV va 0 (i + 1) 6) (by simp; omega) (fun s hs => hao s (List.mem_of_mem_take hs))) rfl .fn rfl (by decide) (by kernel_rfl) rfl (fun _g => .cons (.c (by simp)) .nil) (by simp)) ?_
  rintro _ _ ⟨_, _, _, ⟨rfl, rfl⟩, hF, hH⟩
  (try simp only [nsl, Nat.reduceAdd, Nat.reduceLT, Nat.reduceSub] at hF); (try simp only [nsl, Nat.reduceAdd, Nat.reduceLT, Nat.reduceSub] at hH); subst hF; subst hH
  refine WE ?_
  refine WA ?_
  refine WA ?_
  rw [layS, ← hto] at hlaw
  have hol : (outK a ((m + 1 : Nat) : Int) a.length).length ≤ a.length + 4 := outK_len a _ _
  generalize outK a ((m + 1 : Nat) : Int) a.length = out at *
  generalize lastS (a.take (i + 1)) = b at *
  have eh : ((aheadL b).map Step.row).length = 3 := rfl
  have eh2 : (aheadL b).length = 3 := rfl
  refine aw_loopw (fun j F H => ∃ (k c : Nat) (r : List Step), j + k = 3 ∧ r = ((aheadL b).take k).filter takes ∧ F = [(6, .c (prog_r va a)), (10, .c (I (i + 1 : Nat))), (11, .c (I to)), (12, .p 0 0 0), (13, .o 2 0 r.length c), (68, .o 1 0 3 3), (69, .c (I (3 : Nat))), (70, .c (I k))] ∧ H = [.box (b.row.map .c), .arr 36 6 3 ((aheadL b).map Step.row), .arr 36 6 c (r.map Step.row)]) ?_ ?_
  · refine wk_of [some 0, some 1, none] (fun _ => [(6, .c (prog_r va a)), (10, .c (I (i + 1 : Nat))), (11, .c (I to)), (12, .p 0 0 0), (13, .o 2 0 ([] : List Step).length 0), (68, .o 1 0 3 3), (69, .c (I (3 : Nat))), (70, .c (I (0 : Nat)))]) (fun _ => [.box (b.row.map .c), .arr 36 6 3 ((aheadL b).map Step.row), .arr 36 6 0 (([] : List Step).map Step.row)]) (by decide) (ZNL hE) ZCF ZCH (fun _ => ?_)
    exact ⟨3, 0, 0, [], by omega, rfl, rfl, rfl⟩
  rintro j F H ⟨k, c, r, hk, hr, rfl, rfl⟩
  have hrl3 : r.length ≤ 3 := by rw [hr]; exact filter_len b k
  refine WA ?_
  refine aw_if rfl (fun hlt => ?_) (fun hge => ?_)
  · obtain ⟨s, hs⟩ : ∃ s, (aheadL b)[k]? = some s := ⟨_, List.getElem?_eq_getElem (by omega)⟩
    have hrow : ((aheadL b).map Step.row)[k]? = some s.row := by rw [List.getElem?_map, hs]; rfl
    have hn := filter_next hs
    rw [← hr] at hn
    refine WA ?_
    refine WA ?_
    refine aw_if rfl (fun hp => ?_) (fun hp => ?_)
    · rw [if_pos hp] at hn
      refine WR ?_
      refine al_ef rfl (Zapp (KA (t := 26) rfl)) ?_
      rintro _ _ ⟨_, cc, hcc, rfl, rfl⟩
      refine WE ?_
      refine WA ?_
      refine wk_of [some 0, some 1, some 2] (fun _ => [(6, .c (prog_r va a)), (10, .c (I (i + 1 : Nat))), (11, .c (I to)), (12, .p 0 0 0), (13, .o 2 0 (r ++ [s]).length cc), (68, .o 1 0 3 3), (69, .c (I (3 : Nat))), (70, .c (I (k + 1 : Nat)))]) (fun _ => [.box (b.row.map .c), .arr 36 6 3 ((aheadL b).map Step.row), .arr 36 6 cc ((r ++ [s]).map Step.row)]) (by decide) (ZNL hE) ZCF ZCH (fun _ => ?_)
      exact ⟨j - 1, by omega, k + 1, cc, r ++ [s], by omega, hn.symm, rfl, rfl⟩
    · rw [if_neg hp, List.append_nil] at hn
      refine WA ?_
      refine wk_of [some 0, some 1, some 2] (fun _ => [(6, .c (prog_r va a)), (10, .c (I (i + 1 : Nat))), (11, .c (I to)), (12, .p 0 0 0), (13, .o 2 0 r.length c), (68, .o 1 0 3 3), (69, .c (I (3 : Nat))), (70, .c (I (k + 1 : Nat)))]) (fun _ => [.box (b.row.map .c), .arr 36 6 3 ((aheadL b).map Step.row), .arr 36 6 c (r.map Step.row)]) (by decide) (ZNL hE) ZCF ZCH (fun _ => ?_)
      exact ⟨j - 1, by omega, k + 1, c, r, by omega, hn.symm, rfl, rfl⟩
  obtain rfl : k = 3 := by omega
  rw [List.take_of_length_le (by rw [eh2]; omega)] at hr
  have hro : (r ++ [(⟨3, b.x, b.y, 0, 0, 0⟩ : Step)]) ++ (a.take to).drop (i + 1) = out := by rw [hlaw, aheadS, hr]
  refine ZZ ?_
  have hd0 : ∀ row ∈ ((a.map Step.row).take to).drop (i + 1), ∃ s : Step, row = s.row := fun row hr => by
    obtain ⟨s, -, rfl⟩ := List.mem_map.1 (List.mem_of_mem_take (List.mem_of_mem_drop hr))
    exact ⟨s, rfl⟩
  have hd1 : ∀ row ∈ ((a.map Step.row).take to).drop (i + 1), row.length = 6 := fun row hr => by
    obtain ⟨s, rfl⟩ := hd0 row hr; rfl
  have hd2 : ∀ row ∈ ((a.map Step.row).take to).drop (i + 1), ∀ u ∈ row, u.one = true := fun row hr => by
    obtain ⟨s, rfl⟩ := hd0 row hr; simp [CV.one, CV.den, Value.oneCell']
  have hd3 : (r.length + 1) + (((a.map Step.row).take to).drop (i + 1)).length ≤ 1073741824 := by simp; omega
  refine aw_cutq (fun F H => ∃ vo, F = [(13, .c (prog_r vo out))] ∧ H = []) ?_ ?_ wk_aw
  · refine ZZ ?_
    refine aw_regionT [(0, none), (1, none), (2, none), (3, none), (4, none), (5, none), (8, none), (9, none), (10, none), (11, none), (6, some [0, 8, 9, 10, 11]), (7, some [8, 9, 10, 11]), (12, some []), (13, none)] hMixed (by kernel_rfl) ?_
    iterate 9 refine WX2 ?_
    refine ZT rfl (rd_slicer (l := i + 1) (h := to) rfl (KE (t := 26) rfl) rfl hrl (.inr ⟨_, _, _, rfl, rfl, by omega⟩) (.inr ⟨_, _, _, rfl, rfl, by omega⟩) (by omega) (by omega)) ?_
    refine at_ef rfl rfl (Ybsl) ?_
    rintro _ _ ⟨rfl, rfl⟩
    refine ⟨ag_cons (by first | exact ag_rd rfl rfl rfl (rd_move rfl rfl) rfl) (ag_cons (by first | exact ag_rd rfl rfl rfl (rd_move rfl rfl) rfl) (ag_cons (by first | exact ag_rd rfl rfl rfl (rd_move rfl rfl) rfl) (ag_cons (by first | exact ag_rd rfl rfl rfl (rd_move rfl rfl) rfl) (ag_cons (by first | exact ag_rd rfl rfl rfl (rd_slicer (l := i + 1) (h := to) rfl (KE (t := 26) rfl) rfl hrl (.inr ⟨_, _, _, rfl, rfl, by omega⟩) (.inr ⟨_, _, _, rfl, rfl, by omega⟩) (by omega) (by omega)) rfl) (ag_none))))), ?_⟩
    refine at_ef rfl rfl (Zapp (KA (t := 26) rfl)) ?_
    rintro _ _ ⟨_, cc, hcc, rfl, rfl⟩
    refine ⟨ag_cons (by first | exact ag_rd rfl rfl rfl (rd_move rfl rfl) rfl) (ag_cons (by first | exact ag_rd rfl rfl rfl (rd_move rfl rfl) rfl) (ag_cons (by first | exact ag_rd rfl rfl rfl (rd_move rfl rfl) rfl) (ag_cons (by first | exact ag_rd rfl rfl rfl (rd_slicer (l := i + 1) (h := to) rfl (KE (t := 26) rfl) rfl hrl (.inr ⟨_, _, _, rfl, rfl, by omega⟩) (.inr ⟨_, _, _, rfl, rfl, by omega⟩) (by omega) (by omega)) rfl) (ag_none)))), ?_⟩
    refine at_ef rfl rfl (Zapp (KA (t := 26) rfl) (hsrc := Src.ro hd1 hd2) (hle := hd3)) ?_
    rintro _ _ ⟨_, cc, hcc, rfl, rfl⟩
    refine ⟨ag_none, ?_⟩
    refine WQ ?_
    all_goals exact wk_of [] (fun g => [(13, .c (prog_r (g (.o 2 0 (r.length + 1 + (((a.map Step.row).take to).drop (i + 1)).length) cc)) out))]) (fun _ => []) (by decide) (ZNL hE) (fun _ => .cons rfl (.frz rfl rfl (by rw [List.drop_zero, ← hro, List.take_of_length_le (by simp; omega)]; simp) (by rw [← hro]; simp; omega) rfl) .nil) (fun _ => .nil) (fun _ => ⟨_, rfl, rfl⟩)
  rintro F H ⟨vo, rfl, rfl⟩
  refine WR ?_
  refine al_ef rfl (ef_call0 false (fun _ => qsteps_a out vo (by omega)) rfl .fn rfl (by decide) (by kernel_rfl) rfl (fun _ => C0 rfl) (by simp)) ?_
  rintro _ _ ⟨_, _, _, ⟨rfl, rfl⟩, hF, hH⟩
  (try simp only [nsl, Nat.reduceAdd, Nat.reduceLT, Nat.reduceSub] at hF); (try simp only [nsl, Nat.reduceAdd, Nat.reduceLT, Nat.reduceSub] at hH); subst hF; subst hH
  refine WE ?_
  refine WA ?_
  refine aw_if rfl (fun hne => ?_) (fun heq => ?_)
  · refine WA ?_
    exact aret_2 [] _ rfl rfl rfl rfl rfl (by decide) (ZNK rfl) (fun _ => .nil) ⟨_, by rw [hlay, hf, if_neg hne]; rfl, rfl⟩
  · refine ZZ ?_
    refine WA ?_
    exact aret_2 [] _ rfl rfl rfl rfl rfl (by decide) (ZNK rfl) (fun _ => .nil) ⟨_, by rw [hlay, hf, if_pos (by omega), show progF out = 0 by omega], rfl⟩
end Go.Proofs.Ytpbedckdnoogpaa
