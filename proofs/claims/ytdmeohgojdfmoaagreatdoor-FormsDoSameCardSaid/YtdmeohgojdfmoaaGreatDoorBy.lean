/- The law FormsDoSame, walked. -/
import Derived.Test.YtdmeohgojdfmoaaGreatDoorRb
import Derived.Test.YtdmeohgojdfmoaaGreatDoorGe
import Derived.Test.YtdmeohgojdfmoaaGreatDoorRy
import Derived.Test.YtdmeohgojdfmoaaGreatDoorPvo
import Derived.Test.YtdmeohgojdfmoaaGreatDoorPvq
import Derived.Test.YtdmeohgojdfmoaaGreatDoorPvx
import Derived.Test.YtdmeohgojdfmoaaGreatDoorXy
set_option linter.unusedSimpArgs false
set_option linter.unusedVariables false
/- The stream's right programs, by value; slices.Concat of steps. -/
namespace Go.Proofs.YtdmeohgojdfmoaaGreatDoor
open Go Go.RowKit
set_option maxRecDepth 100000
theorem acalls_frzk {P : Program} {f : FuncId} {args : List AV} {e : TypeId} {sz n : Nat} {rows : List (List CV)} (h : ACalls P f args [] fun u H => ∃ c : Nat, n ≤ c ∧ u = .o 0 0 n c ∧ H = [.arr e sz c rows]) (hn : rows.length = n) : ACalls P f args [] fun u H => ∃ v, u = .c (.r v rows) ∧ H = [] := fun S ρ w h1 h2 =>
  (h S ρ w h1 h2).mono fun e' w' ⟨u, H', ρ', S', h3, ⟨c, hc, hu, hH⟩, h4, h5, h6, h7, h8, h9, h10⟩ => by
    subst hu; subst hH
    obtain ⟨k1, k2⟩ := (Cvt.frz (g := AV.den ρ' _) (m := []) rfl rfl (by rw [List.drop_zero, List.take_of_length_le (by omega)]) hn rfl).sound h5 rfl (CvH.nil) h4
    refine ⟨_, [], reB ρ' [], _, h3.trans (congrArg Ending.returned k1.symm), ⟨_, rfl, rfl⟩, k2, h5.re rfl (by simp) (CvH.nil (g := AV.den ρ' _) (fz := true)), h6, fun b hb => ?_, fun i B hi => by rw [atB_reB] at hi; simp at hi, fun i hi => absurd hi (Nat.not_lt_zero _), fun h => by cases h⟩
    rcases hb with hb | ⟨_, b2, e, sz, cap, rows, g3, g4, g5⟩
    · exact h7 b hb
    · rcases h8 b2 b g3 with g6 | ⟨g6, _⟩
      · exact .inr g6
      · exact absurd g6 (Nat.not_lt_zero _)
theorem rightsteps_a (most : Int) (v : Value) (zs : List Int) (a : Int) (hs : StrOk zs) (h0 : 0 ≤ a) (h1 : a ≤ 600000000) (hm : 0 ≤ most) (hm2 : most ≤ 1000) :
    ACalls Tryz.prog 32 [.p 0 0 0, .c (I most)] [strm v zs a] fun u H => ∃ (v' : Value) (l : List Step) (a' : Int), u = .c (prog_r v' l) ∧ H = [strm v zs a'] ∧ a ≤ a' ∧ a' ≤ a + 200000 ∧ progF l = 0 ∧ (∀ s ∈ l, s.ok) ∧ l.length ≤ most + 6 := by
  refine acalls_of (N := 16) Tryz.func32 rfl rfl (by simp) fun E hE => ?_
  refine WA ?_
  refine WA ?_
  refine aw_loopw (fun m F H => ∃ (k : Nat) (a' : Int), m + k = 6 ∧ a ≤ a' ∧ a' ≤ a + 20020 * k ∧ F = [(0, .p 0 0 0), (1, .c (I most)), (6, .c (I k))] ∧ H = [strm v zs a']) ?_ ?_
  · refine wk_of [some 0] (fun _ => [(0, .p 0 0 0), (1, .c (I most)), (6, .c (I (0 : Nat)))]) (fun _ => [strm v zs _]) (by decide) (ZNL hE) ZCF ZCH (fun _ => ?_)
    exact ⟨6, 0, a, by omega, by omega, by omega, rfl, rfl⟩
  rintro m F H ⟨k, a', hk, ha1, ha2, rfl, rfl⟩
  refine WA ?_
  refine aw_if rfl (fun hlt => ?_) (fun hge => ?_)
  · refine WR ?_
    refine al_ef rfl (ef_callm false (fun _ => steplist_a most v zs _ hs (by omega) (by omega) (by omega) (by omega)) rfl .fn rfl (by decide) (by kernel_rfl) rfl rfl (fun _g => .cons (.p rfl) (.cons (.c rfl) .nil)) (fun _g => .cons (.c rfl) (.cons (.c rfl) .nil)) (by simp)) ?_
    rintro F1 H1 ⟨_, _, _, _, ⟨l, c, a1, rfl, hq, hb1, hb2, hok, hln⟩, hF, hH⟩
    injection hq with hq1 hq2; subst hq1; subst hq2
    (try simp only [nsl, Nat.reduceAdd, Nat.reduceLT, Nat.reduceSub] at hF); (try simp only [nsl, Nat.reduceAdd, Nat.reduceLT, Nat.reduceSub] at hH); subst hF; subst hH
    refine WE ?_
    refine WR ?_
    refine al_ef rfl (ef_call0 true (fun g => qsteps_a l (g (.o 1 0 l.length c)) (by omega)) rfl .fn rfl (by decide) (by kernel_rfl) rfl (fun _ => .cons (.frz rfl rfl (by rw [List.drop_zero, List.take_of_length_le (by simp)]) (by simp) rfl) .nil) (fun _ _ _ _ ⟨hu, hH⟩ => by rw [hu, hH]; exact ⟨.c (.inl trivial), by simp⟩)) ?_
    rintro _ _ ⟨_, _, _, ⟨rfl, rfl⟩, hF, hH⟩
    (try simp only [nsl, Nat.reduceAdd, Nat.reduceLT, Nat.reduceSub] at hF); (try simp only [nsl, Nat.reduceAdd, Nat.reduceLT, Nat.reduceSub] at hH); subst hF; subst hH
    refine WE ?_
    refine aw_if rfl (fun hp => ?_) (fun hp => ?_)
    · refine WA ?_
      exact aret_f1 [some 0] [strm v zs a1] rfl rfl rfl rfl (by rw [List.drop_zero, List.take_of_length_le (by simp)]) (by simp) (by decide) (by decide) (ZNK rfl) ZCH (fun v' => ⟨v', l, a1, rfl, rfl, by omega, by omega, hp, hok, hln⟩)
    · refine ZZ ?_
      refine WA ?_
      refine wk_of [some 0] (fun _ => [(0, .p 0 0 0), (1, .c (I most)), (6, .c (I (k + 1 : Nat)))]) (fun _ => [strm v zs _]) (by decide) (ZNL hE) ZCF ZCH (fun _ => ?_)
      exact ⟨m - 1, by omega, k + 1, a1, by omega, by omega, by omega, rfl, rfl⟩
  refine ZZ ?_
  refine WA ?_
  exact aret_1 [some 0] _ rfl rfl rfl (by decide) (ZNK rfl) ZCH ⟨_, [], a', rfl, rfl, by omega, by omega, by decide, by simp, by simp; omega⟩
theorem growS_a (n : Nat) (hn : n ≤ 1000000) : ACalls Tryz.prog 94 [.c (.r (.slice none 0 0) []), .c (I n)] [] fun u H => ∃ (c : Nat) (rows : List (List CV)), n ≤ c ∧ u = .o 0 0 0 c ∧ H = [.arr 68 6 c rows] := by
  refine acalls_of (N := 27) Tryz.func94 rfl rfl (by simp) fun E hE => ?_
  refine aw_wk (wk_of (K := fun F H => F = [(0, .o 0 0 0 0), (1, .c (I n))] ∧ H = [.arr 68 6 0 []]) [none] (fun _ => [(0, .o 0 0 0 0), (1, .c (I n))]) (fun _ => [.arr 68 6 0 []]) (by decide) (ZNL hE) ZCF ZCH (fun _ => ⟨rfl, rfl⟩)) ?_
  rintro F H ⟨rfl, rfl⟩
  refine WA ?_
  refine WA ?_
  refine aw_cond_f rfl ?_
  refine ZZ ?_
  rcases Nat.eq_zero_or_pos n with h0 | hp
  · refine WA ?_
    refine WA ?_
    refine aw_cond_f rfl ?_
    refine ZZ ?_
    refine WA ?_
    exact aret_o [some 0] (fun _ => [.arr 68 6 0 []]) rfl rfl rfl rfl rfl (by decide) (ZNK rfl) ZCH (fun _ => ⟨0, [], by omega, rfl, rfl⟩)
  · refine WA ?_
    refine WA ?_
    refine aw_cond_t rfl ?_
    refine ZR ?_
    iterate 3 refine WX1 ?_
    refine ZA (rd_slicee (l := 0) (h := 0) rfl (KE (t := 54) rfl) rfl rfl (.inl ⟨rfl, rfl⟩) (.inr ⟨_, _, _, rfl, rfl, rfl⟩) rfl rfl) ?_
    refine WO ?_
    refine al_ef rfl (ef_appz (n := n) rfl rfl (by decide) (KA (t := 54) rfl) Tryz.underlying3 rfl rfl rfl (by omega) (by omega) (by omega) (KZ (t := 68) rfl) rfl rfl) ?_
    rintro _ _ ⟨c2, hc2, rfl, rfl⟩
    iterate 2 refine WX1 ?_
    refine ZA (rd_slice (l := 0) (h := 0) rfl (KE (t := 54) rfl) rfl rfl (.inl ⟨rfl, rfl⟩) (.inr ⟨_, _, _, rfl, rfl, rfl⟩) (by omega) (by omega) (by omega)) ?_
    refine WE ?_
    refine WA ?_
    exact aret_o [some 1] (fun _ => [.arr 68 6 c2 (List.replicate n [I 0, I 0, I 0, I 0, I 0, I 0])]) rfl rfl rfl rfl rfl (by decide) (ZNK rfl) ZCH (fun _ => ⟨c2, _, by omega, rfl, rfl⟩)
theorem concatS_a (ps : List (Value × List (List CV))) (v : Value) (hR : ∀ p ∈ ps, OkR 6 p.2) (h1 : 1 ≤ ps.length) (hl : ps.length ≤ 1000) (hn : (catR ps).length ≤ 1000000) :
    ACalls Tryz.prog 37 [.c (.r v (ps.map fun p => [.r p.1 p.2]))] [] fun u H => ∃ (c : Nat), (catR ps).length ≤ c ∧ u = .o 0 0 (catR ps).length c ∧ H = [.arr 68 6 c (catR ps)] := by
  have e1 : (ps.map fun p => [CV.r p.1 p.2]).length = ps.length := by simp
  refine acalls_of (N := 36) Tryz.func37 rfl rfl (by simp) fun E hE => ?_
  refine WA ?_
  refine WA ?_
  refine WA ?_
  refine aw_loopw (fun m F H => ∃ (k : Nat), m + k = ps.length ∧ F = [(0, .c (.r v (ps.map fun p => [.r p.1 p.2]))), (3, .c (I (catR (ps.take k)).length)), (9, .c (.r v (ps.map fun p => [.r p.1 p.2]))), (10, .c (I (ps.map fun p => [CV.r p.1 p.2]).length)), (11, .c (I k))] ∧ H = []) ?_ ?_
  · refine wk_of [] (fun _ => [(0, .c (.r v (ps.map fun p => [.r p.1 p.2]))), (3, .c (I (catR (ps.take 0)).length)), (9, .c (.r v (ps.map fun p => [.r p.1 p.2]))), (10, .c (I (ps.map fun p => [CV.r p.1 p.2]).length)), (11, .c (I (0 : Nat)))]) (fun _ => _) (by decide) (ZNL hE) ZCF (fun _ => .nil) (fun _ => ?_)
    exact ⟨ps.length, 0, by omega, rfl, rfl⟩
  · rintro m F H ⟨k, hk, rfl, rfl⟩
    refine WA ?_
    refine aw_if rfl (fun hlt => ?_) (fun hge => ?_)
    · obtain ⟨p, hp⟩ : ∃ p, ps[k]? = some p := ⟨_, List.getElem?_eq_getElem (by omega)⟩
      have hrow : (ps.map fun p => [CV.r p.1 p.2])[k]? = some [.r p.1 p.2] := by rw [List.getElem?_map, hp]; rfl
      have hpl := catR_part hp
      refine WA ?_
      refine WA ?_
      refine WA ?_
      refine aw_cond_f rfl ?_
      refine ZZ ?_
      refine WA ?_
      refine wk_of [] (fun _ => [(0, .c (.r v (ps.map fun p => [.r p.1 p.2]))), (3, .c (I (((catR (ps.take k)).length : Int) + p.2.length))), (9, .c (.r v (ps.map fun p => [.r p.1 p.2]))), (10, .c (I (ps.map fun p => [CV.r p.1 p.2]).length)), (11, .c (I (k + 1 : Nat)))]) (fun _ => _) (by decide) (ZNL hE) ZCF (fun _ => .nil) (fun _ => ?_)
      exact ⟨m - 1, by omega, k + 1, by omega, by rw [catR_next hp, List.length_append]; rfl, rfl⟩
    obtain rfl : k = ps.length := by omega
    refine ZZ ?_
    have e3 : ((catR (ps.take ps.length)).length : Int) = (catR ps).length := by rw [List.take_length]
    refine aw_wk (wk_of (K := fun F H => F = [(0, .c (.r v (ps.map fun p => [.r p.1 p.2]))), (3, .c (I (catR ps).length))] ∧ H = []) [] (fun _ => [(0, .c (.r v (ps.map fun p => [.r p.1 p.2]))), (3, .c (I (catR ps).length))]) (fun _ => _) (by decide) (ZNL hE) (fun _ => .cons rfl (.c rfl) (.cons rfl (.c (by rw [e3])) .nil)) (fun _ => .nil) (fun _ => ⟨rfl, rfl⟩)) ?_
    rintro F H ⟨rfl, rfl⟩
    refine WR ?_
    refine al_ef rfl (ef_call0 false (fun _ => growS_a (catR ps).length (by omega)) rfl .fn rfl (by decide) (by kernel_rfl) rfl (fun _ => C0 rfl) (by simp)) ?_
    rintro _ _ ⟨_, _, _, ⟨c, rows, hc, rfl, rfl⟩, hF, hH⟩
    (try simp only [nsl, Nat.reduceAdd, Nat.reduceLT, Nat.reduceSub] at hF); (try simp only [nsl, Nat.reduceAdd, Nat.reduceLT, Nat.reduceSub] at hH); subst hF; subst hH
    refine WE ?_
    refine WA ?_
    refine aw_loopw (fun m F H => ∃ (k c : Nat) (rows : List (List CV)), m + k = ps.length ∧ (catR (ps.take k)).length ≤ c ∧ (catR ps).length ≤ c ∧ (catR (ps.take k)).length ≤ rows.length ∧ rows.take (catR (ps.take k)).length = catR (ps.take k) ∧ (1 ≤ k → rows = catR (ps.take k)) ∧ F = [(6, .o 0 0 (catR (ps.take k)).length c), (25, .c (.r v (ps.map fun p => [.r p.1 p.2]))), (26, .c (I (ps.map fun p => [CV.r p.1 p.2]).length)), (27, .c (I k))] ∧ H = [.arr 68 6 c rows]) ?_ ?_
    · refine wk_of [some 0] (fun _ => [(6, .o 0 0 (catR (ps.take 0)).length c), (25, .c (.r v (ps.map fun p => [.r p.1 p.2]))), (26, .c (I (ps.map fun p => [CV.r p.1 p.2]).length)), (27, .c (I (0 : Nat)))]) (fun _ => _) (by decide) (ZNL hE) ZCF ZCH (fun _ => ?_)
      exact ⟨ps.length, 0, c, rows, by omega, by simp [catR], hc, by simp [catR], by simp [catR], by omega, rfl, rfl⟩
    rintro m F H ⟨k, c, rows, hk, hc1, hc, hq, hrt, hre, rfl, rfl⟩
    refine WA ?_
    refine aw_if rfl (fun hlt => ?_) (fun hge => ?_)
    · obtain ⟨p, hp⟩ : ∃ p, ps[k]? = some p := ⟨_, List.getElem?_eq_getElem (by omega)⟩
      have hrow : (ps.map fun p => [CV.r p.1 p.2])[k]? = some [.r p.1 p.2] := by rw [List.getElem?_map, hp]; rfl
      have hpl := catR_part hp
      have hnx := catR_next hp
      refine WA ?_
      refine WR ?_
      refine al_ef rfl (ef_appc (b := 0) (n := (catR (ps.take k)).length) (cap := c) (news := p.2) rfl rfl (by decide) (KA (t := 54) rfl) rfl rfl hq rfl (.ro (fun r h => (hR p (List.mem_of_getElem? hp) r h).1) (fun r h => (hR p (List.mem_of_getElem? hp) r h).2)) (by omega)) ?_
      rintro F1 H1 ⟨_, c2, hc2, hcf, hF, hH⟩
      obtain rfl : c = c2 := (hcf (by omega)).symm
      (try simp only [List.set_cons_zero, List.set_cons_succ, updH, posOf, lentArr, killF, killO, killV, AV.has, AV.hasL, AV.emb, AV.embL, OB.emb, embB, List.filter_cons, List.filter_nil, List.getElem?_cons_zero, List.getElem?_cons_succ, List.getD_cons_zero, List.getD_cons_succ, List.drop_succ_cons, List.drop_zero, List.drop_nil, List.contains_cons, List.contains_nil, Nat.reduceBEq, Nat.reduceEqDiff, beq_self_eq_true, Bool.or_false, Bool.false_or, Bool.or_true, Bool.true_or, Bool.false_eq_true, Option.map_some, Option.map_none, List.map_cons, List.map_nil, List.cons_append, List.nil_append, List.append_nil, List.length_cons, List.length_nil, Nat.reduceAdd, Nat.reduceLT, Nat.reduceSub, if_true, if_false, Nat.zero_add, Nat.add_zero, Nat.sub_zero, Nat.lt_irrefl, Nat.not_lt_zero, Nat.zero_lt_one, Nat.lt_add_one] at hF); (try simp only [List.set_cons_zero, List.set_cons_succ, updH, posOf, lentArr, killF, killO, killV, AV.has, AV.hasL, AV.emb, AV.embL, OB.emb, embB, List.filter_cons, List.filter_nil, List.getElem?_cons_zero, List.getElem?_cons_succ, List.getD_cons_zero, List.getD_cons_succ, List.drop_succ_cons, List.drop_zero, List.drop_nil, List.contains_cons, List.contains_nil, Nat.reduceBEq, Nat.reduceEqDiff, beq_self_eq_true, Bool.or_false, Bool.false_or, Bool.or_true, Bool.true_or, Bool.false_eq_true, Option.map_some, Option.map_none, List.map_cons, List.map_nil, List.cons_append, List.nil_append, List.append_nil, List.length_cons, List.length_nil, Nat.reduceAdd, Nat.reduceLT, Nat.reduceSub, if_true, if_false, Nat.zero_add, Nat.add_zero, Nat.sub_zero, Nat.lt_irrefl, Nat.not_lt_zero, Nat.zero_lt_one, Nat.lt_add_one] at hH); subst hF; subst hH
      refine WE ?_
      refine WA ?_
      refine wk_of [some 0] (fun _ => [(6, .o 0 0 (catR (ps.take (k + 1))).length _), (25, .c (.r v (ps.map fun p => [.r p.1 p.2]))), (26, .c (I (ps.map fun p => [CV.r p.1 p.2]).length)), (27, .c (I (k + 1 : Nat)))]) (fun _ => _) (by decide) (ZNL hE) (fun _ => .cons rfl (.o rfl (by rw [hnx, List.length_append])) (.cons rfl (.c rfl) (.cons rfl (.c rfl) (.cons rfl (.c (by simp)) .nil)))) ZCH (fun _ => ?_)
      exact ⟨m - 1, by omega, k + 1, _, _, by omega, by rw [hnx, List.length_append]; omega, hc, by rw [hnx, hrt]; simp, by rw [hnx, hrt, List.take_length], fun _ => by rw [hnx, hrt], rfl, rfl⟩
    obtain rfl : k = ps.length := by omega
    obtain rfl : rows = catR ps := by have := hre h1; rwa [List.take_length] at this
    refine ZZ ?_
    refine WA ?_
    exact aret_o [some 0] (fun _ => [.arr 68 6 c (catR ps)]) rfl rfl rfl (by rw [List.take_length]) rfl (by decide) (ZNK rfl) ZCH (fun _ => ⟨c, hc, rfl, rfl⟩)
end Go.Proofs.YtdmeohgojdfmoaaGreatDoor

/- Runs that gather steps; the absolute form, by value. -/
namespace Go.Proofs.YtdmeohgojdfmoaaGreatDoor
open Go Go.RowKit
set_option maxRecDepth 100000
theorem placed_a (n : Int) : ACalls Tryz.prog 103 [.c (I n)] [] fun u H => ∃ b : Bool, u = .c (B b) ∧ H = [] ∧ ((b = true ∧ (n = 3 ∨ n = 4)) ∨ (b = false ∧ ¬ (n = 3 ∨ n = 4))) := by
  refine acallsx_of false (N := 9) Tryz.func103 rfl rfl (by simp) fun E hE hP => ?_
  by_cases h1 : n = 3
  · repeat' (first
      | (with_reducible refine aw_seq ?_) | (with_reducible refine aseq_n ?_) | (with_reducible refine aseq_r ?_) | (with_reducible refine ablk_n ?_) | (with_reducible refine ablk_r ?_) | (with_reducible refine ablk_e ?_) | (with_reducible refine ablk_o rfl ?_) | (with_reducible refine aseq_e ?_) | (with_reducible refine aw_skip ?_) | (with_reducible refine aw_block ?_) | (with_reducible refine aw_ret ?_) | (with_reducible refine aw_exit ?_)
      | refine aw_cond_t rfl ?_ | refine aw_cond_f rfl ?_ | refine aw_if_t rfl (by assumption) ?_ | refine aw_if_f rfl (by assumption) ?_ | refine aw_if rfl (fun _ => ?_) (fun _ => ?_) | refine aw_cond rfl (fun _ => ?_) (fun _ => ?_)
      | (refine aw_region ?_; refine WE ?_))
    exact aret_1 [] _ rfl rfl rfl (by decide) (ZNK rfl) (fun _ => .nil) ⟨true, rfl, rfl, .inl ⟨rfl, .inl h1⟩⟩
  · by_cases h2 : n = 4
    · repeat' (first
        | (with_reducible refine aw_seq ?_) | (with_reducible refine aseq_n ?_) | (with_reducible refine aseq_r ?_) | (with_reducible refine ablk_n ?_) | (with_reducible refine ablk_r ?_) | (with_reducible refine ablk_e ?_) | (with_reducible refine ablk_o rfl ?_) | (with_reducible refine aseq_e ?_) | (with_reducible refine aw_skip ?_) | (with_reducible refine aw_block ?_) | (with_reducible refine aw_ret ?_) | (with_reducible refine aw_exit ?_)
        | refine aw_cond_t rfl ?_ | refine aw_cond_f rfl ?_ | refine aw_if_t rfl (by assumption) ?_ | refine aw_if_f rfl (by assumption) ?_ | refine aw_if rfl (fun _ => ?_) (fun _ => ?_) | refine aw_cond rfl (fun _ => ?_) (fun _ => ?_)
        | (refine aw_region ?_; refine WE ?_))
      exact aret_1 [] _ rfl rfl rfl (by decide) (ZNK rfl) (fun _ => .nil) ⟨true, rfl, rfl, .inl ⟨rfl, .inr h2⟩⟩
    · repeat' (first
        | (with_reducible refine aw_seq ?_) | (with_reducible refine aseq_n ?_) | (with_reducible refine aseq_r ?_) | (with_reducible refine ablk_n ?_) | (with_reducible refine ablk_r ?_) | (with_reducible refine ablk_e ?_) | (with_reducible refine ablk_o rfl ?_) | (with_reducible refine aseq_e ?_) | (with_reducible refine aw_skip ?_) | (with_reducible refine aw_block ?_) | (with_reducible refine aw_ret ?_) | (with_reducible refine aw_exit ?_)
        | refine aw_cond_t rfl ?_ | refine aw_cond_f rfl ?_ | refine aw_if_t rfl (by assumption) ?_ | refine aw_if_f rfl (by assumption) ?_ | refine aw_if rfl (fun _ => ?_) (fun _ => ?_) | refine aw_cond rfl (fun _ => ?_) (fun _ => ?_)
        | (refine aw_region ?_; refine WE ?_))
      exact aret_1 [] _ rfl rfl rfl (by decide) (ZNK rfl) (fun _ => .nil) ⟨false, rfl, rfl, .inr ⟨rfl, by omega⟩⟩
/-- The blocks of a run that gathers steps. -/
abbrev gath (l : List Step) (v : Value) (c : Nat) (o : List Step) : List OB := [.box [.c (prog_r v l)], .box [.o 2 0 o.length c], .arr 68 6 c (o.map Step.row)]
theorem runS_a (fn : FuncId) (hfn : okFn Tryz.prog fn = true) (J : Nat → List Step → Prop) (l : List Step) (v : Value) (hl : l.length ≤ 1000000) (hok : ∀ s ∈ l, s.ok)
    (hst : ∀ k c o s, l[k]? = some s → J k o → k ≤ 1000000 → ACalls Tryz.prog fn [.c (I k), .a ((lastS (l.take k)).row.map .c), .a ((afterS (lastS (l.take k)) s).row.map .c), .p 0 0 0, .p 1 0 0] (gath l v c o) fun u H => ∃ c' o', u = .t [] ∧ J (k + 1) o' ∧ H = gath l v c' o') (c0 : Nat) (o0 : List Step) (h0 : J 0 o0) :
    ACalls Tryz.prog 91 [.c (prog_r v l), .f (.func fn) [.p 0 0 0, .p 1 0 0]] (gath l v c0 o0) fun u H => ∃ c o, u = .a ((lastS l).row.map .c) ∧ J l.length o ∧ H = gath l v c o := by
  have e1 : (l.map Step.row).length = l.length := by simp
  refine acallsx_of false (N := 27) Tryz.func91 rfl rfl (by simp) fun E hE hP => ?_
  refine WA ?_
  refine WA ?_
  refine WA ?_
  refine aw_loopw (fun n F H => ∃ (k c : Nat) (o : List Step), n + k = l.length ∧ J k o ∧ F = [(1, .f (.func fn) [.p 0 0 0, .p 1 0 0]), (4, .p 3 0 0), (5, .p 4 0 0), (9, .c (prog_r v l)), (10, .c (I (l.map Step.row).length)), (11, .c (I k))] ∧ H = [.box [.c (prog_r v l)], .box [.o 2 0 o.length c], .arr 68 6 c (o.map Step.row), .box (Mach.zero.row.map .c), .box ((lastS (l.take k)).row.map .c)]) ?_ ?_
  · refine wk_of [some 0, some 1, some 2, some 3, some 4] (fun _ => [(1, .f (.func fn) [.p 0 0 0, .p 1 0 0]), (4, .p 3 0 0), (5, .p 4 0 0), (9, .c (prog_r v l)), (10, .c (I (l.map Step.row).length)), (11, .c (I (0 : Nat)))]) (fun _ => [.box [.c (prog_r v l)], .box [.o 2 0 o0.length c0], .arr 68 6 c0 (o0.map Step.row), .box (Mach.zero.row.map .c), .box ((lastS (l.take 0)).row.map .c)]) (by decide) (ZNL hE) ZCF ZCH (fun _ => ?_)
    exact ⟨l.length, 0, c0, o0, by omega, h0, rfl, rfl⟩
  rintro n F H ⟨k, c, o, hk, hJ, rfl, rfl⟩
  refine WA ?_
  refine aw_if rfl (fun hlt => ?_) (fun hge => ?_)
  · obtain ⟨s, hs⟩ : ∃ s, l[k]? = some s := ⟨_, List.getElem?_eq_getElem (by omega)⟩
    have hrow : (l.map Step.row)[k]? = some s.row := by rw [List.getElem?_map, hs]; rfl
    have hso := hok s (List.mem_of_getElem? hs)
    refine WA ?_
    refine WA ?_
    refine WR ?_
    refine al_ef rfl (ef_call0 false (fun _ => after_a (lastS (l.take k)) s hso) rfl .fn rfl (by decide) (by kernel_rfl) rfl (fun _ => C0 rfl) (by simp)) ?_
    rintro _ _ ⟨_, _, _, ⟨rfl, rfl⟩, hF, hH⟩
    (try simp only [nsl, Nat.reduceAdd, Nat.reduceLT, Nat.reduceSub] at hF); (try simp only [nsl, Nat.reduceAdd, Nat.reduceLT, Nat.reduceSub] at hH); subst hF; subst hH
    refine WE ?_
    refine WR ?_
    refine al_ef rfl (ef_call [0, 1, 2] (fun _ => [.box [.c (prog_r v l)], .box [.o 2 0 o.length c], .arr 68 6 c (o.map Step.row)]) false (fun _ => hst k c o s hs hJ (by omega)) rfl (.clo rfl) rfl (by decide) hfn rfl ZCH (by decide) ZCH (by simp)) ?_
    rintro F1 H1 ⟨_, _, _, _, ⟨c', o', rfl, hJ', hq⟩, hF, hH⟩
    subst hq
    (try simp only [List.set_cons_zero, List.set_cons_succ, updH, posOf, lentArr, killF, killO, killV, AV.has, AV.hasL, AV.emb, AV.embL, OB.emb, embB, List.filter_cons, List.filter_nil, List.getElem?_cons_zero, List.getElem?_cons_succ, List.getD_cons_zero, List.getD_cons_succ, List.drop_succ_cons, List.drop_zero, List.drop_nil, List.contains_cons, List.contains_nil, Nat.reduceBEq, Nat.reduceEqDiff, beq_self_eq_true, Bool.or_false, Bool.false_or, Bool.or_true, Bool.true_or, Bool.false_eq_true, Option.map_some, Option.map_none, List.map_cons, List.map_nil, List.cons_append, List.nil_append, List.append_nil, List.length_cons, List.length_nil, Nat.reduceAdd, Nat.reduceLT, Nat.reduceSub, if_true, if_false, Nat.zero_add, Nat.add_zero, Nat.sub_zero, Nat.lt_irrefl, Nat.not_lt_zero, Nat.zero_lt_one, Nat.lt_add_one] at hF); (try simp only [List.set_cons_zero, List.set_cons_succ, updH, posOf, lentArr, killF, killO, killV, AV.has, AV.hasL, AV.emb, AV.embL, OB.emb, embB, List.filter_cons, List.filter_nil, List.getElem?_cons_zero, List.getElem?_cons_succ, List.getD_cons_zero, List.getD_cons_succ, List.drop_succ_cons, List.drop_zero, List.drop_nil, List.contains_cons, List.contains_nil, Nat.reduceBEq, Nat.reduceEqDiff, beq_self_eq_true, Bool.or_false, Bool.false_or, Bool.or_true, Bool.true_or, Bool.false_eq_true, Option.map_some, Option.map_none, List.map_cons, List.map_nil, List.cons_append, List.nil_append, List.append_nil, List.length_cons, List.length_nil, Nat.reduceAdd, Nat.reduceLT, Nat.reduceSub, if_true, if_false, Nat.zero_add, Nat.add_zero, Nat.sub_zero, Nat.lt_irrefl, Nat.not_lt_zero, Nat.zero_lt_one, Nat.lt_add_one] at hH); subst hF; subst hH
    refine WE ?_
    refine WA ?_
    refine wk_of [some 0, some 1, some 2, some 3, some 4] (fun _ => [(1, .f (.func fn) [.p 0 0 0, .p 1 0 0]), (4, .p 3 0 0), (5, .p 4 0 0), (9, .c (prog_r v l)), (10, .c (I (l.map Step.row).length)), (11, .c (I (k + 1 : Nat)))]) (fun _ => [.box [.c (prog_r v l)], .box [.o 2 0 o'.length c'], .arr 68 6 c' (o'.map Step.row), .box (Mach.zero.row.map .c), .box ((afterS (lastS (l.take k)) s).row.map .c)]) (by decide) (ZNL hE) ZCF ZCH (fun _ => ?_)
    exact ⟨n - 1, by omega, k + 1, c', o', by omega, hJ', rfl, by rw [lastS_succ hs]⟩
  refine WA ?_
  obtain rfl : k = l.length := by omega
  refine aret_a [some 0, some 1, some 2] [.box [.c (prog_r v l)], .box [.o 2 0 o.length c], .arr 68 6 c (o.map Step.row)] rfl (KK (t := 60) rfl) rfl (Cells.box rfl) (by simp) (by (try simp only [nm, putL, Nat.reduceAdd, cellsOf, cvOf]) <;> rfl) (by decide) (ZNK rfl) (fun _ => C0 rfl) ZCH ⟨c, o, ?_, hJ, rfl⟩
  rw [List.take_of_length_le (by omega)]; rfl
/-- What a step gives in the absolute form. -/
def absE (is : Mach) (s : Step) : List Step := if s.k = 1 ∨ s.k = 2 then [] else [absStep is s]
theorem absolute1_a (k : Nat) (was is : Mach) (o : List Step) (c : Nat) (l : List Step) (v : Value) (s : Step) (hs : l[k]? = some s) (ho : o.length ≤ 1000000) :
    ACalls Tryz.prog 143 [.c (I k), .a (was.row.map .c), .a (is.row.map .c), .p 0 0 0, .p 1 0 0] (gath l v c o) fun u H => ∃ c' o', u = .t [] ∧ o' = o ++ absE is s ∧ H = gath l v c' o' := by
  have hlk : k < l.length := (List.getElem?_eq_some_iff.1 hs).1
  have e1 : (l.map Step.row).length = l.length := by simp
  have hrow : (l.map Step.row)[k]? = some s.row := by rw [List.getElem?_map, hs]; rfl
  refine acallsx_of false (N := 43) Tryz.func143 rfl rfl (by simp) fun E hE hP => ?_
  refine WA ?_
  refine WA ?_
  by_cases h1 : s.k = 1
  · refine WA ?_
    refine aw_cond_t rfl ?_
    refine ZZ ?_
    exact aret_0 [some 0, some 1, some 2] (fun _ => [.box [.c (prog_r v l)], .box [.o 2 0 o.length c], .arr 68 6 c (o.map Step.row)]) (by first | exact .inl rfl | exact .inr rfl) rfl (by decide) (ZNK rfl) ZCH (fun _ => ⟨c, o, rfl, by rw [absE, if_pos (by omega), List.append_nil], rfl⟩)
  by_cases h2 : s.k = 2
  · refine WA ?_
    refine aw_cond_t rfl ?_
    refine ZZ ?_
    exact aret_0 [some 0, some 1, some 2] (fun _ => [.box [.c (prog_r v l)], .box [.o 2 0 o.length c], .arr 68 6 c (o.map Step.row)]) (by first | exact .inl rfl | exact .inr rfl) rfl (by decide) (ZNK rfl) ZCH (fun _ => ⟨c, o, rfl, by rw [absE, if_pos (by omega), List.append_nil], rfl⟩)
  refine WA ?_
  refine aw_cond_f rfl ?_
  refine ZZ ?_
  by_cases h3 : s.k = 3 ∨ s.k = 4
  · refine WR ?_
    refine al_ef rfl (ef_call0 false (fun _ => placed_a _) rfl .fn rfl (by decide) (by kernel_rfl) rfl (fun _g => .cons (.c rfl) .nil) (by simp)) ?_
    rintro _ _ ⟨_, _, _, ⟨bb, rfl, rfl, ⟨rfl, hb⟩ | ⟨rfl, hb⟩⟩, hF, hH⟩
    all_goals ((try simp only [nsl, Nat.reduceAdd, Nat.reduceLT, Nat.reduceSub] at hF); (try simp only [nsl, Nat.reduceAdd, Nat.reduceLT, Nat.reduceSub] at hH); subst hF; subst hH)
    all_goals (refine WE ?_)
    · refine aw_cond_t rfl ?_
      refine ZZ ?_
      refine aw_regionT [(0, none), (1, none), (2, none), (3, none), (4, none), (5, some [2, 3]), (6, none), (7, some [])] hMixed (by kernel_rfl) ?_
      refine WQ ?_
      all_goals skip
      refine WR ?_
      refine al_ef rfl (Zapp (KA (t := 54) rfl)) ?_
      rintro _ _ ⟨_, cc, hcc, rfl, rfl⟩
      refine WE ?_
      exact aret_0 [some 0, some 1, some 2] (fun _ => [.box [.c (prog_r v l)], .box [.o 2 0 (o ++ [(⟨s.k, is.x, is.y, s.z, s.f, s.n⟩ : Step)]).length cc], .arr 68 6 cc ((o ++ [(⟨s.k, is.x, is.y, s.z, s.f, s.n⟩ : Step)]).map Step.row)]) (.inr rfl) rfl (by decide) (ZNK rfl) ZCH (fun _ => ⟨cc, o ++ [(⟨s.k, is.x, is.y, s.z, s.f, s.n⟩ : Step)], rfl, by rw [absE, if_neg (by omega), absStep, if_pos h3], rfl⟩)
    · exact absurd h3 hb
  · refine WR ?_
    refine al_ef rfl (ef_call0 false (fun _ => placed_a _) rfl .fn rfl (by decide) (by kernel_rfl) rfl (fun _g => .cons (.c rfl) .nil) (by simp)) ?_
    rintro _ _ ⟨_, _, _, ⟨bb, rfl, rfl, ⟨rfl, hb⟩ | ⟨rfl, hb⟩⟩, hF, hH⟩
    all_goals ((try simp only [nsl, Nat.reduceAdd, Nat.reduceLT, Nat.reduceSub] at hF); (try simp only [nsl, Nat.reduceAdd, Nat.reduceLT, Nat.reduceSub] at hH); subst hF; subst hH)
    all_goals (refine WE ?_)
    · exact absurd hb h3
    · refine aw_cond_f rfl ?_
      refine ZZ ?_
      refine WA ?_
      refine aw_if rfl (fun h5 => ?_) (fun h5 => ?_)
      · refine WA ?_
        refine WR ?_
        refine al_ef rfl (Zapp (KA (t := 54) rfl)) ?_
        rintro _ _ ⟨_, cc, hcc, rfl, rfl⟩
        refine WE ?_
        exact aret_0 [some 0, some 1, some 2] (fun _ => [.box [.c (prog_r v l)], .box [.o 2 0 (o ++ [(⟨s.k, s.x, s.y, is.z, s.f, s.n⟩ : Step)]).length cc], .arr 68 6 cc ((o ++ [(⟨s.k, s.x, s.y, is.z, s.f, s.n⟩ : Step)]).map Step.row)]) (.inr rfl) rfl (by decide) (ZNK rfl) ZCH (fun _ => ⟨cc, o ++ [(⟨s.k, s.x, s.y, is.z, s.f, s.n⟩ : Step)], rfl, by rw [absE, if_neg (by omega), absStep, if_neg h3, if_pos h5], rfl⟩)
      · refine ZZ ?_
        refine WR ?_
        refine al_ef rfl (Zapp (KA (t := 54) rfl)) ?_
        rintro _ _ ⟨_, cc, hcc, rfl, rfl⟩
        refine WE ?_
        exact aret_0 [some 0, some 1, some 2] (fun _ => [.box [.c (prog_r v l)], .box [.o 2 0 (o ++ [s]).length cc], .arr 68 6 cc ((o ++ [s]).map Step.row)]) (.inr rfl) rfl (by decide) (ZNK rfl) ZCH (fun _ => ⟨cc, o ++ [s], rfl, by rw [absE, if_neg (by omega), absStep, if_neg h3, if_neg h5], rfl⟩)
end Go.Proofs.YtdmeohgojdfmoaaGreatDoor

/- Absolute, by value. -/
namespace Go.Proofs.YtdmeohgojdfmoaaGreatDoor
open Go Go.RowKit
set_option maxRecDepth 100000
def absJ (l : List Step) (k : Nat) (o : List Step) : Prop := o ++ absFrom (lastS (l.take k)) (l.drop k) = absS l ∧ o.length ≤ k
theorem absJ_next {l : List Step} {k : Nat} {o : List Step} {s : Step} (h : absJ l k o) (hs : l[k]? = some s) : absJ l (k + 1) (o ++ absE (afterS (lastS (l.take k)) s) s) := by
  obtain ⟨h1, h2⟩ := h
  refine ⟨?_, ?_⟩
  · rw [← h1, drop_cons hs, lastS_succ hs, absFrom, absE]
    split <;> simp
  · unfold absE; split <;> simp <;> omega
theorem absolute_a (l : List Step) (v : Value) (hl : l.length ≤ 1000000) (hok : ∀ s ∈ l, s.ok) : ACalls Tryz.prog 101 [.c (prog_r v l)] [] fun u H => ∃ v', u = .c (prog_r v' (absS l)) ∧ H = [] := by
  have h0 : absJ l 0 [] := ⟨rfl, Nat.le_refl _⟩
  have hst : ∀ k c o s, l[k]? = some s → absJ l k o → k ≤ 1000000 → ACalls Tryz.prog 143 [.c (I k), .a ((lastS (l.take k)).row.map .c), .a ((afterS (lastS (l.take k)) s).row.map .c), .p 0 0 0, .p 1 0 0] (gath l v c o) fun u H => ∃ c' o', u = .t [] ∧ absJ l (k + 1) o' ∧ H = gath l v c' o' := fun k c o s hs hJ hk => by
    refine (absolute1_a k (lastS (l.take k)) (afterS (lastS (l.take k)) s) o c l v s hs (by have := hJ.2; omega)).mono fun u H ⟨c', o', h1, h2, h3⟩ => ⟨c', o', h1, ?_, h3⟩
    rw [h2]; exact absJ_next hJ hs
  refine acallsx_of false (N := 8) Tryz.func101 rfl rfl (by simp) fun E hE hP => ?_
  refine WA ?_
  refine WR ?_
  refine al_nil ?_
  refine aseq_n ?_
  refine aw_wk (wk_of (K := fun F H => F = [(1, .p 0 0 0), (3, .p 1 0 0)] ∧ H = [.box [.c (prog_r v l)], .box [.o 2 0 0 0], .arr 68 6 0 []]) [some 0, some 1, none] (fun _ => [(1, .p 0 0 0), (3, .p 1 0 0)]) (fun _ => [.box [.c (prog_r v l)], .box [.o 2 0 0 0], .arr 68 6 0 []]) (by decide) (ZNL hE) ZCF ZCH (fun _ => ⟨rfl, rfl⟩)) ?_
  rintro F H ⟨rfl, rfl⟩
  refine WR ?_
  refine al_ef rfl (ef_call [0, 1, 2] (fun _ => [.box [.c (prog_r v l)], .box [.o 2 0 0 0], .arr 68 6 0 []]) false (fun _ => runS_a 143 (by kernel_rfl) (absJ l) l v hl hok hst 0 [] h0) rfl .fn rfl (by decide) (by kernel_rfl) rfl ZCH (by decide) ZCH (by simp)) ?_
  rintro F1 H1 ⟨_, _, _, _, ⟨c', o', rfl, hJ, hq⟩, hF, hH⟩
  subst hq
  (try simp only [List.set_cons_zero, List.set_cons_succ, updH, posOf, lentArr, killF, killO, killV, AV.has, AV.hasL, AV.emb, AV.embL, OB.emb, embB, List.filter_cons, List.filter_nil, List.getElem?_cons_zero, List.getElem?_cons_succ, List.getD_cons_zero, List.getD_cons_succ, List.drop_succ_cons, List.drop_zero, List.drop_nil, List.contains_cons, List.contains_nil, Nat.reduceBEq, Nat.reduceEqDiff, beq_self_eq_true, Bool.or_false, Bool.false_or, Bool.or_true, Bool.true_or, Bool.false_eq_true, Option.map_some, Option.map_none, List.map_cons, List.map_nil, List.cons_append, List.nil_append, List.append_nil, List.length_cons, List.length_nil, Nat.reduceAdd, Nat.reduceLT, Nat.reduceSub, if_true, if_false, Nat.zero_add, Nat.add_zero, Nat.sub_zero, Nat.lt_irrefl, Nat.not_lt_zero, Nat.zero_lt_one, Nat.lt_add_one] at hF); (try simp only [List.set_cons_zero, List.set_cons_succ, updH, posOf, lentArr, killF, killO, killV, AV.has, AV.hasL, AV.emb, AV.embL, OB.emb, embB, List.filter_cons, List.filter_nil, List.getElem?_cons_zero, List.getElem?_cons_succ, List.getD_cons_zero, List.getD_cons_succ, List.drop_succ_cons, List.drop_zero, List.drop_nil, List.contains_cons, List.contains_nil, Nat.reduceBEq, Nat.reduceEqDiff, beq_self_eq_true, Bool.or_false, Bool.false_or, Bool.or_true, Bool.true_or, Bool.false_eq_true, Option.map_some, Option.map_none, List.map_cons, List.map_nil, List.cons_append, List.nil_append, List.append_nil, List.length_cons, List.length_nil, Nat.reduceAdd, Nat.reduceLT, Nat.reduceSub, if_true, if_false, Nat.zero_add, Nat.add_zero, Nat.sub_zero, Nat.lt_irrefl, Nat.not_lt_zero, Nat.zero_lt_one, Nat.lt_add_one] at hH); subst hF; subst hH
  refine WE ?_
  obtain ⟨hJ1, hJ2⟩ := hJ
  rw [List.drop_eq_nil_of_le (Nat.le_refl _), absFrom, List.append_nil] at hJ1
  subst hJ1
  refine WA ?_
  exact aret_f1 [] [] rfl rfl rfl rfl (by rw [List.drop_zero, List.take_of_length_le (by simp)]) (by simp) (by decide) (by decide) (ZNK rfl) (fun _ => .nil) (fun v' => ⟨v', rfl, rfl⟩)
theorem checked_a (l : List Step) (v : Value) (hl : l.length ≤ 1000000) : ACalls Tryz.prog 100 [.c (prog_r v l)] [] fun u H => ∃ v', u = .t [.c (prog_r v' (if progF l = 0 then l else [])), .c (I (progF l))] ∧ H = [] := by
  refine acallsx_of false (N := 11) Tryz.func100 rfl rfl (by simp) fun E hE hP => ?_
  refine WA ?_
  refine WR ?_
  refine al_ef rfl (ef_call0 false (fun _ => check_a l v (by omega)) rfl .fn rfl (by decide) (by kernel_rfl) rfl (fun _ => C0 rfl) (by simp)) ?_
  rintro _ _ ⟨_, _, _, ⟨rfl, rfl⟩, hF, hH⟩
  (try simp only [nsl, Nat.reduceAdd, Nat.reduceLT, Nat.reduceSub] at hF); (try simp only [nsl, Nat.reduceAdd, Nat.reduceLT, Nat.reduceSub] at hH); subst hF; subst hH
  refine WE ?_
  refine WA ?_
  refine aw_if rfl (fun hne => ?_) (fun heq => ?_)
  · refine WA ?_
    exact aret_2 [] _ rfl rfl rfl rfl rfl (by decide) (ZNK rfl) (fun _ => .nil) ⟨_, by rw [if_neg hne]; rfl, rfl⟩
  · have h0 : progF l = 0 := by omega
    refine ZZ ?_
    refine WA ?_
    exact aret_2 [] _ rfl rfl rfl rfl rfl (by decide) (ZNK rfl) (fun _ => .nil) ⟨_, by rw [if_pos h0, h0], rfl⟩
def absF (l : List Step) : Int := if progF l ≠ 0 then progF l else progF (absS l)
theorem absolutex_a (l : List Step) (v : Value) (hl : l.length ≤ 1000000) (hok : ∀ s ∈ l, s.ok) : ACalls Tryz.prog 44 [.c (prog_r v l)] [] fun u H => ∃ v', u = .t [.c (prog_r v' (if absF l = 0 then absS l else [])), .c (I (absF l))] ∧ H = [] := by
  refine acallsx_of false (N := 15) Tryz.func44 rfl rfl (by simp) fun E hE hP => ?_
  refine WA ?_
  refine WR ?_
  refine al_ef rfl (ef_call0 false (fun _ => check_a l v (by omega)) rfl .fn rfl (by decide) (by kernel_rfl) rfl (fun _ => C0 rfl) (by simp)) ?_
  rintro _ _ ⟨_, _, _, ⟨rfl, rfl⟩, hF, hH⟩
  (try simp only [nsl, Nat.reduceAdd, Nat.reduceLT, Nat.reduceSub] at hF); (try simp only [nsl, Nat.reduceAdd, Nat.reduceLT, Nat.reduceSub] at hH); subst hF; subst hH
  refine WE ?_
  refine WA ?_
  refine aw_if rfl (fun hne => ?_) (fun heq => ?_)
  · have ha : absF l = progF l := by rw [absF, if_pos hne]
    rw [ha]
    refine WA ?_
    exact aret_2 [] _ rfl rfl rfl rfl rfl (by decide) (ZNK rfl) (fun _ => .nil) ⟨_, by rw [if_neg hne]; rfl, rfl⟩
  · have ha : absF l = progF (absS l) := by rw [absF, if_neg heq]
    rw [ha]
    have hal : (absS l).length ≤ l.length := absFrom_len l _
    refine ZZ ?_
    refine WR ?_
    refine al_ef rfl (ef_call0 false (fun _ => absolute_a l v hl hok) rfl .fn rfl (by decide) (by kernel_rfl) rfl (fun _ => C0 rfl) (by simp)) ?_
    rintro _ _ ⟨_, _, _, ⟨va, rfl, rfl⟩, hF, hH⟩
    (try simp only [nsl, Nat.reduceAdd, Nat.reduceLT, Nat.reduceSub] at hF); (try simp only [nsl, Nat.reduceAdd, Nat.reduceLT, Nat.reduceSub] at hH); subst hF; subst hH
    refine al_ef rfl (ef_call0 false (fun _ => checked_a (absS l) va (by omega)) rfl .fn rfl (by decide) (by kernel_rfl) rfl (fun _ => C0 rfl) (by simp)) ?_
    rintro _ _ ⟨_, _, _, ⟨vb, rfl, rfl⟩, hF, hH⟩
    (try simp only [nsl, Nat.reduceAdd, Nat.reduceLT, Nat.reduceSub] at hF); (try simp only [nsl, Nat.reduceAdd, Nat.reduceLT, Nat.reduceSub] at hH); subst hF; subst hH
    refine WE ?_
    exact aret_2 [] _ rfl rfl rfl rfl rfl (by decide) (ZNK rfl) (fun _ => .nil) ⟨_, rfl, rfl⟩
end Go.Proofs.YtdmeohgojdfmoaaGreatDoor

/- Plain law: the short form; what the program and its document leave out is the same. -/
namespace Go.Proofs.YtdmeohgojdfmoaaGreatDoor
open Go Go.RowKit
def keepB (was is : Mach) (x : Step) : Bool := if x.k = 4 then !(decide (x.f = 0) && decide (is.eq was)) else if x.k = 7 then !decide (x.n = 0) else !decide (is.eq was)
def keepD (m : Mach) (s : Step) : Bool := !decide ((afterS m s).eq m) || (decide (s.k = 7) && decide (0 < s.n))
theorem wrap_in (n : Int) : in64 (wrap64 n) := by
  unfold in64 wrap64
  omega
theorem afterS_fl {m : Mach} {s : Step} (h : in64 m.fl) : in64 (afterS m s).fl := by
  unfold afterS
  repeat' split
  all_goals first | exact h | exact wrap_in _
theorem fault_fn {s : Step} (h : faultS s = 0) : 0 ≤ s.f ∧ s.f ≤ 100000000 ∧ (s.k = 7 → 0 ≤ s.n) := by
  unfold faultS at h
  split at h
  · omega
  split at h
  · omega
  split at h
  · omega
  rename_i h1 h2 h3
  omega
theorem keep_same {m : Mach} {s : Step} (hf : faultS s = 0) (hm : in64 m.fl) : keepB m (afterS m s) s = keepD m s := by
  obtain ⟨f0, f1, fn⟩ := fault_fn hf
  unfold keepB keepD
  by_cases h4 : s.k = 4
  · have h7 : ¬ s.k = 7 := by omega
    rw [if_pos h4, decide_eq_false h7]
    by_cases hz : s.f = 0
    · rw [decide_eq_true hz]; simp
    · have hne : ¬ (afterS m s).eq m := fun he => by
        have h8 : (afterS m s).fl = m.fl := he.2.2.2.2.2.2.1
        have h9 : (afterS m s).fl = wrap64 (m.fl + s.f) := by
          unfold afterS
          rw [if_neg (by omega), if_neg (by omega), if_pos (.inr h4)]
        rw [h9] at h8
        unfold in64 at hm
        unfold wrap64 at h8
        omega
      rw [decide_eq_false hz, decide_eq_false hne]; simp
  · rw [if_neg h4]
    by_cases h7 : s.k = 7
    · have he : (afterS m s).eq m := by
        have : afterS m s = m := by
          unfold afterS
          rw [if_neg (by omega), if_neg (by omega), if_neg (by omega), if_neg (by omega), if_neg (by omega), if_neg (by omega), if_neg (by omega)]
        rw [this]; exact ⟨rfl, rfl, rfl, rfl, rfl, rfl, rfl, rfl⟩
      rw [if_pos h7, decide_eq_true he, decide_eq_true h7]
      have := fn h7
      by_cases hn : s.n = 0
      · rw [decide_eq_true hn, decide_eq_false (by omega)]; rfl
      · rw [decide_eq_false hn, decide_eq_true (by omega)]; rfl
    · rw [if_neg h7, decide_eq_false h7]; simp
def keepE (was is : Mach) (x : Step) : List Step := if keepB was is x then [x] else []
def keepFrom : Mach → List Step → List Step
  | _, [] => []
  | m, s :: l => keepE m (afterS m s) s ++ keepFrom (afterS m s) l
theorem keepFrom_len : ∀ (l : List Step) (m : Mach), (keepFrom m l).length ≤ l.length
  | [], _ => Nat.le_refl _
  | s :: l, m => by
    have := keepFrom_len l (afterS m s)
    unfold keepFrom keepE
    split <;> simp <;> omega
theorem keepFrom_mem : ∀ (l : List Step) (m : Mach), ∀ s ∈ keepFrom m l, s ∈ l
  | [], _, s, h => h
  | t :: l, m, s, h => by
    unfold keepFrom at h
    rcases List.mem_append.1 h with h | h
    · unfold keepE at h
      split at h
      · rw [List.mem_singleton.1 h]; simp
      · cases h
    · exact List.mem_cons_of_mem _ (keepFrom_mem l _ s h)
def sel (x : Step) (y : Option Step) : Bool := match y with
  | some y => decide (y.k = x.k) && (decide (x.k = 3) || decide (x.k = 5))
  | none => false
def dropN : List Step → List Step
  | [] => []
  | x :: l => if sel x l.head? then dropN l else x :: dropN l
theorem dropN_len : ∀ l : List Step, (dropN l).length ≤ l.length
  | [] => Nat.le_refl _
  | x :: l => by
    have := dropN_len l
    unfold dropN
    split <;> simp <;> omega
theorem dropN_mem : ∀ l : List Step, ∀ s ∈ dropN l, s ∈ l
  | [], s, h => h
  | x :: l, s, h => by
    unfold dropN at h
    split at h
    · exact List.mem_cons_of_mem _ (dropN_mem l s h)
    · rcases List.mem_cons.1 h with rfl | h
      · simp
      · exact List.mem_cons_of_mem _ (dropN_mem l s h)
theorem dropN_at {l : List Step} {k : Nat} {x : Step} (h : l[k]? = some x) : dropN (l.drop k) = if sel x l[k + 1]? then dropN (l.drop (k + 1)) else x :: dropN (l.drop (k + 1)) := by
  rw [drop_cons h, dropN, List.head?_drop]
def shortF (l : List Step) : List Step := dropN (keepFrom Mach.zero l)
theorem shortF_len (l : List Step) : (shortF l).length ≤ l.length := Nat.le_trans (dropN_len _) (keepFrom_len _ _)
theorem shortF_mem {l : List Step} : ∀ s ∈ shortF l, s ∈ l := fun s h => keepFrom_mem _ _ s (dropN_mem _ s h)
def shortI : Nat → List Step → List Step
  | 0, l => l
  | n + 1, l => if (shortF l).length = l.length then l else shortI n (shortF l)
def shortS (l : List Step) : List Step := shortI (l.length + 1) l
theorem shortI_mem : ∀ (n : Nat) (l : List Step), ∀ s ∈ shortI n l, s ∈ l
  | 0, l, s, h => h
  | n + 1, l, s, h => by
    unfold shortI at h
    split at h
    · exact h
    · exact shortF_mem s (shortI_mem n _ s h)
theorem shortI_len : ∀ (n : Nat) (l : List Step), (shortI n l).length ≤ l.length
  | 0, l => Nat.le_refl _
  | n + 1, l => by
    unfold shortI
    split
    · exact Nat.le_refl _
    · exact Nat.le_trans (shortI_len n _) (shortF_len l)
/-- Where the making stands. -/
def ShortJ (l out : List Step) : Prop := (∃ n, out.length < n ∧ shortI n out = shortS l) ∧ (∀ s ∈ out, s ∈ l) ∧ out.length ≤ l.length
theorem shortJ_zero (l : List Step) : ShortJ l l := ⟨⟨l.length + 1, by omega, rfl⟩, fun _ h => h, Nat.le_refl _⟩
theorem shortJ_end {l out : List Step} (h : ShortJ l out) (he : (shortF out).length = out.length) : out = shortS l := by
  obtain ⟨⟨n, hn, h1⟩, _⟩ := h
  obtain ⟨m, rfl⟩ : ∃ m, n = m + 1 := ⟨n - 1, by omega⟩
  rw [shortI, if_pos he] at h1
  exact h1
theorem shortJ_next {l out : List Step} (h : ShortJ l out) (he : ¬ (shortF out).length = out.length) : ShortJ l (shortF out) ∧ (shortF out).length < out.length := by
  obtain ⟨⟨n, hn, h1⟩, h2, h3⟩ := h
  obtain ⟨m, rfl⟩ : ∃ m, n = m + 1 := ⟨n - 1, by omega⟩
  rw [shortI, if_neg he] at h1
  have := shortF_len out
  exact ⟨⟨⟨m, by omega, h1⟩, fun s hs => h2 s (shortF_mem s hs), by omega⟩, by omega⟩
theorem last_fl {l : List Step} : in64 (lastS l).fl := by
  unfold lastS
  suffices ∀ (l : List Step) (m : Mach), in64 m.fl → in64 (l.foldl afterS m).fl from this l _ (by simp [in64])
  intro l
  induction l with
  | nil => exact fun m h => h
  | cons s l ih => exact fun m h => ih _ (afterS_fl h)
theorem first_faults : ∀ {l : List Step}, firstF l = 0 → ∀ s ∈ l, faultS s = 0
  | [], _, s, hs => by cases hs
  | t :: l, h, s, hs => by
    unfold firstF at h
    split at h
    · rename_i h0
      rcases List.mem_cons.1 hs with rfl | hs
      · exact h0
      · exact first_faults h s hs
    · rename_i h0; exact absurd h h0
theorem prog_faults {l : List Step} (h : progF l = 0) : ∀ s ∈ l, faultS s = 0 := by
  unfold progF at h
  split at h
  · omega
  · exact first_faults h
end Go.Proofs.YtdmeohgojdfmoaaGreatDoor

/- The short form, of the program and of its document, by value. -/
namespace Go.Proofs.YtdmeohgojdfmoaaGreatDoor
open Go Go.RowKit
set_option maxRecDepth 100000
theorem rd_addy {P : Program} {N : Nat} {E : Env} {F : Fm} {H : List OB} {o : Oper} {t yt : TypeId} {x y : Operand} {m n z : Int} (ho : o.op = .binOp .add t x y yt) (hx : ev F x = some (.c (.s (.int .i64 m)))) (hy : ev F y = some (.c (.s (.int .i64 n)))) (hz : m + n = z) (h : -9223372036854775808 ≤ z ∧ z ≤ 9223372036854775807) : Rd P N E o F H (.c (.s (.int .i64 z))) := by
  subst hz; exact rd_addn ho hx hy h
theorem idle_a (x : Step) (was is : Mach) : ACalls Tryz.prog 148 [.a (x.row.map .c), .a (was.row.map .c), .a (is.row.map .c)] [] fun u H => u = .c (B (!keepB was is x)) ∧ H = [] := by
  refine acallsx_of false (N := 27) Tryz.func148 rfl rfl (by simp) fun E hE hP => ?_
  refine WA ?_
  refine WA ?_
  refine WA ?_
  refine aw_if rfl (fun h4 => ?_) (fun h4 => ?_)
  · by_cases hf : x.f = 0
    · refine WA ?_
      exact aret_1 [] _ rfl rfl rfl (by decide) (ZNK rfl) (fun _ => .nil) ⟨by rw [keepB, if_pos h4, decide_eq_true hf, Bool.true_and, Bool.not_not]; rfl, rfl⟩
    · refine WA ?_
      exact aret_1 [] _ rfl rfl rfl (by decide) (ZNK rfl) (fun _ => .nil) ⟨by rw [keepB, if_pos h4, decide_eq_false hf]; rfl, rfl⟩
  refine ZZ ?_
  refine WA ?_
  refine aw_if rfl (fun h7 => ?_) (fun h7 => ?_)
  · by_cases hn : x.n = 0
    · refine WA ?_
      exact aret_1 [] _ rfl rfl rfl (by decide) (ZNK rfl) (fun _ => .nil) ⟨by rw [keepB, if_neg h4, if_pos h7, decide_eq_true hn]; rfl, rfl⟩
    · refine WA ?_
      exact aret_1 [] _ rfl rfl rfl (by decide) (ZNK rfl) (fun _ => .nil) ⟨by rw [keepB, if_neg h4, if_pos h7, decide_eq_false hn]; rfl, rfl⟩
  · refine ZZ ?_
    refine WA ?_
    exact aret_1 [] _ rfl rfl rfl (by decide) (ZNK rfl) (fun _ => .nil) ⟨by rw [keepB, if_neg h4, if_neg h7, Bool.not_not]; rfl, rfl⟩
theorem shorter1_a (k : Nat) (was is : Mach) (o : List Step) (c : Nat) (l : List Step) (v : Value) (s : Step) (hs : l[k]? = some s) (ho : o.length ≤ 1000000) :
    ACalls Tryz.prog 147 [.c (I k), .a (was.row.map .c), .a (is.row.map .c), .p 0 0 0, .p 1 0 0] (gath l v c o) fun u H => ∃ c' o', u = .t [] ∧ o' = o ++ keepE was is s ∧ H = gath l v c' o' := by
  have hlk : k < l.length := (List.getElem?_eq_some_iff.1 hs).1
  have e1 : (l.map Step.row).length = l.length := by simp
  have hrow : (l.map Step.row)[k]? = some s.row := by rw [List.getElem?_map, hs]; rfl
  obtain ⟨kb, hkb⟩ : ∃ b, keepB was is s = b := ⟨_, rfl⟩
  refine acallsx_of false (N := 23) Tryz.func147 rfl rfl (by simp) fun E hE hP => ?_
  refine WA ?_
  refine ZZ ?_
  refine aw_regionT [(0, none), (1, none), (2, none), (3, none), (4, none), (5, none), (6, some []), (7, none)] hMixed (by kernel_rfl) ?_
  refine WP ?_
  refine at_ef rfl rfl (ef_call0 false (fun _ => idle_a s was is) rfl .fn rfl (by decide) (by kernel_rfl) rfl (fun _ => C0 rfl) (by simp)) ?_
  rintro _ _ ⟨_, _, _, ⟨rfl, rfl⟩, hF, hH⟩
  rw [hkb] at hF
  (try simp only [nsl, Nat.reduceAdd, Nat.reduceLT, Nat.reduceSub] at hF); (try simp only [nsl, Nat.reduceAdd, Nat.reduceLT, Nat.reduceSub] at hH); subst hF; subst hH
  refine ⟨ag_none, ?_⟩
  refine WQ ?_
  cases kb
  · refine aw_cond_f rfl ?_
    refine ZZ ?_
    exact aret_0 [some 0, some 1, some 2] (fun _ => [.box [.c (prog_r v l)], .box [.o 2 0 o.length c], .arr 68 6 c (o.map Step.row)]) (by first | exact .inl rfl | exact .inr rfl) rfl (by decide) (ZNK rfl) ZCH (fun _ => ⟨c, o, rfl, by rw [keepE, hkb]; simp, rfl⟩)
  · refine aw_cond_t rfl ?_
    refine ZZ ?_
    refine aw_regionT [(0, none), (1, none), (2, none), (3, none), (4, none), (5, some [0]), (6, some []), (7, some [])] hMixed (by kernel_rfl) ?_
    refine WP ?_
    refine at_ef rfl rfl (Zapp (KA (t := 54) rfl)) ?_
    rintro _ _ ⟨_, cc, hcc, rfl, rfl⟩
    refine ⟨ag_none, ?_⟩
    refine WQ ?_
    exact aret_0 [some 0, some 1, some 2] (fun _ => [.box [.c (prog_r v l)], .box [.o 2 0 (o ++ [s]).length cc], .arr 68 6 cc ((o ++ [s]).map Step.row)]) (by first | exact .inl rfl | exact .inr rfl) rfl (by decide) (ZNK rfl) ZCH (fun _ => ⟨cc, o ++ [s], rfl, by rw [keepE, hkb]; rfl, rfl⟩)
def keepJ (l : List Step) (k : Nat) (o : List Step) : Prop := o ++ keepFrom (lastS (l.take k)) (l.drop k) = keepFrom Mach.zero l ∧ o.length ≤ k
theorem keepJ_next {l : List Step} {k : Nat} {o : List Step} {s : Step} (h : keepJ l k o) (hs : l[k]? = some s) : keepJ l (k + 1) (o ++ keepE (lastS (l.take k)) (afterS (lastS (l.take k)) s) s) := by
  obtain ⟨h1, h2⟩ := h
  refine ⟨?_, ?_⟩
  · rw [← h1, drop_cons hs, lastS_succ hs, keepFrom, List.append_assoc]
  · unfold keepE; split <;> simp <;> omega
theorem sel_t {x y : Step} (h : y.k = x.k) (h2 : x.k = 3 ∨ x.k = 5) : sel x (some y) = true := by
  show (decide (y.k = x.k) && (decide (x.k = 3) || decide (x.k = 5))) = true
  rw [decide_eq_true h]; rcases h2 with h2 | h2 <;> simp [h2]
theorem sel_f {x y : Step} (h : ¬ y.k = x.k) : sel x (some y) = false := by
  show (decide (y.k = x.k) && (decide (x.k = 3) || decide (x.k = 5))) = false
  rw [decide_eq_false h]; rfl
theorem sel_g {x y : Step} (h1 : ¬ x.k = 3) (h2 : ¬ x.k = 5) : sel x (some y) = false := by
  show (decide (y.k = x.k) && (decide (x.k = 3) || decide (x.k = 5))) = false
  rw [decide_eq_false h1, decide_eq_false h2]; simp
theorem shorter_a (l : List Step) (v : Value) (hl : l.length ≤ 1000000) (hok : ∀ s ∈ l, s.ok) : ACalls Tryz.prog 107 [.c (prog_r v l)] [] fun u H => ∃ v', u = .c (prog_r v' (shortF l)) ∧ H = [] := by
  have h0 : keepJ l 0 [] := ⟨rfl, Nat.le_refl _⟩
  have hst : ∀ k c o s, l[k]? = some s → keepJ l k o → k ≤ 1000000 → ACalls Tryz.prog 147 [.c (I k), .a ((lastS (l.take k)).row.map .c), .a ((afterS (lastS (l.take k)) s).row.map .c), .p 0 0 0, .p 1 0 0] (gath l v c o) fun u H => ∃ c' o', u = .t [] ∧ keepJ l (k + 1) o' ∧ H = gath l v c' o' := fun k c o s hs hJ hk => by
    refine (shorter1_a k (lastS (l.take k)) (afterS (lastS (l.take k)) s) o c l v s hs (by have := hJ.2; omega)).mono fun u H ⟨c', o', h1, h2, h3⟩ => ⟨c', o', h1, ?_, h3⟩
    rw [h2]; exact keepJ_next hJ hs
  refine acallsx_of false (N := 49) Tryz.func107 rfl rfl (by simp) fun E hE hP => ?_
  refine WA ?_
  refine WR ?_
  refine al_nil ?_
  refine aseq_n ?_
  refine aw_wk (wk_of (K := fun F H => F = [(1, .p 0 0 0), (3, .p 1 0 0)] ∧ H = [.box [.c (prog_r v l)], .box [.o 2 0 0 0], .arr 68 6 0 []]) [some 0, some 1, none] (fun _ => [(1, .p 0 0 0), (3, .p 1 0 0)]) (fun _ => [.box [.c (prog_r v l)], .box [.o 2 0 0 0], .arr 68 6 0 []]) (by decide) (ZNL hE) ZCF ZCH (fun _ => ⟨rfl, rfl⟩)) ?_
  rintro F H ⟨rfl, rfl⟩
  refine WR ?_
  refine al_ef rfl (ef_call [0, 1, 2] (fun _ => [.box [.c (prog_r v l)], .box [.o 2 0 0 0], .arr 68 6 0 []]) false (fun _ => runS_a 147 (by kernel_rfl) (keepJ l) l v hl hok hst 0 [] h0) rfl .fn rfl (by decide) (by kernel_rfl) rfl ZCH (by decide) ZCH (by simp)) ?_
  rintro F1 H1 ⟨_, _, _, _, ⟨c', o', rfl, hJ, hq⟩, hF, hH⟩
  subst hq
  (try simp only [List.set_cons_zero, List.set_cons_succ, updH, posOf, lentArr, killF, killO, killV, AV.has, AV.hasL, AV.emb, AV.embL, OB.emb, embB, List.filter_cons, List.filter_nil, List.getElem?_cons_zero, List.getElem?_cons_succ, List.getD_cons_zero, List.getD_cons_succ, List.drop_succ_cons, List.drop_zero, List.drop_nil, List.contains_cons, List.contains_nil, Nat.reduceBEq, Nat.reduceEqDiff, beq_self_eq_true, Bool.or_false, Bool.false_or, Bool.or_true, Bool.true_or, Bool.false_eq_true, Option.map_some, Option.map_none, List.map_cons, List.map_nil, List.cons_append, List.nil_append, List.append_nil, List.length_cons, List.length_nil, Nat.reduceAdd, Nat.reduceLT, Nat.reduceSub, if_true, if_false, Nat.zero_add, Nat.add_zero, Nat.sub_zero, Nat.lt_irrefl, Nat.not_lt_zero, Nat.zero_lt_one, Nat.lt_add_one] at hF); (try simp only [List.set_cons_zero, List.set_cons_succ, updH, posOf, lentArr, killF, killO, killV, AV.has, AV.hasL, AV.emb, AV.embL, OB.emb, embB, List.filter_cons, List.filter_nil, List.getElem?_cons_zero, List.getElem?_cons_succ, List.getD_cons_zero, List.getD_cons_succ, List.drop_succ_cons, List.drop_zero, List.drop_nil, List.contains_cons, List.contains_nil, Nat.reduceBEq, Nat.reduceEqDiff, beq_self_eq_true, Bool.or_false, Bool.false_or, Bool.or_true, Bool.true_or, Bool.false_eq_true, Option.map_some, Option.map_none, List.map_cons, List.map_nil, List.cons_append, List.nil_append, List.append_nil, List.length_cons, List.length_nil, Nat.reduceAdd, Nat.reduceLT, Nat.reduceSub, if_true, if_false, Nat.zero_add, Nat.add_zero, Nat.sub_zero, Nat.lt_irrefl, Nat.not_lt_zero, Nat.zero_lt_one, Nat.lt_add_one] at hH); subst hF; subst hH
  refine WE ?_
  obtain ⟨hJ1, hJ2⟩ := hJ
  rw [List.drop_eq_nil_of_le (Nat.le_refl _), keepFrom, List.append_nil] at hJ1
  refine WA ?_
  refine WA ?_
  refine aw_loopw (fun m F H => ∃ (k c2 : Nat) (p : List Step), m + k = o'.length ∧ p.length ≤ k ∧ p ++ dropN (o'.drop k) = dropN o' ∧ F = [(3, .p 0 0 0), (4, .o 2 0 p.length c2), (10, .o 1 0 o'.length c'), (11, .c (I o'.length)), (12, .c (I k))] ∧ H = [.box [.o 1 0 o'.length c'], .arr 68 6 c' (o'.map Step.row), .arr 68 6 c2 (p.map Step.row)]) ?_ ?_
  · refine wk_of [some 1, some 2, none] (fun _ => [(3, .p 0 0 0), (4, .o 2 0 ([] : List Step).length 0), (10, .o 1 0 o'.length c'), (11, .c (I o'.length)), (12, .c (I (0 : Nat)))]) (fun _ => [.box [.o 1 0 o'.length c'], .arr 68 6 c' (o'.map Step.row), .arr 68 6 0 (([] : List Step).map Step.row)]) (by decide) (ZNL hE) ZCF ZCH (fun _ => ?_)
    exact ⟨o'.length, 0, 0, [], by omega, by simp, rfl, rfl, rfl⟩
  rintro m F H ⟨k, c2, p, hk, hpl, hp, rfl, rfl⟩
  refine WA ?_
  refine aw_if rfl (fun hlt => ?_) (fun hge => ?_)
  · obtain ⟨x, hx⟩ : ∃ x, o'[k]? = some x := ⟨_, List.getElem?_eq_getElem (by omega)⟩
    have r1 : (o'.map Step.row)[k]? = some x.row := by rw [List.getElem?_map, hx]; rfl
    refine WA ?_
    by_cases hy : k + 1 < o'.length
    · obtain ⟨y, hy1⟩ : ∃ x, o'[k + 1]? = some x := ⟨_, List.getElem?_eq_getElem hy⟩
      have r2 : (o'.map Step.row)[k + 1]? = some y.row := by rw [List.getElem?_map, hy1]; rfl
      by_cases hkk : y.k = x.k
      · by_cases h3 : x.k = 3
        · have hsel : sel x o'[k + 1]? = true := by rw [hy1]; exact sel_t hkk (.inl h3)
          refine ZZ ?_
          refine aw_regionT [(0, none), (1, none), (2, none), (3, none), (4, none), (5, none), (6, none), (7, none), (8, none), (9, none), (10, none), (11, none), (12, none), (13, none), (14, none), (15, none), (16, none), (17, none), (18, none), (19, none), (20, none), (21, none), (22, none), (23, none), (24, none), (25, none)] hMixed (by kernel_rfl) ?_
          refine WX2 ?_
          refine ZT rfl (rd_addy (z := ((k + 1 : Nat) : Int)) rfl rfl rfl (by omega) (by omega)) ?_
          iterate 6 refine WX2 ?_
          first | refine ZU rfl (rd_addy (z := ((k + 1 : Nat) : Int)) rfl rfl rfl (by omega) (by omega)) ?_ | refine ZV ?_
          refine WQ ?_
          refine aw_cond_t rfl ?_
          refine ZZ ?_
          refine WA ?_
          refine wk_of [some 0, some 1, some 2] (fun _ => [(3, .p 0 0 0), (4, .o 2 0 p.length c2), (10, .o 1 0 o'.length c'), (11, .c (I o'.length)), (12, .c (I (k + 1 : Nat)))]) (fun _ => [.box [.o 1 0 o'.length c'], .arr 68 6 c' (o'.map Step.row), .arr 68 6 c2 (p.map Step.row)]) (by decide) (ZNL hE) ZCF ZCH (fun _ => ?_)
          exact ⟨m - 1, by omega, k + 1, c2, p, by omega, by omega, by rw [← hp, dropN_at hx, hsel]; rfl, rfl, rfl⟩
        by_cases h5 : x.k = 5
        · have hsel : sel x o'[k + 1]? = true := by rw [hy1]; exact sel_t hkk (.inr h5)
          refine ZZ ?_
          refine aw_regionT [(0, none), (1, none), (2, none), (3, none), (4, none), (5, none), (6, none), (7, none), (8, none), (9, none), (10, none), (11, none), (12, none), (13, none), (14, none), (15, none), (16, none), (17, none), (18, none), (19, none), (20, none), (21, none), (22, none), (23, none), (24, none), (25, none)] hMixed (by kernel_rfl) ?_
          refine WX2 ?_
          refine ZT rfl (rd_addy (z := ((k + 1 : Nat) : Int)) rfl rfl rfl (by omega) (by omega)) ?_
          iterate 6 refine WX2 ?_
          first | refine ZU rfl (rd_addy (z := ((k + 1 : Nat) : Int)) rfl rfl rfl (by omega) (by omega)) ?_ | refine ZV ?_
          refine WQ ?_
          refine aw_cond_t rfl ?_
          refine ZZ ?_
          refine WA ?_
          refine wk_of [some 0, some 1, some 2] (fun _ => [(3, .p 0 0 0), (4, .o 2 0 p.length c2), (10, .o 1 0 o'.length c'), (11, .c (I o'.length)), (12, .c (I (k + 1 : Nat)))]) (fun _ => [.box [.o 1 0 o'.length c'], .arr 68 6 c' (o'.map Step.row), .arr 68 6 c2 (p.map Step.row)]) (by decide) (ZNL hE) ZCF ZCH (fun _ => ?_)
          exact ⟨m - 1, by omega, k + 1, c2, p, by omega, by omega, by rw [← hp, dropN_at hx, hsel]; rfl, rfl, rfl⟩
        · have hsel : sel x o'[k + 1]? = false := by rw [hy1]; exact sel_g h3 h5
          refine ZZ ?_
          refine aw_regionT [(0, none), (1, none), (2, none), (3, none), (4, none), (5, none), (6, none), (7, none), (8, none), (9, none), (10, none), (11, none), (12, none), (13, none), (14, none), (15, none), (16, none), (17, none), (18, none), (19, none), (20, none), (21, none), (22, none), (23, none), (24, none), (25, none)] hMixed (by kernel_rfl) ?_
          refine WX2 ?_
          refine ZT rfl (rd_addy (z := ((k + 1 : Nat) : Int)) rfl rfl rfl (by omega) (by omega)) ?_
          iterate 6 refine WX2 ?_
          first | refine ZU rfl (rd_addy (z := ((k + 1 : Nat) : Int)) rfl rfl rfl (by omega) (by omega)) ?_ | refine ZV ?_
          refine WQ ?_
          refine aw_cond_f rfl ?_
          refine ZZ ?_
          refine WR ?_
          refine al_ef rfl (Zapp (KA (t := 54) rfl)) ?_
          rintro _ _ ⟨_, cc, hcc, rfl, rfl⟩
          refine WE ?_
          refine WA ?_
          refine wk_of [some 0, some 1, some 2] (fun _ => [(3, .p 0 0 0), (4, .o 2 0 (p ++ [x]).length cc), (10, .o 1 0 o'.length c'), (11, .c (I o'.length)), (12, .c (I (k + 1 : Nat)))]) (fun _ => [.box [.o 1 0 o'.length c'], .arr 68 6 c' (o'.map Step.row), .arr 68 6 cc ((p ++ [x]).map Step.row)]) (by decide) (ZNL hE) ZCF ZCH (fun _ => ?_)
          exact ⟨m - 1, by omega, k + 1, cc, p ++ [x], by omega, by simp; omega, by rw [← hp, dropN_at hx, hsel]; simp, rfl, rfl⟩
      · have hsel : sel x o'[k + 1]? = false := by rw [hy1]; exact sel_f hkk
        refine ZZ ?_
        refine aw_regionT [(0, none), (1, none), (2, none), (3, none), (4, none), (5, none), (6, none), (7, none), (8, none), (9, none), (10, none), (11, none), (12, none), (13, none), (14, none), (15, none), (16, none), (17, none), (18, none), (19, none), (20, none), (21, none), (22, none), (23, none), (24, none), (25, none)] hMixed (by kernel_rfl) ?_
        refine WX2 ?_
        refine ZT rfl (rd_addy (z := ((k + 1 : Nat) : Int)) rfl rfl rfl (by omega) (by omega)) ?_
        iterate 6 refine WX2 ?_
        first | refine ZU rfl (rd_addy (z := ((k + 1 : Nat) : Int)) rfl rfl rfl (by omega) (by omega)) ?_ | refine ZV ?_
        refine WQ ?_
        refine aw_cond_f rfl ?_
        refine ZZ ?_
        refine WR ?_
        refine al_ef rfl (Zapp (KA (t := 54) rfl)) ?_
        rintro _ _ ⟨_, cc, hcc, rfl, rfl⟩
        refine WE ?_
        refine WA ?_
        refine wk_of [some 0, some 1, some 2] (fun _ => [(3, .p 0 0 0), (4, .o 2 0 (p ++ [x]).length cc), (10, .o 1 0 o'.length c'), (11, .c (I o'.length)), (12, .c (I (k + 1 : Nat)))]) (fun _ => [.box [.o 1 0 o'.length c'], .arr 68 6 c' (o'.map Step.row), .arr 68 6 cc ((p ++ [x]).map Step.row)]) (by decide) (ZNL hE) ZCF ZCH (fun _ => ?_)
        exact ⟨m - 1, by omega, k + 1, cc, p ++ [x], by omega, by simp; omega, by rw [← hp, dropN_at hx, hsel]; simp, rfl, rfl⟩
    · have hsel : sel x o'[k + 1]? = false := by rw [List.getElem?_eq_none (by omega)]; rfl
      refine ZZ ?_
      refine aw_regionT [(0, none), (1, none), (2, none), (3, none), (4, none), (5, none), (6, none), (7, none), (8, none), (9, none), (10, none), (11, none), (12, none), (13, none), (14, none), (15, none), (16, none), (17, none), (18, none), (19, none), (20, none), (21, none), (22, none), (23, none), (24, none), (25, none)] hMixed (by kernel_rfl) ?_
      refine WX2 ?_
      refine ZT rfl (rd_addy (z := ((k + 1 : Nat) : Int)) rfl rfl rfl (by omega) (by omega)) ?_
      iterate 6 refine WX2 ?_
      first | refine ZU rfl (rd_addy (z := ((k + 1 : Nat) : Int)) rfl rfl rfl (by omega) (by omega)) ?_ | refine ZV ?_
      refine WQ ?_
      refine aw_cond_f rfl ?_
      refine ZZ ?_
      refine WR ?_
      refine al_ef rfl (Zapp (KA (t := 54) rfl)) ?_
      rintro _ _ ⟨_, cc, hcc, rfl, rfl⟩
      refine WE ?_
      refine WA ?_
      refine wk_of [some 0, some 1, some 2] (fun _ => [(3, .p 0 0 0), (4, .o 2 0 (p ++ [x]).length cc), (10, .o 1 0 o'.length c'), (11, .c (I o'.length)), (12, .c (I (k + 1 : Nat)))]) (fun _ => [.box [.o 1 0 o'.length c'], .arr 68 6 c' (o'.map Step.row), .arr 68 6 cc ((p ++ [x]).map Step.row)]) (by decide) (ZNL hE) ZCF ZCH (fun _ => ?_)
      exact ⟨m - 1, by omega, k + 1, cc, p ++ [x], by omega, by simp; omega, by rw [← hp, dropN_at hx, hsel]; simp, rfl, rfl⟩
  obtain rfl : k = o'.length := by omega
  rw [List.drop_eq_nil_of_le (Nat.le_refl _), dropN, List.append_nil] at hp
  refine ZZ ?_
  refine WA ?_
  exact aret_f1 [] [] rfl rfl rfl rfl (by rw [List.drop_zero, List.take_of_length_le (by simp)]) (by simp) (by decide) (by decide) (ZNK rfl) (fun _ => .nil) (fun v' => ⟨v', by rw [hp, hJ1]; rfl, rfl⟩)
end Go.Proofs.YtdmeohgojdfmoaaGreatDoor

/- Numbers of programs stay 64-bit numbers in the absolute form. -/
namespace Go.Proofs.YtdmeohgojdfmoaaGreatDoor
open Go Go.RowKit
theorem wrap_inj (n : Int) : in64 (wrap64 n) := by
  unfold in64 wrap64
  omega
def Mach.inn (m : Mach) : Prop := in64 m.x ∧ in64 m.y ∧ in64 m.z
theorem relS_in {r : Bool} {a b : Int} (h : in64 b) : in64 (relS r a b) := by
  unfold relS
  split
  · exact wrap_inj _
  · exact h
theorem afterS_inn {m : Mach} {s : Step} (hm : m.inn) (hs : s.ok) : (afterS m s).inn := by
  obtain ⟨m1, m2, m3⟩ := hm
  obtain ⟨s1, s2, s3, s4, s5, s6⟩ := hs
  unfold afterS
  repeat' split
  all_goals first
    | exact ⟨m1, m2, m3⟩
    | exact ⟨relS_in s2, relS_in s3, m3⟩
    | exact ⟨m1, m2, relS_in s4⟩
theorem absStep_inn {m : Mach} {s : Step} (hm : m.inn) (hs : s.ok) : (absStep m s).ok := by
  obtain ⟨m1, m2, m3⟩ := hm
  obtain ⟨s1, s2, s3, s4, s5, s6⟩ := hs
  unfold absStep
  repeat' split
  · exact ⟨s1, m1, m2, s4, s5, s6⟩
  · exact ⟨s1, s2, s3, m3, s5, s6⟩
  · exact ⟨s1, s2, s3, s4, s5, s6⟩
theorem absFrom_inn : ∀ (l : List Step) (m : Mach), m.inn → (∀ s ∈ l, s.ok) → ∀ s ∈ absFrom m l, s.ok
  | [], _, _, _, s, hs => by simp [absFrom] at hs
  | t :: l, m, hm, hl, s, hs => by
    have ht := hl t (by simp)
    have h1 := afterS_inn hm ht
    unfold absFrom at hs
    split at hs
    · exact absFrom_inn l _ h1 (fun s h => hl s (by simp [h])) s hs
    · rcases List.mem_cons.1 hs with rfl | hs
      · exact absStep_inn h1 ht
      · exact absFrom_inn l _ h1 (fun s h => hl s (by simp [h])) s hs
theorem absS_inn {l : List Step} (hl : ∀ s ∈ l, s.ok) : ∀ s ∈ absS l, s.ok := absFrom_inn l _ (by simp [Mach.inn, in64]) hl
end Go.Proofs.YtdmeohgojdfmoaaGreatDoor

/- Short and ShortOf, by value. -/
namespace Go.Proofs.YtdmeohgojdfmoaaGreatDoor
open Go Go.RowKit
set_option maxRecDepth 100000
theorem short_a (l : List Step) (v : Value) (hl : l.length ≤ 1000000) (hok : ∀ s ∈ l, s.ok) : ACalls Tryz.prog 48 [.c (prog_r v l)] [] fun u H => ∃ v', u = .t [.c (prog_r v' (if absF l = 0 then shortS (absS l) else [])), .c (I (absF l))] ∧ H = [] := by
  have hal : (absS l).length ≤ l.length := absFrom_len l _
  have hab := absS_inn hok
  refine acallsx_of false (N := 24) Tryz.func48 rfl rfl (by simp) fun E hE hP => ?_
  refine WA ?_
  refine WR ?_
  refine al_ef rfl (ef_call0 false (fun _ => absolutex_a l v hl hok) rfl .fn rfl (by decide) (by kernel_rfl) rfl (fun _ => C0 rfl) (by simp)) ?_
  rintro _ _ ⟨_, _, _, ⟨va, rfl, rfl⟩, hF, hH⟩
  (try simp only [nsl, Nat.reduceAdd, Nat.reduceLT, Nat.reduceSub] at hF); (try simp only [nsl, Nat.reduceAdd, Nat.reduceLT, Nat.reduceSub] at hH); subst hF; subst hH
  refine WE ?_
  refine WA ?_
  refine aw_if rfl (fun hne => ?_) (fun heq => ?_)
  · refine WA ?_
    exact aret_2 [] _ rfl rfl rfl rfl rfl (by decide) (ZNK rfl) (fun _ => .nil) ⟨_, by rw [if_neg hne]; rfl, rfl⟩
  have h0 : absF l = 0 := by omega
  rw [if_pos h0]
  refine ZZ ?_
  refine aw_loopw (fun m F H => ∃ (out : List Step) (vo : Value), m = out.length ∧ ShortJ (absS l) out ∧ F = [(4, .c (prog_r vo out))] ∧ H = []) ?_ ?_
  · refine wk_of [] (fun _ => [(4, .c (prog_r va (absS l)))]) (fun _ => _) (by decide) (ZNL hE) ZCF (fun _ => .nil) (fun _ => ?_)
    exact ⟨_, absS l, va, rfl, shortJ_zero _, rfl, rfl⟩
  rintro m F H ⟨out, vo, hm, hJ, rfl, rfl⟩
  have hoo : ∀ s ∈ out, s.ok := fun s hs => hab s (hJ.2.1 s hs)
  have hol := hJ.2.2
  have e1 : (out.map Step.row).length = out.length := by simp
  have e2 : ((shortF out).map Step.row).length = (shortF out).length := by simp
  refine WR ?_
  refine al_ef rfl (ef_call0 false (fun _ => shorter_a out vo (by omega) hoo) rfl .fn rfl (by decide) (by kernel_rfl) rfl (fun _ => C0 rfl) (by simp)) ?_
  rintro _ _ ⟨_, _, _, ⟨vs, rfl, rfl⟩, hF, hH⟩
  (try simp only [nsl, Nat.reduceAdd, Nat.reduceLT, Nat.reduceSub] at hF); (try simp only [nsl, Nat.reduceAdd, Nat.reduceLT, Nat.reduceSub] at hH); subst hF; subst hH
  refine WE ?_
  refine WA ?_
  refine aw_if rfl (fun he => ?_) (fun hn => ?_)
  · have hS := shortJ_end hJ (by omega)
    refine WA ?_
    exact aret_2 [] _ rfl rfl rfl rfl rfl (by decide) (ZNK rfl) (fun _ => .nil) ⟨vo, by rw [if_pos h0, h0, ← hS], rfl⟩
  · obtain ⟨hJ2, hlt⟩ := shortJ_next hJ (by omega)
    refine ZZ ?_
    refine WA ?_
    refine wk_of [] (fun _ => [(4, .c (prog_r vs (shortF out)))]) (fun _ => _) (by decide) (ZNL hE) ZCF (fun _ => .nil) (fun _ => ?_)
    exact ⟨(shortF out).length, by omega, shortF out, vs, rfl, hJ2, rfl, rfl⟩
end Go.Proofs.YtdmeohgojdfmoaaGreatDoor

/- slices.Clone and slices.Delete of steps, by value. -/
namespace Go.Proofs.YtdmeohgojdfmoaaGreatDoor
open Go Go.RowKit
set_option maxRecDepth 100000
end Go.Proofs.YtdmeohgojdfmoaaGreatDoor

/- Joined and JoinedOf, by value. -/
namespace Go.Proofs.YtdmeohgojdfmoaaGreatDoor
open Go Go.RowKit
set_option maxRecDepth 100000
/-- A scalar field's place in a struct's cells. -/
def fieldSc (P : Program) (t : TypeId) (f : Nat) : Option Nat :=
  match P.underlying t with
  | some (.struct fs) => match fs[f]? with
    | some g => match ldk P g.type with
      | some none => some g.offset
      | _ => none
    | none => none
  | _ => none
theorem rd_fieldv {P : Program} {N : Nat} {E : Env} {F : Fm} {H : List OB} {o : Oper} {t : TypeId} {x : Operand} {f off : Nat} {l : List AV} {v : AV} (ho : o.op = .field t x f) (hx : ev F x = some (.a l)) (ht : fieldSc P t f = some off) (hv : l[off]? = some v) : Rd P N E o F H v := fun S ρ a w hR => by
  obtain ⟨h1, h2⟩ := hR.ev hx
  unfold fieldSc at ht
  cases hu : P.underlying t with
  | none => rw [hu] at ht; cases ht
  | some d =>
    rw [hu] at ht
    cases d <;> simp only [reduceCtorEq] at ht
    rename_i fs
    cases hf : fs[f]? with
    | none => rw [hf] at ht; cases ht
    | some g =>
      rw [hf] at ht
      simp only at ht
      split at ht
      · rename_i hk
        injection ht with ht
        subst ht
        have hu' : (underlying t).run P w = .ok (.struct fs) w := by unfold underlying; simp [hu]
        cases h2 with
        | a h3 =>
          refine ⟨?_, h3 v (List.mem_of_getElem? hv)⟩
          have hd : (AV.a l).den ρ H = .agg (l.map (AV.den ρ H)).toArray := by rw [AV.den, AV.denL_eq]
          have hg : (l.map (AV.den ρ H)).toArray[g.offset]? = some (v.den ρ H) := by rw [List.getElem?_toArray, List.getElem?_map, hv]; rfl
          simp only [execOp, ho, h1, hd, Instr.field, Sem.run_bind, hu', Result.andThen_ok, hf, asAgg, Sem.run_pure, part, (ldk_none (w := w) hk).1, Bool.false_eq_true, if_false, hg]
      · cases ht
theorem Tv42_7 : fieldSc Tryz.prog 60 7 = some 7 := by kernel_rfl
/-- What lies between two programs that are joined. -/
def midS (a : List Step) : List Step := if (lastS a).rel then [⟨1, 0, 0, 0, 0, 0⟩] else []
def joinS (a b : List Step) : List Step := a ++ midS a ++ b
def joinF (a b : List Step) : Int := if 5000 < (joinS a b).length then 2 else 0
def joinedF (a b : List Step) : Int := if progF a ≠ 0 then progF a else if progF b ≠ 0 then progF b else joinF a b
theorem midS_len (a : List Step) : (midS a).length ≤ 1 := by unfold midS; split <;> simp
theorem joinS_len (a b : List Step) : (joinS a b).length = a.length + (midS a).length + b.length := by simp [joinS]; omega
theorem joined_a (a b : List Step) (va vb : Value) (ha : a.length ≤ 1000000) (hb : b.length ≤ 1000000) (hoa : ∀ s ∈ a, s.ok) : ACalls Tryz.prog 35 [.c (prog_r va a), .c (prog_r vb b)] [] fun u H => ∃ v', u = .t [.c (prog_r v' (if joinedF a b = 0 then joinS a b else [])), .c (I (joinedF a b))] ∧ H = [] := by
  have hmid := midS_len a
  have hjl := joinS_len a b
  have ea : (a.map Step.row).length = a.length := by simp
  refine acallsx_of false (N := 47) Tryz.func35 rfl rfl (by simp) fun E hE hP => ?_
  refine WA ?_
  refine WA ?_
  refine aw_loopw (fun m F H => ∃ (k : Nat), m + k = 2 ∧ (1 ≤ k → progF a = 0) ∧ (2 ≤ k → progF b = 0) ∧ F = [(0, .c (prog_r va a)), (1, .c (prog_r vb b)), (14, .o 0 0 2 2), (15, .c (I (2 : Nat))), (16, .c (I k))] ∧ H = [.arr 54 1 2 [[prog_r va a], [prog_r vb b]]]) ?_ ?_
  · refine wk_of [some 0] (fun _ => [(0, .c (prog_r va a)), (1, .c (prog_r vb b)), (14, .o 0 0 2 2), (15, .c (I (2 : Nat))), (16, .c (I (0 : Nat)))]) (fun _ => _) (by decide) (ZNL hE) ZCF ZCH (fun _ => ?_)
    exact ⟨2, 0, by omega, by omega, by omega, rfl, rfl⟩
  rintro m F H ⟨k, hk, p1, p2, rfl, rfl⟩
  refine WA ?_
  refine aw_if rfl (fun hlt => ?_) (fun hge => ?_)
  · obtain rfl | rfl : k = 0 ∨ k = 1 := by omega
    · have r1 : ([[prog_r va a], [prog_r vb b]] : List (List CV))[0]? = some [prog_r va a] := rfl
      refine WA ?_
      refine WR ?_
      refine al_ef rfl (ef_call0 false (fun _ => check_a a va (by omega)) rfl .fn rfl (by decide) (by kernel_rfl) rfl (fun _ => C0 rfl) (by simp)) ?_
      rintro _ _ ⟨_, _, _, ⟨rfl, rfl⟩, hF, hH⟩
      (try simp only [nsl, Nat.reduceAdd, Nat.reduceLT, Nat.reduceSub] at hF); (try simp only [nsl, Nat.reduceAdd, Nat.reduceLT, Nat.reduceSub] at hH); subst hF; subst hH
      refine WE ?_
      refine WA ?_
      refine aw_if rfl (fun hne => ?_) (fun heq => ?_)
      · have hj : joinedF a b = progF a := by rw [joinedF, if_pos hne]
        rw [hj]
        refine WA ?_
        exact aret_2 [] _ rfl rfl rfl rfl rfl (by decide) (ZNK rfl) (fun _ => .nil) ⟨_, by rw [if_neg hne]; rfl, rfl⟩
      · refine ZZ ?_
        refine WA ?_
        refine wk_of [some 0] (fun _ => [(0, .c (prog_r va a)), (1, .c (prog_r vb b)), (14, .o 0 0 2 2), (15, .c (I (2 : Nat))), (16, .c (I (1 : Nat)))]) (fun _ => _) (by decide) (ZNL hE) ZCF ZCH (fun _ => ?_)
        exact ⟨m - 1, by omega, 1, by omega, fun _ => by omega, by omega, rfl, rfl⟩
    · have q1 := p1 (by omega)
      have r1 : ([[prog_r va a], [prog_r vb b]] : List (List CV))[1]? = some [prog_r vb b] := rfl
      refine WA ?_
      refine WR ?_
      refine al_ef rfl (ef_call0 false (fun _ => check_a b vb (by omega)) rfl .fn rfl (by decide) (by kernel_rfl) rfl (fun _ => C0 rfl) (by simp)) ?_
      rintro _ _ ⟨_, _, _, ⟨rfl, rfl⟩, hF, hH⟩
      (try simp only [nsl, Nat.reduceAdd, Nat.reduceLT, Nat.reduceSub] at hF); (try simp only [nsl, Nat.reduceAdd, Nat.reduceLT, Nat.reduceSub] at hH); subst hF; subst hH
      refine WE ?_
      refine WA ?_
      refine aw_if rfl (fun hne => ?_) (fun heq => ?_)
      · have hj : joinedF a b = progF b := by rw [joinedF, if_neg (by omega), if_pos hne]
        rw [hj]
        refine WA ?_
        exact aret_2 [] _ rfl rfl rfl rfl rfl (by decide) (ZNK rfl) (fun _ => .nil) ⟨_, by rw [if_neg hne]; rfl, rfl⟩
      · refine ZZ ?_
        refine WA ?_
        refine wk_of [some 0] (fun _ => [(0, .c (prog_r va a)), (1, .c (prog_r vb b)), (14, .o 0 0 2 2), (15, .c (I (2 : Nat))), (16, .c (I (2 : Nat)))]) (fun _ => _) (by decide) (ZNL hE) ZCF ZCH (fun _ => ?_)
        exact ⟨m - 1, by omega, 2, by omega, fun _ => q1, fun _ => by omega, rfl, rfl⟩
  replace p1 := p1 (by omega)
  replace p2 := p2 (by omega)
  have hj : joinedF a b = joinF a b := by rw [joinedF, if_neg (by omega), if_neg (by omega)]
  rw [hj]
  refine WR ?_
  refine al_nil ?_
  refine aseq_n ?_
  refine aw_wk (wk_of (K := fun F H => F = [(0, .c (prog_r va a)), (1, .c (prog_r vb b)), (9, .o 0 0 0 0)] ∧ H = [.arr 68 6 0 []]) [none] (fun _ => [(0, .c (prog_r va a)), (1, .c (prog_r vb b)), (9, .o 0 0 0 0)]) (fun _ => [.arr 68 6 0 []]) (by decide) (ZNL hE) ZCF ZCH (fun _ => ⟨rfl, rfl⟩)) ?_
  rintro F H ⟨rfl, rfl⟩
  refine WR ?_
  refine al_ef rfl (Zapp (KA (t := 54) rfl)) ?_
  rintro _ _ ⟨_, cc, hcc, rfl, rfl⟩
  refine WE ?_
  refine WR ?_
  refine al_ef rfl (ef_call0 false (fun _ => last_a a va ha hoa) rfl .fn rfl (by decide) (by kernel_rfl) rfl (fun _ => C0 rfl) (by simp)) ?_
  rintro _ _ ⟨_, _, _, ⟨rfl, rfl⟩, hF, hH⟩
  rw [if_pos p1] at hF
  (try simp only [nsl, Nat.reduceAdd, Nat.reduceLT, Nat.reduceSub] at hF); (try simp only [nsl, Nat.reduceAdd, Nat.reduceLT, Nat.reduceSub] at hH); subst hF; subst hH
  refine WE ?_
  refine WR ?_
  refine al_nil ?_
  refine aseq_n ?_
  refine aw_cut (fun F H => ∃ c, F = [(1, .c (prog_r vb b)), (9, .o 0 0 (a ++ midS a).length c)] ∧ H = [.arr 68 6 c ((a ++ midS a).map Step.row)]) ?_ ?_ wk_aw
  · cases hrel : (lastS a).rel
    · refine aw_cond_f rfl ?_
      refine ZZ ?_
      refine wk_of [some 0] (fun _ => [(1, .c (prog_r vb b)), (9, .o 0 0 a.length cc)]) (fun _ => [.arr 68 6 cc (a.map Step.row)]) (by decide) (ZNL hE) ZCF ZCH (fun _ => ?_)
      exact ⟨cc, by rw [midS, hrel]; simp, by rw [midS, hrel]; simp⟩
    · refine aw_cond_t rfl ?_
      refine WR ?_
      refine al_ef rfl (Zapp (KA (t := 54) rfl)) ?_
      rintro _ _ ⟨_, cc, hcc, rfl, rfl⟩
      refine WE ?_
      refine wk_of [some 0] (fun _ => [(1, .c (prog_r vb b)), (9, .o 0 0 (a ++ [(⟨1, 0, 0, 0, 0, 0⟩ : Step)]).length cc)]) (fun _ => [.arr 68 6 cc ((a ++ [(⟨1, 0, 0, 0, 0, 0⟩ : Step)]).map Step.row)]) (by decide) (ZNL hE) ZCF ZCH (fun _ => ?_)
      exact ⟨cc, by rw [midS, hrel]; rfl, by rw [midS, hrel]; rfl⟩
  rintro F H ⟨c, rfl, rfl⟩
  have hl1 : (a ++ midS a).length = a.length + (midS a).length := by simp
  have e1 : ((a ++ midS a).map Step.row).length = (a ++ midS a).length := by simp
  have e2 : (b.map Step.row).length = b.length := by simp
  refine WR ?_
  refine al_ef rfl (Zapp (KA (t := 54) rfl)) ?_
  rintro _ _ ⟨_, cc, hcc, rfl, rfl⟩
  refine WE ?_
  refine WA ?_
  refine aw_if rfl (fun hbig => ?_) (fun hok => ?_)
  · have hJ : joinF a b = 2 := by rw [joinF, if_pos (by omega)]
    rw [hJ]
    refine WA ?_
    exact aret_2 [] _ rfl rfl rfl rfl rfl (by decide) (ZNK rfl) (fun _ => .nil) ⟨_, by rw [if_neg (by decide)]; rfl, rfl⟩
  · have hJ : joinF a b = 0 := by rw [joinF, if_neg (by omega)]
    rw [hJ]
    refine ZZ ?_
    refine WA ?_
    exact aret_f2 [] [] rfl rfl rfl rfl rfl rfl (by rw [List.drop_zero, List.take_of_length_le (by simp; omega)]) (by simp; omega) (by decide) (by decide) (ZNK rfl) (fun _ => .nil) (fun v' => ⟨v', by rw [if_pos rfl, joinS]; simp only [prog_r, List.map_append], rfl⟩)
end Go.Proofs.YtdmeohgojdfmoaaGreatDoor

/- slices.Insert of one step ahead of others, by value. -/
namespace Go.Proofs.YtdmeohgojdfmoaaGreatDoor
open Go Go.RowKit
set_option maxRecDepth 100000
theorem insert_a (x : Step) (o : List Step) (c : Nat) (h1 : 1 ≤ o.length) (hc : o.length ≤ c) (hl : o.length ≤ 1000000) : ACalls Tryz.prog 104 [.o 0 0 o.length c, .c (I 0), .o 1 0 1 1] [.arr 68 6 c (o.map Step.row), .arr 68 6 1 [x.row]] fun u H =>
    (u = .o 0 0 (x :: o).length c ∧ H = [.arr 68 6 c ((x :: o).map Step.row), .arr 68 6 1 [x.row]]) ∨ ∃ c', u = .o 2 0 (x :: o).length c' ∧ H = [.arr 68 6 c (o.map Step.row), .arr 68 6 1 [x.row], .arr 68 6 c' ((x :: o).map Step.row)] := by
  have e1 : (o.map Step.row).length = o.length := by simp
  have hcase : ((o.map Step.row).take 1 ++ o.map Step.row).take (0 + 0) ++ [x.row] ++ ((o.map Step.row).take 1 ++ o.map Step.row).drop (0 + 0 + [x.row].length) = (x :: o).map Step.row := by
    cases o with
    | nil => simp at h1
    | cons y o => simp
  have hA : (List.replicate (o.length + 1) (Step.row ⟨0, 0, 0, 0, 0, 0⟩)).take (0 + 0) ++ [x.row] ++ (List.replicate (o.length + 1) (Step.row ⟨0, 0, 0, 0, 0, 0⟩)).drop (0 + 0 + [x.row].length) = x.row :: List.replicate o.length (Step.row ⟨0, 0, 0, 0, 0, 0⟩) := by simp
  have hB : (x.row :: List.replicate o.length (Step.row ⟨0, 0, 0, 0, 0, 0⟩)).take (0 + 1) ++ o.map Step.row ++ (x.row :: List.replicate o.length (Step.row ⟨0, 0, 0, 0, 0, 0⟩)).drop (0 + 1 + (o.map Step.row).length) = (x :: o).map Step.row := by
    rw [List.drop_eq_nil_of_le (by simp; omega)]; simp
  have hC : (o.map Step.row).take (0 + 1) ++ o.map Step.row ++ (o.map Step.row).drop (0 + 1 + (o.map Step.row).length) = (o.map Step.row).take 1 ++ o.map Step.row := by
    rw [List.drop_eq_nil_of_le (by simp)]; simp
  refine acallsx_of false (N := 95) Tryz.func104 rfl rfl (by simp) fun E hE hP => ?_
  refine WA ?_
  refine ZR ?_
  iterate 2 refine WX1 ?_
  refine ZA (rd_slice (l := 0) rfl (KE (t := 54) rfl) rfl rfl (.inr ⟨_, _, _, rfl, rfl, rfl⟩) (.inl ⟨rfl, rfl⟩) (by omega) (by omega) (by omega)) ?_
  refine WE ?_
  refine WA ?_
  refine WA ?_
  refine aw_cond_f rfl ?_
  refine ZZ ?_
  refine WA ?_
  refine WA ?_
  refine aw_cond_f rfl ?_
  refine ZZ ?_
  by_cases hcap : c < o.length + 1
  · refine WA ?_
    refine aw_cond_t rfl ?_
    refine ZR ?_
    iterate 2 refine WX1 ?_
    refine ZA (rd_slice (l := 0) (h := 0) rfl (KE (t := 54) rfl) rfl rfl (.inl ⟨rfl, rfl⟩) (.inr ⟨_, _, _, rfl, rfl, rfl⟩) (by omega) (by omega) (by omega)) ?_
    refine WO ?_
    refine al_ef rfl (ef_appz (n := o.length + 1) rfl rfl (by decide) (KA (t := 54) rfl) Tryz.underlying3 rfl rfl rfl (by omega) hcap (by omega) (KZ (t := 68) rfl) rfl rfl) ?_
    rintro _ _ ⟨c2, hc2, rfl, rfl⟩
    refine WE ?_
    refine aw_wk (wk_of (K := fun F H => F = [(0, .o 0 0 o.length c), (1, .c (I 0)), (2, .o 1 0 1 1), (7, .c (I (1 : Nat))), (9, .o 2 0 (o.length + 1) c2)] ∧ H = [.arr 68 6 c (o.map Step.row), .arr 68 6 1 [x.row], .arr 68 6 c2 (List.replicate (o.length + 1) (Step.row ⟨0, 0, 0, 0, 0, 0⟩))]) [some 0, some 1, some 2] (fun _ => [(0, .o 0 0 o.length c), (1, .c (I 0)), (2, .o 1 0 1 1), (7, .c (I (1 : Nat))), (9, .o 2 0 (o.length + 1) c2)]) (fun _ => [.arr 68 6 c (o.map Step.row), .arr 68 6 1 [x.row], .arr 68 6 c2 (List.replicate (o.length + 1) (Step.row ⟨0, 0, 0, 0, 0, 0⟩))]) (by decide) (ZNL hE) ZCF ZCH (fun _ => ⟨rfl, rfl⟩)) ?_
    rintro F H ⟨rfl, rfl⟩
    refine ZR ?_
    iterate 2 refine WX1 ?_
    refine ZA (rd_slice (l := 0) rfl (KE (t := 54) rfl) rfl rfl (.inr ⟨_, _, _, rfl, rfl, rfl⟩) (.inl ⟨rfl, rfl⟩) (by omega) (by omega) (by omega)) ?_
    refine WX1 ?_
    refine al_ef rfl (ef_copyo (news := [x.row]) rfl rfl (by decide) (KA (t := 54) rfl) rfl rfl (by first | (simp; omega) | simp) rfl rfl (by rw [Nat.min_eq_left (by omega)]; rfl) (by rw [Nat.min_eq_left (by omega)]; rfl) hA) ?_
    rintro _ _ ⟨hF, hH⟩
    simp only [List.set_cons_zero, List.set_cons_succ, List.cons_append, List.nil_append] at hH
    subst hF; subst hH
    refine WE ?_
    refine ZZ ?_
    refine aw_regionT [(0, none), (1, none), (2, none), (3, none), (4, none), (5, none), (6, none), (7, none), (8, some [])] hMixed (by kernel_rfl) ?_
    iterate 4 refine WX2 ?_
    refine ZT rfl (rd_slice (l := 1) rfl (KE (t := 54) rfl) rfl rfl (.inr ⟨_, _, _, rfl, rfl, rfl⟩) (.inl ⟨rfl, rfl⟩) (by omega) (by omega) (by omega)) ?_
    iterate 2 refine WX2 ?_
    refine ZT rfl (rd_slice (l := 0) rfl (KE (t := 54) rfl) rfl rfl (.inr ⟨_, _, _, rfl, rfl, rfl⟩) (.inl ⟨rfl, rfl⟩) (by omega) (by omega) (by omega)) ?_
    refine at_ef rfl rfl (ef_copyo (news := (o.map Step.row)) rfl rfl (by decide) (KA (t := 54) rfl) rfl rfl (by first | (simp; omega) | simp) rfl rfl (by rw [List.drop_zero, List.take_of_length_le (by simp)]) (by simp) hB) ?_
    rintro _ _ ⟨hF, hH⟩
    simp only [List.set_cons_zero, List.set_cons_succ, List.cons_append, List.nil_append] at hH
    subst hF; subst hH
    refine ⟨ag_none, ?_⟩
    refine WQ ?_
    refine WA ?_
    exact aret_o [some 0, some 1, some 2] (fun _ => [.arr 68 6 c (o.map Step.row), .arr 68 6 1 [x.row], .arr 68 6 c2 ((x :: o).map Step.row)]) rfl rfl rfl rfl rfl (by decide) (ZNK rfl) ZCH (fun _ => .inr ⟨c2, rfl, rfl⟩)
  · refine WA ?_
    refine aw_cond_f rfl ?_
    refine ZZ ?_
    refine ZR ?_
    iterate 4 refine WX1 ?_
    refine ZA (rd_slicex (l := 0) (h := o.length + 1) rfl (KE (t := 54) rfl) rfl rfl (.inl ⟨rfl, rfl⟩) (.inr ⟨_, _, _, rfl, rfl, by omega⟩) (by omega) (by omega) (by omega)) ?_
    refine WE ?_
    refine aw_wk (wk_of (K := fun F H => F = [(0, .o 0 0 (o.length + 1) c), (1, .c (I 0)), (2, .o 1 0 1 1), (7, .c (I (1 : Nat)))] ∧ H = [.arr 68 6 c (o.map Step.row), .arr 68 6 1 [x.row]]) [some 0, some 1] (fun _ => [(0, .o 0 0 (o.length + 1) c), (1, .c (I 0)), (2, .o 1 0 1 1), (7, .c (I (1 : Nat)))]) (fun _ => [.arr 68 6 c (o.map Step.row), .arr 68 6 1 [x.row]]) (by decide) (ZNL hE) ZCF ZCH (fun _ => ⟨rfl, rfl⟩)) ?_
    rintro F H ⟨rfl, rfl⟩
    refine ZR ?_
    iterate 5 refine WX1 ?_
    refine ZA (rd_slice (l := 1) rfl (KE (t := 54) rfl) rfl rfl (.inr ⟨_, _, _, rfl, rfl, rfl⟩) (.inl ⟨rfl, rfl⟩) (by omega) (by omega) (by omega)) ?_
    refine ZA (rd_overlaps (tr := 4) rfl Tryz.func144 (by kernel_rfl) (by kernel_rfl) (by kernel_rfl) (by kernel_rfl) (KA (t := 54) rfl) rfl rfl rfl rfl (by decide) (by omega) (by omega)) ?_
    refine WE ?_
    refine aw_cond_t rfl ?_
    refine ZZ ?_
    refine aw_regionT [(0, none), (1, none), (2, none), (3, none), (4, none), (5, none), (6, none), (7, none), (8, some [])] hMixed (by kernel_rfl) ?_
    iterate 4 refine WX2 ?_
    refine ZT rfl (rd_slice (l := 1) rfl (KE (t := 54) rfl) rfl rfl (.inr ⟨_, _, _, rfl, rfl, rfl⟩) (.inl ⟨rfl, rfl⟩) (by omega) (by omega) (by omega)) ?_
    iterate 2 refine WX2 ?_
    refine ZT rfl (rd_slice (l := 0) rfl (KE (t := 54) rfl) rfl rfl (.inr ⟨_, _, _, rfl, rfl, rfl⟩) (.inl ⟨rfl, rfl⟩) (by omega) (by omega) (by omega)) ?_
    refine at_ef rfl rfl (ef_copyo (news := (o.map Step.row)) rfl rfl (by decide) (KA (t := 54) rfl) rfl rfl (by first | (simp; omega) | simp) rfl rfl (by rw [List.drop_zero, List.take_of_length_le (by first | (simp; omega) | simp)]) (by first | (simp; omega) | simp) hC) ?_
    rintro _ _ ⟨hF, hH⟩
    simp only [List.set_cons_zero, List.set_cons_succ, List.cons_append, List.nil_append] at hH
    subst hF; subst hH
    refine ⟨ag_none, ?_⟩
    refine WQ ?_
    refine ZR ?_
    iterate 2 refine WX1 ?_
    refine ZA (rd_slice (l := 0) rfl (KE (t := 54) rfl) rfl rfl (.inr ⟨_, _, _, rfl, rfl, rfl⟩) (.inl ⟨rfl, rfl⟩) (by omega) (by omega) (by omega)) ?_
    refine WX1 ?_
    refine al_ef rfl (ef_copyo (news := [x.row]) rfl rfl (by decide) (KA (t := 54) rfl) rfl rfl (by first | (simp; omega) | simp) rfl rfl (by rw [Nat.min_eq_left (by omega)]; rfl) (by rw [Nat.min_eq_left (by omega)]; rfl) hcase) ?_
    rintro _ _ ⟨hF, hH⟩
    simp only [List.set_cons_zero, List.set_cons_succ, List.cons_append, List.nil_append] at hH
    subst hF; subst hH
    refine WE ?_
    refine WA ?_
    exact aret_o [some 0, some 1] (fun _ => [.arr 68 6 c ((x :: o).map Step.row), .arr 68 6 1 [x.row]]) rfl rfl rfl rfl rfl (by decide) (ZNK rfl) ZCH (fun _ => .inl ⟨rfl, rfl⟩)
end Go.Proofs.YtdmeohgojdfmoaaGreatDoor

/- Relative, RelativeOf and JoinedOf, by value. -/
namespace Go.Proofs.YtdmeohgojdfmoaaGreatDoor
open Go Go.RowKit
set_option maxRecDepth 100000
def relStep (was is : Mach) (s : Step) : Step :=
  if s.k = 3 ∨ s.k = 4 then { s with x := wrap64 (is.x - was.x), y := wrap64 (is.y - was.y) } else if s.k = 5 then { s with z := wrap64 (is.z - was.z) } else s
def relE (was is : Mach) (s : Step) : List Step := if s.k = 1 ∨ s.k = 2 then [] else [relStep was is s]
def relFrom : Mach → List Step → List Step
  | _, [] => []
  | m, s :: l => relE m (afterS m s) s ++ relFrom (afterS m s) l
theorem relFrom_len : ∀ (l : List Step) (m : Mach), (relFrom m l).length ≤ l.length
  | [], _ => Nat.le_refl _
  | s :: l, m => by
    have := relFrom_len l (afterS m s)
    unfold relFrom relE
    split <;> simp <;> omega
def headR (r : List Step) : List Step := if r = [] then [] else ⟨2, 0, 0, 0, 0, 0⟩ :: r
def relL (l : List Step) : List Step := headR (relFrom Mach.zero l)
theorem headR_len (r : List Step) : (headR r).length ≤ r.length + 1 := by unfold headR; split <;> simp
/-- The document's way: over the absolute form. -/
def relA : Mach → List Step → List Step
  | _, [] => []
  | m, s :: l => relStep m (afterS m s) s :: relA (afterS m s) l
theorem relA_len : ∀ (l : List Step) (m : Mach), (relA m l).length = l.length
  | [], _ => rfl
  | s :: l, m => by simp [relA, relA_len l]
structure SamePlace (m M : Mach) : Prop where
  x : m.x = M.x
  y : m.y = M.y
  z : m.z = M.z
  r : m.rel = false
theorem after_abs {m M : Mach} {s : Step} (h : SamePlace m M) (h1 : ¬ s.k = 1) (h2 : ¬ s.k = 2) : SamePlace (afterS m (absStep (afterS M s) s)) (afterS M s) ∧ relStep m (afterS m (absStep (afterS M s) s)) (absStep (afterS M s) s) = relStep M (afterS M s) s := by
  obtain ⟨a1, a2, a3, a4⟩ := h
  obtain ⟨k, x, y, z, f, n⟩ := s
  obtain ⟨mx, my, mz, msp, mhe, mtl, mfl, mr⟩ := m
  obtain ⟨Mx, My, Mz, Msp, Mhe, Mtl, Mfl, Mr⟩ := M
  simp only at h1 h2 a1 a2 a3 a4
  subst a1; subst a2; subst a3; subst a4
  by_cases h34 : k = 3 ∨ k = 4
  · have h5 : ¬ k = 5 := by omega
    simp [absStep, afterS, relStep, relS, h1, h2, h34]
    exact ⟨rfl, rfl, rfl, rfl⟩
  · by_cases h5 : k = 5
    · simp [absStep, afterS, relStep, relS, h5]
      exact ⟨rfl, rfl, rfl, rfl⟩
    · by_cases h6 : k = 6
      · simp [absStep, afterS, relStep, relS, h6]; exact ⟨rfl, rfl, rfl, rfl⟩
      by_cases h8 : k = 8
      · simp [absStep, afterS, relStep, relS, h8]; exact ⟨rfl, rfl, rfl, rfl⟩
      by_cases h9 : k = 9
      · simp [absStep, afterS, relStep, relS, h9]; exact ⟨rfl, rfl, rfl, rfl⟩
      · simp [absStep, afterS, relStep, relS, h1, h2, h34, h5, h6, h8, h9]; exact ⟨rfl, rfl, rfl, rfl⟩
theorem after_mode {m M : Mach} {s : Step} (h : SamePlace m M) (h12 : s.k = 1 ∨ s.k = 2) : SamePlace m (afterS M s) := by
  obtain ⟨a1, a2, a3, a4⟩ := h
  unfold afterS
  rcases h12 with h | h
  · rw [if_pos h]; exact ⟨a1, a2, a3, a4⟩
  · rw [if_neg (by omega), if_pos h]; exact ⟨a1, a2, a3, a4⟩
theorem rel_eq : ∀ (l : List Step) (m M : Mach), SamePlace m M → relFrom M l = relA m (absFrom M l)
  | [], _, _, _ => rfl
  | s :: l, m, M, h => by
    unfold relFrom relE absFrom
    by_cases h12 : s.k = 1 ∨ s.k = 2
    · rw [if_pos h12, if_pos h12, List.nil_append]
      exact rel_eq l m _ (after_mode h h12)
    · rw [if_neg h12, if_neg h12, relA]
      obtain ⟨g1, g2⟩ := after_abs h (s := s) (by omega) (by omega)
      rw [g2, rel_eq l _ _ g1]; rfl
theorem rel_abs (l : List Step) : relFrom Mach.zero l = relA Mach.zero (absS l) := rel_eq l _ _ ⟨rfl, rfl, rfl, rfl⟩
theorem relative1_a (k : Nat) (was is : Mach) (o : List Step) (c : Nat) (l : List Step) (v : Value) (s : Step) (hs : l[k]? = some s) (ho : o.length ≤ 1000000) :
    ACalls Tryz.prog 102 [.c (I k), .a (was.row.map .c), .a (is.row.map .c), .p 0 0 0, .p 1 0 0] (gath l v c o) fun u H => ∃ c' o', u = .t [] ∧ o' = o ++ relE was is s ∧ H = gath l v c' o' := by
  have hlk : k < l.length := (List.getElem?_eq_some_iff.1 hs).1
  have e1 : (l.map Step.row).length = l.length := by simp
  have hrow : (l.map Step.row)[k]? = some s.row := by rw [List.getElem?_map, hs]; rfl
  refine acallsx_of false (N := 52) Tryz.func102 rfl rfl (by simp) fun E hE hP => ?_
  refine WA ?_
  refine WA ?_
  by_cases h1 : s.k = 1
  · refine WA ?_
    refine aw_cond_t rfl ?_
    refine ZZ ?_
    exact aret_0 [some 0, some 1, some 2] (fun _ => [.box [.c (prog_r v l)], .box [.o 2 0 o.length c], .arr 68 6 c (o.map Step.row)]) (by first | exact .inl rfl | exact .inr rfl) rfl (by decide) (ZNK rfl) ZCH (fun _ => ⟨c, o, rfl, by rw [relE, if_pos (by omega), List.append_nil], rfl⟩)
  by_cases h2 : s.k = 2
  · refine WA ?_
    refine aw_cond_t rfl ?_
    refine ZZ ?_
    exact aret_0 [some 0, some 1, some 2] (fun _ => [.box [.c (prog_r v l)], .box [.o 2 0 o.length c], .arr 68 6 c (o.map Step.row)]) (by first | exact .inl rfl | exact .inr rfl) rfl (by decide) (ZNK rfl) ZCH (fun _ => ⟨c, o, rfl, by rw [relE, if_pos (by omega), List.append_nil], rfl⟩)
  refine WA ?_
  refine aw_cond_f rfl ?_
  refine ZZ ?_
  by_cases h3 : s.k = 3 ∨ s.k = 4
  · refine WR ?_
    refine al_ef rfl (ef_call0 false (fun _ => placed_a _) rfl .fn rfl (by decide) (by kernel_rfl) rfl (fun _g => .cons (.c rfl) .nil) (by simp)) ?_
    rintro _ _ ⟨_, _, _, ⟨bb, rfl, rfl, ⟨rfl, hb⟩ | ⟨rfl, hb⟩⟩, hF, hH⟩
    all_goals ((try simp only [nsl, Nat.reduceAdd, Nat.reduceLT, Nat.reduceSub] at hF); (try simp only [nsl, Nat.reduceAdd, Nat.reduceLT, Nat.reduceSub] at hH); subst hF; subst hH)
    all_goals (refine WE ?_)
    · refine aw_cond_t rfl ?_
      refine ZZ ?_
      refine aw_regionT [(0, none), (1, none), (2, none), (3, none), (4, none), (5, none), (6, none), (7, none), (8, none), (9, none), (10, none), (11, some [5, 6, 7, 8, 9]), (12, none), (13, some [])] hMixed (by kernel_rfl) ?_
      iterate 4 refine WX2 ?_
      refine ZT rfl (rd_sub rfl rfl rfl) ?_
      iterate 4 refine WX2 ?_
      refine ZT rfl (rd_sub rfl rfl rfl) ?_
      refine WQ ?_
      refine WR ?_
      refine al_ef rfl (Zapp (KA (t := 54) rfl)) ?_
      rintro _ _ ⟨_, cc, hcc, rfl, rfl⟩
      refine WE ?_
      exact aret_0 [some 0, some 1, some 2] (fun _ => [.box [.c (prog_r v l)], .box [.o 2 0 (o ++ [(⟨s.k, wrap64 (is.x - was.x), wrap64 (is.y - was.y), s.z, s.f, s.n⟩ : Step)]).length cc], .arr 68 6 cc ((o ++ [(⟨s.k, wrap64 (is.x - was.x), wrap64 (is.y - was.y), s.z, s.f, s.n⟩ : Step)]).map Step.row)]) (.inr rfl) rfl (by decide) (ZNK rfl) ZCH (fun _ => ⟨cc, o ++ [(⟨s.k, wrap64 (is.x - was.x), wrap64 (is.y - was.y), s.z, s.f, s.n⟩ : Step)], rfl, by rw [relE, if_neg (by omega), relStep, if_pos h3], rfl⟩)
    · exact absurd h3 hb
  · refine WR ?_
    refine al_ef rfl (ef_call0 false (fun _ => placed_a _) rfl .fn rfl (by decide) (by kernel_rfl) rfl (fun _g => .cons (.c rfl) .nil) (by simp)) ?_
    rintro _ _ ⟨_, _, _, ⟨bb, rfl, rfl, ⟨rfl, hb⟩ | ⟨rfl, hb⟩⟩, hF, hH⟩
    all_goals ((try simp only [nsl, Nat.reduceAdd, Nat.reduceLT, Nat.reduceSub] at hF); (try simp only [nsl, Nat.reduceAdd, Nat.reduceLT, Nat.reduceSub] at hH); subst hF; subst hH)
    all_goals (refine WE ?_)
    · exact absurd hb h3
    · refine aw_cond_f rfl ?_
      refine ZZ ?_
      refine WA ?_
      refine aw_if rfl (fun h5 => ?_) (fun h5 => ?_)
      · refine ZR ?_
        iterate 4 refine WX1 ?_
        refine ZA (rd_sub rfl rfl rfl) ?_
        refine WE ?_
        refine WR ?_
        refine al_ef rfl (Zapp (KA (t := 54) rfl)) ?_
        rintro _ _ ⟨_, cc, hcc, rfl, rfl⟩
        refine WE ?_
        exact aret_0 [some 0, some 1, some 2] (fun _ => [.box [.c (prog_r v l)], .box [.o 2 0 (o ++ [(⟨s.k, s.x, s.y, wrap64 (is.z - was.z), s.f, s.n⟩ : Step)]).length cc], .arr 68 6 cc ((o ++ [(⟨s.k, s.x, s.y, wrap64 (is.z - was.z), s.f, s.n⟩ : Step)]).map Step.row)]) (.inr rfl) rfl (by decide) (ZNK rfl) ZCH (fun _ => ⟨cc, o ++ [(⟨s.k, s.x, s.y, wrap64 (is.z - was.z), s.f, s.n⟩ : Step)], rfl, by rw [relE, if_neg (by omega), relStep, if_neg h3, if_pos h5], rfl⟩)
      · refine ZZ ?_
        refine WR ?_
        refine al_ef rfl (Zapp (KA (t := 54) rfl)) ?_
        rintro _ _ ⟨_, cc, hcc, rfl, rfl⟩
        refine WE ?_
        exact aret_0 [some 0, some 1, some 2] (fun _ => [.box [.c (prog_r v l)], .box [.o 2 0 (o ++ [s]).length cc], .arr 68 6 cc ((o ++ [s]).map Step.row)]) (.inr rfl) rfl (by decide) (ZNK rfl) ZCH (fun _ => ⟨cc, o ++ [s], rfl, by rw [relE, if_neg (by omega), relStep, if_neg h3, if_neg h5], rfl⟩)
def relJ (l : List Step) (k : Nat) (o : List Step) : Prop := o ++ relFrom (lastS (l.take k)) (l.drop k) = relFrom Mach.zero l ∧ o.length ≤ k
theorem relJ_next {l : List Step} {k : Nat} {o : List Step} {s : Step} (h : relJ l k o) (hs : l[k]? = some s) : relJ l (k + 1) (o ++ relE (lastS (l.take k)) (afterS (lastS (l.take k)) s) s) := by
  obtain ⟨h1, h2⟩ := h
  refine ⟨?_, ?_⟩
  · rw [← h1, drop_cons hs, lastS_succ hs, relFrom, List.append_assoc]
  · unfold relE; split <;> simp <;> omega
def relF (l : List Step) : Int := if progF l ≠ 0 then progF l else progF (relL l)
theorem aw_ole {P : Program} {N : Nat} {E : Env} {F : Fm} {H : List OB} {cd : Code} {Q : Exit → Fm → List OB → Prop} {t b k n c : Nat} (hx : F.lookup t = some (.o b k n c)) (h : n ≤ c → AW P N E cd F H Q) : AW P N E cd F H Q := fun S ρ a w hR =>
  h (by have := (hR.fr t _ hx).2; cases this; assumption) S ρ a w hR
theorem relative_a (l : List Step) (v : Value) (hl : l.length ≤ 900000) (hok : ∀ s ∈ l, s.ok) : ACalls Tryz.prog 45 [.c (prog_r v l)] [] fun u H => ∃ v', u = .t [.c (prog_r v' (if relF l = 0 then relL l else [])), .c (I (relF l))] ∧ H = [] := by
  have h00 : relJ l 0 [] := ⟨rfl, Nat.le_refl _⟩
  have hst : ∀ k c o s, l[k]? = some s → relJ l k o → k ≤ 1000000 → ACalls Tryz.prog 102 [.c (I k), .a ((lastS (l.take k)).row.map .c), .a ((afterS (lastS (l.take k)) s).row.map .c), .p 0 0 0, .p 1 0 0] (gath l v c o) fun u H => ∃ c' o', u = .t [] ∧ relJ l (k + 1) o' ∧ H = gath l v c' o' := fun k c o s hs hJ hk => by
    refine (relative1_a k (lastS (l.take k)) (afterS (lastS (l.take k)) s) o c l v s hs (by have := hJ.2; omega)).mono fun u H ⟨c', o', h1, h2, h3⟩ => ⟨c', o', h1, ?_, h3⟩
    rw [h2]; exact relJ_next hJ hs
  refine acallsx_of false (N := 25) Tryz.func45 rfl rfl (by simp) fun E hE hP => ?_
  refine WA ?_
  refine WR ?_
  refine al_ef rfl (ef_call0 false (fun _ => check_a l v (by omega)) rfl .fn rfl (by decide) (by kernel_rfl) rfl (fun _ => C0 rfl) (by simp)) ?_
  rintro _ _ ⟨_, _, _, ⟨rfl, rfl⟩, hF, hH⟩
  (try simp only [nsl, Nat.reduceAdd, Nat.reduceLT, Nat.reduceSub] at hF); (try simp only [nsl, Nat.reduceAdd, Nat.reduceLT, Nat.reduceSub] at hH); subst hF; subst hH
  refine WE ?_
  refine WA ?_
  refine aw_if rfl (fun hne => ?_) (fun heq => ?_)
  · have ha : relF l = progF l := by rw [relF, if_pos hne]
    rw [ha]
    refine WA ?_
    exact aret_2 [] _ rfl rfl rfl rfl rfl (by decide) (ZNK rfl) (fun _ => .nil) ⟨_, by rw [if_neg hne]; rfl, rfl⟩
  have ha : relF l = progF (relL l) := by rw [relF, if_neg heq]
  rw [ha]
  refine ZZ ?_
  refine WR ?_
  refine al_nil ?_
  refine aseq_n ?_
  refine aw_wk (wk_of (K := fun F H => F = [(1, .p 0 0 0), (5, .p 1 0 0)] ∧ H = [.box [.c (prog_r v l)], .box [.o 2 0 0 0], .arr 68 6 0 []]) [some 0, some 1, none] (fun _ => [(1, .p 0 0 0), (5, .p 1 0 0)]) (fun _ => [.box [.c (prog_r v l)], .box [.o 2 0 0 0], .arr 68 6 0 []]) (by decide) (ZNL hE) ZCF ZCH (fun _ => ⟨rfl, rfl⟩)) ?_
  rintro F H ⟨rfl, rfl⟩
  refine WR ?_
  refine al_ef rfl (ef_call [0, 1, 2] (fun _ => [.box [.c (prog_r v l)], .box [.o 2 0 0 0], .arr 68 6 0 []]) false (fun _ => runS_a 102 (by kernel_rfl) (relJ l) l v (by omega) hok hst 0 [] h00) rfl .fn rfl (by decide) (by kernel_rfl) rfl ZCH (by decide) ZCH (by simp)) ?_
  rintro F1 H1 ⟨_, _, _, _, ⟨c', o', rfl, hJ, hq⟩, hF, hH⟩
  subst hq
  (try simp only [List.set_cons_zero, List.set_cons_succ, updH, posOf, lentArr, killF, killO, killV, AV.has, AV.hasL, AV.emb, AV.embL, OB.emb, embB, List.filter_cons, List.filter_nil, List.getElem?_cons_zero, List.getElem?_cons_succ, List.getD_cons_zero, List.getD_cons_succ, List.drop_succ_cons, List.drop_zero, List.drop_nil, List.contains_cons, List.contains_nil, Nat.reduceBEq, Nat.reduceEqDiff, beq_self_eq_true, Bool.or_false, Bool.false_or, Bool.or_true, Bool.true_or, Bool.false_eq_true, Option.map_some, Option.map_none, List.map_cons, List.map_nil, List.cons_append, List.nil_append, List.append_nil, List.length_cons, List.length_nil, Nat.reduceAdd, Nat.reduceLT, Nat.reduceSub, if_true, if_false, Nat.zero_add, Nat.add_zero, Nat.sub_zero, Nat.lt_irrefl, Nat.not_lt_zero, Nat.zero_lt_one, Nat.lt_add_one] at hF); (try simp only [List.set_cons_zero, List.set_cons_succ, updH, posOf, lentArr, killF, killO, killV, AV.has, AV.hasL, AV.emb, AV.embL, OB.emb, embB, List.filter_cons, List.filter_nil, List.getElem?_cons_zero, List.getElem?_cons_succ, List.getD_cons_zero, List.getD_cons_succ, List.drop_succ_cons, List.drop_zero, List.drop_nil, List.contains_cons, List.contains_nil, Nat.reduceBEq, Nat.reduceEqDiff, beq_self_eq_true, Bool.or_false, Bool.false_or, Bool.or_true, Bool.true_or, Bool.false_eq_true, Option.map_some, Option.map_none, List.map_cons, List.map_nil, List.cons_append, List.nil_append, List.append_nil, List.length_cons, List.length_nil, Nat.reduceAdd, Nat.reduceLT, Nat.reduceSub, if_true, if_false, Nat.zero_add, Nat.add_zero, Nat.sub_zero, Nat.lt_irrefl, Nat.not_lt_zero, Nat.zero_lt_one, Nat.lt_add_one] at hH); subst hF; subst hH
  refine WE ?_
  obtain ⟨hJ1, hJ2⟩ := hJ
  rw [List.drop_eq_nil_of_le (Nat.le_refl _), relFrom, List.append_nil] at hJ1
  have hrl : relL l = headR o' := by rw [relL, ← hJ1]
  have hrn := headR_len o'
  refine WR ?_
  refine al_nil ?_
  refine aseq_n ?_
  refine aw_ole (t := 14) rfl fun hcc => ?_
  refine aw_cut (fun F H => ∃ c2, F = [(5, .p 0 0 0)] ∧ H = [.box [.o 1 0 (relL l).length c2], .arr 68 6 c2 ((relL l).map Step.row)]) ?_ ?_ wk_aw
  · refine aw_if rfl (fun hgt => ?_) (fun hle => ?_)
    · have hne : o' ≠ [] := fun h => by rw [h] at hgt; simp at hgt
      have hrl2 : relL l = ⟨2, 0, 0, 0, 0, 0⟩ :: o' := by rw [hrl, headR, if_neg hne]
      rw [hrl2]
      refine WR ?_
      refine al_ef rfl (ef_call [2, 3] (fun _ => [.arr 68 6 c' (o'.map Step.row), .arr 68 6 1 [(⟨2, 0, 0, 0, 0, 0⟩ : Step).row]]) false (fun _ => insert_a ⟨2, 0, 0, 0, 0, 0⟩ o' c' (by omega) hcc (by omega)) rfl .fn rfl (by decide) (by kernel_rfl) rfl ZCH (by decide) ZCH (by simp)) ?_
      rintro F1 H1 ⟨_, _, _, _, ⟨rfl, hq⟩ | ⟨c2, rfl, hq⟩, hF, hH⟩
      all_goals ((subst hq; (try simp only [List.set_cons_zero, List.set_cons_succ, updH, posOf, lentArr, killF, killO, killV, AV.has, AV.hasL, AV.emb, AV.embL, OB.emb, embB, List.filter_cons, List.filter_nil, List.getElem?_cons_zero, List.getElem?_cons_succ, List.getD_cons_zero, List.getD_cons_succ, List.drop_succ_cons, List.drop_zero, List.drop_nil, List.contains_cons, List.contains_nil, Nat.reduceBEq, Nat.reduceEqDiff, beq_self_eq_true, Bool.or_false, Bool.false_or, Bool.or_true, Bool.true_or, Bool.false_eq_true, Option.map_some, Option.map_none, List.map_cons, List.map_nil, List.cons_append, List.nil_append, List.append_nil, List.length_cons, List.length_nil, Nat.reduceAdd, Nat.reduceLT, Nat.reduceSub, if_true, if_false, Nat.zero_add, Nat.add_zero, Nat.sub_zero, Nat.lt_irrefl, Nat.not_lt_zero, Nat.zero_lt_one, Nat.lt_add_one] at hF); (try simp only [List.set_cons_zero, List.set_cons_succ, updH, posOf, lentArr, killF, killO, killV, AV.has, AV.hasL, AV.emb, AV.embL, OB.emb, embB, List.filter_cons, List.filter_nil, List.getElem?_cons_zero, List.getElem?_cons_succ, List.getD_cons_zero, List.getD_cons_succ, List.drop_succ_cons, List.drop_zero, List.drop_nil, List.contains_cons, List.contains_nil, Nat.reduceBEq, Nat.reduceEqDiff, beq_self_eq_true, Bool.or_false, Bool.false_or, Bool.or_true, Bool.true_or, Bool.false_eq_true, Option.map_some, Option.map_none, List.map_cons, List.map_nil, List.cons_append, List.nil_append, List.append_nil, List.length_cons, List.length_nil, Nat.reduceAdd, Nat.reduceLT, Nat.reduceSub, if_true, if_false, Nat.zero_add, Nat.add_zero, Nat.sub_zero, Nat.lt_irrefl, Nat.not_lt_zero, Nat.zero_lt_one, Nat.lt_add_one] at hH); subst hF; subst hH))
      all_goals (refine WE ?_)
      · refine wk_of [some 1, some 2] (fun _ => [(5, .p 0 0 0)]) (fun _ => [.box [.o 1 0 ((⟨2, 0, 0, 0, 0, 0⟩ : Step) :: o').length c'], .arr 68 6 c' (((⟨2, 0, 0, 0, 0, 0⟩ : Step) :: o').map Step.row)]) (by decide) (ZNL hE) ZCF ZCH (fun _ => ⟨_, rfl, rfl⟩)
      · refine wk_of [some 1, some 4] (fun _ => [(5, .p 0 0 0)]) (fun _ => [.box [.o 1 0 ((⟨2, 0, 0, 0, 0, 0⟩ : Step) :: o').length c2], .arr 68 6 c2 (((⟨2, 0, 0, 0, 0, 0⟩ : Step) :: o').map Step.row)]) (by decide) (ZNL hE) ZCF ZCH (fun _ => ⟨_, rfl, rfl⟩)
    · obtain rfl : o' = [] := List.eq_nil_of_length_eq_zero (by omega)
      have hrl2 : relL l = [] := by rw [hrl, headR, if_pos rfl]
      rw [hrl2]
      refine ZZ ?_
      refine wk_of [some 1, some 2] (fun _ => [(5, .p 0 0 0)]) (fun _ => [.box [.o 1 0 ([] : List Step).length c'], .arr 68 6 c' (([] : List Step).map Step.row)]) (by decide) (ZNL hE) ZCF ZCH (fun _ => ?_)
      exact ⟨_, rfl, rfl⟩
  rintro F H ⟨c2, rfl, rfl⟩
  have hrb : (relL l).length ≤ 1000000 := by rw [hrl]; omega
  refine WR ?_
  refine al_wk (wk_of (K := fun F H => ∃ vv, F = [(21, .c (prog_r vv (relL l)))] ∧ H = []) [] (fun g => [(21, .c (prog_r (g (.o 1 0 (relL l).length c2)) (relL l)))]) (fun _ => _) (by decide) (ZNL hE) (fun _g => .cons rfl (.frz rfl rfl (by rw [List.drop_zero, List.take_of_length_le (by simp)]) (by simp) rfl) .nil) (fun _ => .nil) (fun g => ⟨_, rfl, rfl⟩)) ?_
  rintro F H ⟨vv, rfl, rfl⟩
  refine al_ef rfl (ef_call0 false (fun _ => checked_a (relL l) vv (by omega)) rfl .fn rfl (by decide) (by kernel_rfl) rfl (fun _ => C0 rfl) (by simp)) ?_
  rintro _ _ ⟨_, _, _, ⟨vb, rfl, rfl⟩, hF, hH⟩
  (try simp only [nsl, Nat.reduceAdd, Nat.reduceLT, Nat.reduceSub] at hF); (try simp only [nsl, Nat.reduceAdd, Nat.reduceLT, Nat.reduceSub] at hH); subst hF; subst hH
  refine WE ?_
  exact aret_2 [] _ rfl rfl rfl rfl rfl (by decide) (ZNK rfl) (fun _ => .nil) ⟨_, rfl, rfl⟩
end Go.Proofs.YtdmeohgojdfmoaaGreatDoor

/- Running programs with their statuses, by value. -/
namespace Go.Proofs.YtdmeohgojdfmoaaGreatDoor
open Go Go.RowKit
set_option maxRecDepth 100000
theorem run1_a (k : Int) (a b : Mach) (c : Nat) (ms : List Mach) (hb : ms.length ≤ 1000000) : ACalls Tryz.prog 92 [.c (I k), .a (a.row.map .c), .a (b.row.map .c), .p 0 0 0] [.box [.o 1 0 ms.length c], .arr 60 8 c (ms.map Mach.row)] fun u H => ∃ c', u = .t [] ∧ H = [.box [.o 1 0 (ms ++ [b]).length c'], .arr 60 8 c' ((ms ++ [b]).map Mach.row)] := by
  refine acallsx_of false (N := 11) Tryz.func92 rfl rfl (by simp) fun E hE hP => ?_
  refine WA ?_
  refine WR ?_
  refine al_ef rfl (Zapp (KA (t := 56) rfl)) ?_
  rintro _ _ ⟨_, cc, hcc, rfl, rfl⟩
  refine WE ?_
  exact aret_0 [some 0, some 1] (fun _ => [.box [.o 1 0 (ms ++ [b]).length cc], .arr 60 8 cc ((ms ++ [b]).map Mach.row)]) (.inr rfl) rfl (by decide) (ZNK rfl) ZCH (fun _ => ⟨cc, rfl, rfl⟩)
abbrev runsK (l : List Step) (k : Nat) : List Mach := (List.range k).map fun i => lastS (l.take (i + 1))
theorem runRun_a (l : List Step) (v : Value) (hl : l.length ≤ 1000000) (hok : ∀ s ∈ l, s.ok) : ACalls Tryz.prog 91 [.c (prog_r v l), .f (.func 92) [.p 0 0 0]] [.box [.o 1 0 0 0], .arr 60 8 0 []] fun u H => ∃ c, u = .a ((lastS l).row.map .c) ∧ H = [.box [.o 1 0 (runsS l).length c], .arr 60 8 c ((runsS l).map Mach.row)] := by
  have e1 : (l.map Step.row).length = l.length := by simp
  refine acallsx_of false (N := 27) Tryz.func91 rfl rfl (by simp) fun E hE hP => ?_
  refine WA ?_
  refine WA ?_
  refine WA ?_
  refine aw_loopw (fun n F H => ∃ (k c : Nat) (ms : List Mach), n + k = l.length ∧ ms = runsK l k ∧ F = [(1, .f (.func 92) [.p 0 0 0]), (4, .p 2 0 0), (5, .p 3 0 0), (9, .c (prog_r v l)), (10, .c (I (l.map Step.row).length)), (11, .c (I k))] ∧ H = [.box [.o 1 0 ms.length c], .arr 60 8 c (ms.map Mach.row), .box (Mach.zero.row.map .c), .box ((lastS (l.take k)).row.map .c)]) ?_ ?_
  · refine wk_of [some 0, some 1, some 2, some 3] (fun _ => [(1, .f (.func 92) [.p 0 0 0]), (4, .p 2 0 0), (5, .p 3 0 0), (9, .c (prog_r v l)), (10, .c (I (l.map Step.row).length)), (11, .c (I (0 : Nat)))]) (fun _ => [.box [.o 1 0 ([] : List Mach).length 0], .arr 60 8 0 (([] : List Mach).map Mach.row), .box (Mach.zero.row.map .c), .box ((lastS (l.take 0)).row.map .c)]) (by decide) (ZNL hE) ZCF ZCH (fun _ => ?_)
    exact ⟨l.length, 0, 0, [], by omega, rfl, rfl, rfl⟩
  rintro n F H ⟨k, c, ms, hk, hms, rfl, rfl⟩
  have hml : ms.length = k := by rw [hms]; simp
  refine WA ?_
  refine aw_if rfl (fun hlt => ?_) (fun hge => ?_)
  · obtain ⟨s, hs⟩ : ∃ s, l[k]? = some s := ⟨_, List.getElem?_eq_getElem (by omega)⟩
    have hrow : (l.map Step.row)[k]? = some s.row := by rw [List.getElem?_map, hs]; rfl
    have hso := hok s (List.mem_of_getElem? hs)
    refine WA ?_
    refine WA ?_
    refine WR ?_
    refine al_ef rfl (ef_call0 false (fun _ => after_a (lastS (l.take k)) s hso) rfl .fn rfl (by decide) (by kernel_rfl) rfl (fun _ => C0 rfl) (by simp)) ?_
    rintro _ _ ⟨_, _, _, ⟨rfl, rfl⟩, hF, hH⟩
    (try simp only [nsl, Nat.reduceAdd, Nat.reduceLT, Nat.reduceSub] at hF); (try simp only [nsl, Nat.reduceAdd, Nat.reduceLT, Nat.reduceSub] at hH); subst hF; subst hH
    refine WE ?_
    refine WR ?_
    refine al_ef rfl (ef_call [0, 1] (fun _ => [.box [.o 1 0 ms.length c], .arr 60 8 c (ms.map Mach.row)]) false (fun _ => run1_a k (lastS (l.take k)) (afterS (lastS (l.take k)) s) c ms (by omega)) rfl (.clo rfl) rfl (by decide) (by kernel_rfl) rfl ZCH (by decide) ZCH (by simp)) ?_
    rintro F1 H1 ⟨_, _, _, _, ⟨c', rfl, hq⟩, hF, hH⟩
    subst hq
    (try simp only [List.set_cons_zero, List.set_cons_succ, updH, posOf, lentArr, killF, killO, killV, AV.has, AV.hasL, AV.emb, AV.embL, OB.emb, embB, List.filter_cons, List.filter_nil, List.getElem?_cons_zero, List.getElem?_cons_succ, List.getD_cons_zero, List.getD_cons_succ, List.drop_succ_cons, List.drop_zero, List.drop_nil, List.contains_cons, List.contains_nil, Nat.reduceBEq, Nat.reduceEqDiff, beq_self_eq_true, Bool.or_false, Bool.false_or, Bool.or_true, Bool.true_or, Bool.false_eq_true, Option.map_some, Option.map_none, List.map_cons, List.map_nil, List.cons_append, List.nil_append, List.append_nil, List.length_cons, List.length_nil, Nat.reduceAdd, Nat.reduceLT, Nat.reduceSub, if_true, if_false, Nat.zero_add, Nat.add_zero, Nat.sub_zero, Nat.lt_irrefl, Nat.not_lt_zero, Nat.zero_lt_one, Nat.lt_add_one] at hF); (try simp only [List.set_cons_zero, List.set_cons_succ, updH, posOf, lentArr, killF, killO, killV, AV.has, AV.hasL, AV.emb, AV.embL, OB.emb, embB, List.filter_cons, List.filter_nil, List.getElem?_cons_zero, List.getElem?_cons_succ, List.getD_cons_zero, List.getD_cons_succ, List.drop_succ_cons, List.drop_zero, List.drop_nil, List.contains_cons, List.contains_nil, Nat.reduceBEq, Nat.reduceEqDiff, beq_self_eq_true, Bool.or_false, Bool.false_or, Bool.or_true, Bool.true_or, Bool.false_eq_true, Option.map_some, Option.map_none, List.map_cons, List.map_nil, List.cons_append, List.nil_append, List.append_nil, List.length_cons, List.length_nil, Nat.reduceAdd, Nat.reduceLT, Nat.reduceSub, if_true, if_false, Nat.zero_add, Nat.add_zero, Nat.sub_zero, Nat.lt_irrefl, Nat.not_lt_zero, Nat.zero_lt_one, Nat.lt_add_one] at hH); subst hF; subst hH
    refine WE ?_
    refine WA ?_
    refine wk_of [some 0, some 1, some 2, some 3] (fun _ => [(1, .f (.func 92) [.p 0 0 0]), (4, .p 2 0 0), (5, .p 3 0 0), (9, .c (prog_r v l)), (10, .c (I (l.map Step.row).length)), (11, .c (I (k + 1 : Nat)))]) (fun _ => [.box [.o 1 0 (ms ++ [afterS (lastS (l.take k)) s]).length c'], .arr 60 8 c' ((ms ++ [afterS (lastS (l.take k)) s]).map Mach.row), .box (Mach.zero.row.map .c), .box ((afterS (lastS (l.take k)) s).row.map .c)]) (by decide) (ZNL hE) ZCF ZCH (fun _ => ?_)
    exact ⟨n - 1, by omega, k + 1, c', ms ++ [afterS (lastS (l.take k)) s], by omega, by rw [runsK, runs_next, hms, lastS_succ hs], rfl, by rw [lastS_succ hs]⟩
  refine WA ?_
  obtain rfl : k = l.length := by omega
  refine aret_a [some 0, some 1] [.box [.o 1 0 ms.length c], .arr 60 8 c (ms.map Mach.row)] rfl (KK (t := 60) rfl) rfl (Cells.box rfl) (by simp) (by (try simp only [nm, putL, Nat.reduceAdd, cellsOf, cvOf]) <;> rfl) (by decide) (ZNK rfl) (fun _ => C0 rfl) ZCH ⟨c, ?_, by rw [hms]; rfl⟩
  rw [List.take_of_length_le (by omega)]; rfl
theorem run_a (l : List Step) (v : Value) (hl : l.length ≤ 1000000) (hok : ∀ s ∈ l, s.ok) : ACalls Tryz.prog 33 [.c (prog_r v l)] [] fun u H => ∃ v', u = .t [.c (.r v' ((if progF l = 0 then runsS l else []).map Mach.row)), .c (I (progF l))] ∧ H = [] := by
  refine acallsx_of false (N := 15) Tryz.func33 rfl rfl (by simp) fun E hE hP => ?_
  refine WA ?_
  refine WR ?_
  refine al_ef rfl (ef_call0 false (fun _ => check_a l v (by omega)) rfl .fn rfl (by decide) (by kernel_rfl) rfl (fun _ => C0 rfl) (by simp)) ?_
  rintro _ _ ⟨_, _, _, ⟨rfl, rfl⟩, hF, hH⟩
  (try simp only [nsl, Nat.reduceAdd, Nat.reduceLT, Nat.reduceSub] at hF); (try simp only [nsl, Nat.reduceAdd, Nat.reduceLT, Nat.reduceSub] at hH); subst hF; subst hH
  refine WE ?_
  refine WA ?_
  refine aw_if rfl (fun hne => ?_) (fun heq => ?_)
  · refine WA ?_
    exact aret_2 [] _ rfl rfl rfl rfl rfl (by decide) (ZNK rfl) (fun _ => .nil) ⟨_, by rw [if_neg hne]; rfl, rfl⟩
  · have h0 : progF l = 0 := by omega
    refine ZZ ?_
    refine WR ?_
    refine al_nil ?_
    refine aseq_n ?_
    refine aw_wk (wk_of (K := fun F H => F = [(0, .c (prog_r v l)), (5, .p 0 0 0)] ∧ H = [.box [.o 1 0 0 0], .arr 60 8 0 []]) [some 0, none] (fun _ => [(0, .c (prog_r v l)), (5, .p 0 0 0)]) (fun _ => [.box [.o 1 0 0 0], .arr 60 8 0 []]) (by decide) (ZNL hE) ZCF ZCH (fun _ => ⟨rfl, rfl⟩)) ?_
    rintro F H ⟨rfl, rfl⟩
    refine WR ?_
    refine al_ef rfl (ef_call [0, 1] (fun _ => [.box [.o 1 0 0 0], .arr 60 8 0 []]) false (fun _ => runRun_a l v hl hok) rfl .fn rfl (by decide) (by kernel_rfl) rfl ZCH (by decide) ZCH (by simp)) ?_
    rintro F1 H1 ⟨_, _, _, _, ⟨c', rfl, hq⟩, hF, hH⟩
    subst hq
    (try simp only [List.set_cons_zero, List.set_cons_succ, updH, posOf, lentArr, killF, killO, killV, AV.has, AV.hasL, AV.emb, AV.embL, OB.emb, embB, List.filter_cons, List.filter_nil, List.getElem?_cons_zero, List.getElem?_cons_succ, List.getD_cons_zero, List.getD_cons_succ, List.drop_succ_cons, List.drop_zero, List.drop_nil, List.contains_cons, List.contains_nil, Nat.reduceBEq, Nat.reduceEqDiff, beq_self_eq_true, Bool.or_false, Bool.false_or, Bool.or_true, Bool.true_or, Bool.false_eq_true, Option.map_some, Option.map_none, List.map_cons, List.map_nil, List.cons_append, List.nil_append, List.append_nil, List.length_cons, List.length_nil, Nat.reduceAdd, Nat.reduceLT, Nat.reduceSub, if_true, if_false, Nat.zero_add, Nat.add_zero, Nat.sub_zero, Nat.lt_irrefl, Nat.not_lt_zero, Nat.zero_lt_one, Nat.lt_add_one] at hF); (try simp only [List.set_cons_zero, List.set_cons_succ, updH, posOf, lentArr, killF, killO, killV, AV.has, AV.hasL, AV.emb, AV.embL, OB.emb, embB, List.filter_cons, List.filter_nil, List.getElem?_cons_zero, List.getElem?_cons_succ, List.getD_cons_zero, List.getD_cons_succ, List.drop_succ_cons, List.drop_zero, List.drop_nil, List.contains_cons, List.contains_nil, Nat.reduceBEq, Nat.reduceEqDiff, beq_self_eq_true, Bool.or_false, Bool.false_or, Bool.or_true, Bool.true_or, Bool.false_eq_true, Option.map_some, Option.map_none, List.map_cons, List.map_nil, List.cons_append, List.nil_append, List.append_nil, List.length_cons, List.length_nil, Nat.reduceAdd, Nat.reduceLT, Nat.reduceSub, if_true, if_false, Nat.zero_add, Nat.add_zero, Nat.sub_zero, Nat.lt_irrefl, Nat.not_lt_zero, Nat.zero_lt_one, Nat.lt_add_one] at hH); subst hF; subst hH
    refine WE ?_
    refine WA ?_
    exact aret_f2 [] [] rfl rfl rfl rfl rfl rfl (by rw [List.drop_zero, List.take_of_length_le (by simp)]) (by simp) (by decide) (by decide) (ZNK rfl) (fun _ => .nil) (fun v' => ⟨v', by rw [if_pos h0, h0], rfl⟩)
end Go.Proofs.YtdmeohgojdfmoaaGreatDoor

/- What programs do, by value. -/
namespace Go.Proofs.YtdmeohgojdfmoaaGreatDoor
open Go Go.RowKit
set_option maxRecDepth 100000
/-- What was done ahead, and the last deed. -/
structure DSt where
  o : List Wt
  d : Wt
def stepDS (st : DSt) (s : Step) (is : Mach) : DSt :=
  if st.d.m.eq is.abs then (if s.k = 7 then ⟨st.o, ⟨st.d.m, wrap64 (st.d.t + s.n)⟩⟩ else st) else ⟨st.o ++ [st.d], ⟨is.abs, 0⟩⟩
theorem deeds1_a (k : Nat) (a b : Mach) (o : List Wt) (d : Wt) (c : Nat) (l : List Step) (v : Value) (s : Step) (hs : l[k]? = some s) (ho : o.length ≤ 1000000) :
    ACalls Tryz.prog 146 [.c (I k), .a (a.row.map .c), .a (b.row.map .c), .p 0 0 0, .p 1 0 0] [.box [.o 2 0 (o.length + 1) c], .box [.c (prog_r v l)], .arr 152 9 c ((o ++ [d]).map Wt.row)] fun u H =>
      ∃ (st : DSt) (c' : Nat), u = .t [] ∧ st = stepDS ⟨o, d⟩ s b ∧ H = [.box [.o 2 0 (st.o.length + 1) c'], .box [.c (prog_r v l)], .arr 152 9 c' ((st.o ++ [st.d]).map Wt.row)] := by
  have hlk : k < l.length := (List.getElem?_eq_some_iff.1 hs).1
  have hrow : (l.map Step.row)[k]? = some s.row := by rw [List.getElem?_map, hs]; rfl
  have hrd : ((o ++ [d]).map Wt.row)[o.length]? = some d.row := by rw [List.getElem?_map, List.getElem?_append_right (Nat.le_refl _)]; simp
  refine acallsx_of false (N := 44) Tryz.func146 rfl rfl (by simp) fun E hE hP => ?_
  refine WA ?_
  refine WA ?_
  refine ZR ?_
  iterate 4 refine WX1 ?_
  refine ZA (rd_index (i := o.length) rfl (KE (t := 150) rfl) rfl rfl rfl (by simp only [Int.natCast_add]; omega) (by omega)) ?_
  refine WE ?_
  refine ZZ ?_
  refine aw_regionT [(0, none), (1, none), (2, none), (3, none), (4, none), (5, none)] hMixed (by kernel_rfl) ?_
  refine WQ ?_
  refine aw_if rfl (fun hne => ?_) (fun heq => ?_)
  · refine WR ?_
    refine al_ef rfl (Zapp (KA (t := 150) rfl)) ?_
    rintro _ _ ⟨_, cc, hcc, rfl, rfl⟩
    refine WE ?_
    exact aret_0 [some 0, some 1, some 2] (fun _ => [.box [.o 2 0 ((o ++ [d]).length + 1) cc], .box [.c (prog_r v l)], .arr 152 9 cc (((o ++ [d]) ++ [(⟨b.abs, 0⟩ : Wt)]).map Wt.row)]) (.inr rfl) rfl (by decide) (ZNK rfl) ZCH (fun _ => ⟨⟨o ++ [d], ⟨b.abs, 0⟩⟩, cc, rfl, by rw [stepDS, if_neg (show ¬ d.m.eq b.abs from hne)], rfl⟩)
  · refine ZZ ?_
    refine WA ?_
    have he : d.m.eq b.abs := Decidable.not_not.1 heq
    refine aw_if rfl (fun h7 => ?_) (fun h7 => ?_)
    · refine ZZ ?_
      refine aw_regionT [(0, none), (1, none), (2, none), (3, none), (4, none), (5, none), (6, none), (7, none), (8, none), (9, none), (10, none), (11, none), (12, some [])] hMixed (by kernel_rfl) ?_
      refine WQ ?_
      all_goals refine aret_0 [some 0, some 1, some 2] (fun _ => [.box [.o 2 0 (o.length + 1) c], .box [.c (prog_r v l)], .arr 152 9 c ((o ++ [(⟨d.m, wrap64 (d.t + s.n)⟩ : Wt)]).map Wt.row)]) (.inr rfl) rfl (by decide) (ZNK rfl) (fun _g => .box rfl (.cons (.o rfl rfl) .nil) (.box rfl (.cons (.c rfl) .nil) (.arr rfl ?_ .nil))) (fun _ => ⟨⟨o, ⟨d.m, wrap64 (d.t + s.n)⟩⟩, c, rfl, by rw [stepDS, if_pos he, if_pos h7], rfl⟩)
      all_goals (rw [Nat.zero_add, List.map_append, List.map_append, List.set_append_right _ _ (by simp)]; simp)
    · refine ZZ ?_
      exact aret_0 [some 0, some 1, some 2] (fun _ => [.box [.o 2 0 (o.length + 1) c], .box [.c (prog_r v l)], .arr 152 9 c ((o ++ [d]).map Wt.row)]) (.inr rfl) rfl (by decide) (ZNK rfl) ZCH (fun _ => ⟨⟨o, d⟩, c, rfl, by rw [stepDS, if_pos he, if_neg h7], rfl⟩)
def deedS (l : List Step) : Nat → DSt
  | 0 => ⟨[], ⟨Mach.zero, 0⟩⟩
  | k + 1 => match l[k]? with
    | some s => stepDS (deedS l k) s (lastS (l.take (k + 1)))
    | none => deedS l k
theorem deedS_succ {l : List Step} {k : Nat} {s : Step} (h : l[k]? = some s) : deedS l (k + 1) = stepDS (deedS l k) s (lastS (l.take (k + 1))) := by
  simp only [deedS, h]
theorem deedS_len (l : List Step) : ∀ k, (deedS l k).o.length ≤ k
  | 0 => Nat.le_refl _
  | k + 1 => by
    have h := deedS_len l k
    unfold deedS
    split
    · unfold stepDS
      split
      · split
        · simp; omega
        · omega
      · simp; omega
    · omega
def deedsL (l : List Step) : List Wt := (deedS l l.length).o ++ [(deedS l l.length).d]
theorem runDeeds_a (l : List Step) (v : Value) (hl : l.length ≤ 1000000) (hok : ∀ s ∈ l, s.ok) : ACalls Tryz.prog 91 [.c (prog_r v l), .f (.func 146) [.p 0 0 0, .p 1 0 0]] [.box [.o 2 0 1 1], .box [.c (prog_r v l)], .arr 152 9 1 [(⟨Mach.zero, 0⟩ : Wt).row]] fun u H => ∃ c, u = .a ((lastS l).row.map .c) ∧ H = [.box [.o 2 0 (deedsL l).length c], .box [.c (prog_r v l)], .arr 152 9 c ((deedsL l).map Wt.row)] := by
  have e1 : (l.map Step.row).length = l.length := by simp
  refine acallsx_of false (N := 27) Tryz.func91 rfl rfl (by simp) fun E hE hP => ?_
  refine WA ?_
  refine WA ?_
  refine WA ?_
  refine aw_loopw (fun n F H => ∃ (k c : Nat) (st : DSt), n + k = l.length ∧ st = deedS l k ∧ F = [(1, .f (.func 146) [.p 0 0 0, .p 1 0 0]), (4, .p 3 0 0), (5, .p 4 0 0), (9, .c (prog_r v l)), (10, .c (I (l.map Step.row).length)), (11, .c (I k))] ∧ H = [.box [.o 2 0 (st.o.length + 1) c], .box [.c (prog_r v l)], .arr 152 9 c ((st.o ++ [st.d]).map Wt.row), .box (Mach.zero.row.map .c), .box ((lastS (l.take k)).row.map .c)]) ?_ ?_
  · refine wk_of [some 0, some 1, some 2, some 3, some 4] (fun _ => [(1, .f (.func 146) [.p 0 0 0, .p 1 0 0]), (4, .p 3 0 0), (5, .p 4 0 0), (9, .c (prog_r v l)), (10, .c (I (l.map Step.row).length)), (11, .c (I (0 : Nat)))]) (fun _ => [.box [.o 2 0 1 1], .box [.c (prog_r v l)], .arr 152 9 1 [(⟨Mach.zero, 0⟩ : Wt).row], .box (Mach.zero.row.map .c), .box ((lastS (l.take 0)).row.map .c)]) (by decide) (ZNL hE) ZCF ZCH (fun _ => ?_)
    exact ⟨l.length, 0, 1, ⟨[], ⟨Mach.zero, 0⟩⟩, by omega, rfl, rfl, rfl⟩
  rintro n F H ⟨k, c, st, hk, hst, rfl, rfl⟩
  have hml : st.o.length ≤ k := by rw [hst]; exact deedS_len l k
  refine WA ?_
  refine aw_if rfl (fun hlt => ?_) (fun hge => ?_)
  · obtain ⟨s, hs⟩ : ∃ s, l[k]? = some s := ⟨_, List.getElem?_eq_getElem (by omega)⟩
    have hrow : (l.map Step.row)[k]? = some s.row := by rw [List.getElem?_map, hs]; rfl
    have hso := hok s (List.mem_of_getElem? hs)
    refine WA ?_
    refine WA ?_
    refine WR ?_
    refine al_ef rfl (ef_call0 false (fun _ => after_a (lastS (l.take k)) s hso) rfl .fn rfl (by decide) (by kernel_rfl) rfl (fun _ => C0 rfl) (by simp)) ?_
    rintro _ _ ⟨_, _, _, ⟨rfl, rfl⟩, hF, hH⟩
    (try simp only [nsl, Nat.reduceAdd, Nat.reduceLT, Nat.reduceSub] at hF); (try simp only [nsl, Nat.reduceAdd, Nat.reduceLT, Nat.reduceSub] at hH); subst hF; subst hH
    refine WE ?_
    refine WR ?_
    refine al_ef rfl (ef_call [0, 1, 2] (fun _ => [.box [.o 2 0 (st.o.length + 1) c], .box [.c (prog_r v l)], .arr 152 9 c ((st.o ++ [st.d]).map Wt.row)]) false (fun _ => deeds1_a k (lastS (l.take k)) (afterS (lastS (l.take k)) s) st.o st.d c l v s hs (by omega)) rfl (.clo rfl) rfl (by decide) (by kernel_rfl) rfl ZCH (by decide) ZCH (by simp)) ?_
    rintro F1 H1 ⟨_, _, _, _, ⟨st', c', rfl, hst', hq⟩, hF, hH⟩
    subst hq
    (try simp only [List.set_cons_zero, List.set_cons_succ, updH, posOf, lentArr, killF, killO, killV, AV.has, AV.hasL, AV.emb, AV.embL, OB.emb, embB, List.filter_cons, List.filter_nil, List.getElem?_cons_zero, List.getElem?_cons_succ, List.getD_cons_zero, List.getD_cons_succ, List.drop_succ_cons, List.drop_zero, List.drop_nil, List.contains_cons, List.contains_nil, Nat.reduceBEq, Nat.reduceEqDiff, beq_self_eq_true, Bool.or_false, Bool.false_or, Bool.or_true, Bool.true_or, Bool.false_eq_true, Option.map_some, Option.map_none, List.map_cons, List.map_nil, List.cons_append, List.nil_append, List.append_nil, List.length_cons, List.length_nil, Nat.reduceAdd, Nat.reduceLT, Nat.reduceSub, if_true, if_false, Nat.zero_add, Nat.add_zero, Nat.sub_zero, Nat.lt_irrefl, Nat.not_lt_zero, Nat.zero_lt_one, Nat.lt_add_one] at hF); (try simp only [List.set_cons_zero, List.set_cons_succ, updH, posOf, lentArr, killF, killO, killV, AV.has, AV.hasL, AV.emb, AV.embL, OB.emb, embB, List.filter_cons, List.filter_nil, List.getElem?_cons_zero, List.getElem?_cons_succ, List.getD_cons_zero, List.getD_cons_succ, List.drop_succ_cons, List.drop_zero, List.drop_nil, List.contains_cons, List.contains_nil, Nat.reduceBEq, Nat.reduceEqDiff, beq_self_eq_true, Bool.or_false, Bool.false_or, Bool.or_true, Bool.true_or, Bool.false_eq_true, Option.map_some, Option.map_none, List.map_cons, List.map_nil, List.cons_append, List.nil_append, List.append_nil, List.length_cons, List.length_nil, Nat.reduceAdd, Nat.reduceLT, Nat.reduceSub, if_true, if_false, Nat.zero_add, Nat.add_zero, Nat.sub_zero, Nat.lt_irrefl, Nat.not_lt_zero, Nat.zero_lt_one, Nat.lt_add_one] at hH); subst hF; subst hH
    refine WE ?_
    refine WA ?_
    refine wk_of [some 0, some 1, some 2, some 3, some 4] (fun _ => [(1, .f (.func 146) [.p 0 0 0, .p 1 0 0]), (4, .p 3 0 0), (5, .p 4 0 0), (9, .c (prog_r v l)), (10, .c (I (l.map Step.row).length)), (11, .c (I (k + 1 : Nat)))]) (fun _ => [.box [.o 2 0 (st'.o.length + 1) c'], .box [.c (prog_r v l)], .arr 152 9 c' ((st'.o ++ [st'.d]).map Wt.row), .box (Mach.zero.row.map .c), .box ((afterS (lastS (l.take k)) s).row.map .c)]) (by decide) (ZNL hE) ZCF ZCH (fun _ => ?_)
    exact ⟨n - 1, by omega, k + 1, c', st', by omega, by rw [hst', deedS_succ hs, hst, lastS_succ hs], rfl, by rw [lastS_succ hs]⟩
  refine WA ?_
  obtain rfl : k = l.length := by omega
  refine aret_a [some 0, some 1, some 2] [.box [.o 2 0 (st.o.length + 1) c], .box [.c (prog_r v l)], .arr 152 9 c ((st.o ++ [st.d]).map Wt.row)] rfl (KK (t := 60) rfl) rfl (Cells.box rfl) (by simp) (by (try simp only [nm, putL, Nat.reduceAdd, cellsOf, cvOf]) <;> rfl) (by decide) (ZNK rfl) (fun _ => C0 rfl) ZCH ⟨c, ?_, by rw [hst, deedsL]; simp⟩
  rw [List.take_of_length_le (by omega)]; rfl
theorem deeds_a (l : List Step) (v : Value) (hl : l.length ≤ 1000000) (hok : ∀ s ∈ l, s.ok) : ACalls Tryz.prog 106 [.c (prog_r v l)] [] fun u H => ∃ v', u = .c (.r v' ((deedsL l).map Wt.row)) ∧ H = [] := by
  refine acallsx_of false (N := 9) Tryz.func106 rfl rfl (by simp) fun E hE hP => ?_
  refine WA ?_
  refine ZR ?_
  refine ZE (Zmak (l := 1) (c := 1) Tryz.underlying150 (KI (t := 152) rfl)) ?_
  refine WO ?_
  refine al_nil ?_
  refine aseq_n ?_
  refine aw_wk (wk_of (K := fun F H => F = [(1, .p 1 0 0), (3, .p 0 0 0)] ∧ H = [.box [.o 2 0 1 1], .box [.c (prog_r v l)], .arr 152 9 1 [(⟨Mach.zero, 0⟩ : Wt).row]]) [some 2, some 0, some 1] (fun _ => [(1, .p 1 0 0), (3, .p 0 0 0)]) (fun _ => [.box [.o 2 0 1 1], .box [.c (prog_r v l)], .arr 152 9 1 [(⟨Mach.zero, 0⟩ : Wt).row]]) (by decide) (ZNL hE) ZCF ZCH (fun _ => ⟨rfl, rfl⟩)) ?_
  rintro F H ⟨rfl, rfl⟩
  refine WR ?_
  refine al_ef rfl (ef_call [0, 1, 2] (fun _ => [.box [.o 2 0 1 1], .box [.c (prog_r v l)], .arr 152 9 1 [(⟨Mach.zero, 0⟩ : Wt).row]]) false (fun _ => runDeeds_a l v hl hok) rfl .fn rfl (by decide) (by kernel_rfl) rfl ZCH (by decide) ZCH (by simp)) ?_
  rintro F1 H1 ⟨_, _, _, _, ⟨c', rfl, hq⟩, hF, hH⟩
  subst hq
  (try simp only [List.set_cons_zero, List.set_cons_succ, updH, posOf, lentArr, killF, killO, killV, AV.has, AV.hasL, AV.emb, AV.embL, OB.emb, embB, List.filter_cons, List.filter_nil, List.getElem?_cons_zero, List.getElem?_cons_succ, List.getD_cons_zero, List.getD_cons_succ, List.drop_succ_cons, List.drop_zero, List.drop_nil, List.contains_cons, List.contains_nil, Nat.reduceBEq, Nat.reduceEqDiff, beq_self_eq_true, Bool.or_false, Bool.false_or, Bool.or_true, Bool.true_or, Bool.false_eq_true, Option.map_some, Option.map_none, List.map_cons, List.map_nil, List.cons_append, List.nil_append, List.append_nil, List.length_cons, List.length_nil, Nat.reduceAdd, Nat.reduceLT, Nat.reduceSub, if_true, if_false, Nat.zero_add, Nat.add_zero, Nat.sub_zero, Nat.lt_irrefl, Nat.not_lt_zero, Nat.zero_lt_one, Nat.lt_add_one] at hF); (try simp only [List.set_cons_zero, List.set_cons_succ, updH, posOf, lentArr, killF, killO, killV, AV.has, AV.hasL, AV.emb, AV.embL, OB.emb, embB, List.filter_cons, List.filter_nil, List.getElem?_cons_zero, List.getElem?_cons_succ, List.getD_cons_zero, List.getD_cons_succ, List.drop_succ_cons, List.drop_zero, List.drop_nil, List.contains_cons, List.contains_nil, Nat.reduceBEq, Nat.reduceEqDiff, beq_self_eq_true, Bool.or_false, Bool.false_or, Bool.or_true, Bool.true_or, Bool.false_eq_true, Option.map_some, Option.map_none, List.map_cons, List.map_nil, List.cons_append, List.nil_append, List.append_nil, List.length_cons, List.length_nil, Nat.reduceAdd, Nat.reduceLT, Nat.reduceSub, if_true, if_false, Nat.zero_add, Nat.add_zero, Nat.sub_zero, Nat.lt_irrefl, Nat.not_lt_zero, Nat.zero_lt_one, Nat.lt_add_one] at hH); subst hF; subst hH
  refine WE ?_
  refine WA ?_
  exact aret_f1 [] [] rfl rfl rfl rfl (by rw [List.drop_zero, List.take_of_length_le (by simp)]) (by simp) (by decide) (by decide) (ZNK rfl) (fun _ => .nil) (fun v' => ⟨v', rfl, rfl⟩)
end Go.Proofs.YtdmeohgojdfmoaaGreatDoor

/- Same, by value. -/
namespace Go.Proofs.YtdmeohgojdfmoaaGreatDoor
open Go Go.RowKit
set_option maxRecDepth 100000
theorem deedsL_len (l : List Step) : (deedsL l).length ≤ l.length + 1 := by
  have := deedS_len l l.length
  simp [deedsL]; omega
theorem same_a (l l' : List Step) (v v' : Value) (hl : l.length ≤ 1000000) (hl' : l'.length ≤ 1000000) (hok : ∀ s ∈ l, s.ok) (hok' : ∀ s ∈ l', s.ok) : ACalls Tryz.prog 46 [.c (prog_r v l), .c (prog_r v' l')] [] fun u H => ∃ (b : Bool) (e : Int), u = .t [.c (B b), .c (I e)] ∧ H = [] ∧ e = (if progF l ≠ 0 then progF l else progF l') ∧ (b = true ↔ progF l = 0 ∧ progF l' = 0 ∧ deedsL l = deedsL l') := by
  have hm := deedsL_len l
  have hm' := deedsL_len l'
  refine acallsx_of false (N := 28) Tryz.func46 rfl rfl (by simp) fun E hE hP => ?_
  refine WA ?_
  refine WA ?_
  refine aw_loopw (fun n F H => ∃ k : Nat, n + k = 2 ∧ (1 ≤ k → progF l = 0) ∧ (2 ≤ k → progF l' = 0) ∧ F = [(0, .c (prog_r v l)), (1, .c (prog_r v' l')), (11, .o 0 0 2 2), (12, .c (I 2)), (13, .c (I k))] ∧ H = [.arr 54 1 2 [[prog_r v l], [prog_r v' l']]]) ?_ ?_
  · refine wk_of [some 0] (fun _ => [(0, .c (prog_r v l)), (1, .c (prog_r v' l')), (11, .o 0 0 2 2), (12, .c (I 2)), (13, .c (I (0 : Nat)))]) (fun _ => _) (by decide) (ZNL hE) ZCF ZCH (fun _ => ?_)
    exact ⟨2, 0, by omega, by omega, by omega, rfl, rfl⟩
  rintro n F H ⟨k, hk, hk1, hk2, rfl, rfl⟩
  refine WA ?_
  refine aw_if rfl (fun hlt => ?_) (fun hge => ?_)
  · obtain ⟨x, w, hx, hxl, hrow⟩ : ∃ x w, (k = 0 ∧ x = l ∨ k = 1 ∧ x = l') ∧ x.length ≤ 1000000 ∧ [[prog_r v l], [prog_r v' l']][0 + k]? = some [prog_r w x] := by
      have : k = 0 ∨ k = 1 := by omega
      rcases this with rfl | rfl
      · exact ⟨l, v, .inl ⟨rfl, rfl⟩, hl, rfl⟩
      · exact ⟨l', v', .inr ⟨rfl, rfl⟩, hl', rfl⟩
    refine ZR ?_
    refine ZA (rd_index (i := k) rfl (KE (t := 142) rfl) rfl rfl rfl rfl (by omega)) ?_
    refine WE ?_
    refine WR ?_
    refine al_ef rfl (ef_call0 false (fun _ => check_a x w (by omega)) rfl .fn rfl (by decide) (by kernel_rfl) rfl (fun _ => C0 rfl) (by simp)) ?_
    rintro _ _ ⟨_, _, _, ⟨rfl, rfl⟩, hF, hH⟩
    (try simp only [nsl, Nat.reduceAdd, Nat.reduceLT, Nat.reduceSub] at hF); (try simp only [nsl, Nat.reduceAdd, Nat.reduceLT, Nat.reduceSub] at hH); subst hF; subst hH
    refine WE ?_
    refine WA ?_
    refine aw_if rfl (fun hne => ?_) (fun heq => ?_)
    · refine WA ?_
      refine aret_2 [] _ rfl rfl rfl rfl rfl (by decide) (ZNK rfl) (fun _ => .nil) ⟨_, _, rfl, rfl, ?_, ?_⟩
      · rcases hx with ⟨rfl, rfl⟩ | ⟨rfl, rfl⟩
        · rw [if_pos hne]
        · rw [if_neg (by rw [hk1 (by omega)]; simp)]
      · simp only [Bool.false_eq_true, false_iff]
        rcases hx with ⟨rfl, rfl⟩ | ⟨rfl, rfl⟩
        · exact fun h => hne h.1
        · exact fun h => hne h.2.1
    · refine ZZ ?_
      refine WA ?_
      refine wk_of [some 0] (fun _ => [(0, .c (prog_r v l)), (1, .c (prog_r v' l')), (11, .o 0 0 2 2), (12, .c (I 2)), (13, .c (I (k + 1 : Nat)))]) (fun _ => _) (by decide) (ZNL hE) ZCF ZCH (fun _ => ?_)
      refine ⟨n - 1, by omega, k + 1, by omega, ?_, ?_, rfl, rfl⟩
      · rcases hx with ⟨rfl, rfl⟩ | ⟨rfl, rfl⟩
        · intro _; omega
        · intro _; exact hk1 (by omega)
      · rcases hx with ⟨rfl, rfl⟩ | ⟨rfl, rfl⟩
        · intro _; omega
        · intro _; omega
  have h1 := hk1 (by omega)
  have h2 := hk2 (by omega)
  refine WR ?_
  refine al_ef rfl (ef_call0 false (fun _ => deeds_a l v (by omega) hok) rfl .fn rfl (by decide) (by kernel_rfl) rfl (fun _ => C0 rfl) (by simp)) ?_
  rintro _ _ ⟨_, _, _, ⟨q, rfl, rfl⟩, hF, hH⟩
  (try simp only [nsl, Nat.reduceAdd, Nat.reduceLT, Nat.reduceSub] at hF); (try simp only [nsl, Nat.reduceAdd, Nat.reduceLT, Nat.reduceSub] at hH); subst hF; subst hH
  refine WO ?_
  refine al_ef rfl (ef_call0 false (fun _ => deeds_a l' v' (by omega) hok') rfl .fn rfl (by decide) (by kernel_rfl) rfl (fun _ => C0 rfl) (by simp)) ?_
  rintro _ _ ⟨_, _, _, ⟨q', rfl, rfl⟩, hF, hH⟩
  (try simp only [nsl, Nat.reduceAdd, Nat.reduceLT, Nat.reduceSub] at hF); (try simp only [nsl, Nat.reduceAdd, Nat.reduceLT, Nat.reduceSub] at hH); subst hF; subst hH
  refine al_ef rfl (ef_call0 false (fun _ => eqD_a _ _ _ _ (by omega) (by omega)) rfl .fn rfl (by decide) (by kernel_rfl) rfl (fun _g => .cons (.c rfl) (.cons (.c rfl) .nil)) (by simp)) ?_
  rintro _ _ ⟨_, _, _, ⟨b, rfl, rfl, hb⟩, hF, hH⟩
  (try simp only [nsl, Nat.reduceAdd, Nat.reduceLT, Nat.reduceSub] at hF); (try simp only [nsl, Nat.reduceAdd, Nat.reduceLT, Nat.reduceSub] at hH); subst hF; subst hH
  refine WE ?_
  refine aret_2 [] _ rfl rfl rfl rfl rfl (by decide) (ZNK rfl) (fun _ => .nil) ⟨_, _, rfl, rfl, by rw [h1, h2]; simp, ?_⟩
  rw [hb]; simp [h1, h2]
end Go.Proofs.YtdmeohgojdfmoaaGreatDoor

/- The program's faults of a run, by value. -/
namespace Go.Proofs.YtdmeohgojdfmoaaGreatDoor
open Go Go.RowKit
set_option maxRecDepth 100000
-- NEWM
def wrongF (x : Step) (was is : Mach) (least : Int) : Int :=
  if ¬ (-100000 ≤ is.x ∧ is.x ≤ 100000 ∧ -100000 ≤ is.y ∧ is.y ≤ 100000 ∧ 0 ≤ is.z ∧ is.z ≤ 1000000) then 1
  else if (x.k = 3 ∨ x.k = 4) ∧ is.sp = 0 then 11
  else if x.k = 4 ∧ 0 < x.f ∧ is.he < least then 16
  else if x.k = 5 ∧ is.z < was.z then 7
  else 0
theorem isplaced_h (n : Int) : ACalls Tryz.prog 103 [.c (I n)] [] fun u H => ∃ b : Bool, u = .c (B b) ∧ H = [] ∧ (b = true → n = 3 ∨ n = 4) ∧ (b = false → n ≠ 3 ∧ n ≠ 4) := by
  refine acalls_of (N := 9) Tryz.func103 rfl rfl (by simp) fun E hE => ?_
  by_cases h3 : n = 3
  · repeat' (first
      | (with_reducible refine aw_seq ?_) | (with_reducible refine aseq_n ?_) | (with_reducible refine aseq_r ?_) | (with_reducible refine ablk_n ?_) | (with_reducible refine ablk_r ?_) | (with_reducible refine ablk_e ?_) | (with_reducible refine ablk_o rfl ?_) | (with_reducible refine aseq_e ?_) | (with_reducible refine aw_skip ?_) | (with_reducible refine aw_block ?_) | (with_reducible refine aw_ret ?_) | (with_reducible refine aw_exit ?_)
      | refine aw_cond_t rfl ?_ | refine aw_cond_f rfl ?_ | refine aw_if_t rfl (by assumption) ?_ | refine aw_if_f rfl (by assumption) ?_ | refine aw_if rfl (fun _ => ?_) (fun _ => ?_) | refine aw_cond rfl (fun _ => ?_) (fun _ => ?_)
      | (refine aw_region ?_; refine WE ?_))
    all_goals exact aret_1 [] _ rfl rfl rfl (by decide) (ZNK rfl) (fun _ => .nil) ⟨true, rfl, rfl, fun _ => by omega, by simp⟩
  by_cases h4 : n = 4
  · repeat' (first
      | (with_reducible refine aw_seq ?_) | (with_reducible refine aseq_n ?_) | (with_reducible refine aseq_r ?_) | (with_reducible refine ablk_n ?_) | (with_reducible refine ablk_r ?_) | (with_reducible refine ablk_e ?_) | (with_reducible refine ablk_o rfl ?_) | (with_reducible refine aseq_e ?_) | (with_reducible refine aw_skip ?_) | (with_reducible refine aw_block ?_) | (with_reducible refine aw_ret ?_) | (with_reducible refine aw_exit ?_)
      | refine aw_cond_t rfl ?_ | refine aw_cond_f rfl ?_ | refine aw_if_t rfl (by assumption) ?_ | refine aw_if_f rfl (by assumption) ?_ | refine aw_if rfl (fun _ => ?_) (fun _ => ?_) | refine aw_cond rfl (fun _ => ?_) (fun _ => ?_)
      | (refine aw_region ?_; refine WE ?_))
    all_goals exact aret_1 [] _ rfl rfl rfl (by decide) (ZNK rfl) (fun _ => .nil) ⟨true, rfl, rfl, fun _ => by omega, by simp⟩
  repeat' (first
    | (with_reducible refine aw_seq ?_) | (with_reducible refine aseq_n ?_) | (with_reducible refine aseq_r ?_) | (with_reducible refine ablk_n ?_) | (with_reducible refine ablk_r ?_) | (with_reducible refine ablk_e ?_) | (with_reducible refine ablk_o rfl ?_) | (with_reducible refine aseq_e ?_) | (with_reducible refine aw_skip ?_) | (with_reducible refine aw_block ?_) | (with_reducible refine aw_ret ?_) | (with_reducible refine aw_exit ?_)
    | refine aw_cond_t rfl ?_ | refine aw_cond_f rfl ?_ | refine aw_if_t rfl (by assumption) ?_ | refine aw_if_f rfl (by assumption) ?_ | refine aw_if rfl (fun _ => ?_) (fun _ => ?_) | refine aw_cond rfl (fun _ => ?_) (fun _ => ?_)
    | (refine aw_region ?_; refine WE ?_))
  all_goals exact aret_1 [] _ rfl rfl rfl (by decide) (ZNK rfl) (fun _ => .nil) ⟨false, rfl, rfl, by simp, fun _ => by omega⟩
set_option maxHeartbeats 4000000 in
theorem wrong_a (x : Step) (was is : Mach) (least : Int) : ACalls Tryz.prog 96 [.a (x.row.map .c), .a (was.row.map .c), .a (is.row.map .c), .c (I least)] [] fun u H => u = .c (I (wrongF x was is least)) ∧ H = [] := by
  obtain ⟨mx, my, mz, msp, mhe, mtl, mfl, mrel⟩ := is
  obtain ⟨wx, wy, wz, wsp, whe, wtl, wfl, wrel⟩ := was
  obtain ⟨k, x, y, z, f, n⟩ := x
  refine acalls_of (N := 58) Tryz.func96 rfl rfl (by simp) fun E hE => ?_
  by_cases h4 : k = 4
  · subst h4
    by_cases hf : 0 < f
    · repeat' (first
        | (with_reducible refine aw_seq ?_) | (with_reducible refine aseq_n ?_) | (with_reducible refine aseq_r ?_) | (with_reducible refine ablk_n ?_) | (with_reducible refine ablk_r ?_) | (with_reducible refine ablk_e ?_) | (with_reducible refine ablk_o rfl ?_) | (with_reducible refine aseq_e ?_) | (with_reducible refine aw_skip ?_) | (with_reducible refine aw_block ?_) | (with_reducible refine aw_ret ?_) | (with_reducible refine aw_exit ?_)
        | refine aw_cond_t rfl ?_ | refine aw_cond_f rfl ?_ | refine aw_if_t rfl (by assumption) ?_ | refine aw_if_f rfl (by assumption) ?_ | refine aw_if rfl (fun _ => ?_) (fun _ => ?_) | refine aw_cond rfl (fun _ => ?_) (fun _ => ?_)
        | (refine aw_region (id := 1) ?_
           refine WO ?_
           refine al_ef rfl (ef_call0 false (fun _ => outside_a _ _ _) rfl .fn rfl (by decide) (by kernel_rfl) rfl (fun _g => .cons (.c rfl) (.cons (.c rfl) (.cons (.c rfl) .nil))) (by simp)) ?_
           rintro _ _ ⟨_, _, _, ⟨b, rfl, rfl, hb1, hb2⟩, hF, hH⟩
           (try simp only [nsl, Nat.reduceAdd, Nat.reduceLT, Nat.reduceSub] at hF); (try simp only [nsl, Nat.reduceAdd, Nat.reduceLT, Nat.reduceSub] at hH); subst hF; subst hH
           cases b
           all_goals (simp only [true_implies, false_implies, reduceCtorEq] at hb1 hb2)
           all_goals (refine WO ?_)
           all_goals (first | refine ZS ?_ | (refine G1 rfl ?_; refine al_ef rfl (ef_call0 false (fun _ => outside_a _ _ _) rfl .fn rfl (by decide) (by kernel_rfl) rfl (fun _g => .cons (.c rfl) (.cons (.c rfl) (.cons (.c rfl) .nil))) (by simp)) ?_; rintro _ _ ⟨_, _, _, ⟨b, rfl, rfl, hb1, hb2⟩, hF, hH⟩; (try simp only [nsl, Nat.reduceAdd, Nat.reduceLT, Nat.reduceSub] at hF); (try simp only [nsl, Nat.reduceAdd, Nat.reduceLT, Nat.reduceSub] at hH); subst hF; subst hH; cases b; all_goals (simp only [true_implies, false_implies, reduceCtorEq] at hb1 hb2)) | skip)
           all_goals (refine WO ?_)
           all_goals (first | refine ZS ?_ | (refine G1 rfl ?_; refine al_ef rfl (ef_call0 false (fun _ => outside_a _ _ _) rfl .fn rfl (by decide) (by kernel_rfl) rfl (fun _g => .cons (.c rfl) (.cons (.c rfl) (.cons (.c rfl) .nil))) (by simp)) ?_; rintro _ _ ⟨_, _, _, ⟨b, rfl, rfl, hb1, hb2⟩, hF, hH⟩; (try simp only [nsl, Nat.reduceAdd, Nat.reduceLT, Nat.reduceSub] at hF); (try simp only [nsl, Nat.reduceAdd, Nat.reduceLT, Nat.reduceSub] at hH); subst hF; subst hH; cases b; all_goals (simp only [true_implies, false_implies, reduceCtorEq] at hb1 hb2)) | skip)
           all_goals (refine WE ?_))
        | (refine aw_region (id := 3) ?_
           refine WO ?_
           refine al_ef rfl (ef_call0 false (fun _ => isplaced_h _) rfl .fn rfl (by decide) (by kernel_rfl) rfl (fun _g => .cons (.c rfl) .nil) (by simp)) ?_
           rintro _ _ ⟨_, _, _, ⟨b, rfl, rfl, hb1, hb2⟩, hF, hH⟩
           (try simp only [nsl, Nat.reduceAdd, Nat.reduceLT, Nat.reduceSub] at hF); (try simp only [nsl, Nat.reduceAdd, Nat.reduceLT, Nat.reduceSub] at hH); subst hF; subst hH
           cases b
           all_goals (simp only [true_implies, false_implies, reduceCtorEq] at hb1 hb2)
           all_goals (refine WE ?_))
        | (refine aw_region ?_; refine WE ?_))
      all_goals (refine aret_1 [] _ rfl rfl rfl (by decide) (ZNK rfl) (fun _ => .nil) ⟨?_, rfl⟩)
      all_goals (unfold wrongF; dsimp only)
      all_goals first
        | (exfalso; omega)
        | rw [if_pos (by omega)]
        | rw [if_neg (by omega), if_pos (by omega)]
        | rw [if_neg (by omega), if_neg (by omega), if_pos (by omega)]
        | rw [if_neg (by omega), if_neg (by omega), if_neg (by omega), if_pos (by omega)]
        | rw [if_neg (by omega), if_neg (by omega), if_neg (by omega), if_neg (by omega)]
    · repeat' (first
        | (with_reducible refine aw_seq ?_) | (with_reducible refine aseq_n ?_) | (with_reducible refine aseq_r ?_) | (with_reducible refine ablk_n ?_) | (with_reducible refine ablk_r ?_) | (with_reducible refine ablk_e ?_) | (with_reducible refine ablk_o rfl ?_) | (with_reducible refine aseq_e ?_) | (with_reducible refine aw_skip ?_) | (with_reducible refine aw_block ?_) | (with_reducible refine aw_ret ?_) | (with_reducible refine aw_exit ?_)
        | refine aw_cond_t rfl ?_ | refine aw_cond_f rfl ?_ | refine aw_if_t rfl (by assumption) ?_ | refine aw_if_f rfl (by assumption) ?_ | refine aw_if rfl (fun _ => ?_) (fun _ => ?_) | refine aw_cond rfl (fun _ => ?_) (fun _ => ?_)
        | (refine aw_region (id := 1) ?_
           refine WO ?_
           refine al_ef rfl (ef_call0 false (fun _ => outside_a _ _ _) rfl .fn rfl (by decide) (by kernel_rfl) rfl (fun _g => .cons (.c rfl) (.cons (.c rfl) (.cons (.c rfl) .nil))) (by simp)) ?_
           rintro _ _ ⟨_, _, _, ⟨b, rfl, rfl, hb1, hb2⟩, hF, hH⟩
           (try simp only [nsl, Nat.reduceAdd, Nat.reduceLT, Nat.reduceSub] at hF); (try simp only [nsl, Nat.reduceAdd, Nat.reduceLT, Nat.reduceSub] at hH); subst hF; subst hH
           cases b
           all_goals (simp only [true_implies, false_implies, reduceCtorEq] at hb1 hb2)
           all_goals (refine WO ?_)
           all_goals (first | refine ZS ?_ | (refine G1 rfl ?_; refine al_ef rfl (ef_call0 false (fun _ => outside_a _ _ _) rfl .fn rfl (by decide) (by kernel_rfl) rfl (fun _g => .cons (.c rfl) (.cons (.c rfl) (.cons (.c rfl) .nil))) (by simp)) ?_; rintro _ _ ⟨_, _, _, ⟨b, rfl, rfl, hb1, hb2⟩, hF, hH⟩; (try simp only [nsl, Nat.reduceAdd, Nat.reduceLT, Nat.reduceSub] at hF); (try simp only [nsl, Nat.reduceAdd, Nat.reduceLT, Nat.reduceSub] at hH); subst hF; subst hH; cases b; all_goals (simp only [true_implies, false_implies, reduceCtorEq] at hb1 hb2)) | skip)
           all_goals (refine WO ?_)
           all_goals (first | refine ZS ?_ | (refine G1 rfl ?_; refine al_ef rfl (ef_call0 false (fun _ => outside_a _ _ _) rfl .fn rfl (by decide) (by kernel_rfl) rfl (fun _g => .cons (.c rfl) (.cons (.c rfl) (.cons (.c rfl) .nil))) (by simp)) ?_; rintro _ _ ⟨_, _, _, ⟨b, rfl, rfl, hb1, hb2⟩, hF, hH⟩; (try simp only [nsl, Nat.reduceAdd, Nat.reduceLT, Nat.reduceSub] at hF); (try simp only [nsl, Nat.reduceAdd, Nat.reduceLT, Nat.reduceSub] at hH); subst hF; subst hH; cases b; all_goals (simp only [true_implies, false_implies, reduceCtorEq] at hb1 hb2)) | skip)
           all_goals (refine WE ?_))
        | (refine aw_region (id := 3) ?_
           refine WO ?_
           refine al_ef rfl (ef_call0 false (fun _ => isplaced_h _) rfl .fn rfl (by decide) (by kernel_rfl) rfl (fun _g => .cons (.c rfl) .nil) (by simp)) ?_
           rintro _ _ ⟨_, _, _, ⟨b, rfl, rfl, hb1, hb2⟩, hF, hH⟩
           (try simp only [nsl, Nat.reduceAdd, Nat.reduceLT, Nat.reduceSub] at hF); (try simp only [nsl, Nat.reduceAdd, Nat.reduceLT, Nat.reduceSub] at hH); subst hF; subst hH
           cases b
           all_goals (simp only [true_implies, false_implies, reduceCtorEq] at hb1 hb2)
           all_goals (refine WE ?_))
        | (refine aw_region ?_; refine WE ?_))
      all_goals (refine aret_1 [] _ rfl rfl rfl (by decide) (ZNK rfl) (fun _ => .nil) ⟨?_, rfl⟩)
      all_goals (unfold wrongF; dsimp only)
      all_goals first
        | (exfalso; omega)
        | rw [if_pos (by omega)]
        | rw [if_neg (by omega), if_pos (by omega)]
        | rw [if_neg (by omega), if_neg (by omega), if_pos (by omega)]
        | rw [if_neg (by omega), if_neg (by omega), if_neg (by omega), if_pos (by omega)]
        | rw [if_neg (by omega), if_neg (by omega), if_neg (by omega), if_neg (by omega)]
  · by_cases h5 : k = 5
    · subst h5
      repeat' (first
        | (with_reducible refine aw_seq ?_) | (with_reducible refine aseq_n ?_) | (with_reducible refine aseq_r ?_) | (with_reducible refine ablk_n ?_) | (with_reducible refine ablk_r ?_) | (with_reducible refine ablk_e ?_) | (with_reducible refine ablk_o rfl ?_) | (with_reducible refine aseq_e ?_) | (with_reducible refine aw_skip ?_) | (with_reducible refine aw_block ?_) | (with_reducible refine aw_ret ?_) | (with_reducible refine aw_exit ?_)
        | refine aw_cond_t rfl ?_ | refine aw_cond_f rfl ?_ | refine aw_if_t rfl (by assumption) ?_ | refine aw_if_f rfl (by assumption) ?_ | refine aw_if rfl (fun _ => ?_) (fun _ => ?_) | refine aw_cond rfl (fun _ => ?_) (fun _ => ?_)
        | (refine aw_region (id := 1) ?_
           refine WO ?_
           refine al_ef rfl (ef_call0 false (fun _ => outside_a _ _ _) rfl .fn rfl (by decide) (by kernel_rfl) rfl (fun _g => .cons (.c rfl) (.cons (.c rfl) (.cons (.c rfl) .nil))) (by simp)) ?_
           rintro _ _ ⟨_, _, _, ⟨b, rfl, rfl, hb1, hb2⟩, hF, hH⟩
           (try simp only [nsl, Nat.reduceAdd, Nat.reduceLT, Nat.reduceSub] at hF); (try simp only [nsl, Nat.reduceAdd, Nat.reduceLT, Nat.reduceSub] at hH); subst hF; subst hH
           cases b
           all_goals (simp only [true_implies, false_implies, reduceCtorEq] at hb1 hb2)
           all_goals (refine WO ?_)
           all_goals (first | refine ZS ?_ | (refine G1 rfl ?_; refine al_ef rfl (ef_call0 false (fun _ => outside_a _ _ _) rfl .fn rfl (by decide) (by kernel_rfl) rfl (fun _g => .cons (.c rfl) (.cons (.c rfl) (.cons (.c rfl) .nil))) (by simp)) ?_; rintro _ _ ⟨_, _, _, ⟨b, rfl, rfl, hb1, hb2⟩, hF, hH⟩; (try simp only [nsl, Nat.reduceAdd, Nat.reduceLT, Nat.reduceSub] at hF); (try simp only [nsl, Nat.reduceAdd, Nat.reduceLT, Nat.reduceSub] at hH); subst hF; subst hH; cases b; all_goals (simp only [true_implies, false_implies, reduceCtorEq] at hb1 hb2)) | skip)
           all_goals (refine WO ?_)
           all_goals (first | refine ZS ?_ | (refine G1 rfl ?_; refine al_ef rfl (ef_call0 false (fun _ => outside_a _ _ _) rfl .fn rfl (by decide) (by kernel_rfl) rfl (fun _g => .cons (.c rfl) (.cons (.c rfl) (.cons (.c rfl) .nil))) (by simp)) ?_; rintro _ _ ⟨_, _, _, ⟨b, rfl, rfl, hb1, hb2⟩, hF, hH⟩; (try simp only [nsl, Nat.reduceAdd, Nat.reduceLT, Nat.reduceSub] at hF); (try simp only [nsl, Nat.reduceAdd, Nat.reduceLT, Nat.reduceSub] at hH); subst hF; subst hH; cases b; all_goals (simp only [true_implies, false_implies, reduceCtorEq] at hb1 hb2)) | skip)
           all_goals (refine WE ?_))
        | (refine aw_region (id := 3) ?_
           refine WO ?_
           refine al_ef rfl (ef_call0 false (fun _ => isplaced_h _) rfl .fn rfl (by decide) (by kernel_rfl) rfl (fun _g => .cons (.c rfl) .nil) (by simp)) ?_
           rintro _ _ ⟨_, _, _, ⟨b, rfl, rfl, hb1, hb2⟩, hF, hH⟩
           (try simp only [nsl, Nat.reduceAdd, Nat.reduceLT, Nat.reduceSub] at hF); (try simp only [nsl, Nat.reduceAdd, Nat.reduceLT, Nat.reduceSub] at hH); subst hF; subst hH
           cases b
           all_goals (simp only [true_implies, false_implies, reduceCtorEq] at hb1 hb2)
           all_goals (refine WE ?_))
        | (refine aw_region ?_; refine WE ?_))
      all_goals (refine aret_1 [] _ rfl rfl rfl (by decide) (ZNK rfl) (fun _ => .nil) ⟨?_, rfl⟩)
      all_goals (unfold wrongF; dsimp only)
      all_goals first
        | (exfalso; omega)
        | rw [if_pos (by omega)]
        | rw [if_neg (by omega), if_pos (by omega)]
        | rw [if_neg (by omega), if_neg (by omega), if_pos (by omega)]
        | rw [if_neg (by omega), if_neg (by omega), if_neg (by omega), if_pos (by omega)]
        | rw [if_neg (by omega), if_neg (by omega), if_neg (by omega), if_neg (by omega)]
    · repeat' (first
        | (with_reducible refine aw_seq ?_) | (with_reducible refine aseq_n ?_) | (with_reducible refine aseq_r ?_) | (with_reducible refine ablk_n ?_) | (with_reducible refine ablk_r ?_) | (with_reducible refine ablk_e ?_) | (with_reducible refine ablk_o rfl ?_) | (with_reducible refine aseq_e ?_) | (with_reducible refine aw_skip ?_) | (with_reducible refine aw_block ?_) | (with_reducible refine aw_ret ?_) | (with_reducible refine aw_exit ?_)
        | refine aw_cond_t rfl ?_ | refine aw_cond_f rfl ?_ | refine aw_if_t rfl (by assumption) ?_ | refine aw_if_f rfl (by assumption) ?_ | refine aw_if rfl (fun _ => ?_) (fun _ => ?_) | refine aw_cond rfl (fun _ => ?_) (fun _ => ?_)
        | (refine aw_region (id := 1) ?_
           refine WO ?_
           refine al_ef rfl (ef_call0 false (fun _ => outside_a _ _ _) rfl .fn rfl (by decide) (by kernel_rfl) rfl (fun _g => .cons (.c rfl) (.cons (.c rfl) (.cons (.c rfl) .nil))) (by simp)) ?_
           rintro _ _ ⟨_, _, _, ⟨b, rfl, rfl, hb1, hb2⟩, hF, hH⟩
           (try simp only [nsl, Nat.reduceAdd, Nat.reduceLT, Nat.reduceSub] at hF); (try simp only [nsl, Nat.reduceAdd, Nat.reduceLT, Nat.reduceSub] at hH); subst hF; subst hH
           cases b
           all_goals (simp only [true_implies, false_implies, reduceCtorEq] at hb1 hb2)
           all_goals (refine WO ?_)
           all_goals (first | refine ZS ?_ | (refine G1 rfl ?_; refine al_ef rfl (ef_call0 false (fun _ => outside_a _ _ _) rfl .fn rfl (by decide) (by kernel_rfl) rfl (fun _g => .cons (.c rfl) (.cons (.c rfl) (.cons (.c rfl) .nil))) (by simp)) ?_; rintro _ _ ⟨_, _, _, ⟨b, rfl, rfl, hb1, hb2⟩, hF, hH⟩; (try simp only [nsl, Nat.reduceAdd, Nat.reduceLT, Nat.reduceSub] at hF); (try simp only [nsl, Nat.reduceAdd, Nat.reduceLT, Nat.reduceSub] at hH); subst hF; subst hH; cases b; all_goals (simp only [true_implies, false_implies, reduceCtorEq] at hb1 hb2)) | skip)
           all_goals (refine WO ?_)
           all_goals (first | refine ZS ?_ | (refine G1 rfl ?_; refine al_ef rfl (ef_call0 false (fun _ => outside_a _ _ _) rfl .fn rfl (by decide) (by kernel_rfl) rfl (fun _g => .cons (.c rfl) (.cons (.c rfl) (.cons (.c rfl) .nil))) (by simp)) ?_; rintro _ _ ⟨_, _, _, ⟨b, rfl, rfl, hb1, hb2⟩, hF, hH⟩; (try simp only [nsl, Nat.reduceAdd, Nat.reduceLT, Nat.reduceSub] at hF); (try simp only [nsl, Nat.reduceAdd, Nat.reduceLT, Nat.reduceSub] at hH); subst hF; subst hH; cases b; all_goals (simp only [true_implies, false_implies, reduceCtorEq] at hb1 hb2)) | skip)
           all_goals (refine WE ?_))
        | (refine aw_region (id := 3) ?_
           refine WO ?_
           refine al_ef rfl (ef_call0 false (fun _ => isplaced_h _) rfl .fn rfl (by decide) (by kernel_rfl) rfl (fun _g => .cons (.c rfl) .nil) (by simp)) ?_
           rintro _ _ ⟨_, _, _, ⟨b, rfl, rfl, hb1, hb2⟩, hF, hH⟩
           (try simp only [nsl, Nat.reduceAdd, Nat.reduceLT, Nat.reduceSub] at hF); (try simp only [nsl, Nat.reduceAdd, Nat.reduceLT, Nat.reduceSub] at hH); subst hF; subst hH
           cases b
           all_goals (simp only [true_implies, false_implies, reduceCtorEq] at hb1 hb2)
           all_goals (refine WE ?_))
        | (refine aw_region ?_; refine WE ?_))
      all_goals (refine aret_1 [] _ rfl rfl rfl (by decide) (ZNK rfl) (fun _ => .nil) ⟨?_, rfl⟩)
      all_goals (unfold wrongF; dsimp only)
      all_goals first
        | (exfalso; omega)
        | rw [if_pos (by omega)]
        | rw [if_neg (by omega), if_pos (by omega)]
        | rw [if_neg (by omega), if_neg (by omega), if_pos (by omega)]
        | rw [if_neg (by omega), if_neg (by omega), if_neg (by omega), if_pos (by omega)]
        | rw [if_neg (by omega), if_neg (by omega), if_neg (by omega), if_neg (by omega)]
def faultsK (l : List Step) (least : Int) : Nat → List (Int × Int)
  | 0 => []
  | k + 1 => match l[k]? with
    | some s => if wrongF s (lastS (l.take k)) (lastS (l.take (k + 1))) least ≠ 0 then faultsK l least k ++ [((k : Int), wrongF s (lastS (l.take k)) (lastS (l.take (k + 1))) least)] else faultsK l least k
    | none => faultsK l least k
theorem faultsK_succ {l : List Step} {k : Nat} {s : Step} {least : Int} (h : l[k]? = some s) : faultsK l least (k + 1) = if wrongF s (lastS (l.take k)) (lastS (l.take (k + 1))) least ≠ 0 then faultsK l least k ++ [((k : Int), wrongF s (lastS (l.take k)) (lastS (l.take (k + 1))) least)] else faultsK l least k := by
  simp only [faultsK, h]
theorem faultsK_len (l : List Step) (least : Int) (k : Nat) : (faultsK l least k).length ≤ k := by
  induction k with
  | zero => simp [faultsK]
  | succ k ih =>
    rw [faultsK]
    split
    · split
      · simp; omega
      · omega
    · omega
abbrev fltH (l : List Step) (v : Value) (least : Int) (c d : Nat) (r : List (Int × Int)) : List OB :=
  [.box [.c (prog_r v l)], .box [.c (I least)], .box [.o 4 0 r.length c], .box [.o 5 0 r.length d], .arr 3 1 c (r.map fun z => [I z.1]), .arr 30 1 d (r.map fun z => [I z.2])]
theorem faults1_a (l : List Step) (v : Value) (k : Nat) (s : Step) (hs : l[k]? = some s) (a b : Mach) (least : Int) (c d : Nat) (r : List (Int × Int)) (hr : r.length ≤ 1000000) (hl : l.length ≤ 1000000) :
    ACalls Tryz.prog 95 [.c (I k), .a (a.row.map .c), .a (b.row.map .c), .p 0 0 0, .p 1 0 0, .p 2 0 0, .p 3 0 0] (fltH l v least c d r) fun u H => ∃ c' d', u = .t [] ∧ H = fltH l v least c' d' (if wrongF s a b least ≠ 0 then r ++ [((k : Int), wrongF s a b least)] else r) := by
  have e1 : (l.map Step.row).length = l.length := by simp
  have hlt : k < l.length := (List.getElem?_eq_some_iff.1 hs).1
  have hrow : (l.map Step.row)[k]? = some s.row := by rw [List.getElem?_map, hs]; rfl
  have hw := wrongF s a b least
  refine acallsx_of false (N := 29) Tryz.func95 rfl rfl (by simp) fun E hE hP => ?_
  refine WA ?_
  refine ZZ ?_
  refine aw_regionT [(0, none), (1, none), (2, none), (3, none), (4, none), (5, none), (6, none), (7, some []), (8, none)] hMixed (by kernel_rfl) ?_
  refine WP ?_
  refine at_ef rfl rfl (ef_call0 false (fun _ => wrong_a s a b least) rfl .fn rfl (by decide) (by kernel_rfl) rfl (fun _ => C0 rfl) (by simp)) ?_
  rintro _ _ ⟨_, _, _, ⟨rfl, rfl⟩, hF, hH⟩
  (try simp only [nsl, Nat.reduceAdd, Nat.reduceLT, Nat.reduceSub] at hF); (try simp only [nsl, Nat.reduceAdd, Nat.reduceLT, Nat.reduceSub] at hH); subst hF; subst hH
  refine ⟨ag_none, ?_⟩
  refine WQ ?_
  refine WA ?_
  refine aw_if rfl (fun hne => ?_) (fun heq => ?_)
  · refine ZZ ?_
    refine aw_regionM [[(0, none), (1, none), (4, none), (5, none), (2, some [0, 4, 5]), (3, some [4, 5]), (6, some [0, 1, 4]), (7, some []), (8, some []), (9, some [])], [(0, none), (1, none), (4, none), (5, none), (2, some [0, 4, 5]), (6, some [0, 1, 4]), (3, some [4, 5]), (7, some []), (8, some []), (9, some [])], [(0, none), (1, none), (4, none), (5, none), (6, some [0, 1, 4]), (2, some [0, 4, 5]), (3, some [4, 5]), (7, some []), (8, some []), (9, some [])]] hMixed (by kernel_rfl) ?_
    focus
      refine WM ?_
      refine am_two (by rfl) (by rfl) (by rfl) ?_ ?_
      rotate_left
      refine WM ?_
      refine am_ef (i := 3) (by rfl) (by rfl) rfl rfl (Zapp (KA (t := 22) rfl)) ?_
      rintro _ _ ⟨_, cc, hcc, rfl, rfl⟩
      refine ⟨AGX, ?_⟩
      refine am_ef (i := 7) (by rfl) (by rfl) rfl rfl (Zapp (KA (t := 69) rfl)) ?_
      rintro _ _ ⟨_, cc, hcc, rfl, rfl⟩
      refine ⟨AGX, ?_⟩
      refine WN ?_
      rotate_right
      refine WM ?_
      refine am_two (by rfl) (by rfl) (by rfl) ?_ ?_
      rotate_left
      refine WM ?_
      refine am_ef (i := 3) (by rfl) (by rfl) rfl rfl (Zapp (KA (t := 22) rfl)) ?_
      rintro _ _ ⟨_, cc, hcc, rfl, rfl⟩
      refine ⟨AGX, ?_⟩
      refine am_ef (i := 7) (by rfl) (by rfl) rfl rfl (Zapp (KA (t := 69) rfl)) ?_
      rintro _ _ ⟨_, cc, hcc, rfl, rfl⟩
      refine ⟨AGX, ?_⟩
      refine WN ?_
      rotate_right
      refine am_ef (i := 3) (by rfl) (by rfl) rfl rfl (Zapp (KA (t := 22) rfl)) ?_
      rintro _ _ ⟨_, cc, hcc, rfl, rfl⟩
      refine ⟨AGX, ?_⟩
      refine WM ?_
      refine am_ef (i := 7) (by rfl) (by rfl) rfl rfl (Zapp (KA (t := 69) rfl)) ?_
      rintro _ _ ⟨_, cc, hcc, rfl, rfl⟩
      refine ⟨AGX, ?_⟩
      refine WN ?_
    all_goals exact aret_0 [some 0, some 1, some 2, some 3, some 4, some 5] (fun _ => fltH l v least _ _ (r ++ [((k : Int), wrongF s a b least)])) (.inr rfl) rfl (by decide) (ZNL (n := 6) rfl) ZCH (fun _ => ⟨_, _, rfl, by rw [if_pos hne]⟩)
  · refine ZZ ?_
    exact aret_0 [some 0, some 1, some 2, some 3, some 4, some 5] (fun _ => fltH l v least c d r) (.inr rfl) rfl (by decide) (ZNL (n := 6) rfl) ZCH (fun _ => ⟨c, d, rfl, by rw [if_neg heq]⟩)
theorem runFlt_a (l : List Step) (v : Value) (least : Int) (hl : l.length ≤ 1000000) (hok : ∀ s ∈ l, s.ok) : ACalls Tryz.prog 91 [.c (prog_r v l), .f (.func 95) [.p 0 0 0, .p 1 0 0, .p 2 0 0, .p 3 0 0]] (fltH l v least 0 0 []) fun u H => ∃ c d, u = .a ((lastS l).row.map .c) ∧ H = fltH l v least c d (faultsK l least l.length) := by
  have e1 : (l.map Step.row).length = l.length := by simp
  refine acallsx_of false (N := 27) Tryz.func91 rfl rfl (by simp) fun E hE hP => ?_
  refine WA ?_
  refine WA ?_
  refine WA ?_
  refine aw_loopw (fun n F H => ∃ (k c d : Nat) (r : List (Int × Int)), n + k = l.length ∧ r = faultsK l least k ∧ F = [(1, .f (.func 95) [.p 0 0 0, .p 1 0 0, .p 2 0 0, .p 3 0 0]), (4, .p 6 0 0), (5, .p 7 0 0), (9, .c (prog_r v l)), (10, .c (I (l.map Step.row).length)), (11, .c (I k))] ∧ H = fltH l v least c d r ++ [.box (Mach.zero.row.map .c), .box ((lastS (l.take k)).row.map .c)]) ?_ ?_
  · refine wk_of [some 0, some 1, some 2, some 3, some 4, some 5, some 6, some 7] (fun _ => [(1, .f (.func 95) [.p 0 0 0, .p 1 0 0, .p 2 0 0, .p 3 0 0]), (4, .p 6 0 0), (5, .p 7 0 0), (9, .c (prog_r v l)), (10, .c (I (l.map Step.row).length)), (11, .c (I (0 : Nat)))]) (fun _ => [.box [.c (prog_r v l)], .box [.c (I least)], .box [.o 4 0 ([] : List (Int × Int)).length 0], .box [.o 5 0 ([] : List (Int × Int)).length 0], .arr 3 1 0 (([] : List (Int × Int)).map fun z => [I z.1]), .arr 30 1 0 (([] : List (Int × Int)).map fun z => [I z.2]), .box (Mach.zero.row.map .c), .box ((lastS (l.take 0)).row.map .c)]) (by decide) (ZNL hE) ZCF ZCH (fun _ => ?_)
    exact ⟨l.length, 0, 0, 0, [], by omega, rfl, rfl, rfl⟩
  rintro n F H ⟨k, c, d, r, hk, hms, rfl, rfl⟩
  have hml : r.length ≤ k := by rw [hms]; exact faultsK_len _ _ _
  refine WA ?_
  refine aw_if rfl (fun hlt => ?_) (fun hge => ?_)
  · obtain ⟨s, hs⟩ : ∃ s, l[k]? = some s := ⟨_, List.getElem?_eq_getElem (by omega)⟩
    have hrow : (l.map Step.row)[k]? = some s.row := by rw [List.getElem?_map, hs]; rfl
    have hso := hok s (List.mem_of_getElem? hs)
    have hfs := faultsK_succ (least := least) hs
    rw [← hms, lastS_succ hs] at hfs
    refine WA ?_
    refine WA ?_
    refine WR ?_
    refine al_ef rfl (ef_call0 false (fun _ => after_a (lastS (l.take k)) s hso) rfl .fn rfl (by decide) (by kernel_rfl) rfl (fun _ => C0 rfl) (by simp)) ?_
    rintro _ _ ⟨_, _, _, ⟨rfl, rfl⟩, hF, hH⟩
    (try simp only [nsl, Nat.reduceAdd, Nat.reduceLT, Nat.reduceSub] at hF); (try simp only [nsl, Nat.reduceAdd, Nat.reduceLT, Nat.reduceSub] at hH); subst hF; subst hH
    refine WE ?_
    refine WR ?_
    refine al_ef rfl (ef_call [0, 1, 2, 3, 4, 5] (fun _ => fltH l v least c d r) false (fun _ => faults1_a l v k s hs (lastS (l.take k)) (afterS (lastS (l.take k)) s) least c d r (by omega) hl) rfl (.clo rfl) rfl (by decide) (by kernel_rfl) rfl ZCH (by decide) ZCH (by simp)) ?_
    rintro F1 H1 ⟨_, _, _, _, ⟨c', d', rfl, hq⟩, hF, hH⟩
    subst hq
    (try simp only [List.set_cons_zero, List.set_cons_succ, updH, posOf, lentArr, killF, killO, killV, AV.has, AV.hasL, AV.emb, AV.embL, OB.emb, embB, List.filter_cons, List.filter_nil, List.getElem?_cons_zero, List.getElem?_cons_succ, List.getD_cons_zero, List.getD_cons_succ, List.drop_succ_cons, List.drop_zero, List.drop_nil, List.contains_cons, List.contains_nil, Nat.reduceBEq, Nat.reduceEqDiff, beq_self_eq_true, Bool.or_false, Bool.false_or, Bool.or_true, Bool.true_or, Bool.false_eq_true, Option.map_some, Option.map_none, List.map_cons, List.map_nil, List.cons_append, List.nil_append, List.append_nil, List.length_cons, List.length_nil, Nat.reduceAdd, Nat.reduceLT, Nat.reduceSub, if_true, if_false, Nat.zero_add, Nat.add_zero, Nat.sub_zero, Nat.lt_irrefl, Nat.not_lt_zero, Nat.zero_lt_one, Nat.lt_add_one] at hF); (try simp only [List.set_cons_zero, List.set_cons_succ, updH, posOf, lentArr, killF, killO, killV, AV.has, AV.hasL, AV.emb, AV.embL, OB.emb, embB, List.filter_cons, List.filter_nil, List.getElem?_cons_zero, List.getElem?_cons_succ, List.getD_cons_zero, List.getD_cons_succ, List.drop_succ_cons, List.drop_zero, List.drop_nil, List.contains_cons, List.contains_nil, Nat.reduceBEq, Nat.reduceEqDiff, beq_self_eq_true, Bool.or_false, Bool.false_or, Bool.or_true, Bool.true_or, Bool.false_eq_true, Option.map_some, Option.map_none, List.map_cons, List.map_nil, List.cons_append, List.nil_append, List.append_nil, List.length_cons, List.length_nil, Nat.reduceAdd, Nat.reduceLT, Nat.reduceSub, if_true, if_false, Nat.zero_add, Nat.add_zero, Nat.sub_zero, Nat.lt_irrefl, Nat.not_lt_zero, Nat.zero_lt_one, Nat.lt_add_one] at hH); subst hF; subst hH
    refine WE ?_
    rw [← hfs]
    refine WA ?_
    refine wk_of [some 0, some 1, some 2, some 3, some 4, some 5, some 6, some 7] (fun _ => [(1, .f (.func 95) [.p 0 0 0, .p 1 0 0, .p 2 0 0, .p 3 0 0]), (4, .p 6 0 0), (5, .p 7 0 0), (9, .c (prog_r v l)), (10, .c (I (l.map Step.row).length)), (11, .c (I (k + 1 : Nat)))]) (fun _ => [.box [.c (prog_r v l)], .box [.c (I least)], .box [.o 4 0 (faultsK l least (k + 1)).length c'], .box [.o 5 0 (faultsK l least (k + 1)).length d'], .arr 3 1 c' ((faultsK l least (k + 1)).map fun z => [I z.1]), .arr 30 1 d' ((faultsK l least (k + 1)).map fun z => [I z.2]), .box (Mach.zero.row.map .c), .box ((afterS (lastS (l.take k)) s).row.map .c)]) (by decide) (ZNL hE) ZCF ZCH (fun _ => ?_)
    exact ⟨n - 1, by omega, k + 1, c', d', faultsK l least (k + 1), by omega, rfl, rfl, by rw [lastS_succ hs]; rfl⟩
  refine WA ?_
  obtain rfl : k = l.length := by omega
  refine aret_a [some 0, some 1, some 2, some 3, some 4, some 5] (fltH l v least c d r) rfl (KK (t := 60) rfl) rfl (Cells.box rfl) (by simp) (by (try simp only [nm, putL, Nat.reduceAdd, cellsOf, cvOf]) <;> rfl) (by decide) (ZNL (n := 6) rfl) (fun _ => C0 rfl) ZCH ⟨c, d, ?_, by rw [hms]⟩
  rw [List.take_of_length_le (by omega)]; rfl
end Go.Proofs.YtdmeohgojdfmoaaGreatDoor

/- The program's faults, by value. -/
namespace Go.Proofs.YtdmeohgojdfmoaaGreatDoor
open Go Go.RowKit
set_option maxRecDepth 100000
-- NEWM
def faultsF (l : List Step) (least : Int) : Int := if progF l ≠ 0 then progF l else if least < 0 ∨ 500 < least then 1 else 0
theorem faults_a (l : List Step) (v : Value) (least : Int) (hl : l.length ≤ 1000000) (hok : ∀ s ∈ l, s.ok) : ACalls Tryz.prog 38 [.c (prog_r v l), .c (I least)] [] fun u H => ∃ v' w', u = .t [.c (.r v' (((if faultsF l least = 0 then faultsK l least l.length else []).map fun z => [I z.1]))), .c (.r w' ((if faultsF l least = 0 then faultsK l least l.length else []).map fun z => [I z.2])), .c (I (faultsF l least))] ∧ H = [] := by
  refine acalls_of (N := 22) Tryz.func38 rfl rfl (by simp) fun E hE => ?_
  refine WA ?_
  refine WR ?_
  refine al_ef rfl (ef_call0 false (fun _ => check_a l v (by omega)) rfl .fn rfl (by decide) (by kernel_rfl) rfl (fun _ => C0 rfl) (by simp)) ?_
  rintro _ _ ⟨_, _, _, ⟨rfl, rfl⟩, hF, hH⟩
  (try simp only [nsl, Nat.reduceAdd, Nat.reduceLT, Nat.reduceSub] at hF); (try simp only [nsl, Nat.reduceAdd, Nat.reduceLT, Nat.reduceSub] at hH); subst hF; subst hH
  refine WE ?_
  refine WA ?_
  refine aw_if rfl (fun hne => ?_) (fun heq => ?_)
  · have hv : faultsF l least = progF l := by rw [faultsF, if_pos hne]
    refine WA ?_
    exact aret_of (us := [.c (.r (.slice none 0 0) []), .c (.r (.slice none 0 0) []), .c (I (progF l))]) [] (fun _ => .t [.c (.r (.slice none 0 0) []), .c (.r (.slice none 0 0) []), .c (I (progF l))]) (fun _ => []) (.tmp rfl (.tmp rfl (.tmp rfl .nil))) (by decide) (ZNK rfl) (fun _ => .tL (C0 rfl)) (fun _ => .nil) (fun _ => ⟨_, _, by rw [hv, if_neg (by omega)]; rfl, rfl⟩)
  have h0 : progF l = 0 := by omega
  have hne0 : ¬ progF l ≠ 0 := by omega
  refine ZZ ?_
  refine WR ?_
  refine al_ef rfl (ef_call0 false (fun _ => outside_a _ _ _) rfl .fn rfl (by decide) (by kernel_rfl) rfl (fun _g => .cons (.c rfl) (.cons (.c rfl) (.cons (.c rfl) .nil))) (by simp)) ?_
  rintro _ _ ⟨_, _, _, ⟨b, rfl, rfl, hb1, hb2⟩, hF, hH⟩
  (try simp only [nsl, Nat.reduceAdd, Nat.reduceLT, Nat.reduceSub] at hF); (try simp only [nsl, Nat.reduceAdd, Nat.reduceLT, Nat.reduceSub] at hH); subst hF; subst hH
  cases b
  all_goals (simp only [true_implies, false_implies, reduceCtorEq] at hb1 hb2)
  all_goals (refine WE ?_)
  · refine aw_cond_f rfl ?_
    have hv : faultsF l least = 0 := by rw [faultsF, if_neg hne0, if_neg (by omega)]
    refine ZZ ?_
    refine WA ?_
    refine WR ?_
    refine al_nil ?_
    refine aseq_n ?_
    refine aw_wk (wk_of (K := fun F H => F = [(2, .p 0 0 0), (3, .p 1 0 0), (8, .p 2 0 0), (9, .p 3 0 0)] ∧ H = fltH l v least 0 0 []) [some 0, some 1, some 2, some 3, none, none] (fun _ => [(2, .p 0 0 0), (3, .p 1 0 0), (8, .p 2 0 0), (9, .p 3 0 0)]) (fun _ => fltH l v least 0 0 []) (by decide) (ZNL hE) ZCF ZCH (fun _ => ⟨rfl, rfl⟩)) ?_
    rintro F H ⟨rfl, rfl⟩
    refine WR ?_
    refine al_ef rfl (ef_call [0, 1, 2, 3, 4, 5] (fun _ => fltH l v least 0 0 []) false (fun _ => runFlt_a l v least hl hok) rfl .fn rfl (by decide) (by kernel_rfl) rfl ZCH (by decide) ZCH (by simp)) ?_
    rintro F1 H1 ⟨_, _, _, _, ⟨c', d', rfl, hq⟩, hF, hH⟩
    subst hq
    (try simp only [List.set_cons_zero, List.set_cons_succ, updH, posOf, lentArr, killF, killO, killV, AV.has, AV.hasL, AV.emb, AV.embL, OB.emb, embB, List.filter_cons, List.filter_nil, List.getElem?_cons_zero, List.getElem?_cons_succ, List.getD_cons_zero, List.getD_cons_succ, List.drop_succ_cons, List.drop_zero, List.drop_nil, List.contains_cons, List.contains_nil, Nat.reduceBEq, Nat.reduceEqDiff, beq_self_eq_true, Bool.or_false, Bool.false_or, Bool.or_true, Bool.true_or, Bool.false_eq_true, Option.map_some, Option.map_none, List.map_cons, List.map_nil, List.cons_append, List.nil_append, List.append_nil, List.length_cons, List.length_nil, Nat.reduceAdd, Nat.reduceLT, Nat.reduceSub, if_true, if_false, Nat.zero_add, Nat.add_zero, Nat.sub_zero, Nat.lt_irrefl, Nat.not_lt_zero, Nat.zero_lt_one, Nat.lt_add_one] at hF); (try simp only [List.set_cons_zero, List.set_cons_succ, updH, posOf, lentArr, killF, killO, killV, AV.has, AV.hasL, AV.emb, AV.embL, OB.emb, embB, List.filter_cons, List.filter_nil, List.getElem?_cons_zero, List.getElem?_cons_succ, List.getD_cons_zero, List.getD_cons_succ, List.drop_succ_cons, List.drop_zero, List.drop_nil, List.contains_cons, List.contains_nil, Nat.reduceBEq, Nat.reduceEqDiff, beq_self_eq_true, Bool.or_false, Bool.false_or, Bool.or_true, Bool.true_or, Bool.false_eq_true, Option.map_some, Option.map_none, List.map_cons, List.map_nil, List.cons_append, List.nil_append, List.append_nil, List.length_cons, List.length_nil, Nat.reduceAdd, Nat.reduceLT, Nat.reduceSub, if_true, if_false, Nat.zero_add, Nat.add_zero, Nat.sub_zero, Nat.lt_irrefl, Nat.not_lt_zero, Nat.zero_lt_one, Nat.lt_add_one] at hH); subst hF; subst hH
    refine WE ?_
    refine ZZ ?_
    refine aw_regionT [(0, none), (1, none), (2, none), (3, none), (4, none)] hMixed (by kernel_rfl) ?_
    refine WQ ?_
    all_goals exact aret_of (us := [.o 4 0 (faultsK l least l.length).length c', .o 5 0 (faultsK l least l.length).length d', .c (I 0)]) [] (fun g => .t [.c (.r (g (.o 4 0 (faultsK l least l.length).length c')) ((faultsK l least l.length).map fun z => [I z.1])), .c (.r (g (.o 5 0 (faultsK l least l.length).length d')) ((faultsK l least l.length).map fun z => [I z.2])), .c (I 0)]) (fun _ => []) (.tmp rfl (.tmp rfl (.tmp rfl .nil))) (by decide) (ZNK rfl) (fun _ => .tL (.cons (.frz rfl rfl (by rw [List.drop_zero, List.take_of_length_le (by simp)]) (by simp) rfl) (.cons (.frz rfl rfl (by rw [List.drop_zero, List.take_of_length_le (by simp)]) (by simp) rfl) (.cons (.c rfl) .nil)))) (fun _ => .nil) (fun _ => ⟨_, _, by rw [hv]; rfl, rfl⟩)
  · refine aw_cond_t rfl ?_
    have hv : faultsF l least = 1 := by rw [faultsF, if_neg hne0, if_pos (by omega)]
    refine WA ?_
    exact aret_of (us := [.c (.r (.slice none 0 0) []), .c (.r (.slice none 0 0) []), .c (I 1)]) [] (fun _ => .t [.c (.r (.slice none 0 0) []), .c (.r (.slice none 0 0) []), .c (I 1)]) (fun _ => []) (.tmp rfl (.tmp rfl (.tmp rfl .nil))) (by decide) (ZNK rfl) (fun _ => .tL (C0 rfl)) (fun _ => .nil) (fun _ => ⟨_, _, by rw [hv, if_neg (by omega)]; rfl, rfl⟩)
end Go.Proofs.YtdmeohgojdfmoaaGreatDoor

/- Plain law: statuses of programs, one after the other. -/
namespace Go.Proofs.YtdmeohgojdfmoaaGreatDoor
open Go Go.RowKit
theorem firstF_zero : ∀ (l : List Step), firstF l = 0 ↔ ∀ s ∈ l, faultS s = 0
  | [] => by simp [firstF]
  | s :: l => by
    unfold firstF
    split
    · rename_i h
      rw [firstF_zero l]
      simp [h]
    · rename_i h
      simp [h]
theorem progF_zero (l : List Step) : progF l = 0 ↔ l.length ≤ 5000 ∧ ∀ s ∈ l, faultS s = 0 := by
  unfold progF
  split
  · constructor
    · intro h; omega
    · intro h; omega
  · rw [firstF_zero]
    exact ⟨fun h => ⟨by omega, h⟩, fun h => h.2⟩
def gS : List Step → Int
  | [] => 0
  | s :: l => (if s.k = 3 ∨ s.k = 4 then s.f else 0) + gS l
theorem wrap_ink (z : Int) : in64 (wrap64 z) := by unfold in64 wrap64; omega
theorem wrap_of {z : Int} (h : in64 z) : wrap64 z = z := by unfold in64 at h; unfold wrap64; omega
theorem fl_after (m : Mach) (s : Step) : (afterS m s).fl = if s.k = 3 ∨ s.k = 4 then wrap64 (m.fl + s.f) else m.fl := by
  unfold afterS
  by_cases h1 : s.k = 1
  · rw [if_pos h1, if_neg (by omega)]
  · rw [if_neg h1]
    by_cases h2 : s.k = 2
    · rw [if_pos h2, if_neg (by omega)]
    · rw [if_neg h2]
      by_cases h3 : s.k = 3 ∨ s.k = 4
      · rw [if_pos h3, if_pos h3]
      · rw [if_neg h3, if_neg h3]
        repeat' split
        all_goals rfl
theorem rel_after {m m' : Mach} (s : Step) (h : m.rel = m'.rel) : (afterS m s).rel = (afterS m' s).rel := by
  unfold afterS
  repeat' split
  all_goals first | rfl | exact h
theorem fl_foldl : ∀ (l : List Step) (m : Mach), in64 m.fl → (l.foldl afterS m).fl = wrap64 (m.fl + gS l)
  | [], m, hm => by simp only [List.foldl_nil, gS, Int.add_zero]; exact (wrap_of hm).symm
  | s :: l, m, hm => by
    rw [List.foldl_cons, fl_foldl l (afterS m s) (by rw [fl_after]; split <;> first | exact wrap_ink _ | exact hm), fl_after, gS]
    split
    · unfold wrap64; omega
    · rw [Int.zero_add]
theorem rel_foldl : ∀ (l : List Step) (m m' : Mach), m.rel = m'.rel → (l.foldl afterS m).rel = (l.foldl afterS m').rel
  | [], _, _, h => h
  | s :: l, m, m', h => by rw [List.foldl_cons, List.foldl_cons]; exact rel_foldl l _ _ (rel_after s h)
theorem lastS_app (a b : List Step) : lastS (a ++ b) = b.foldl afterS (lastS a) := by unfold lastS; rw [List.foldl_append]
theorem lastS_fl (a : List Step) : in64 (lastS a).fl := by
  have h0 : in64 Mach.zero.fl := by unfold in64; decide
  show in64 (a.foldl afterS Mach.zero).fl
  rw [fl_foldl a Mach.zero h0]; exact wrap_ink _
theorem mid_rel (a : List Step) : (lastS (a ++ midS a)).rel = false ∧ (lastS (a ++ midS a)).fl = (lastS a).fl := by
  unfold midS
  cases h : (lastS a).rel
  · simp only [Bool.false_eq_true, if_false, List.append_nil]; exact ⟨h, trivial⟩
  · rw [if_pos rfl, lastS_app]; exact ⟨rfl, rfl⟩
/-- A program from the first place, as the law makes it. -/
def fromS (b : List Step) : List Step := ⟨3, 0, 0, 0, 0, 0⟩ :: ⟨5, 0, 0, 0, 0, 0⟩ :: b
theorem join_last (a b : List Step) : (lastS (joinS a b)).rel = (lastS (fromS b)).rel ∧ (lastS (joinS a b)).fl = wrap64 ((lastS a).fl + (lastS (fromS b)).fl) := by
  have e1 : lastS (joinS a b) = b.foldl afterS (lastS (a ++ midS a)) := lastS_app _ _
  have e2 : lastS (fromS b) = b.foldl afterS (afterS (afterS Mach.zero ⟨3, 0, 0, 0, 0, 0⟩) ⟨5, 0, 0, 0, 0, 0⟩) := rfl
  obtain ⟨h1, h2⟩ := mid_rel a
  have h3 : (afterS (afterS Mach.zero ⟨3, 0, 0, 0, 0, 0⟩) ⟨5, 0, 0, 0, 0, 0⟩).fl = 0 := by
    rw [fl_after, if_neg (by decide), fl_after, if_pos (by decide)]; unfold wrap64; decide
  rw [e1, e2]
  constructor
  · exact rel_foldl b _ _ (h1.trans rfl)
  · have h4 := lastS_fl a
    rw [fl_foldl b _ (by rw [h2]; exact h4), fl_foldl b _ (by rw [h3]; unfold in64; decide), h2, h3]
    unfold wrap64; omega
theorem runs_take {l : List Step} {k : Nat} (h : k ≤ l.length) : (runsS l).take k = runsS (l.take k) := by
  unfold runsS
  rw [← List.map_take, List.take_range, List.length_take, Nat.min_eq_left h]
  refine List.map_congr_left fun i hi => ?_
  have := List.mem_range.1 hi
  rw [List.take_take, Nat.min_eq_left (by omega)]
theorem runs_len (l : List Step) : (runsS l).length = l.length := by simp [runsS]
theorem runs_get {l : List Step} {i : Nat} (h : i < l.length) : (runsS l)[i]? = some (lastS (l.take (i + 1))) := by
  unfold runsS; rw [List.getElem?_map, List.getElem?_range h]; rfl
theorem runs_join (a b : List Step) : (runsS (joinS a b)).take a.length = runsS a := by
  rw [runs_take (by simp [joinS])]
  congr 1
  unfold joinS
  rw [List.append_assoc, List.take_append_of_le_length (Nat.le_refl _), List.take_length]
theorem join_prog {a b : List Step} (ha : progF a = 0) (hb : progF b = 0) (hl : a.length + b.length ≤ 4000) : progF (joinS a b) = 0 := by
  have h1 := (progF_zero a).1 ha
  have h2 := (progF_zero b).1 hb
  have hm := midS_len a
  refine (progF_zero _).2 ⟨by rw [joinS_len]; omega, fun s hs => ?_⟩
  unfold joinS at hs
  rcases List.mem_append.1 hs with h | h
  · rcases List.mem_append.1 h with h | h
    · exact h1.2 s h
    · unfold midS at h
      split at h
      · rw [List.mem_singleton.1 h]; decide
      · cases h
  · exact h2.2 s h
theorem join_ok {a b : List Step} (ha : ∀ s ∈ a, s.ok) (hb : ∀ s ∈ b, s.ok) : ∀ s ∈ joinS a b, s.ok := fun s hs => by
  unfold joinS at hs
  rcases List.mem_append.1 hs with h | h
  · rcases List.mem_append.1 h with h | h
    · exact ha s h
    · unfold midS at h
      split at h
      · rw [List.mem_singleton.1 h]; unfold Step.ok in64; decide
      · cases h
  · exact hb s h
theorem from_prog {b : List Step} (hb : progF b = 0) (hl : b.length ≤ 4000) : progF (fromS b) = 0 := by
  have h2 := (progF_zero b).1 hb
  refine (progF_zero _).2 ⟨by simp [fromS]; omega, fun s hs => ?_⟩
  rcases List.mem_cons.1 hs with rfl | hs
  · decide
  · rcases List.mem_cons.1 hs with rfl | hs
    · decide
    · exact h2.2 s hs
theorem from_ok {b : List Step} (hb : ∀ s ∈ b, s.ok) : ∀ s ∈ fromS b, s.ok := fun s hs => by
  rcases List.mem_cons.1 hs with rfl | hs
  · unfold Step.ok in64; decide
  · rcases List.mem_cons.1 hs with rfl | hs
    · unfold Step.ok in64; decide
    · exact hb s hs
theorem mem_faults {l : List Step} {least : Int} {i : Nat} : ∀ {k : Nat}, i < k → k ≤ l.length → ((i : Int) ∈ (faultsK l least k).map (·.1) ↔ ∃ s, l[i]? = some s ∧ wrongF s (lastS (l.take i)) (lastS (l.take (i + 1))) least ≠ 0)
  | 0, h, _ => absurd h (Nat.not_lt_zero _)
  | k + 1, h, hk => by
    obtain ⟨s, hs⟩ : ∃ s, l[k]? = some s := ⟨_, List.getElem?_eq_getElem (by omega)⟩
    have low : ∀ {i k : Nat}, k ≤ i → (i : Int) ∉ (faultsK l least k).map (·.1) := by
      intro i k
      induction k with
      | zero => intro _ h; cases h
      | succ k ih =>
        intro hik hm
        cases hq : l[k]? with
        | none => simp only [faultsK, hq] at hm; exact ih (by omega) hm
        | some t =>
          rw [faultsK_succ hq] at hm
          split at hm
          · rw [List.map_append, List.mem_append] at hm
            rcases hm with hm | hm
            · exact ih (by omega) hm
            · simp at hm; omega
          · exact ih (by omega) hm
    by_cases hik : i < k
    · rw [faultsK_succ hs, ← mem_faults hik (by omega)]
      split
      · rw [List.map_append, List.mem_append]
        constructor
        · rintro (h | h)
          · exact h
          · simp at h; omega
        · exact Or.inl
      · exact Iff.rfl
    · obtain rfl : i = k := by omega
      rw [faultsK_succ hs]
      split
      · rename_i hw
        exact ⟨fun _ => ⟨s, hs, hw⟩, fun _ => by simp⟩
      · rename_i hw
        exact ⟨fun h => absurd h (low (Nat.le_refl _)), fun ⟨t, ht, hw'⟩ => by rw [hs] at ht; cases ht; exact absurd hw' hw⟩
theorem wrong_bounds {x : Step} {was is : Mach} {least : Int} (h : wrongF x was is least = 0) : -100000 ≤ is.x ∧ is.x ≤ 100000 ∧ -100000 ≤ is.y ∧ is.y ≤ 100000 ∧ 0 ≤ is.z ∧ is.z ≤ 1000000 := by
  unfold wrongF at h
  split at h
  · omega
  · rename_i hq; exact Decidable.not_not.1 hq
end Go.Proofs.YtdmeohgojdfmoaaGreatDoor

/- Plain law: the forms of a program do the same. -/
namespace Go.Proofs.YtdmeohgojdfmoaaGreatDoor
open Go Go.RowKit
/- ## Deeds, step by step -/
def dFrom : DSt → Mach → List Step → DSt
  | st, _, [] => st
  | st, m, s :: l => dFrom (stepDS st s (afterS m s)) (afterS m s) l
theorem dFrom_k (l : List Step) : ∀ (j k : Nat), k + j = l.length → dFrom (deedS l k) (lastS (l.take k)) (l.drop k) = deedS l l.length
  | 0, k, h => by
    obtain rfl : k = l.length := by omega
    rw [List.drop_length]; rfl
  | j + 1, k, h => by
    obtain ⟨s, hs⟩ : ∃ s, l[k]? = some s := ⟨_, List.getElem?_eq_getElem (by omega)⟩
    rw [drop_cons hs, dFrom, ← lastS_succ hs, ← deedS_succ hs]
    exact dFrom_k l j (k + 1) (by omega)
theorem deedS_dFrom (l : List Step) : deedS l l.length = dFrom ⟨[], ⟨Mach.zero, 0⟩⟩ Mach.zero l := (dFrom_k l l.length 0 (by omega)).symm
theorem deedsL_eq {a b : List Step} (h : dFrom ⟨[], ⟨Mach.zero, 0⟩⟩ Mach.zero a = dFrom ⟨[], ⟨Mach.zero, 0⟩⟩ Mach.zero b) : deedsL a = deedsL b := by
  unfold deedsL; rw [deedS_dFrom, deedS_dFrom, h]
theorem after_mode1 (M : Mach) {s : Step} (h : s.k = 1 ∨ s.k = 2) : (afterS M s).abs = M.abs := by
  unfold afterS
  rcases h with h | h
  · rw [if_pos h]
  · rw [if_neg (by omega), if_pos h]
theorem stepDS_mode {st : DSt} {M : Mach} {s : Step} (hst : st.d.m = M.abs) (h : s.k = 1 ∨ s.k = 2) : stepDS st s (afterS M s) = st := by
  unfold stepDS
  rw [after_mode1 M h, if_pos (by rw [hst]; exact Mach.eq_iff.2 rfl), if_neg (by omega)]
theorem stepDS_last (st : DSt) (s : Step) (M : Mach) : (stepDS st s M).d.m = M.abs := by
  unfold stepDS
  split
  · rename_i h
    split
    · exact Mach.eq_iff.1 h
    · exact Mach.eq_iff.1 h
  · rfl
theorem stepDS_congr (st : DSt) {s t : Step} {M M' : Mach} (hm : M.abs = M'.abs) (hk : s.k = t.k) (hn : s.n = t.n) : stepDS st s M = stepDS st t M' := by
  unfold stepDS; rw [hm, hk, hn]
/- ## The absolute form -/
theorem absStep_k (m : Mach) (s : Step) : (absStep m s).k = s.k ∧ (absStep m s).n = s.n ∧ (absStep m s).f = s.f := by
  unfold absStep
  split
  · exact ⟨rfl, rfl, rfl⟩
  · split <;> exact ⟨rfl, rfl, rfl⟩
theorem after_absStep (M : Mach) {s : Step} (h : ¬ (s.k = 1 ∨ s.k = 2)) : afterS M.abs (absStep (afterS M s) s) = (afterS M s).abs := by
  obtain ⟨k, x, y, z, f, n⟩ := s
  obtain ⟨Mx, My, Mz, Msp, Mhe, Mtl, Mfl, Mr⟩ := M
  have h1 : ¬ k = 1 := fun e => h (.inl e)
  have h2 : ¬ k = 2 := fun e => h (.inr e)
  by_cases h34 : k = 3 ∨ k = 4
  · have h5 : ¬ k = 5 := by omega
    simp [absStep, afterS, relS, h1, h2, h34]
  · by_cases h5 : k = 5
    · simp [absStep, afterS, relS, h5]
    · by_cases h6 : k = 6
      · simp [absStep, afterS, relS, h6]
      by_cases h8 : k = 8
      · simp [absStep, afterS, relS, h8]
      by_cases h9 : k = 9
      · simp [absStep, afterS, relS, h9]
      · simp [absStep, afterS, relS, h1, h2, h34, h5, h6, h8, h9]
theorem abs_deeds : ∀ (l : List Step) (st : DSt) (M : Mach), st.d.m = M.abs → dFrom st M l = dFrom st M.abs (absFrom M l)
  | [], _, _, _ => rfl
  | s :: l, st, M, h => by
    unfold absFrom
    by_cases hm : s.k = 1 ∨ s.k = 2
    · rw [if_pos hm, dFrom, stepDS_mode h hm, abs_deeds l st _ (h.trans (after_mode1 M hm).symm), after_mode1 M hm]
    · rw [if_neg hm, dFrom, dFrom, after_absStep M hm]
      have e := stepDS_congr st (s := s) (t := absStep (afterS M s) s) (M := afterS M s) (M' := (afterS M s).abs) rfl (absStep_k _ _).1.symm (absStep_k _ _).2.1.symm
      rw [← e]
      exact abs_deeds l _ _ (stepDS_last _ _ _)
theorem abs_last : ∀ (l : List Step) (M : Mach), (l.foldl afterS M).abs = (absFrom M l).foldl afterS M.abs
  | [], _ => rfl
  | s :: l, M => by
    unfold absFrom
    by_cases hm : s.k = 1 ∨ s.k = 2
    · rw [if_pos hm, List.foldl_cons, abs_last l, after_mode1 M hm]
    · rw [if_neg hm, List.foldl_cons, List.foldl_cons, after_absStep M hm, abs_last l]
theorem same_abs (l : List Step) : deedsL l = deedsL (absS l) := deedsL_eq (abs_deeds l _ _ rfl)
theorem last_abs (l : List Step) : (lastS l).abs = lastS (absS l) := abs_last l Mach.zero
def NoMode (l : List Step) : Prop := ∀ s ∈ l, ¬ (s.k = 1 ∨ s.k = 2)
theorem abs_nomode : ∀ (l : List Step) (M : Mach), NoMode (absFrom M l)
  | [], _, s, h => by cases h
  | t :: l, M, s, h => by
    unfold absFrom at h
    by_cases hm : t.k = 1 ∨ t.k = 2
    · rw [if_pos hm] at h; exact abs_nomode l _ s h
    · rw [if_neg hm] at h
      rcases List.mem_cons.1 h with rfl | h
      · rw [(absStep_k _ _).1]; exact hm
      · exact abs_nomode l _ s h
theorem rel_false {m : Mach} {s : Step} (h : m.rel = false) (hm : ¬ (s.k = 1 ∨ s.k = 2)) : (afterS m s).rel = false := by
  unfold afterS
  rw [if_neg (by omega), if_neg (by omega)]
  repeat' split
  all_goals exact h
theorem absStep_self {m : Mach} {s : Step} (h : m.rel = false) (hm : ¬ (s.k = 1 ∨ s.k = 2)) : absStep (afterS m s) s = s := by
  unfold absStep
  split
  · rename_i h3
    unfold afterS relS
    rw [if_neg (by omega), if_neg (by omega), if_pos h3, h]; rfl
  · rename_i h3
    split
    · rename_i h5
      unfold afterS relS
      rw [if_neg (by omega), if_neg (by omega), if_neg h3, if_pos h5, h]; rfl
    · rfl
theorem abs_self : ∀ (l : List Step) (m : Mach), m.rel = false → NoMode l → absFrom m l = l
  | [], _, _, _ => rfl
  | s :: l, m, h, hn => by
    have hs := hn s (List.mem_cons_self ..)
    unfold absFrom
    rw [if_neg hs, absStep_self h hs, abs_self l _ (rel_false h hs) (fun t ht => hn t (List.mem_cons_of_mem _ ht))]
/- ## The relative form -/
abbrev Mach.rl (m : Mach) : Mach := ⟨m.x, m.y, m.z, m.sp, m.he, m.tl, m.fl, true⟩
def Mach.in3 (m : Mach) : Prop := in64 m.x ∧ in64 m.y ∧ in64 m.z
theorem relS_ink {r : Bool} {a b : Int} (hb : in64 b) : in64 (relS r a b) := by
  unfold relS; split
  · exact wrap_ink _
  · exact hb
theorem after_in3 {M : Mach} {s : Step} (h : M.in3) (hs : s.ok) : (afterS M s).in3 := by
  obtain ⟨-, o2, o3, o4, -, -⟩ := hs
  unfold afterS
  repeat' split
  all_goals first | exact h | exact ⟨relS_ink o2, relS_ink o3, h.2.2⟩ | exact ⟨h.1, h.2.1, relS_ink o4⟩
theorem relStep_k (m M : Mach) (s : Step) : (relStep m M s).k = s.k ∧ (relStep m M s).n = s.n ∧ (relStep m M s).f = s.f := by
  unfold relStep
  split
  · exact ⟨rfl, rfl, rfl⟩
  · split <;> exact ⟨rfl, rfl, rfl⟩
theorem wrap_back {a b : Int} (hb : in64 b) : wrap64 (a + wrap64 (b - a)) = b := by
  unfold in64 at hb; unfold wrap64; omega
theorem after_relStep {M : Mach} {s : Step} (hi : (afterS M s).in3) (h : ¬ (s.k = 1 ∨ s.k = 2)) : afterS M.rl (relStep M (afterS M s) s) = (afterS M s).rl := by
  obtain ⟨k, x, y, z, f, n⟩ := s
  obtain ⟨Mx, My, Mz, Msp, Mhe, Mtl, Mfl, Mr⟩ := M
  have h1 : ¬ k = 1 := fun e => h (.inl e)
  have h2 : ¬ k = 2 := fun e => h (.inr e)
  obtain ⟨i1, i2, i3⟩ := hi
  by_cases h34 : k = 3 ∨ k = 4
  · have h5 : ¬ k = 5 := by omega
    simp only [afterS, h1, h2, h34, if_true, if_false] at i1 i2
    simp only [relStep, afterS, h1, h2, h34, if_true, if_false, Mach.rl]
    have e1 : relS true Mx (wrap64 (relS Mr Mx x - Mx)) = relS Mr Mx x := by rw [relS, if_pos rfl]; exact wrap_back i1
    have e2 : relS true My (wrap64 (relS Mr My y - My)) = relS Mr My y := by rw [relS, if_pos rfl]; exact wrap_back i2
    rw [e1, e2]
  · by_cases h5 : k = 5
    · subst h5
      have i3' : in64 (relS Mr Mz z) := by simpa [afterS] using i3
      have e3 : relS true Mz (wrap64 (relS Mr Mz z - Mz)) = relS Mr Mz z := by rw [relS, if_pos rfl]; exact wrap_back i3'
      simp [relStep, afterS, e3]
    · by_cases h6 : k = 6
      · simp [relStep, afterS, h6]
      by_cases h8 : k = 8
      · simp [relStep, afterS, h8]
      by_cases h9 : k = 9
      · simp [relStep, afterS, h9]
      · simp [relStep, afterS, h1, h2, h34, h5, h6, h8, h9]
theorem mode_rl (M : Mach) {s : Step} (h : s.k = 1 ∨ s.k = 2) : (afterS M s).rl = M.rl := by
  unfold afterS
  rcases h with h | h
  · rw [if_pos h]
  · rw [if_neg (by omega), if_pos h]
theorem rel_deeds : ∀ (l : List Step) (st : DSt) (M : Mach), st.d.m = M.abs → M.in3 → (∀ s ∈ l, s.ok) → dFrom st M l = dFrom st M.rl (relFrom M l)
  | [], _, _, _, _, _ => rfl
  | s :: l, st, M, h, hi, hok => by
    have hi' := after_in3 hi (hok s (List.mem_cons_self ..))
    have hok' : ∀ t ∈ l, t.ok := fun t ht => hok t (List.mem_cons_of_mem _ ht)
    unfold relFrom relE
    by_cases hm : s.k = 1 ∨ s.k = 2
    · rw [if_pos hm, List.nil_append, dFrom, stepDS_mode h hm, rel_deeds l st _ (h.trans (after_mode1 M hm).symm) hi' hok', mode_rl M hm]
    · rw [if_neg hm, List.singleton_append, dFrom, dFrom, after_relStep hi' hm]
      have e := stepDS_congr st (s := s) (t := relStep M (afterS M s) s) (M := afterS M s) (M' := (afterS M s).rl) rfl (relStep_k _ _ _).1.symm (relStep_k _ _ _).2.1.symm
      rw [← e]
      exact rel_deeds l _ _ (stepDS_last _ _ _) hi' hok'
theorem absStep_relStep (M : Mach) (m1 m2 : Mach) (s : Step) : absStep m1.rl (relStep M m2 s) = absStep m1 s := by
  obtain ⟨k, x, y, z, f, n⟩ := s
  unfold absStep relStep
  by_cases h3 : k = 3 ∨ k = 4
  · simp only [h3, if_true]
  · by_cases h5 : k = 5
    · simp [h5]
    · simp [h3, h5]
theorem rel_abs2 : ∀ (l : List Step) (M : Mach), M.in3 → (∀ s ∈ l, s.ok) → absFrom M.rl (relFrom M l) = absFrom M l
  | [], _, _, _ => rfl
  | s :: l, M, hi, hok => by
    have hi' := after_in3 hi (hok s (List.mem_cons_self ..))
    have hok' : ∀ t ∈ l, t.ok := fun t ht => hok t (List.mem_cons_of_mem _ ht)
    have ih := rel_abs2 l _ hi' hok'
    unfold relFrom relE
    by_cases hm : s.k = 1 ∨ s.k = 2
    · rw [if_pos hm, List.nil_append, ← mode_rl M hm, ih, absFrom, if_pos hm]
    · rw [if_neg hm, List.singleton_append, absFrom, (relStep_k _ _ _).1, if_neg hm, after_relStep hi' hm, ih, absFrom, if_neg hm, absStep_relStep]
theorem zero_in3 : Mach.zero.in3 := by unfold Mach.in3 in64; decide
theorem mode2 (r : List Step) : absS (⟨2, 0, 0, 0, 0, 0⟩ :: r) = absFrom Mach.zero.rl r := by
  show absFrom Mach.zero _ = _
  rw [absFrom, if_pos (.inr rfl)]; rfl
theorem abs_rel {l : List Step} (hok : ∀ s ∈ l, s.ok) : absS (relL l) = absS l := by
  have h := rel_abs2 l Mach.zero zero_in3 hok
  unfold relL headR
  split
  · rename_i hr
    rw [hr] at h
    exact h
  · rw [mode2]; exact h
theorem same_rel {l : List Step} (hok : ∀ s ∈ l, s.ok) : deedsL l = deedsL (relL l) := by
  refine deedsL_eq ?_
  have h := rel_deeds l ⟨[], ⟨Mach.zero, 0⟩⟩ Mach.zero rfl zero_in3 hok
  rw [h]
  unfold relL headR
  split
  · rename_i hr
    rw [hr]; rfl
  · rw [dFrom, stepDS_mode rfl (.inr rfl)]; rfl
/- ## The short form -/
theorem keep_last : ∀ (l : List Step) (m : Mach), (∀ s ∈ l, faultS s = 0) → (keepFrom m l).foldl afterS m = l.foldl afterS m
  | [], _, _ => rfl
  | s :: l, m, hf => by
    have hs := hf s (List.mem_cons_self ..)
    have hl : ∀ t ∈ l, faultS t = 0 := fun t ht => hf t (List.mem_cons_of_mem _ ht)
    unfold keepFrom keepE
    split
    · rw [List.singleton_append, List.foldl_cons, List.foldl_cons, keep_last l _ hl]
    · rename_i hk
      have he : afterS m s = m := by
        unfold keepB at hk
        by_cases h4 : s.k = 4
        · rw [if_pos h4] at hk
          simp at hk
          exact Mach.eq_iff.1 hk.2
        · rw [if_neg h4] at hk
          by_cases h7 : s.k = 7
          · unfold afterS
            rw [if_neg (by omega), if_neg (by omega), if_neg (by omega), if_neg (by omega), if_neg (by omega), if_neg (by omega), if_neg (by omega)]
          · rw [if_neg h7] at hk
            simp at hk
            exact Mach.eq_iff.1 hk
      rw [List.nil_append, List.foldl_cons, he, keep_last l _ hl]
theorem fault_f {s : Step} (h : faultS s = 0) (h4 : s.k ≠ 4) : s.f = 0 := by
  unfold faultS at h
  repeat' split at h
  all_goals omega
theorem over_step {m : Mach} {x y : Step} (hr : m.rel = false) (hx : faultS x = 0) (hy : faultS y = 0) (hk : y.k = x.k) (h35 : x.k = 3 ∨ x.k = 5) : afterS (afterS m x) y = afterS m y := by
  have fx := fault_f hx (by omega)
  have fy := fault_f hy (by omega)
  obtain ⟨k, x1, x2, x3, f, n⟩ := x
  obtain ⟨k', y1, y2, y3, f', n'⟩ := y
  simp only at hk h35 fx fy
  subst hk fx fy
  rcases h35 with h | h
  · subst h
    simp [afterS, relS, hr]
    unfold wrap64; omega
  · subst h
    simp [afterS, relS, hr]
theorem drop_last : ∀ (l : List Step) (m : Mach), m.rel = false → NoMode l → (∀ s ∈ l, faultS s = 0) → (dropN l).foldl afterS m = l.foldl afterS m
  | [], _, _, _, _ => rfl
  | [x], m, _, _, _ => rfl
  | x :: y :: l, m, hr, hn, hf => by
    have hx := hf x (List.mem_cons_self ..)
    have hy := hf y (by simp)
    have hnx := hn x (List.mem_cons_self ..)
    have hn' : NoMode (y :: l) := fun t ht => hn t (List.mem_cons_of_mem _ ht)
    have hf' : ∀ t ∈ y :: l, faultS t = 0 := fun t ht => hf t (List.mem_cons_of_mem _ ht)
    rw [dropN]
    split
    · rename_i hs
      rw [drop_last (y :: l) m hr hn' hf', List.foldl_cons, List.foldl_cons, List.foldl_cons]
      simp only [List.head?_cons, sel, Bool.and_eq_true, Bool.or_eq_true, decide_eq_true_eq] at hs
      rw [over_step hr hx hy hs.1 hs.2]
    · rw [List.foldl_cons, List.foldl_cons, drop_last (y :: l) _ (rel_false hr hnx) hn' hf']
theorem short_last {l : List Step} (hn : NoMode l) (hf : ∀ s ∈ l, faultS s = 0) : lastS (shortF l) = lastS l := by
  show (dropN (keepFrom Mach.zero l)).foldl afterS Mach.zero = _
  rw [drop_last _ _ rfl (fun s hs => hn s (keepFrom_mem l _ s hs)) (fun s hs => hf s (keepFrom_mem l _ s hs)), keep_last l _ hf]; rfl
theorem shortI_last : ∀ (n : Nat) (l : List Step), NoMode l → (∀ s ∈ l, faultS s = 0) → lastS (shortI n l) = lastS l
  | 0, _, _, _ => rfl
  | n + 1, l, hn, hf => by
    unfold shortI
    split
    · rfl
    · rw [shortI_last n _ (fun s hs => hn s (shortF_mem s hs)) (fun s hs => hf s (shortF_mem s hs)), short_last hn hf]
theorem shortI_fix : ∀ (n : Nat) (l : List Step), l.length < n → (shortF (shortI n l)).length = (shortI n l).length
  | 0, _, h => absurd h (Nat.not_lt_zero _)
  | n + 1, l, h => by
    unfold shortI
    split
    · assumption
    · rename_i hne
      have := shortF_len l
      exact shortI_fix n _ (by omega)
theorem shortS_fix (l : List Step) : shortS (shortS l) = shortS l := by
  have h : (shortF (shortS l)).length = (shortS l).length := shortI_fix (l.length + 1) l (by omega)
  show shortI ((shortS l).length + 1) (shortS l) = shortS l
  rw [shortI, if_pos h]
theorem shortS_last {l : List Step} (hn : NoMode l) (hf : ∀ s ∈ l, faultS s = 0) : lastS (shortS l) = lastS l := shortI_last _ l hn hf
theorem shortS_mem {l : List Step} : ∀ s ∈ shortS l, s ∈ l := shortI_mem _ l
theorem shortS_len (l : List Step) : (shortS l).length ≤ l.length := shortI_len _ l
/- ## The error of the absolute form -/
theorem fault_absStep {m : Mach} {s : Step} (h : faultS s = 0) : faultS (absStep m s) = 0 ∨ faultS (absStep m s) = 1 := by
  unfold faultS at h
  split at h
  · omega
  split at h
  · omega
  split at h
  · omega
  split at h
  · omega
  rename_i a1 a2 a3 a4
  obtain ⟨k, x, y, z, f, n⟩ := s
  simp only at a1 a2 a3 a4
  by_cases h3 : k = 3 ∨ k = 4
  · rw [show absStep m ⟨k, x, y, z, f, n⟩ = ⟨k, m.x, m.y, z, f, n⟩ from by unfold absStep; rw [if_pos h3]]
    unfold faultS
    simp only
    repeat' split
    all_goals first | exact .inl rfl | exact .inr rfl | (exfalso; omega)
  · by_cases h5 : k = 5
    · rw [show absStep m ⟨k, x, y, z, f, n⟩ = ⟨k, x, y, m.z, f, n⟩ from by unfold absStep; rw [if_neg h3, if_pos h5]]
      unfold faultS
      simp only
      repeat' split
      all_goals first | exact .inl rfl | exact .inr rfl | (exfalso; omega)
    · rw [show absStep m ⟨k, x, y, z, f, n⟩ = ⟨k, x, y, z, f, n⟩ from by unfold absStep; rw [if_neg h3, if_neg h5]]
      unfold faultS
      simp only
      repeat' split
      all_goals first | exact .inl rfl | exact .inr rfl | (exfalso; omega)
theorem firstF_one : ∀ (l : List Step), (∀ s ∈ l, faultS s = 0 ∨ faultS s = 1) → firstF l = 0 ∨ firstF l = 1
  | [], _ => .inl rfl
  | s :: l, h => by
    unfold firstF
    split
    · exact firstF_one l fun t ht => h t (List.mem_cons_of_mem _ ht)
    · exact h s (List.mem_cons_self ..)
theorem abs_faults : ∀ (l : List Step) (M : Mach), (∀ s ∈ l, faultS s = 0) → ∀ s ∈ absFrom M l, faultS s = 0 ∨ faultS s = 1
  | [], _, _, s, h => by cases h
  | t :: l, M, hf, s, h => by
    have hl : ∀ t ∈ l, faultS t = 0 := fun t ht => hf t (List.mem_cons_of_mem _ ht)
    unfold absFrom at h
    split at h
    · exact abs_faults l _ hl s h
    · rcases List.mem_cons.1 h with rfl | h
      · exact fault_absStep (hf t (List.mem_cons_self ..))
      · exact abs_faults l _ hl s h
theorem absF_one {l : List Step} (h : progF l = 0) : absF l = 0 ∨ absF l = 1 := by
  obtain ⟨h1, h2⟩ := (progF_zero l).1 h
  have := absFrom_len l Mach.zero
  unfold absF progF
  rw [if_neg (by rw [if_neg (by omega), (firstF_zero l).2 h2]; omega), if_neg (show ¬ 5000 < (absS l).length by unfold absS; omega)]
  exact firstF_one _ (abs_faults l _ h2)
theorem relStep_ok {m M : Mach} {s : Step} (h : s.ok) : (relStep m M s).ok := by
  obtain ⟨h1, h2, h3, h4, h5, h6⟩ := h
  unfold relStep
  split
  · exact ⟨h1, wrap_ink _, wrap_ink _, h4, h5, h6⟩
  · split
    · exact ⟨h1, h2, h3, wrap_ink _, h5, h6⟩
    · exact ⟨h1, h2, h3, h4, h5, h6⟩
theorem relFrom_ok : ∀ (l : List Step) (M : Mach), (∀ s ∈ l, s.ok) → ∀ s ∈ relFrom M l, s.ok
  | [], _, _, s, h => by cases h
  | t :: l, M, hl, s, h => by
    unfold relFrom at h
    rcases List.mem_append.1 h with h | h
    · unfold relE at h
      split at h
      · cases h
      · rw [List.mem_singleton.1 h]; exact relStep_ok (hl t (List.mem_cons_self ..))
    · exact relFrom_ok l _ (fun u hu => hl u (List.mem_cons_of_mem _ hu)) s h
theorem relL_ok {l : List Step} (hl : ∀ s ∈ l, s.ok) : ∀ s ∈ relL l, s.ok := fun s h => by
  unfold relL headR at h
  split at h
  · cases h
  · rcases List.mem_cons.1 h with rfl | h
    · unfold Step.ok in64; decide
    · exact relFrom_ok l _ hl s h
theorem relL_len (l : List Step) : (relL l).length ≤ l.length + 1 := by
  have h1 := headR_len (relFrom Mach.zero l)
  have h2 := relFrom_len l Mach.zero
  unfold relL; omega
end Go.Proofs.YtdmeohgojdfmoaaGreatDoor

/- The law FormsDoSame, walked. -/
namespace Go.Proofs.YtdmeohgojdfmoaaGreatDoor
open Go Go.RowKit
set_option maxRecDepth 100000
-- NEWM
theorem rd_dec_tf {P : Program} {N : Nat} {E : Env} {o : Oper} {F : Fm} {H : List OB} {p : Prop} {_ : Decidable p} (hp : p) (h : Rd P N E o F H (.c (.s (.bool (decide p))))) : Rd P N E o F H (.c (.s (.bool true))) := by
  rwa [decide_eq_true hp] at h
theorem law_forms (v : Value) (zs : List Int) (hs : StrOk zs) : ACalls Tryz.prog 8 [.c (.r v (zs.map fun z => [I z]))] [] fun u H => u = .c (B true) := by
  refine acalls_of (N := 131) Tryz.func8 rfl rfl (by simp) fun E hE => ?_
  refine WA ?_
  refine WA ?_
  refine WR ?_
  refine al_ef rfl (ef_callm false (fun _ => rightsteps_a 12 v zs _ hs (by omega) (by omega) (by omega) (by omega)) rfl .fn rfl (by decide) (by kernel_rfl) rfl rfl (fun _g => .cons (.p rfl) (.cons (.c rfl) .nil)) (fun _g => .cons (.c rfl) (.cons (.c rfl) .nil)) (by simp)) ?_
  rintro F1 H1 ⟨_, _, _, _, ⟨v1, l1, a1, rfl, hq, ha1, hb1, hp1, hok1, hln1⟩, hF, hH⟩
  injection hq with hq1 hq2; subst hq1; subst hq2
  (try simp only [nsl, Nat.reduceAdd, Nat.reduceLT, Nat.reduceSub] at hF); (try simp only [nsl, Nat.reduceAdd, Nat.reduceLT, Nat.reduceSub] at hH); subst hF; subst hH
  refine WE ?_
  obtain ⟨X, hX⟩ : ∃ W, W = (if absF l1 = 0 then absS l1 else []) := ⟨_, rfl⟩
  obtain ⟨eA, heA⟩ : ∃ W, W = absF l1 := ⟨_, rfl⟩
  obtain ⟨Y, hY⟩ : ∃ W, W = (if relF l1 = 0 then relL l1 else []) := ⟨_, rfl⟩
  obtain ⟨eR, heR⟩ : ∃ W, W = relF l1 := ⟨_, rfl⟩
  have hal := absFrom_len l1 Mach.zero
  have hrl := relL_len l1
  refine WR ?_
  refine al_ef rfl (ef_call0 false (fun _ => absolutex_a l1 v1 (by omega) hok1) rfl .fn rfl (by decide) (by kernel_rfl) rfl (fun _ => C0 rfl) (by simp)) ?_
  rintro _ _ ⟨_, _, _, ⟨vx, rfl, rfl⟩, hF, hH⟩
  rw [← hX, ← heA] at hF
  (try simp only [nsl, Nat.reduceAdd, Nat.reduceLT, Nat.reduceSub] at hF); (try simp only [nsl, Nat.reduceAdd, Nat.reduceLT, Nat.reduceSub] at hH); subst hF; subst hH
  refine WE ?_
  refine WR ?_
  refine al_ef rfl (ef_call0 false (fun _ => relative_a l1 v1 (by omega) hok1) rfl .fn rfl (by decide) (by kernel_rfl) rfl (fun _ => C0 rfl) (by simp)) ?_
  rintro _ _ ⟨_, _, _, ⟨vy, rfl, rfl⟩, hF, hH⟩
  rw [← hY, ← heR] at hF
  (try simp only [nsl, Nat.reduceAdd, Nat.reduceLT, Nat.reduceSub] at hF); (try simp only [nsl, Nat.reduceAdd, Nat.reduceLT, Nat.reduceSub] at hH); subst hF; subst hH
  refine WE ?_
  refine WA ?_
  refine aw_if rfl (fun hne => ?_) (fun h0 => ?_)
  · obtain rfl : eA = 1 := by have := absF_one hp1; omega
    refine WR ?_
    first | refine ZS ?_ | (refine G1 rfl ?_; refine al_ef rfl (ef_call0 false (fun _ => ready_a) rfl .fn rfl (by decide) (by kernel_rfl) rfl (fun _ => C0 rfl) (by simp)) ?_; rintro _ _ ⟨_, _, _, ⟨rfl, rfl⟩, hF, hH⟩; (try simp only [nsl, Nat.reduceAdd, Nat.reduceLT, Nat.reduceSub] at hF); (try simp only [nsl, Nat.reduceAdd, Nat.reduceLT, Nat.reduceSub] at hH); subst hF; subst hH) | skip
    refine WE ?_
    exact aret_1 [] _ rfl rfl rfl (by decide) (ZNK rfl) (fun _ => .nil) rfl
  have ha0 : absF l1 = 0 := by omega
  have hXs : X = absS l1 := by rw [hX, if_pos ha0]
  have hXp : progF X = 0 := by
    have h := ha0
    unfold absF at h
    rw [if_neg (by omega)] at h
    rw [hXs]; exact h
  have hXo : ∀ s ∈ X, s.ok := by rw [hXs]; exact absS_inn hok1
  have hXl : X.length ≤ l1.length := by rw [hXs]; exact hal
  have hXd : deedsL l1 = deedsL X := by rw [hXs]; exact same_abs l1
  have hXm : (lastS l1).abs = lastS X := by rw [hXs]; exact last_abs l1
  have hXn : NoMode X := by rw [hXs]; exact abs_nomode l1 _
  refine ZZ ?_
  refine WR ?_
  refine al_nil ?_
  refine aseq_n ?_
  refine aw_cut (fun F H => F = [(4, .c (prog_r v1 l1)), (5, .c (prog_r vx X))] ∧ H = []) ?_ ?_ wk_aw
  · refine aw_if rfl (fun hq => ?_) (fun hq => ?_)
    · have hr0 : relF l1 = 0 := by omega
      have hYs : Y = relL l1 := by rw [hY, if_pos hr0]
      have hYp : progF Y = 0 := by
        have h := hr0
        unfold relF at h
        rw [if_neg (by omega)] at h
        rw [hYs]; exact h
      have hYo : ∀ s ∈ Y, s.ok := by rw [hYs]; exact relL_ok hok1
      have hYl : Y.length ≤ l1.length + 1 := by rw [hYs]; exact hrl
      have hYx : absS Y = X := by rw [hYs, hXs]; exact abs_rel hok1
      have hYa : absF Y = 0 := by unfold absF; rw [if_neg (by omega), hYx]; exact hXp
      have hYd : deedsL l1 = deedsL Y := by rw [hYs]; exact same_rel hok1
      refine WR ?_
      refine al_ef rfl (ef_call0 false (fun _ => absolutex_a Y vy (by omega) hYo) rfl .fn rfl (by decide) (by kernel_rfl) rfl (fun _ => C0 rfl) (by simp)) ?_
      rintro _ _ ⟨_, _, _, ⟨vz, rfl, rfl⟩, hF, hH⟩
      rw [hYa, if_pos rfl, hYx] at hF
      (try simp only [nsl, Nat.reduceAdd, Nat.reduceLT, Nat.reduceSub] at hF); (try simp only [nsl, Nat.reduceAdd, Nat.reduceLT, Nat.reduceSub] at hH); subst hF; subst hH
      refine WE ?_
      refine WR ?_
      refine al_ef rfl (ef_call0 false (fun _ => same_a l1 Y v1 vy (by omega) (by omega) hok1 hYo) rfl .fn rfl (by decide) (by kernel_rfl) rfl (fun _ => C0 rfl) (by simp)) ?_
      rintro _ _ ⟨_, _, _, ⟨bs, es, rfl, rfl, hes, hbs⟩, hF, hH⟩
      obtain rfl : bs = true := hbs.2 ⟨hp1, hYp, hYd⟩
      obtain rfl : es = 0 := by rw [hes, if_neg (by omega)]; exact hYp
      (try simp only [nsl, Nat.reduceAdd, Nat.reduceLT, Nat.reduceSub] at hF); (try simp only [nsl, Nat.reduceAdd, Nat.reduceLT, Nat.reduceSub] at hH); subst hF; subst hH
      refine WE ?_
      refine WR ?_
      refine al_ef rfl (ef_call0 true (fun _ => errsp_a [0, 0] _ (by simp)) rfl .fn rfl (by decide) (by kernel_rfl) rfl (fun _g => .cons (.frz rfl rfl rfl rfl rfl) .nil) (fun _ _ _ _ ⟨hu, hH⟩ => by rw [hu, hH]; exact ⟨.c (.inl trivial), by simp⟩)) ?_
      rintro _ _ ⟨_, _, _, ⟨rfl, rfl⟩, hF, hH⟩
      rw [show firstK [0, 0] = 0 from rfl] at hF
      (try simp only [nsl, Nat.reduceAdd, Nat.reduceLT, Nat.reduceSub] at hF); (try simp only [nsl, Nat.reduceAdd, Nat.reduceLT, Nat.reduceSub] at hH); subst hF; subst hH
      refine WO ?_
      first | refine ZS ?_ | (refine G1 rfl ?_; refine al_ef rfl (ef_call0 false (fun _ => eqS_a X X vz vx (by omega) (by omega)) rfl .fn rfl (by decide) (by kernel_rfl) rfl (fun _ => C0 rfl) (by simp)) ?_; rintro _ _ ⟨_, _, _, ⟨bm, rfl, rfl, hbm⟩, hF, hH⟩; obtain rfl : bm = true := hbm.2 rfl; (try simp only [nsl, Nat.reduceAdd, Nat.reduceLT, Nat.reduceSub] at hF); (try simp only [nsl, Nat.reduceAdd, Nat.reduceLT, Nat.reduceSub] at hH); subst hF; subst hH) | skip
      refine WE ?_
      refine aw_cond_f rfl ?_
      refine ZZ ?_
      refine wk_of [] (fun _ => [(4, .c (prog_r v1 l1)), (5, .c (prog_r vx X))]) (fun _ => []) (by decide) (ZNL hE) ZCF (fun _ => .nil) (fun _ => ?_)
      exact ⟨rfl, rfl⟩
    · refine ZZ ?_
      refine wk_of [] (fun _ => [(4, .c (prog_r v1 l1)), (5, .c (prog_r vx X))]) (fun _ => []) (by decide) (ZNL hE) ZCF (fun _ => .nil) (fun _ => ?_)
      exact ⟨rfl, rfl⟩
  rintro F H ⟨rfl, rfl⟩
  have hXf := ((progF_zero X).1 hXp).2
  obtain ⟨S, hS⟩ : ∃ W, W = shortS X := ⟨_, rfl⟩
  have hSm : ∀ s ∈ S, s ∈ X := by rw [hS]; exact shortS_mem
  have hSl : S.length ≤ X.length := by rw [hS]; exact shortS_len X
  have hSo : ∀ s ∈ S, s.ok := fun s h => hXo s (hSm s h)
  have hSp : progF S = 0 := (progF_zero S).2 ⟨by have := ((progF_zero X).1 hXp).1; omega, fun s h => hXf s (hSm s h)⟩
  have hSa : absS S = S := abs_self S _ rfl fun s h => hXn s (hSm s h)
  have hSe : absF S = 0 := by unfold absF; rw [if_neg (by omega), hSa]; exact hSp
  have hSS : shortS (absS S) = S := by rw [hSa, hS]; exact shortS_fix X
  have hS1 : shortS (absS l1) = S := by rw [hS, hXs]
  obtain ⟨M, hM⟩ : ∃ W, W = lastS l1 := ⟨_, rfl⟩
  have hSn : M.abs = lastS S := by rw [hM, hXm, hS]; exact (shortS_last hXn hXf).symm
  have e1 : (S.map Step.row).length = S.length := by simp
  have e2 : (X.map Step.row).length = X.length := by simp
  refine WR ?_
  refine al_ef rfl (ef_call0 false (fun _ => same_a l1 X v1 vx (by omega) (by omega) hok1 hXo) rfl .fn rfl (by decide) (by kernel_rfl) rfl (fun _ => C0 rfl) (by simp)) ?_
  rintro _ _ ⟨_, _, _, ⟨bs, es, rfl, rfl, hes, hbs⟩, hF, hH⟩
  obtain rfl : bs = true := hbs.2 ⟨hp1, hXp, hXd⟩
  obtain rfl : es = 0 := by rw [hes, if_neg (by omega)]; exact hXp
  (try simp only [nsl, Nat.reduceAdd, Nat.reduceLT, Nat.reduceSub] at hF); (try simp only [nsl, Nat.reduceAdd, Nat.reduceLT, Nat.reduceSub] at hH); subst hF; subst hH
  refine WE ?_
  refine WR ?_
  refine al_ef rfl (ef_call0 false (fun _ => short_a l1 v1 (by omega) hok1) rfl .fn rfl (by decide) (by kernel_rfl) rfl (fun _ => C0 rfl) (by simp)) ?_
  rintro _ _ ⟨_, _, _, ⟨vs, rfl, rfl⟩, hF, hH⟩
  rw [ha0, if_pos rfl, hS1] at hF
  (try simp only [nsl, Nat.reduceAdd, Nat.reduceLT, Nat.reduceSub] at hF); (try simp only [nsl, Nat.reduceAdd, Nat.reduceLT, Nat.reduceSub] at hH); subst hF; subst hH
  refine WE ?_
  refine WR ?_
  refine al_ef rfl (ef_call0 false (fun _ => short_a S vs (by omega) hSo) rfl .fn rfl (by decide) (by kernel_rfl) rfl (fun _ => C0 rfl) (by simp)) ?_
  rintro _ _ ⟨_, _, _, ⟨vt, rfl, rfl⟩, hF, hH⟩
  rw [hSe, if_pos rfl, hSS] at hF
  (try simp only [nsl, Nat.reduceAdd, Nat.reduceLT, Nat.reduceSub] at hF); (try simp only [nsl, Nat.reduceAdd, Nat.reduceLT, Nat.reduceSub] at hH); subst hF; subst hH
  refine WE ?_
  refine WR ?_
  refine al_ef rfl (ef_call0 false (fun _ => last_a l1 v1 (by omega) hok1) rfl .fn rfl (by decide) (by kernel_rfl) rfl (fun _ => C0 rfl) (by simp)) ?_
  rintro _ _ ⟨_, _, _, ⟨rfl, rfl⟩, hF, hH⟩
  rw [hp1, if_pos rfl, ← hM] at hF
  (try simp only [nsl, Nat.reduceAdd, Nat.reduceLT, Nat.reduceSub] at hF); (try simp only [nsl, Nat.reduceAdd, Nat.reduceLT, Nat.reduceSub] at hH); subst hF; subst hH
  refine WE ?_
  refine WR ?_
  refine al_ef rfl (ef_call0 false (fun _ => last_a S vs (by omega) hSo) rfl .fn rfl (by decide) (by kernel_rfl) rfl (fun _ => C0 rfl) (by simp)) ?_
  rintro _ _ ⟨_, _, _, ⟨rfl, rfl⟩, hF, hH⟩
  rw [hSp, if_pos rfl, ← hSn] at hF
  (try simp only [nsl, Nat.reduceAdd, Nat.reduceLT, Nat.reduceSub] at hF); (try simp only [nsl, Nat.reduceAdd, Nat.reduceLT, Nat.reduceSub] at hH); subst hF; subst hH
  refine WE ?_
  refine WA ?_
  refine WR ?_
  refine al_ef rfl (ef_call0 true (fun _ => errsp_a [0, 0, 0, 0, 0] _ (by simp)) rfl .fn rfl (by decide) (by kernel_rfl) rfl (fun _g => .cons (.frz rfl rfl rfl rfl rfl) .nil) (fun _ _ _ _ ⟨hu, hH⟩ => by rw [hu, hH]; exact ⟨.c (.inl trivial), by simp⟩)) ?_
  rintro _ _ ⟨_, _, _, ⟨rfl, rfl⟩, hF, hH⟩
  rw [show firstK [0, 0, 0, 0, 0] = 0 from rfl] at hF
  (try simp only [nsl, Nat.reduceAdd, Nat.reduceLT, Nat.reduceSub] at hF); (try simp only [nsl, Nat.reduceAdd, Nat.reduceLT, Nat.reduceSub] at hH); subst hF; subst hH
  refine WO ?_
  first | refine ZS ?_ | (refine G1 rfl ?_; refine al_ef rfl (ef_call0 false (fun _ => eqS_a S S vs vt (by omega) (by omega)) rfl .fn rfl (by decide) (by kernel_rfl) rfl (fun _ => C0 rfl) (by simp)) ?_; rintro _ _ ⟨_, _, _, ⟨bm, rfl, rfl, hbm⟩, hF, hH⟩; obtain rfl : bm = true := hbm.2 rfl; (try simp only [nsl, Nat.reduceAdd, Nat.reduceLT, Nat.reduceSub] at hF); (try simp only [nsl, Nat.reduceAdd, Nat.reduceLT, Nat.reduceSub] at hH); subst hF; subst hH) | skip
  iterate 11 refine WX1 ?_
  first | refine ZP (rd_dec_tf (by simp) (rd_eqla60 rfl rfl rfl)) ?_ | refine ZS ?_
  refine WO ?_
  first | refine ZS ?_ | (refine G1 rfl ?_; refine al_ef rfl (ef_call0 false (fun _ => ready_a) rfl .fn rfl (by decide) (by kernel_rfl) rfl (fun _ => C0 rfl) (by simp)) ?_; rintro _ _ ⟨_, _, _, ⟨rfl, rfl⟩, hF, hH⟩; (try simp only [nsl, Nat.reduceAdd, Nat.reduceLT, Nat.reduceSub] at hF); (try simp only [nsl, Nat.reduceAdd, Nat.reduceLT, Nat.reduceSub] at hH); subst hF; subst hH) | skip
  refine WE ?_
  exact aret_1 [] _ rfl rfl rfl (by decide) (ZNK rfl) (fun _ => .nil) rfl
end Go.Proofs.YtdmeohgojdfmoaaGreatDoor
