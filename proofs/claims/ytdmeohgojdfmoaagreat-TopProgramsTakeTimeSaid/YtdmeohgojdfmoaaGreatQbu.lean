/- The law TopProgramsTakeTime, walked. -/
import Derived.Test.YtdmeohgojdfmoaaGreatQbe
import Derived.Test.YtdmeohgojdfmoaaGreatQbf
import Derived.Test.YtdmeohgojdfmoaaGreatQbh
import Derived.Test.YtdmeohgojdfmoaaGreatQbt
set_option linter.unusedSimpArgs false
set_option linter.unusedVariables false
/- The law TopProgramsTakeTime, walked. -/
namespace Go.Proofs.YtdmeohgojdfmoaaGreat
open Go Go.RowKit
set_option maxRecDepth 100000
-- NEWM
theorem flat_2t {K : CV → Prop} {x y : AV} (hx : FlatA K x) (hy : FlatA K y) : FlatA K (.t [x, y]) := .t fun z hz => by
  rcases List.mem_cons.1 hz with rfl | hz
  · exact hx
  · rw [List.mem_singleton.1 hz]; exact hy
theorem law_top (v : Value) (zs : List Int) (hs : StrOk zs) : ACalls Tryz.prog 3 [.c (.r v (zs.map fun z => [I z]))] [] fun u H => u = .c (B true) := by
  refine acalls_of (N := 142) Tryz.func3 rfl rfl (by simp) fun E hE => ?_
  refine WA ?_
  refine WA ?_
  refine WR ?_
  refine al_ef rfl (ef_callm false (fun _ => ahead_f v zs 0 hs (by omega) (by omega)) rfl .fn rfl (by decide) (by kernel_rfl) rfl rfl (fun _g => .cons (.p rfl) .nil) (fun _g => .cons (.c rfl) (.cons (.c rfl) .nil)) (by simp)) ?_
  rintro F1 H1 ⟨_, _, _, _, ⟨vp, pl, pb, ap, rfl, hq, hp1, hp2, hp3, hpf⟩, hF, hH⟩
  injection hq with hq1 hq2; subst hq1; subst hq2
  (try simp only [nsl, Nat.reduceAdd, Nat.reduceLT, Nat.reduceSub] at hF); (try simp only [nsl, Nat.reduceAdd, Nat.reduceLT, Nat.reduceSub] at hH); subst hF; subst hH
  refine WE ?_
  obtain ⟨L, hL⟩ : ∃ W, W = (if movF pl false 100 = 0 then legsPt pl false 100 else []) := ⟨_, rfl⟩
  obtain ⟨e, he⟩ : ∃ e, e = movF pl false 100 := ⟨_, rfl⟩
  refine WA ?_
  refine WR ?_
  refine al_ef rfl (ef_call0 false (fun _ => legs_a pl vp false 100) rfl .fn rfl (by decide) (by kernel_rfl) rfl (fun _ => C0 rfl) (by simp)) ?_
  rintro _ _ ⟨_, _, _, ⟨vl, rfl, rfl⟩, hF, hH⟩
  rw [← hL, ← he] at hF
  (try simp only [nsl, Nat.reduceAdd, Nat.reduceLT, Nat.reduceSub] at hF); (try simp only [nsl, Nat.reduceAdd, Nat.reduceLT, Nat.reduceSub] at hH); subst hF; subst hH
  refine WE ?_
  refine WA ?_
  refine aw_if rfl (fun hne => ?_) (fun h0 => ?_)
  · refine ZR ?_
    refine al_ef rfl (ef_call0 false (fun _ => h10_a) rfl .fn rfl (by decide) (by kernel_rfl) rfl (fun _ => C0 rfl) (by simp)) ?_
    rintro _ _ ⟨_, _, _, ⟨rfl, rfl⟩, hF, hH⟩
    (try simp only [nsl, Nat.reduceAdd, Nat.reduceLT, Nat.reduceSub] at hF); (try simp only [nsl, Nat.reduceAdd, Nat.reduceLT, Nat.reduceSub] at hH); subst hF; subst hH
    refine WE ?_
    exact aret_1 [] _ rfl rfl rfl (by decide) (ZNK rfl) (fun _ => .nil) rfl
  have hmv : movF pl false 100 = 0 := by omega
  rw [if_pos hmv] at hL
  obtain ⟨hpq, hdl⟩ := movF_ok hmv
  obtain ⟨hpf1, hpf2, hpf3⟩ := ptsF_ok (pathF_ok hpq).1
  obtain ⟨d1, -⟩ := difs_ok (pathF_ok hpq).1
  have hLl : 1 ≤ L.length ∧ L.length ≤ 500 := by rw [hL, legsPt, List.length_map]; omega
  have e1 : (L.map Leg.row).length = L.length := by simp
  have e2 : (pl.map Pt.row).length = pl.length := by simp
  refine ZZ ?_
  refine WA ?_
  refine aw_cond_f rfl ?_
  refine ZZ ?_
  refine WA ?_
  refine WA ?_
  refine aw_loopw (fun m F H => ∃ (k c : Nat), m + k = pl.length ∧ (topS (pl.take k)).length ≤ c ∧ F = [(5, .c (legs_r vl L)), (7, .o 0 0 (topS (pl.take k)).length c), (41, .c (pts_r vp pl)), (42, .c (I (pl.map Pt.row).length)), (43, .c (I k))] ∧ H = [.arr 36 6 c ((topS (pl.take k)).map Step.row)]) ?_ ?_
  · refine wk_of [some 2] (fun _ => [(5, .c (legs_r vl L)), (7, .o 0 0 (topS (pl.take 0)).length 1), (41, .c (pts_r vp pl)), (42, .c (I (pl.map Pt.row).length)), (43, .c (I (0 : Nat)))]) (fun _ => [.arr 36 6 1 ((topS (pl.take 0)).map Step.row)]) (by decide) (ZNL hE) ZCF ZCH (fun _ => ?_)
    exact ⟨pl.length, 0, 1, by omega, Nat.le_refl _, rfl, rfl⟩
  rintro m F H ⟨k, c, hk, hc0, rfl, rfl⟩
  obtain ⟨T, hT0⟩ : ∃ T, T = topS (pl.take k) := ⟨_, rfl⟩
  have htl := topS_len (pl.take k)
  have htk : (pl.take k).length ≤ 500 := by simp; omega
  rw [← hT0] at htl hc0 ⊢
  refine WA ?_
  refine aw_if rfl (fun hlt => ?_) (fun hge => ?_)
  · obtain ⟨p, hp⟩ : ∃ p, pl[k]? = some p := ⟨_, List.getElem?_eq_getElem (by omega)⟩
    have hrow : (pl.map Pt.row)[k]? = some [I p.x, I p.y] := by rw [List.getElem?_map, hp]; rfl
    rcases Nat.eq_zero_or_pos k with hk0 | hk0
    · subst hk0
      have hT : topS (pl.take (0 + 1)) = ((T ++ [spS 100000]) ++ [mvS p]) ++ [spS 100] := by rw [hT0, take_nextk hp]; rfl
      refine WA ?_
      refine WA ?_
      refine WA ?_
      refine aw_cond_t rfl ?_
      refine WR ?_
      refine al_ef rfl (Zapp (KA (t := 37) rfl)) ?_
      rintro _ _ ⟨_, cc, hcc, rfl, rfl⟩
      refine WE ?_
      refine aw_wk (wk_of (K := fun F H => F = [(5, .c (legs_r vl L)), (7, .o 0 0 (T ++ [(⟨6, 0, 0, 0, 0, 100000⟩ : Step)]).length cc), (8, .c (I (0 : Nat))), (9, .p 1 0 0), (10, .c (I 3)), (41, .c (pts_r vp pl)), (42, .c (I (pl.map Pt.row).length)), (43, .c (I (0 : Nat)))] ∧ H = [.arr 36 6 cc ((T ++ [(⟨6, 0, 0, 0, 0, 100000⟩ : Step)]).map Step.row), .box [.c (I p.x), .c (I p.y)]]) [some 0, some 1] (fun _ => [(5, .c (legs_r vl L)), (7, .o 0 0 (T ++ [(⟨6, 0, 0, 0, 0, 100000⟩ : Step)]).length cc), (8, .c (I (0 : Nat))), (9, .p 1 0 0), (10, .c (I 3)), (41, .c (pts_r vp pl)), (42, .c (I (pl.map Pt.row).length)), (43, .c (I (0 : Nat)))]) (fun _ => [.arr 36 6 cc ((T ++ [(⟨6, 0, 0, 0, 0, 100000⟩ : Step)]).map Step.row), .box [.c (I p.x), .c (I p.y)]]) (by decide) (ZNL hE) ZCF ZCH (fun _ => ⟨rfl, rfl⟩)) ?_
      rintro F H ⟨rfl, rfl⟩
      obtain ⟨T1, hT1⟩ : ∃ W, W = T ++ [(⟨6, 0, 0, 0, 0, 100000⟩ : Step)] := ⟨_, rfl⟩
      have lT1 : T1.length = (T).length + 1 := by rw [hT1]; simp
      rw [← hT1]
      refine WR ?_
      refine al_ef rfl (Zapp (KA (t := 37) rfl)) ?_
      rintro _ _ ⟨_, cc, hcc, rfl, rfl⟩
      refine WE ?_
      refine aw_wk (wk_of (K := fun F H => F = [(5, .c (legs_r vl L)), (7, .o 0 0 (T1 ++ [(⟨3, p.x, p.y, 0, 0, 0⟩ : Step)]).length cc), (8, .c (I (0 : Nat))), (9, .p 1 0 0), (10, .c (I 3)), (41, .c (pts_r vp pl)), (42, .c (I (pl.map Pt.row).length)), (43, .c (I (0 : Nat)))] ∧ H = [.arr 36 6 cc ((T1 ++ [(⟨3, p.x, p.y, 0, 0, 0⟩ : Step)]).map Step.row), .box [.c (I p.x), .c (I p.y)]]) [some 0, some 1] (fun _ => [(5, .c (legs_r vl L)), (7, .o 0 0 (T1 ++ [(⟨3, p.x, p.y, 0, 0, 0⟩ : Step)]).length cc), (8, .c (I (0 : Nat))), (9, .p 1 0 0), (10, .c (I 3)), (41, .c (pts_r vp pl)), (42, .c (I (pl.map Pt.row).length)), (43, .c (I (0 : Nat)))]) (fun _ => [.arr 36 6 cc ((T1 ++ [(⟨3, p.x, p.y, 0, 0, 0⟩ : Step)]).map Step.row), .box [.c (I p.x), .c (I p.y)]]) (by decide) (ZNL hE) ZCF ZCH (fun _ => ⟨rfl, rfl⟩)) ?_
      rintro F H ⟨rfl, rfl⟩
      obtain ⟨T2, hT2⟩ : ∃ W, W = T1 ++ [(⟨3, p.x, p.y, 0, 0, 0⟩ : Step)] := ⟨_, rfl⟩
      have lT2 : T2.length = (T1).length + 1 := by rw [hT2]; simp
      rw [← hT2]
      refine WA ?_
      refine aw_cond_t rfl ?_
      refine WR ?_
      refine al_ef rfl (Zapp (KA (t := 37) rfl)) ?_
      rintro _ _ ⟨_, cc, hcc, rfl, rfl⟩
      refine WE ?_
      refine WA ?_
      refine wk_of [some 0] (fun _ => [(5, .c (legs_r vl L)), (7, .o 0 0 (T2 ++ [(⟨6, 0, 0, 0, 0, 100⟩ : Step)]).length cc), (41, .c (pts_r vp pl)), (42, .c (I (pl.map Pt.row).length)), (43, .c (I (0 + 1 : Nat)))]) (fun _ => [.arr 36 6 cc ((T2 ++ [(⟨6, 0, 0, 0, 0, 100⟩ : Step)]).map Step.row)]) (by decide) (ZNL hE) ZCF ZCH (fun _ => ?_)
      have hT3 : topS (pl.take (0 + 1)) = T2 ++ [(⟨6, 0, 0, 0, 0, 100⟩ : Step)] := by rw [hT, hT2, hT1]; rfl
      rw [← hT3]
      exact ⟨m - 1, by omega, 1, cc, by omega, by rw [hT3]; simp; omega, rfl, rfl⟩
    · have hT : topS (pl.take (k + 1)) = T ++ [mvS p] := by rw [hT0, take_nextk hp, topS_snoc _ _ (fun h => by rcases List.take_eq_nil_iff.1 h with h | h; (omega); (subst h; cases hp))]
      refine WA ?_
      refine WA ?_
      refine WA ?_
      refine aw_cond_f rfl ?_
      refine ZZ ?_
      refine WR ?_
      refine al_ef rfl (Zapp (KA (t := 37) rfl)) ?_
      rintro _ _ ⟨_, cc, hcc, rfl, rfl⟩
      refine WE ?_
      refine aw_wk (wk_of (K := fun F H => F = [(5, .c (legs_r vl L)), (7, .o 0 0 (T ++ [(⟨3, p.x, p.y, 0, 0, 0⟩ : Step)]).length cc), (8, .c (I k)), (9, .p 1 0 0), (10, .c (I 3)), (41, .c (pts_r vp pl)), (42, .c (I (pl.map Pt.row).length)), (43, .c (I k))] ∧ H = [.arr 36 6 cc ((T ++ [(⟨3, p.x, p.y, 0, 0, 0⟩ : Step)]).map Step.row), .box [.c (I p.x), .c (I p.y)]]) [some 0, some 1] (fun _ => [(5, .c (legs_r vl L)), (7, .o 0 0 (T ++ [(⟨3, p.x, p.y, 0, 0, 0⟩ : Step)]).length cc), (8, .c (I k)), (9, .p 1 0 0), (10, .c (I 3)), (41, .c (pts_r vp pl)), (42, .c (I (pl.map Pt.row).length)), (43, .c (I k))]) (fun _ => [.arr 36 6 cc ((T ++ [(⟨3, p.x, p.y, 0, 0, 0⟩ : Step)]).map Step.row), .box [.c (I p.x), .c (I p.y)]]) (by decide) (ZNL hE) ZCF ZCH (fun _ => ⟨rfl, rfl⟩)) ?_
      rintro F H ⟨rfl, rfl⟩
      obtain ⟨T1, hT1⟩ : ∃ W, W = T ++ [(⟨3, p.x, p.y, 0, 0, 0⟩ : Step)] := ⟨_, rfl⟩
      have lT1 : T1.length = (T).length + 1 := by rw [hT1]; simp
      rw [← hT1]
      refine WA ?_
      refine aw_cond_f rfl ?_
      refine ZZ ?_
      refine WA ?_
      refine wk_of [some 0] (fun _ => [(5, .c (legs_r vl L)), (7, .o 0 0 T1.length cc), (41, .c (pts_r vp pl)), (42, .c (I (pl.map Pt.row).length)), (43, .c (I (k + 1 : Nat)))]) (fun _ => [.arr 36 6 cc (T1.map Step.row)]) (by decide) (ZNL hE) ZCF ZCH (fun _ => ?_)
      have hT3 : topS (pl.take (k + 1)) = T1 := by rw [hT, hT1]; rfl
      rw [← hT3]
      exact ⟨m - 1, by omega, k + 1, cc, by omega, by rw [hT3]; omega, rfl, rfl⟩
  obtain rfl : k = pl.length := by omega
  rw [List.take_length] at hT0
  refine ZZ ?_
  have hTl : 4 ≤ T.length ∧ T.length ≤ 600 := by
    rw [hT0]
    have := topS_len pl
    refine ⟨?_, by omega⟩
    cases pl with
    | nil => simp at hpf1
    | cons p r => simp [topS]
  have hTok : ∀ s ∈ T, s.ok := by rw [hT0]; exact topS_ok hpf3
  obtain ⟨hT0p, hT3p⟩ := topS_prog hpf2 hpf3
  have hdiff := top_diff hpf1 hpf2 hpf3
  rw [← hT0] at hT0p hT3p hdiff
  rw [← hL] at hdiff
  have hb1 := timeF_bnd hT0p
  have hb2 := timeF_bnd hT3p
  obtain ⟨t1, ht1'⟩ : ∃ W, W = timeF T := ⟨_, rfl⟩
  obtain ⟨t2, ht2'⟩ : ∃ W, W = timeF (T.take 3) := ⟨_, rfl⟩
  have ht1 := ht1'.symm
  have ht2 := ht2'.symm
  rw [ht1] at hdiff hb1
  rw [ht2] at hdiff hb2
  refine WR ?_
  refine al_ef rfl (ef_call0 true (fun g => time_a T (g (.o 0 0 T.length c)) (by omega) hTok) rfl .fn rfl (by decide) (by kernel_rfl) rfl (fun _ => .cons (.frz rfl rfl (by rw [List.drop_zero, List.take_of_length_le (by simp)]) (by simp) rfl) .nil) (fun _ _ _ _ ⟨hu, hH⟩ => by rw [hu, hH]; exact ⟨flat_2t (.c (.inl trivial)) (.c (.inl trivial)), by simp⟩)) ?_
  rintro _ _ ⟨_, _, _, ⟨rfl, rfl⟩, hF, hH⟩
  rw [ht1, hT0p] at hF
  (try simp only [nsl, Nat.reduceAdd, Nat.reduceLT, Nat.reduceSub] at hF); (try simp only [nsl, Nat.reduceAdd, Nat.reduceLT, Nat.reduceSub] at hH); subst hF; subst hH
  refine WE ?_
  refine ZR ?_
  refine WX1 ?_
  refine ZA (rd_slicex (l := 0) (h := 3) rfl (KE (t := 37) rfl) rfl rfl (.inl ⟨rfl, rfl⟩) (.inr ⟨_, _, _, rfl, rfl, rfl⟩) (by omega) (by omega) (by omega)) ?_
  refine al_ef rfl (ef_call0 true (fun g => time_a (T.take 3) (g (.o 0 0 3 c)) (by simp; omega) (fun s hs => hTok s (List.mem_of_mem_take hs))) rfl .fn rfl (by decide) (by kernel_rfl) rfl (fun _ => .cons (.frz rfl rfl (by rw [List.map_take]; rfl) (by simp; omega) rfl) .nil) (fun _ _ _ _ ⟨hu, hH⟩ => by rw [hu, hH]; exact ⟨flat_2t (.c (.inl trivial)) (.c (.inl trivial)), by simp⟩)) ?_
  rintro _ _ ⟨_, _, _, ⟨rfl, rfl⟩, hF, hH⟩
  rw [ht2, hT3p] at hF
  (try simp only [nsl, Nat.reduceAdd, Nat.reduceLT, Nat.reduceSub] at hF); (try simp only [nsl, Nat.reduceAdd, Nat.reduceLT, Nat.reduceSub] at hH); subst hF; subst hH
  refine WE ?_
  refine aw_wk (wk_of (K := fun F H => F = [(5, .c (legs_r vl L)), (11, .c (I t1)), (12, .c (I 0)), (13, .c (I t2)), (14, .c (I 0))] ∧ H = []) [] (fun _ => [(5, .c (legs_r vl L)), (11, .c (I t1)), (12, .c (I 0)), (13, .c (I t2)), (14, .c (I 0))]) (fun _ => []) (by decide) (ZNL hE) ZCF (fun _ => .nil) (fun _ => ⟨rfl, rfl⟩)) ?_
  rintro F H ⟨rfl, rfl⟩
  refine WR ?_
  refine al_ef rfl (ef_call [0] (fun _ => [.arr 3 1 1 [[I 100]]]) false (fun _ => repeatI_a 100 (L.length - 1) (by omega)) rfl .fn rfl (by decide) (by kernel_rfl) rfl (fun _ => .cons (.o rfl rfl) (.cons (.c (congrArg I (by omega))) .nil)) (by decide) (fun _ => .arr rfl rfl .nil) (by simp)) ?_
  rintro F1 H1 ⟨_, _, _, _, ⟨rfl, rfl⟩, hF, hH⟩
  (try simp only [List.set_cons_zero, List.set_cons_succ, updH, posOf, lentArr, killF, killO, killV, AV.has, AV.hasL, AV.emb, AV.embL, OB.emb, embB, List.filter_cons, List.filter_nil, List.getElem?_cons_zero, List.getElem?_cons_succ, List.getD_cons_zero, List.getD_cons_succ, List.drop_succ_cons, List.drop_zero, List.drop_nil, List.contains_cons, List.contains_nil, Nat.reduceBEq, Nat.reduceEqDiff, beq_self_eq_true, Bool.or_false, Bool.false_or, Bool.or_true, Bool.true_or, Bool.false_eq_true, Option.map_some, Option.map_none, List.map_cons, List.map_nil, List.cons_append, List.nil_append, List.append_nil, List.length_cons, List.length_nil, Nat.reduceAdd, Nat.reduceLT, Nat.reduceSub, if_true, if_false, Nat.zero_add, Nat.add_zero, Nat.sub_zero, Nat.lt_irrefl, Nat.not_lt_zero, Nat.zero_lt_one, Nat.lt_add_one] at hF); (try simp only [List.set_cons_zero, List.set_cons_succ, updH, posOf, lentArr, killF, killO, killV, AV.has, AV.hasL, AV.emb, AV.embL, OB.emb, embB, List.filter_cons, List.filter_nil, List.getElem?_cons_zero, List.getElem?_cons_succ, List.getD_cons_zero, List.getD_cons_succ, List.drop_succ_cons, List.drop_zero, List.drop_nil, List.contains_cons, List.contains_nil, Nat.reduceBEq, Nat.reduceEqDiff, beq_self_eq_true, Bool.or_false, Bool.false_or, Bool.or_true, Bool.true_or, Bool.false_eq_true, Option.map_some, Option.map_none, List.map_cons, List.map_nil, List.cons_append, List.nil_append, List.append_nil, List.length_cons, List.length_nil, Nat.reduceAdd, Nat.reduceLT, Nat.reduceSub, if_true, if_false, Nat.zero_add, Nat.add_zero, Nat.sub_zero, Nat.lt_irrefl, Nat.not_lt_zero, Nat.zero_lt_one, Nat.lt_add_one] at hH); subst hF; subst hH
  refine WE ?_
  obtain ⟨Cn, hCn⟩ : ∃ W, W = List.replicate (L.length - 1) (100 : Int) := ⟨_, rfl⟩
  have hCl : Cn.length = L.length - 1 := by rw [hCn]; simp
  have hCm : List.replicate (L.length - 1) [I 100] = Cn.map fun z => [I z] := by rw [hCn]; simp
  obtain ⟨hR, hlim⟩ := legs_right hmv
  rw [← hL] at hR hlim
  rw [← hCn] at hR
  have hf0 : faultL L Cn 10000000 = 0 := faultL_zero hR (by decide)
  obtain ⟨s1, s2, s3, s4⟩ := times_sum hR hlim (by omega) L.length (Nat.le_refl _)
  rw [List.take_length] at s1 s3 s4
  rw [List.take_of_length_le (by simp [timesS, upto])] at s1 s2
  obtain ⟨S, hS⟩ : ∃ W, W = sumW (timesS L Cn 10000000) := ⟨_, rfl⟩
  rw [← hS] at s1 s2
  rw [hCm, ← hCl]
  refine aw_wk (wk_of (K := fun F H => ∃ vn, F = [(5, .c (legs_r vl L)), (11, .c (I t1)), (12, .c (I 0)), (13, .c (I t2)), (14, .c (I 0)), (15, .c (ints_r vn Cn))] ∧ H = []) [] (fun g => [(5, .c (legs_r vl L)), (11, .c (I t1)), (12, .c (I 0)), (13, .c (I t2)), (14, .c (I 0)), (15, .c (ints_r (g (.o 1 0 Cn.length Cn.length)) Cn))]) (fun _ => []) (by decide) (ZNL hE) (fun _g => .cons rfl (.c rfl) (.cons rfl (.c rfl) (.cons rfl (.c rfl) (.cons rfl (.c rfl) (.cons rfl (.c rfl) (.cons rfl (.frz rfl rfl (by rw [List.drop_zero, List.take_of_length_le (by simp)]) (by simp) rfl) .nil)))))) (fun _ => .nil) (fun _ => ⟨_, rfl, rfl⟩)) ?_
  rintro F H ⟨vn, rfl, rfl⟩
  refine WR ?_
  refine al_ef rfl (ef_call0 false (fun _ => total_a L Cn 10000000 vl vn (by omega) (by omega)) rfl .fn rfl (by decide) (by kernel_rfl) rfl (fun _ => C0 rfl) (by simp)) ?_
  rintro _ _ ⟨_, _, _, ⟨rfl, rfl⟩, hF, hH⟩
  rw [hf0, if_pos rfl, ← hS] at hF
  (try simp only [nsl, Nat.reduceAdd, Nat.reduceLT, Nat.reduceSub] at hF); (try simp only [nsl, Nat.reduceAdd, Nat.reduceLT, Nat.reduceSub] at hH); subst hF; subst hH
  refine WE ?_
  refine WA ?_
  refine aw_cond_f rfl ?_
  refine ZZ ?_
  refine WA ?_
  refine WA ?_
  refine aw_loopw (fun m F H => ∃ (k : Nat), m + k = L.length ∧ F = [(5, .c (legs_r vl L)), (11, .c (I t1)), (13, .c (I t2)), (16, .c (I S)), (18, .c (I (longL (L.take k)))), (102, .c (legs_r vl L)), (103, .c (I (L.map Leg.row).length)), (104, .c (I k))] ∧ H = []) ?_ ?_
  · refine wk_of [] (fun _ => [(5, .c (legs_r vl L)), (11, .c (I t1)), (13, .c (I t2)), (16, .c (I S)), (18, .c (I (longL (L.take 0)))), (102, .c (legs_r vl L)), (103, .c (I (L.map Leg.row).length)), (104, .c (I (0 : Nat)))]) (fun _ => _) (by decide) (ZNL hE) ZCF (fun _ => .nil) (fun _ => ?_)
    exact ⟨L.length, 0, by omega, rfl, rfl⟩
  rintro m F H ⟨k, hk2, rfl, rfl⟩
  refine WA ?_
  refine aw_if rfl (fun hlt => ?_) (fun hge2 => ?_)
  · obtain ⟨x, hx⟩ : ∃ x, L[k]? = some x := ⟨_, List.getElem?_eq_getElem (by omega)⟩
    have hrow : (L.map Leg.row)[k]? = some [I x.long, I x.limit] := by rw [List.getElem?_map, hx]; rfl
    obtain ⟨-, -, q3, q4⟩ := times_sum hR hlim (by omega) k (by omega)
    obtain ⟨hx1, hx2, hx3, hx4⟩ := hR.legs x (List.mem_of_getElem? hx)
    have hnx := longL_next hx
    obtain ⟨lk, hlk⟩ : ∃ W, W = longL (L.take k) := ⟨_, rfl⟩
    rw [← hlk] at q3 q4 hnx ⊢
    refine WA ?_
    refine WA ?_
    refine WA ?_
    refine wk_of [] (fun _ => [(5, .c (legs_r vl L)), (11, .c (I t1)), (13, .c (I t2)), (16, .c (I S)), (18, .c (I (lk + x.long))), (102, .c (legs_r vl L)), (103, .c (I (L.map Leg.row).length)), (104, .c (I (k + 1 : Nat)))]) (fun _ => _) (by decide) (ZNL hE) ZCF (fun _ => .nil) (fun _ => ?_)
    exact ⟨m - 1, by omega, k + 1, by omega, by rw [hnx], rfl⟩
  obtain rfl : k = L.length := by omega
  rw [List.take_length]
  obtain ⟨lk, hlk⟩ : ∃ W, W = longL L := ⟨_, rfl⟩
  rw [← hlk] at s1 s3 s4 hdiff ⊢
  refine ZZ ?_
  refine WR ?_
  first | refine ZS ?_ | (refine G1 rfl ?_; refine al_ef rfl (ef_call0 false (fun _ => h10_a) rfl .fn rfl (by decide) (by kernel_rfl) rfl (fun _ => C0 rfl) (by simp)) ?_; rintro _ _ ⟨_, _, _, ⟨rfl, rfl⟩, hF, hH⟩; (try simp only [nsl, Nat.reduceAdd, Nat.reduceLT, Nat.reduceSub] at hF); (try simp only [nsl, Nat.reduceAdd, Nat.reduceLT, Nat.reduceSub] at hH); subst hF; subst hH) | skip
  refine WE ?_
  exact aret_1 [] _ rfl rfl rfl (by decide) (ZNK rfl) (fun _ => .nil) rfl
end Go.Proofs.YtdmeohgojdfmoaaGreat
