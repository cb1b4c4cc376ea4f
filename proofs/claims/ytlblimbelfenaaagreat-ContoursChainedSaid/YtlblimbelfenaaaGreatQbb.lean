/- Cuts: the program's and the reference's, by value; planes of the stream. -/
import Derived.Test.YtlblimbelfenaaaGreatQaz
import Derived.Test.YtlblimbelfenaaaGreatQba
set_option linter.unusedSimpArgs false
set_option linter.unusedVariables false
/- Cuts: the program's and the reference's, by value; planes of the stream. -/
-- NEWM
namespace Go.Proofs.YtlblimbelfenaaaGreat
open Go Go.RowKit
set_option maxRecDepth 100000
/-- slices.SortFunc of sides, by a function that orders them. -/
theorem sortY_v (g : FuncId) (hg : okFn Tryz.prog g = true) (hc : ∀ a b : Sid2, ACalls Tryz.prog g [.a (a.row.map .c), .a (b.row.map .c)] [] fun u H => u = .c (I (sidC a b)) ∧ H = []) (l : List Sid2) (c : Nat) (hl : l.length ≤ 1000000) :
    ACallsX true Tryz.prog 72 [.o 0 0 l.length c, .f (.func g) []] [.arr 70 2 c (sR l)] fun u H => u = .t [] ∧ H = [.arr 70 2 c (sR (srtS l))] := by
  have h := acalls_sort sortSideL (k := 2) (fun w => Tryz.isAgg70 w) (fun w => Tryz.sizeOf70 w) (fun x => ∃ s : Sid2, x = s.row) (fun x y => sidC (sidOf x) (sidOf y)) (g := g) hg
    (by rintro _ ⟨s, rfl⟩; rw [sidC_lt]; omega)
    (by rintro _ _ _ ⟨a, rfl⟩ ⟨b, rfl⟩ ⟨c, rfl⟩; simp only [sidC_lt, sidOf_row]; omega)
    (by rintro _ _ _ ⟨a, rfl⟩ ⟨b, rfl⟩ ⟨c, rfl⟩; simp only [sidC_lt, sidOf_row]; omega)
    (by rintro _ _ ⟨a, rfl⟩ ⟨b, rfl⟩; exact hc a b)
    (sR l) (by intro r hr; obtain ⟨s, _, rfl⟩ := List.mem_map.1 hr; exact ⟨s, rfl⟩) (by simp; omega) (e := 70) (cap := c) (n := l.length) (c := c) (pn := true) (by simp)
  refine ACallsX.mono h fun u H => ?_
  rintro ⟨rows', rfl, rfl, hp, hs⟩
  have h2 := hp.map sidOf
  rw [sR, List.map_map, show (sidOf ∘ Sid2.row) = id from funext fun s => rfl, List.map_id] at h2
  have h3 : (rows'.map sidOf).Pairwise leS := by
    rw [List.pairwise_map]
    refine hs.imp fun {x y} h => ?_
    rw [sidC_lt] at h
    unfold leS
    omega
  have h4 := srtS_is h2 h3
  refine ⟨rfl, ?_⟩
  congr 2
  rw [← h4, sR, List.map_map]
  refine (List.map_id _).symm.trans (List.map_congr_left fun r hr => ?_)
  obtain ⟨s, _, rfl⟩ := List.mem_map.1 (hp.subset hr)
  rfl
theorem srtS_len (l : List Sid2) : (srtS l).length = l.length := (srtS_perm l).length_eq
theorem sd_take {S : List Seg5} {k : Nat} {g : Seg5} (h : S[k]? = some g) : (S.take (k + 1)).flatMap (fun g => [g.fr, g.to]) = (S.take k).flatMap (fun g => [g.fr, g.to]) ++ [g.fr, g.to] := by
  rw [List.take_add_one, h, List.flatMap_append]; simp
theorem pltF_ok {V : List Vec3} {Fs : List Fac3} {z : Int} (h : pltF V Fs [z] = 0) : MOk V Fs ∧ (-100000 ≤ z ∧ z ≤ 100000) := by
  unfold pltF at h
  split at h
  · contradiction
  · rename_i h1
    refine ⟨mok_of (by omega), ?_⟩
    unfold plnF at h
    split at h
    · cases h
    · rename_i h2
      simp [farI] at h2
      omega
def cutP (V : List Vec3) (Fs : List Fac3) (z : Int) : List Cut6 × Int := if pltF V Fs [z] ≠ 0 then ([], pltF V Fs [z]) else (cutL V Fs z, 0)
set_option maxHeartbeats 8000000 in
theorem cuts_p (v w : Value) (V : List Vec3) (Fs : List Fac3) (z : Int) (hVl : V.length ≤ 1000000) (hFl : Fs.length ≤ 1000000) : ACalls Tryz.prog 19 [mshA v w V Fs, .c (I z)] [] fun u H => ∃ q, u = .t [.c (.r q ((cutP V Fs z).1.map Cut6.row)), .c (I (cutP V Fs z).2)] ∧ H = [] := by
  refine acalls_of (N := 54) Tryz.func19 rfl rfl (by simp) fun E hE => ?_
  refine WA ?_
  refine WR ?_
  refine al_ef rfl (ef_call0 true (fun g => sfault_v v w (g (.o 1 0 1 1)) V Fs [z] hVl hFl (by simp)) rfl .fn rfl (by decide) (by kernel_rfl) rfl (fun _ => .cons (.aL (C0 rfl)) (.cons (.frz rfl rfl rfl rfl rfl) .nil)) (fun _ _ _ _ ⟨hu, hH⟩ => by rw [hu, hH]; exact ⟨.c (.inl trivial), by simp⟩)) ?_
  rintro _ _ ⟨_, _, _, ⟨rfl, rfl⟩, hF, hH⟩
  (try simp only [nsl, Nat.reduceAdd, Nat.reduceLT, Nat.reduceSub] at hF); (try simp only [nsl, Nat.reduceAdd, Nat.reduceLT, Nat.reduceSub] at hH); subst hF; subst hH
  refine WE ?_
  refine WA ?_
  refine aw_if rfl (fun h0 => ?_) (fun h0 => ?_)
  · refine WA ?_
    exact aret_2 [] _ rfl rfl rfl rfl rfl (by decide) (ZNK rfl) (fun _ => .nil) ⟨_, by rw [cutP, if_pos h0]; rfl, rfl⟩
  obtain ⟨hM, hz⟩ := pltF_ok (show pltF V Fs [z] = 0 by omega)
  have e0 : cutP V Fs z = (cutL V Fs z, 0) := by rw [cutP, if_neg h0]
  have hlf := hM.lf
  refine ZZ ?_
  refine WA ?_
  refine WR ?_
  refine al_ef rfl (ef_call0 false (fun _ => segments_p v w V Fs z hM) rfl .fn rfl (by decide) (by kernel_rfl) rfl (fun _ => C0 rfl) (by simp)) ?_
  rintro _ _ ⟨_, _, _, ⟨q, rfl, rfl⟩, hF, hH⟩
  (try simp only [nsl, Nat.reduceAdd, Nat.reduceLT, Nat.reduceSub] at hF); (try simp only [nsl, Nat.reduceAdd, Nat.reduceLT, Nat.reduceSub] at hH); subst hF; subst hH
  refine WE ?_
  have hsd : sdL V Fs z = (sgL V Fs z).flatMap fun g => [g.fr, g.to] := rfl
  have hsl := sgL_len V Fs z
  have hcu : ∀ s ∈ sdL V Fs z, Cuts' V z s := fun s hs => sdL_cuts hM hs
  have hcl : cutL V Fs z = (compG (srtS (sdL V Fs z))).map (cutV V z) := rfl
  have hdl := sdL_len V Fs z
  generalize sgL V Fs z = S at hsd hsl ⊢
  have e5 : (S.map Seg5.row).length = S.length := by simp
  refine aw_loopw (fun m F H => ∃ (k c : Nat) (L : List Sid2), m + k = S.length ∧ L.length = 2 * k ∧ L.length ≤ c ∧ L = (S.take k).flatMap (fun g => [g.fr, g.to]) ∧ F = [(1, .c (I z)), (2, .p 0 0 0), (7, .o 1 0 L.length c), (22, .c (.r q (S.map Seg5.row))), (23, .c (I (S.map Seg5.row).length)), (24, .c (I k))] ∧ H = [mBox v w V (fR Fs), .arr 70 2 c (sR L)]) ?_ ?_
  · refine wk_of [some 0, none] (fun _ => [(1, .c (I z)), (2, .p 0 0 0), (7, .o 1 0 0 0), (22, .c (.r q (S.map Seg5.row))), (23, .c (I (S.map Seg5.row).length)), (24, .c (I (0 : Nat)))]) (fun _ => [mBox v w V (fR Fs), .arr 70 2 0 []]) (by decide) (ZNL hE) ZCF ZCH (fun _ => ?_)
    exact ⟨S.length, 0, 0, [], by omega, rfl, by simp, rfl, rfl, rfl⟩
  rintro m F H ⟨k, c, L, hk, hLk, hcap, hLe, rfl, rfl⟩
  refine WA ?_
  refine aw_if rfl (fun hlt => ?_) (fun hge => ?_)
  · obtain ⟨g, hg⟩ : ∃ z, S[k]? = some z := ⟨_, List.getElem?_eq_getElem (by omega)⟩
    have hn := sd_take hg
    rw [← hLe] at hn
    obtain ⟨gi, ⟨g1, g2⟩, ⟨g3, g4⟩⟩ := g
    have hrow : (S.map Seg5.row)[k]? = some [I gi, I g1, I g2, I g3, I g4] := by rw [List.getElem?_map, hg]; rfl
    refine WA ?_
    refine WR ?_
    refine al_ef rfl (Zapp (KA (t := 57) rfl)) ?_
    rintro _ _ ⟨_, cc, hcc, rfl, rfl⟩
    refine WE ?_
    refine WA ?_
    refine wk_of [some 0, some 1] (fun _ => [(1, .c (I z)), (2, .p 0 0 0), (7, .o 1 0 (L ++ [(⟨g1, g2⟩ : Sid2), ⟨g3, g4⟩]).length cc), (22, .c (.r q (S.map Seg5.row))), (23, .c (I (S.map Seg5.row).length)), (24, .c (I (k + 1 : Nat)))]) (fun _ => _) (by decide) (ZNL hE) ZCF ZCH (fun _ => ?_)
    exact ⟨m - 1, by omega, k + 1, cc, L ++ [⟨g1, g2⟩, ⟨g3, g4⟩], by omega, by simp; omega, by simp; omega, hn.symm, rfl, by simp [sR]⟩
  obtain rfl : k = S.length := by omega
  rw [List.take_of_length_le (Nat.le_refl _), ← hsd] at hLe
  rw [← hLe] at hcu hcl hdl
  clear hLe hsd
  refine ZZ ?_
  refine WR ?_
  refine al_ef rfl (ef_callp [1] (fun _ => [.arr 70 2 c (sR L)]) false (fun _ => sortY_v 73 (by kernel_rfl) cmpS_v L c (by omega)) rfl .fn rfl (by decide) (by kernel_rfl) rfl ZCH (by decide) (fun _ => .arr rfl rfl .nil) (by simp)) ?_
  rintro F1 H1 ⟨_, _, _, _, ⟨rfl, rfl⟩, hF, hH⟩
  rw [killF_nil] at hF; (try simp only [List.set_cons_zero, List.set_cons_succ, updH, posOf, lentArr, killF, killO, killV, AV.has, AV.hasL, AV.emb, AV.embL, OB.emb, embB, List.filter_cons, List.filter_nil, List.getElem?_cons_zero, List.getElem?_cons_succ, List.getD_cons_zero, List.getD_cons_succ, List.drop_succ_cons, List.drop_zero, List.drop_nil, List.contains_cons, List.contains_nil, Nat.reduceBEq, Nat.reduceEqDiff, beq_self_eq_true, Bool.or_false, Bool.false_or, Bool.or_true, Bool.true_or, Bool.false_eq_true, Option.map_some, Option.map_none, List.map_cons, List.map_nil, List.cons_append, List.nil_append, List.append_nil, List.length_cons, List.length_nil, Nat.reduceAdd, Nat.reduceLT, Nat.reduceSub, if_true, if_false, Nat.zero_add, Nat.add_zero, Nat.sub_zero, Nat.lt_irrefl, Nat.not_lt_zero, Nat.zero_lt_one, Nat.lt_add_one] at hF); (try simp only [List.set_cons_zero, List.set_cons_succ, updH, posOf, lentArr, killF, killO, killV, AV.has, AV.hasL, AV.emb, AV.embL, OB.emb, embB, List.filter_cons, List.filter_nil, List.getElem?_cons_zero, List.getElem?_cons_succ, List.getD_cons_zero, List.getD_cons_succ, List.drop_succ_cons, List.drop_zero, List.drop_nil, List.contains_cons, List.contains_nil, Nat.reduceBEq, Nat.reduceEqDiff, beq_self_eq_true, Bool.or_false, Bool.false_or, Bool.or_true, Bool.true_or, Bool.false_eq_true, Option.map_some, Option.map_none, List.map_cons, List.map_nil, List.cons_append, List.nil_append, List.append_nil, List.length_cons, List.length_nil, Nat.reduceAdd, Nat.reduceLT, Nat.reduceSub, if_true, if_false, Nat.zero_add, Nat.add_zero, Nat.sub_zero, Nat.lt_irrefl, Nat.not_lt_zero, Nat.zero_lt_one, Nat.lt_add_one] at hH); subst hF; subst hH
  refine WE ?_
  refine WA ?_
  have hsl0 := srtS_len L
  refine WR ?_
  refine al_ef rfl (ef_call [1] (fun _ => [.arr 70 2 c (sR (srtS L))]) false (fun _ => compactS_v (srtS L) c (by omega) (by omega)) rfl .fn rfl (by decide) (by kernel_rfl) rfl (fun _ => .cons (.o rfl (by omega)) .nil) (by decide) ZCH (by simp)) ?_
  rintro F1 H1 ⟨_, _, _, _, ⟨rfl, rfl⟩, hF, hH⟩
  (try simp only [List.set_cons_zero, List.set_cons_succ, updH, posOf, lentArr, killF, killO, killV, AV.has, AV.hasL, AV.emb, AV.embL, OB.emb, embB, List.filter_cons, List.filter_nil, List.getElem?_cons_zero, List.getElem?_cons_succ, List.getD_cons_zero, List.getD_cons_succ, List.drop_succ_cons, List.drop_zero, List.drop_nil, List.contains_cons, List.contains_nil, Nat.reduceBEq, Nat.reduceEqDiff, beq_self_eq_true, Bool.or_false, Bool.false_or, Bool.or_true, Bool.true_or, Bool.false_eq_true, Option.map_some, Option.map_none, List.map_cons, List.map_nil, List.cons_append, List.nil_append, List.append_nil, List.length_cons, List.length_nil, Nat.reduceAdd, Nat.reduceLT, Nat.reduceSub, if_true, if_false, Nat.zero_add, Nat.add_zero, Nat.sub_zero, Nat.lt_irrefl, Nat.not_lt_zero, Nat.zero_lt_one, Nat.lt_add_one] at hF); (try simp only [List.set_cons_zero, List.set_cons_succ, updH, posOf, lentArr, killF, killO, killV, AV.has, AV.hasL, AV.emb, AV.embL, OB.emb, embB, List.filter_cons, List.filter_nil, List.getElem?_cons_zero, List.getElem?_cons_succ, List.getD_cons_zero, List.getD_cons_succ, List.drop_succ_cons, List.drop_zero, List.drop_nil, List.contains_cons, List.contains_nil, Nat.reduceBEq, Nat.reduceEqDiff, beq_self_eq_true, Bool.or_false, Bool.false_or, Bool.or_true, Bool.true_or, Bool.false_eq_true, Option.map_some, Option.map_none, List.map_cons, List.map_nil, List.cons_append, List.nil_append, List.append_nil, List.length_cons, List.length_nil, Nat.reduceAdd, Nat.reduceLT, Nat.reduceSub, if_true, if_false, Nat.zero_add, Nat.add_zero, Nat.sub_zero, Nat.lt_irrefl, Nat.not_lt_zero, Nat.zero_lt_one, Nat.lt_add_one] at hH); subst hF; subst hH
  refine WE ?_
  have hsln := srtS_len L
  have hcu2 : ∀ s ∈ compG (srtS L), Cuts' V z s := fun s hs => hcu s ((srtS_perm L).subset (compG_mem.1 hs))
  have hgl := compG_len (srtS L)
  generalize compG (srtS L) = G at hcl hcu2 hgl ⊢
  have eG : (sR G).length = G.length := by simp
  refine aw_loopw (fun m F H => ∃ (j c2 : Nat) (O : List Cut6), m + j = G.length ∧ O.length = j ∧ O = (G.take j).map (cutV V z) ∧ F = [(1, .c (I z)), (2, .p 0 0 0), (10, .o 2 0 O.length c2), (39, .o 1 0 G.length c), (40, .c (I G.length)), (41, .c (I j))] ∧ H = [mBox v w V (fR Fs), .arr 70 2 c (sR G), .arr 74 6 c2 (O.map Cut6.row)]) ?_ ?_
  · refine wk_of [some 0, some 1, none] (fun _ => [(1, .c (I z)), (2, .p 0 0 0), (10, .o 2 0 0 0), (39, .o 1 0 G.length c), (40, .c (I G.length)), (41, .c (I (0 : Nat)))]) (fun _ => [mBox v w V (fR Fs), .arr 70 2 c (sR G), .arr 74 6 0 []]) (by decide) (ZNL hE) ZCF ZCH (fun _ => ?_)
    exact ⟨G.length, 0, 0, [], by omega, rfl, rfl, rfl, rfl⟩
  rintro m F H ⟨j, c2, O, hj, hOj, hOe, rfl, rfl⟩
  refine WA ?_
  refine aw_if rfl (fun hlt => ?_) (fun hge => ?_)
  · obtain ⟨s, hs⟩ : ∃ z, G[j]? = some z := ⟨_, List.getElem?_eq_getElem (by omega)⟩
    have hcs := hcu2 s (List.mem_of_getElem? hs)
    have hn : O ++ [cutV V z s] = (G.take (j + 1)).map (cutV V z) := by rw [List.take_add_one, hs, List.map_append, ← hOe]; rfl
    obtain ⟨sf, st⟩ := s
    have hrow0 : (sR G)[0 + j]? = some [I sf, I st] := by rw [Nat.zero_add, List.getElem?_map, hs]; rfl
    refine WA ?_
    refine WR ?_
    refine al_ef rfl (ef_call0 false (fun _ => cut_p v w V Fs z ⟨sf, st⟩ hM hcs hz) rfl .fn rfl (by decide) (by kernel_rfl) rfl (fun _ => C0 rfl) (by simp)) ?_
    rintro _ _ ⟨_, _, _, ⟨rfl, rfl⟩, hF, hH⟩
    (try simp only [nsl, Nat.reduceAdd, Nat.reduceLT, Nat.reduceSub] at hF); (try simp only [nsl, Nat.reduceAdd, Nat.reduceLT, Nat.reduceSub] at hH); subst hF; subst hH
    refine WO ?_
    refine al_ef rfl (Zapp (KA (t := 47) rfl)) ?_
    rintro _ _ ⟨_, cc, hcc, rfl, rfl⟩
    refine WE ?_
    refine WA ?_
    refine wk_of [some 0, some 1, some 2] (fun _ => [(1, .c (I z)), (2, .p 0 0 0), (10, .o 2 0 (O ++ [cutV V z ⟨sf, st⟩]).length cc), (39, .o 1 0 G.length c), (40, .c (I G.length)), (41, .c (I (j + 1 : Nat)))]) (fun _ => _) (by decide) (ZNL hE) ZCF ZCH (fun _ => ?_)
    exact ⟨m - 1, by omega, j + 1, cc, O ++ [cutV V z ⟨sf, st⟩], by omega, by simp; omega, hn, rfl, by simp⟩
  obtain rfl : j = G.length := by omega
  rw [List.take_of_length_le (Nat.le_refl _), ← hcl] at hOe
  refine ZZ ?_
  refine WA ?_
  exact aret_f2 [] _ rfl rfl rfl rfl rfl rfl (by rw [List.drop_zero, List.take_of_length_le (by simp)]) (by simp) rfl (by decide) (ZNK rfl) (fun _ => .nil) (fun q => ⟨q, by rw [e0, hOe], rfl⟩)
set_option maxHeartbeats 8000000 in
theorem cuts_r (v w : Value) (V : List Vec3) (Fs : List Fac3) (z : Int) (hM : MOk V Fs) (hz : -100000 ≤ z ∧ z ≤ 100000) : ACalls Tryz.prog 24 [mshA v w V Fs, .c (I z)] [] fun u H => ∃ q, u = .c (.r q ((cutL V Fs z).map Cut6.row)) ∧ H = [] := by
  have hlf := hM.lf
  refine acalls_of (N := 45) Tryz.func24 rfl rfl (by simp) fun E hE => ?_
  refine WA ?_
  refine WA ?_
  refine WR ?_
  refine al_ef rfl (ef_call0 false (fun _ => segments_r v w V Fs z hM) rfl .fn rfl (by decide) (by kernel_rfl) rfl (fun _ => C0 rfl) (by simp)) ?_
  rintro _ _ ⟨_, _, _, ⟨q, rfl, rfl⟩, hF, hH⟩
  (try simp only [nsl, Nat.reduceAdd, Nat.reduceLT, Nat.reduceSub] at hF); (try simp only [nsl, Nat.reduceAdd, Nat.reduceLT, Nat.reduceSub] at hH); subst hF; subst hH
  refine WE ?_
  have hsd : sdL V Fs z = (sgL V Fs z).flatMap fun g => [g.fr, g.to] := rfl
  have hsl := sgL_len V Fs z
  have hcu : ∀ s ∈ sdL V Fs z, Cuts' V z s := fun s hs => sdL_cuts hM hs
  have hcl : cutL V Fs z = (compG (srtS (sdL V Fs z))).map (cutV V z) := rfl
  have hdl := sdL_len V Fs z
  generalize sgL V Fs z = S at hsd hsl ⊢
  have e5 : (S.map Seg5.row).length = S.length := by simp
  refine aw_loopw (fun m F H => ∃ (k c : Nat) (L : List Sid2), m + k = S.length ∧ L.length = 2 * k ∧ L.length ≤ c ∧ L = (S.take k).flatMap (fun g => [g.fr, g.to]) ∧ F = [(1, .c (I z)), (2, .p 0 0 0), (5, .o 1 0 L.length c), (13, .c (.r q (S.map Seg5.row))), (14, .c (I (S.map Seg5.row).length)), (15, .c (I k))] ∧ H = [mBox v w V (fR Fs), .arr 70 2 c (sR L)]) ?_ ?_
  · refine wk_of [some 0, none] (fun _ => [(1, .c (I z)), (2, .p 0 0 0), (5, .o 1 0 0 0), (13, .c (.r q (S.map Seg5.row))), (14, .c (I (S.map Seg5.row).length)), (15, .c (I (0 : Nat)))]) (fun _ => [mBox v w V (fR Fs), .arr 70 2 0 []]) (by decide) (ZNL hE) ZCF ZCH (fun _ => ?_)
    exact ⟨S.length, 0, 0, [], by omega, rfl, by simp, rfl, rfl, rfl⟩
  rintro m F H ⟨k, c, L, hk, hLk, hcap, hLe, rfl, rfl⟩
  refine WA ?_
  refine aw_if rfl (fun hlt => ?_) (fun hge => ?_)
  · obtain ⟨g, hg⟩ : ∃ z, S[k]? = some z := ⟨_, List.getElem?_eq_getElem (by omega)⟩
    have hn := sd_take hg
    rw [← hLe] at hn
    obtain ⟨gi, ⟨g1, g2⟩, ⟨g3, g4⟩⟩ := g
    have hrow : (S.map Seg5.row)[k]? = some [I gi, I g1, I g2, I g3, I g4] := by rw [List.getElem?_map, hg]; rfl
    refine WA ?_
    refine WR ?_
    refine al_ef rfl (Zapp (KA (t := 57) rfl)) ?_
    rintro _ _ ⟨_, cc, hcc, rfl, rfl⟩
    refine WE ?_
    refine WA ?_
    refine wk_of [some 0, some 1] (fun _ => [(1, .c (I z)), (2, .p 0 0 0), (5, .o 1 0 (L ++ [(⟨g1, g2⟩ : Sid2), ⟨g3, g4⟩]).length cc), (13, .c (.r q (S.map Seg5.row))), (14, .c (I (S.map Seg5.row).length)), (15, .c (I (k + 1 : Nat)))]) (fun _ => _) (by decide) (ZNL hE) ZCF ZCH (fun _ => ?_)
    exact ⟨m - 1, by omega, k + 1, cc, L ++ [⟨g1, g2⟩, ⟨g3, g4⟩], by omega, by simp; omega, by simp; omega, hn.symm, rfl, by simp [sR]⟩
  obtain rfl : k = S.length := by omega
  rw [List.take_of_length_le (Nat.le_refl _), ← hsd] at hLe
  rw [← hLe] at hcu hcl hdl
  clear hLe hsd
  refine ZZ ?_
  refine WR ?_
  refine al_ef rfl (ef_callp [1] (fun _ => [.arr 70 2 c (sR L)]) false (fun _ => sortY_v 79 (by kernel_rfl) rcmpS_v L c (by omega)) rfl .fn rfl (by decide) (by kernel_rfl) rfl ZCH (by decide) (fun _ => .arr rfl rfl .nil) (by simp)) ?_
  rintro F1 H1 ⟨_, _, _, _, ⟨rfl, rfl⟩, hF, hH⟩
  rw [killF_nil] at hF; (try simp only [List.set_cons_zero, List.set_cons_succ, updH, posOf, lentArr, killF, killO, killV, AV.has, AV.hasL, AV.emb, AV.embL, OB.emb, embB, List.filter_cons, List.filter_nil, List.getElem?_cons_zero, List.getElem?_cons_succ, List.getD_cons_zero, List.getD_cons_succ, List.drop_succ_cons, List.drop_zero, List.drop_nil, List.contains_cons, List.contains_nil, Nat.reduceBEq, Nat.reduceEqDiff, beq_self_eq_true, Bool.or_false, Bool.false_or, Bool.or_true, Bool.true_or, Bool.false_eq_true, Option.map_some, Option.map_none, List.map_cons, List.map_nil, List.cons_append, List.nil_append, List.append_nil, List.length_cons, List.length_nil, Nat.reduceAdd, Nat.reduceLT, Nat.reduceSub, if_true, if_false, Nat.zero_add, Nat.add_zero, Nat.sub_zero, Nat.lt_irrefl, Nat.not_lt_zero, Nat.zero_lt_one, Nat.lt_add_one] at hF); (try simp only [List.set_cons_zero, List.set_cons_succ, updH, posOf, lentArr, killF, killO, killV, AV.has, AV.hasL, AV.emb, AV.embL, OB.emb, embB, List.filter_cons, List.filter_nil, List.getElem?_cons_zero, List.getElem?_cons_succ, List.getD_cons_zero, List.getD_cons_succ, List.drop_succ_cons, List.drop_zero, List.drop_nil, List.contains_cons, List.contains_nil, Nat.reduceBEq, Nat.reduceEqDiff, beq_self_eq_true, Bool.or_false, Bool.false_or, Bool.or_true, Bool.true_or, Bool.false_eq_true, Option.map_some, Option.map_none, List.map_cons, List.map_nil, List.cons_append, List.nil_append, List.append_nil, List.length_cons, List.length_nil, Nat.reduceAdd, Nat.reduceLT, Nat.reduceSub, if_true, if_false, Nat.zero_add, Nat.add_zero, Nat.sub_zero, Nat.lt_irrefl, Nat.not_lt_zero, Nat.zero_lt_one, Nat.lt_add_one] at hH); subst hF; subst hH
  refine WE ?_
  refine WA ?_
  have hsl0 := srtS_len L
  refine WR ?_
  refine al_ef rfl (ef_call [1] (fun _ => [.arr 70 2 c (sR (srtS L))]) false (fun _ => compactS_v (srtS L) c (by omega) (by omega)) rfl .fn rfl (by decide) (by kernel_rfl) rfl (fun _ => .cons (.o rfl (by omega)) .nil) (by decide) ZCH (by simp)) ?_
  rintro F1 H1 ⟨_, _, _, _, ⟨rfl, rfl⟩, hF, hH⟩
  (try simp only [List.set_cons_zero, List.set_cons_succ, updH, posOf, lentArr, killF, killO, killV, AV.has, AV.hasL, AV.emb, AV.embL, OB.emb, embB, List.filter_cons, List.filter_nil, List.getElem?_cons_zero, List.getElem?_cons_succ, List.getD_cons_zero, List.getD_cons_succ, List.drop_succ_cons, List.drop_zero, List.drop_nil, List.contains_cons, List.contains_nil, Nat.reduceBEq, Nat.reduceEqDiff, beq_self_eq_true, Bool.or_false, Bool.false_or, Bool.or_true, Bool.true_or, Bool.false_eq_true, Option.map_some, Option.map_none, List.map_cons, List.map_nil, List.cons_append, List.nil_append, List.append_nil, List.length_cons, List.length_nil, Nat.reduceAdd, Nat.reduceLT, Nat.reduceSub, if_true, if_false, Nat.zero_add, Nat.add_zero, Nat.sub_zero, Nat.lt_irrefl, Nat.not_lt_zero, Nat.zero_lt_one, Nat.lt_add_one] at hF); (try simp only [List.set_cons_zero, List.set_cons_succ, updH, posOf, lentArr, killF, killO, killV, AV.has, AV.hasL, AV.emb, AV.embL, OB.emb, embB, List.filter_cons, List.filter_nil, List.getElem?_cons_zero, List.getElem?_cons_succ, List.getD_cons_zero, List.getD_cons_succ, List.drop_succ_cons, List.drop_zero, List.drop_nil, List.contains_cons, List.contains_nil, Nat.reduceBEq, Nat.reduceEqDiff, beq_self_eq_true, Bool.or_false, Bool.false_or, Bool.or_true, Bool.true_or, Bool.false_eq_true, Option.map_some, Option.map_none, List.map_cons, List.map_nil, List.cons_append, List.nil_append, List.append_nil, List.length_cons, List.length_nil, Nat.reduceAdd, Nat.reduceLT, Nat.reduceSub, if_true, if_false, Nat.zero_add, Nat.add_zero, Nat.sub_zero, Nat.lt_irrefl, Nat.not_lt_zero, Nat.zero_lt_one, Nat.lt_add_one] at hH); subst hF; subst hH
  refine WE ?_
  have hsln := srtS_len L
  have hcu2 : ∀ s ∈ compG (srtS L), Cuts' V z s := fun s hs => hcu s ((srtS_perm L).subset (compG_mem.1 hs))
  have hgl := compG_len (srtS L)
  generalize compG (srtS L) = G at hcl hcu2 hgl ⊢
  have eG : (sR G).length = G.length := by simp
  refine aw_loopw (fun m F H => ∃ (j c2 : Nat) (O : List Cut6), m + j = G.length ∧ O.length = j ∧ O = (G.take j).map (cutV V z) ∧ F = [(1, .c (I z)), (2, .p 0 0 0), (8, .o 2 0 O.length c2), (30, .o 1 0 G.length c), (31, .c (I G.length)), (32, .c (I j))] ∧ H = [mBox v w V (fR Fs), .arr 70 2 c (sR G), .arr 74 6 c2 (O.map Cut6.row)]) ?_ ?_
  · refine wk_of [some 0, some 1, none] (fun _ => [(1, .c (I z)), (2, .p 0 0 0), (8, .o 2 0 0 0), (30, .o 1 0 G.length c), (31, .c (I G.length)), (32, .c (I (0 : Nat)))]) (fun _ => [mBox v w V (fR Fs), .arr 70 2 c (sR G), .arr 74 6 0 []]) (by decide) (ZNL hE) ZCF ZCH (fun _ => ?_)
    exact ⟨G.length, 0, 0, [], by omega, rfl, rfl, rfl, rfl⟩
  rintro m F H ⟨j, c2, O, hj, hOj, hOe, rfl, rfl⟩
  refine WA ?_
  refine aw_if rfl (fun hlt => ?_) (fun hge => ?_)
  · obtain ⟨s, hs⟩ : ∃ z, G[j]? = some z := ⟨_, List.getElem?_eq_getElem (by omega)⟩
    have hcs := hcu2 s (List.mem_of_getElem? hs)
    have hn : O ++ [cutV V z s] = (G.take (j + 1)).map (cutV V z) := by rw [List.take_add_one, hs, List.map_append, ← hOe]; rfl
    obtain ⟨sf, st⟩ := s
    have hrow0 : (sR G)[0 + j]? = some [I sf, I st] := by rw [Nat.zero_add, List.getElem?_map, hs]; rfl
    refine WA ?_
    refine WR ?_
    refine al_ef rfl (ef_call0 false (fun _ => meet_r v w V Fs z ⟨sf, st⟩ hM hcs hz) rfl .fn rfl (by decide) (by kernel_rfl) rfl (fun _ => C0 rfl) (by simp)) ?_
    rintro _ _ ⟨_, _, _, ⟨rfl, rfl⟩, hF, hH⟩
    (try simp only [nsl, Nat.reduceAdd, Nat.reduceLT, Nat.reduceSub] at hF); (try simp only [nsl, Nat.reduceAdd, Nat.reduceLT, Nat.reduceSub] at hH); subst hF; subst hH
    refine WO ?_
    refine al_ef rfl (Zapp (KA (t := 47) rfl)) ?_
    rintro _ _ ⟨_, cc, hcc, rfl, rfl⟩
    refine WE ?_
    refine WA ?_
    refine wk_of [some 0, some 1, some 2] (fun _ => [(1, .c (I z)), (2, .p 0 0 0), (8, .o 2 0 (O ++ [cutV V z ⟨sf, st⟩]).length cc), (30, .o 1 0 G.length c), (31, .c (I G.length)), (32, .c (I (j + 1 : Nat)))]) (fun _ => _) (by decide) (ZNL hE) ZCF ZCH (fun _ => ?_)
    exact ⟨m - 1, by omega, j + 1, cc, O ++ [cutV V z ⟨sf, st⟩], by omega, by simp; omega, hn, rfl, by simp⟩
  obtain rfl : j = G.length := by omega
  rw [List.take_of_length_le (Nat.le_refl _), ← hcl] at hOe
  refine ZZ ?_
  refine WA ?_
  exact aret_f1 [] _ rfl rfl rfl rfl (by rw [List.drop_zero, List.take_of_length_le (by simp)]) (by simp) rfl (by decide) (ZNK rfl) (fun _ => .nil) (fun q => ⟨q, by rw [hOe], rfl⟩)
/-- slice.Segments. -/
def sgsP (V : List Vec3) (Fs : List Fac3) (z : Int) : List Seg5 × Int := if pltF V Fs [z] ≠ 0 then ([], pltF V Fs [z]) else (sgL V Fs z, 0)
theorem segs_p (v w : Value) (V : List Vec3) (Fs : List Fac3) (z : Int) (hVl : V.length ≤ 1000000) (hFl : Fs.length ≤ 1000000) : ACalls Tryz.prog 20 [mshA v w V Fs, .c (I z)] [] fun u H => ∃ q, u = .t [.c (.r q ((sgsP V Fs z).1.map Seg5.row)), .c (I (sgsP V Fs z).2)] ∧ H = [] := by
  refine acalls_of (N := 17) Tryz.func20 rfl rfl (by simp) fun E hE => ?_
  refine WA ?_
  refine WR ?_
  refine al_ef rfl (ef_call0 true (fun g => sfault_v v w (g (.o 1 0 1 1)) V Fs [z] hVl hFl (by simp)) rfl .fn rfl (by decide) (by kernel_rfl) rfl (fun _ => .cons (.aL (C0 rfl)) (.cons (.frz rfl rfl rfl rfl rfl) .nil)) (fun _ _ _ _ ⟨hu, hH⟩ => by rw [hu, hH]; exact ⟨.c (.inl trivial), by simp⟩)) ?_
  rintro _ _ ⟨_, _, _, ⟨rfl, rfl⟩, hF, hH⟩
  (try simp only [nsl, Nat.reduceAdd, Nat.reduceLT, Nat.reduceSub] at hF); (try simp only [nsl, Nat.reduceAdd, Nat.reduceLT, Nat.reduceSub] at hH); subst hF; subst hH
  refine WE ?_
  refine WA ?_
  refine aw_if rfl (fun h0 => ?_) (fun h0 => ?_)
  · refine WA ?_
    exact aret_2 [] _ rfl rfl rfl rfl rfl (by decide) (ZNK rfl) (fun _ => .nil) ⟨_, by rw [sgsP, if_pos h0]; rfl, rfl⟩
  obtain ⟨hM, hz⟩ := pltF_ok (show pltF V Fs [z] = 0 by omega)
  have e0 : sgsP V Fs z = (sgL V Fs z, 0) := by rw [sgsP, if_neg h0]
  refine ZZ ?_
  refine WR ?_
  refine al_ef rfl (ef_call0 false (fun _ => segments_p v w V Fs z hM) rfl .fn rfl (by decide) (by kernel_rfl) rfl (fun _ => C0 rfl) (by simp)) ?_
  rintro _ _ ⟨_, _, _, ⟨q, rfl, rfl⟩, hF, hH⟩
  (try simp only [nsl, Nat.reduceAdd, Nat.reduceLT, Nat.reduceSub] at hF); (try simp only [nsl, Nat.reduceAdd, Nat.reduceLT, Nat.reduceSub] at hH); subst hF; subst hH
  refine WE ?_
  exact aret_2 [] _ rfl rfl rfl rfl rfl (by decide) (ZNK rfl) (fun _ => .nil) ⟨q, by rw [e0], rfl⟩
end Go.Proofs.YtlblimbelfenaaaGreat
