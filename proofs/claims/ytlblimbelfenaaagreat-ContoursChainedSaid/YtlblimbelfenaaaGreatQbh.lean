/- Small functions of the program and of its document, by value: within a span, first errors, searches and comparisons of lists. -/
import Derived.Test.YtlblimbelfenaaaGreatQbg
import Derived.Test.YtlblimbelfenaaaGreatQap
import Derived.Test.YtlblimbelfenaaaGreatQam
set_option linter.unusedSimpArgs false
set_option linter.unusedVariables false
/- Contours of the reference, by value. -/
-- NEWM
namespace Go.Proofs.YtlblimbelfenaaaGreat
open Go Go.RowKit
set_option maxRecDepth 100000
set_option maxHeartbeats 16000000 in
theorem contours_r (v w : Value) (V : List Vec3) (Fs : List Fac3) (z : Int) (hM : MOk V Fs) : ACalls Tryz.prog 27 [mshA v w V Fs, .c (I z)] [] fun u H => ∃ (q1 q2 : Value) (l : List (Value × Con)), u = .t [.c (.r q1 (l.map fun p => [CV.r p.1 (sR p.2.1)])), .c (.r q2 (l.map fun p => [B p.2.2]))] ∧ H = [] ∧ IsConts (sgL V Fs z) (l.map Prod.snd) := by
  have hlf := hM.lf
  have hok0 := sgL_ok (z := z) hM
  have hSl := sgL_len V Fs z
  refine acalls_of (N := 60) Tryz.func27 rfl rfl (by simp) fun E hE => ?_
  refine WA ?_
  refine WR ?_
  refine al_ef rfl (ef_call [] (fun _ => []) false (fun _ => segments_ro v w V Fs z hM) rfl .fn rfl (by decide) (by kernel_rfl) rfl (fun _ => C0 rfl) (by decide) (fun _ => .nil) (by simp)) ?_
  rintro F1 H1 ⟨_, _, _, _, ⟨c, hc, rfl, rfl⟩, hF, hH⟩
  (try simp only [List.set_cons_zero, List.set_cons_succ, updH, posOf, lentArr, killF, killO, killV, AV.has, AV.hasL, AV.emb, AV.embL, OB.emb, embB, List.filter_cons, List.filter_nil, List.getElem?_cons_zero, List.getElem?_cons_succ, List.getD_cons_zero, List.getD_cons_succ, List.drop_succ_cons, List.drop_zero, List.drop_nil, List.contains_cons, List.contains_nil, Nat.reduceBEq, Nat.reduceEqDiff, beq_self_eq_true, Bool.or_false, Bool.false_or, Bool.or_true, Bool.true_or, Bool.false_eq_true, Option.map_some, Option.map_none, List.map_cons, List.map_nil, List.cons_append, List.nil_append, List.append_nil, List.length_cons, List.length_nil, Nat.reduceAdd, Nat.reduceLT, Nat.reduceSub, if_true, if_false, Nat.zero_add, Nat.add_zero, Nat.sub_zero, Nat.lt_irrefl, Nat.not_lt_zero, Nat.zero_lt_one, Nat.lt_add_one] at hF); (try simp only [List.set_cons_zero, List.set_cons_succ, updH, posOf, lentArr, killF, killO, killV, AV.has, AV.hasL, AV.emb, AV.embL, OB.emb, embB, List.filter_cons, List.filter_nil, List.getElem?_cons_zero, List.getElem?_cons_succ, List.getD_cons_zero, List.getD_cons_succ, List.drop_succ_cons, List.drop_zero, List.drop_nil, List.contains_cons, List.contains_nil, Nat.reduceBEq, Nat.reduceEqDiff, beq_self_eq_true, Bool.or_false, Bool.false_or, Bool.or_true, Bool.true_or, Bool.false_eq_true, Option.map_some, Option.map_none, List.map_cons, List.map_nil, List.cons_append, List.nil_append, List.append_nil, List.length_cons, List.length_nil, Nat.reduceAdd, Nat.reduceLT, Nat.reduceSub, if_true, if_false, Nat.zero_add, Nat.add_zero, Nat.sub_zero, Nat.lt_irrefl, Nat.not_lt_zero, Nat.zero_lt_one, Nat.lt_add_one] at hH); subst hF; subst hH
  refine WE ?_
  generalize sgL V Fs z = S at hok0 hSl hc ⊢
  refine WR ?_
  refine al_ef rfl (ef_callp [1] (fun _ => [.arr 77 5 c (gR S)]) false (fun _ => sortSeg_v S c (by omega)) rfl .fn rfl (by decide) (by kernel_rfl) rfl ZCH (by decide) (fun _ => .arr rfl rfl .nil) (by simp)) ?_
  rintro F1 H1 ⟨_, _, _, _, ⟨T, rfl, rfl, hTp, hTs⟩, hF, hH⟩
  rw [killF_nil] at hF; (try simp only [List.set_cons_zero, List.set_cons_succ, updH, posOf, lentArr, killF, killO, killV, AV.has, AV.hasL, AV.emb, AV.embL, OB.emb, embB, List.filter_cons, List.filter_nil, List.getElem?_cons_zero, List.getElem?_cons_succ, List.getD_cons_zero, List.getD_cons_succ, List.drop_succ_cons, List.drop_zero, List.drop_nil, List.contains_cons, List.contains_nil, Nat.reduceBEq, Nat.reduceEqDiff, beq_self_eq_true, Bool.or_false, Bool.false_or, Bool.or_true, Bool.true_or, Bool.false_eq_true, Option.map_some, Option.map_none, List.map_cons, List.map_nil, List.cons_append, List.nil_append, List.append_nil, List.length_cons, List.length_nil, Nat.reduceAdd, Nat.reduceLT, Nat.reduceSub, if_true, if_false, Nat.zero_add, Nat.add_zero, Nat.sub_zero, Nat.lt_irrefl, Nat.not_lt_zero, Nat.zero_lt_one, Nat.lt_add_one] at hF); (try simp only [List.set_cons_zero, List.set_cons_succ, updH, posOf, lentArr, killF, killO, killV, AV.has, AV.hasL, AV.emb, AV.embL, OB.emb, embB, List.filter_cons, List.filter_nil, List.getElem?_cons_zero, List.getElem?_cons_succ, List.getD_cons_zero, List.getD_cons_succ, List.drop_succ_cons, List.drop_zero, List.drop_nil, List.contains_cons, List.contains_nil, Nat.reduceBEq, Nat.reduceEqDiff, beq_self_eq_true, Bool.or_false, Bool.false_or, Bool.or_true, Bool.true_or, Bool.false_eq_true, Option.map_some, Option.map_none, List.map_cons, List.map_nil, List.cons_append, List.nil_append, List.append_nil, List.length_cons, List.length_nil, Nat.reduceAdd, Nat.reduceLT, Nat.reduceSub, if_true, if_false, Nat.zero_add, Nat.add_zero, Nat.sub_zero, Nat.lt_irrefl, Nat.not_lt_zero, Nat.zero_lt_one, Nat.lt_add_one] at hH); subst hF; subst hH
  refine WE ?_
  have hok := hok0.perm hTp
  have hTl : S.length = T.length := hTp.length_eq.symm
  have hN := nxt_perm hok0 hTp
  have hFB := folB_perm hTp
  rw [hTl]
  rw [hTl] at hSl hc
  refine WA ?_
  refine WA ?_
  refine aw_loopw (fun m F H => ∃ (sn : List Sid2) (L : List Seg5) (O : List (Value × Con)) (co : Nat), m = L.length ∧ Seen (nxt T) sn ∧ L = leftP T sn.contains ∧ L.length ≤ c ∧ O.length + L.length ≤ T.length ∧ (∀ o s', PassP (nxt T) (folB T) false (T.map (·.fr)) sn o s' → PassP (nxt T) (folB T) false (T.map (·.fr)) [] (O.map Prod.snd ++ o) s') ∧ F = [(6, .p 0 0 0), (7, .o 2 0 O.length co), (8, .f (.func 85) [.p 0 0 0])] ∧ H = [.box [.o 1 0 L.length c], .arr 77 5 c (gR L), .arr 137 2 co (cR O)]) ?_ ?_
  · refine wk_of [some 2, some 1, none] (fun _ => [(6, .p 0 0 0), (7, .o 2 0 0 0), (8, .f (.func 85) [.p 0 0 0])]) (fun _ => [.box [.o 1 0 T.length c], .arr 77 5 c (gR T), .arr 137 2 0 []]) (by decide) (ZNL hE) ZCF ZCH (fun _ => ?_)
    exact ⟨T.length, [], T, [], 0, rfl, .nil _, (List.filter_eq_self.2 (by simp)).symm, hc, by simp, fun o s' h => h, rfl, rfl⟩
  rintro m F H ⟨sn, L, O, co, rfl, hsn, hL, hc, hO, hinv, rfl, rfl⟩
  refine WR ?_
  refine al_ef rfl (ef_callp [0, 1] (fun _ => [.box [.o 1 0 L.length c], .arr 77 5 c (gR L)]) false (fun _ => idxOp_v L c trivial (by omega)) rfl .fn rfl (by decide) (by kernel_rfl) rfl ZCH (by decide) ZCH (by simp)) ?_
  rintro F1 H1 ⟨_, _, _, _, ⟨r, rfl, rfl, hr1, hr2⟩, hF, hH⟩
  rw [killF_nil] at hF; (try simp only [List.set_cons_zero, List.set_cons_succ, updH, posOf, lentArr, killF, killO, killV, AV.has, AV.hasL, AV.emb, AV.embL, OB.emb, embB, List.filter_cons, List.filter_nil, List.getElem?_cons_zero, List.getElem?_cons_succ, List.getD_cons_zero, List.getD_cons_succ, List.drop_succ_cons, List.drop_zero, List.drop_nil, List.contains_cons, List.contains_nil, Nat.reduceBEq, Nat.reduceEqDiff, beq_self_eq_true, Bool.or_false, Bool.false_or, Bool.or_true, Bool.true_or, Bool.false_eq_true, Option.map_some, Option.map_none, List.map_cons, List.map_nil, List.cons_append, List.nil_append, List.append_nil, List.length_cons, List.length_nil, Nat.reduceAdd, Nat.reduceLT, Nat.reduceSub, if_true, if_false, Nat.zero_add, Nat.add_zero, Nat.sub_zero, Nat.lt_irrefl, Nat.not_lt_zero, Nat.zero_lt_one, Nat.lt_add_one] at hF); (try simp only [List.set_cons_zero, List.set_cons_succ, updH, posOf, lentArr, killF, killO, killV, AV.has, AV.hasL, AV.emb, AV.embL, OB.emb, embB, List.filter_cons, List.filter_nil, List.getElem?_cons_zero, List.getElem?_cons_succ, List.getD_cons_zero, List.getD_cons_succ, List.drop_succ_cons, List.drop_zero, List.drop_nil, List.contains_cons, List.contains_nil, Nat.reduceBEq, Nat.reduceEqDiff, beq_self_eq_true, Bool.or_false, Bool.false_or, Bool.or_true, Bool.true_or, Bool.false_eq_true, Option.map_some, Option.map_none, List.map_cons, List.map_nil, List.cons_append, List.nil_append, List.append_nil, List.length_cons, List.length_nil, Nat.reduceAdd, Nat.reduceLT, Nat.reduceSub, if_true, if_false, Nat.zero_add, Nat.add_zero, Nat.sub_zero, Nat.lt_irrefl, Nat.not_lt_zero, Nat.zero_lt_one, Nat.lt_add_one] at hH); subst hF; subst hH
  refine WE ?_
  refine WA ?_
  refine aw_if rfl (fun hneg => ?_) (fun hpos => ?_)
  · obtain ⟨hfol, hP1⟩ := ph1_end hok hsn (by rw [← hL]; exact hr1 hneg)
    have hP1 := hinv [] sn hP1
    rw [List.append_nil] at hP1
    clear hr1 hr2 hneg hinv
    refine ZZ ?_
    generalize hO1 : O.map Prod.snd = o1 at hP1
    refine aw_loopw (fun m F H => ∃ (sn2 : List Sid2) (L : List Seg5) (O : List (Value × Con)) (co : Nat) (o2 : List Con), m = L.length ∧ Seen (nxt T) sn2 ∧ (∀ g ∈ T, g.fr ∉ sn2 → folB T g.fr = true) ∧ L = leftP T sn2.contains ∧ L.length ≤ c ∧ O.length + L.length ≤ T.length ∧ O.map Prod.snd = o1 ++ o2 ∧ (∀ o s', PassP (nxt T) (folB T) true (T.map (·.fr)) sn2 o s' → PassP (nxt T) (folB T) true (T.map (·.fr)) sn (o2 ++ o) s') ∧ F = [(6, .p 0 0 0), (7, .o 2 0 O.length co), (8, .f (.func 85) [.p 0 0 0])] ∧ H = [.box [.o 1 0 L.length c], .arr 77 5 c (gR L), .arr 137 2 co (cR O)]) ?_ ?_
    · refine wk_of [some 0, some 1, some 2] (fun _ => [(6, .p 0 0 0), (7, .o 2 0 O.length co), (8, .f (.func 85) [.p 0 0 0])]) (fun _ => [.box [.o 1 0 L.length c], .arr 77 5 c (gR L), .arr 137 2 co (cR O)]) (by decide) (ZNL hE) ZCF ZCH (fun _ => ?_)
      exact ⟨L.length, sn, L, O, co, [], rfl, hsn, hfol, hL, hc, hO, by rw [hO1, List.append_nil], fun o s' h => h, rfl, rfl⟩
    clear hO hc hL hO1 hsn hfol
    rintro m F H ⟨sn2, L, O, co, o2, rfl, hsn, hfol, hL, hc, hO, hO2, hinv, rfl, rfl⟩
    refine WA ?_
    refine aw_if rfl (fun hpos => ?_) (fun hneg => ?_)
    · obtain ⟨g, hg⟩ : ∃ z, L[0]? = some z := ⟨_, List.getElem?_eq_getElem (by omega)⟩
      refine ZZ ?_
      refine WR ?_
      refine al_ef rfl (ef_call [0, 1] (fun _ => [.box [.o 1 0 L.length c], .arr 77 5 c (gR L)]) false (fun _ => take_v T hok sn2 hsn (by omega) L hL c hc 0 g hg) rfl (.clo rfl) rfl (by decide) (by kernel_rfl) rfl ZCH (by decide) ZCH (by simp)) ?_
      rintro F1 H1 ⟨_, _, _, _, ⟨q0, r, cl, L', rfl, rfl, hch, hL'⟩, hF, hH⟩
      (try simp only [List.set_cons_zero, List.set_cons_succ, updH, posOf, lentArr, killF, killO, killV, AV.has, AV.hasL, AV.emb, AV.embL, OB.emb, embB, List.filter_cons, List.filter_nil, List.getElem?_cons_zero, List.getElem?_cons_succ, List.getD_cons_zero, List.getD_cons_succ, List.drop_succ_cons, List.drop_zero, List.drop_nil, List.contains_cons, List.contains_nil, Nat.reduceBEq, Nat.reduceEqDiff, beq_self_eq_true, Bool.or_false, Bool.false_or, Bool.or_true, Bool.true_or, Bool.false_eq_true, Option.map_some, Option.map_none, List.map_cons, List.map_nil, List.cons_append, List.nil_append, List.append_nil, List.length_cons, List.length_nil, Nat.reduceAdd, Nat.reduceLT, Nat.reduceSub, if_true, if_false, Nat.zero_add, Nat.add_zero, Nat.sub_zero, Nat.lt_irrefl, Nat.not_lt_zero, Nat.zero_lt_one, Nat.lt_add_one] at hF); (try simp only [List.set_cons_zero, List.set_cons_succ, updH, posOf, lentArr, killF, killO, killV, AV.has, AV.hasL, AV.emb, AV.embL, OB.emb, embB, List.filter_cons, List.filter_nil, List.getElem?_cons_zero, List.getElem?_cons_succ, List.getD_cons_zero, List.getD_cons_succ, List.drop_succ_cons, List.drop_zero, List.drop_nil, List.contains_cons, List.contains_nil, Nat.reduceBEq, Nat.reduceEqDiff, beq_self_eq_true, Bool.or_false, Bool.false_or, Bool.or_true, Bool.true_or, Bool.false_eq_true, Option.map_some, Option.map_none, List.map_cons, List.map_nil, List.cons_append, List.nil_append, List.append_nil, List.length_cons, List.length_nil, Nat.reduceAdd, Nat.reduceLT, Nat.reduceSub, if_true, if_false, Nat.zero_add, Nat.add_zero, Nat.sub_zero, Nat.lt_irrefl, Nat.not_lt_zero, Nat.zero_lt_one, Nat.lt_add_one] at hH); subst hF; subst hH
      refine WO ?_
      refine al_ef rfl (Zapp (KA (t := 135) rfl)) ?_
      rintro _ _ ⟨_, cc, hcc, rfl, rfl⟩
      refine WE ?_
      obtain ⟨hct, hsn', hstep⟩ := ph2_step hok hsn hfol (hL ▸ hg) hch
      subst hct
      have hlt := leftP_lt (S := T) (p := sn2.contains) (q := (sn2 ++ g.fr :: r).contains) (g := g) (fun s hs => by simp at hs ⊢; exact .inl hs) (hL ▸ List.mem_of_getElem? hg) (by simp)
      rw [← hL, ← hL'] at hlt
      refine wk_of [some 0, some 1, some 2] (fun _ => [(6, .p 0 0 0), (7, .o 2 0 (O ++ [(q0, (g.fr :: r, true))]).length cc), (8, .f (.func 85) [.p 0 0 0])]) (fun _ => [.box [.o 1 0 L'.length c], .arr 77 5 c (gR L'), .arr 137 2 cc (cR O ++ [conRow (q0, (g.fr :: r, true))])]) (by decide) (ZNL hE) ZCF ZCH (fun _ => ?_)
      refine ⟨L'.length, by omega, sn2 ++ g.fr :: r, L', O ++ [(q0, (g.fr :: r, true))], cc, o2 ++ [(g.fr :: r, true)], rfl, hsn', fun k hk hn => hfol k hk (fun h => hn (List.mem_append_left _ h)), hL', by omega, by simp; omega, by rw [List.map_append, hO2, List.append_assoc]; rfl, fun o s' h => ?_, rfl, by simp⟩
      rw [List.append_assoc]
      exact hinv _ _ (hstep o s' h)
    have hP2 := hinv [] sn2 (ph2_end (by rw [← hL]; exact List.eq_nil_of_length_eq_zero (by omega)))
    rw [List.append_nil] at hP2
    have hne : ∀ p ∈ O, p.2.1 ≠ [] := fun p hp => by
      have : p.2 ∈ o1 ++ o2 := hO2 ▸ List.mem_map.2 ⟨p, hp, rfl⟩
      rcases List.mem_append.1 this with h | h
      · exact hP1.ne _ h
      · exact hP2.ne _ h
    refine ZZ ?_
    refine WR ?_
    refine al_ef rfl (ef_callp [2] (fun _ => [.arr 137 2 co (cR O)]) false (fun _ => sortRon_v O hne co (by omega)) rfl .fn rfl (by decide) (by kernel_rfl) rfl ZCH (by decide) (fun _ => .arr rfl rfl .nil) (by simp)) ?_
    rintro F1 H1 ⟨_, _, _, _, ⟨l, rfl, rfl, hp, hs⟩, hF, hH⟩
    rw [killF_nil] at hF; (try simp only [List.set_cons_zero, List.set_cons_succ, updH, posOf, lentArr, killF, killO, killV, AV.has, AV.hasL, AV.emb, AV.embL, OB.emb, embB, List.filter_cons, List.filter_nil, List.getElem?_cons_zero, List.getElem?_cons_succ, List.getD_cons_zero, List.getD_cons_succ, List.drop_succ_cons, List.drop_zero, List.drop_nil, List.contains_cons, List.contains_nil, Nat.reduceBEq, Nat.reduceEqDiff, beq_self_eq_true, Bool.or_false, Bool.false_or, Bool.or_true, Bool.true_or, Bool.false_eq_true, Option.map_some, Option.map_none, List.map_cons, List.map_nil, List.cons_append, List.nil_append, List.append_nil, List.length_cons, List.length_nil, Nat.reduceAdd, Nat.reduceLT, Nat.reduceSub, if_true, if_false, Nat.zero_add, Nat.add_zero, Nat.sub_zero, Nat.lt_irrefl, Nat.not_lt_zero, Nat.zero_lt_one, Nat.lt_add_one] at hF); (try simp only [List.set_cons_zero, List.set_cons_succ, updH, posOf, lentArr, killF, killO, killV, AV.has, AV.hasL, AV.emb, AV.embL, OB.emb, embB, List.filter_cons, List.filter_nil, List.getElem?_cons_zero, List.getElem?_cons_succ, List.getD_cons_zero, List.getD_cons_succ, List.drop_succ_cons, List.drop_zero, List.drop_nil, List.contains_cons, List.contains_nil, Nat.reduceBEq, Nat.reduceEqDiff, beq_self_eq_true, Bool.or_false, Bool.false_or, Bool.or_true, Bool.true_or, Bool.false_eq_true, Option.map_some, Option.map_none, List.map_cons, List.map_nil, List.cons_append, List.nil_append, List.append_nil, List.length_cons, List.length_nil, Nat.reduceAdd, Nat.reduceLT, Nat.reduceSub, if_true, if_false, Nat.zero_add, Nat.add_zero, Nat.sub_zero, Nat.lt_irrefl, Nat.not_lt_zero, Nat.zero_lt_one, Nat.lt_add_one] at hH); subst hF; subst hH
    refine WE ?_
    have hll := hp.length_eq
    rw [← hll]
    have hcon : IsConts S (l.map Prod.snd) := by
      rw [hN, hFB, hTs] at hP1 hP2
      exact IsConts.of hP1 hP2 hO2 (hp.map Prod.snd) hs
    clear hP1 hP2 hO2 hinv hs hp hne
    have hl1000 : l.length ≤ 1000 := by omega
    clear hll hO
    refine WA ?_
    refine WA ?_
    refine WA ?_
    refine aw_loopw (fun m F H => ∃ (j ca cb : Nat) (A C : List (List CV)), m + j = l.length ∧ A.length = j ∧ C.length = j ∧ A = ((l.take j).map fun p => [CV.r p.1 (sR p.2.1)]) ∧ C = ((l.take j).map fun p => [B p.2.2]) ∧ F = [(10, .o 1 0 A.length ca), (11, .o 2 0 C.length cb), (41, .o 0 0 l.length co), (42, .c (I l.length)), (43, .c (I j))] ∧ H = [.arr 137 2 co (cR l), .arr 57 1 ca A, .arr 4 1 cb C]) ?_ ?_
    · refine wk_of [some 2, none, none] (fun _ => [(10, .o 1 0 0 0), (11, .o 2 0 0 0), (41, .o 0 0 l.length co), (42, .c (I l.length)), (43, .c (I (0 : Nat)))]) (fun _ => [.arr 137 2 co (cR l), .arr 57 1 0 [], .arr 4 1 0 []]) (by decide) (ZNL hE) ZCF ZCH (fun _ => ?_)
      exact ⟨l.length, 0, 0, 0, [], [], by omega, rfl, rfl, rfl, rfl, rfl, rfl⟩
    rintro m F H ⟨j, ca, cb, A, C, hj, hAl, hCl, hA, hC, rfl, rfl⟩
    refine WA ?_
    refine aw_if rfl (fun hlt => ?_) (fun hge => ?_)
    · obtain ⟨p, hp⟩ : ∃ z, l[j]? = some z := ⟨_, List.getElem?_eq_getElem (by omega)⟩
      have ht := take_snoc hp
      obtain ⟨pv, ps, pb⟩ := p
      have hrow0 : (cR l)[0 + j]? = some [.r pv (sR ps), B pb] := by rw [Nat.zero_add, List.getElem?_map, hp]; rfl
      refine WA ?_
      refine ZZ ?_
      refine aw_regionM [[(0, none), (1, none), (2, none), (5, none), (6, none), (7, none), (3, some [0, 5, 6, 7]), (4, some [5, 6, 7]), (8, some [0, 1, 2, 5]), (9, some []), (10, none), (11, none)], [(0, none), (1, none), (2, none), (5, none), (6, none), (7, none), (3, some [0, 5, 6, 7]), (8, some [0, 1, 2, 5]), (4, some [5, 6, 7]), (9, some []), (10, none), (11, none)], [(0, none), (1, none), (2, none), (5, none), (6, none), (7, none), (8, some [0, 1, 2, 5]), (3, some [0, 5, 6, 7]), (4, some [5, 6, 7]), (9, some []), (10, none), (11, none)]] hMixed (by kernel_rfl) ?_
      focus
        refine WM ?_
        refine am_two (by rfl) (by rfl) (by rfl) ?_ ?_
        rotate_left
        refine WM ?_
        refine am_ef (i := 4) (by rfl) (by rfl) rfl rfl (Zapp (KA (t := 53) rfl)) ?_
        rintro _ _ ⟨_, cc, hcc, rfl, rfl⟩
        refine ⟨AGX, ?_⟩
        refine am_ef (i := 9) (by rfl) (by rfl) rfl rfl (Zapp (KA (t := 54) rfl)) ?_
        rintro _ _ ⟨_, cc, hcc, rfl, rfl⟩
        refine ⟨AGX, ?_⟩
        refine WN ?_
        rotate_right
        refine WM ?_
        refine am_two (by rfl) (by rfl) (by rfl) ?_ ?_
        rotate_left
        refine WM ?_
        refine am_ef (i := 4) (by rfl) (by rfl) rfl rfl (Zapp (KA (t := 53) rfl)) ?_
        rintro _ _ ⟨_, cc, hcc, rfl, rfl⟩
        refine ⟨AGX, ?_⟩
        refine am_ef (i := 9) (by rfl) (by rfl) rfl rfl (Zapp (KA (t := 54) rfl)) ?_
        rintro _ _ ⟨_, cc, hcc, rfl, rfl⟩
        refine ⟨AGX, ?_⟩
        refine WN ?_
        rotate_right
        refine am_ef (i := 4) (by rfl) (by rfl) rfl rfl (Zapp (KA (t := 53) rfl)) ?_
        rintro _ _ ⟨_, cc, hcc, rfl, rfl⟩
        refine ⟨AGX, ?_⟩
        refine WM ?_
        refine am_ef (i := 9) (by rfl) (by rfl) rfl rfl (Zapp (KA (t := 54) rfl)) ?_
        rintro _ _ ⟨_, cc, hcc, rfl, rfl⟩
        refine ⟨AGX, ?_⟩
        refine WN ?_
      all_goals (refine WA ?_)
      all_goals (refine wk_of [some 0, some 1, some 2] (fun _ => [(10, .o 1 0 (A ++ [[CV.r pv (sR ps)]]).length _), (11, .o 2 0 (C ++ [[B pb]]).length _), (41, .o 0 0 l.length co), (42, .c (I l.length)), (43, .c (I (j + 1 : Nat)))]) (fun _ => _) (by decide) (ZNL hE) ZCF ZCH (fun _ => ?_))
      all_goals (exact ⟨m - 1, by omega, j + 1, _, _, A ++ [[CV.r pv (sR ps)]], C ++ [[B pb]], by omega, by simp; omega, by simp; omega, by rw [ht, hA]; simp, by rw [ht, hC]; simp, rfl, rfl⟩)
    obtain rfl : l.length = j := by omega
    refine ZZ ?_
    rw [List.take_of_length_le (Nat.le_refl _)] at hA hC
    refine WA ?_
    exact aret_of (us := [.o 1 0 A.length ca, .o 2 0 C.length cb]) [] (fun g => .t [.c (.r (g (.o 1 0 A.length ca)) A), .c (.r (g (.o 2 0 C.length cb)) C)]) (fun _ => []) (.tmp rfl (.tmp rfl .nil)) (by decide) (ZNK rfl) (fun _ => .tL (.cons (.frz rfl rfl (by rw [List.drop_zero, List.take_length]) rfl rfl) (.cons (.frz rfl rfl (by rw [List.drop_zero, List.take_length]) rfl rfl) .nil))) (fun _ => .nil) (fun g => ⟨_, _, l, by rw [hA, hC], rfl, hcon⟩)
  · obtain ⟨i, rfl, ⟨g, hg, hgo⟩, hbef⟩ := hr2 (by omega)
    clear hr1 hr2
    refine ZZ ?_
    refine WR ?_
    refine al_ef rfl (ef_call [0, 1] (fun _ => [.box [.o 1 0 L.length c], .arr 77 5 c (gR L)]) false (fun _ => take_v T hok sn hsn (by omega) L hL c hc i g hg) rfl (.clo rfl) rfl (by decide) (by kernel_rfl) rfl ZCH (by decide) ZCH (by simp)) ?_
    rintro F1 H1 ⟨_, _, _, _, ⟨q0, r, cl, L', rfl, rfl, hch, hL'⟩, hF, hH⟩
    (try simp only [List.set_cons_zero, List.set_cons_succ, updH, posOf, lentArr, killF, killO, killV, AV.has, AV.hasL, AV.emb, AV.embL, OB.emb, embB, List.filter_cons, List.filter_nil, List.getElem?_cons_zero, List.getElem?_cons_succ, List.getD_cons_zero, List.getD_cons_succ, List.drop_succ_cons, List.drop_zero, List.drop_nil, List.contains_cons, List.contains_nil, Nat.reduceBEq, Nat.reduceEqDiff, beq_self_eq_true, Bool.or_false, Bool.false_or, Bool.or_true, Bool.true_or, Bool.false_eq_true, Option.map_some, Option.map_none, List.map_cons, List.map_nil, List.cons_append, List.nil_append, List.append_nil, List.length_cons, List.length_nil, Nat.reduceAdd, Nat.reduceLT, Nat.reduceSub, if_true, if_false, Nat.zero_add, Nat.add_zero, Nat.sub_zero, Nat.lt_irrefl, Nat.not_lt_zero, Nat.zero_lt_one, Nat.lt_add_one] at hF); (try simp only [List.set_cons_zero, List.set_cons_succ, updH, posOf, lentArr, killF, killO, killV, AV.has, AV.hasL, AV.emb, AV.embL, OB.emb, embB, List.filter_cons, List.filter_nil, List.getElem?_cons_zero, List.getElem?_cons_succ, List.getD_cons_zero, List.getD_cons_succ, List.drop_succ_cons, List.drop_zero, List.drop_nil, List.contains_cons, List.contains_nil, Nat.reduceBEq, Nat.reduceEqDiff, beq_self_eq_true, Bool.or_false, Bool.false_or, Bool.or_true, Bool.true_or, Bool.false_eq_true, Option.map_some, Option.map_none, List.map_cons, List.map_nil, List.cons_append, List.nil_append, List.append_nil, List.length_cons, List.length_nil, Nat.reduceAdd, Nat.reduceLT, Nat.reduceSub, if_true, if_false, Nat.zero_add, Nat.add_zero, Nat.sub_zero, Nat.lt_irrefl, Nat.not_lt_zero, Nat.zero_lt_one, Nat.lt_add_one] at hH); subst hF; subst hH
    refine WO ?_
    refine al_ef rfl (Zapp (KA (t := 135) rfl)) ?_
    rintro _ _ ⟨_, cc, hcc, rfl, rfl⟩
    refine WE ?_
    obtain ⟨hct, hsn', hstep⟩ := ph1_step hok hsn (hL ▸ hg) (hL ▸ hgo) (hL ▸ hbef) hch
    subst hct
    have hlt := leftP_lt (S := T) (p := sn.contains) (q := (sn ++ g.fr :: r).contains) (g := g) (fun s hs => by simp at hs ⊢; exact .inl hs) (hL ▸ List.mem_of_getElem? hg) (by simp)
    rw [← hL, ← hL'] at hlt
    refine wk_of [some 0, some 1, some 2] (fun _ => [(6, .p 0 0 0), (7, .o 2 0 (O ++ [(q0, (g.fr :: r, false))]).length cc), (8, .f (.func 85) [.p 0 0 0])]) (fun _ => [.box [.o 1 0 L'.length c], .arr 77 5 c (gR L'), .arr 137 2 cc (cR O ++ [conRow (q0, (g.fr :: r, false))])]) (by decide) (ZNL hE) ZCF ZCH (fun _ => ?_)
    refine ⟨L'.length, by omega, sn ++ g.fr :: r, L', O ++ [(q0, (g.fr :: r, false))], cc, rfl, hsn', hL', by omega, by simp; omega, fun o s' h => ?_, rfl, by simp⟩
    rw [List.map_append, List.append_assoc]
    exact hinv _ _ (hstep o s' h)
end Go.Proofs.YtlblimbelfenaaaGreat

/- Small functions of the program and of its document, by value: within a span, first errors, searches and comparisons of lists. -/
namespace Go.Proofs.YtlblimbelfenaaaGreat
open Go Go.RowKit
set_option maxRecDepth 100000
theorem take_nextk {α : Type} {l : List α} {k : Nat} {s : α} (h : l[k]? = some s) : l.take (k + 1) = l.take k ++ [s] := by
  rw [List.take_add_one, h]; rfl
end Go.Proofs.YtlblimbelfenaaaGreat
