/- Alike: the program's and the reference's, by value. -/
import Derived.Test.YtlblimbelfenaaaGreatQbi
set_option linter.unusedSimpArgs false
set_option linter.unusedVariables false
/- Ends and Alike: the program's and the reference's, by value. -/
-- NEWM
namespace Go.Proofs.YtlblimbelfenaaaGreat
open Go Go.RowKit
set_option maxRecDepth 100000
theorem same_v (l l' : List (Value × Con)) (v v' : Value) (hl : l.length ≤ 1000000) (hl' : l'.length ≤ 1000000) (hs : ∀ p ∈ l, p.2.1.length ≤ 1000000) (hs' : ∀ p ∈ l', p.2.1.length ≤ 1000000) : ACalls Tryz.prog 31 [.c (.r v (sidR l)), .c (.r v' (sidR l'))] [] fun u H => ∃ b : Bool, u = .c (B b) ∧ H = [] ∧ (b = true ↔ l.map (fun p => p.2.1) = l'.map (fun p => p.2.1)) := by
  refine acalls_of (N := 8) Tryz.func31 rfl rfl (by simp) fun E hE => ?_
  refine WA ?_
  refine WR ?_
  refine al_ef rfl (ef_call0 false (fun _ => eqfS_a l l' v v' hl hl' hs hs') rfl .fn rfl (by decide) (by kernel_rfl) rfl (fun _g => .cons (.c rfl) (.cons (.c rfl) (.cons (.fL .nil) .nil))) (by simp)) ?_
  rintro _ _ ⟨_, _, _, ⟨bb, rfl, rfl, hb⟩, hF, hH⟩
  (try simp only [nsl, Nat.reduceAdd, Nat.reduceLT, Nat.reduceSub] at hF); (try simp only [nsl, Nat.reduceAdd, Nat.reduceLT, Nat.reduceSub] at hH); subst hF; subst hH
  refine WE ?_
  exact aret_1 [] _ rfl rfl rfl (by decide) (ZNK rfl) (fun _ => .nil) ⟨_, rfl, rfl, hb⟩
set_option maxHeartbeats 4000000 in
theorem ends_p (v w : Value) (V : List Vec3) (Fs : List Fac3) (z : Int) (hVl : V.length ≤ 1000000) (hFl : Fs.length ≤ 1000000) : ACalls Tryz.prog 22 [mshA v w V Fs, .c (I z)] [] fun u H => ∃ (q : Value) (L : List Sid2), u = .t [.c (.r q (sR L)), .c (I (pltF V Fs [z]))] ∧ H = [] ∧ EndsP V Fs z (pltF V Fs [z]) L := by
  refine acalls_of (N := 48) Tryz.func22 rfl rfl (by simp) fun E hE => ?_
  refine WA ?_
  refine WR ?_
  refine al_ef rfl (ef_call0 true (fun g => sfault_v v w (g (.o 1 0 1 1)) V Fs [z] hVl hFl (by simp)) rfl .fn rfl (by decide) (by kernel_rfl) rfl (fun _ => .cons (.aL (C0 rfl)) (.cons (.frz rfl rfl rfl rfl rfl) .nil)) (fun _ _ _ _ ⟨hu, hH⟩ => by rw [hu, hH]; exact ⟨.c (.inl trivial), by simp⟩)) ?_
  rintro _ _ ⟨_, _, _, ⟨rfl, rfl⟩, hF, hH⟩
  (try simp only [nsl, Nat.reduceAdd, Nat.reduceLT, Nat.reduceSub] at hF); (try simp only [nsl, Nat.reduceAdd, Nat.reduceLT, Nat.reduceSub] at hH); subst hF; subst hH
  refine WE ?_
  refine WA ?_
  refine aw_if rfl (fun h0 => ?_) (fun h0 => ?_)
  · refine WA ?_
    exact aret_2 [] _ rfl rfl rfl rfl rfl (by decide) (ZNK rfl) (fun _ => .nil) ⟨_, [], rfl, rfl, fun _ => rfl, fun h => absurd h h0⟩
  obtain ⟨hM, hz⟩ := pltF_ok (show pltF V Fs [z] = 0 by omega)
  have hlf := hM.lf
  have hok := sgL_ok (z := z) hM
  have hSl := sgL_len V Fs z
  refine ZZ ?_
  refine WA ?_
  refine WR ?_
  refine al_ef rfl (ef_call0 false (fun _ => contours_p v w V Fs z hM) rfl .fn rfl (by decide) (by kernel_rfl) rfl (fun _ => C0 rfl) (by simp)) ?_
  rintro _ _ ⟨_, _, _, ⟨q, l, rfl, rfl, hcon⟩, hF, hH⟩
  (try simp only [nsl, Nat.reduceAdd, Nat.reduceLT, Nat.reduceSub] at hF); (try simp only [nsl, Nat.reduceAdd, Nat.reduceLT, Nat.reduceSub] at hH); subst hF; subst hH
  refine WE ?_
  have hsm := hcon.small hok
  have hl1000 : l.length ≤ 1000 := by have := hsm.1; rw [List.length_map] at this; omega
  have hne : ∀ p ∈ l, p.2.1 ≠ [] ∧ p.2.1.length ≤ 1001 := fun p hp => by
    obtain ⟨h1, h2⟩ := hsm.2 p.2 (List.mem_map.2 ⟨p, hp, rfl⟩)
    exact ⟨h1, by omega⟩
  clear hsm
  have e5 : (cR l).length = l.length := by simp
  refine aw_loopw (fun m F H => ∃ (j c : Nat) (L : List Sid2), m + j = l.length ∧ L.length ≤ 2 * j ∧ L.length ≤ c ∧ L = endT ((l.map Prod.snd).take j) ∧ F = [(7, .o 0 0 L.length c), (19, .c (.r q (cR l))), (20, .c (I (cR l).length)), (21, .c (I j))] ∧ H = [.arr 70 2 c (sR L)]) ?_ ?_
  · refine wk_of [none] (fun _ => [(7, .o 0 0 0 0), (19, .c (.r q (cR l))), (20, .c (I (cR l).length)), (21, .c (I (0 : Nat)))]) (fun _ => [.arr 70 2 0 []]) (by decide) (ZNL hE) ZCF ZCH (fun _ => ?_)
    exact ⟨l.length, 0, 0, [], by omega, by simp, by simp, rfl, rfl, rfl⟩
  rintro m F H ⟨j, c, L, hj, hL2, hcap, hLe, rfl, rfl⟩
  refine WA ?_
  refine aw_if rfl (fun hlt => ?_) (fun hge => ?_)
  · obtain ⟨p, hp⟩ : ∃ z, l[j]? = some z := ⟨_, List.getElem?_eq_getElem (by omega)⟩
    obtain ⟨hne0, hpl⟩ := hne p (List.mem_of_getElem? hp)
    have hnx := endT_next (cs := l.map Prod.snd) (j := j) (k := p.2) (by rw [List.getElem?_map, hp]; rfl)
    rw [← hLe] at hnx
    have hla := last_at hne0
    have hh0 := head_at hne0
    obtain ⟨pv, ps, pb⟩ := p
    simp only at hne0 hpl hla hh0
    have hgl : (ps.getLastD ⟨0, 0⟩) = laS (ps, pb) := rfl
    have hgh : (ps.headD ⟨0, 0⟩) = hdS (ps, pb) := rfl
    rw [hgl] at hla
    rw [hgh] at hh0
    have hpos : 1 ≤ ps.length := List.length_pos_iff.2 hne0
    have eS : (sR ps).length = ps.length := by simp
    simp only at hnx
    have hrow : (cR l)[j]? = some [.r pv (sR ps), B pb] := by rw [List.getElem?_map, hp]; rfl
    refine WA ?_
    cases pb with
    | true =>
      have hnx : endT ((l.map Prod.snd).take (j + 1)) = L := by rw [hnx]; simp
      refine WA ?_
      refine aw_cond_f rfl ?_
      refine ZZ ?_
      refine WA ?_
      refine wk_of [some 0] (fun _ => [(7, .o 0 0 L.length c), (19, .c (.r q (cR l))), (20, .c (I (cR l).length)), (21, .c (I (j + 1 : Nat)))]) (fun _ => _) (by decide) (ZNL hE) ZCF ZCH (fun _ => ?_)
      exact ⟨m - 1, by omega, j + 1, c, L, by omega, by omega, hcap, hnx.symm, rfl, rfl⟩
    | false =>
      have hnx : endT ((l.map Prod.snd).take (j + 1)) = L ++ [hdS (ps, false), laS (ps, false)] := by rw [hnx]; rfl
      generalize hdS (ps, false) = h0 at hh0 hnx
      generalize laS (ps, false) = hL at hla hnx
      obtain ⟨hf, ht⟩ := h0
      obtain ⟨lf, lt⟩ := hL
      have hd0 : (sR ps)[0]? = some [I hf, I ht] := by rw [List.getElem?_map, hh0]; rfl
      have hdL : (sR ps)[ps.length - 1]? = some [I lf, I lt] := by rw [List.getElem?_map, hla]; rfl
      refine WA ?_
      refine aw_cond_t rfl ?_
      refine ZZ ?_
      refine aw_regionT [(0, none), (1, none), (2, none), (3, none), (4, none), (5, none), (6, none), (7, none), (8, none), (9, none), (10, none), (11, none), (12, none), (13, some [0]), (14, some []), (15, none)] hMixed (by kernel_rfl) ?_
      iterate 3 refine WX2 ?_
      refine ZT rfl (rd_indexq (i := 0) rfl (KE (t := 57) rfl) rfl rfl rfl hd0 rfl) ?_
      iterate 7 refine WX2 ?_
      refine ZT rfl (rd_indexq (i := ps.length - 1) rfl (KE (t := 57) rfl) rfl rfl (by omega) hdL rfl) ?_
      refine WP ?_
      refine at_ef rfl rfl (Zapp (KA (t := 57) rfl)) ?_
      rintro _ _ ⟨_, cc, hcc, rfl, rfl⟩
      refine ⟨ag_none, ?_⟩
      refine WQ ?_
      refine WA ?_
      refine wk_of [some 0] (fun _ => [(7, .o 0 0 (L ++ [(⟨hf, ht⟩ : Sid2), ⟨lf, lt⟩]).length cc), (19, .c (.r q (cR l))), (20, .c (I (cR l).length)), (21, .c (I (j + 1 : Nat)))]) (fun _ => _) (by decide) (ZNL hE) ZCF ZCH (fun _ => ?_)
      exact ⟨m - 1, by omega, j + 1, cc, L ++ [⟨hf, ht⟩, ⟨lf, lt⟩], by omega, by simp; omega, by simp; omega, hnx.symm, rfl, by simp [sR]⟩
  obtain rfl : j = l.length := by omega
  rw [List.take_of_length_le (by simp)] at hLe
  have hsl := srtS_len L
  refine ZZ ?_
  refine WR ?_
  refine al_ef rfl (ef_callp [0] (fun _ => [.arr 70 2 c (sR L)]) false (fun _ => sortY_v 73 (by kernel_rfl) cmpS_v L c (by omega)) rfl .fn rfl (by decide) (by kernel_rfl) rfl ZCH (by decide) (fun _ => .arr rfl rfl .nil) (by simp)) ?_
  rintro F1 H1 ⟨_, _, _, _, ⟨rfl, rfl⟩, hF, hH⟩
  rw [killF_nil] at hF; (try simp only [List.set_cons_zero, List.set_cons_succ, updH, posOf, lentArr, killF, killO, killV, AV.has, AV.hasL, AV.emb, AV.embL, OB.emb, embB, List.filter_cons, List.filter_nil, List.getElem?_cons_zero, List.getElem?_cons_succ, List.getD_cons_zero, List.getD_cons_succ, List.drop_succ_cons, List.drop_zero, List.drop_nil, List.contains_cons, List.contains_nil, Nat.reduceBEq, Nat.reduceEqDiff, beq_self_eq_true, Bool.or_false, Bool.false_or, Bool.or_true, Bool.true_or, Bool.false_eq_true, Option.map_some, Option.map_none, List.map_cons, List.map_nil, List.cons_append, List.nil_append, List.append_nil, List.length_cons, List.length_nil, Nat.reduceAdd, Nat.reduceLT, Nat.reduceSub, if_true, if_false, Nat.zero_add, Nat.add_zero, Nat.sub_zero, Nat.lt_irrefl, Nat.not_lt_zero, Nat.zero_lt_one, Nat.lt_add_one] at hF); (try simp only [List.set_cons_zero, List.set_cons_succ, updH, posOf, lentArr, killF, killO, killV, AV.has, AV.hasL, AV.emb, AV.embL, OB.emb, embB, List.filter_cons, List.filter_nil, List.getElem?_cons_zero, List.getElem?_cons_succ, List.getD_cons_zero, List.getD_cons_succ, List.drop_succ_cons, List.drop_zero, List.drop_nil, List.contains_cons, List.contains_nil, Nat.reduceBEq, Nat.reduceEqDiff, beq_self_eq_true, Bool.or_false, Bool.false_or, Bool.or_true, Bool.true_or, Bool.false_eq_true, Option.map_some, Option.map_none, List.map_cons, List.map_nil, List.cons_append, List.nil_append, List.append_nil, List.length_cons, List.length_nil, Nat.reduceAdd, Nat.reduceLT, Nat.reduceSub, if_true, if_false, Nat.zero_add, Nat.add_zero, Nat.sub_zero, Nat.lt_irrefl, Nat.not_lt_zero, Nat.zero_lt_one, Nat.lt_add_one] at hH); subst hF; subst hH
  refine WE ?_
  refine WR ?_
  refine al_ef rfl (ef_call [0] (fun _ => [.arr 70 2 c (sR (srtS L))]) false (fun _ => compactS_v (srtS L) c (by omega) (by omega)) rfl .fn rfl (by decide) (by kernel_rfl) rfl (fun _ => .cons (.o rfl (by omega)) .nil) (by decide) ZCH (by simp)) ?_
  rintro F1 H1 ⟨_, _, _, _, ⟨rfl, rfl⟩, hF, hH⟩
  (try simp only [List.set_cons_zero, List.set_cons_succ, updH, posOf, lentArr, killF, killO, killV, AV.has, AV.hasL, AV.emb, AV.embL, OB.emb, embB, List.filter_cons, List.filter_nil, List.getElem?_cons_zero, List.getElem?_cons_succ, List.getD_cons_zero, List.getD_cons_succ, List.drop_succ_cons, List.drop_zero, List.drop_nil, List.contains_cons, List.contains_nil, Nat.reduceBEq, Nat.reduceEqDiff, beq_self_eq_true, Bool.or_false, Bool.false_or, Bool.or_true, Bool.true_or, Bool.false_eq_true, Option.map_some, Option.map_none, List.map_cons, List.map_nil, List.cons_append, List.nil_append, List.append_nil, List.length_cons, List.length_nil, Nat.reduceAdd, Nat.reduceLT, Nat.reduceSub, if_true, if_false, Nat.zero_add, Nat.add_zero, Nat.sub_zero, Nat.lt_irrefl, Nat.not_lt_zero, Nat.zero_lt_one, Nat.lt_add_one] at hF); (try simp only [List.set_cons_zero, List.set_cons_succ, updH, posOf, lentArr, killF, killO, killV, AV.has, AV.hasL, AV.emb, AV.embL, OB.emb, embB, List.filter_cons, List.filter_nil, List.getElem?_cons_zero, List.getElem?_cons_succ, List.getD_cons_zero, List.getD_cons_succ, List.drop_succ_cons, List.drop_zero, List.drop_nil, List.contains_cons, List.contains_nil, Nat.reduceBEq, Nat.reduceEqDiff, beq_self_eq_true, Bool.or_false, Bool.false_or, Bool.or_true, Bool.true_or, Bool.false_eq_true, Option.map_some, Option.map_none, List.map_cons, List.map_nil, List.cons_append, List.nil_append, List.append_nil, List.length_cons, List.length_nil, Nat.reduceAdd, Nat.reduceLT, Nat.reduceSub, if_true, if_false, Nat.zero_add, Nat.add_zero, Nat.sub_zero, Nat.lt_irrefl, Nat.not_lt_zero, Nat.zero_lt_one, Nat.lt_add_one] at hH); subst hF; subst hH
  refine WE ?_
  exact aret_f2 [] _ rfl rfl rfl rfl rfl rfl (by rw [List.drop_zero, List.take_of_length_le (by simp)]) (by simp) rfl (by decide) (ZNK rfl) (fun _ => .nil) (fun q => ⟨q, compG (srtS L), by rw [show pltF V Fs [z] = 0 by omega], rfl, fun h => absurd h h0, fun _ => ⟨_, hcon, by rw [hLe]; rfl⟩⟩)
set_option maxHeartbeats 4000000 in
theorem ends_r (v w : Value) (V : List Vec3) (Fs : List Fac3) (z : Int) (hM : MOk V Fs) : ACalls Tryz.prog 26 [mshA v w V Fs, .c (I z)] [] fun u H => ∃ (q : Value) (cs : List Con), u = .c (.r q (sR (endL cs))) ∧ H = [] ∧ IsConts (sgL V Fs z) cs := by
  have hlf := hM.lf
  have hok := sgL_ok (z := z) hM
  have hSl := sgL_len V Fs z
  refine acalls_of (N := 45) Tryz.func26 rfl rfl (by simp) fun E hE => ?_
  refine WA ?_
  refine WA ?_
  refine WR ?_
  refine al_ef rfl (ef_call0 false (fun _ => contours_r v w V Fs z hM) rfl .fn rfl (by decide) (by kernel_rfl) rfl (fun _ => C0 rfl) (by simp)) ?_
  rintro _ _ ⟨_, _, _, ⟨q1, q2, l, rfl, rfl, hcon⟩, hF, hH⟩
  (try simp only [nsl, Nat.reduceAdd, Nat.reduceLT, Nat.reduceSub] at hF); (try simp only [nsl, Nat.reduceAdd, Nat.reduceLT, Nat.reduceSub] at hH); subst hF; subst hH
  refine WE ?_
  have hsm := hcon.small hok
  have hl1000 : l.length ≤ 1000 := by have := hsm.1; rw [List.length_map] at this; omega
  have hne : ∀ p ∈ l, p.2.1 ≠ [] ∧ p.2.1.length ≤ 1001 := fun p hp => by
    obtain ⟨h1, h2⟩ := hsm.2 p.2 (List.mem_map.2 ⟨p, hp, rfl⟩)
    exact ⟨h1, by omega⟩
  clear hsm
  have e5 : (sidR l).length = l.length := by simp
  refine WA ?_
  refine aw_loopw (fun m F H => ∃ (j c : Nat) (L : List Sid2), m + j = l.length ∧ L.length ≤ 2 * j ∧ L.length ≤ c ∧ L = endT ((l.map Prod.snd).take j) ∧ F = [(5, .o 0 0 L.length c), (7, .c (.r q2 (cloR l))), (16, .c (.r q1 (sidR l))), (17, .c (I (sidR l).length)), (18, .c (I j))] ∧ H = [.arr 70 2 c (sR L)]) ?_ ?_
  · refine wk_of [none] (fun _ => [(5, .o 0 0 0 0), (7, .c (.r q2 (cloR l))), (16, .c (.r q1 (sidR l))), (17, .c (I (sidR l).length)), (18, .c (I (0 : Nat)))]) (fun _ => [.arr 70 2 0 []]) (by decide) (ZNL hE) ZCF ZCH (fun _ => ?_)
    exact ⟨l.length, 0, 0, [], by omega, by simp, by simp, rfl, rfl, rfl⟩
  rintro m F H ⟨j, c, L, hj, hL2, hcap, hLe, rfl, rfl⟩
  refine WA ?_
  refine aw_if rfl (fun hlt => ?_) (fun hge => ?_)
  · obtain ⟨p, hp⟩ : ∃ z, l[j]? = some z := ⟨_, List.getElem?_eq_getElem (by omega)⟩
    obtain ⟨hne0, hpl⟩ := hne p (List.mem_of_getElem? hp)
    have hnx := endT_next (cs := l.map Prod.snd) (j := j) (k := p.2) (by rw [List.getElem?_map, hp]; rfl)
    rw [← hLe] at hnx
    have hla := last_at hne0
    have hh0 := head_at hne0
    obtain ⟨pv, ps, pb⟩ := p
    simp only at hne0 hpl hla hh0
    have hgl : (ps.getLastD ⟨0, 0⟩) = laS (ps, pb) := rfl
    have hgh : (ps.headD ⟨0, 0⟩) = hdS (ps, pb) := rfl
    rw [hgl] at hla
    rw [hgh] at hh0
    have hpos : 1 ≤ ps.length := List.length_pos_iff.2 hne0
    have eS : (sR ps).length = ps.length := by simp
    simp only at hnx
    have hrow : (sidR l)[j]? = some [.r pv (sR ps)] := by rw [List.getElem?_map, hp]; rfl
    have hrow2 : (cloR l)[j]? = some [B pb] := by rw [List.getElem?_map, hp]; rfl
    refine WA ?_
    cases pb with
    | true =>
      have hnx : endT ((l.map Prod.snd).take (j + 1)) = L := by rw [hnx]; simp
      refine WA ?_
      refine aw_cond_f rfl ?_
      refine ZZ ?_
      refine WA ?_
      refine wk_of [some 0] (fun _ => [(5, .o 0 0 L.length c), (7, .c (.r q2 (cloR l))), (16, .c (.r q1 (sidR l))), (17, .c (I (sidR l).length)), (18, .c (I (j + 1 : Nat)))]) (fun _ => _) (by decide) (ZNL hE) ZCF ZCH (fun _ => ?_)
      exact ⟨m - 1, by omega, j + 1, c, L, by omega, by omega, hcap, hnx.symm, rfl, rfl⟩
    | false =>
      have hnx : endT ((l.map Prod.snd).take (j + 1)) = L ++ [hdS (ps, false), laS (ps, false)] := by rw [hnx]; rfl
      generalize hdS (ps, false) = h0 at hh0 hnx
      generalize laS (ps, false) = hL at hla hnx
      obtain ⟨hf, ht⟩ := h0
      obtain ⟨lf, lt⟩ := hL
      have hd0 : (sR ps)[0]? = some [I hf, I ht] := by rw [List.getElem?_map, hh0]; rfl
      have hdL : (sR ps)[ps.length - 1]? = some [I lf, I lt] := by rw [List.getElem?_map, hla]; rfl
      refine WA ?_
      refine aw_cond_t rfl ?_
      refine ZZ ?_
      refine aw_regionT [(0, none), (1, none), (2, none), (3, none), (4, none), (5, none), (6, none), (7, none), (8, none), (9, none), (10, some [0]), (11, some []), (12, none)] hMixed (by kernel_rfl) ?_
      iterate 2 refine WX2 ?_
      refine ZT rfl (rd_indexq (i := 0) rfl (KE (t := 57) rfl) rfl rfl rfl hd0 rfl) ?_
      iterate 5 refine WX2 ?_
      refine ZT rfl (rd_indexq (i := ps.length - 1) rfl (KE (t := 57) rfl) rfl rfl (by omega) hdL rfl) ?_
      refine WP ?_
      refine at_ef rfl rfl (Zapp (KA (t := 57) rfl)) ?_
      rintro _ _ ⟨_, cc, hcc, rfl, rfl⟩
      refine ⟨ag_none, ?_⟩
      refine WQ ?_
      refine WA ?_
      refine wk_of [some 0] (fun _ => [(5, .o 0 0 (L ++ [(⟨hf, ht⟩ : Sid2), ⟨lf, lt⟩]).length cc), (7, .c (.r q2 (cloR l))), (16, .c (.r q1 (sidR l))), (17, .c (I (sidR l).length)), (18, .c (I (j + 1 : Nat)))]) (fun _ => _) (by decide) (ZNL hE) ZCF ZCH (fun _ => ?_)
      exact ⟨m - 1, by omega, j + 1, cc, L ++ [⟨hf, ht⟩, ⟨lf, lt⟩], by omega, by simp; omega, by simp; omega, hnx.symm, rfl, by simp [sR]⟩
  obtain rfl : j = l.length := by omega
  rw [List.take_of_length_le (by simp)] at hLe
  have hsl := srtS_len L
  refine ZZ ?_
  refine WR ?_
  refine al_ef rfl (ef_callp [0] (fun _ => [.arr 70 2 c (sR L)]) false (fun _ => sortY_v 79 (by kernel_rfl) rcmpS_v L c (by omega)) rfl .fn rfl (by decide) (by kernel_rfl) rfl ZCH (by decide) (fun _ => .arr rfl rfl .nil) (by simp)) ?_
  rintro F1 H1 ⟨_, _, _, _, ⟨rfl, rfl⟩, hF, hH⟩
  rw [killF_nil] at hF; (try simp only [List.set_cons_zero, List.set_cons_succ, updH, posOf, lentArr, killF, killO, killV, AV.has, AV.hasL, AV.emb, AV.embL, OB.emb, embB, List.filter_cons, List.filter_nil, List.getElem?_cons_zero, List.getElem?_cons_succ, List.getD_cons_zero, List.getD_cons_succ, List.drop_succ_cons, List.drop_zero, List.drop_nil, List.contains_cons, List.contains_nil, Nat.reduceBEq, Nat.reduceEqDiff, beq_self_eq_true, Bool.or_false, Bool.false_or, Bool.or_true, Bool.true_or, Bool.false_eq_true, Option.map_some, Option.map_none, List.map_cons, List.map_nil, List.cons_append, List.nil_append, List.append_nil, List.length_cons, List.length_nil, Nat.reduceAdd, Nat.reduceLT, Nat.reduceSub, if_true, if_false, Nat.zero_add, Nat.add_zero, Nat.sub_zero, Nat.lt_irrefl, Nat.not_lt_zero, Nat.zero_lt_one, Nat.lt_add_one] at hF); (try simp only [List.set_cons_zero, List.set_cons_succ, updH, posOf, lentArr, killF, killO, killV, AV.has, AV.hasL, AV.emb, AV.embL, OB.emb, embB, List.filter_cons, List.filter_nil, List.getElem?_cons_zero, List.getElem?_cons_succ, List.getD_cons_zero, List.getD_cons_succ, List.drop_succ_cons, List.drop_zero, List.drop_nil, List.contains_cons, List.contains_nil, Nat.reduceBEq, Nat.reduceEqDiff, beq_self_eq_true, Bool.or_false, Bool.false_or, Bool.or_true, Bool.true_or, Bool.false_eq_true, Option.map_some, Option.map_none, List.map_cons, List.map_nil, List.cons_append, List.nil_append, List.append_nil, List.length_cons, List.length_nil, Nat.reduceAdd, Nat.reduceLT, Nat.reduceSub, if_true, if_false, Nat.zero_add, Nat.add_zero, Nat.sub_zero, Nat.lt_irrefl, Nat.not_lt_zero, Nat.zero_lt_one, Nat.lt_add_one] at hH); subst hF; subst hH
  refine WE ?_
  refine WR ?_
  refine al_ef rfl (ef_call [0] (fun _ => [.arr 70 2 c (sR (srtS L))]) false (fun _ => compactS_v (srtS L) c (by omega) (by omega)) rfl .fn rfl (by decide) (by kernel_rfl) rfl (fun _ => .cons (.o rfl (by omega)) .nil) (by decide) ZCH (by simp)) ?_
  rintro F1 H1 ⟨_, _, _, _, ⟨rfl, rfl⟩, hF, hH⟩
  (try simp only [List.set_cons_zero, List.set_cons_succ, updH, posOf, lentArr, killF, killO, killV, AV.has, AV.hasL, AV.emb, AV.embL, OB.emb, embB, List.filter_cons, List.filter_nil, List.getElem?_cons_zero, List.getElem?_cons_succ, List.getD_cons_zero, List.getD_cons_succ, List.drop_succ_cons, List.drop_zero, List.drop_nil, List.contains_cons, List.contains_nil, Nat.reduceBEq, Nat.reduceEqDiff, beq_self_eq_true, Bool.or_false, Bool.false_or, Bool.or_true, Bool.true_or, Bool.false_eq_true, Option.map_some, Option.map_none, List.map_cons, List.map_nil, List.cons_append, List.nil_append, List.append_nil, List.length_cons, List.length_nil, Nat.reduceAdd, Nat.reduceLT, Nat.reduceSub, if_true, if_false, Nat.zero_add, Nat.add_zero, Nat.sub_zero, Nat.lt_irrefl, Nat.not_lt_zero, Nat.zero_lt_one, Nat.lt_add_one] at hF); (try simp only [List.set_cons_zero, List.set_cons_succ, updH, posOf, lentArr, killF, killO, killV, AV.has, AV.hasL, AV.emb, AV.embL, OB.emb, embB, List.filter_cons, List.filter_nil, List.getElem?_cons_zero, List.getElem?_cons_succ, List.getD_cons_zero, List.getD_cons_succ, List.drop_succ_cons, List.drop_zero, List.drop_nil, List.contains_cons, List.contains_nil, Nat.reduceBEq, Nat.reduceEqDiff, beq_self_eq_true, Bool.or_false, Bool.false_or, Bool.or_true, Bool.true_or, Bool.false_eq_true, Option.map_some, Option.map_none, List.map_cons, List.map_nil, List.cons_append, List.nil_append, List.append_nil, List.length_cons, List.length_nil, Nat.reduceAdd, Nat.reduceLT, Nat.reduceSub, if_true, if_false, Nat.zero_add, Nat.add_zero, Nat.sub_zero, Nat.lt_irrefl, Nat.not_lt_zero, Nat.zero_lt_one, Nat.lt_add_one] at hH); subst hF; subst hH
  refine WE ?_
  exact aret_f1 [] _ rfl rfl rfl rfl (by rw [List.drop_zero, List.take_of_length_le (by simp)]) (by simp) rfl (by decide) (ZNK rfl) (fun _ => .nil) (fun q => ⟨q, l.map Prod.snd, by rw [hLe]; rfl, rfl, hcon⟩)
end Go.Proofs.YtlblimbelfenaaaGreat

/- Alike: the program's and the reference's, by value. -/
-- NEWM
namespace Go.Proofs.YtlblimbelfenaaaGreat
open Go Go.RowKit
set_option maxRecDepth 100000
theorem pltF_ok2 {V : List Vec3} {Fs : List Fac3} {z y : Int} (h : pltF V Fs [z, y] = 0) : MOk V Fs ∧ (-100000 ≤ z ∧ z ≤ 100000) ∧ (-100000 ≤ y ∧ y ≤ 100000) := by
  unfold pltF at h
  split at h
  · contradiction
  · rename_i h1
    refine ⟨mok_of (by omega), ?_⟩
    unfold plnF at h
    split at h
    · cases h
    · rename_i h2
      simp [farI] at h2
      omega
theorem pair_lists {α β γ : Type} {f : γ → α × β} : ∀ {l l' : List γ}, l.map (fun p => (f p).1) = l'.map (fun p => (f p).1) → l.map (fun p => (f p).2) = l'.map (fun p => (f p).2) → l.map f = l'.map f
  | [], [], _, _ => rfl
  | [], _ :: _, h, _ => by cases h
  | _ :: _, [], h, _ => by cases h
  | p :: l, p' :: l', h, h' => by
    simp only [List.map_cons, List.cons.injEq] at h h' ⊢
    exact ⟨Prod.ext h.1 h'.1, pair_lists h.2 h'.2⟩
theorem pair_iff {l l' : List (Value × Con)} : (l.map (fun p => p.2.1) = l'.map (fun p => p.2.1) ∧ l.map (fun p => p.2.2) = l'.map (fun p => p.2.2)) ↔ l.map Prod.snd = l'.map Prod.snd := by
  constructor
  · rintro ⟨h1, h2⟩; exact pair_lists (f := Prod.snd) h1 h2
  · intro h
    have h1 := congrArg (List.map Prod.fst) h
    have h2 := congrArg (List.map Prod.snd) h
    rw [List.map_map, List.map_map] at h1 h2
    exact ⟨h1, h2⟩
theorem con_small {S : List Seg5} (hok : SegOk S) (hS : S.length ≤ 1000) {l : List (Value × Con)} (h : IsConts S (l.map Prod.snd)) : l.length ≤ 1000000 ∧ ∀ p ∈ l, p.2.1.length ≤ 1000000 := by
  obtain ⟨h1, h2⟩ := h.small hok
  rw [List.length_map] at h1
  refine ⟨by omega, fun p hp => ?_⟩
  have := (h2 p.2 (List.mem_map.2 ⟨p, hp, rfl⟩)).2
  omega
set_option maxHeartbeats 2000000 in
theorem alike_p (v w : Value) (V : List Vec3) (Fs : List Fac3) (z y : Int) (hVl : V.length ≤ 1000000) (hFl : Fs.length ≤ 1000000) : ACalls Tryz.prog 23 [mshA v w V Fs, .c (I z), .c (I y)] [] fun u H => ∃ b : Bool, u = .t [.c (B b), .c (I (pltF V Fs [z, y]))] ∧ H = [] ∧ AlkP V Fs z y (pltF V Fs [z, y]) b := by
  refine acalls_of (N := 24) Tryz.func23 rfl rfl (by simp) fun E hE => ?_
  refine WA ?_
  refine WR ?_
  refine al_ef rfl (ef_call0 true (fun g => sfault_v v w (g (.o 1 0 2 2)) V Fs [z, y] hVl hFl (by simp)) rfl .fn rfl (by decide) (by kernel_rfl) rfl (fun _ => .cons (.aL (C0 rfl)) (.cons (.frz rfl rfl rfl rfl rfl) .nil)) (fun _ _ _ _ ⟨hu, hH⟩ => by rw [hu, hH]; exact ⟨.c (.inl trivial), by simp⟩)) ?_
  rintro _ _ ⟨_, _, _, ⟨rfl, rfl⟩, hF, hH⟩
  (try simp only [nsl, Nat.reduceAdd, Nat.reduceLT, Nat.reduceSub] at hF); (try simp only [nsl, Nat.reduceAdd, Nat.reduceLT, Nat.reduceSub] at hH); subst hF; subst hH
  refine WE ?_
  refine WA ?_
  refine aw_if rfl (fun h0 => ?_) (fun h0 => ?_)
  · refine WA ?_
    exact aret_2 [] _ rfl rfl rfl rfl rfl (by decide) (ZNK rfl) (fun _ => .nil) ⟨false, rfl, rfl, fun _ => rfl, fun h => absurd h h0⟩
  obtain ⟨hM, hz, hy⟩ := pltF_ok2 (show pltF V Fs [z, y] = 0 by omega)
  have hlf := hM.lf
  have hSz := sgL_len V Fs z
  have hSy := sgL_len V Fs y
  refine ZZ ?_
  refine aw_regionT [(0, none), (1, none), (3, none), (4, none), (2, some [3, 4]), (5, some []), (6, some []), (7, none), (8, none)] hMixed (by kernel_rfl) ?_
  refine WP ?_
  refine at_ef rfl rfl (ef_call0 false (fun _ => contours_p v w V Fs z hM) rfl .fn rfl (by decide) (by kernel_rfl) rfl (fun _ => C0 rfl) (by simp)) ?_
  rintro _ _ ⟨_, _, _, ⟨qz, lz, rfl, rfl, hconz⟩, hF, hH⟩
  (try simp only [nsl, Nat.reduceAdd, Nat.reduceLT, Nat.reduceSub] at hF); (try simp only [nsl, Nat.reduceAdd, Nat.reduceLT, Nat.reduceSub] at hH); subst hF; subst hH
  refine ⟨ag_cons (by first | exact ag_rd rfl rfl rfl (ZK (KK (t := 29) rfl)) rfl) (ag_cons (by first | exact ag_rd rfl rfl rfl (rd_move rfl rfl) rfl) (ag_none)), ?_⟩
  refine at_ef rfl rfl (ef_call0 false (fun _ => contours_p v w V Fs y hM) rfl .fn rfl (by decide) (by kernel_rfl) rfl (fun _ => C0 rfl) (by simp)) ?_
  rintro _ _ ⟨_, _, _, ⟨qy, ly, rfl, rfl, hcony⟩, hF, hH⟩
  (try simp only [nsl, Nat.reduceAdd, Nat.reduceLT, Nat.reduceSub] at hF); (try simp only [nsl, Nat.reduceAdd, Nat.reduceLT, Nat.reduceSub] at hH); subst hF; subst hH
  refine ⟨ag_none, ?_⟩
  refine at_ef rfl rfl (ef_call0 false (fun _ => eqfC_a lz ly qz qy (con_small (sgL_ok hM) (by omega) hconz).1 (con_small (sgL_ok hM) (by omega) hcony).1 (con_small (sgL_ok hM) (by omega) hconz).2 (con_small (sgL_ok hM) (by omega) hcony).2) rfl .fn rfl (by decide) (by kernel_rfl) rfl (fun _g => .cons (.c rfl) (.cons (.c rfl) (.cons (.fL .nil) .nil))) (by simp)) ?_
  rintro _ _ ⟨_, _, _, ⟨bb, rfl, rfl, hb⟩, hF, hH⟩
  (try simp only [nsl, Nat.reduceAdd, Nat.reduceLT, Nat.reduceSub] at hF); (try simp only [nsl, Nat.reduceAdd, Nat.reduceLT, Nat.reduceSub] at hH); subst hF; subst hH
  refine ⟨ag_none, ?_⟩
  refine WQ ?_
  exact aret_2 [] _ rfl rfl rfl rfl rfl (by decide) (ZNK rfl) (fun _ => .nil) ⟨bb, by rw [show pltF V Fs [z, y] = 0 by omega], rfl, fun h => absurd h h0, fun _ => ⟨_, _, hconz, hcony, hb⟩⟩
set_option maxHeartbeats 2000000 in
theorem alike_r (v w : Value) (V : List Vec3) (Fs : List Fac3) (z y : Int) (hM : MOk V Fs) : ACalls Tryz.prog 28 [mshA v w V Fs, .c (I z), .c (I y)] [] fun u H => ∃ (b : Bool) (cs cs' : List Con), u = .c (B b) ∧ H = [] ∧ IsConts (sgL V Fs z) cs ∧ IsConts (sgL V Fs y) cs' ∧ (b = true ↔ cs = cs') := by
  have hlf := hM.lf
  have hSz := sgL_len V Fs z
  have hSy := sgL_len V Fs y
  refine acalls_of (N := 31) Tryz.func28 rfl rfl (by simp) fun E hE => ?_
  refine WA ?_
  refine WR ?_
  refine al_ef rfl (ef_call0 false (fun _ => contours_r v w V Fs z hM) rfl .fn rfl (by decide) (by kernel_rfl) rfl (fun _ => C0 rfl) (by simp)) ?_
  rintro _ _ ⟨_, _, _, ⟨qz, rz, lz, rfl, rfl, hconz⟩, hF, hH⟩
  (try simp only [nsl, Nat.reduceAdd, Nat.reduceLT, Nat.reduceSub] at hF); (try simp only [nsl, Nat.reduceAdd, Nat.reduceLT, Nat.reduceSub] at hH); subst hF; subst hH
  refine WE ?_
  refine WR ?_
  refine al_ef rfl (ef_call0 false (fun _ => contours_r v w V Fs y hM) rfl .fn rfl (by decide) (by kernel_rfl) rfl (fun _ => C0 rfl) (by simp)) ?_
  rintro _ _ ⟨_, _, _, ⟨qy, ry, ly, rfl, rfl, hcony⟩, hF, hH⟩
  (try simp only [nsl, Nat.reduceAdd, Nat.reduceLT, Nat.reduceSub] at hF); (try simp only [nsl, Nat.reduceAdd, Nat.reduceLT, Nat.reduceSub] at hH); subst hF; subst hH
  refine WE ?_
  have k1 := con_small (sgL_ok hM) (by omega) hconz
  have k2 := con_small (sgL_ok hM) (by omega) hcony
  have hmz : cloR lz = bR (lz.map fun p => p.2.2) := by simp [cloR, bR]
  have hmy : cloR ly = bR (ly.map fun p => p.2.2) := by simp [cloR, bR]
  refine WR ?_
  refine al_ef rfl (ef_call0 false (fun _ => eqfS_a lz ly qz qy k1.1 k2.1 k1.2 k2.2) rfl .fn rfl (by decide) (by kernel_rfl) rfl (fun _g => .cons (.c rfl) (.cons (.c rfl) (.cons (.fL .nil) .nil))) (by simp)) ?_
  rintro _ _ ⟨_, _, _, ⟨bb, rfl, rfl, hb⟩, hF, hH⟩
  (try simp only [nsl, Nat.reduceAdd, Nat.reduceLT, Nat.reduceSub] at hF); (try simp only [nsl, Nat.reduceAdd, Nat.reduceLT, Nat.reduceSub] at hH); subst hF; subst hH
  cases bb with
  | false =>
    refine WE ?_
    refine aret_1 [] _ rfl rfl rfl (by decide) (ZNK rfl) (fun _ => .nil) ⟨_, _, _, rfl, rfl, hconz, hcony, ?_⟩
    rw [← pair_iff, ← hb]
    simp
  | true =>
    refine WO ?_
    refine G1 rfl ?_
    refine al_ef rfl (ef_call0 false (fun _ => eqBl_a (lz.map fun p => p.2.2) (ly.map fun p => p.2.2) rz ry (by rw [List.length_map]; omega) (by rw [List.length_map]; omega)) rfl .fn rfl (by decide) (by kernel_rfl) rfl (fun _g => .cons (.c (congrArg _ hmz)) (.cons (.c (congrArg _ hmy)) .nil)) (by simp)) ?_
    rintro _ _ ⟨_, _, _, ⟨b2, rfl, rfl, hb2⟩, hF, hH⟩
    (try simp only [nsl, Nat.reduceAdd, Nat.reduceLT, Nat.reduceSub] at hF); (try simp only [nsl, Nat.reduceAdd, Nat.reduceLT, Nat.reduceSub] at hH); subst hF; subst hH
    refine WE ?_
    refine aret_1 [] _ rfl rfl rfl (by decide) (ZNK rfl) (fun _ => .nil) ⟨_, _, _, rfl, rfl, hconz, hcony, ?_⟩
    rw [← pair_iff, ← hb, hb2]
    simp
end Go.Proofs.YtlblimbelfenaaaGreat
