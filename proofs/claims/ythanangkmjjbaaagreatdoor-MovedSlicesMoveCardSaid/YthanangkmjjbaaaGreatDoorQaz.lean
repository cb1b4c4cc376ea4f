/- Plain law: planes through meshes: which faces are cut, their segments, where sides are cut. -/
import Derived.Test.YthanangkmjjbaaaGreatDoorQay
import Derived.Test.YthanangkmjjbaaaGreatDoorQax
import Derived.Test.YthanangkmjjbaaaGreatDoorQau
import Derived.Test.YthanangkmjjbaaaGreatDoorQas
import Derived.Test.YthanangkmjjbaaaGreatDoorQaq
set_option linter.unusedSimpArgs false
set_option linter.unusedVariables false
/- Open sides of the reference: some list of sides. -/
-- NEWM
namespace Go.Proofs.YthanangkmjjbaaaGreatDoor
open Go Go.RowKit
set_option maxRecDepth 100000
/-- The open sides: those whose other direction is not there. -/
def opnL (Fs : List Fac3) : List Sid2 := (Fs.flatMap sds).filter fun s => !(Fs.flatMap sds).contains ⟨s.t, s.f⟩
set_option maxHeartbeats 2000000 in
theorem openof_v (v w : Value) (V : List Vec3) (Fs : List Fac3) (hFl : Fs.length ≤ 1000) : ACalls Tryz.prog 39 [mshA v w V Fs] [] fun u H => ∃ (q : Value) (l : List Sid2), l.Perm (opnL Fs) ∧ u = .c (.r q (sR l)) ∧ H = [] := by
  have e2 : (fR Fs).length = Fs.length := by simp
  have e2' : (Fs.map Fac3.row).length = Fs.length := by simp
  refine acalls_of (N := 43) Tryz.func39 rfl rfl (by simp) fun E hE => ?_
  refine WA ?_
  refine WA ?_
  refine WA ?_
  refine aw_loopw (fun m F H => ∃ (k c : Nat) (L : List Sid2), m + k = Fs.length ∧ L.length = 3 * k ∧ L = (Fs.take k).flatMap sds ∧ F = [(1, .p 0 0 0), (3, .o 1 0 L.length c), (4, .c (.r (.slice none 0 0) [])), (10, .c (.r w (fR Fs))), (11, .c (I (fR Fs).length)), (12, .c (I k))] ∧ H = [mBox v w V (fR Fs), .arr 54 2 c (sR L)]) ?_ ?_
  · refine wk_of [some 0, none] (fun _ => [(1, .p 0 0 0), (3, .o 1 0 0 0), (4, .c (.r (.slice none 0 0) [])), (10, .c (.r w (fR Fs))), (11, .c (I (fR Fs).length)), (12, .c (I (0 : Nat)))]) (fun _ => [mBox v w V (fR Fs), .arr 54 2 0 []]) (by decide) (ZNL hE) ZCF ZCH (fun _ => ?_)
    exact ⟨Fs.length, 0, 0, [], by omega, rfl, rfl, rfl, rfl⟩
  · rintro m F H ⟨k, c, L, hk, hL, hLe, rfl, rfl⟩
    refine WA ?_
    refine aw_if rfl (fun hlt => ?_) (fun hge => ?_)
    · obtain ⟨f, hz⟩ : ∃ z, Fs[k]? = some z := ⟨_, List.getElem?_eq_getElem (by omega)⟩
      obtain ⟨fa, fb, fc⟩ := f
      have hrow : (fR Fs)[k]? = some [I fa, I fb, I fc] := by rw [List.getElem?_map, hz]; rfl
      have e5 : (sR (sds ⟨fa, fb, fc⟩)).length = 3 := rfl
      have e6 : (sds ⟨fa, fb, fc⟩).length = 3 := rfl
      have hzn := sd_next hz
      rw [← hLe] at hzn
      refine WA ?_
      refine WR ?_
      refine al_ef rfl (ef_call0 false (fun _ => rsides_v ⟨fa, fb, fc⟩) rfl .fn rfl (by decide) (by kernel_rfl) rfl (fun _ => C0 rfl) (by simp)) ?_
      rintro _ _ ⟨_, _, _, ⟨⟨q, rfl⟩, rfl⟩, hF, hH⟩
      (try simp only [nsl, Nat.reduceAdd, Nat.reduceLT, Nat.reduceSub] at hF); (try simp only [nsl, Nat.reduceAdd, Nat.reduceLT, Nat.reduceSub] at hH); subst hF; subst hH
      refine al_ef rfl (Zapp (KA (t := 64) rfl)) ?_
      rintro _ _ ⟨_, cc, hcc, rfl, rfl⟩
      refine WE ?_
      refine WA ?_
      refine wk_of [some 0, some 1] (fun _ => [(1, .p 0 0 0), (3, .o 1 0 (L ++ sds ⟨fa, fb, fc⟩).length cc), (4, .c (.r (.slice none 0 0) [])), (10, .c (.r w (fR Fs))), (11, .c (I (fR Fs).length)), (12, .c (I (k + 1 : Nat)))]) (fun _ => _) (by decide) (ZNL hE) ZCF ZCH (fun _ => ?_)
      exact ⟨m - 1, by omega, k + 1, cc, L ++ sds ⟨fa, fb, fc⟩, by omega, by simp [sds]; omega, hzn.symm, rfl, by simp [sR]⟩
    obtain rfl : k = Fs.length := by omega
    rw [List.take_of_length_le (Nat.le_refl _)] at hLe
    have hop : opnL Fs = L.filter fun s => !L.contains ⟨s.t, s.f⟩ := by rw [opnL, hLe]
    refine ZZ ?_
    refine WA ?_
    refine aw_loopw (fun m F H => ∃ (j c2 : Nat) (O : List Sid2), m + j = L.length ∧ O.length ≤ j ∧ O = ((L.take j).filter fun s => !L.contains ⟨s.t, s.f⟩) ∧ F = [(3, .o 0 0 L.length c), (4, .o 1 0 O.length c2), (21, .o 0 0 L.length c), (22, .c (I L.length)), (23, .c (I j))] ∧ H = [.arr 54 2 c (sR L), .arr 54 2 c2 (sR O)]) ?_ ?_
    · refine wk_of [some 1, none] (fun _ => [(3, .o 0 0 L.length c), (4, .o 1 0 0 0), (21, .o 0 0 L.length c), (22, .c (I L.length)), (23, .c (I (0 : Nat)))]) (fun _ => [.arr 54 2 c (sR L), .arr 54 2 0 []]) (by decide) (ZNL hE) ZCF ZCH (fun _ => ?_)
      exact ⟨L.length, 0, 0, [], by omega, by simp, by simp, rfl, rfl⟩
    rintro m F H ⟨j, c2, O, hj, hO, hOe, rfl, rfl⟩
    have eL : (sR L).length = L.length := by simp
    refine WA ?_
    refine aw_if rfl (fun hlt2 => ?_) (fun hge2 => ?_)
    · obtain ⟨s, hs⟩ : ∃ z, L[j]? = some z := ⟨_, List.getElem?_eq_getElem (by omega)⟩
      obtain ⟨sf, st⟩ := s
      have hrow : (sR L)[j]? = some [I sf, I st] := by rw [List.getElem?_map, hs]; rfl
      have hrow0 : (sR L)[0 + j]? = some [I sf, I st] := by rw [Nat.zero_add]; exact hrow
      refine WA ?_
      refine WR ?_
      refine al_ef rfl (ef_call0 true (fun g => hasS_v ⟨st, sf⟩ L (g (.o 0 0 L.length c)) (by omega)) rfl .fn rfl (by decide) (by kernel_rfl) rfl (fun _ => .cons (.frz rfl rfl (by rw [List.drop_zero, List.take_of_length_le (by simp)]) (by simp) rfl) (.cons (.aL (C0 rfl)) .nil)) (fun _ _ _ _ ⟨hu, hH⟩ => by rw [hu, hH]; exact ⟨.c (.inl trivial), by simp⟩)) ?_
      rintro _ _ ⟨_, _, _, ⟨rfl, rfl⟩, hF, hH⟩
      (try simp only [nsl, Nat.reduceAdd, Nat.reduceLT, Nat.reduceSub] at hF); (try simp only [nsl, Nat.reduceAdd, Nat.reduceLT, Nat.reduceSub] at hH); subst hF; subst hH
      refine WE ?_
      refine aw_cond rfl (fun hb => ?_) (fun hb => ?_)
      · have hOn : (O ++ [(⟨sf, st⟩ : Sid2)]) = ((L.take (j + 1)).filter fun s => !L.contains ⟨s.t, s.f⟩) := by
          rw [List.take_add_one, hs, List.filter_append, ← hOe]
          simp only [Bool.not_eq_true'] at hb
          simp only [Option.toList_some, List.filter_cons, List.filter_nil, hb, Bool.not_false, if_true]
        refine WR ?_
        refine al_ef rfl (Zapp (KA (t := 64) rfl)) ?_
        rintro _ _ ⟨_, cc, hcc, rfl, rfl⟩
        refine WE ?_
        refine WA ?_
        refine wk_of [some 0, some 1] (fun _ => [(3, .o 0 0 L.length c), (4, .o 1 0 (O ++ [(⟨sf, st⟩ : Sid2)]).length cc), (21, .o 0 0 L.length c), (22, .c (I L.length)), (23, .c (I (j + 1 : Nat)))]) (fun _ => _) (by decide) (ZNL hE) ZCF ZCH (fun _ => ?_)
        exact ⟨m - 1, by omega, j + 1, cc, O ++ [⟨sf, st⟩], by omega, by simp; omega, hOn, rfl, by simp [sR]⟩
      · have hOn : O = ((L.take (j + 1)).filter fun s => !L.contains ⟨s.t, s.f⟩) := by
          rw [List.take_add_one, hs, List.filter_append, ← hOe]
          simp only [Bool.not_eq_true', Bool.not_eq_false'] at hb
          simp only [Option.toList_some, List.filter_cons, List.filter_nil, hb, Bool.not_true, Bool.false_eq_true, if_false, List.append_nil]
        refine ZZ ?_
        refine WA ?_
        refine wk_of [some 0, some 1] (fun _ => [(3, .o 0 0 L.length c), (4, .o 1 0 O.length c2), (21, .o 0 0 L.length c), (22, .c (I L.length)), (23, .c (I (j + 1 : Nat)))]) (fun _ => _) (by decide) (ZNL hE) ZCF ZCH (fun _ => ?_)
        exact ⟨m - 1, by omega, j + 1, c2, O, by omega, by omega, hOn, rfl, rfl⟩
    rw [List.take_of_length_le (by omega)] at hOe
    refine ZZ ?_
    refine WR ?_
    refine al_ef rfl (ef_callp [1] (fun _ => [.arr 54 2 c2 (sR O)]) false (fun _ => sortS_v O c2 (by omega)) rfl .fn rfl (by decide) (by kernel_rfl) rfl ZCH (by decide) (fun _ => .arr rfl rfl .nil) (by simp)) ?_
    rintro F1 H1 ⟨_, _, _, _, ⟨l', hp, rfl, rfl⟩, hF, hH⟩
    rw [killF_nil] at hF; (try simp only [List.set_cons_zero, List.set_cons_succ, updH, posOf, lentArr, killF, killO, killV, AV.has, AV.hasL, AV.emb, AV.embL, OB.emb, embB, List.filter_cons, List.filter_nil, List.getElem?_cons_zero, List.getElem?_cons_succ, List.getD_cons_zero, List.getD_cons_succ, List.drop_succ_cons, List.drop_zero, List.drop_nil, List.contains_cons, List.contains_nil, Nat.reduceBEq, Nat.reduceEqDiff, beq_self_eq_true, Bool.or_false, Bool.false_or, Bool.or_true, Bool.true_or, Bool.false_eq_true, Option.map_some, Option.map_none, List.map_cons, List.map_nil, List.cons_append, List.nil_append, List.append_nil, List.length_cons, List.length_nil, Nat.reduceAdd, Nat.reduceLT, Nat.reduceSub, if_true, if_false, Nat.zero_add, Nat.add_zero, Nat.sub_zero, Nat.lt_irrefl, Nat.not_lt_zero, Nat.zero_lt_one, Nat.lt_add_one] at hF); (try simp only [List.set_cons_zero, List.set_cons_succ, updH, posOf, lentArr, killF, killO, killV, AV.has, AV.hasL, AV.emb, AV.embL, OB.emb, embB, List.filter_cons, List.filter_nil, List.getElem?_cons_zero, List.getElem?_cons_succ, List.getD_cons_zero, List.getD_cons_succ, List.drop_succ_cons, List.drop_zero, List.drop_nil, List.contains_cons, List.contains_nil, Nat.reduceBEq, Nat.reduceEqDiff, beq_self_eq_true, Bool.or_false, Bool.false_or, Bool.or_true, Bool.true_or, Bool.false_eq_true, Option.map_some, Option.map_none, List.map_cons, List.map_nil, List.cons_append, List.nil_append, List.append_nil, List.length_cons, List.length_nil, Nat.reduceAdd, Nat.reduceLT, Nat.reduceSub, if_true, if_false, Nat.zero_add, Nat.add_zero, Nat.sub_zero, Nat.lt_irrefl, Nat.not_lt_zero, Nat.zero_lt_one, Nat.lt_add_one] at hH); subst hF; subst hH
    refine WE ?_
    have hpl := hp.length_eq
    refine WA ?_
    exact aret_f1 [] _ rfl rfl rfl rfl (by rw [List.drop_zero, List.take_of_length_le (by simp; omega)]) (by simp; omega) rfl (by decide) (ZNK rfl) (fun _ => .nil) (fun q => ⟨q, l', by rw [hop, ← hOe]; exact hp, rfl, rfl⟩)
end Go.Proofs.YthanangkmjjbaaaGreatDoor

/- Closed meshes of the stream, by value. -/
-- NEWM
namespace Go.Proofs.YthanangkmjjbaaaGreatDoor
open Go Go.RowKit
set_option maxRecDepth 100000
set_option maxHeartbeats 8000000 in
theorem closedmesh_v (v : Value) (zs : List Int) (a : Int) (hs : StrOk zs) (h0 : 0 ≤ a) (h1 : a ≤ 500000000) :
    ACalls Tryz.prog 9 [.p 0 0 0] [strm v zs a] fun u H => ∃ (a' : Int) (q w : Value) (V : List Vec3) (Fs : List Fac3), u = mshA q w V Fs ∧ H = [strm v zs a'] ∧ a ≤ a' ∧ a' ≤ a + 12800 ∧ V.length ≤ 16 ∧ Fs.length ≤ 25 ∧ mshF V Fs = 0 ∧ opnL Fs = [] := by
  refine acalls_of (N := 16) Tryz.func9 rfl rfl (by simp) fun E hE => ?_
  refine WA ?_
  refine WA ?_
  refine aw_loopw (fun m F H => ∃ (k : Nat) (a1 : Int), m + k = 8 ∧ a ≤ a1 ∧ a1 ≤ a + 1600 * k ∧ F = [(0, .p 0 0 0), (2, .p 1 0 0), (4, .c (I k))] ∧ H = [strm v zs a1, .box [.c (.r (.slice none 0 0) []), .c (.r (.slice none 0 0) [])]]) ?_ ?_
  · refine wk_of [some 0, some 1] (fun _ => [(0, .p 0 0 0), (2, .p 1 0 0), (4, .c (I (0 : Nat)))]) (fun _ => [strm v zs a, .box [.c (.r (.slice none 0 0) []), .c (.r (.slice none 0 0) [])]]) (by decide) (ZNL hE) ZCF ZCH (fun _ => ?_)
    exact ⟨8, 0, a, by omega, by omega, by omega, rfl, rfl⟩
  rintro m F H ⟨k, a1, hk, ha1, ha2, rfl, rfl⟩
  refine WA ?_
  refine aw_if rfl (fun hlt => ?_) (fun hge => ?_)
  · refine WR ?_
    refine al_ef rfl (ef_callm false (fun _ => rightmesh_v _ _ _ hs (by omega) (by omega)) rfl .fn rfl (by decide) (by kernel_rfl) rfl rfl (fun _g => .cons (.p rfl) .nil) (fun _g => .cons (.c rfl) (.cons (.c rfl) .nil)) (by simp)) ?_
    rintro F1 H1 ⟨_, _, _, _, ⟨a2, q, w, V, Fs, rfl, hq, ha3, ha4, hV, hFl, hmf⟩, hF, hH⟩
    injection hq with hq1 hq2; subst hq1; subst hq2
    (try simp only [nsl, Nat.reduceAdd, Nat.reduceLT, Nat.reduceSub] at hF); (try simp only [nsl, Nat.reduceAdd, Nat.reduceLT, Nat.reduceSub] at hH); subst hF; subst hH
    refine WE ?_
    refine WR ?_
    refine al_ef rfl (ef_call0 false (fun _ => openof_v q w V Fs (by omega)) rfl .fn rfl (by decide) (by kernel_rfl) rfl (fun _ => C0 rfl) (by simp)) ?_
    rintro _ _ ⟨_, _, _, ⟨qo, lo, hlo, rfl, rfl⟩, hF, hH⟩
    (try simp only [nsl, Nat.reduceAdd, Nat.reduceLT, Nat.reduceSub] at hF); (try simp only [nsl, Nat.reduceAdd, Nat.reduceLT, Nat.reduceSub] at hH); subst hF; subst hH
    refine WE ?_
    refine aw_if rfl (fun hok => ?_) (fun hok => ?_)
    · have hop : opnL Fs = [] := by
        have h3 : lo.length = 0 := by simp at hok; simp [hok]
        rw [List.eq_nil_of_length_eq_zero h3] at hlo
        exact hlo.symm.eq_nil
      refine WA ?_
      exact aret_a [some 0] [strm v zs a2] rfl (KK (t := 29) rfl) rfl (Cells.box rfl) (by simp) (by (try simp only [nm, putL, Nat.reduceAdd, cellsOf, cvOf]) <;> rfl) (by decide) (ZNK rfl) (fun _ => C0 rfl) ZCH ⟨_, q, w, V, Fs, rfl, rfl, by omega, by omega, hV, hFl, hmf, hop⟩
    · refine ZZ ?_
      refine WA ?_
      refine wk_of [some 0, some 1] (fun _ => [(0, .p 0 0 0), (2, .p 1 0 0), (4, .c (I (k + 1 : Nat)))]) (fun _ => [strm v zs a2, .box [.c (.r (.slice none 0 0) []), .c (.r (.slice none 0 0) [])]]) (by decide) (ZNL hE) ZCF ZCH (fun _ => ?_)
      exact ⟨m - 1, by omega, k + 1, a2, by omega, by omega, by omega, rfl, rfl⟩
  refine ZZ ?_
  refine WR ?_
  refine al_ef rfl (ef_call [] (fun _ => []) false (fun _ => tetra_v ⟨0, 0, 0⟩ 6 (by decide) (by decide)) rfl .fn rfl (by decide) (by kernel_rfl) rfl (fun _ => C0 rfl) (by decide) (fun _ => .nil) (by simp)) ?_
  rintro F1 H1 ⟨_, _, _, _, ⟨rfl, rfl⟩, hF, hH⟩
  (try simp only [List.set_cons_zero, List.set_cons_succ, updH, posOf, lentArr, killF, killO, killV, AV.has, AV.hasL, AV.emb, AV.embL, OB.emb, embB, List.filter_cons, List.filter_nil, List.getElem?_cons_zero, List.getElem?_cons_succ, List.getD_cons_zero, List.getD_cons_succ, List.drop_succ_cons, List.drop_zero, List.drop_nil, List.contains_cons, List.contains_nil, Nat.reduceBEq, Nat.reduceEqDiff, beq_self_eq_true, Bool.or_false, Bool.false_or, Bool.or_true, Bool.true_or, Bool.false_eq_true, Option.map_some, Option.map_none, List.map_cons, List.map_nil, List.cons_append, List.nil_append, List.append_nil, List.length_cons, List.length_nil, Nat.reduceAdd, Nat.reduceLT, Nat.reduceSub, if_true, if_false, Nat.zero_add, Nat.add_zero, Nat.sub_zero, Nat.lt_irrefl, Nat.not_lt_zero, Nat.zero_lt_one, Nat.lt_add_one] at hF); (try simp only [List.set_cons_zero, List.set_cons_succ, updH, posOf, lentArr, killF, killO, killV, AV.has, AV.hasL, AV.emb, AV.embL, OB.emb, embB, List.filter_cons, List.filter_nil, List.getElem?_cons_zero, List.getElem?_cons_succ, List.getD_cons_zero, List.getD_cons_succ, List.drop_succ_cons, List.drop_zero, List.drop_nil, List.contains_cons, List.contains_nil, Nat.reduceBEq, Nat.reduceEqDiff, beq_self_eq_true, Bool.or_false, Bool.false_or, Bool.or_true, Bool.true_or, Bool.false_eq_true, Option.map_some, Option.map_none, List.map_cons, List.map_nil, List.cons_append, List.nil_append, List.append_nil, List.length_cons, List.length_nil, Nat.reduceAdd, Nat.reduceLT, Nat.reduceSub, if_true, if_false, Nat.zero_add, Nat.add_zero, Nat.sub_zero, Nat.lt_irrefl, Nat.not_lt_zero, Nat.zero_lt_one, Nat.lt_add_one] at hH); subst hF; subst hH
  refine WE ?_
  exact aret_of (us := [.a [.o 2 0 (tetV ⟨0, 0, 0⟩ 6).length 4, .o 3 0 (tetF).length 4]]) [some 0] (fun g => .a [.c (.r (g (.o 2 0 (tetV ⟨0, 0, 0⟩ 6).length 4)) (vR (tetV ⟨0, 0, 0⟩ 6))), .c (.r (g (.o 3 0 (tetF).length 4)) (fR (tetF)))]) (fun _ => [strm v zs a1]) (.cella rfl (KK (t := 29) rfl) (Cells.box rfl) (by simp) (by (try simp only [nm, putL, Nat.reduceAdd, cellsOf, cvOf]) <;> rfl) .nil) (by decide) (ZNK rfl) (fun _ => .aL (.cons (.frz rfl rfl (by rw [List.drop_zero, List.take_of_length_le (by simp)]) (by simp) rfl) (.cons (.frz rfl rfl (by rw [List.drop_zero, List.take_of_length_le (by simp)]) (by simp) rfl) .nil))) ZCH (fun _ => ⟨_, _, _, tetV ⟨0, 0, 0⟩ 6, tetF, rfl, rfl, by omega, by omega, by decide, by decide, by decide, by decide⟩)
end Go.Proofs.YthanangkmjjbaaaGreatDoor

/- Planes of the stream, by value. -/
-- NEWM
namespace Go.Proofs.YthanangkmjjbaaaGreatDoor
open Go Go.RowKit
set_option maxRecDepth 100000
theorem aplane_v (v : Value) (zs : List Int) (a : Int) (q w : Value) (V : List Vec3) (Fs : List Fac3) (hs : StrOk zs) (h0 : 0 ≤ a) (h1 : a ≤ 800000000) (hV : V.length ≤ 1000000) : ACalls Tryz.prog 10 [.p 0 0 0, mshA q w V Fs] [strm v zs a] fun u H => ∃ (r a' : Int), u = .c (I r) ∧ H = [strm v zs a'] ∧ a ≤ a' ∧ a' ≤ a + 10 := by
  have e1 : (V.map Vec3.row).length = V.length := by simp
  have e2 : (vR V).length = V.length := by simp
  refine acalls_of (N := 36) Tryz.func10 rfl rfl (by simp) fun E hE => ?_
  refine WA ?_
  refine WR ?_
  refine al_ef rfl (ef_callm true (fun _ => pick_a [0, 1, 2, 3, 5, -1, 10, 100] _ _ _ _ hs (by omega) (by omega) (by simp) (by simp)) rfl .fn rfl (by decide) (by kernel_rfl) rfl rfl (fun _g => .cons (.p rfl) (.cons (.frz rfl rfl rfl rfl rfl) .nil)) (fun _g => .cons (.c rfl) (.cons (.c rfl) .nil)) (fun _ _ _ _ ⟨_, hu, hH, _⟩ => by rw [hu, hH]; exact ⟨.c (.inl trivial), strm_flat (.inr ⟨0, _, rfl, by simp⟩)⟩)) ?_
  rintro F1 H1 ⟨_, _, _, _, ⟨rr, rfl, hq, hrm⟩, hF, hH⟩
  injection hq with hq1 hq2; subst hq1; subst hq2
  (try simp only [nsl, Nat.reduceAdd, Nat.reduceLT, Nat.reduceSub] at hF); (try simp only [nsl, Nat.reduceAdd, Nat.reduceLT, Nat.reduceSub] at hH); subst hF; subst hH
  have h64r : in64 rr := by simp only [List.mem_cons, List.not_mem_nil, or_false] at hrm; simp only [in64] at *; omega
  clear hrm
  refine WE ?_
  obtain ⟨r1, hr1'⟩ : ∃ o, o = rr := ⟨_, rfl⟩
  rw [← hr1']
  refine aw_wk (wk_of (K := fun F H => F = [(0, .p 0 0 0), (3, .p 1 0 0), (5, .c (I r1))] ∧ H = [strm v zs (a + 1), mBox q w V (fR Fs)]) [some 0, some 1] (fun _ => [(0, .p 0 0 0), (3, .p 1 0 0), (5, .c (I r1))]) (fun _ => [strm v zs (a + 1), mBox q w V (fR Fs)]) (by decide) (ZNL hE) ZCF ZCH (fun _ => ⟨rfl, rfl⟩)) ?_
  rintro F H ⟨rfl, rfl⟩
  refine aw_cut (fun F H => ∃ (a' : Int) (b : Bool), a ≤ a' ∧ a' ≤ a + 3 ∧ (b = true → 0 < V.length) ∧ F = [(0, .p 0 0 0), (3, .p 1 0 0), (5, .c (I r1)), (16, .c (B b))] ∧ H = [strm v zs a', mBox q w V (fR Fs)]) ?_ ?_ wk_aw
  · by_cases hV0 : 0 < V.length
    · refine WR ?_
      refine G1 rfl ?_
      refine al_ef rfl (ef_callm false (fun _ => flip_a 3 _ _ _ hs (by omega) (by omega) (by simp only [in64]; omega)) rfl .fn rfl (by decide) (by kernel_rfl) rfl rfl (fun _g => .cons (.p rfl) (.cons (.c rfl) .nil)) (fun _g => .cons (.c rfl) (.cons (.c rfl) .nil)) (by simp)) ?_
      rintro F1 H1 ⟨_, _, _, _, ⟨bb, rfl, hq⟩, hF, hH⟩
      injection hq with hq1 hq2; subst hq1; subst hq2
      (try simp only [nsl, Nat.reduceAdd, Nat.reduceLT, Nat.reduceSub] at hF); (try simp only [nsl, Nat.reduceAdd, Nat.reduceLT, Nat.reduceSub] at hH); subst hF; subst hH
      refine WE ?_
      refine wk_of [some 0, some 1] (fun _ => [(0, .p 0 0 0), (3, .p 1 0 0), (5, .c (I r1)), (16, .c (B bb))]) (fun _ => _) (by decide) (ZNL hE) ZCF ZCH (fun _ => ?_)
      exact ⟨_, _, by omega, by omega, fun _ => hV0, rfl, rfl⟩
    · refine WR ?_
      refine WE ?_
      refine wk_of [some 0, some 1] (fun _ => [(0, .p 0 0 0), (3, .p 1 0 0), (5, .c (I r1)), (16, .c (B false))]) (fun _ => _) (by decide) (ZNL hE) ZCF ZCH (fun _ => ?_)
      exact ⟨_, _, by omega, by omega, fun h => (by cases h), rfl, rfl⟩
  rintro F H ⟨a', b, ha1, ha2, hb, rfl, rfl⟩
  refine aw_cut (fun F H => ∃ (a' r : Int), a ≤ a' ∧ a' ≤ a + 6 ∧ F = [(0, .p 0 0 0), (5, .c (I r))] ∧ H = [strm v zs a']) ?_ ?_ wk_aw
  · refine aw_cond rfl (fun hbb => ?_) (fun hbb => ?_)
    · have hV0 := hb hbb
      refine ZZ ?_
      refine aw_regionM [[(0, none), (1, none), (2, none), (3, none), (4, none), (5, none), (10, none), (6, some [0, 1, 10]), (7, none), (8, none), (9, none), (11, some [0, 1, 2, 3, 4, 5, 10, 7, 8, 9]), (12, some [0, 1, 7, 8, 9]), (13, none), (14, none)], [(0, none), (1, none), (2, none), (3, none), (4, none), (5, none), (10, none), (11, some [0, 1, 2, 3, 4, 5, 10]), (6, some [0, 1, 10]), (7, none), (8, none), (9, none), (12, some [0, 1, 7, 8, 9]), (13, none), (14, none)]] hMixed (by kernel_rfl) ?_
      focus
        refine WM ?_
        refine am_two (by rfl) (by rfl) (by rfl) ?_ ?_
        rotate_left
        refine WM ?_
        refine am_ef (i := 6) (by rfl) (by rfl) rfl rfl (ef_callm false (fun _ => next_a ((V.map Vec3.row).length : Int) _ _ _ hs (by omega) (by omega) (by simp only [in64]; omega)) rfl .fn rfl (by decide) (by kernel_rfl) rfl rfl (fun _g => .cons (.p rfl) (.cons (.c rfl) .nil)) (fun _g => .cons (.c rfl) (.cons (.c rfl) .nil)) (by simp)) ?_
        rintro F1 H1 ⟨_, _, _, _, ⟨rr, rfl, hq, hr1, hr2⟩, hF, hH⟩
        injection hq with hq1 hq2; subst hq1; subst hq2
        (try simp only [nsl, Nat.reduceAdd, Nat.reduceLT, Nat.reduceSub] at hF); (try simp only [nsl, Nat.reduceAdd, Nat.reduceLT, Nat.reduceSub] at hH); subst hF; subst hH
        obtain ⟨i, rfl⟩ : ∃ i : Nat, rr = i := ⟨rr.toNat, by omega⟩
        have hi2 := hr2 (by omega)
        have ra := vrow (V := V) (i := i) (by omega)
        refine ⟨AGX, ?_⟩
        refine WM ?_
        refine am_ef (i := 12) (by rfl) (by rfl) rfl rfl (ef_callm true (fun _ => pick_a [0, 0, 1, -1] _ _ _ _ hs (by omega) (by omega) (by simp) (by simp)) rfl .fn rfl (by decide) (by kernel_rfl) rfl rfl (fun _g => .cons (.p rfl) (.cons (.frz rfl rfl rfl rfl rfl) .nil)) (fun _g => .cons (.c rfl) (.cons (.c rfl) .nil)) (fun _ _ _ _ ⟨_, hu, hH, _⟩ => by rw [hu, hH]; exact ⟨.c (.inl trivial), strm_flat (.inr ⟨0, _, rfl, by simp⟩)⟩)) ?_
        rintro F1 H1 ⟨_, _, _, _, ⟨rr, rfl, hq, hrm⟩, hF, hH⟩
        injection hq with hq1 hq2; subst hq1; subst hq2
        (try simp only [nsl, Nat.reduceAdd, Nat.reduceLT, Nat.reduceSub] at hF); (try simp only [nsl, Nat.reduceAdd, Nat.reduceLT, Nat.reduceSub] at hH); subst hF; subst hH
        have h64r : in64 rr := by simp only [List.mem_cons, List.not_mem_nil, or_false] at hrm; simp only [in64] at *; omega
        clear hrm
        refine ⟨AGX, ?_⟩
        refine WN ?_
        rotate_right
        refine am_ef (i := 6) (by rfl) (by rfl) rfl rfl (ef_callm false (fun _ => next_a ((V.map Vec3.row).length : Int) _ _ _ hs (by omega) (by omega) (by simp only [in64]; omega)) rfl .fn rfl (by decide) (by kernel_rfl) rfl rfl (fun _g => .cons (.p rfl) (.cons (.c rfl) .nil)) (fun _g => .cons (.c rfl) (.cons (.c rfl) .nil)) (by simp)) ?_
        rintro F1 H1 ⟨_, _, _, _, ⟨rr, rfl, hq, hr1, hr2⟩, hF, hH⟩
        injection hq with hq1 hq2; subst hq1; subst hq2
        (try simp only [nsl, Nat.reduceAdd, Nat.reduceLT, Nat.reduceSub] at hF); (try simp only [nsl, Nat.reduceAdd, Nat.reduceLT, Nat.reduceSub] at hH); subst hF; subst hH
        obtain ⟨i, rfl⟩ : ∃ i : Nat, rr = i := ⟨rr.toNat, by omega⟩
        have hi2 := hr2 (by omega)
        have ra := vrow (V := V) (i := i) (by omega)
        refine ⟨AGX, ?_⟩
        refine WM ?_
        refine am_ef (i := 12) (by rfl) (by rfl) rfl rfl (ef_callm true (fun _ => pick_a [0, 0, 1, -1] _ _ _ _ hs (by omega) (by omega) (by simp) (by simp)) rfl .fn rfl (by decide) (by kernel_rfl) rfl rfl (fun _g => .cons (.p rfl) (.cons (.frz rfl rfl rfl rfl rfl) .nil)) (fun _g => .cons (.c rfl) (.cons (.c rfl) .nil)) (fun _ _ _ _ ⟨_, hu, hH, _⟩ => by rw [hu, hH]; exact ⟨.c (.inl trivial), strm_flat (.inr ⟨0, _, rfl, by simp⟩)⟩)) ?_
        rintro F1 H1 ⟨_, _, _, _, ⟨rr, rfl, hq, hrm⟩, hF, hH⟩
        injection hq with hq1 hq2; subst hq1; subst hq2
        (try simp only [nsl, Nat.reduceAdd, Nat.reduceLT, Nat.reduceSub] at hF); (try simp only [nsl, Nat.reduceAdd, Nat.reduceLT, Nat.reduceSub] at hH); subst hF; subst hH
        have h64r : in64 rr := by simp only [List.mem_cons, List.not_mem_nil, or_false] at hrm; simp only [in64] at *; omega
        clear hrm
        refine ⟨AGX, ?_⟩
        refine WN ?_
      all_goals (exact wk_of [some 0] (fun _ => [(0, .p 0 0 0), (5, .c (I (wrap64 ((vx V i).z + rr))))]) (fun _ => [strm v zs (a' + 1 + 1)]) (by decide) (ZNL hE) ZCF ZCH (fun _ => ⟨_, _, by omega, by omega, rfl, rfl⟩))
    · refine ZZ ?_
      refine wk_of [some 0] (fun _ => [(0, .p 0 0 0), (5, .c (I r1))]) (fun _ => _) (by decide) (ZNL hE) ZCF ZCH (fun _ => ?_)
      exact ⟨_, _, by omega, by omega, rfl, rfl⟩
  rintro F H ⟨a2, r2, ha3, ha4, rfl, rfl⟩
  refine WR ?_
  refine al_ef rfl (ef_callm false (fun _ => flip_a 25 _ _ _ hs (by omega) (by omega) (by simp only [in64]; omega)) rfl .fn rfl (by decide) (by kernel_rfl) rfl rfl (fun _g => .cons (.p rfl) (.cons (.c rfl) .nil)) (fun _g => .cons (.c rfl) (.cons (.c rfl) .nil)) (by simp)) ?_
  rintro F1 H1 ⟨_, _, _, _, ⟨bb, rfl, hq⟩, hF, hH⟩
  injection hq with hq1 hq2; subst hq1; subst hq2
  (try simp only [nsl, Nat.reduceAdd, Nat.reduceLT, Nat.reduceSub] at hF); (try simp only [nsl, Nat.reduceAdd, Nat.reduceLT, Nat.reduceSub] at hH); subst hF; subst hH
  refine WE ?_
  refine aw_cond rfl (fun _ => ?_) (fun _ => ?_)
  · refine WR ?_
    refine al_ef rfl (ef_callm false (fun _ => odd_a (-100000) 100000 _ _ _ hs (by omega) (by omega) (by omega) (by omega) (by omega) (by omega)) rfl .fn rfl (by decide) (by kernel_rfl) rfl rfl (fun _g => .cons (.p rfl) (.cons (.c rfl) (.cons (.c rfl) .nil))) (fun _g => .cons (.c rfl) (.cons (.c rfl) .nil)) (by simp)) ?_
    rintro F1 H1 ⟨_, _, _, _, ⟨rr, ar, rfl, hq, hr3, hr4, h64r⟩, hF, hH⟩
    injection hq with hq1 hq2; subst hq1; subst hq2
    (try simp only [nsl, Nat.reduceAdd, Nat.reduceLT, Nat.reduceSub] at hF); (try simp only [nsl, Nat.reduceAdd, Nat.reduceLT, Nat.reduceSub] at hH); subst hF; subst hH
    refine WE ?_
    refine WA ?_
    exact aret_1 [some 0] _ rfl rfl rfl (by decide) (ZNK rfl) ZCH ⟨_, _, rfl, rfl, by omega, by omega⟩
  · refine ZZ ?_
    refine WA ?_
    exact aret_1 [some 0] _ rfl rfl rfl (by decide) (ZNK rfl) ZCH ⟨_, _, rfl, rfl, by omega, by omega⟩
end Go.Proofs.YthanangkmjjbaaaGreatDoor

/- Plain law: planes through meshes: which faces are cut, their segments, where sides are cut. -/
namespace Go.Proofs.YthanangkmjjbaaaGreatDoor
/-- A face that is cut: from a side to another one. -/
structure Seg5 where
  i : Int
  fr : Sid2
  to : Sid2
deriving DecidableEq
def upI (V : List Vec3) (z i : Int) : Bool := decide (z ≤ (vx V i).z)
def revS (s : Sid2) : Sid2 := ⟨s.t, s.f⟩
def crF (V : List Vec3) (z : Int) (f : Fac3) : Bool := decide (minL (fzs V f) < z) && decide (z ≤ maxL (fzs V f))
def fcAt (Fs : List Fac3) (i : Nat) : Fac3 := Fs.getD i ⟨0, 0, 0⟩
/-- The faces that are cut, below k. -/
def crN (V : List Vec3) (Fs : List Fac3) (z : Int) (k : Nat) : List Nat := (List.range k).filter fun i => crF V z (fcAt Fs i)
def crT (V : List Vec3) (Fs : List Fac3) (z : Int) (k : Nat) : List Int := (crN V Fs z k).map fun (i : Nat) => (i : Int)
theorem crT_next (V : List Vec3) (Fs : List Fac3) (z : Int) (k : Nat) : crT V Fs z (k + 1) = if crF V z (fcAt Fs k) = true then crT V Fs z k ++ [(k : Int)] else crT V Fs z k := by
  unfold crT crN
  rw [List.range_succ, List.filter_append, List.map_append]
  split
  · rename_i h; simp [h]
  · rename_i h; simp [h]
theorem crN_mem {V : List Vec3} {Fs : List Fac3} {z : Int} {k i : Nat} : i ∈ crN V Fs z k ↔ i < k ∧ crF V z (fcAt Fs i) = true := by simp [crN]
theorem crT_mem {V : List Vec3} {Fs : List Fac3} {z : Int} {k : Nat} {x : Int} (h : x ∈ crT V Fs z k) : 0 ≤ x ∧ x < k ∧ crF V z (fcAt Fs x.toNat) = true := by
  obtain ⟨i, hi, rfl⟩ := List.mem_map.1 h
  have := crN_mem.1 hi
  exact ⟨by omega, by omega, by simpa using this.2⟩
theorem crT_len (V : List Vec3) (Fs : List Fac3) (z : Int) (k : Nat) : (crT V Fs z k).length ≤ k := by
  unfold crT crN
  rw [List.length_map]
  refine Nat.le_trans (List.length_filter_le _ _) ?_
  simp
/-- One side more of a face. -/
def sgS (V : List Vec3) (z : Int) (g : Seg5) (s : Sid2) : Seg5 :=
  if (upI V z s.f && !upI V z s.t) = true then ⟨g.i, revS s, g.to⟩ else if (upI V z s.t && !upI V z s.f) = true then ⟨g.i, g.fr, s⟩ else g
def sgF (V : List Vec3) (z i : Int) (f : Fac3) : Seg5 := (sds f).foldl (sgS V z) ⟨i, ⟨0, 0⟩, ⟨0, 0⟩⟩
def sgAt (V : List Vec3) (Fs : List Fac3) (z i : Int) : Seg5 := sgF V z i (fcAt Fs i.toNat)
def sgL (V : List Vec3) (Fs : List Fac3) (z : Int) : List Seg5 := (crT V Fs z Fs.length).map (sgAt V Fs z)
theorem sgL_len (V : List Vec3) (Fs : List Fac3) (z : Int) : (sgL V Fs z).length ≤ Fs.length := by
  rw [sgL, List.length_map]; exact crT_len _ _ _ _
/-- A face that is cut has one side that goes up, and one that goes down. -/
theorem sg_spec {V : List Vec3} {z i : Int} {f : Fac3} (h : crF V z f = true) :
    (∃ s ∈ sds f, (sgF V z i f).fr = revS s ∧ z ≤ (vx V s.f).z ∧ (vx V s.t).z < z) ∧ (∃ s ∈ sds f, (sgF V z i f).to = s ∧ (vx V s.f).z < z ∧ z ≤ (vx V s.t).z) ∧ (sgF V z i f).i = i := by
  simp only [crF, fzs, minL, maxL, Bool.and_eq_true, decide_eq_true_eq] at h
  simp only [sgF, sds, List.foldl_cons, List.foldl_nil, sgS, upI, List.mem_cons, List.not_mem_nil, or_false, exists_eq_or_imp, exists_eq_left]
  by_cases ha : z ≤ (vx V f.a).z <;> by_cases hb : z ≤ (vx V f.b).z <;> by_cases hc : z ≤ (vx V f.c).z
  · omega
  · simp [ha, hb, hc]; omega
  · simp [ha, hb, hc]; omega
  · simp [ha, hb, hc]; omega
  · simp [ha, hb, hc]; omega
  · simp [ha, hb, hc]; omega
  · simp [ha, hb, hc]; omega
  · omega
/-- No side is there twice. -/
theorem dupS_nodup : ∀ (l acc : List Sid2), dupS acc l = false → l.Nodup ∧ ∀ s ∈ l, s ∉ acc
  | [], _, _ => ⟨List.nodup_nil, fun _ h => by cases h⟩
  | s :: l, acc, h => by
    simp only [dupS, Bool.or_eq_false_iff] at h
    obtain ⟨h1, h2⟩ := dupS_nodup l _ h.2
    have h3 : s ∉ acc := by simpa using h.1
    refine ⟨List.nodup_cons.2 ⟨fun hs => h2 s hs (by simp), h1⟩, fun x hx => ?_⟩
    rcases List.mem_cons.1 hx with rfl | hx
    · exact h3
    · exact fun hm => h2 x hx (List.mem_append_left _ hm)
theorem fcAt_get {Fs : List Fac3} {i : Nat} (h : i < Fs.length) : Fs[i]? = some (fcAt Fs i) := by
  unfold fcAt; rw [List.getD_eq_getElem?_getD, List.getElem?_eq_getElem h]; rfl
theorem fcAt_mem {Fs : List Fac3} {i : Nat} (h : i < Fs.length) : fcAt Fs i ∈ Fs := List.mem_of_getElem? (fcAt_get h)
/-- Faces have no side in common. -/
theorem sds_apart {Fs : List Fac3} (h : (Fs.flatMap sds).Nodup) {i j : Nat} {f g : Fac3} (hij : i < j) (hi : Fs[i]? = some f) (hj : Fs[j]? = some g) {s : Sid2} (h1 : s ∈ sds f) (h2 : s ∈ sds g) : False := by
  have e := sd_split hj 0
  rw [e] at h
  simp only [List.take_zero, List.append_nil, List.drop_zero] at h
  rw [List.nodup_append] at h
  refine h.2.2 s (List.mem_flatMap.2 ⟨f, ?_, h1⟩) s (List.mem_append_left _ h2) rfl
  refine List.mem_of_getElem? (i := i) ?_
  rw [List.getElem?_take, if_pos hij]; exact hi
theorem sds_inj {Fs : List Fac3} (h : (Fs.flatMap sds).Nodup) {i j : Nat} (hi : i < Fs.length) (hj : j < Fs.length) {s : Sid2} (h1 : s ∈ sds (fcAt Fs i)) (h2 : s ∈ sds (fcAt Fs j)) : i = j := by
  rcases Nat.lt_trichotomy i j with h3 | h3 | h3
  · exact (sds_apart h h3 (fcAt_get hi) (fcAt_get hj) h1 h2).elim
  · exact h3
  · exact (sds_apart h h3 (fcAt_get hj) (fcAt_get hi) h2 h1).elim
/-- A member of the segments. -/
theorem sgL_mem {V : List Vec3} {Fs : List Fac3} {z : Int} {g : Seg5} (h : g ∈ sgL V Fs z) : ∃ i : Nat, i < Fs.length ∧ crF V z (fcAt Fs i) = true ∧ g = sgF V z i (fcAt Fs i) := by
  obtain ⟨x, hx, rfl⟩ := List.mem_map.1 h
  obtain ⟨h0, h1, h2⟩ := crT_mem hx
  exact ⟨x.toNat, by omega, h2, by rw [sgAt, show ((x.toNat : Nat) : Int) = x by omega]⟩
theorem revS_rev (s : Sid2) : revS (revS s) = s := rfl
theorem nodup_map_of {α β : Type} {f : α → β} : ∀ {l : List α}, l.Nodup → (∀ a ∈ l, ∀ b ∈ l, f a = f b → a = b) → (l.map f).Nodup
  | [], _, _ => List.nodup_nil
  | a :: l, h, hf => by
    rw [List.map_cons, List.nodup_cons]
    rw [List.nodup_cons] at h
    refine ⟨fun hm => ?_, nodup_map_of h.2 fun x hx y hy => hf x (List.mem_cons_of_mem _ hx) y (List.mem_cons_of_mem _ hy)⟩
    obtain ⟨b, hb, e⟩ := List.mem_map.1 hm
    exact h.1 (hf b (List.mem_cons_of_mem _ hb) a List.mem_cons_self e ▸ hb)
theorem sg_nodup {V : List Vec3} {Fs : List Fac3} {z : Int} (h : dupS [] (Fs.flatMap sds) = false) : ((sgL V Fs z).map (·.fr)).Nodup ∧ ((sgL V Fs z).map (·.to)).Nodup := by
  have hn := (dupS_nodup _ _ h).1
  have hN : (crN V Fs z Fs.length).Nodup := List.Nodup.sublist List.filter_sublist List.nodup_range
  have e : sgL V Fs z = (crN V Fs z Fs.length).map fun (i : Nat) => sgF V z i (fcAt Fs i) := by
    unfold sgL crT
    rw [List.map_map]
    refine List.map_congr_left fun i _ => ?_
    simp [sgAt]
  rw [e, List.map_map, List.map_map]
  refine ⟨nodup_map_of hN fun i hi j hj hij => ?_, nodup_map_of hN fun i hi j hj hij => ?_⟩
  all_goals
    have hi := crN_mem.1 hi
    have hj := crN_mem.1 hj
    simp only [Function.comp] at hij
  · obtain ⟨s, hs, e1, _⟩ := (sg_spec (i := i) hi.2).1
    obtain ⟨t, ht, e2, _⟩ := (sg_spec (i := j) hj.2).1
    rw [e1, e2] at hij
    have : s = t := by rw [← revS_rev s, hij, revS_rev]
    subst this
    exact sds_inj hn hi.1 hj.1 hs ht
  · obtain ⟨s, hs, e1, _⟩ := (sg_spec (i := i) hi.2).2.1
    obtain ⟨t, ht, e2, _⟩ := (sg_spec (i := j) hj.2).2.1
    rw [e1, e2] at hij
    subst hij
    exact sds_inj hn hi.1 hj.1 hs ht
/-- A side of a right mesh that a plane cuts: from below to above. -/
def Cuts' (V : List Vec3) (z : Int) (s : Sid2) : Prop := (0 ≤ s.f ∧ s.f < V.length) ∧ (0 ≤ s.t ∧ s.t < V.length) ∧ (vx V s.f).z < z ∧ z ≤ (vx V s.t).z
theorem sds_ix {V : List Vec3} {Fs : List Fac3} (hM : MOk V Fs) {f : Fac3} (hf : f ∈ Fs) {s : Sid2} (hs : s ∈ sds f) : (0 ≤ s.f ∧ s.f < V.length) ∧ (0 ≤ s.t ∧ s.t < V.length) := by
  obtain ⟨h1, h2, h3⟩ := hM.ix hf
  simp only [sds, List.mem_cons, List.not_mem_nil, or_false] at hs
  rcases hs with rfl | rfl | rfl
  · exact ⟨h1, h2⟩
  · exact ⟨h2, h3⟩
  · exact ⟨h3, h1⟩
theorem sg_cuts {V : List Vec3} {Fs : List Fac3} {z : Int} (hM : MOk V Fs) {g : Seg5} (h : g ∈ sgL V Fs z) : Cuts' V z g.fr ∧ Cuts' V z g.to := by
  obtain ⟨i, hi, hc, rfl⟩ := sgL_mem h
  obtain ⟨⟨s, hs, e1, b1, b2⟩, ⟨t, ht, e2, c1, c2⟩, _⟩ := sg_spec (i := i) hc
  have k1 := sds_ix hM (fcAt_mem hi) hs
  have k2 := sds_ix hM (fcAt_mem hi) ht
  rw [e1, e2]
  exact ⟨⟨k1.2, k1.1, b2, b1⟩, ⟨k2.1, k2.2, c1, c2⟩⟩

/- ## Cuts -/
structure Fra where
  n : Int
  d : Int
deriving DecidableEq
/-- In lowest terms. -/
def lowF (n d : Int) : Fra := ⟨n.tdiv (Int.gcd n d), d.tdiv (Int.gcd n d)⟩
structure Cut6 where
  s : Sid2
  x : Fra
  y : Fra
deriving DecidableEq
def cutN (a b za zb z : Int) : Int := a * (zb - za) + (b - a) * (z - za)
def cutV (V : List Vec3) (z : Int) (s : Sid2) : Cut6 :=
  ⟨s, lowF (cutN (vx V s.f).x (vx V s.t).x (vx V s.f).z (vx V s.t).z z) ((vx V s.t).z - (vx V s.f).z), lowF (cutN (vx V s.f).y (vx V s.t).y (vx V s.f).z (vx V s.t).z z) ((vx V s.t).z - (vx V s.f).z)⟩
end Go.Proofs.YthanangkmjjbaaaGreatDoor
