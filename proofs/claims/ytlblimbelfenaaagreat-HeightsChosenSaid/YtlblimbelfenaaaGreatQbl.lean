/- Guarded calls in regions that draw their order. Conditions: none. -/
import Derived.Test.YtlblimbelfenaaaGreatQbk
import Derived.Test.YtlblimbelfenaaaGreatQbg
import Derived.Test.YtlblimbelfenaaaGreatQar
set_option linter.unusedSimpArgs false
set_option linter.unusedVariables false
/- Open sides of the reference: some list of sides. -/
-- NEWM
namespace Go.Proofs.YtlblimbelfenaaaGreat
open Go Go.RowKit
set_option maxRecDepth 100000
/-- The open sides: those whose other direction is not there. -/
def opnL (Fs : List Fac3) : List Sid2 := (Fs.flatMap sds).filter fun s => !(Fs.flatMap sds).contains ⟨s.t, s.f⟩
set_option maxHeartbeats 2000000 in
theorem openof_v (v w : Value) (V : List Vec3) (Fs : List Fac3) (hFl : Fs.length ≤ 1000) : ACalls Tryz.prog 53 [mshA v w V Fs] [] fun u H => ∃ (q : Value) (l : List Sid2), l.Perm (opnL Fs) ∧ u = .c (.r q (sR l)) ∧ H = [] := by
  have e2 : (fR Fs).length = Fs.length := by simp
  have e2' : (Fs.map Fac3.row).length = Fs.length := by simp
  refine acalls_of (N := 43) Tryz.func53 rfl rfl (by simp) fun E hE => ?_
  refine WA ?_
  refine WA ?_
  refine WA ?_
  refine aw_loopw (fun m F H => ∃ (k c : Nat) (L : List Sid2), m + k = Fs.length ∧ L.length = 3 * k ∧ L = (Fs.take k).flatMap sds ∧ F = [(1, .p 0 0 0), (3, .o 1 0 L.length c), (4, .c (.r (.slice none 0 0) [])), (10, .c (.r w (fR Fs))), (11, .c (I (fR Fs).length)), (12, .c (I k))] ∧ H = [mBox v w V (fR Fs), .arr 70 2 c (sR L)]) ?_ ?_
  · refine wk_of [some 0, none] (fun _ => [(1, .p 0 0 0), (3, .o 1 0 0 0), (4, .c (.r (.slice none 0 0) [])), (10, .c (.r w (fR Fs))), (11, .c (I (fR Fs).length)), (12, .c (I (0 : Nat)))]) (fun _ => [mBox v w V (fR Fs), .arr 70 2 0 []]) (by decide) (ZNL hE) ZCF ZCH (fun _ => ?_)
    exact ⟨Fs.length, 0, 0, [], by omega, rfl, rfl, rfl, rfl⟩
  · rintro m F H ⟨k, c, L, hk, hL, hLe, rfl, rfl⟩
    refine WA ?_
    refine aw_if rfl (fun hlt => ?_) (fun hge => ?_)
    · obtain ⟨f, hz⟩ : ∃ z, Fs[k]? = some z := ⟨_, List.getElem?_eq_getElem (by omega)⟩
      obtain ⟨fa, fb, fc⟩ := f
      have hrow : (fR Fs)[k]? = some [I fa, I fb, I fc] := by rw [List.getElem?_map, hz]; rfl
      have e5 : (sR (sds ⟨fa, fb, fc⟩)).length = 3 := rfl
      have e6 : (sds ⟨fa, fb, fc⟩).length = 3 := rfl
      have hzn := sd_next hz
      rw [← hLe] at hzn
      refine WA ?_
      refine WR ?_
      refine al_ef rfl (ef_call0 false (fun _ => rsides_v ⟨fa, fb, fc⟩) rfl .fn rfl (by decide) (by kernel_rfl) rfl (fun _ => C0 rfl) (by simp)) ?_
      rintro _ _ ⟨_, _, _, ⟨⟨q, rfl⟩, rfl⟩, hF, hH⟩
      (try simp only [nsl, Nat.reduceAdd, Nat.reduceLT, Nat.reduceSub] at hF); (try simp only [nsl, Nat.reduceAdd, Nat.reduceLT, Nat.reduceSub] at hH); subst hF; subst hH
      refine al_ef rfl (Zapp (KA (t := 57) rfl)) ?_
      rintro _ _ ⟨_, cc, hcc, rfl, rfl⟩
      refine WE ?_
      refine WA ?_
      refine wk_of [some 0, some 1] (fun _ => [(1, .p 0 0 0), (3, .o 1 0 (L ++ sds ⟨fa, fb, fc⟩).length cc), (4, .c (.r (.slice none 0 0) [])), (10, .c (.r w (fR Fs))), (11, .c (I (fR Fs).length)), (12, .c (I (k + 1 : Nat)))]) (fun _ => _) (by decide) (ZNL hE) ZCF ZCH (fun _ => ?_)
      exact ⟨m - 1, by omega, k + 1, cc, L ++ sds ⟨fa, fb, fc⟩, by omega, by simp [sds]; omega, hzn.symm, rfl, by simp [sR]⟩
    obtain rfl : k = Fs.length := by omega
    rw [List.take_of_length_le (Nat.le_refl _)] at hLe
    have hop : opnL Fs = L.filter fun s => !L.contains ⟨s.t, s.f⟩ := by rw [opnL, hLe]
    refine ZZ ?_
    refine WA ?_
    refine aw_loopw (fun m F H => ∃ (j c2 : Nat) (O : List Sid2), m + j = L.length ∧ O.length ≤ j ∧ O = ((L.take j).filter fun s => !L.contains ⟨s.t, s.f⟩) ∧ F = [(3, .o 0 0 L.length c), (4, .o 1 0 O.length c2), (21, .o 0 0 L.length c), (22, .c (I L.length)), (23, .c (I j))] ∧ H = [.arr 70 2 c (sR L), .arr 70 2 c2 (sR O)]) ?_ ?_
    · refine wk_of [some 1, none] (fun _ => [(3, .o 0 0 L.length c), (4, .o 1 0 0 0), (21, .o 0 0 L.length c), (22, .c (I L.length)), (23, .c (I (0 : Nat)))]) (fun _ => [.arr 70 2 c (sR L), .arr 70 2 0 []]) (by decide) (ZNL hE) ZCF ZCH (fun _ => ?_)
      exact ⟨L.length, 0, 0, [], by omega, by simp, by simp, rfl, rfl⟩
    rintro m F H ⟨j, c2, O, hj, hO, hOe, rfl, rfl⟩
    have eL : (sR L).length = L.length := by simp
    refine WA ?_
    refine aw_if rfl (fun hlt2 => ?_) (fun hge2 => ?_)
    · obtain ⟨s, hs⟩ : ∃ z, L[j]? = some z := ⟨_, List.getElem?_eq_getElem (by omega)⟩
      obtain ⟨sf, st⟩ := s
      have hrow : (sR L)[j]? = some [I sf, I st] := by rw [List.getElem?_map, hs]; rfl
      have hrow0 : (sR L)[0 + j]? = some [I sf, I st] := by rw [Nat.zero_add]; exact hrow
      refine WA ?_
      refine WR ?_
      refine al_ef rfl (ef_call0 true (fun g => hasS_v ⟨st, sf⟩ L (g (.o 0 0 L.length c)) (by omega)) rfl .fn rfl (by decide) (by kernel_rfl) rfl (fun _ => .cons (.frz rfl rfl (by rw [List.drop_zero, List.take_of_length_le (by simp)]) (by simp) rfl) (.cons (.aL (C0 rfl)) .nil)) (fun _ _ _ _ ⟨hu, hH⟩ => by rw [hu, hH]; exact ⟨.c (.inl trivial), by simp⟩)) ?_
      rintro _ _ ⟨_, _, _, ⟨rfl, rfl⟩, hF, hH⟩
      (try simp only [nsl, Nat.reduceAdd, Nat.reduceLT, Nat.reduceSub] at hF); (try simp only [nsl, Nat.reduceAdd, Nat.reduceLT, Nat.reduceSub] at hH); subst hF; subst hH
      refine WE ?_
      refine aw_cond rfl (fun hb => ?_) (fun hb => ?_)
      · have hOn : (O ++ [(⟨sf, st⟩ : Sid2)]) = ((L.take (j + 1)).filter fun s => !L.contains ⟨s.t, s.f⟩) := by
          rw [List.take_add_one, hs, List.filter_append, ← hOe]
          simp only [Bool.not_eq_true'] at hb
          simp only [Option.toList_some, List.filter_cons, List.filter_nil, hb, Bool.not_false, if_true]
        refine WR ?_
        refine al_ef rfl (Zapp (KA (t := 57) rfl)) ?_
        rintro _ _ ⟨_, cc, hcc, rfl, rfl⟩
        refine WE ?_
        refine WA ?_
        refine wk_of [some 0, some 1] (fun _ => [(3, .o 0 0 L.length c), (4, .o 1 0 (O ++ [(⟨sf, st⟩ : Sid2)]).length cc), (21, .o 0 0 L.length c), (22, .c (I L.length)), (23, .c (I (j + 1 : Nat)))]) (fun _ => _) (by decide) (ZNL hE) ZCF ZCH (fun _ => ?_)
        exact ⟨m - 1, by omega, j + 1, cc, O ++ [⟨sf, st⟩], by omega, by simp; omega, hOn, rfl, by simp [sR]⟩
      · have hOn : O = ((L.take (j + 1)).filter fun s => !L.contains ⟨s.t, s.f⟩) := by
          rw [List.take_add_one, hs, List.filter_append, ← hOe]
          simp only [Bool.not_eq_true', Bool.not_eq_false'] at hb
          simp only [Option.toList_some, List.filter_cons, List.filter_nil, hb, Bool.not_true, Bool.false_eq_true, if_false, List.append_nil]
        refine ZZ ?_
        refine WA ?_
        refine wk_of [some 0, some 1] (fun _ => [(3, .o 0 0 L.length c), (4, .o 1 0 O.length c2), (21, .o 0 0 L.length c), (22, .c (I L.length)), (23, .c (I (j + 1 : Nat)))]) (fun _ => _) (by decide) (ZNL hE) ZCF ZCH (fun _ => ?_)
        exact ⟨m - 1, by omega, j + 1, c2, O, by omega, by omega, hOn, rfl, rfl⟩
    rw [List.take_of_length_le (by omega)] at hOe
    refine ZZ ?_
    refine WR ?_
    refine al_ef rfl (ef_callp [1] (fun _ => [.arr 70 2 c2 (sR O)]) false (fun _ => sortS_v O c2 (by omega)) rfl .fn rfl (by decide) (by kernel_rfl) rfl ZCH (by decide) (fun _ => .arr rfl rfl .nil) (by simp)) ?_
    rintro F1 H1 ⟨_, _, _, _, ⟨l', hp, rfl, rfl⟩, hF, hH⟩
    rw [killF_nil] at hF; (try simp only [List.set_cons_zero, List.set_cons_succ, updH, posOf, lentArr, killF, killO, killV, AV.has, AV.hasL, AV.emb, AV.embL, OB.emb, embB, List.filter_cons, List.filter_nil, List.getElem?_cons_zero, List.getElem?_cons_succ, List.getD_cons_zero, List.getD_cons_succ, List.drop_succ_cons, List.drop_zero, List.drop_nil, List.contains_cons, List.contains_nil, Nat.reduceBEq, Nat.reduceEqDiff, beq_self_eq_true, Bool.or_false, Bool.false_or, Bool.or_true, Bool.true_or, Bool.false_eq_true, Option.map_some, Option.map_none, List.map_cons, List.map_nil, List.cons_append, List.nil_append, List.append_nil, List.length_cons, List.length_nil, Nat.reduceAdd, Nat.reduceLT, Nat.reduceSub, if_true, if_false, Nat.zero_add, Nat.add_zero, Nat.sub_zero, Nat.lt_irrefl, Nat.not_lt_zero, Nat.zero_lt_one, Nat.lt_add_one] at hF); (try simp only [List.set_cons_zero, List.set_cons_succ, updH, posOf, lentArr, killF, killO, killV, AV.has, AV.hasL, AV.emb, AV.embL, OB.emb, embB, List.filter_cons, List.filter_nil, List.getElem?_cons_zero, List.getElem?_cons_succ, List.getD_cons_zero, List.getD_cons_succ, List.drop_succ_cons, List.drop_zero, List.drop_nil, List.contains_cons, List.contains_nil, Nat.reduceBEq, Nat.reduceEqDiff, beq_self_eq_true, Bool.or_false, Bool.false_or, Bool.or_true, Bool.true_or, Bool.false_eq_true, Option.map_some, Option.map_none, List.map_cons, List.map_nil, List.cons_append, List.nil_append, List.append_nil, List.length_cons, List.length_nil, Nat.reduceAdd, Nat.reduceLT, Nat.reduceSub, if_true, if_false, Nat.zero_add, Nat.add_zero, Nat.sub_zero, Nat.lt_irrefl, Nat.not_lt_zero, Nat.zero_lt_one, Nat.lt_add_one] at hH); subst hF; subst hH
    refine WE ?_
    have hpl := hp.length_eq
    refine WA ?_
    exact aret_f1 [] _ rfl rfl rfl rfl (by rw [List.drop_zero, List.take_of_length_le (by simp; omega)]) (by simp; omega) rfl (by decide) (ZNK rfl) (fun _ => .nil) (fun q => ⟨q, l', by rw [hop, ← hOe]; exact hp, rfl, rfl⟩)
end Go.Proofs.YtlblimbelfenaaaGreat

/- Closed meshes of the stream, by value. -/
-- NEWM
namespace Go.Proofs.YtlblimbelfenaaaGreat
open Go Go.RowKit
set_option maxRecDepth 100000
set_option maxHeartbeats 8000000 in
theorem closedmesh_v (v : Value) (zs : List Int) (a : Int) (hs : StrOk zs) (h0 : 0 ≤ a) (h1 : a ≤ 500000000) :
    ACalls Tryz.prog 8 [.p 0 0 0] [strm v zs a] fun u H => ∃ (a' : Int) (q w : Value) (V : List Vec3) (Fs : List Fac3), u = mshA q w V Fs ∧ H = [strm v zs a'] ∧ a ≤ a' ∧ a' ≤ a + 12800 ∧ V.length ≤ 16 ∧ Fs.length ≤ 25 ∧ mshF V Fs = 0 ∧ opnL Fs = [] := by
  refine acalls_of (N := 16) Tryz.func8 rfl rfl (by simp) fun E hE => ?_
  refine WA ?_
  refine WA ?_
  refine aw_loopw (fun m F H => ∃ (k : Nat) (a1 : Int), m + k = 8 ∧ a ≤ a1 ∧ a1 ≤ a + 1600 * k ∧ F = [(0, .p 0 0 0), (2, .p 1 0 0), (4, .c (I k))] ∧ H = [strm v zs a1, .box [.c (.r (.slice none 0 0) []), .c (.r (.slice none 0 0) [])]]) ?_ ?_
  · refine wk_of [some 0, some 1] (fun _ => [(0, .p 0 0 0), (2, .p 1 0 0), (4, .c (I (0 : Nat)))]) (fun _ => [strm v zs a, .box [.c (.r (.slice none 0 0) []), .c (.r (.slice none 0 0) [])]]) (by decide) (ZNL hE) ZCF ZCH (fun _ => ?_)
    exact ⟨8, 0, a, by omega, by omega, by omega, rfl, rfl⟩
  rintro m F H ⟨k, a1, hk, ha1, ha2, rfl, rfl⟩
  refine WA ?_
  refine aw_if rfl (fun hlt => ?_) (fun hge => ?_)
  · refine WR ?_
    refine al_ef rfl (ef_callm false (fun _ => rightmesh_v _ _ _ hs (by omega) (by omega)) rfl .fn rfl (by decide) (by kernel_rfl) rfl rfl (fun _g => .cons (.p rfl) .nil) (fun _g => .cons (.c rfl) (.cons (.c rfl) .nil)) (by simp)) ?_
    rintro F1 H1 ⟨_, _, _, _, ⟨a2, q, w, V, Fs, rfl, hq, ha3, ha4, hV, hFl, hmf⟩, hF, hH⟩
    injection hq with hq1 hq2; subst hq1; subst hq2
    (try simp only [nsl, Nat.reduceAdd, Nat.reduceLT, Nat.reduceSub] at hF); (try simp only [nsl, Nat.reduceAdd, Nat.reduceLT, Nat.reduceSub] at hH); subst hF; subst hH
    refine WE ?_
    refine WR ?_
    refine al_ef rfl (ef_call0 false (fun _ => openof_v q w V Fs (by omega)) rfl .fn rfl (by decide) (by kernel_rfl) rfl (fun _ => C0 rfl) (by simp)) ?_
    rintro _ _ ⟨_, _, _, ⟨qo, lo, hlo, rfl, rfl⟩, hF, hH⟩
    (try simp only [nsl, Nat.reduceAdd, Nat.reduceLT, Nat.reduceSub] at hF); (try simp only [nsl, Nat.reduceAdd, Nat.reduceLT, Nat.reduceSub] at hH); subst hF; subst hH
    refine WE ?_
    refine aw_if rfl (fun hok => ?_) (fun hok => ?_)
    · have hop : opnL Fs = [] := by
        have h3 : lo.length = 0 := by simp at hok; simp [hok]
        rw [List.eq_nil_of_length_eq_zero h3] at hlo
        exact hlo.symm.eq_nil
      refine WA ?_
      exact aret_a [some 0] [strm v zs a2] rfl (KK (t := 29) rfl) rfl (Cells.box rfl) (by simp) (by (try simp only [nm, putL, Nat.reduceAdd, cellsOf, cvOf]) <;> rfl) (by decide) (ZNK rfl) (fun _ => C0 rfl) ZCH ⟨_, q, w, V, Fs, rfl, rfl, by omega, by omega, hV, hFl, hmf, hop⟩
    · refine ZZ ?_
      refine WA ?_
      refine wk_of [some 0, some 1] (fun _ => [(0, .p 0 0 0), (2, .p 1 0 0), (4, .c (I (k + 1 : Nat)))]) (fun _ => [strm v zs a2, .box [.c (.r (.slice none 0 0) []), .c (.r (.slice none 0 0) [])]]) (by decide) (ZNL hE) ZCF ZCH (fun _ => ?_)
      exact ⟨m - 1, by omega, k + 1, a2, by omega, by omega, by omega, rfl, rfl⟩
  refine ZZ ?_
  refine WR ?_
  refine al_ef rfl (ef_call [] (fun _ => []) false (fun _ => tetra_v ⟨0, 0, 0⟩ 6 (by decide) (by decide)) rfl .fn rfl (by decide) (by kernel_rfl) rfl (fun _ => C0 rfl) (by decide) (fun _ => .nil) (by simp)) ?_
  rintro F1 H1 ⟨_, _, _, _, ⟨rfl, rfl⟩, hF, hH⟩
  (try simp only [List.set_cons_zero, List.set_cons_succ, updH, posOf, lentArr, killF, killO, killV, AV.has, AV.hasL, AV.emb, AV.embL, OB.emb, embB, List.filter_cons, List.filter_nil, List.getElem?_cons_zero, List.getElem?_cons_succ, List.getD_cons_zero, List.getD_cons_succ, List.drop_succ_cons, List.drop_zero, List.drop_nil, List.contains_cons, List.contains_nil, Nat.reduceBEq, Nat.reduceEqDiff, beq_self_eq_true, Bool.or_false, Bool.false_or, Bool.or_true, Bool.true_or, Bool.false_eq_true, Option.map_some, Option.map_none, List.map_cons, List.map_nil, List.cons_append, List.nil_append, List.append_nil, List.length_cons, List.length_nil, Nat.reduceAdd, Nat.reduceLT, Nat.reduceSub, if_true, if_false, Nat.zero_add, Nat.add_zero, Nat.sub_zero, Nat.lt_irrefl, Nat.not_lt_zero, Nat.zero_lt_one, Nat.lt_add_one] at hF); (try simp only [List.set_cons_zero, List.set_cons_succ, updH, posOf, lentArr, killF, killO, killV, AV.has, AV.hasL, AV.emb, AV.embL, OB.emb, embB, List.filter_cons, List.filter_nil, List.getElem?_cons_zero, List.getElem?_cons_succ, List.getD_cons_zero, List.getD_cons_succ, List.drop_succ_cons, List.drop_zero, List.drop_nil, List.contains_cons, List.contains_nil, Nat.reduceBEq, Nat.reduceEqDiff, beq_self_eq_true, Bool.or_false, Bool.false_or, Bool.or_true, Bool.true_or, Bool.false_eq_true, Option.map_some, Option.map_none, List.map_cons, List.map_nil, List.cons_append, List.nil_append, List.append_nil, List.length_cons, List.length_nil, Nat.reduceAdd, Nat.reduceLT, Nat.reduceSub, if_true, if_false, Nat.zero_add, Nat.add_zero, Nat.sub_zero, Nat.lt_irrefl, Nat.not_lt_zero, Nat.zero_lt_one, Nat.lt_add_one] at hH); subst hF; subst hH
  refine WE ?_
  exact aret_of (us := [.a [.o 2 0 (tetV ⟨0, 0, 0⟩ 6).length 4, .o 3 0 (tetF).length 4]]) [some 0] (fun g => .a [.c (.r (g (.o 2 0 (tetV ⟨0, 0, 0⟩ 6).length 4)) (vR (tetV ⟨0, 0, 0⟩ 6))), .c (.r (g (.o 3 0 (tetF).length 4)) (fR (tetF)))]) (fun _ => [strm v zs a1]) (.cella rfl (KK (t := 29) rfl) (Cells.box rfl) (by simp) (by (try simp only [nm, putL, Nat.reduceAdd, cellsOf, cvOf]) <;> rfl) .nil) (by decide) (ZNK rfl) (fun _ => .aL (.cons (.frz rfl rfl (by rw [List.drop_zero, List.take_of_length_le (by simp)]) (by simp) rfl) (.cons (.frz rfl rfl (by rw [List.drop_zero, List.take_of_length_le (by simp)]) (by simp) rfl) .nil))) ZCH (fun _ => ⟨_, _, _, tetV ⟨0, 0, 0⟩ 6, tetF, rfl, rfl, by omega, by omega, by decide, by decide, by decide, by decide⟩)
end Go.Proofs.YtlblimbelfenaaaGreat

/- Guarded calls in regions that draw their order. Conditions: none. -/
namespace Go.Proofs.YtlblimbelfenaaaGreat
open Go Go.RowKit
section
variable {P : Program} {N : Nat} {E : Env} {F : Fm} {H : List OB} {o : Oper} {Q : Exit → Fm → List OB → Prop} {ops : Array Oper} {L : List (Nat × Option (List Nat))} {i j d : Nat} {U : List Nat}
theorem wanted_off {S : Nat → Prop} {ρ : List (Option Nat)} {a : Act} {w : World} (hg : gd ops o F = some false) (hR : R N E S ρ F H a w) : ¬ Region.wanted o (yielded ops a.tmps) = true := by
  obtain ⟨j, b, oj, t, h1, h2, h3, ⟨b', h4, h5⟩ | ⟨h4, _⟩⟩ := gd_of hg
  · simp only [Region.wanted, h1, yielded_of hR h2 h3 h4]
    cases b <;> cases b' <;> simp_all
  · simp [Region.wanted, h1, skipped_of hR h2 h3 h4]
/-- A guarded call that is made. -/
theorem at_efG {K : Fm → List OB → Prop} (ho : ops[i]? = some o) (hg : gok ops o F = true) (hr : Ef P N E o F H K) (h : ∀ F' H', K F' H' → (∀ j ∈ U, Ag P N E ops F' H' j) ∧ AT P N E ops L F' H' Q) : AT P N E ops ((i, some U) :: L) F H Q := fun S ρ a w hR => by
  refine wpT_e ho fun K' hK => ?_
  rw [if_pos (wanted_of (P := P) hg hR)]
  refine effO_mono (fun a' w' hh => ?_) (hr S ρ a w hR)
  obtain ⟨S', ρ', F', H', hk, hR'⟩ := hh
  obtain ⟨h1, h2⟩ := h F' H' hk
  exact hK _ _ (fun j hj => h1 j hj S' ρ' a' w' hR') (h2 S' ρ' a' w' hR')
/-- One that is not made. -/
theorem at_skE (ho : ops[i]? = some o) (hg : gd ops o F = some false) (hd : o.dst = some d) (hN : d < N) (h : (∀ j ∈ U, Ag P N E ops ((d, un) :: F) H j) ∧ AT P N E ops L ((d, un) :: F) H Q) : AT P N E ops ((i, some U) :: L) F H Q := fun S ρ a w hR => by
  refine wpT_e ho fun K' hK => ?_
  rw [if_neg (wanted_off hg hR)]
  rw [hd]
  exact hK _ _ (fun j hj => h.1 j hj S ρ _ w (hR.put hN (.c (.s _)))) (h.2 S ρ _ w (hR.put hN (.c (.s _))))
theorem put_sameG {S : Nat → Prop} {ρ : List (Option Nat)} {a : Act} {w : World} {x : AV} (hR : R N E S ρ F H a w) (hx : F.lookup d = some x) : a.put (some d) (x.den ρ H) = a := by
  have hf := (hR.fr d x hx).1
  obtain ⟨tm, df⟩ := a
  simp only [Act.put, Act.mk.injEq, and_true]
  refine Array.ext_getElem? fun k => ?_
  rw [Array.getElem?_setIfInBounds]
  split
  · rename_i hk; subst hk; rw [hf]; split
    · rfl
    · rename_i hlt; rw [Array.getElem?_eq_none (by simpa using hlt)] at hf; cases hf
  · rfl
/-- Read again: a guarded one. -/
theorem ag_rdG {x : AV} (ho : ops[j]? = some o) (hg : gok ops o F = true) (hd : o.dst = some d) (hr : Rd P N E o F H x) (hx : F.lookup d = some x) : Ag P N E ops F H j := fun S ρ a w hR => by
  obtain ⟨h1, h2⟩ := hr S ρ a w hR
  refine again_of ho fun K hK => ?_
  rw [if_pos (wanted_of (P := P) hg hR)]
  unfold Oper.still
  rw [h1]
  refine ⟨rfl, ?_⟩
  rw [hd, put_sameG hR hx]
  exact hK
theorem ag_skG (ho : ops[j]? = some o) (hg : gd ops o F = some false) (hd : o.dst = some d) (hx : F.lookup d = some un) : Ag P N E ops F H j := fun S ρ a w hR => by
  refine again_of ho fun K hK => ?_
  rw [if_neg (wanted_off hg hR)]
  rw [hd]
  have := put_sameG hR hx
  simp only [un, AV.den, CV.den] at this
  rw [this]
  exact hK
end
end Go.Proofs.YtlblimbelfenaaaGreat
