/- The stream's legs, corners and changes of speed. -/
import Derived.Test.YtdmeohgojdfmoaaGreatDoorSs
import Derived.Test.YtdmeohgojdfmoaaGreatDoorMb
set_option linter.unusedSimpArgs false
set_option linter.unusedVariables false
namespace Go.Proofs.YtdmeohgojdfmoaaGreatDoor
open Go Go.RowKit
set_option maxRecDepth 100000
theorem change_a (v : Value) (zs : List Int) (a : Int) (hs : StrOk zs) (h0 : 0 ≤ a) (h1 : a ≤ 1000000000) :
    ACalls Tryz.prog 13 [.p 0 0 0] [strm v zs a] fun u H => ∃ r, u = .c (I r) ∧ H = [strm v zs (a + 1)] ∧ -1 ≤ r ∧ r ≤ 10000001 := by
  refine acalls_of (N := 6) Tryz.func13 rfl rfl (by simp) fun E hE => ?_
  refine WA ?_
  refine WR ?_
  refine al_ef rfl (ef_callm true (fun _ => pick_a [50, 10, 1, 500, 10000, 50, 0, 10000000, 10000001] _ _ _ _ hs (by omega) (by omega) (by simp) (by simp)) rfl .fn rfl (by decide) (by kernel_rfl) rfl rfl (fun _g => .cons (.p rfl) (.cons (.frz rfl rfl rfl rfl rfl) .nil)) (fun _g => .cons (.c rfl) (.cons (.c rfl) .nil)) (fun _ _ _ _ ⟨_, hu, hH, _⟩ => by rw [hu, hH]; exact ⟨.c (.inl trivial), strm_flat (.inr ⟨0, _, rfl, by simp⟩)⟩)) ?_
  rintro F1 H1 ⟨_, _, _, _, ⟨r, rfl, hq, hrmr⟩, hF, hH⟩
  injection hq with hq1 hq2; subst hq1; subst hq2
  (try simp only [nsl, Nat.reduceAdd, Nat.reduceLT, Nat.reduceSub] at hF); (try simp only [nsl, Nat.reduceAdd, Nat.reduceLT, Nat.reduceSub] at hH); subst hF; subst hH
  refine WE ?_
  refine aret_1 [some 0] _ rfl rfl rfl (by decide) (ZNK rfl) ZCH ⟨_, rfl, rfl, ?_⟩
  simp only [List.mem_cons, List.not_mem_nil, or_false] at hrmr
  omega
theorem leglist_a (most : Int) (v : Value) (zs : List Int) (a : Int) (hs : StrOk zs) (h0 : 0 ≤ a) (h1 : a ≤ 700000000) (hm : 1 ≤ most) (hm2 : most ≤ 1000000) :
    ACalls Tryz.prog 11 [.p 0 0 0, .c (I most)] [strm v zs a] fun u H => ∃ (v' : Value) (l : List Leg) (a' : Int), u = .c (legs_r v' l) ∧ H = [strm v zs a'] ∧ a ≤ a' ∧ a' ≤ a + 2 * most + 10 ∧ l.length ≤ most := by
  refine acalls_of (N := 55) Tryz.func11 rfl rfl (by simp) fun E hE => ?_
  refine WA ?_
  refine WA ?_
  refine WR ?_
  refine al_ef rfl (ef_callm false (fun _ => range_a 1 most _ _ _ hs (by omega) (by omega) (by omega) (by omega) (by omega) (by omega)) rfl .fn rfl (by decide) (by kernel_rfl) rfl rfl (fun _g => .cons (.p rfl) (.cons (.c rfl) (.cons (.c rfl) .nil))) (fun _g => .cons (.c rfl) (.cons (.c rfl) .nil)) (by simp)) ?_
  rintro F1 H1 ⟨_, _, _, _, ⟨rr, ar, rfl, hq, hr3, hr4, hr1, hr2, _⟩, hF, hH⟩
  injection hq with hq1 hq2; subst hq1; subst hq2
  (try simp only [nsl, Nat.reduceAdd, Nat.reduceLT, Nat.reduceSub] at hF); (try simp only [nsl, Nat.reduceAdd, Nat.reduceLT, Nat.reduceSub] at hH); subst hF; subst hH
  have h64r : in64 rr := by simp only [in64]; omega
  refine WE ?_
  refine aw_loopw (fun m F H => ∃ (k : Nat) (l : List Leg) (c : Nat) (a' : Int), m + k = rr.toNat ∧ a ≤ a' ∧ a' ≤ a + 1 + 2 * k ∧ l.length = k ∧ F = [(0, .p 0 0 0), (5, .o 1 0 l.length c), (8, .c (I rr)), (9, .c (I k))] ∧ H = [strm v zs a', .arr 38 2 c (l.map Leg.row)]) ?_ ?_
  · refine wk_of [some 0, none] (fun _ => [(0, .p 0 0 0), (5, .o 1 0 ([] : List Leg).length 0), (8, .c (I rr)), (9, .c (I (0 : Nat)))]) (fun _ => [strm v zs _, .arr 38 2 0 (([] : List Leg).map Leg.row)]) (by decide) (ZNL hE) ZCF ZCH (fun _ => ?_)
    exact ⟨rr.toNat, 0, [], 0, _, by omega, by omega, by omega, rfl, rfl, rfl⟩
  rintro m F H ⟨k, l, c, a', hmk, ha1, ha2, hl, rfl, rfl⟩
  refine WA ?_
  refine aw_if rfl (fun hlt => ?_) (fun hge => ?_)
  · refine WR ?_
    refine al_ef rfl (ef_callm true (fun _ => pick_a [1, 5, 20, 100, 1000] _ _ _ _ hs (by omega) (by omega) (by simp) (by simp)) rfl .fn rfl (by decide) (by kernel_rfl) rfl rfl (fun _g => .cons (.p rfl) (.cons (.frz rfl rfl rfl rfl rfl) .nil)) (fun _g => .cons (.c rfl) (.cons (.c rfl) .nil)) (fun _ _ _ _ ⟨_, hu, hH, _⟩ => by rw [hu, hH]; exact ⟨.c (.inl trivial), strm_flat (.inr ⟨0, _, rfl, by simp⟩)⟩)) ?_
    rintro F1 H1 ⟨_, _, _, _, ⟨x, rfl, hq, hrmx⟩, hF, hH⟩
    injection hq with hq1 hq2; subst hq1; subst hq2
    (try simp only [nsl, Nat.reduceAdd, Nat.reduceLT, Nat.reduceSub] at hF); (try simp only [nsl, Nat.reduceAdd, Nat.reduceLT, Nat.reduceSub] at hH); subst hF; subst hH
    refine WO ?_
    refine al_ef rfl (ef_callm true (fun _ => pick_a [10, 50, 100, 500] _ _ _ _ hs (by omega) (by omega) (by simp) (by simp)) rfl .fn rfl (by decide) (by kernel_rfl) rfl rfl (fun _g => .cons (.p rfl) (.cons (.frz rfl rfl rfl rfl rfl) .nil)) (fun _g => .cons (.c rfl) (.cons (.c rfl) .nil)) (fun _ _ _ _ ⟨_, hu, hH, _⟩ => by rw [hu, hH]; exact ⟨.c (.inl trivial), strm_flat (.inr ⟨0, _, rfl, by simp⟩)⟩)) ?_
    rintro F1 H1 ⟨_, _, _, _, ⟨y, rfl, hq, hrmy⟩, hF, hH⟩
    injection hq with hq1 hq2; subst hq1; subst hq2
    (try simp only [nsl, Nat.reduceAdd, Nat.reduceLT, Nat.reduceSub] at hF); (try simp only [nsl, Nat.reduceAdd, Nat.reduceLT, Nat.reduceSub] at hH); subst hF; subst hH
    refine WO ?_
    refine al_ef rfl (Zapp (KA (t := 26) rfl)) ?_
    rintro _ _ ⟨_, cc, hcc, rfl, rfl⟩
    refine WE ?_
    refine WA ?_
    refine wk_of [some 0, some 1] (fun _ => [(0, .p 0 0 0), (5, .o 1 0 (l ++ [(⟨x, y⟩ : Leg)]).length cc), (8, .c (I rr)), (9, .c (I (k + 1 : Nat)))]) (fun _ => _) (by decide) (ZNL hE) ZCF ZCH (fun _ => ?_)
    exact ⟨m - 1, by omega, k + 1, l ++ [⟨x, y⟩], cc, a' + 1 + 1, by omega, by omega, by omega, by simp; omega, rfl, by rw [List.map_append]; rfl⟩
  refine ZZ ?_
  refine WR ?_
  refine al_ef rfl (ef_callm false (fun _ => flip_a 12 _ _ _ hs (by omega) (by omega) (by simp only [in64]; omega)) rfl .fn rfl (by decide) (by kernel_rfl) rfl rfl (fun _g => .cons (.p rfl) (.cons (.c rfl) .nil)) (fun _g => .cons (.c rfl) (.cons (.c rfl) .nil)) (by simp)) ?_
  rintro F1 H1 ⟨_, _, _, _, ⟨bb, rfl, hq⟩, hF, hH⟩
  injection hq with hq1 hq2; subst hq1; subst hq2
  (try simp only [nsl, Nat.reduceAdd, Nat.reduceLT, Nat.reduceSub] at hF); (try simp only [nsl, Nat.reduceAdd, Nat.reduceLT, Nat.reduceSub] at hH); subst hF; subst hH
  refine WO ?_
  refine al_nil ?_
  refine aseq_n ?_
  refine aw_cut (fun F H => ∃ (l : List Leg) (c : Nat) (a' : Int), a ≤ a' ∧ a' ≤ a + 2 * most + 10 ∧ l.length ≤ most ∧ F = [(5, .o 1 0 l.length c)] ∧ H = [strm v zs a', .arr 38 2 c (l.map Leg.row)]) ?_ ?_ wk_aw
  · refine aw_cond rfl (fun _ => ?_) (fun _ => ?_)
    · refine WR ?_
      refine al_ef rfl (ef_callm false (fun _ => next_a 3 _ _ _ hs (by omega) (by omega) (by simp only [in64]; omega)) rfl .fn rfl (by decide) (by kernel_rfl) rfl rfl (fun _g => .cons (.p rfl) (.cons (.c rfl) .nil)) (fun _g => .cons (.c rfl) (.cons (.c rfl) .nil)) (by simp)) ?_
      rintro F1 H1 ⟨_, _, _, _, ⟨rr, rfl, hq, hr1, hr2⟩, hF, hH⟩
      injection hq with hq1 hq2; subst hq1; subst hq2
      (try simp only [nsl, Nat.reduceAdd, Nat.reduceLT, Nat.reduceSub] at hF); (try simp only [nsl, Nat.reduceAdd, Nat.reduceLT, Nat.reduceSub] at hH); subst hF; subst hH
      refine WE ?_
      refine WA ?_
      refine aw_if rfl (fun he => ?_) (fun he => ?_)
      · refine WA ?_
        exact aret_1 [some 0] _ rfl rfl rfl (by decide) (ZNK rfl) ZCH ⟨_, [], _, rfl, rfl, by omega, by omega, by simp; omega⟩
      refine ZZ ?_
      refine WA ?_
      refine aw_if rfl (fun he1 => ?_) (fun he1 => ?_)
      · refine WR ?_
        refine al_ef rfl (ef_callm false (fun _ => next_a _ _ _ _ hs (by omega) (by omega) (by simp only [in64]; omega)) rfl .fn rfl (by decide) (by kernel_rfl) rfl rfl (fun _g => .cons (.p rfl) (.cons (.c rfl) .nil)) (fun _g => .cons (.c rfl) (.cons (.c rfl) .nil)) (by simp)) ?_
        rintro F1 H1 ⟨_, _, _, _, ⟨r, rfl, hq, hr1, hr2⟩, hF, hH⟩
        injection hq with hq1 hq2; subst hq1; subst hq2
        (try simp only [nsl, Nat.reduceAdd, Nat.reduceLT, Nat.reduceSub] at hF); (try simp only [nsl, Nat.reduceAdd, Nat.reduceLT, Nat.reduceSub] at hH); subst hF; subst hH
        obtain ⟨i, rfl⟩ : ∃ i : Nat, r = i := ⟨r.toNat, by omega⟩
        have hk : i < l.length := by have := hr2 (by omega); omega
        obtain ⟨x, hx⟩ : ∃ x, l[i]? = some x := ⟨_, List.getElem?_eq_getElem hk⟩
        have hrow : (l.map Leg.row)[i]? = some [I x.long, I x.limit] := by rw [List.getElem?_map, hx]; rfl
        refine WO ?_
        refine al_ef rfl (ef_callm false (fun _ => odd_a 1 200000 _ _ _ hs (by omega) (by omega) (by omega) (by omega) (by omega) (by omega)) rfl .fn rfl (by decide) (by kernel_rfl) rfl rfl (fun _g => .cons (.p rfl) (.cons (.c rfl) (.cons (.c rfl) .nil))) (fun _g => .cons (.c rfl) (.cons (.c rfl) .nil)) (by simp)) ?_
        rintro F1 H1 ⟨_, _, _, _, ⟨x1, ar, rfl, hq, hr3, hr4, h64x1⟩, hF, hH⟩
        injection hq with hq1 hq2; subst hq1; subst hq2
        (try simp only [nsl, Nat.reduceAdd, Nat.reduceLT, Nat.reduceSub] at hF); (try simp only [nsl, Nat.reduceAdd, Nat.reduceLT, Nat.reduceSub] at hH); subst hF; subst hH
        refine WO ?_
        refine al_ef rfl (ef_callm true (fun _ => pick_a [10, 100000] _ _ _ _ hs (by omega) (by omega) (by simp) (by simp)) rfl .fn rfl (by decide) (by kernel_rfl) rfl rfl (fun _g => .cons (.p rfl) (.cons (.frz rfl rfl rfl rfl rfl) .nil)) (fun _g => .cons (.c rfl) (.cons (.c rfl) .nil)) (fun _ _ _ _ ⟨_, hu, hH, _⟩ => by rw [hu, hH]; exact ⟨.c (.inl trivial), strm_flat (.inr ⟨0, _, rfl, by simp⟩)⟩)) ?_
        rintro F1 H1 ⟨_, _, _, _, ⟨y1, rfl, hq, hrmy1⟩, hF, hH⟩
        injection hq with hq1 hq2; subst hq1; subst hq2
        (try simp only [nsl, Nat.reduceAdd, Nat.reduceLT, Nat.reduceSub] at hF); (try simp only [nsl, Nat.reduceAdd, Nat.reduceLT, Nat.reduceSub] at hH); subst hF; subst hH
        refine WE ?_
        refine wk_of [some 0, some 1] (fun _ => [(5, .o 1 0 (l.set i (⟨x1, y1⟩ : Leg)).length c)]) (fun _ => _) (by decide) (ZNL hE) ZCF ZCH (fun _ => ?_)
        exact ⟨l.set i ⟨x1, y1⟩, c, ar + 1, by omega, by omega, by simp; omega, rfl, by simp [List.map_set]⟩
      · refine WR ?_
        refine al_ef rfl (ef_callm false (fun _ => next_a _ _ _ _ hs (by omega) (by omega) (by simp only [in64]; omega)) rfl .fn rfl (by decide) (by kernel_rfl) rfl rfl (fun _g => .cons (.p rfl) (.cons (.c rfl) .nil)) (fun _g => .cons (.c rfl) (.cons (.c rfl) .nil)) (by simp)) ?_
        rintro F1 H1 ⟨_, _, _, _, ⟨r, rfl, hq, hr1, hr2⟩, hF, hH⟩
        injection hq with hq1 hq2; subst hq1; subst hq2
        (try simp only [nsl, Nat.reduceAdd, Nat.reduceLT, Nat.reduceSub] at hF); (try simp only [nsl, Nat.reduceAdd, Nat.reduceLT, Nat.reduceSub] at hH); subst hF; subst hH
        obtain ⟨i, rfl⟩ : ∃ i : Nat, r = i := ⟨r.toNat, by omega⟩
        have hk : i < l.length := by have := hr2 (by omega); omega
        obtain ⟨x, hx⟩ : ∃ x, l[i]? = some x := ⟨_, List.getElem?_eq_getElem hk⟩
        have hrow : (l.map Leg.row)[i]? = some [I x.long, I x.limit] := by rw [List.getElem?_map, hx]; rfl
        refine WO ?_
        refine al_ef rfl (ef_callm true (fun _ => pick_a [5, 200000] _ _ _ _ hs (by omega) (by omega) (by simp) (by simp)) rfl .fn rfl (by decide) (by kernel_rfl) rfl rfl (fun _g => .cons (.p rfl) (.cons (.frz rfl rfl rfl rfl rfl) .nil)) (fun _g => .cons (.c rfl) (.cons (.c rfl) .nil)) (fun _ _ _ _ ⟨_, hu, hH, _⟩ => by rw [hu, hH]; exact ⟨.c (.inl trivial), strm_flat (.inr ⟨0, _, rfl, by simp⟩)⟩)) ?_
        rintro F1 H1 ⟨_, _, _, _, ⟨x1, rfl, hq, hrmx1⟩, hF, hH⟩
        injection hq with hq1 hq2; subst hq1; subst hq2
        (try simp only [nsl, Nat.reduceAdd, Nat.reduceLT, Nat.reduceSub] at hF); (try simp only [nsl, Nat.reduceAdd, Nat.reduceLT, Nat.reduceSub] at hH); subst hF; subst hH
        refine WO ?_
        refine al_ef rfl (ef_callm false (fun _ => odd_a 1 100000 _ _ _ hs (by omega) (by omega) (by omega) (by omega) (by omega) (by omega)) rfl .fn rfl (by decide) (by kernel_rfl) rfl rfl (fun _g => .cons (.p rfl) (.cons (.c rfl) (.cons (.c rfl) .nil))) (fun _g => .cons (.c rfl) (.cons (.c rfl) .nil)) (by simp)) ?_
        rintro F1 H1 ⟨_, _, _, _, ⟨y1, ar, rfl, hq, hr3, hr4, h64y1⟩, hF, hH⟩
        injection hq with hq1 hq2; subst hq1; subst hq2
        (try simp only [nsl, Nat.reduceAdd, Nat.reduceLT, Nat.reduceSub] at hF); (try simp only [nsl, Nat.reduceAdd, Nat.reduceLT, Nat.reduceSub] at hH); subst hF; subst hH
        refine WE ?_
        refine wk_of [some 0, some 1] (fun _ => [(5, .o 1 0 (l.set i (⟨x1, y1⟩ : Leg)).length c)]) (fun _ => _) (by decide) (ZNL hE) ZCF ZCH (fun _ => ?_)
        exact ⟨l.set i ⟨x1, y1⟩, c, ar, by omega, by omega, by simp; omega, rfl, by simp [List.map_set]⟩
    · refine ZZ ?_
      refine wk_of [some 0, some 1] (fun _ => [(5, .o 1 0 l.length c)]) (fun _ => _) (by decide) (ZNL hE) ZCF ZCH (fun _ => ?_)
      exact ⟨l, c, _, by omega, by omega, by omega, rfl, rfl⟩
  rintro F H ⟨l, c, a', ha1, ha2, hl, rfl, rfl⟩
  refine WA ?_
  exact aret_f1 [some 0] [strm v zs a'] rfl rfl rfl rfl (by rw [List.drop_zero, List.take_of_length_le (by simp)]) (by simp) (by decide) (by decide) (ZNK rfl) ZCH (fun v' => ⟨v', l, a', rfl, rfl, ha1, ha2, hl⟩)
theorem cornerlist_a (n : Int) (v : Value) (zs : List Int) (a : Int) (hs : StrOk zs) (h0 : 0 ≤ a) (h1 : a ≤ 700000000) (hn0 : 0 ≤ n) (hn2 : n ≤ 1000000) :
    ACalls Tryz.prog 12 [.p 0 0 0, .c (I n)] [strm v zs a] fun u H => ∃ (v' : Value) (l : List Int) (a' : Int), u = .c (ints_r v' l) ∧ H = [strm v zs a'] ∧ a ≤ a' ∧ a' ≤ a + n + 10 ∧ l.length ≤ n + 1 := by
  refine acalls_of (N := 35) Tryz.func12 rfl rfl (by simp) fun E hE => ?_
  refine WA ?_
  refine WA ?_
  refine WA ?_
  refine aw_loopw (fun m F H => ∃ (k : Nat) (l : List Int) (c : Nat) (a' : Int), m + k = (n - 1).toNat ∧ a ≤ a' ∧ a' ≤ a + 1 + k ∧ l.length = k ∧ F = [(0, .p 0 0 0), (5, .o 1 0 l.length c), (7, .c (I (n - 1))), (8, .c (I k))] ∧ H = [strm v zs a', .arr 3 1 c (l.map fun z => [I z])]) ?_ ?_
  · refine wk_of [some 0, none] (fun _ => [(0, .p 0 0 0), (5, .o 1 0 ([] : List Int).length 0), (7, .c (I (n - 1))), (8, .c (I (0 : Nat)))]) (fun _ => [strm v zs _, .arr 3 1 0 (([] : List Int).map fun z => [I z])]) (by decide) (ZNL hE) ZCF ZCH (fun _ => ?_)
    exact ⟨(n - 1).toNat, 0, [], 0, _, by omega, by omega, by omega, rfl, rfl, rfl⟩
  rintro m F H ⟨k, l, c, a', hmk, ha1, ha2, hl, rfl, rfl⟩
  refine WA ?_
  refine aw_if rfl (fun hlt => ?_) (fun hge => ?_)
  · refine WR ?_
    refine al_ef rfl (ef_callm true (fun _ => pick_a [0, 10, 50, 200, 1000] _ _ _ _ hs (by omega) (by omega) (by simp) (by simp)) rfl .fn rfl (by decide) (by kernel_rfl) rfl rfl (fun _g => .cons (.p rfl) (.cons (.frz rfl rfl rfl rfl rfl) .nil)) (fun _g => .cons (.c rfl) (.cons (.c rfl) .nil)) (fun _ _ _ _ ⟨_, hu, hH, _⟩ => by rw [hu, hH]; exact ⟨.c (.inl trivial), strm_flat (.inr ⟨0, _, rfl, by simp⟩)⟩)) ?_
    rintro F1 H1 ⟨_, _, _, _, ⟨x, rfl, hq, hrmx⟩, hF, hH⟩
    injection hq with hq1 hq2; subst hq1; subst hq2
    (try simp only [nsl, Nat.reduceAdd, Nat.reduceLT, Nat.reduceSub] at hF); (try simp only [nsl, Nat.reduceAdd, Nat.reduceLT, Nat.reduceSub] at hH); subst hF; subst hH
    refine WO ?_
    refine al_ef rfl (Zapp (KA (t := 22) rfl)) ?_
    rintro _ _ ⟨_, cc, hcc, rfl, rfl⟩
    refine WE ?_
    refine WA ?_
    refine wk_of [some 0, some 1] (fun _ => [(0, .p 0 0 0), (5, .o 1 0 (l ++ [x]).length cc), (7, .c (I (n - 1))), (8, .c (I (k + 1 : Nat)))]) (fun _ => _) (by decide) (ZNL hE) ZCF ZCH (fun _ => ?_)
    exact ⟨m - 1, by omega, k + 1, l ++ [x], cc, a' + 1, by omega, by omega, by omega, by simp; omega, rfl, by rw [List.map_append]; rfl⟩
  refine ZZ ?_
  refine WR ?_
  refine al_ef rfl (ef_callm false (fun _ => flip_a 12 _ _ _ hs (by omega) (by omega) (by simp only [in64]; omega)) rfl .fn rfl (by decide) (by kernel_rfl) rfl rfl (fun _g => .cons (.p rfl) (.cons (.c rfl) .nil)) (fun _g => .cons (.c rfl) (.cons (.c rfl) .nil)) (by simp)) ?_
  rintro F1 H1 ⟨_, _, _, _, ⟨bb, rfl, hq⟩, hF, hH⟩
  injection hq with hq1 hq2; subst hq1; subst hq2
  (try simp only [nsl, Nat.reduceAdd, Nat.reduceLT, Nat.reduceSub] at hF); (try simp only [nsl, Nat.reduceAdd, Nat.reduceLT, Nat.reduceSub] at hH); subst hF; subst hH
  refine WO ?_
  refine al_nil ?_
  refine aseq_n ?_
  refine aw_cut (fun F H => ∃ (l : List Int) (b k c c' : Nat) (rows : List (List CV)) (a' : Int), a ≤ a' ∧ a' ≤ a + n + 10 ∧ l.length ≤ n + 1 ∧ (rows.drop k).take l.length = l.map (fun z => [I z]) ∧ F = [(5, .o 1 k l.length c')] ∧ H = [strm v zs a', .arr 3 1 c rows]) ?_ ?_ wk_aw
  · refine aw_cond rfl (fun _ => ?_) (fun _ => ?_)
    · refine WR ?_
      refine al_ef rfl (ef_callm true (fun _ => pick_a [0, -1, 100000, 100001] _ _ _ _ hs (by omega) (by omega) (by simp) (by simp)) rfl .fn rfl (by decide) (by kernel_rfl) rfl rfl (fun _g => .cons (.p rfl) (.cons (.frz rfl rfl rfl rfl rfl) .nil)) (fun _g => .cons (.c rfl) (.cons (.c rfl) .nil)) (fun _ _ _ _ ⟨_, hu, hH, _⟩ => by rw [hu, hH]; exact ⟨.c (.inl trivial), strm_flat (.inr ⟨0, _, rfl, by simp⟩)⟩)) ?_
      rintro F1 H1 ⟨_, _, _, _, ⟨x, rfl, hq, hrmx⟩, hF, hH⟩
      injection hq with hq1 hq2; subst hq1; subst hq2
      (try simp only [nsl, Nat.reduceAdd, Nat.reduceLT, Nat.reduceSub] at hF); (try simp only [nsl, Nat.reduceAdd, Nat.reduceLT, Nat.reduceSub] at hH); subst hF; subst hH
      refine WO ?_
      refine al_ef rfl (Zapp (KA (t := 22) rfl)) ?_
      rintro _ _ ⟨_, cc, hcc, rfl, rfl⟩
      refine WE ?_
      by_cases hlen : 0 < l.length
      · refine WR ?_
        first | refine ZS ?_ | (refine G1 rfl ?_; refine al_ef rfl (ef_callm false (fun _ => flip_a 2 _ _ _ hs (by omega) (by omega) (by simp only [in64]; omega)) rfl .fn rfl (by decide) (by kernel_rfl) rfl rfl (fun _g => .cons (.p rfl) (.cons (.c rfl) .nil)) (fun _g => .cons (.c rfl) (.cons (.c rfl) .nil)) (by simp)) ?_; rintro F1 H1 ⟨_, _, _, _, ⟨bb, rfl, hq⟩, hF, hH⟩; injection hq with hq1 hq2; subst hq1; subst hq2; (try simp only [nsl, Nat.reduceAdd, Nat.reduceLT, Nat.reduceSub] at hF); (try simp only [nsl, Nat.reduceAdd, Nat.reduceLT, Nat.reduceSub] at hH); subst hF; subst hH) | skip
        refine WE ?_
        refine aw_cond rfl (fun _ => ?_) (fun _ => ?_)
        · refine ZR ?_
          refine WX1 ?_
          refine ZA (rd_slice (l := 1) rfl (KE (t := 22) rfl) rfl rfl (.inr ⟨_, _, _, rfl, rfl, rfl⟩) (.inl ⟨rfl, rfl⟩) (by omega) (by omega) (by omega)) ?_
          refine WE ?_
          refine wk_of [some 0, some 1] (fun _ => [(5, .o 1 1 ((l ++ [x]).drop 1).length (cc - 1))]) (fun _ => _) (by decide) (ZNL hE) ZCF ZCH (fun _ => ?_)
          exact ⟨(l ++ [x]).drop 1, 1, 1, cc, cc - 1, _, a' + 1 + 1 + 1, by omega, by omega, by simp; omega, by rw [List.map_drop, List.map_append, List.take_of_length_le (by simp)]; rfl, rfl, rfl⟩
        · refine ZZ ?_
          refine wk_of [some 0, some 1] (fun _ => [(5, .o 1 0 (l ++ [x]).length cc)]) (fun _ => _) (by decide) (ZNL hE) ZCF ZCH (fun _ => ?_)
          exact ⟨l ++ [x], 1, 0, cc, cc, _, a' + 1 + 1 + 1, by omega, by omega, by simp; omega, by rw [List.drop_zero, List.map_append, List.take_of_length_le (by simp)]; rfl, rfl, rfl⟩
      · refine WR ?_
        first | refine ZS ?_ | (refine G1 rfl ?_; refine al_ef rfl (ef_callm false (fun _ => flip_a 2 _ _ _ hs (by omega) (by omega) (by simp only [in64]; omega)) rfl .fn rfl (by decide) (by kernel_rfl) rfl rfl (fun _g => .cons (.p rfl) (.cons (.c rfl) .nil)) (fun _g => .cons (.c rfl) (.cons (.c rfl) .nil)) (by simp)) ?_; rintro F1 H1 ⟨_, _, _, _, ⟨bb, rfl, hq⟩, hF, hH⟩; injection hq with hq1 hq2; subst hq1; subst hq2; (try simp only [nsl, Nat.reduceAdd, Nat.reduceLT, Nat.reduceSub] at hF); (try simp only [nsl, Nat.reduceAdd, Nat.reduceLT, Nat.reduceSub] at hH); subst hF; subst hH) | skip
        refine WE ?_
        refine aw_cond_f rfl ?_
        refine ZZ ?_
        refine wk_of [some 0, some 1] (fun _ => [(5, .o 1 0 (l ++ [x]).length cc)]) (fun _ => _) (by decide) (ZNL hE) ZCF ZCH (fun _ => ?_)
        exact ⟨l ++ [x], 1, 0, cc, cc, _, a' + 1 + 1, by omega, by omega, by simp; omega, by rw [List.drop_zero, List.map_append, List.take_of_length_le (by simp)]; rfl, rfl, rfl⟩
    · refine ZZ ?_
      refine wk_of [some 0, some 1] (fun _ => [(5, .o 1 0 l.length c)]) (fun _ => _) (by decide) (ZNL hE) ZCF ZCH (fun _ => ?_)
      exact ⟨l, 1, 0, c, c, _, a' + 1, by omega, by omega, by omega, by rw [List.drop_zero, List.take_of_length_le (by simp)], rfl, rfl⟩
  rintro F H ⟨l, b, k, c, c', rows, a', ha1, ha2, hl, hrows, rfl, rfl⟩
  refine WA ?_
  exact aret_f1 [some 0] [strm v zs a'] rfl rfl rfl rfl hrows (by simp) (by decide) (by decide) (ZNK rfl) ZCH (fun v' => ⟨v', l, a', rfl, rfl, ha1, ha2, hl⟩)
end Go.Proofs.YtdmeohgojdfmoaaGreatDoor
