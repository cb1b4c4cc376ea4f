/- The stream's paths of a head, as a function of its numbers and its counter. -/
import Derived.Test.YtdmeohgojdfmoaaGreatQaz
import Derived.Test.YtdmeohgojdfmoaaGreatQbf
import Derived.Test.YtdmeohgojdfmoaaGreatQbg
import Derived.Test.YtdmeohgojdfmoaaGreatQav
set_option linter.unusedSimpArgs false
set_option linter.unusedVariables false
/- The stream's paths of a head, as a function of its numbers and its counter. -/
namespace Go.Proofs.YtdmeohgojdfmoaaGreat
open Go Go.RowKit
set_option maxRecDepth 100000
def posN (zs : List Int) (a : Int) : Nat → Int × Int
  | 0 => (0, 0)
  | k + 1 => (wrap64 ((posN zs a k).1 + pickF zs (a + 2 * k) [0, 10, -10, 30, 5]), wrap64 ((posN zs a k).2 + pickF zs (a + 2 * k + 1) [0, 0, 10, -10, 25]))
def ptsN (zs : List Int) (a : Int) (k : Nat) : List Pt := (List.range k).map fun i => ⟨(posN zs a i).1, (posN zs a i).2⟩
theorem ptsN_len (zs : List Int) (a : Int) (k : Nat) : (ptsN zs a k).length = k := by simp [ptsN]
theorem ptsN_next (zs : List Int) (a : Int) (k : Nat) : ptsN zs a (k + 1) = ptsN zs a k ++ [⟨(posN zs a k).1, (posN zs a k).2⟩] := by simp [ptsN, List.range_succ]
def ahead1 (zs : List Int) (a : Int) : List Pt × Int :=
  if nextF zs ((rangeF zs (a + 1) 1 6).2 + 2 * (rangeF zs (a + 1) 1 6).1) 15 = 0 then
    ((ptsN zs (rangeF zs (a + 1) 1 6).2 (rangeF zs (a + 1) 1 6).1.toNat).set (nextF zs ((rangeF zs (a + 1) 1 6).2 + 2 * (rangeF zs (a + 1) 1 6).1 + 1) (rangeF zs (a + 1) 1 6).1).toNat
      ⟨pickF zs ((rangeF zs (a + 1) 1 6).2 + 2 * (rangeF zs (a + 1) 1 6).1 + 1 + 1) [100000, 100001, -9223372036854775808], ((ptsN zs (rangeF zs (a + 1) 1 6).2 (rangeF zs (a + 1) 1 6).1.toNat).getD (nextF zs ((rangeF zs (a + 1) 1 6).2 + 2 * (rangeF zs (a + 1) 1 6).1 + 1) (rangeF zs (a + 1) 1 6).1).toNat ⟨0, 0⟩).y⟩,
      (rangeF zs (a + 1) 1 6).2 + 2 * (rangeF zs (a + 1) 1 6).1 + 1 + 1 + 1)
  else (ptsN zs (rangeF zs (a + 1) 1 6).2 (rangeF zs (a + 1) 1 6).1.toNat, (rangeF zs (a + 1) 1 6).2 + 2 * (rangeF zs (a + 1) 1 6).1 + 1)
/-- Points, whether closed, the counter behind. -/
def aheadF (zs : List Int) (a : Int) : List Pt × Bool × Int :=
  if nextF zs (ahead1 zs a).2 40 = 0 then (List.replicate (pickF zs ((ahead1 zs a).2 + 1) [0, 1, 3, 500, 501]).toNat ⟨0, 0⟩, decide (nextF zs a 4 = 0), (ahead1 zs a).2 + 1 + 1)
  else ((ahead1 zs a).1, decide (nextF zs a 4 = 0), (ahead1 zs a).2 + 1)
theorem ahead_f (v : Value) (zs : List Int) (a : Int) (hs : StrOk zs) (h0 : 0 ≤ a) (h1 : a ≤ 700000000) :
    ACalls Tryz.prog 4 [.p 0 0 0] [strm v zs a] fun u H => ∃ (v' : Value) (l : List Pt) (b : Bool) (a' : Int), u = pth v' l b ∧ H = [strm v zs a'] ∧ a ≤ a' ∧ a' ≤ a + 40 ∧ l.length ≤ 1000 ∧ (l, b, a') = aheadF zs a := by
  refine acalls_of (N := 57) Tryz.func4 rfl rfl (by simp) fun E hE => ?_
  refine WA ?_
  refine WR ?_
  refine al_ef rfl (ef_callm false (fun _ => flip_f 4 _ _ _ hs (by omega) (by omega) (by simp only [in64]; omega)) rfl .fn rfl (by decide) (by kernel_rfl) rfl rfl (fun _g => .cons (.p rfl) (.cons (.c rfl) .nil)) (fun _g => .cons (.c rfl) (.cons (.c rfl) .nil)) (by simp)) ?_
  rintro F1 H1 ⟨_, _, _, _, ⟨bb, rfl, hq, hvbb⟩, hF, hH⟩
  injection hq with hq1 hq2; subst hq1; subst hq2
  (try simp only [nsl, Nat.reduceAdd, Nat.reduceLT, Nat.reduceSub] at hF); (try simp only [nsl, Nat.reduceAdd, Nat.reduceLT, Nat.reduceSub] at hH); subst hF; subst hH
  refine WE ?_
  refine WA ?_
  refine WR ?_
  refine al_ef rfl (ef_callm false (fun _ => range_f 1 6 _ _ _ hs (by omega) (by omega) (by omega) (by omega) (by omega) (by omega)) rfl .fn rfl (by decide) (by kernel_rfl) rfl rfl (fun _g => .cons (.p rfl) (.cons (.c rfl) (.cons (.c rfl) .nil))) (fun _g => .cons (.c rfl) (.cons (.c rfl) .nil)) (by simp)) ?_
  rintro F1 H1 ⟨_, _, _, _, ⟨rr, ar, rfl, hq, hr3, hr4, hr1, hr2, hr5, hrv⟩, hF, hH⟩
  injection hq with hq1 hq2; subst hq1; subst hq2
  (try simp only [nsl, Nat.reduceAdd, Nat.reduceLT, Nat.reduceSub] at hF); (try simp only [nsl, Nat.reduceAdd, Nat.reduceLT, Nat.reduceSub] at hH); subst hF; subst hH
  have h64r : in64 rr := by simp only [in64]; omega
  refine WE ?_
  have g1 : (rangeF zs (a + 1) 1 6).1 = rr := by rw [← hrv]
  have g2 : (rangeF zs (a + 1) 1 6).2 = ar := by rw [← hrv]
  obtain ⟨a0, ha0⟩ : ∃ z, z = ar := ⟨_, rfl⟩
  rw [← ha0] at g2
  refine aw_loopw (fun m F H => ∃ (k c : Nat) (l : List Pt) (x y a' : Int), m + k = rr.toNat ∧ a' = a0 + 2 * k ∧ l = ptsN zs a0 k ∧ (x, y) = posN zs a0 k ∧ F = [(0, .p 0 0 0), (2, .p 1 0 0), (3, .p 2 0 0), (4, .p 3 0 0), (10, .c (I rr)), (11, .c (I k))] ∧ H = [strm v zs a', .box [.c (.r (.slice none 0 0) []), .c (B false)], .box [.o 4 0 l.length c, .c (B bb)], .box [.c (I x), .c (I y)], .arr 39 2 c (l.map Pt.row)]) ?_ ?_
  · refine wk_of [some 0, some 1, some 2, some 3, none] (fun _ => [(0, .p 0 0 0), (2, .p 1 0 0), (3, .p 2 0 0), (4, .p 3 0 0), (10, .c (I rr)), (11, .c (I (0 : Nat)))]) (fun _ => [strm v zs _, .box [.c (.r (.slice none 0 0) []), .c (B false)], .box [.o 4 0 ([] : List Pt).length 0, .c (B bb)], .box [.c (I 0), .c (I 0)], .arr 39 2 0 (([] : List Pt).map Pt.row)]) (by decide) (ZNL hE) ZCF ZCH (fun _ => ?_)
    exact ⟨rr.toNat, 0, 0, [], 0, 0, _, by omega, by omega, rfl, rfl, rfl, rfl⟩
  rintro m F H ⟨k, c, l, x, y, a', hmk, ha1, hpl, hxy, rfl, rfl⟩
  have hl : l.length = k := by rw [hpl, ptsN_len]
  refine WA ?_
  refine aw_if rfl (fun hlt => ?_) (fun hge => ?_)
  · refine WR ?_
    refine al_ef rfl (Zapp (KA (t := 26) rfl)) ?_
    rintro _ _ ⟨_, cc, hcc, rfl, rfl⟩
    refine WE ?_
    refine aw_cutq (fun F H => ∃ x' y' a2 : Int, a2 = a' + 2 ∧ (x', y') = posN zs a0 (k + 1) ∧ F = [(0, .p 0 0 0), (2, .p 1 0 0), (3, .p 2 0 0), (4, .p 3 0 0), (10, .c (I rr)), (11, .c (I k))] ∧ H = [strm v zs a2, .box [.c (.r (.slice none 0 0) []), .c (B false)], .box [.o 4 0 (l ++ [(⟨x, y⟩ : Pt)]).length cc, .c (B bb)], .box [.c (I x'), .c (I y')], .arr 39 2 cc ((l ++ [(⟨x, y⟩ : Pt)]).map Pt.row)]) ?_ ?_ wk_aw
    · refine ZZ ?_
      refine aw_regionM [[(0, none), (1, none), (2, none), (6, none), (7, none), (8, none), (3, some [0, 1, 2, 6, 7, 8]), (4, some [0, 1, 6, 7, 8]), (5, none), (9, some [0, 1, 2, 6, 7, 8, 5]), (10, some [0, 1, 6, 7, 5]), (11, none), (12, none), (13, some [])], [(0, none), (1, none), (2, none), (6, none), (7, none), (8, none), (3, some [0, 1, 2, 6, 7, 8]), (9, some [0, 1, 2, 6, 7, 8]), (4, some [0, 1, 6, 7, 8]), (5, none), (10, some [0, 1, 6, 7, 5]), (11, none), (12, none), (13, some [])], [(0, none), (1, none), (2, none), (6, none), (7, none), (8, none), (9, some [0, 1, 2, 6, 7, 8]), (3, some [0, 1, 2, 6, 7, 8]), (4, some [0, 1, 6, 7, 8]), (5, none), (10, some [0, 1, 6, 7, 5]), (11, none), (12, none), (13, some [])]] hMixed (by kernel_rfl) ?_
      focus
        refine WM ?_
        refine am_two (by rfl) (by rfl) (by rfl) ?_ ?_
        rotate_left
        refine WM ?_
        refine am_ef (i := 4) (by rfl) (by rfl) rfl rfl (ef_callm true (fun _ => pick_f [0, 10, -10, 30, 5] _ _ _ _ hs (by omega) (by omega) (by simp) (by simp)) rfl .fn rfl (by decide) (by kernel_rfl) rfl rfl (fun _g => .cons (.p rfl) (.cons (.frz rfl rfl rfl rfl rfl) .nil)) (fun _g => .cons (.c rfl) (.cons (.c rfl) .nil)) (fun _ _ _ _ ⟨_, hu, hH, _⟩ => by rw [hu, hH]; exact ⟨.c (.inl trivial), strm_flat (.inr ⟨0, _, rfl, by simp⟩)⟩)) ?_
        rintro F1 H1 ⟨_, _, _, _, ⟨p, rfl, hq, hrmp, hvp⟩, hF, hH⟩
        injection hq with hq1 hq2; subst hq1; subst hq2
        (try simp only [nsl, Nat.reduceAdd, Nat.reduceLT, Nat.reduceSub] at hF); (try simp only [nsl, Nat.reduceAdd, Nat.reduceLT, Nat.reduceSub] at hH); subst hF; subst hH
        refine ⟨AGX, ?_⟩
        refine WM ?_
        refine am_ef (i := 10) (by rfl) (by rfl) rfl rfl (ef_callm true (fun _ => pick_f [0, 0, 10, -10, 25] _ _ _ _ hs (by omega) (by omega) (by simp) (by simp)) rfl .fn rfl (by decide) (by kernel_rfl) rfl rfl (fun _g => .cons (.p rfl) (.cons (.frz rfl rfl rfl rfl rfl) .nil)) (fun _g => .cons (.c rfl) (.cons (.c rfl) .nil)) (fun _ _ _ _ ⟨_, hu, hH, _⟩ => by rw [hu, hH]; exact ⟨.c (.inl trivial), strm_flat (.inr ⟨0, _, rfl, by simp⟩)⟩)) ?_
        rintro F1 H1 ⟨_, _, _, _, ⟨q, rfl, hq, hrmq, hvq⟩, hF, hH⟩
        injection hq with hq1 hq2; subst hq1; subst hq2
        (try simp only [nsl, Nat.reduceAdd, Nat.reduceLT, Nat.reduceSub] at hF); (try simp only [nsl, Nat.reduceAdd, Nat.reduceLT, Nat.reduceSub] at hH); subst hF; subst hH
        refine ⟨AGX, ?_⟩
        refine WN ?_
        rotate_right
        refine WM ?_
        refine am_two (by rfl) (by rfl) (by rfl) ?_ ?_
        rotate_left
        refine WM ?_
        refine am_ef (i := 4) (by rfl) (by rfl) rfl rfl (ef_callm true (fun _ => pick_f [0, 10, -10, 30, 5] _ _ _ _ hs (by omega) (by omega) (by simp) (by simp)) rfl .fn rfl (by decide) (by kernel_rfl) rfl rfl (fun _g => .cons (.p rfl) (.cons (.frz rfl rfl rfl rfl rfl) .nil)) (fun _g => .cons (.c rfl) (.cons (.c rfl) .nil)) (fun _ _ _ _ ⟨_, hu, hH, _⟩ => by rw [hu, hH]; exact ⟨.c (.inl trivial), strm_flat (.inr ⟨0, _, rfl, by simp⟩)⟩)) ?_
        rintro F1 H1 ⟨_, _, _, _, ⟨p, rfl, hq, hrmp, hvp⟩, hF, hH⟩
        injection hq with hq1 hq2; subst hq1; subst hq2
        (try simp only [nsl, Nat.reduceAdd, Nat.reduceLT, Nat.reduceSub] at hF); (try simp only [nsl, Nat.reduceAdd, Nat.reduceLT, Nat.reduceSub] at hH); subst hF; subst hH
        refine ⟨AGX, ?_⟩
        refine WM ?_
        refine am_ef (i := 10) (by rfl) (by rfl) rfl rfl (ef_callm true (fun _ => pick_f [0, 0, 10, -10, 25] _ _ _ _ hs (by omega) (by omega) (by simp) (by simp)) rfl .fn rfl (by decide) (by kernel_rfl) rfl rfl (fun _g => .cons (.p rfl) (.cons (.frz rfl rfl rfl rfl rfl) .nil)) (fun _g => .cons (.c rfl) (.cons (.c rfl) .nil)) (fun _ _ _ _ ⟨_, hu, hH, _⟩ => by rw [hu, hH]; exact ⟨.c (.inl trivial), strm_flat (.inr ⟨0, _, rfl, by simp⟩)⟩)) ?_
        rintro F1 H1 ⟨_, _, _, _, ⟨q, rfl, hq, hrmq, hvq⟩, hF, hH⟩
        injection hq with hq1 hq2; subst hq1; subst hq2
        (try simp only [nsl, Nat.reduceAdd, Nat.reduceLT, Nat.reduceSub] at hF); (try simp only [nsl, Nat.reduceAdd, Nat.reduceLT, Nat.reduceSub] at hH); subst hF; subst hH
        refine ⟨AGX, ?_⟩
        refine WN ?_
        rotate_right
        refine am_ef (i := 4) (by rfl) (by rfl) rfl rfl (ef_callm true (fun _ => pick_f [0, 10, -10, 30, 5] _ _ _ _ hs (by omega) (by omega) (by simp) (by simp)) rfl .fn rfl (by decide) (by kernel_rfl) rfl rfl (fun _g => .cons (.p rfl) (.cons (.frz rfl rfl rfl rfl rfl) .nil)) (fun _g => .cons (.c rfl) (.cons (.c rfl) .nil)) (fun _ _ _ _ ⟨_, hu, hH, _⟩ => by rw [hu, hH]; exact ⟨.c (.inl trivial), strm_flat (.inr ⟨0, _, rfl, by simp⟩)⟩)) ?_
        rintro F1 H1 ⟨_, _, _, _, ⟨p, rfl, hq, hrmp, hvp⟩, hF, hH⟩
        injection hq with hq1 hq2; subst hq1; subst hq2
        (try simp only [nsl, Nat.reduceAdd, Nat.reduceLT, Nat.reduceSub] at hF); (try simp only [nsl, Nat.reduceAdd, Nat.reduceLT, Nat.reduceSub] at hH); subst hF; subst hH
        refine ⟨AGX, ?_⟩
        refine WM ?_
        refine am_ef (i := 10) (by rfl) (by rfl) rfl rfl (ef_callm true (fun _ => pick_f [0, 0, 10, -10, 25] _ _ _ _ hs (by omega) (by omega) (by simp) (by simp)) rfl .fn rfl (by decide) (by kernel_rfl) rfl rfl (fun _g => .cons (.p rfl) (.cons (.frz rfl rfl rfl rfl rfl) .nil)) (fun _g => .cons (.c rfl) (.cons (.c rfl) .nil)) (fun _ _ _ _ ⟨_, hu, hH, _⟩ => by rw [hu, hH]; exact ⟨.c (.inl trivial), strm_flat (.inr ⟨0, _, rfl, by simp⟩)⟩)) ?_
        rintro F1 H1 ⟨_, _, _, _, ⟨q, rfl, hq, hrmq, hvq⟩, hF, hH⟩
        injection hq with hq1 hq2; subst hq1; subst hq2
        (try simp only [nsl, Nat.reduceAdd, Nat.reduceLT, Nat.reduceSub] at hF); (try simp only [nsl, Nat.reduceAdd, Nat.reduceLT, Nat.reduceSub] at hH); subst hF; subst hH
        refine ⟨AGX, ?_⟩
        refine WN ?_
      all_goals refine wk_of [some 0, some 1, some 2, some 3, some 4] (fun _ => [(0, .p 0 0 0), (2, .p 1 0 0), (3, .p 2 0 0), (4, .p 3 0 0), (10, .c (I rr)), (11, .c (I k))]) (fun _ => [strm v zs _, .box [.c (.r (.slice none 0 0) []), .c (B false)], .box [.o 4 0 (l ++ [(⟨x, y⟩ : Pt)]).length cc, .c (B bb)], .box [.c (I _), .c (I _)], .arr 39 2 cc ((l ++ [(⟨x, y⟩ : Pt)]).map Pt.row)]) (by decide) (ZNL hE) ZCF ZCH (fun _ => ?_)
      all_goals exact ⟨_, _, a' + 1 + 1, by omega, by rw [posN, ← hxy, hvp, hvq, ha1], rfl, rfl⟩
    rintro F H ⟨x', y', a2, hx1, hx2, rfl, rfl⟩
    refine WA ?_
    refine wk_of [some 0, some 1, some 2, some 3, some 4] (fun _ => [(0, .p 0 0 0), (2, .p 1 0 0), (3, .p 2 0 0), (4, .p 3 0 0), (10, .c (I rr)), (11, .c (I (k + 1 : Nat)))]) (fun _ => [strm v zs _, .box [.c (.r (.slice none 0 0) []), .c (B false)], .box [.o 4 0 (l ++ [(⟨x, y⟩ : Pt)]).length cc, .c (B bb)], .box [.c (I _), .c (I _)], .arr 39 2 cc ((l ++ [(⟨x, y⟩ : Pt)]).map Pt.row)]) (by decide) (ZNL hE) ZCF ZCH (fun _ => ?_)
    exact ⟨m - 1, by omega, k + 1, cc, l ++ [⟨x, y⟩], x', y', a2, by omega, by omega, by rw [ptsN_next, ← hxy, hpl], hx2, rfl, rfl⟩
  have hlr : l = ptsN zs (rangeF zs (a + 1) 1 6).2 (rangeF zs (a + 1) 1 6).1.toNat := by rw [g1, g2, hpl]; congr 1; omega
  have har : a' = (rangeF zs (a + 1) 1 6).2 + 2 * (rangeF zs (a + 1) 1 6).1 := by rw [g1, g2]; omega
  have hln : (l.length : Int) = (rangeF zs (a + 1) 1 6).1 := by rw [g1]; omega
  refine ZZ ?_
  refine WR ?_
  refine al_ef rfl (ef_callm false (fun _ => flip_f 15 _ _ _ hs (by omega) (by omega) (by simp only [in64]; omega)) rfl .fn rfl (by decide) (by kernel_rfl) rfl rfl (fun _g => .cons (.p rfl) (.cons (.c rfl) .nil)) (fun _g => .cons (.c rfl) (.cons (.c rfl) .nil)) (by simp)) ?_
  rintro F1 H1 ⟨_, _, _, _, ⟨b2, rfl, hq, hvb2⟩, hF, hH⟩
  injection hq with hq1 hq2; subst hq1; subst hq2
  (try simp only [nsl, Nat.reduceAdd, Nat.reduceLT, Nat.reduceSub] at hF); (try simp only [nsl, Nat.reduceAdd, Nat.reduceLT, Nat.reduceSub] at hH); subst hF; subst hH
  refine WO ?_
  refine al_nil ?_
  refine aseq_n ?_
  refine aw_cut (fun F H => ∃ (l : List Pt) (c : Nat) (a' : Int), a ≤ a' ∧ a' ≤ a + 25 ∧ l.length ≤ 1000 ∧ (l, a') = ahead1 zs a ∧ F = [(0, .p 0 0 0), (2, .p 1 0 0), (3, .p 2 0 0)] ∧ H = [strm v zs a', .box [.c (.r (.slice none 0 0) []), .c (B false)], .box [.o 3 0 l.length c, .c (B bb)], .arr 39 2 c (l.map Pt.row)]) ?_ ?_ wk_aw
  · refine aw_cond rfl (fun hb => ?_) (fun hb => ?_)
    · rw [hb] at hvb2
      have hz := of_decide_eq_true hvb2.symm
      rw [har] at hz
      refine ZZ ?_
      refine aw_regionM [[(0, none), (1, none), (2, none), (3, none), (4, none), (5, none), (7, none), (6, some [0, 1, 7]), (8, some [0, 1, 2, 3, 4, 5, 7]), (9, some [0, 1]), (10, none), (11, none), (12, some [])], [(0, none), (1, none), (2, none), (3, none), (4, none), (5, none), (7, none), (8, some [0, 1, 2, 3, 4, 5, 7]), (6, some [0, 1, 7]), (9, some [0, 1]), (10, none), (11, none), (12, some [])]] hMixed (by kernel_rfl) ?_
      focus
        refine WM ?_
        refine am_two (by rfl) (by rfl) (by rfl) ?_ ?_
        rotate_left
        refine WM ?_
        refine am_ef (i := 6) (by rfl) (by rfl) rfl rfl (ef_callm false (fun _ => next_f _ _ _ _ hs (by omega) (by omega) (by simp only [in64]; omega)) rfl .fn rfl (by decide) (by kernel_rfl) rfl rfl (fun _g => .cons (.p rfl) (.cons (.c rfl) .nil)) (fun _g => .cons (.c rfl) (.cons (.c rfl) .nil)) (by simp)) ?_
        rintro F1 H1 ⟨_, _, _, _, ⟨r, rfl, hq, hr1, hr2, hrv⟩, hF, hH⟩
        injection hq with hq1 hq2; subst hq1; subst hq2
        (try simp only [nsl, Nat.reduceAdd, Nat.reduceLT, Nat.reduceSub] at hF); (try simp only [nsl, Nat.reduceAdd, Nat.reduceLT, Nat.reduceSub] at hH); subst hF; subst hH
        obtain ⟨i, rfl⟩ : ∃ i : Nat, r = i := ⟨r.toNat, by omega⟩
        have hk : i < l.length := by have := hr2 (by omega); omega
        obtain ⟨p, hp⟩ : ∃ p, l[i]? = some p := ⟨_, List.getElem?_eq_getElem hk⟩
        have hrow : (l.map Pt.row)[i]? = some [I p.x, I p.y] := by rw [List.getElem?_map, hp]; rfl
        refine ⟨AGX, ?_⟩
        refine am_ef (i := 9) (by rfl) (by rfl) rfl rfl (ef_callm true (fun _ => pick_f [100000, 100001, -9223372036854775808] _ _ _ _ hs (by omega) (by omega) (by simp) (by simp)) rfl .fn rfl (by decide) (by kernel_rfl) rfl rfl (fun _g => .cons (.p rfl) (.cons (.frz rfl rfl rfl rfl rfl) .nil)) (fun _g => .cons (.c rfl) (.cons (.c rfl) .nil)) (fun _ _ _ _ ⟨_, hu, hH, _⟩ => by rw [hu, hH]; exact ⟨.c (.inl trivial), strm_flat (.inr ⟨0, _, rfl, by simp⟩)⟩)) ?_
        rintro F1 H1 ⟨_, _, _, _, ⟨q, rfl, hq, hrmq, hvq⟩, hF, hH⟩
        injection hq with hq1 hq2; subst hq1; subst hq2
        (try simp only [nsl, Nat.reduceAdd, Nat.reduceLT, Nat.reduceSub] at hF); (try simp only [nsl, Nat.reduceAdd, Nat.reduceLT, Nat.reduceSub] at hH); subst hF; subst hH
        refine ⟨AGX, ?_⟩
        refine WN ?_
        rotate_right
        refine am_ef (i := 6) (by rfl) (by rfl) rfl rfl (ef_callm false (fun _ => next_f _ _ _ _ hs (by omega) (by omega) (by simp only [in64]; omega)) rfl .fn rfl (by decide) (by kernel_rfl) rfl rfl (fun _g => .cons (.p rfl) (.cons (.c rfl) .nil)) (fun _g => .cons (.c rfl) (.cons (.c rfl) .nil)) (by simp)) ?_
        rintro F1 H1 ⟨_, _, _, _, ⟨r, rfl, hq, hr1, hr2, hrv⟩, hF, hH⟩
        injection hq with hq1 hq2; subst hq1; subst hq2
        (try simp only [nsl, Nat.reduceAdd, Nat.reduceLT, Nat.reduceSub] at hF); (try simp only [nsl, Nat.reduceAdd, Nat.reduceLT, Nat.reduceSub] at hH); subst hF; subst hH
        obtain ⟨i, rfl⟩ : ∃ i : Nat, r = i := ⟨r.toNat, by omega⟩
        have hk : i < l.length := by have := hr2 (by omega); omega
        obtain ⟨p, hp⟩ : ∃ p, l[i]? = some p := ⟨_, List.getElem?_eq_getElem hk⟩
        have hrow : (l.map Pt.row)[i]? = some [I p.x, I p.y] := by rw [List.getElem?_map, hp]; rfl
        refine ⟨AGX, ?_⟩
        refine WM ?_
        refine am_ef (i := 9) (by rfl) (by rfl) rfl rfl (ef_callm true (fun _ => pick_f [100000, 100001, -9223372036854775808] _ _ _ _ hs (by omega) (by omega) (by simp) (by simp)) rfl .fn rfl (by decide) (by kernel_rfl) rfl rfl (fun _g => .cons (.p rfl) (.cons (.frz rfl rfl rfl rfl rfl) .nil)) (fun _g => .cons (.c rfl) (.cons (.c rfl) .nil)) (fun _ _ _ _ ⟨_, hu, hH, _⟩ => by rw [hu, hH]; exact ⟨.c (.inl trivial), strm_flat (.inr ⟨0, _, rfl, by simp⟩)⟩)) ?_
        rintro F1 H1 ⟨_, _, _, _, ⟨q, rfl, hq, hrmq, hvq⟩, hF, hH⟩
        injection hq with hq1 hq2; subst hq1; subst hq2
        (try simp only [nsl, Nat.reduceAdd, Nat.reduceLT, Nat.reduceSub] at hF); (try simp only [nsl, Nat.reduceAdd, Nat.reduceLT, Nat.reduceSub] at hH); subst hF; subst hH
        refine ⟨AGX, ?_⟩
        refine WN ?_
      all_goals refine wk_of [some 0, some 1, some 2, some 4] (fun _ => [(0, .p 0 0 0), (2, .p 1 0 0), (3, .p 2 0 0)]) (fun _ => [strm v zs _, .box [.c (.r (.slice none 0 0) []), .c (B false)], .box [.o 3 0 (l.set i (⟨q, p.y⟩ : Pt)).length c, .c (B bb)], .arr 39 2 c ((l.set i (⟨q, p.y⟩ : Pt)).map Pt.row)]) (by decide) (ZNL hE) ZCF ZCH (fun _ => ?_)
      all_goals (rw [har] at hvq hrv; rw [hln] at hrv)
      all_goals refine ⟨l.set i ⟨q, p.y⟩, c, _, by omega, by omega, by simp; omega, ?_, rfl, rfl⟩
      all_goals rw [ahead1, if_pos hz, ← hrv, ← hlr, ← hvq, Int.toNat_natCast, List.getD, hp, har]
      all_goals rfl
    · refine ZZ ?_
      refine wk_of [some 0, some 1, some 2, some 4] (fun _ => [(0, .p 0 0 0), (2, .p 1 0 0), (3, .p 2 0 0)]) (fun _ => [strm v zs _, .box [.c (.r (.slice none 0 0) []), .c (B false)], .box [.o 3 0 l.length c, .c (B bb)], .arr 39 2 c (l.map Pt.row)]) (by decide) (ZNL hE) ZCF ZCH (fun _ => ?_)
      exact ⟨l, c, _, by omega, by omega, by omega, by rw [ahead1, if_neg (by rw [hb] at hvb2; have hz := of_decide_eq_false hvb2.symm; rw [har] at hz; exact hz), ← hlr, har], rfl, rfl⟩
  rintro F H ⟨l, c, a', ha1, ha2, hl, hlf, rfl, rfl⟩
  have q1 : (ahead1 zs a).1 = l := by rw [← hlf]
  have q2 : (ahead1 zs a).2 = a' := by rw [← hlf]
  refine WR ?_
  refine al_ef rfl (ef_callm false (fun _ => flip_f 40 _ _ _ hs (by omega) (by omega) (by simp only [in64]; omega)) rfl .fn rfl (by decide) (by kernel_rfl) rfl rfl (fun _g => .cons (.p rfl) (.cons (.c rfl) .nil)) (fun _g => .cons (.c rfl) (.cons (.c rfl) .nil)) (by simp)) ?_
  rintro F1 H1 ⟨_, _, _, _, ⟨b3, rfl, hq, hvb3⟩, hF, hH⟩
  injection hq with hq1 hq2; subst hq1; subst hq2
  (try simp only [nsl, Nat.reduceAdd, Nat.reduceLT, Nat.reduceSub] at hF); (try simp only [nsl, Nat.reduceAdd, Nat.reduceLT, Nat.reduceSub] at hH); subst hF; subst hH
  refine WO ?_
  refine al_nil ?_
  refine aseq_n ?_
  refine aw_cut (fun F H => ∃ (l : List Pt) (c : Nat) (a' : Int), a ≤ a' ∧ a' ≤ a + 40 ∧ l.length ≤ 1000 ∧ (l, bb, a') = aheadF zs a ∧ F = [(2, .p 1 0 0), (3, .p 2 0 0)] ∧ H = [strm v zs a', .box [.c (.r (.slice none 0 0) []), .c (B false)], .box [.o 3 0 l.length c, .c (B bb)], .arr 39 2 c (l.map Pt.row)]) ?_ ?_ wk_aw
  · refine aw_cond rfl (fun hb => ?_) (fun hb => ?_)
    · refine WR ?_
      refine al_ef rfl (ef_callm true (fun _ => pick_f [0, 1, 3, 500, 501] _ _ _ _ hs (by omega) (by omega) (by simp) (by simp)) rfl .fn rfl (by decide) (by kernel_rfl) rfl rfl (fun _g => .cons (.p rfl) (.cons (.frz rfl rfl rfl rfl rfl) .nil)) (fun _g => .cons (.c rfl) (.cons (.c rfl) .nil)) (fun _ _ _ _ ⟨_, hu, hH, _⟩ => by rw [hu, hH]; exact ⟨.c (.inl trivial), strm_flat (.inr ⟨0, _, rfl, by simp⟩)⟩)) ?_
      rintro F1 H1 ⟨_, _, _, _, ⟨q, rfl, hq, hrmq, hvq⟩, hF, hH⟩
      injection hq with hq1 hq2; subst hq1; subst hq2
      (try simp only [nsl, Nat.reduceAdd, Nat.reduceLT, Nat.reduceSub] at hF); (try simp only [nsl, Nat.reduceAdd, Nat.reduceLT, Nat.reduceSub] at hH); subst hF; subst hH
      obtain ⟨n, hn, rfl⟩ : ∃ n : Nat, n ≤ 501 ∧ q = n := by
        simp only [List.mem_cons, List.not_mem_nil, or_false] at hrmq
        exact ⟨q.toNat, by omega, by omega⟩
      refine al_ef rfl (ef_call [4] (fun _ => [.arr 39 2 1 [[I 0, I 0]]]) false (fun _ => repeat_a n (by omega)) rfl .fn rfl (by decide) (by kernel_rfl) rfl (fun _ => .cons (.o rfl rfl) (.cons (.c rfl) .nil)) (by decide) (fun _ => .arr rfl rfl .nil) (by simp)) ?_
      rintro F1 H1 ⟨_, _, _, _, ⟨rfl, rfl⟩, hF, hH⟩
      (try simp only [List.set_cons_zero, List.set_cons_succ, updH, posOf, lentArr, killF, killO, killV, AV.has, AV.hasL, AV.emb, AV.embL, OB.emb, embB, List.filter_cons, List.filter_nil, List.getElem?_cons_zero, List.getElem?_cons_succ, List.getD_cons_zero, List.getD_cons_succ, List.drop_succ_cons, List.drop_zero, List.drop_nil, List.contains_cons, List.contains_nil, Nat.reduceBEq, Nat.reduceEqDiff, beq_self_eq_true, Bool.or_false, Bool.false_or, Bool.or_true, Bool.true_or, Bool.false_eq_true, Option.map_some, Option.map_none, List.map_cons, List.map_nil, List.cons_append, List.nil_append, List.append_nil, List.length_cons, List.length_nil, Nat.reduceAdd, Nat.reduceLT, Nat.reduceSub, if_true, if_false, Nat.zero_add, Nat.add_zero, Nat.sub_zero, Nat.lt_irrefl, Nat.not_lt_zero, Nat.zero_lt_one, Nat.lt_add_one] at hF); (try simp only [List.set_cons_zero, List.set_cons_succ, updH, posOf, lentArr, killF, killO, killV, AV.has, AV.hasL, AV.emb, AV.embL, OB.emb, embB, List.filter_cons, List.filter_nil, List.getElem?_cons_zero, List.getElem?_cons_succ, List.getD_cons_zero, List.getD_cons_succ, List.drop_succ_cons, List.drop_zero, List.drop_nil, List.contains_cons, List.contains_nil, Nat.reduceBEq, Nat.reduceEqDiff, beq_self_eq_true, Bool.or_false, Bool.false_or, Bool.or_true, Bool.true_or, Bool.false_eq_true, Option.map_some, Option.map_none, List.map_cons, List.map_nil, List.cons_append, List.nil_append, List.append_nil, List.length_cons, List.length_nil, Nat.reduceAdd, Nat.reduceLT, Nat.reduceSub, if_true, if_false, Nat.zero_add, Nat.add_zero, Nat.sub_zero, Nat.lt_irrefl, Nat.not_lt_zero, Nat.zero_lt_one, Nat.lt_add_one] at hH); subst hF; subst hH
      refine WE ?_
      have e5 : List.replicate n [I 0, I 0] = (List.replicate n (⟨0, 0⟩ : Pt)).map Pt.row := by simp
      refine wk_of [some 0, some 1, some 2, some 6] (fun _ => [(2, .p 1 0 0), (3, .p 2 0 0)]) (fun _ => [strm v zs _, .box [.c (.r (.slice none 0 0) []), .c (B false)], .box [.o 3 0 (List.replicate n (⟨0, 0⟩ : Pt)).length n, .c (B bb)], .arr 39 2 n ((List.replicate n (⟨0, 0⟩ : Pt)).map Pt.row)]) (by decide) (ZNL hE) ZCF ZCH (fun _ => ?_)
      exact ⟨List.replicate n ⟨0, 0⟩, n, _, by omega, by omega, by simp; omega, by rw [aheadF, if_pos (by rw [hb] at hvb3; rw [q2]; exact of_decide_eq_true hvb3.symm), q2, ← hvq, ← hvbb, Int.toNat_natCast], rfl, rfl⟩
    · refine ZZ ?_
      refine wk_of [some 0, some 1, some 2, some 3] (fun _ => [(2, .p 1 0 0), (3, .p 2 0 0)]) (fun _ => [strm v zs _, .box [.c (.r (.slice none 0 0) []), .c (B false)], .box [.o 3 0 l.length c, .c (B bb)], .arr 39 2 c (l.map Pt.row)]) (by decide) (ZNL hE) ZCF ZCH (fun _ => ?_)
      exact ⟨l, c, _, by omega, by omega, by omega, by rw [aheadF, if_neg (by rw [hb] at hvb3; rw [q2]; exact of_decide_eq_false hvb3.symm), q1, q2, ← hvbb], rfl, rfl⟩
  rintro F H ⟨l, c, a', ha1, ha2, hl, hlf2, rfl, rfl⟩
  refine WA ?_
  exact aret_of (us := [.a [.o 3 0 l.length c, .c (B bb)]]) [some 0] (fun g => .a [.c (.r (g (.o 3 0 l.length c)) (l.map Pt.row)), .c (B bb)]) (fun _ => [strm v zs a']) (.cella rfl (KK (t := 28) rfl) (Cells.box rfl) (by simp) rfl .nil) (by decide) (ZNK rfl) (fun _ => .aL (.cons (.frz rfl rfl (by rw [List.drop_zero, List.take_of_length_le (by simp)]) (by simp) rfl) (.cons (.c rfl) .nil))) ZCH (fun _ => ⟨_, l, bb, a', rfl, rfl, ha1, ha2, hl, hlf2⟩)
end Go.Proofs.YtdmeohgojdfmoaaGreat
