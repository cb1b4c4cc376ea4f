/- Stacks and styles of the stream, by value. -/
import Derived.Test.YtgeenfjmhhenfaaGreatDoorQbt
set_option linter.unusedSimpArgs false
set_option linter.unusedVariables false
/- Stacks and styles of the stream, by value. -/
-- NEWM
namespace Go.Proofs.YtgeenfjmhhenfaaGreatDoor
open Go Go.RowKit
set_option maxRecDepth 100000
set_option maxHeartbeats 2000000 in
theorem stack_v (most : Int) (hm : 0 ≤ most ∧ most ≤ 10) (v : Value) (zs : List Int) (a : Int) (hs : StrOk zs) (h0 : 0 ≤ a) (h1 : a ≤ 700000000) : ACalls Tryz.prog 9 [.p 0 0 0, .c (I most)] [strm v zs a] fun u H => ∃ (v' : Value) (l : List (Value × Cel)) (a' : Int), u = .c (.r v' (cR l)) ∧ H = [strm v zs a'] ∧ a ≤ a' ∧ a' ≤ a + 3000 ∧ l.length ≤ 10 ∧ ∀ p ∈ l, StrC p.2 := by
 refine acalls_of (N := 38) Tryz.func9 rfl rfl (by simp) fun E hE => ?_
 refine WA ?_
 refine WA ?_
 refine WR ?_
 refine al_ef rfl (ef_callm true (fun _ => pick_a [2, 10] _ _ _ _ hs (by omega) (by omega) (by simp) (by simp)) rfl .fn rfl (by decide) (by kernel_rfl) rfl rfl (fun _g => .cons (.p rfl) (.cons (.frz rfl rfl rfl rfl rfl) .nil)) (fun _g => .cons (.c rfl) (.cons (.c rfl) .nil)) (fun _ _ _ _ ⟨_, hu, hH, _⟩ => by rw [hu, hH]; exact ⟨.c (.inl trivial), strm_flat (.inr ⟨0, _, rfl, by simp⟩)⟩)) ?_
 rintro F1 H1 ⟨_, _, _, _, ⟨stp, rfl, hq, hrm⟩, hF, hH⟩
 injection hq with hq1 hq2; subst hq1; subst hq2
 (refine NST hF hH ?_; clear hF hH; rintro rfl rfl)
 simp only [List.mem_cons, List.not_mem_nil, or_false] at hrm
 refine WE ?_
 have hst : 1 ≤ stp ∧ stp ≤ 100 := by rcases hrm with rfl | rfl <;> decide
 clear hrm
 refine WR ?_
 refine al_ef rfl (ef_callm false (fun _ => range_a 0 _ _ _ _ hs (by omega) (by omega) (by omega) (by omega) (by omega) (by omega)) rfl .fn rfl (by decide) (by kernel_rfl) rfl rfl (fun _g => .cons (.p rfl) (.cons (.c rfl) (.cons (.c rfl) .nil))) (fun _g => .cons (.c rfl) (.cons (.c rfl) .nil)) (by simp)) ?_
 rintro F1 H1 ⟨_, _, _, _, ⟨rr, ar, rfl, hq, hr3, hr4, hr1, hr2, _⟩, hF, hH⟩
 injection hq with hq1 hq2; subst hq1; subst hq2
 (refine NST hF hH ?_; clear hF hH; rintro rfl rfl)
 have h64r : in64 rr := by simp only [in64]; omega
 refine WE ?_
 obtain ⟨nr, rfl⟩ : ∃ nr : Nat, rr = nr := ⟨rr.toNat, by omega⟩
 have hnr : nr ≤ 10 := by omega
 have haa : a ≤ ar ∧ ar ≤ a + 2 := by omega
 generalize har : ar = a1 at *
 refine aw_loopw (fun m F H => ∃ (i cp : Nat) (l : List (Value × Cel)) (a' : Int), m + i = nr ∧ l.length = i ∧ (∀ p ∈ l, StrC p.2) ∧ a1 ≤ a' ∧ a' ≤ a1 + 200 * i ∧ F = [(0, .p 0 0 0), (5, .o 1 0 l.length cp), (6, .c (I stp)), (12, .c (I nr)), (13, .c (I i))] ∧ H = [strm v zs a', .arr 28 4 cp (cR l)]) ?_ ?_
 ·refine wk_of [some 0, none] (fun _ => [(0, .p 0 0 0), (5, .o 1 0 0 0), (6, .c (I stp)), (12, .c (I nr)), (13, .c (I (0 : Nat)))]) (fun _ => [strm v zs a1, .arr 28 4 0 (cR [])]) (by decide) (ZNL hE) ZCF ZCH (fun _ => ?_)
  exact ⟨nr, 0, 0, [], a1, by omega, rfl, fun r h => (by cases h), by omega, by omega, rfl, rfl⟩
 rintro m F H ⟨i, cp, l, a', hi, hli, hlc, ha1, ha2, rfl, rfl⟩
 refine WA ?_
 refine aw_if rfl (fun hlt => ?_) (fun hge => ?_)
 ·refine WR ?_
  refine al_ef rfl (ef_callm false (fun _ => acells_v stp hst _ _ _ hs (by omega) (by omega)) rfl .fn rfl (by decide) (by kernel_rfl) rfl rfl (fun _g => .cons (.p rfl) (.cons (.c rfl) .nil)) (fun _g => .cons (.c rfl) (.cons (.c rfl) .nil)) (by simp)) ?_
  rintro F1 H1 ⟨_, _, _, _, ⟨vc, c, ac, rfl, hq, hac1, hac2, hcs⟩, hF, hH⟩
  injection hq with hq1 hq2; subst hq1; subst hq2
  (refine NST hF hH ?_; clear hF hH; rintro rfl rfl)
  refine WO ?_
  refine al_ef rfl (Zapp (KA (t := 31) rfl)) ?_
  rintro _ _ ⟨_, cc, hcc, rfl, rfl⟩
  refine WE ?_
  refine WA ?_
  refine wk_of [some 0, some 1] (fun _ => [(0, .p 0 0 0), (5, .o 1 0 (l ++ [(vc, c)]).length cc), (6, .c (I stp)), (12, .c (I nr)), (13, .c (I (i + 1 : Nat)))]) (fun _ => [strm v zs ac, .arr 28 4 cc (cR (l ++ [(vc, c)]))]) (by decide) (ZNL hE) ZCF ZCH (fun _ => ?_)
  exact ⟨m - 1, by omega, i + 1, cc, l ++ [(vc, c)], ac, by omega, by rw [List.length_append]; simp; omega, fun q hq => by
   rcases List.mem_append.1 hq with hq | hq
   ·exact hlc q hq
   ·rw [List.mem_singleton.1 hq]; exact hcs, by omega, by omega, rfl, rfl⟩
 obtain rfl : i = nr := by omega
 have hl10 : l.length ≤ 10 := by omega
 refine ZZ ?_
 by_cases h2 : 1 < l.length
 ·refine WR ?_
  first | refine ZS ?_ | (refine G1 rfl ?_; refine al_ef rfl (ef_callm false (fun _ => flip_a 20 _ _ _ hs (by omega) (by omega) (by simp only [in64]; omega)) rfl .fn rfl (by decide) (by kernel_rfl) rfl rfl (fun _g => .cons (.p rfl) (.cons (.c rfl) .nil)) (fun _g => .cons (.c rfl) (.cons (.c rfl) .nil)) (by simp)) ?_; rintro F1 H1 ⟨_, _, _, _, ⟨bb, rfl, hq⟩, hF, hH⟩; injection hq with hq1 hq2; subst hq1; subst hq2; (refine NST hF hH ?_; clear hF hH; rintro rfl rfl)) | skip
  refine WE ?_
  refine aw_cond rfl (fun _ => ?_) (fun _ => ?_)
  ·refine WR ?_
   refine al_ef rfl (ef_callm false (fun _ => next_a _ _ _ _ hs (by omega) (by omega) (by simp only [in64]; omega)) rfl .fn rfl (by decide) (by kernel_rfl) rfl rfl (fun _g => .cons (.p rfl) (.cons (.c rfl) .nil)) (fun _g => .cons (.c rfl) (.cons (.c rfl) .nil)) (by simp)) ?_
   rintro F1 H1 ⟨_, _, _, _, ⟨rn, rfl, hq, hr1, hr2⟩, hF, hH⟩
   injection hq with hq1 hq2; subst hq1; subst hq2
   (refine NST hF hH ?_; clear hF hH; rintro rfl rfl)
   obtain ⟨ix, rfl⟩ : ∃ ix : Nat, rn = ix := ⟨rn.toNat, by omega⟩
   have hix : ix < l.length := by have := hr2 (by omega); omega
   obtain ⟨⟨v0, c0⟩, hr0⟩ : ∃ z, l[ix]? = some z := ⟨_, List.getElem?_eq_getElem hix⟩
   have hrow : (cR l)[ix]? = some (celR v0 c0) := by rw [List.getElem?_map, hr0]; rfl
   refine WO ?_
   refine al_ef rfl (ef_callm false (fun _ => acells_v 4 (by decide) _ _ _ hs (by omega) (by omega)) rfl .fn rfl (by decide) (by kernel_rfl) rfl rfl (fun _g => .cons (.p rfl) (.cons (.c rfl) .nil)) (fun _g => .cons (.c rfl) (.cons (.c rfl) .nil)) (by simp)) ?_
   rintro F1 H1 ⟨_, _, _, _, ⟨vc, c, ac, rfl, hq, hac1, hac2, hcs⟩, hF, hH⟩
   injection hq with hq1 hq2; subst hq1; subst hq2
   (refine NST hF hH ?_; clear hF hH; rintro rfl rfl)
   refine WE ?_
   refine WA ?_
   have hse : (cR l).set (0 + ix) [I c.st, I c.x, I c.y, .r vc (tR c.rows)] = cR (l.set ix (vc, c)) := by show List.set (List.map (fun p => celR p.1 p.2) l) (0 + ix) (celR vc c) = List.map (fun p => celR p.1 p.2) (l.set ix (vc, c)); rw [Nat.zero_add, List.map_set]
   exact aret_of (us := [.o 1 0 l.length cp]) [some 0] (fun g => .c (.r (g (.o 1 0 l.length cp)) (cR (l.set ix (vc, c))))) (fun _ => [strm v zs _]) (.tmp rfl .nil) (by decide) (ZNK rfl) (fun g' => .frz (b := 1) rfl rfl (by rw [List.drop_zero, List.take_of_length_le (by simp)]; exact hse) (by simp) rfl) ZCH (fun g' => ⟨_, _, _, rfl, rfl, by omega, by omega, by rw [List.length_set]; exact hl10, fun q hq => (List.mem_or_eq_of_mem_set hq).elim (fun h => hlc q h) (fun h => by rw [h]; exact hcs)⟩)
  ·refine ZZ ?_
   refine WA ?_
   exact aret_of (us := [.o 1 0 l.length cp]) [some 0] (fun g => .c (.r (g (.o 1 0 l.length cp)) (cR l))) (fun _ => [strm v zs _]) (.tmp rfl .nil) (by decide) (ZNK rfl) (fun g' => .frz (b := 1) rfl rfl (by rw [List.drop_zero, List.take_of_length_le (by simp)]) (by simp) rfl) ZCH (fun g' => ⟨_, _, _, rfl, rfl, by omega, by omega, hl10, hlc⟩)
 ·refine WR ?_
  first | refine ZS ?_ | (refine G1 rfl ?_; refine al_ef rfl (ef_callm false (fun _ => flip_a 20 _ _ _ hs (by omega) (by omega) (by simp only [in64]; omega)) rfl .fn rfl (by decide) (by kernel_rfl) rfl rfl (fun _g => .cons (.p rfl) (.cons (.c rfl) .nil)) (fun _g => .cons (.c rfl) (.cons (.c rfl) .nil)) (by simp)) ?_; rintro F1 H1 ⟨_, _, _, _, ⟨bb, rfl, hq⟩, hF, hH⟩; injection hq with hq1 hq2; subst hq1; subst hq2; (refine NST hF hH ?_; clear hF hH; rintro rfl rfl)) | skip
  refine WE ?_
  refine aw_cond_f rfl ?_
  refine ZZ ?_
  refine WA ?_
  exact aret_of (us := [.o 1 0 l.length cp]) [some 0] (fun g => .c (.r (g (.o 1 0 l.length cp)) (cR l))) (fun _ => [strm v zs _]) (.tmp rfl .nil) (by decide) (ZNK rfl) (fun g' => .frz (b := 1) rfl rfl (by rw [List.drop_zero, List.take_of_length_le (by simp)]) (by simp) rfl) ZCH (fun g' => ⟨_, _, _, rfl, rfl, by omega, by omega, hl10, hlc⟩)
set_option maxHeartbeats 2000000 in
theorem astyle_v (v : Value) (zs : List Int) (a : Int) (hs : StrOk zs) (h0 : 0 ≤ a) (h1 : a ≤ 800000000) : ACalls Tryz.prog 10 [.p 0 0 0] [strm v zs a] fun u H => ∃ (w t b e a' : Int), u = .a [.c (I w), .c (I t), .c (I b), .c (I e)] ∧ H = [strm v zs a'] ∧ a ≤ a' ∧ a' ≤ a + 20 := by
 refine acalls_of (N := 29) Tryz.func10 rfl rfl (by simp) fun E hE => ?_
 refine WA ?_
 refine WR ?_
 refine al_ef rfl (ef_callm false (fun _ => range_a 0 2 _ _ _ hs (by omega) (by omega) (by omega) (by omega) (by omega) (by omega)) rfl .fn rfl (by decide) (by kernel_rfl) rfl rfl (fun _g => .cons (.p rfl) (.cons (.c rfl) (.cons (.c rfl) .nil))) (fun _g => .cons (.c rfl) (.cons (.c rfl) .nil)) (by simp)) ?_
 rintro F1 H1 ⟨_, _, _, _, ⟨rr, ar, rfl, hq, hr3, hr4, hr1, hr2, _⟩, hF, hH⟩
 injection hq with hq1 hq2; subst hq1; subst hq2
 (refine NST hF hH ?_; clear hF hH; rintro rfl rfl)
 have h64r : in64 rr := by simp only [in64]; omega
 refine WO ?_
 refine al_ef rfl (ef_callm false (fun _ => range_a 0 2 _ _ _ hs (by omega) (by omega) (by omega) (by omega) (by omega) (by omega)) rfl .fn rfl (by decide) (by kernel_rfl) rfl rfl (fun _g => .cons (.p rfl) (.cons (.c rfl) (.cons (.c rfl) .nil))) (fun _g => .cons (.c rfl) (.cons (.c rfl) .nil)) (by simp)) ?_
 rintro F1 H1 ⟨_, _, _, _, ⟨rr, ar, rfl, hq, hr3, hr4, hr1, hr2, _⟩, hF, hH⟩
 injection hq with hq1 hq2; subst hq1; subst hq2
 (refine NST hF hH ?_; clear hF hH; rintro rfl rfl)
 have h64r : in64 rr := by simp only [in64]; omega
 refine WO ?_
 refine al_ef rfl (ef_callm false (fun _ => range_a 0 2 _ _ _ hs (by omega) (by omega) (by omega) (by omega) (by omega) (by omega)) rfl .fn rfl (by decide) (by kernel_rfl) rfl rfl (fun _g => .cons (.p rfl) (.cons (.c rfl) (.cons (.c rfl) .nil))) (fun _g => .cons (.c rfl) (.cons (.c rfl) .nil)) (by simp)) ?_
 rintro F1 H1 ⟨_, _, _, _, ⟨rr, ar, rfl, hq, hr3, hr4, hr1, hr2, _⟩, hF, hH⟩
 injection hq with hq1 hq2; subst hq1; subst hq2
 (refine NST hF hH ?_; clear hF hH; rintro rfl rfl)
 have h64r : in64 rr := by simp only [in64]; omega
 refine WO ?_
 refine al_ef rfl (ef_callm false (fun _ => range_a 1 3 _ _ _ hs (by omega) (by omega) (by omega) (by omega) (by omega) (by omega)) rfl .fn rfl (by decide) (by kernel_rfl) rfl rfl (fun _g => .cons (.p rfl) (.cons (.c rfl) (.cons (.c rfl) .nil))) (fun _g => .cons (.c rfl) (.cons (.c rfl) .nil)) (by simp)) ?_
 rintro F1 H1 ⟨_, _, _, _, ⟨rr, ar, rfl, hq, hr3, hr4, hr1, hr2, _⟩, hF, hH⟩
 injection hq with hq1 hq2; subst hq1; subst hq2
 (refine NST hF hH ?_; clear hF hH; rintro rfl rfl)
 have h64r : in64 rr := by simp only [in64]; omega
 refine WE ?_
 refine WR ?_
 refine al_ef rfl (ef_callm false (fun _ => flip_a 12 _ _ _ hs (by omega) (by omega) (by simp only [in64]; omega)) rfl .fn rfl (by decide) (by kernel_rfl) rfl rfl (fun _g => .cons (.p rfl) (.cons (.c rfl) .nil)) (fun _g => .cons (.c rfl) (.cons (.c rfl) .nil)) (by simp)) ?_
 rintro F1 H1 ⟨_, _, _, _, ⟨bb, rfl, hq⟩, hF, hH⟩
 injection hq with hq1 hq2; subst hq1; subst hq2
 (refine NST hF hH ?_; clear hF hH; rintro rfl rfl)
 refine WE ?_
 refine aw_cond rfl (fun _ => ?_) (fun _ => ?_)
 ·refine WR ?_
  refine al_ef rfl (ef_callm true (fun _ => pick_a [-1, 10, 11] _ _ _ _ hs (by omega) (by omega) (by simp) (by simp)) rfl .fn rfl (by decide) (by kernel_rfl) rfl rfl (fun _g => .cons (.p rfl) (.cons (.frz rfl rfl rfl rfl rfl) .nil)) (fun _g => .cons (.c rfl) (.cons (.c rfl) .nil)) (fun _ _ _ _ ⟨_, hu, hH, _⟩ => by rw [hu, hH]; exact ⟨.c (.inl trivial), strm_flat (.inr ⟨0, _, rfl, by simp⟩)⟩)) ?_
  rintro F1 H1 ⟨_, _, _, _, ⟨rr, rfl, hq, hrm⟩, hF, hH⟩
  injection hq with hq1 hq2; subst hq1; subst hq2
  (refine NST hF hH ?_; clear hF hH; rintro rfl rfl)
  have h64r : in64 rr := by simp only [List.mem_cons, List.not_mem_nil, or_false] at hrm; simp only [in64] at *; omega
  clear hrm
  refine WO ?_
  refine al_ef rfl (ef_callm true (fun _ => pick_a [0, -1, 51] _ _ _ _ hs (by omega) (by omega) (by simp) (by simp)) rfl .fn rfl (by decide) (by kernel_rfl) rfl rfl (fun _g => .cons (.p rfl) (.cons (.frz rfl rfl rfl rfl rfl) .nil)) (fun _g => .cons (.c rfl) (.cons (.c rfl) .nil)) (fun _ _ _ _ ⟨_, hu, hH, _⟩ => by rw [hu, hH]; exact ⟨.c (.inl trivial), strm_flat (.inr ⟨0, _, rfl, by simp⟩)⟩)) ?_
  rintro F1 H1 ⟨_, _, _, _, ⟨rr, rfl, hq, hrm⟩, hF, hH⟩
  injection hq with hq1 hq2; subst hq1; subst hq2
  (refine NST hF hH ?_; clear hF hH; rintro rfl rfl)
  have h64r : in64 rr := by simp only [List.mem_cons, List.not_mem_nil, or_false] at hrm; simp only [in64] at *; omega
  clear hrm
  refine WO ?_
  refine al_ef rfl (ef_callm true (fun _ => pick_a [1, -1] _ _ _ _ hs (by omega) (by omega) (by simp) (by simp)) rfl .fn rfl (by decide) (by kernel_rfl) rfl rfl (fun _g => .cons (.p rfl) (.cons (.frz rfl rfl rfl rfl rfl) .nil)) (fun _g => .cons (.c rfl) (.cons (.c rfl) .nil)) (fun _ _ _ _ ⟨_, hu, hH, _⟩ => by rw [hu, hH]; exact ⟨.c (.inl trivial), strm_flat (.inr ⟨0, _, rfl, by simp⟩)⟩)) ?_
  rintro F1 H1 ⟨_, _, _, _, ⟨rr, rfl, hq, hrm⟩, hF, hH⟩
  injection hq with hq1 hq2; subst hq1; subst hq2
  (refine NST hF hH ?_; clear hF hH; rintro rfl rfl)
  have h64r : in64 rr := by simp only [List.mem_cons, List.not_mem_nil, or_false] at hrm; simp only [in64] at *; omega
  clear hrm
  refine WO ?_
  refine al_ef rfl (ef_callm true (fun _ => pick_a [1, 0, 201] _ _ _ _ hs (by omega) (by omega) (by simp) (by simp)) rfl .fn rfl (by decide) (by kernel_rfl) rfl rfl (fun _g => .cons (.p rfl) (.cons (.frz rfl rfl rfl rfl rfl) .nil)) (fun _g => .cons (.c rfl) (.cons (.c rfl) .nil)) (fun _ _ _ _ ⟨_, hu, hH, _⟩ => by rw [hu, hH]; exact ⟨.c (.inl trivial), strm_flat (.inr ⟨0, _, rfl, by simp⟩)⟩)) ?_
  rintro F1 H1 ⟨_, _, _, _, ⟨rr, rfl, hq, hrm⟩, hF, hH⟩
  injection hq with hq1 hq2; subst hq1; subst hq2
  (refine NST hF hH ?_; clear hF hH; rintro rfl rfl)
  have h64r : in64 rr := by simp only [List.mem_cons, List.not_mem_nil, or_false] at hrm; simp only [in64] at *; omega
  clear hrm
  refine WE ?_
  refine WA ?_
  exact aret_a [some 0] _ rfl (KK (t := 34) rfl) rfl (Cells.box rfl) (by first | (simp; done) | exact Nat.le_refl 4) (by (try simp only [nm, putL, Nat.reduceAdd, cellsOf, cvOf]) <;> rfl) (by decide) (ZNK rfl) (fun _ => C0 rfl) ZCH ⟨_, _, _, _, _, rfl, rfl, by omega, by omega⟩
 ·refine ZZ ?_
  refine WA ?_
  exact aret_a [some 0] _ rfl (KK (t := 34) rfl) rfl (Cells.box rfl) (by first | (simp; done) | exact Nat.le_refl 4) (by (try simp only [nm, putL, Nat.reduceAdd, cellsOf, cvOf]) <;> rfl) (by decide) (ZNK rfl) (fun _ => C0 rfl) ZCH ⟨_, _, _, _, _, rfl, rfl, by omega, by omega⟩
end Go.Proofs.YtgeenfjmhhenfaaGreatDoor
