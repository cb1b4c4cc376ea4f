/- The stream's paths over cells, by value: some paths. -/
import Derived.Test.YtfilfijammemfaaGreatDoorQbl
import Derived.Test.YtfilfijammemfaaGreatDoorQbp
import Derived.Test.YtfilfijammemfaaGreatDoorQbi
set_option linter.unusedSimpArgs false
set_option linter.unusedVariables false
-- NEWM
namespace Go.Proofs.YtfilfijammemfaaGreatDoor
open Go Go.RowKit
set_option maxRecDepth 100000
set_option maxHeartbeats 8000000 in
theorem ways_v (vc : Value) (c : Cel) (hcl : c.rows.length ≤ 1000000000) (hcr : ∀ r ∈ c.rows, r.length ≤ 1000000000) (v : Value) (zs : List Int) (a : Int) (hs : StrOk zs) (h0 : 0 ≤ a) (h1 : a ≤ 600000000) : ACalls Tryz.prog 27 [.p 0 0 0, celA vc c] [strm v zs a] fun u H => ∃ (v' : Value) (pl : List Pth) (a' : Int), u = .c (.r v' (paR pl)) ∧ H = [strm v zs a'] ∧ a ≤ a' ∧ a' ≤ a + 100 ∧ pl.length ≤ 1000 ∧ ∀ p ∈ pl, p.2.1.length ≤ 1000 := by
 refine ze (N := 81) Tryz.func27 rfl rfl (by simp) fun E hE => ?_
 refine WA ?_
 refine WA ?_
 refine aw_cut (fun F H => ∃ (b : Bool) (a1 : Int), (b = true → celF c = 0) ∧ a ≤ a1 ∧ a1 ≤ a + 1 ∧ F = [(0, .p 0 0 0), (3, .p 1 0 0), (5, .c (.r (.slice none 0 0) [])), (13, .c (B b))] ∧ H = [strm v zs a1, celB vc c]) ?_ ?_ wk_aw
 ·by_cases hcf : celF c = 0
  ·refine WR ?_
   refine zf rfl (za false (fun _ => rcheck_v vc c hcl hcr) rfl .fn rfl (by decide) (by kernel_rfl) rfl (fun _ => C0 rfl) (by simp)) ?_
   rintro _ _ ⟨_, _, _, ⟨rfl, rfl⟩, hF, hH⟩
   rw [hcf] at hF
   (refine NST hF hH ?_; clear hF hH; rintro rfl rfl)
   refine WO ?_
   first | refine ZS ?_ | (refine G1 rfl ?_; refine zf rfl (zp false (fun _ => flip_a 2 _ _ _ hs (by omega) (by omega) (by simp only [in64]; omega)) rfl .fn rfl (by decide) (by kernel_rfl) rfl rfl (fun _g => .cons (.p rfl) (.cons (.c rfl) .nil)) (fun _g => .cons (.c rfl) (.cons (.c rfl) .nil)) (by simp)) ?_; rintro F1 H1 ⟨_, _, _, _, ⟨bb, rfl, hq⟩, hF, hH⟩; injection hq with hq1 hq2; subst hq1; subst hq2; (refine NST hF hH ?_; clear hF hH; rintro rfl rfl)) | skip
   refine WE ?_
   refine zh [some 0, some 1] (fun _ => [(0, .p 0 0 0), (3, .p 1 0 0), (5, .c (.r (.slice none 0 0) [])), (13, .c (B bb))]) (fun _ => [strm v zs _, celB vc c]) (by decide) (ZNL hE) ZCF ZCH (fun _ => ?_)
   exact ⟨bb, _, fun _ => hcf, by omega, by omega, rfl, rfl⟩
  ·obtain ⟨e, he, he0⟩ : ∃ e, celF c = e ∧ e ≠ 0 := ⟨_, rfl, hcf⟩
   refine WR ?_
   refine zf rfl (za false (fun _ => rcheck_v vc c hcl hcr) rfl .fn rfl (by decide) (by kernel_rfl) rfl (fun _ => C0 rfl) (by simp)) ?_
   rintro _ _ ⟨_, _, _, ⟨rfl, rfl⟩, hF, hH⟩
   rw [he] at hF
   (refine NST hF hH ?_; clear hF hH; rintro rfl rfl)
   refine WO ?_
   first | refine ZS ?_ | (refine G1 rfl ?_; refine zf rfl (zp false (fun _ => flip_a 2 _ _ _ hs (by omega) (by omega) (by simp only [in64]; omega)) rfl .fn rfl (by decide) (by kernel_rfl) rfl rfl (fun _g => .cons (.p rfl) (.cons (.c rfl) .nil)) (fun _g => .cons (.c rfl) (.cons (.c rfl) .nil)) (by simp)) ?_; rintro F1 H1 ⟨_, _, _, _, ⟨bb, rfl, hq⟩, hF, hH⟩; injection hq with hq1 hq2; subst hq1; subst hq2; (refine NST hF hH ?_; clear hF hH; rintro rfl rfl)) | skip
   refine WE ?_
   refine zh [some 0, some 1] (fun _ => [(0, .p 0 0 0), (3, .p 1 0 0), (5, .c (.r (.slice none 0 0) [])), (13, .c (B false))]) (fun _ => [strm v zs _, celB vc c]) (by decide) (ZNL hE) ZCF ZCH (fun _ => ?_)
   exact ⟨false, _, fun h => (by cases h), by omega, by omega, rfl, rfl⟩
 rintro F H ⟨b0, a0, hb0, hz1, hz2, rfl, rfl⟩
 refine ZZ ?_
 refine aw_cut (fun F H => ∃ (pl : List Pth) (cp : Nat) (a1 : Int), a ≤ a1 ∧ a1 ≤ a + 5 ∧ pl.length ≤ 6 ∧ (∀ p ∈ pl, p.2.1.length ≤ 1000) ∧ F = [(0, .p 0 0 0), (5, .o 1 0 pl.length cp)] ∧ H = [strm v zs a1, .arr 54 2 cp (paR pl)]) ?_ ?_ wk_aw
 ·refine zC rfl (fun hb => ?_) (fun hb => ?_)
  ·have hc := celF_0.1 (hb0 hb)
   refine ZZ ?_
   refine zg [(0, none), (1, none), (3, none), (5, none), (2, some [0, 3, 5]), (4, some [0, 5]), (6, some [0]), (7, some []), (8, none)] zn (by kernel_rfl) ?_
   refine WP ?_
   refine zY rfl rfl (zp false (fun _ => next_a 2 _ _ _ hs (by omega) (by omega) (by simp only [in64]; omega)) rfl .fn rfl (by decide) (by kernel_rfl) rfl rfl (fun _g => .cons (.p rfl) (.cons (.c rfl) .nil)) (fun _g => .cons (.c rfl) (.cons (.c rfl) .nil)) (by simp)) ?_
   rintro F1 H1 ⟨_, _, _, _, ⟨nq, rfl, hq, hr1nq, hr2nq⟩, hF, hH⟩
   injection hq with hq1 hq2; subst hq1; subst hq2
   (refine NST hF hH ?_; clear hF hH; rintro rfl rfl)
   refine ⟨zj (by first | exact zu rfl rfl rfl (ZK (KK (t := 28) rfl)) rfl) (zj (by first | exact zu rfl rfl rfl (zB rfl rfl) rfl) (zj (by first | exact zu rfl rfl rfl (zB rfl rfl) rfl) (zm))), ?_⟩
   refine zY rfl rfl (zp false (fun _ => range_a 1 2 _ _ _ hs (by omega) (by omega) (by omega) (by omega) (by omega) (by omega)) rfl .fn rfl (by decide) (by kernel_rfl) rfl rfl (fun _g => .cons (.p rfl) (.cons (.c rfl) (.cons (.c rfl) .nil))) (fun _g => .cons (.c rfl) (.cons (.c rfl) .nil)) (by simp)) ?_
   rintro F1 H1 ⟨_, _, _, _, ⟨nev, a2, rfl, hq, hr3nev, hr4nev, hr1nev, hr2nev, _⟩, hF, hH⟩
   injection hq with hq1 hq2; subst hq1; subst hq2
   (refine NST hF hH ?_; clear hF hH; rintro rfl rfl)
   refine ⟨zj (by first | exact zu rfl rfl rfl (ZK (KK (t := 28) rfl)) rfl) (zj (by first | exact zu rfl rfl rfl (zB rfl rfl) rfl) (zm)), ?_⟩
   refine zY rfl rfl (zp false (fun _ => next_a 2 _ _ _ hs (by omega) (by omega) (by simp only [in64]; omega)) rfl .fn rfl (by decide) (by kernel_rfl) rfl rfl (fun _g => .cons (.p rfl) (.cons (.c rfl) .nil)) (fun _g => .cons (.c rfl) (.cons (.c rfl) .nil)) (by simp)) ?_
   rintro F1 H1 ⟨_, _, _, _, ⟨nph, rfl, hq, hr1nph, hr2nph⟩, hF, hH⟩
   injection hq with hq1 hq2; subst hq1; subst hq2
   (refine NST hF hH ?_; clear hF hH; rintro rfl rfl)
   refine ⟨zj (by first | exact zu rfl rfl rfl (ZK (KK (t := 28) rfl)) rfl) (zm), ?_⟩
   refine zY rfl rfl (zD [] (fun _ => []) false (fun _ => linesof_o vc c nq nev nph hc (by omega) (by omega)) rfl .fn rfl (by decide) (by kernel_rfl) rfl (fun _ => C0 rfl) (by decide) (fun _ => .nil) (by simp)) ?_
   rintro F1 H1 ⟨_, _, _, _, ⟨pl, cp, hcp, rfl, rfl, hpl⟩, hF, hH⟩
   (refine NSU hF hH ?_; clear hF hH; rintro rfl rfl)
   refine ⟨zm, ?_⟩
   refine WQ ?_
   have e1 : (paR pl).length = pl.length := by simp
   have ht6 : (paR pl).take 6 = paR (pl.take 6) := by simp [List.map_take]
   have hpp : ∀ p ∈ pl, p.2.1.length ≤ 1000 := fun p hp => by
    have : p.2 ∈ (linG (zc c) nq nev nph).map fun l => (ptsL c.st nq l, false) := by rw [← hpl]; exact List.mem_map_of_mem hp
    obtain ⟨l, _, hl⟩ := List.mem_map.1 this
    rw [← hl]
    unfold ptsL
    simp only
    split <;> simp
   refine WA ?_
   refine zl rfl (fun h6 => ?_) (fun h6 => ?_)
   ·refine aw_trunc (b := 2) 6 rfl ?_
    rw [ht6]
    simp only [List.set_cons_zero, List.set_cons_succ]
    refine ZR ?_
    refine WX1 ?_
    refine ZA (rd_slice (l := 0) (h := 6) rfl (KE (t := 33) rfl) rfl rfl (.inl ⟨rfl, rfl⟩) (.inr ⟨_, _, _, rfl, rfl, rfl⟩) (by omega) (by omega) (by omega)) ?_
    refine WE ?_
    refine zh [some 0, some 2] (fun _ => [(0, .p 0 0 0), (5, .o 1 0 (pl.take 6).length cp)]) (fun _ => [strm v zs _, .arr 54 2 cp (paR (pl.take 6))]) (by decide) (ZNL hE) ZCF ZCH (fun _ => ?_)
    exact ⟨pl.take 6, cp, _, by omega, by omega, by simp; omega, fun p hp => hpp p (List.mem_of_mem_take hp), rfl, rfl⟩
   ·refine ZZ ?_
    refine zh [some 0, some 2] (fun _ => [(0, .p 0 0 0), (5, .o 1 0 pl.length cp)]) (fun _ => [strm v zs _, .arr 54 2 cp (paR pl)]) (by decide) (ZNL hE) ZCF ZCH (fun _ => ?_)
    exact ⟨pl, cp, _, by omega, by omega, by omega, hpp, rfl, rfl⟩
  ·refine ZZ ?_
   refine zh [some 0, none] (fun _ => [(0, .p 0 0 0), (5, .o 1 0 0 0)]) (fun _ => [strm v zs _, .arr 54 2 0 (paR [])]) (by decide) (ZNL hE) ZCF ZCH (fun _ => ?_)
   exact ⟨[], 0, _, by omega, by omega, by simp, fun p hp => (by cases hp), rfl, rfl⟩
 rintro F H ⟨pl0, cp0, a1, ha1, ha2, hp6, hpp0, rfl, rfl⟩
 refine ZZ ?_
 refine WR ?_
 refine zf rfl (zp false (fun _ => range_a 0 3 _ _ _ hs (by omega) (by omega) (by omega) (by omega) (by omega) (by omega)) rfl .fn rfl (by decide) (by kernel_rfl) rfl rfl (fun _g => .cons (.p rfl) (.cons (.c rfl) (.cons (.c rfl) .nil))) (fun _g => .cons (.c rfl) (.cons (.c rfl) .nil)) (by simp)) ?_
 rintro F1 H1 ⟨_, _, _, _, ⟨n, an, rfl, hq, hr3n, hr4n, hr1n, hr2n, _⟩, hF, hH⟩
 injection hq with hq1 hq2; subst hq1; subst hq2
 (refine NST hF hH ?_; clear hF hH; rintro rfl rfl)
 refine WE ?_
 obtain ⟨n, rfl⟩ : ∃ k : Nat, n = (k : Int) := ⟨n.toNat, by omega⟩
 refine zk (fun m F H => ∃ (k cp : Nat) (pl : List Pth) (a2 : Int), m + k = n ∧ a ≤ a2 ∧ a2 ≤ a + 6 + 10 * k ∧ pl.length ≤ 6 + k ∧ (∀ p ∈ pl, p.2.1.length ≤ 1000) ∧ F = [(0, .p 0 0 0), (5, .o 1 0 pl.length cp), (28, .c (I n)), (29, .c (I k))] ∧ H = [strm v zs a2, .arr 54 2 cp (paR pl)]) ?_ ?_
 ·refine zh [some 0, some 1] (fun _ => [(0, .p 0 0 0), (5, .o 1 0 pl0.length cp0), (28, .c (I n)), (29, .c (I (0 : Nat)))]) (fun _ => [strm v zs _, .arr 54 2 cp0 (paR pl0)]) (by decide) (ZNL hE) ZCF ZCH (fun _ => ?_)
  exact ⟨n, 0, cp0, pl0, _, by omega, by omega, by omega, by omega, hpp0, rfl, rfl⟩
 rintro m F H ⟨k, cp, pl, a2, hk, hb1, hb2, hb3, hpp, rfl, rfl⟩
 have e1 : (paR pl).length = pl.length := by simp
 refine WA ?_
 refine zl rfl (fun hlt => ?_) (fun hge => ?_)
 ·refine WR ?_
  refine zf rfl (zp false (fun _ => flip_a 4 _ _ _ hs (by omega) (by omega) (by simp only [in64]; omega)) rfl .fn rfl (by decide) (by kernel_rfl) rfl rfl (fun _g => .cons (.p rfl) (.cons (.c rfl) .nil)) (fun _g => .cons (.c rfl) (.cons (.c rfl) .nil)) (by simp)) ?_
  rintro F1 H1 ⟨_, _, _, _, ⟨bb, rfl, hq⟩, hF, hH⟩
  injection hq with hq1 hq2; subst hq1; subst hq2
  (refine NST hF hH ?_; clear hF hH; rintro rfl rfl)
  refine WE ?_
  refine WR ?_
  refine zf rfl (zp false (fun _ => range_a 1 4 _ _ _ hs (by omega) (by omega) (by omega) (by omega) (by omega) (by omega)) rfl .fn rfl (by decide) (by kernel_rfl) rfl rfl (fun _g => .cons (.p rfl) (.cons (.c rfl) (.cons (.c rfl) .nil))) (fun _g => .cons (.c rfl) (.cons (.c rfl) .nil)) (by simp)) ?_
  rintro F1 H1 ⟨_, _, _, _, ⟨n2, an2, rfl, hq, hr3n2, hr4n2, hr1n2, hr2n2, _⟩, hF, hH⟩
  injection hq with hq1 hq2; subst hq1; subst hq2
  (refine NST hF hH ?_; clear hF hH; rintro rfl rfl)
  refine WE ?_
  obtain ⟨n2, rfl⟩ : ∃ k : Nat, n2 = (k : Int) := ⟨n2.toNat, by omega⟩
  refine zk (fun m2 F H => ∃ (k2 c2 : Nat) (pts : List Spot) (a3 : Int), m2 + k2 = n2 ∧ a ≤ a3 ∧ a3 ≤ a2 + 2 + 2 * k2 ∧ pts.length = k2 ∧ F = [(0, .p 0 0 0), (5, .o 1 0 pl.length cp), (6, .p 2 0 0), (28, .c (I n)), (29, .c (I k)), (35, .c (I n2)), (36, .c (I k2))] ∧ H = [strm v zs a3, .arr 54 2 cp (paR pl), .box [.o 3 0 pts.length c2, .c (B bb)], .arr 107 2 c2 (sR pts)]) ?_ ?_
  ·refine zh [some 0, some 1, some 2, none] (fun _ => [(0, .p 0 0 0), (5, .o 1 0 pl.length cp), (6, .p 2 0 0), (28, .c (I n)), (29, .c (I k)), (35, .c (I n2)), (36, .c (I (0 : Nat)))]) (fun _ => [strm v zs _, .arr 54 2 cp (paR pl), .box [.o 3 0 0 0, .c (B bb)], .arr 107 2 0 (sR [])]) (by decide) (ZNL hE) ZCF ZCH (fun _ => ?_)
   exact ⟨n2, 0, 0, [], _, by omega, by omega, by omega, rfl, rfl, rfl⟩
  rintro m2 F H ⟨k2, c2, pts, a3, hk2, hd1, hd2, hd3, rfl, rfl⟩
  have e2 : (sR pts).length = pts.length := by simp
  have hpts : pts.length ≤ 4 := by omega
  refine WA ?_
  refine zl rfl (fun hlt2 => ?_) (fun hge2 => ?_)
  ·refine ZZ ?_
   refine aw_regionM [[(0, none), (1, none), (2, none), (5, none), (3, some [0, 1, 2, 5]), (4, some [0, 1, 5]), (6, some [0, 1, 2, 5]), (7, some [0, 1]), (8, none), (9, some [0, 1]), (10, some []), (11, none), (12, some [])], [(0, none), (1, none), (2, none), (5, none), (3, some [0, 1, 2, 5]), (6, some [0, 1, 2, 5]), (4, some [0, 1, 5]), (7, some [0, 1]), (8, none), (9, some [0, 1]), (10, some []), (11, none), (12, some [])], [(0, none), (1, none), (2, none), (5, none), (6, some [0, 1, 2, 5]), (3, some [0, 1, 2, 5]), (4, some [0, 1, 5]), (7, some [0, 1]), (8, none), (9, some [0, 1]), (10, some []), (11, none), (12, some [])]] zn (by kernel_rfl) ?_
   focus
    refine WM ?_
    refine am_two (by rfl) (by rfl) (by rfl) ?_ ?_
    rotate_left
    refine WM ?_
    refine zW1 (i := 4) (by rfl) (by rfl) rfl rfl (zp true (fun _ => pick_a [1, 5, 5, 15, 25, 35, 0] _ _ _ _ hs (by omega) (by omega) (by simp) (by simp)) rfl .fn rfl (by decide) (by kernel_rfl) rfl rfl (fun _g => .cons (.p rfl) (.cons (.frz rfl rfl rfl rfl rfl) .nil)) (fun _g => .cons (.c rfl) (.cons (.c rfl) .nil)) (fun _ _ _ _ ⟨_, hu, hH, _⟩ => by rw [hu, hH]; exact ⟨.c (.inl trivial), zf1 (.inr ⟨0, _, rfl, by simp⟩)⟩)) ?_
    rintro F1 H1 ⟨_, _, _, _, ⟨px, rfl, hq, hrm⟩, hF, hH⟩
    injection hq with hq1 hq2; subst hq1; subst hq2
    (refine NST hF hH ?_; clear hF hH; rintro rfl rfl)
    simp only [List.mem_cons, List.not_mem_nil, or_false] at hrm
    refine ⟨AGX, ?_⟩
    refine zW1 (i := 7) (by rfl) (by rfl) rfl rfl (zp true (fun _ => pick_a [1, 5, 15, 15, 25, 45] _ _ _ _ hs (by omega) (by omega) (by simp) (by simp)) rfl .fn rfl (by decide) (by kernel_rfl) rfl rfl (fun _g => .cons (.p rfl) (.cons (.frz rfl rfl rfl rfl rfl) .nil)) (fun _g => .cons (.c rfl) (.cons (.c rfl) .nil)) (fun _ _ _ _ ⟨_, hu, hH, _⟩ => by rw [hu, hH]; exact ⟨.c (.inl trivial), zf1 (.inr ⟨0, _, rfl, by simp⟩)⟩)) ?_
    rintro F1 H1 ⟨_, _, _, _, ⟨py, rfl, hq, hrm⟩, hF, hH⟩
    injection hq with hq1 hq2; subst hq1; subst hq2
    (refine NST hF hH ?_; clear hF hH; rintro rfl rfl)
    simp only [List.mem_cons, List.not_mem_nil, or_false] at hrm
    refine ⟨AGX, ?_⟩
    refine WM ?_
    refine zW1 (i := 10) (by rfl) (by rfl) rfl rfl (Zapp (KA (t := 52) rfl)) ?_
    rintro _ _ ⟨_, cc, hcc, rfl, rfl⟩
    refine ⟨AGX, ?_⟩
    refine WN ?_
    rotate_right
    refine WM ?_
    refine am_two (by rfl) (by rfl) (by rfl) ?_ ?_
    rotate_left
    refine WM ?_
    refine zW1 (i := 4) (by rfl) (by rfl) rfl rfl (zp true (fun _ => pick_a [1, 5, 5, 15, 25, 35, 0] _ _ _ _ hs (by omega) (by omega) (by simp) (by simp)) rfl .fn rfl (by decide) (by kernel_rfl) rfl rfl (fun _g => .cons (.p rfl) (.cons (.frz rfl rfl rfl rfl rfl) .nil)) (fun _g => .cons (.c rfl) (.cons (.c rfl) .nil)) (fun _ _ _ _ ⟨_, hu, hH, _⟩ => by rw [hu, hH]; exact ⟨.c (.inl trivial), zf1 (.inr ⟨0, _, rfl, by simp⟩)⟩)) ?_
    rintro F1 H1 ⟨_, _, _, _, ⟨px, rfl, hq, hrm⟩, hF, hH⟩
    injection hq with hq1 hq2; subst hq1; subst hq2
    (refine NST hF hH ?_; clear hF hH; rintro rfl rfl)
    simp only [List.mem_cons, List.not_mem_nil, or_false] at hrm
    refine ⟨AGX, ?_⟩
    refine zW1 (i := 7) (by rfl) (by rfl) rfl rfl (zp true (fun _ => pick_a [1, 5, 15, 15, 25, 45] _ _ _ _ hs (by omega) (by omega) (by simp) (by simp)) rfl .fn rfl (by decide) (by kernel_rfl) rfl rfl (fun _g => .cons (.p rfl) (.cons (.frz rfl rfl rfl rfl rfl) .nil)) (fun _g => .cons (.c rfl) (.cons (.c rfl) .nil)) (fun _ _ _ _ ⟨_, hu, hH, _⟩ => by rw [hu, hH]; exact ⟨.c (.inl trivial), zf1 (.inr ⟨0, _, rfl, by simp⟩)⟩)) ?_
    rintro F1 H1 ⟨_, _, _, _, ⟨py, rfl, hq, hrm⟩, hF, hH⟩
    injection hq with hq1 hq2; subst hq1; subst hq2
    (refine NST hF hH ?_; clear hF hH; rintro rfl rfl)
    simp only [List.mem_cons, List.not_mem_nil, or_false] at hrm
    refine ⟨AGX, ?_⟩
    refine WM ?_
    refine zW1 (i := 10) (by rfl) (by rfl) rfl rfl (Zapp (KA (t := 52) rfl)) ?_
    rintro _ _ ⟨_, cc, hcc, rfl, rfl⟩
    refine ⟨AGX, ?_⟩
    refine WN ?_
    rotate_right
    refine zW1 (i := 4) (by rfl) (by rfl) rfl rfl (zp true (fun _ => pick_a [1, 5, 5, 15, 25, 35, 0] _ _ _ _ hs (by omega) (by omega) (by simp) (by simp)) rfl .fn rfl (by decide) (by kernel_rfl) rfl rfl (fun _g => .cons (.p rfl) (.cons (.frz rfl rfl rfl rfl rfl) .nil)) (fun _g => .cons (.c rfl) (.cons (.c rfl) .nil)) (fun _ _ _ _ ⟨_, hu, hH, _⟩ => by rw [hu, hH]; exact ⟨.c (.inl trivial), zf1 (.inr ⟨0, _, rfl, by simp⟩)⟩)) ?_
    rintro F1 H1 ⟨_, _, _, _, ⟨px, rfl, hq, hrm⟩, hF, hH⟩
    injection hq with hq1 hq2; subst hq1; subst hq2
    (refine NST hF hH ?_; clear hF hH; rintro rfl rfl)
    simp only [List.mem_cons, List.not_mem_nil, or_false] at hrm
    refine ⟨AGX, ?_⟩
    refine WM ?_
    refine zW1 (i := 7) (by rfl) (by rfl) rfl rfl (zp true (fun _ => pick_a [1, 5, 15, 15, 25, 45] _ _ _ _ hs (by omega) (by omega) (by simp) (by simp)) rfl .fn rfl (by decide) (by kernel_rfl) rfl rfl (fun _g => .cons (.p rfl) (.cons (.frz rfl rfl rfl rfl rfl) .nil)) (fun _g => .cons (.c rfl) (.cons (.c rfl) .nil)) (fun _ _ _ _ ⟨_, hu, hH, _⟩ => by rw [hu, hH]; exact ⟨.c (.inl trivial), zf1 (.inr ⟨0, _, rfl, by simp⟩)⟩)) ?_
    rintro F1 H1 ⟨_, _, _, _, ⟨py, rfl, hq, hrm⟩, hF, hH⟩
    injection hq with hq1 hq2; subst hq1; subst hq2
    (refine NST hF hH ?_; clear hF hH; rintro rfl rfl)
    simp only [List.mem_cons, List.not_mem_nil, or_false] at hrm
    refine ⟨AGX, ?_⟩
    refine WM ?_
    refine zW1 (i := 10) (by rfl) (by rfl) rfl rfl (Zapp (KA (t := 52) rfl)) ?_
    rintro _ _ ⟨_, cc, hcc, rfl, rfl⟩
    refine ⟨AGX, ?_⟩
    refine WN ?_
   all_goals (
    refine WA ?_
    refine zh [some 0, some 1, some 2, some 3] (fun _ => [(0, .p 0 0 0), (5, .o 1 0 pl.length cp), (6, .p 2 0 0), (28, .c (I n)), (29, .c (I k)), (35, .c (I n2)), (36, .c (I (k2 + 1 : Nat)))]) (fun _ => [strm v zs _, .arr 54 2 cp (paR pl), .box [.o 3 0 (pts ++ [((px, py) : Spot)]).length cc, .c (B bb)], .arr 107 2 cc (sR (pts ++ [((px, py) : Spot)]))]) (by decide) (ZNL hE) ZCF ZCH (fun _ => ?_)
    exact ⟨m2 - 1, by omega, k2 + 1, cc, pts ++ [(px, py)], _, by omega, by omega, by omega, by simp; omega, rfl, rfl⟩)
  refine ZZ ?_
  refine zC1 (zh (K := fun F H => ∃ vp, F = [(0, .p 0 0 0), (5, .o 1 0 pl.length cp), (6, .p 2 0 0), (28, .c (I n)), (29, .c (I k))] ∧ H = [strm v zs a3, .arr 54 2 cp (paR pl), .box [.c (.r vp (sR pts)), .c (B bb)]]) [some 0, some 1, some 2] (fun _ => [(0, .p 0 0 0), (5, .o 1 0 pl.length cp), (6, .p 2 0 0), (28, .c (I n)), (29, .c (I k))]) (fun g => [strm v zs a3, .arr 54 2 cp (paR pl), .box [.c (.r (g (.o 3 0 pts.length c2)) (sR pts)), .c (B bb)]]) (by decide) (ZNL hE) ZCF (fun g => .box rfl (C0 rfl) (.arr rfl rfl (.box rfl (.cons (.frz rfl rfl (by rw [List.drop_zero, List.take_of_length_le (by simp)]) (by simp) rfl) (.cons (.c rfl) .nil)) .nil))) (fun _ => ⟨_, rfl, rfl⟩)) ?_
  rintro F H ⟨vp, rfl, rfl⟩
  refine WR ?_
  refine zf rfl (Zapp (KA (t := 33) rfl)) ?_
  rintro _ _ ⟨_, cc, hcc, rfl, rfl⟩
  refine WE ?_
  refine WA ?_
  refine zh [some 0, some 1] (fun _ => [(0, .p 0 0 0), (5, .o 1 0 (pl ++ [((vp, pts, bb) : Pth)]).length cc), (28, .c (I n)), (29, .c (I (k + 1 : Nat)))]) (fun _ => [strm v zs a3, .arr 54 2 cc (paR (pl ++ [((vp, pts, bb) : Pth)]))]) (by decide) (ZNL hE) ZCF ZCH (fun _ => ?_)
  refine ⟨m - 1, by omega, k + 1, cc, pl ++ [((vp, pts, bb) : Pth)], a3, by omega, by omega, by omega, by simp; omega, fun p hp => ?_, rfl, rfl⟩
  rcases List.mem_append.1 hp with hp | hp
  ·exact hpp p hp
  ·rw [List.mem_singleton.1 hp]; simp only; omega
 refine ZZ ?_
 refine WR ?_
 refine zf rfl (zp false (fun _ => flip_a 15 _ _ _ hs (by omega) (by omega) (by simp only [in64]; omega)) rfl .fn rfl (by decide) (by kernel_rfl) rfl rfl (fun _g => .cons (.p rfl) (.cons (.c rfl) .nil)) (fun _g => .cons (.c rfl) (.cons (.c rfl) .nil)) (by simp)) ?_
 rintro F1 H1 ⟨_, _, _, _, ⟨bb, rfl, hq⟩, hF, hH⟩
 injection hq with hq1 hq2; subst hq1; subst hq2
 (refine NST hF hH ?_; clear hF hH; rintro rfl rfl)
 refine WE ?_
 refine aw_cut (fun F H => ∃ (pl : List Pth) (cp : Nat) (a1 : Int), a ≤ a1 ∧ a1 ≤ a + 60 ∧ pl.length ≤ 20 ∧ (∀ p ∈ pl, p.2.1.length ≤ 1000) ∧ F = [(0, .p 0 0 0), (5, .o 1 0 pl.length cp)] ∧ H = [strm v zs a1, .arr 54 2 cp (paR pl)]) ?_ ?_ wk_aw
 ·refine zC rfl (fun hb => ?_) (fun hb => ?_)
  ·refine WR ?_
   refine zf rfl (zp true (fun _ => pick_a [100000, 100001] _ _ _ _ hs (by omega) (by omega) (by simp) (by simp)) rfl .fn rfl (by decide) (by kernel_rfl) rfl rfl (fun _g => .cons (.p rfl) (.cons (.frz rfl rfl rfl rfl rfl) .nil)) (fun _g => .cons (.c rfl) (.cons (.c rfl) .nil)) (fun _ _ _ _ ⟨_, hu, hH, _⟩ => by rw [hu, hH]; exact ⟨.c (.inl trivial), zf1 (.inr ⟨0, _, rfl, by simp⟩)⟩)) ?_
   rintro F1 H1 ⟨_, _, _, _, ⟨px, rfl, hq, hrm⟩, hF, hH⟩
   injection hq with hq1 hq2; subst hq1; subst hq2
   (refine NST hF hH ?_; clear hF hH; rintro rfl rfl)
   simp only [List.mem_cons, List.not_mem_nil, or_false] at hrm
   refine WX1 ?_
   refine zf rfl Ybsr ?_
   rintro _ _ ⟨vz, rfl, rfl⟩
   refine WO ?_
   refine zf rfl (zp false (fun _ => next_a 2 _ _ _ hs (by omega) (by omega) (by simp only [in64]; omega)) rfl .fn rfl (by decide) (by kernel_rfl) rfl rfl (fun _g => .cons (.p rfl) (.cons (.c rfl) .nil)) (fun _g => .cons (.c rfl) (.cons (.c rfl) .nil)) (by simp)) ?_
   rintro F1 H1 ⟨_, _, _, _, ⟨rr, rfl, hq, hr1r, hr2r⟩, hF, hH⟩
   injection hq with hq1 hq2; subst hq1; subst hq2
   (refine NST hF hH ?_; clear hF hH; rintro rfl rfl)
   obtain rfl | rfl : rr = 0 ∨ rr = 1 := by have := hr2r (by omega); omega
   all_goals (first | refine al_rd rfl rfl (by decide) (Yslr (h := 0) (hrow := by intro row h; rw [List.mem_singleton.1 h]; rfl) (hlh := by omega) (hhc := by simp)) ?_ | refine al_rd rfl rfl (by decide) (Yslr (h := 1) (hrow := by intro row h; rw [List.mem_singleton.1 h]; rfl) (hlh := by omega) (hhc := by simp)) ?_)
   all_goals (refine WO ?_)
   all_goals (refine zf rfl (Zapp (KA (t := 33) rfl)) ?_)
   all_goals (rintro _ _ ⟨_, cc, hcc, rfl, rfl⟩)
   all_goals (refine WE ?_)
   ·refine zh [some 0, some 1] (fun _ => [(0, .p 0 0 0), (5, .o 1 0 (pl ++ [((subV vz 0 0 2, [], false) : Pth)]).length cc)]) (fun _ => [strm v zs _, .arr 54 2 cc (paR (pl ++ [((subV vz 0 0 2, [], false) : Pth)]))]) (by decide) (ZNL hE) ZCF ZCH (fun _ => ?_)
    refine ⟨pl ++ [((subV vz 0 0 2, [], false) : Pth)], cc, _, by omega, by omega, by simp; omega, fun p hp => ?_, rfl, rfl⟩
    rcases List.mem_append.1 hp with hp | hp
    ·exact hpp p hp
    ·rw [List.mem_singleton.1 hp]; simp
   ·refine zh [some 0, some 1] (fun _ => [(0, .p 0 0 0), (5, .o 1 0 (pl ++ [((subV vz 0 1 2, [(px, 0)], false) : Pth)]).length cc)]) (fun _ => [strm v zs _, .arr 54 2 cc (paR (pl ++ [((subV vz 0 1 2, [(px, 0)], false) : Pth)]))]) (by decide) (ZNL hE) ZCF ZCH (fun _ => ?_)
    refine ⟨pl ++ [((subV vz 0 1 2, [(px, 0)], false) : Pth)], cc, _, by omega, by omega, by simp; omega, fun p hp => ?_, rfl, rfl⟩
    rcases List.mem_append.1 hp with hp | hp
    ·exact hpp p hp
    ·rw [List.mem_singleton.1 hp]; simp
  ·refine ZZ ?_
   refine zh [some 0, some 1] (fun _ => [(0, .p 0 0 0), (5, .o 1 0 pl.length cp)]) (fun _ => [strm v zs _, .arr 54 2 cp (paR pl)]) (by decide) (ZNL hE) ZCF ZCH (fun _ => ?_)
   exact ⟨pl, cp, _, by omega, by omega, by omega, hpp, rfl, rfl⟩
 clear hpp hb1 hb2 hb3
 rintro F H ⟨pl, cp, a3, hb1, hb2, hb3, hpp, rfl, rfl⟩
 refine ZZ ?_
 refine WR ?_
 refine zf rfl (zp false (fun _ => flip_a 80 _ _ _ hs (by omega) (by omega) (by simp only [in64]; omega)) rfl .fn rfl (by decide) (by kernel_rfl) rfl rfl (fun _g => .cons (.p rfl) (.cons (.c rfl) .nil)) (fun _g => .cons (.c rfl) (.cons (.c rfl) .nil)) (by simp)) ?_
 rintro F1 H1 ⟨_, _, _, _, ⟨bb, rfl, hq⟩, hF, hH⟩
 injection hq with hq1 hq2; subst hq1; subst hq2
 (refine NST hF hH ?_; clear hF hH; rintro rfl rfl)
 refine WE ?_
 refine aw_cut (fun F H => ∃ (v' : Value) (pl : List Pth) (a1 : Int), a ≤ a1 ∧ a1 ≤ a + 90 ∧ pl.length ≤ 1000 ∧ (∀ p ∈ pl, p.2.1.length ≤ 1000) ∧ F = [(5, .c (.r v' (paR pl)))] ∧ H = [strm v zs a1]) ?_ ?_ wk_aw
 ·refine zC rfl (fun hb => ?_) (fun hb => ?_)
  ·refine ZR ?_
   refine WX1 ?_
   refine zf rfl Ybsr ?_
   rintro _ _ ⟨vz, rfl, rfl⟩
   refine WO ?_
   refine zf rfl (zp false (fun _ => range_a 0 1 _ _ _ hs (by omega) (by omega) (by omega) (by omega) (by omega) (by omega)) rfl .fn rfl (by decide) (by kernel_rfl) rfl rfl (fun _g => .cons (.p rfl) (.cons (.c rfl) (.cons (.c rfl) .nil))) (fun _g => .cons (.c rfl) (.cons (.c rfl) .nil)) (by simp)) ?_
   rintro F1 H1 ⟨_, _, _, _, ⟨nr, ar, rfl, hq, hr3nr, hr4nr, hr1nr, hr2nr, _⟩, hF, hH⟩
   injection hq with hq1 hq2; subst hq1; subst hq2
   (refine NST hF hH ?_; clear hF hH; rintro rfl rfl)
   refine WO ?_
   refine zf rfl (zD [2] (fun _ => [.arr 54 2 1 [rwP vz]]) false (fun _ => repeatP_a vz (200 + nr.toNat) (by omega) (by omega)) rfl .fn rfl (by decide) (by kernel_rfl) rfl (fun _ => .cons (.o rfl rfl) (.cons (.c (congrArg I (by omega))) .nil)) (by decide) (fun _ => .arr rfl rfl .nil) (by simp)) ?_
   rintro F1 H1 ⟨_, _, _, _, ⟨rfl, rfl⟩, hF, hH⟩
   (refine NSU hF hH ?_; clear hF hH; rintro rfl rfl)
   refine WE ?_
   refine zh [some 0] (fun g => [(5, .c (.r (g (.o 3 0 (200 + nr.toNat) (200 + nr.toNat))) (paR (List.replicate (200 + nr.toNat) ((vz, [(0, 0)], false) : Pth)))))]) (fun _ => [strm v zs _]) (by decide) (ZNL hE) (fun _ => .cons rfl (.frz rfl rfl (by rw [List.drop_zero, List.take_of_length_le (by simp), paR, List.map_replicate]) (by simp) rfl) .nil) ZCH (fun _ => ?_)
   refine ⟨_, List.replicate (200 + nr.toNat) ((vz, [(0, 0)], false) : Pth), _, by omega, by omega, by simp; omega, fun p hp => ?_, rfl, rfl⟩
   rw [List.eq_of_mem_replicate hp]; simp
  ·refine ZZ ?_
   refine zh [some 0] (fun g => [(5, .c (.r (g (.o 1 0 pl.length cp)) (paR pl)))]) (fun _ => [strm v zs _]) (by decide) (ZNL hE) (fun _ => .cons rfl (.frz rfl rfl (by rw [List.drop_zero, List.take_of_length_le (by simp)]) (by simp) rfl) .nil) ZCH (fun _ => ?_)
   exact ⟨_, pl, _, by omega, by omega, by omega, hpp, rfl, rfl⟩
 clear hpp hb1 hb2 hb3
 rintro F H ⟨vf, pl, a4, hb1, hb2, hb3, hpp, rfl, rfl⟩
 refine ZZ ?_
 refine WA ?_
 exact zi [some 0] _ rfl rfl rfl (by decide) (ZNK rfl) ZCH ⟨vf, pl, a4, rfl, rfl, by omega, by omega, hb3, hpp⟩
end Go.Proofs.YtfilfijammemfaaGreatDoor
