/- A mesh is spoilt at one place, by value. -/
import Derived.Test.YtlblimbelfenaaaGreatQbe
set_option linter.unusedSimpArgs false
set_option linter.unusedVariables false
/- Bounded numbers and places of the stream, by value. -/
-- NEWM
namespace Go.Proofs.YtlblimbelfenaaaGreat
open Go Go.RowKit
set_option maxRecDepth 100000
theorem oddb_v (lo hi : Int) (v : Value) (zs : List Int) (a : Int) (hs : StrOk zs) (h0 : 0 ≤ a) (h1 : a ≤ 900000000) (h2 : -1000000 ≤ lo) (h3 : lo ≤ 1000000) (h4 : -1000000 ≤ hi) (h5 : hi ≤ 1000000) (h6 : lo ≤ hi) :
    ACalls Tryz.prog 54 [.p 0 0 0, .c (I lo), .c (I hi)] [strm v zs a] fun u H => ∃ r a', u = .c (I r) ∧ H = [strm v zs a'] ∧ a ≤ a' ∧ a' ≤ a + 2 ∧ -2000000000000 ≤ r ∧ r ≤ 2000000000000 := by
 refine acalls_of (N := 22) Tryz.func54 rfl rfl (by simp) fun E hE => ?_
 repeat' (first
  | (with_reducible refine aw_seq ?_) | (with_reducible refine aseq_n ?_) | (with_reducible refine aseq_r ?_) | (with_reducible refine ablk_n ?_) | (with_reducible refine ablk_r ?_) | (with_reducible refine ablk_e ?_) | (with_reducible refine ablk_o rfl ?_) | (with_reducible refine aseq_e ?_) | (with_reducible refine aw_skip ?_) | (with_reducible refine aw_block ?_) | (with_reducible refine aw_ret ?_) | (with_reducible refine aw_exit ?_)
  | refine aw_cond_t rfl ?_ | refine aw_cond_f rfl ?_ | refine aw_if_t rfl (by assumption) ?_ | refine aw_if_f rfl (by assumption) ?_ | refine aw_if rfl (fun _ => ?_) (fun _ => ?_) | refine aw_cond rfl (fun _ => ?_) (fun _ => ?_)
  | (refine aw_region (id := 1) ?_
     refine WO ?_
     refine al_ef rfl (ef_callm false (fun _ => flip_a 12 _ _ _ hs (by omega) (by omega) (by simp only [in64]; omega)) rfl .fn rfl (by decide) (by kernel_rfl) rfl rfl (fun _g => .cons (.p rfl) (.cons (.c rfl) .nil)) (fun _g => .cons (.c rfl) (.cons (.c rfl) .nil)) (by simp)) ?_
     rintro F1 H1 ⟨_, _, _, _, ⟨bb, rfl, hq⟩, hF, hH⟩
     injection hq with hq1 hq2; subst hq1; subst hq2
     (refine NST hF hH ?_; clear hF hH; rintro rfl rfl)
     refine WE ?_)
  | (refine aw_region (id := 2) ?_
     refine WO ?_
     refine al_ef rfl (ef_callm true (fun _ => pick_a [lo - 1, hi + 1, lo, hi, -1099511627776, 1099511627776] _ _ _ _ hs (by omega) (by omega) (by simp) (by simp)) rfl .fn rfl (by decide) (by kernel_rfl) rfl rfl (fun _g => .cons (.p rfl) (.cons (.frz rfl rfl rfl rfl rfl) .nil)) (fun _g => .cons (.c rfl) (.cons (.c rfl) .nil)) (fun _ _ _ _ ⟨_, hu, hH, _⟩ => by rw [hu, hH]; exact ⟨.c (.inl trivial), strm_flat (.inr ⟨0, _, rfl, by simp⟩)⟩)) ?_
     rintro F1 H1 ⟨_, _, _, _, ⟨rr, rfl, hq, hrm⟩, hF, hH⟩
     injection hq with hq1 hq2; subst hq1; subst hq2
     (refine NST hF hH ?_; clear hF hH; rintro rfl rfl)
     have h64r : -2000000000000 ≤ rr ∧ rr ≤ 2000000000000 := by simp only [List.mem_cons, List.not_mem_nil, or_false] at hrm; omega
     clear hrm
     refine WE ?_)
  | (refine aw_region (id := 3) ?_
     refine WO ?_
     refine al_ef rfl (ef_callm false (fun _ => range_a lo hi _ _ _ hs (by omega) (by omega) (by omega) (by omega) (by omega) (by omega)) rfl .fn rfl (by decide) (by kernel_rfl) rfl rfl (fun _g => .cons (.p rfl) (.cons (.c rfl) (.cons (.c rfl) .nil))) (fun _g => .cons (.c rfl) (.cons (.c rfl) .nil)) (by simp)) ?_
     rintro F1 H1 ⟨_, _, _, _, ⟨rr, ar, rfl, hq, hr3, hr4, hr1, hr2, _⟩, hF, hH⟩
     injection hq with hq1 hq2; subst hq1; subst hq2
     (refine NST hF hH ?_; clear hF hH; rintro rfl rfl)
     have h64r : in64 rr := by simp only [in64]; omega
     refine WE ?_)
  | (refine aw_region ?_; refine WE ?_))
 all_goals (refine aret_1 [some 0] _ rfl rfl rfl (by decide) (ZNK rfl) ZCH ?_)
 all_goals exact ⟨_, _, rfl, rfl, by omega, by omega, by omega, by omega⟩
theorem avecb_v (v : Value) (zs : List Int) (a : Int) (hs : StrOk zs) (h0 : 0 ≤ a) (h1 : a ≤ 800000000) : ACalls Tryz.prog 47 [.p 0 0 0] [strm v zs a] fun u H => ∃ (p : Vec3) (a' : Int), u = .a (p.row.map .c) ∧ H = [strm v zs a'] ∧ a ≤ a' ∧ a' ≤ a + 10 ∧ (-2000000000000 ≤ p.x ∧ p.x ≤ 2000000000000) ∧ (-2000000000000 ≤ p.y ∧ p.y ≤ 2000000000000) ∧ (-2000000000000 ≤ p.z ∧ p.z ≤ 2000000000000) := by
 refine acalls_of (N := 20) Tryz.func47 rfl rfl (by simp) fun E hE => ?_
 refine WA ?_
 refine WR ?_
 refine al_ef rfl (ef_callm true (fun _ => pick_a [0, 1, 3, -5, 100] _ _ _ _ hs (by omega) (by omega) (by simp) (by simp)) rfl .fn rfl (by decide) (by kernel_rfl) rfl rfl (fun _g => .cons (.p rfl) (.cons (.frz rfl rfl rfl rfl rfl) .nil)) (fun _g => .cons (.c rfl) (.cons (.c rfl) .nil)) (fun _ _ _ _ ⟨_, hu, hH, _⟩ => by rw [hu, hH]; exact ⟨.c (.inl trivial), strm_flat (.inr ⟨0, _, rfl, by simp⟩)⟩)) ?_
 rintro F1 H1 ⟨_, _, _, _, ⟨rr, rfl, hq, hrm⟩, hF, hH⟩
 injection hq with hq1 hq2; subst hq1; subst hq2
 (refine NST hF hH ?_; clear hF hH; rintro rfl rfl)
 have h64r : -2000000000000 ≤ rr ∧ rr ≤ 2000000000000 := by simp only [List.mem_cons, List.not_mem_nil, or_false] at hrm; omega
 clear hrm
 refine WO ?_
 refine al_ef rfl (ef_callm true (fun _ => pick_a [0, 2, -7, 50] _ _ _ _ hs (by omega) (by omega) (by simp) (by simp)) rfl .fn rfl (by decide) (by kernel_rfl) rfl rfl (fun _g => .cons (.p rfl) (.cons (.frz rfl rfl rfl rfl rfl) .nil)) (fun _g => .cons (.c rfl) (.cons (.c rfl) .nil)) (fun _ _ _ _ ⟨_, hu, hH, _⟩ => by rw [hu, hH]; exact ⟨.c (.inl trivial), strm_flat (.inr ⟨0, _, rfl, by simp⟩)⟩)) ?_
 rintro F1 H1 ⟨_, _, _, _, ⟨rr, rfl, hq, hrm⟩, hF, hH⟩
 injection hq with hq1 hq2; subst hq1; subst hq2
 (refine NST hF hH ?_; clear hF hH; rintro rfl rfl)
 have h64r : -2000000000000 ≤ rr ∧ rr ≤ 2000000000000 := by simp only [List.mem_cons, List.not_mem_nil, or_false] at hrm; omega
 clear hrm
 refine WO ?_
 refine al_ef rfl (ef_callm true (fun _ => pick_a [0, 0, 4, -2, 20] _ _ _ _ hs (by omega) (by omega) (by simp) (by simp)) rfl .fn rfl (by decide) (by kernel_rfl) rfl rfl (fun _g => .cons (.p rfl) (.cons (.frz rfl rfl rfl rfl rfl) .nil)) (fun _g => .cons (.c rfl) (.cons (.c rfl) .nil)) (fun _ _ _ _ ⟨_, hu, hH, _⟩ => by rw [hu, hH]; exact ⟨.c (.inl trivial), strm_flat (.inr ⟨0, _, rfl, by simp⟩)⟩)) ?_
 rintro F1 H1 ⟨_, _, _, _, ⟨rr, rfl, hq, hrm⟩, hF, hH⟩
 injection hq with hq1 hq2; subst hq1; subst hq2
 (refine NST hF hH ?_; clear hF hH; rintro rfl rfl)
 have h64r : -2000000000000 ≤ rr ∧ rr ≤ 2000000000000 := by simp only [List.mem_cons, List.not_mem_nil, or_false] at hrm; omega
 clear hrm
 refine WE ?_
 refine WR ?_
 refine al_ef rfl (ef_callm false (fun _ => flip_a 40 _ _ _ hs (by omega) (by omega) (by simp only [in64]; omega)) rfl .fn rfl (by decide) (by kernel_rfl) rfl rfl (fun _g => .cons (.p rfl) (.cons (.c rfl) .nil)) (fun _g => .cons (.c rfl) (.cons (.c rfl) .nil)) (by simp)) ?_
 rintro F1 H1 ⟨_, _, _, _, ⟨bb, rfl, hq⟩, hF, hH⟩
 injection hq with hq1 hq2; subst hq1; subst hq2
 (refine NST hF hH ?_; clear hF hH; rintro rfl rfl)
 refine WE ?_
 refine aw_cond rfl (fun _ => ?_) (fun _ => ?_)
 ·refine WR ?_
  refine al_ef rfl (ef_callm false (fun _ => oddb_v (-100000) 100000 _ _ _ hs (by omega) (by omega) (by omega) (by omega) (by omega) (by omega) (by omega)) rfl .fn rfl (by decide) (by kernel_rfl) rfl rfl (fun _g => .cons (.p rfl) (.cons (.c rfl) (.cons (.c rfl) .nil))) (fun _g => .cons (.c rfl) (.cons (.c rfl) .nil)) (by simp)) ?_
  rintro F1 H1 ⟨_, _, _, _, ⟨rr, ar, rfl, hq, hr3, hr4, h64r⟩, hF, hH⟩
  injection hq with hq1 hq2; subst hq1; subst hq2
  (refine NST hF hH ?_; clear hF hH; rintro rfl rfl)
  refine WE ?_
  refine WA ?_
  refine aret_a [some 0] _ rfl (KK (t := 93) rfl) rfl (Cells.box rfl) (by simp) (by (try simp only [nm, putL, Nat.reduceAdd, cellsOf, cvOf]) <;> rfl) (by decide) (ZNK rfl) (fun _ => C0 rfl) ZCH ⟨⟨_, _, _⟩, _, rfl, rfl, ?_, ?_, ?_, ?_, ?_⟩
  all_goals first | assumption | omega
 ·refine ZZ ?_
  refine WA ?_
  refine aret_a [some 0] _ rfl (KK (t := 93) rfl) rfl (Cells.box rfl) (by simp) (by (try simp only [nm, putL, Nat.reduceAdd, cellsOf, cvOf]) <;> rfl) (by decide) (ZNK rfl) (fun _ => C0 rfl) ZCH ⟨⟨_, _, _⟩, _, rfl, rfl, ?_, ?_, ?_, ?_, ?_⟩
  all_goals first | assumption | omega
def fIn (n : Int) (f : Fac3) : Prop := (0 ≤ f.a ∧ f.a < n) ∧ (0 ≤ f.b ∧ f.b < n) ∧ (0 ≤ f.c ∧ f.c < n)
theorem tetF_in : ∀ f ∈ tetF, fIn 4 f := by simp [tetF, fIn]
abbrev quads : List (List CV) := [[I 0, I 2, I 3, I 1], [I 4, I 5, I 7, I 6], [I 0, I 1, I 5, I 4], [I 2, I 6, I 7, I 3], [I 0, I 4, I 6, I 2], [I 1, I 3, I 7, I 5]]
theorem quads_at {j : Nat} (h : j < 6) : ∃ a b c d : Int, quads[j]? = some [I a, I b, I c, I d] ∧ ((0 ≤ a ∧ a < 8) ∧ (0 ≤ b ∧ b < 8) ∧ (0 ≤ c ∧ c < 8) ∧ (0 ≤ d ∧ d < 8)) := by
 rcases j with _ | _ | _ | _ | _ | _ | j
 ·exact ⟨0, 2, 3, 1, rfl, by omega⟩
 ·exact ⟨4, 5, 7, 6, rfl, by omega⟩
 ·exact ⟨0, 1, 5, 4, rfl, by omega⟩
 ·exact ⟨2, 6, 7, 3, rfl, by omega⟩
 ·exact ⟨0, 4, 6, 2, rfl, by omega⟩
 ·exact ⟨1, 3, 7, 5, rfl, by omega⟩
 ·omega
set_option maxHeartbeats 4000000 in
theorem block_v (p : Vec3) (x y z : Int) (hp : (-2000000000000 ≤ p.x ∧ p.x ≤ 2000000000000) ∧ (-2000000000000 ≤ p.y ∧ p.y ≤ 2000000000000) ∧ (-2000000000000 ≤ p.z ∧ p.z ≤ 2000000000000)) (hx : 0 ≤ x ∧ x ≤ 1000) (hy : 0 ≤ y ∧ y ≤ 1000) (hz : 0 ≤ z ∧ z ≤ 1000) :
    ACalls Tryz.prog 48 [.a (p.row.map .c), .c (I x), .c (I y), .c (I z)] [] fun u H => ∃ (V : List Vec3) (Fs : List Fac3) (c d : Nat), V.length = 8 ∧ Fs.length = 12 ∧ 12 ≤ d ∧ (∀ f ∈ Fs, fIn 8 f) ∧ u = .a [.o 0 0 V.length c, .o 1 0 Fs.length d] ∧ H = [.arr 93 3 c (vR V), .arr 97 3 d (fR Fs)] := by
 obtain ⟨px, py, pz⟩ := p
 simp only at hp
 refine acalls_of (N := 78) Tryz.func48 rfl rfl (by simp) fun E hE => ?_
 refine WA ?_
 refine WA ?_
 refine WA ?_
 refine aw_loopw (fun m F H => ∃ (k c : Nat) (L : List Vec3), m + k = 8 ∧ L.length = k ∧ F = [(1, .c (I x)), (2, .c (I y)), (3, .c (I z)), (4, .p 0 0 0), (8, .p 1 0 0), (9, .p 2 0 0), (13, .c (I k))] ∧ H = [.box [.c (I px), .c (I py), .c (I pz)], .box [.c (.r (.slice none 0 0) []), .c (.r (.slice none 0 0) [])], .box [.o 3 0 L.length c, .c (.r (.slice none 0 0) [])], .arr 93 3 c (vR L)]) ?_ ?_
 ·refine wk_of [some 0, some 1, some 2, none] (fun _ => [(1, .c (I x)), (2, .c (I y)), (3, .c (I z)), (4, .p 0 0 0), (8, .p 1 0 0), (9, .p 2 0 0), (13, .c (I (0 : Nat)))]) (fun _ => [.box [.c (I px), .c (I py), .c (I pz)], .box [.c (.r (.slice none 0 0) []), .c (.r (.slice none 0 0) [])], .box [.o 3 0 0 0, .c (.r (.slice none 0 0) [])], .arr 93 3 0 []]) (by decide) (ZNL hE) ZCF ZCH (fun _ => ?_)
  exact ⟨8, 0, 0, [], rfl, rfl, rfl, rfl⟩
 rintro m F H ⟨k, c, L, hk, hL, rfl, rfl⟩
 refine WA ?_
 refine aw_if rfl (fun hlt => ?_) (fun hge => ?_)
 ·have q1 : 0 ≤ x * ((k : Int) % 2) ∧ x * ((k : Int) % 2) ≤ 1000 * 2 := ⟨Int.mul_nonneg hx.1 (by omega), Int.mul_le_mul hx.2 (by omega) (by omega) (by omega)⟩
  have q2 : 0 ≤ y * ((k : Int) / 2 % 2) ∧ y * ((k : Int) / 2 % 2) ≤ 1000 * 2 := ⟨Int.mul_nonneg hy.1 (by omega), Int.mul_le_mul hy.2 (by omega) (by omega) (by omega)⟩
  have q3 : 0 ≤ z * ((k : Int) / 4) ∧ z * ((k : Int) / 4) ≤ 1000 * 2 := ⟨Int.mul_nonneg hz.1 (by omega), Int.mul_le_mul hz.2 (by omega) (by omega) (by omega)⟩
  have hLl : (vR L).length = k := by simp [hL]
  refine WA ?_
  refine WR ?_
  refine al_ef rfl (Zapp (KA (t := 26) rfl)) ?_
  rintro _ _ ⟨_, cc, hcc, rfl, rfl⟩
  refine WE ?_
  refine WA ?_
  refine wk_of [some 0, some 1, some 2, some 3] (fun _ => [(1, .c (I x)), (2, .c (I y)), (3, .c (I z)), (4, .p 0 0 0), (8, .p 1 0 0), (9, .p 2 0 0), (13, .c (I (k + 1 : Nat)))]) (fun _ => [.box [.c (I px), .c (I py), .c (I pz)], .box [.c (.r (.slice none 0 0) []), .c (.r (.slice none 0 0) [])], .box [.o 3 0 (L ++ [(⟨px + x * ((k : Int) % 2), py + y * ((k : Int) / 2 % 2), pz + z * ((k : Int) / 4)⟩ : Vec3)]).length cc, .c (.r (.slice none 0 0) [])], .arr 93 3 cc (vR (L ++ [(⟨px + x * ((k : Int) % 2), py + y * ((k : Int) / 2 % 2), pz + z * ((k : Int) / 4)⟩ : Vec3)]))]) (by decide) (ZNL hE) ZCF ZCH (fun _ => ?_)
  exact ⟨m - 1, by omega, k + 1, cc, _, by omega, by simp; omega, rfl, rfl⟩
 obtain rfl : k = 8 := by omega
 refine ZR ?_
 refine ZA (rd_builda (pl := [(0, 1), (1, 1), (2, 1), (3, 1)]) rfl (KZ (t := 156) rfl) rfl (by kernel_rfl) (Zbc (z := Zbc (z := Zbc (z := Zbc (z := .nil)))))) ?_
 refine ZA (rd_builda (pl := [(0, 1), (1, 1), (2, 1), (3, 1)]) rfl (KZ (t := 156) rfl) rfl (by kernel_rfl) (Zbc (z := Zbc (z := Zbc (z := Zbc (z := .nil)))))) ?_
 refine ZA (rd_builda (pl := [(0, 1), (1, 1), (2, 1), (3, 1)]) rfl (KZ (t := 156) rfl) rfl (by kernel_rfl) (Zbc (z := Zbc (z := Zbc (z := Zbc (z := .nil)))))) ?_
 refine ZA (rd_builda (pl := [(0, 1), (1, 1), (2, 1), (3, 1)]) rfl (KZ (t := 156) rfl) rfl (by kernel_rfl) (Zbc (z := Zbc (z := Zbc (z := Zbc (z := .nil)))))) ?_
 refine ZA (rd_builda (pl := [(0, 1), (1, 1), (2, 1), (3, 1)]) rfl (KZ (t := 156) rfl) rfl (by kernel_rfl) (Zbc (z := Zbc (z := Zbc (z := Zbc (z := .nil)))))) ?_
 refine ZA (rd_builda (pl := [(0, 1), (1, 1), (2, 1), (3, 1)]) rfl (KZ (t := 156) rfl) rfl (by kernel_rfl) (Zbc (z := Zbc (z := Zbc (z := Zbc (z := .nil)))))) ?_
 refine WE ?_
 refine aw_loopw (fun m F H => ∃ (j d : Nat) (Fs : List Fac3), m + j = 6 ∧ Fs.length = 2 * j ∧ Fs.length ≤ d ∧ (∀ f ∈ Fs, fIn 8 f) ∧ F = [(8, .p 0 0 0), (9, .p 1 0 0), (51, .o 4 0 6 6), (52, .c (I (6 : Nat))), (53, .c (I j))] ∧ H = [.box [.c (.r (.slice none 0 0) []), .c (.r (.slice none 0 0) [])], .box [.o 2 0 L.length c, .o 3 0 Fs.length d], .arr 93 3 c (vR L), .arr 97 3 d (fR Fs), .arr 156 4 6 quads]) ?_ ?_
 ·refine wk_of [some 1, some 2, some 3, none, some 4] (fun _ => [(8, .p 0 0 0), (9, .p 1 0 0), (51, .o 4 0 6 6), (52, .c (I (6 : Nat))), (53, .c (I (0 : Nat)))]) (fun _ => [.box [.c (.r (.slice none 0 0) []), .c (.r (.slice none 0 0) [])], .box [.o 2 0 L.length c, .o 3 0 0 0], .arr 93 3 c (vR L), .arr 97 3 0 [], .arr 156 4 6 quads]) (by decide) (ZNL hE) ZCF ZCH (fun _ => ?_)
  exact ⟨6, 0, 0, [], rfl, rfl, by simp, by simp, rfl, rfl⟩
 rintro m F H ⟨j, d, Fs, hj, hFl, hFd, hFi, rfl, rfl⟩
 refine WA ?_
 refine aw_if rfl (fun hlt2 => ?_) (fun hge2 => ?_)
 ·obtain ⟨qa, qb, qc, qd, hrow, h4⟩ := quads_at (j := j) (by omega)
  have hrow0 : quads[0 + j]? = some [I qa, I qb, I qc, I qd] := by rw [Nat.zero_add]; exact hrow
  refine WA ?_
  refine ZR ?_
  iterate 2 refine WX1 ?_
  refine ZA (rd_ixa (e := 3) (sz := 1) (n := 4) (i := 0) rfl (by kernel_rfl) rfl rfl rfl (by omega)) ?_
  refine WX1 ?_
  refine ZA (rd_ixa (e := 3) (sz := 1) (n := 4) (i := 1) rfl (by kernel_rfl) rfl rfl rfl (by omega)) ?_
  refine WX1 ?_
  refine ZA (rd_ixa (e := 3) (sz := 1) (n := 4) (i := 2) rfl (by kernel_rfl) rfl rfl rfl (by omega)) ?_
  iterate 2 refine WX1 ?_
  refine ZA (rd_ixa (e := 3) (sz := 1) (n := 4) (i := 0) rfl (by kernel_rfl) rfl rfl rfl (by omega)) ?_
  refine WX1 ?_
  refine ZA (rd_ixa (e := 3) (sz := 1) (n := 4) (i := 2) rfl (by kernel_rfl) rfl rfl rfl (by omega)) ?_
  refine WX1 ?_
  refine ZA (rd_ixa (e := 3) (sz := 1) (n := 4) (i := 3) rfl (by kernel_rfl) rfl rfl rfl (by omega)) ?_
  refine WO ?_
  refine al_ef rfl (Zapp (KA (t := 27) rfl)) ?_
  rintro _ _ ⟨_, cc, hcc, rfl, rfl⟩
  refine WE ?_
  refine WA ?_
  refine wk_of [some 0, some 1, some 2, some 3, some 4] (fun _ => [(8, .p 0 0 0), (9, .p 1 0 0), (51, .o 4 0 6 6), (52, .c (I (6 : Nat))), (53, .c (I (j + 1 : Nat)))]) (fun _ => [.box [.c (.r (.slice none 0 0) []), .c (.r (.slice none 0 0) [])], .box [.o 2 0 L.length c, .o 3 0 (Fs ++ [(⟨qa, qb, qc⟩ : Fac3), ⟨qa, qc, qd⟩]).length cc], .arr 93 3 c (vR L), .arr 97 3 cc (fR (Fs ++ [⟨qa, qb, qc⟩, ⟨qa, qc, qd⟩])), .arr 156 4 6 quads]) (by decide) (ZNL hE) ZCF ZCH (fun _ => ?_)
  exact ⟨m - 1, by omega, j + 1, cc, _, by omega, by simp; omega, by simp; omega, fun f hf => by
   simp only [List.mem_append, List.mem_cons, List.not_mem_nil, or_false] at hf
   rcases hf with hf | rfl | rfl
   ·exact hFi f hf
   ·simp only [fIn]; omega
   ·simp only [fIn]; omega, rfl, rfl⟩
 obtain rfl : j = 6 := by omega
 refine WA ?_
 exact aret_a [some 2, some 3] [.arr 93 3 c (vR L), .arr 97 3 d (fR Fs)] rfl (KK (t := 29) rfl) rfl (Cells.box rfl) (by simp) (by (try simp only [nm, putL, Nat.reduceAdd, cellsOf, cvOf]) <;> rfl) (by decide) (ZNK rfl) (fun _ => .cons (.o rfl rfl) (.cons (.o rfl rfl) .nil)) ZCH ⟨L, Fs, c, d, hL, hFl, by omega, hFi, rfl, rfl⟩
end Go.Proofs.YtlblimbelfenaaaGreat

/- A mesh is spoilt at one place, by value. -/
-- NEWM
namespace Go.Proofs.YtlblimbelfenaaaGreat
open Go Go.RowKit
set_option maxRecDepth 100000
set_option maxHeartbeats 4000000 in
theorem spoil_v (v : Value) (zs : List Int) (a : Int) (hs : StrOk zs) (h0 : 0 ≤ a) (h1 : a ≤ 800000000) (V : List Vec3) (Fs : List Fac3) (cv cf : Nat) (hV : V.length ≤ 100) (hF0 : 1 ≤ Fs.length) (hF1 : Fs.length ≤ 100) (hin : ∀ f ∈ Fs, fIn V.length f) :
    ACalls Tryz.prog 51 [.p 0 0 0, .p 1 0 0] [strm v zs a, .box [.o 2 0 V.length cv, .o 3 0 Fs.length cf], .arr 93 3 cv (vR V), .arr 97 3 cf (fR Fs)] fun u H => ∃ (a' : Int) (V' : List Vec3) (Fs' : List Fac3) (cf' : Nat), u = .t [] ∧ H = [strm v zs a', .box [.o 2 0 V'.length cv, .o 3 0 Fs'.length cf'], .arr 93 3 cv (vR V'), .arr 97 3 cf' (fR Fs')] ∧ a ≤ a' ∧ a' ≤ a + 10 ∧ V'.length = V.length ∧ Fs'.length ≤ Fs.length + 1 := by
 have eV : (vR V).length = V.length := by simp
 have eF : (fR Fs).length = Fs.length := by simp
 refine acallsx_of false (N := 105) Tryz.func51 rfl rfl (by simp) fun E hE hP => ?_
 refine ZZ ?_
 refine aw_regionT [(0, none), (1, none), (2, none), (3, none), (4, none), (5, none), (6, none), (7, none), (8, none), (9, none), (10, some [0, 1, 2, 3]), (11, none), (12, none)] hMixed (by kernel_rfl) ?_
 refine WP ?_
 refine at_ef rfl rfl (ef_callm false (fun _ => next_a (↑Fs.length) _ _ _ hs (by omega) (by omega) (by simp only [in64]; omega)) rfl .fn rfl (by decide) (by kernel_rfl) rfl rfl (fun _g => .cons (.p rfl) (.cons (.c rfl) .nil)) (fun _g => .cons (.c rfl) (.cons (.c rfl) .nil)) (by simp)) ?_
 rintro F1 H1 ⟨_, _, _, _, ⟨rr, rfl, hq, hr1, hr2⟩, hF, hH⟩
 injection hq with hq1 hq2; subst hq1; subst hq2
 (refine NST hF hH ?_; clear hF hH; rintro rfl rfl)
 obtain ⟨i, rfl⟩ : ∃ i : Nat, rr = i := ⟨rr.toNat, by omega⟩
 have hi := hr2 (by omega)
 clear hr1 hr2
 refine ⟨ag_cons (by first | exact ag_rd rfl rfl rfl (rd_move rfl rfl) rfl) (ag_cons (by first | exact ag_rd rfl rfl rfl (rd_nil rfl rfl) rfl | exact ag_rd rfl rfl rfl (rd_nilq rfl rfl) rfl) (ag_cons (by first | exact ag_rd rfl rfl rfl (ZX (KF (t := 29) (f := 1) rfl rfl)) rfl) (ag_cons (by first | exact ag_rd rfl rfl rfl (ZL (KK (t := 27) rfl)) rfl) (ag_none)))), ?_⟩
 refine WQ ?_
 refine WR ?_
 refine al_ef rfl (ef_callm false (fun _ => next_a 5 _ _ _ hs (by omega) (by omega) (by simp only [in64]; omega)) rfl .fn rfl (by decide) (by kernel_rfl) rfl rfl (fun _g => .cons (.p rfl) (.cons (.c rfl) .nil)) (fun _g => .cons (.c rfl) (.cons (.c rfl) .nil)) (by simp)) ?_
 rintro F1 H1 ⟨_, _, _, _, ⟨rr, rfl, hq, hr1, hr2⟩, hF, hH⟩
 injection hq with hq1 hq2; subst hq1; subst hq2
 (refine NST hF hH ?_; clear hF hH; rintro rfl rfl)
 refine WE ?_
 obtain ⟨kk, hkk⟩ : ∃ q, q = rr := ⟨_, rfl⟩
 rw [← hkk]
 refine WA ?_
 obtain ⟨⟨fa, fb, fc⟩, hz⟩ : ∃ z, Fs[i]? = some z := ⟨_, List.getElem?_eq_getElem (by omega)⟩
 have hrow : (fR Fs)[i]? = some [I fa, I fb, I fc] := by rw [List.getElem?_map, hz]; rfl
 have hrow0 : (fR Fs)[0 + i]? = some [I fa, I fb, I fc] := by rw [Nat.zero_add]; exact hrow
 have hfi := hin _ (List.mem_of_getElem? hz)
 simp only [fIn] at hfi
 obtain ⟨h2a, h2b, h2c⟩ := hfi
 refine aw_if rfl (fun e0 => ?_) (fun e0 => ?_)
 ·refine ZZ ?_
  refine aw_regionT [(0, none), (1, none), (2, none), (3, none), (4, none), (5, none), (6, none), (7, none), (8, none), (9, none), (10, none), (11, some [0, 1]), (12, some [0]), (13, none), (14, none), (15, some [])] hMixed (by kernel_rfl) ?_
  refine WP ?_
  refine at_ef rfl rfl (ef_callm true (fun _ => pick_a [-1, ↑V.length, fb] _ _ _ _ hs (by omega) (by omega) (by simp) (by simp)) rfl .fn rfl (by decide) (by kernel_rfl) rfl rfl (fun _g => .cons (.p rfl) (.cons (.frz rfl rfl rfl rfl rfl) .nil)) (fun _g => .cons (.c rfl) (.cons (.c rfl) .nil)) (fun _ _ _ _ ⟨_, hu, hH, _⟩ => by rw [hu, hH]; exact ⟨.c (.inl trivial), strm_flat (.inr ⟨0, _, rfl, by simp⟩)⟩)) ?_
  rintro F1 H1 ⟨_, _, _, _, ⟨rr, rfl, hq, hrm⟩, hF, hH⟩
  injection hq with hq1 hq2; subst hq1; subst hq2
  (refine NST hF hH ?_; clear hF hH; rintro rfl rfl)
  clear hrm
  refine ⟨ag_cons (by first | exact ag_rd rfl rfl rfl (rd_move rfl rfl) rfl) (ag_none), ?_⟩
  refine WQ ?_
  all_goals exact aret_0 [some 0, some 1, some 2, some 3] (fun _ => [strm v zs _, .box [.o 2 0 (V).length cv, .o 3 0 (Fs.set i ⟨rr, fb, fc⟩).length cf], .arr 93 3 cv (vR (V)), .arr 97 3 cf (fR (Fs.set i ⟨rr, fb, fc⟩))]) (.inr rfl) rfl (by decide) (ZNK rfl) ZCH (fun _ => ⟨_, V, Fs.set i ⟨rr, fb, fc⟩, cf, rfl, rfl, by omega, by omega, by simp, by simp⟩)
 refine WA ?_
 refine aw_if rfl (fun e1 => ?_) (fun e1 => ?_)
 ·have hrow2 : ((fR Fs).set i [I fa, I fc, I fc])[i]? = some [I fa, I fc, I fc] := by rw [List.getElem?_set_self (by omega)]
  refine ZZ ?_
  refine aw_regionT [(0, none), (1, none), (2, none), (3, none), (4, none), (5, none), (6, none), (7, none), (8, none), (9, none), (10, none), (11, none), (12, some [1]), (13, none), (14, none), (15, some [])] hMixed (by kernel_rfl) ?_
  refine WQ ?_
  all_goals exact aret_0 [some 0, some 1, some 2, some 3] (fun _ => [strm v zs _, .box [.o 2 0 (V).length cv, .o 3 0 (Fs.set i ⟨fa, fc, fb⟩).length cf], .arr 93 3 cv (vR (V)), .arr 97 3 cf (fR (Fs.set i ⟨fa, fc, fb⟩))]) (.inr rfl) rfl (by decide) (ZNK rfl) ZCH (fun _ => ⟨_, V, Fs.set i ⟨fa, fc, fb⟩, cf, rfl, rfl, by omega, by omega, by simp, by simp⟩)
 refine WA ?_
 refine aw_if rfl (fun e2 => ?_) (fun e2 => ?_)
 ·refine ZZ ?_
  refine aw_regionT [(0, none), (1, none), (2, none), (3, none), (4, none), (5, none), (6, none), (7, none), (8, none), (9, none), (11, none), (10, some [0, 1, 2, 3, 11]), (12, some [0, 1, 2, 3]), (13, none), (14, none), (15, some [])] hMixed (by kernel_rfl) ?_
  refine WP ?_
  refine at_ef rfl rfl (ef_callm false (fun _ => next_a (↑V.length) _ _ _ hs (by omega) (by omega) (by simp only [in64]; omega)) rfl .fn rfl (by decide) (by kernel_rfl) rfl rfl (fun _g => .cons (.p rfl) (.cons (.c rfl) .nil)) (fun _g => .cons (.c rfl) (.cons (.c rfl) .nil)) (by simp)) ?_
  rintro F1 H1 ⟨_, _, _, _, ⟨rr, rfl, hq, hr1, hr2⟩, hF, hH⟩
  injection hq with hq1 hq2; subst hq1; subst hq2
  (refine NST hF hH ?_; clear hF hH; rintro rfl rfl)
  obtain ⟨j, rfl⟩ : ∃ i : Nat, rr = i := ⟨rr.toNat, by omega⟩
  have hj := hr2 (by omega)
  clear hr1 hr2
  obtain ⟨⟨vx1, vy1, vz1⟩, hzv⟩ : ∃ z, V[j]? = some z := ⟨_, List.getElem?_eq_getElem (by omega)⟩
  have hrv : (vR V)[j]? = some [I vx1, I vy1, I vz1] := by rw [List.getElem?_map, hzv]; rfl
  refine ⟨ag_cons (by first | exact ag_rd rfl rfl rfl (rd_move rfl rfl) rfl) (ag_cons (by first | exact ag_rd rfl rfl rfl (rd_nil rfl rfl) rfl | exact ag_rd rfl rfl rfl (rd_nilq rfl rfl) rfl) (ag_cons (by first | exact ag_rd rfl rfl rfl (ZX (KF (t := 29) (f := 0) rfl rfl)) rfl) (ag_cons (by first | exact ag_rd rfl rfl rfl (ZL (KK (t := 26) rfl)) rfl) (ag_cons (by first | exact ag_rd rfl rfl rfl (rd_move rfl rfl) rfl) (ag_none))))), ?_⟩
  refine at_ef rfl rfl (ef_callm false (fun _ => oddb_v (-100000) 100000 _ _ _ hs (by omega) (by omega) (by omega) (by omega) (by omega) (by omega) (by omega)) rfl .fn rfl (by decide) (by kernel_rfl) rfl rfl (fun _g => .cons (.p rfl) (.cons (.c rfl) (.cons (.c rfl) .nil))) (fun _g => .cons (.c rfl) (.cons (.c rfl) .nil)) (by simp)) ?_
  rintro F1 H1 ⟨_, _, _, _, ⟨rr, ar, rfl, hq, hr3, hr4, h64r⟩, hF, hH⟩
  injection hq with hq1 hq2; subst hq1; subst hq2
  (refine NST hF hH ?_; clear hF hH; rintro rfl rfl)
  refine ⟨ag_cons (by first | exact ag_rd rfl rfl rfl (rd_move rfl rfl) rfl) (ag_cons (by first | exact ag_rd rfl rfl rfl (rd_nil rfl rfl) rfl | exact ag_rd rfl rfl rfl (rd_nilq rfl rfl) rfl) (ag_cons (by first | exact ag_rd rfl rfl rfl (ZX (KF (t := 29) (f := 0) rfl rfl)) rfl) (ag_cons (by first | exact ag_rd rfl rfl rfl (ZL (KK (t := 26) rfl)) rfl) (ag_none)))), ?_⟩
  refine WQ ?_
  all_goals exact aret_0 [some 0, some 1, some 2, some 3] (fun _ => [strm v zs _, .box [.o 2 0 (V.set j ⟨vx1, vy1, rr⟩).length cv, .o 3 0 (Fs).length cf], .arr 93 3 cv (vR (V.set j ⟨vx1, vy1, rr⟩)), .arr 97 3 cf (fR (Fs))]) (.inr rfl) rfl (by decide) (ZNK rfl) ZCH (fun _ => ⟨_, V.set j ⟨vx1, vy1, rr⟩, Fs, cf, rfl, rfl, by omega, by omega, by simp, by simp⟩)
 refine WA ?_
 refine aw_if rfl (fun e3 => ?_) (fun e3 => ?_)
 ·obtain ⟨⟨ga, gb, gc⟩, hg⟩ : ∃ z, Fs[0]? = some z := ⟨_, List.getElem?_eq_getElem (by omega)⟩
  have hrowg : (fR Fs)[0]? = some [I ga, I gb, I gc] := by rw [List.getElem?_map, hg]; rfl
  refine ZZ ?_
  refine aw_regionT [(0, none), (1, none), (2, none), (3, none), (4, none), (5, none), (6, none), (7, none), (8, none), (9, none), (10, none), (11, some [0, 1, 2, 3, 4]), (12, some [0]), (13, none), (14, none), (15, some [])] hMixed (by kernel_rfl) ?_
  iterate 9 refine WX2 ?_
  refine ZT rfl (rd_index (i := 0) rfl (KE (t := 27) rfl) rfl rfl rfl (by omega) (by omega)) ?_
  refine WP ?_
  refine at_ef rfl rfl (Zapp (KA (t := 27) rfl)) ?_
  rintro _ _ ⟨_, cc, hcc, rfl, rfl⟩
  refine ⟨ag_cons (by first | exact ag_rd rfl rfl rfl (rd_move rfl rfl) rfl) (ag_none), ?_⟩
  refine WQ ?_
  all_goals exact aret_0 [some 0, some 1, some 2, some 3] (fun _ => [strm v zs _, .box [.o 2 0 (V).length cv, .o 3 0 (Fs ++ [(⟨ga, gb, gc⟩ : Fac3)]).length cc], .arr 93 3 cv (vR (V)), .arr 97 3 cc (fR (Fs ++ [(⟨ga, gb, gc⟩ : Fac3)]))]) (.inr rfl) rfl (by decide) (ZNK rfl) ZCH (fun _ => ⟨_, V, Fs ++ [(⟨ga, gb, gc⟩ : Fac3)], cc, rfl, rfl, by omega, by omega, by simp, by simp⟩)
 obtain ⟨ja, hja⟩ : ∃ i : Nat, fa = i := ⟨fa.toNat, by omega⟩
 obtain ⟨jb, hjb⟩ : ∃ i : Nat, fb = i := ⟨fb.toNat, by omega⟩
 subst hja; subst hjb
 obtain ⟨⟨vx1, vy1, vz1⟩, hzv⟩ : ∃ z, V[ja]? = some z := ⟨_, List.getElem?_eq_getElem (by omega)⟩
 have hrv : (vR V)[ja]? = some [I vx1, I vy1, I vz1] := by rw [List.getElem?_map, hzv]; rfl
 obtain ⟨⟨vx2, vy2, vz2⟩, hzw⟩ : ∃ z, V[jb]? = some z := ⟨_, List.getElem?_eq_getElem (by omega)⟩
 have hrw : (vR V)[jb]? = some [I vx2, I vy2, I vz2] := by rw [List.getElem?_map, hzw]; rfl
 refine ZZ ?_
 refine aw_regionT [(0, none), (1, none), (2, none), (3, none), (4, none), (5, none), (6, none), (7, none), (8, none), (9, none), (10, none), (11, none), (12, none), (13, none), (14, none), (15, none), (16, none), (17, none), (18, none), (19, some [])] hMixed (by kernel_rfl) ?_
 refine WQ ?_
 all_goals exact aret_0 [some 0, some 1, some 2, some 3] (fun _ => [strm v zs _, .box [.o 2 0 (V.set ja ⟨vx2, vy2, vz2⟩).length cv, .o 3 0 (Fs).length cf], .arr 93 3 cv (vR (V.set ja ⟨vx2, vy2, vz2⟩)), .arr 97 3 cf (fR (Fs))]) (.inr rfl) rfl (by decide) (ZNK rfl) ZCH (fun _ => ⟨_, V.set ja ⟨vx2, vy2, vz2⟩, Fs, cf, rfl, rfl, by omega, by omega, by simp, by simp⟩)
end Go.Proofs.YtlblimbelfenaaaGreat
