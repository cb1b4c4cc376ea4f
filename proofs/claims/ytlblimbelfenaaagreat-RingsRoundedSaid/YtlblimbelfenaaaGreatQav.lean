/- Fractions in lowest terms, and where sides are cut, by value. -/
import Derived.Test.YtlblimbelfenaaaGreatQau
set_option linter.unusedSimpArgs false
set_option linter.unusedVariables false
/- Fractions in lowest terms, and where sides are cut, by value. -/
-- NEWM
namespace Go.Proofs.YtlblimbelfenaaaGreat
open Go Go.RowKit
set_option maxRecDepth 100000
theorem gcd_pos' {n d : Int} (h : 1 ≤ d) : 1 ≤ ((Int.gcd n d : Nat) : Int) := by
 have : 0 < Int.gcd n d := Int.gcd_pos_of_ne_zero_right _ (by omega)
 omega
theorem tdiv_small {n g : Int} (hg : 1 ≤ g) (h : -1000000000000000 ≤ n ∧ n ≤ 1000000000000000) : -1000000000000000 ≤ n.tdiv g ∧ n.tdiv g ≤ 1000000000000000 := by
 have h1 : (n.tdiv g).natAbs ≤ n.natAbs := Int.natAbs_tdiv_le_natAbs n g
 omega
theorem klow_v (num den : Int) (h1 : 0 ≤ num ∧ num ≤ 1000000000000000) (h2 : 1 ≤ den ∧ den ≤ 1000000000000000) : ACalls Tryz.prog 176 [.c (I num), .c (I den)] [] fun u H => u = .a [.c (I (lowF num den).n), .c (I (lowF num den).d)] ∧ H = [] := by
 refine acalls_of (N := 22) Tryz.func176 rfl rfl (by simp) fun E hE => ?_
 refine WA ?_
 refine WA ?_
 refine aw_loopw (fun m F H => ∃ (A C : Nat), m = C ∧ A ≤ 1000000000000000 ∧ C ≤ 1000000000000000 ∧ Nat.gcd A C = Int.gcd num den ∧ F = [(0, .c (I num)), (1, .c (I den)), (4, .p 0 0 0), (5, .c (I A)), (6, .c (I C))] ∧ H = [.box [.c (I 0), .c (I 0)]]) ?_ ?_
 ·obtain ⟨N, rfl⟩ : ∃ n : Nat, num = n := ⟨num.toNat, by omega⟩
  obtain ⟨D, rfl⟩ : ∃ n : Nat, den = n := ⟨den.toNat, by omega⟩
  refine wk_of [some 0] (fun _ => [(0, .c (I N)), (1, .c (I D)), (4, .p 0 0 0), (5, .c (I N)), (6, .c (I D))]) (fun _ => _) (by decide) (ZNL hE) ZCF ZCH (fun _ => ?_)
  exact ⟨D, N, D, rfl, by omega, by omega, rfl, rfl, rfl⟩
 rintro m F H ⟨A, C, rfl, hA, hC, hg, rfl, rfl⟩
 refine WA ?_
 refine aw_if rfl (fun hne => ?_) (fun hz => ?_)
 ·have hm := Nat.mod_lt A (show 0 < m by omega)
  refine ZZ ?_
  refine aw_regionT [(0, none), (1, none), (2, none), (3, none), (4, none), (5, none)] hMixed (by kernel_rfl) ?_
  refine WQ ?_
  refine wk_of [some 0] (fun _ => [(0, .c (I num)), (1, .c (I den)), (4, .p 0 0 0), (5, .c (I m)), (6, .c (I ((A % m : Nat) : Int)))]) (fun _ => _) (by decide) (ZNL hE) ZCF ZCH (fun _ => ?_)
  exact ⟨A % m, by omega, m, A % m, rfl, by omega, by omega, by rw [← hg, Nat.gcd_comm A m, Nat.gcd_rec m A, Nat.gcd_comm], rfl, rfl⟩
 obtain rfl : m = 0 := by omega
 rw [Nat.gcd_zero_right] at hg
 have hp := gcd_pos' (n := num) h2.1
 rw [← hg] at hp
 refine ZZ ?_
 refine aw_regionT [(0, none), (1, none), (2, none), (3, none), (4, none), (5, none), (6, none), (7, some [])] hMixed (by kernel_rfl) ?_
 refine WQ ?_
 exact aret_a [] _ rfl (KK (t := 72) rfl) rfl (Cells.box rfl) (by simp) (by (try simp only [nm, putL, Nat.reduceAdd, cellsOf, cvOf]) <;> rfl) (by decide) (ZNK rfl) (fun _ => C0 rfl) (fun _ => .nil) ⟨by rw [lowF, ← hg, Int.tdiv_eq_ediv_of_nonneg (by omega), Int.tdiv_eq_ediv_of_nonneg (by omega)], rfl⟩
theorem lowF_neg (n d : Int) : lowF (-n) d = ⟨-(lowF n d).n, (lowF n d).d⟩ := by
 unfold lowF
 rw [Int.neg_gcd, Int.neg_tdiv]
theorem low_v (num den : Int) (h1 : -1000000000000000 ≤ num ∧ num ≤ 1000000000000000) (h2 : 1 ≤ den ∧ den ≤ 1000000000000000) : ACalls Tryz.prog 130 [.c (I num), .c (I den)] [] fun u H => u = .a [.c (I (lowF num den).n), .c (I (lowF num den).d)] ∧ H = [] := by
 have hp := gcd_pos' (n := -num) h2.1
 have hb := tdiv_small (n := -num) hp (by omega)
 refine acalls_of (N := 21) Tryz.func130 rfl rfl (by simp) fun E hE => ?_
 refine WA ?_
 refine WA ?_
 refine aw_if rfl (fun hne => ?_) (fun hz => ?_)
 ·have he : lowF num den = ⟨-(lowF (-num) den).n, (lowF (-num) den).d⟩ := by rw [lowF_neg, Int.neg_neg]
  have hx : (lowF (-num) den).n = (-num).tdiv (Int.gcd (-num) den) := rfl
  rw [← hx] at hb
  rw [he]
  refine WR ?_
  refine al_ef rfl (ef_call0 false (fun _ => klow_v (-num) den (by omega) (by omega)) rfl .fn rfl (by decide) (by kernel_rfl) rfl (fun _ => C0 rfl) (by simp)) ?_
  rintro _ _ ⟨_, _, _, ⟨rfl, rfl⟩, hF, hH⟩
  (refine NST hF hH ?_; clear hF hH; rintro rfl rfl)
  refine WE ?_
  generalize lowF (-num) den = q at hb ⊢
  obtain ⟨qn, qd⟩ := q
  simp only at hb
  have hw : wrap64 (-qn) = -qn := Zwr (by omega)
  refine WA ?_
  rw [hw]
  exact aret_a [] _ rfl (KK (t := 72) rfl) rfl (Cells.box rfl) (by simp) (by (try simp only [nm, putL, Nat.reduceAdd, cellsOf, cvOf]) <;> rfl) (by decide) (ZNK rfl) (fun _ => C0 rfl) (fun _ => .nil) ⟨rfl, rfl⟩
 ·refine WR ?_
  refine al_ef rfl (ef_call0 false (fun _ => klow_v num den (by omega) (by omega)) rfl .fn rfl (by decide) (by kernel_rfl) rfl (fun _ => C0 rfl) (by simp)) ?_
  rintro _ _ ⟨_, _, _, ⟨rfl, rfl⟩, hF, hH⟩
  (refine NST hF hH ?_; clear hF hH; rintro rfl rfl)
  refine WE ?_
  exact aret_a [] _ rfl (KK (t := 72) rfl) rfl (Cells.box rfl) (by simp) (by (try simp only [nm, putL, Nat.reduceAdd, cellsOf, cvOf]) <;> rfl) (by decide) (ZNK rfl) (fun _ => C0 rfl) (fun _ => .nil) ⟨rfl, rfl⟩
theorem rlow_v (num den : Int) (h1 : -1000000000000000 ≤ num ∧ num ≤ 1000000000000000) (h2 : 1 ≤ den ∧ den ≤ 1000000000000000) : ACalls Tryz.prog 134 [.c (I num), .c (I den)] [] fun u H => u = .a [.c (I (lowF num den).n), .c (I (lowF num den).d)] ∧ H = [] := by
 refine acalls_of (N := 25) Tryz.func134 rfl rfl (by simp) fun E hE => ?_
 refine WA ?_
 refine WA ?_
 refine aw_loopw (fun m F H => ∃ (A C : Nat), m = C ∧ A ≤ 1000000000000000 ∧ C ≤ 1000000000000000 ∧ Nat.gcd A C = Int.gcd num den ∧ F = [(0, .c (I num)), (1, .c (I den)), (4, .p 0 0 0), (5, .c (I A)), (6, .c (I C))] ∧ H = [.box [.c (I 0), .c (I 0)]]) ?_ ?_
 ·rw [show max num (-num) = ((num.natAbs : Nat) : Int) by omega]
  obtain ⟨D, rfl⟩ : ∃ n : Nat, den = n := ⟨den.toNat, by omega⟩
  refine wk_of [some 0] (fun _ => [(0, .c (I num)), (1, .c (I D)), (4, .p 0 0 0), (5, .c (I (num.natAbs : Nat))), (6, .c (I D))]) (fun _ => _) (by decide) (ZNL hE) ZCF ZCH (fun _ => ?_)
  exact ⟨D, num.natAbs, D, rfl, by omega, by omega, rfl, rfl, rfl⟩
 rintro m F H ⟨A, C, rfl, hA, hC, hg, rfl, rfl⟩
 refine WA ?_
 refine aw_if rfl (fun hne => ?_) (fun hz => ?_)
 ·have hm := Nat.mod_lt A (show 0 < m by omega)
  refine ZZ ?_
  refine aw_regionT [(0, none), (1, none), (2, none), (3, none), (4, none), (5, none)] hMixed (by kernel_rfl) ?_
  refine WQ ?_
  refine wk_of [some 0] (fun _ => [(0, .c (I num)), (1, .c (I den)), (4, .p 0 0 0), (5, .c (I m)), (6, .c (I ((A % m : Nat) : Int)))]) (fun _ => _) (by decide) (ZNL hE) ZCF ZCH (fun _ => ?_)
  exact ⟨A % m, by omega, m, A % m, rfl, by omega, by omega, by rw [← hg, Nat.gcd_comm A m, Nat.gcd_rec m A, Nat.gcd_comm], rfl, rfl⟩
 obtain rfl : m = 0 := by omega
 rw [Nat.gcd_zero_right] at hg
 have hp := gcd_pos' (n := num) h2.1
 have hb := tdiv_small (n := num) hp h1
 rw [← hg] at hp hb
 have hl : lowF num den = ⟨num.tdiv A, den / A⟩ := by rw [lowF, ← hg, Int.tdiv_eq_ediv_of_nonneg (show 0 ≤ den by omega)]
 rw [hl]
 by_cases h0 : 0 ≤ num
 ·rw [Int.tdiv_eq_ediv_of_nonneg h0]
  refine ZZ ?_
  refine aw_regionT [(0, none), (1, none), (2, none), (3, none), (4, none), (5, none), (6, none), (7, some [])] hMixed (by kernel_rfl) ?_
  refine WQ ?_
  exact aret_a [] _ rfl (KK (t := 72) rfl) rfl (Cells.box rfl) (by simp) (by (try simp only [nm, putL, Nat.reduceAdd, cellsOf, cvOf]) <;> rfl) (by decide) (ZNK rfl) (fun _ => C0 rfl) (fun _ => .nil) ⟨rfl, rfl⟩
 ·refine ZZ ?_
  refine ZZ ?_
  refine aw_regionT [(0, none), (1, none), (2, none), (3, none), (4, none), (5, none), (6, none), (7, some [])] hMixed (by kernel_rfl) ?_
  refine WQ ?_
  exact aret_a [] _ rfl (KK (t := 72) rfl) rfl (Cells.box rfl) (by simp) (by (try simp only [nm, putL, Nat.reduceAdd, cellsOf, cvOf]) <;> rfl) (by decide) (ZNK rfl) (fun _ => C0 rfl) (fun _ => .nil) ⟨by rw [show wrap64 (num.tdiv A) = num.tdiv A from Zwr (by omega)], rfl⟩
abbrev Cut6.row (c : Cut6) : List CV := [I c.s.f, I c.s.t, I c.x.n, I c.x.d, I c.y.n, I c.y.d]
set_option maxHeartbeats 4000000 in
theorem cut_p (v w : Value) (V : List Vec3) (Fs : List Fac3) (z : Int) (s : Sid2) (hM : MOk V Fs) (hs : Cuts' V z s) (hz : -100000 ≤ z ∧ z ≤ 100000) : ACalls Tryz.prog 75 [mshA v w V Fs, .a (s.row.map .c), .c (I z)] [] fun u H => u = .a ((cutV V z s).row.map .c) ∧ H = [] := by
 obtain ⟨⟨h1, h2⟩, ⟨h3, h4⟩, h5, h6⟩ := hs
 obtain ⟨sf, st⟩ := s
 simp only at h1 h2 h3 h4 h5 h6
 obtain ⟨ia, ha⟩ : ∃ i : Nat, sf = i := ⟨sf.toNat, by omega⟩
 obtain ⟨ib, hb⟩ : ∃ i : Nat, st = i := ⟨st.toNat, by omega⟩
 subst ha; subst hb
 have ra := vrow (V := V) (i := ia) (by omega)
 have rb := vrow (V := V) (i := ib) (by omega)
 have na := nearI hM.far (i := ia) (by omega)
 have nb := nearI hM.far (i := ib) (by omega)
 have hcv : cutV V z ⟨ia, ib⟩ = ⟨⟨ia, ib⟩, lowF (cutN (vx V ia).x (vx V ib).x (vx V ia).z (vx V ib).z z) ((vx V ib).z - (vx V ia).z), lowF (cutN (vx V ia).y (vx V ib).y (vx V ia).z (vx V ib).z z) ((vx V ib).z - (vx V ia).z)⟩ := rfl
 rw [hcv]
 clear hcv
 generalize vx V ia = va at ra na h5 h6 ⊢
 generalize vx V ib = vb at rb nb h5 h6 ⊢
 obtain ⟨ax, ay, az⟩ := va
 obtain ⟨bx, by', bz⟩ := vb
 simp only [Vec3.in] at na nb
 simp only at h5 h6
 refine acalls_of (N := 63) Tryz.func75 rfl rfl (by simp) fun E hE => ?_
 refine WA ?_
 refine aw_cut (fun F H => F = [(2, .c (I z)), (4, .p 0 0 0), (6, .p 1 0 0), (7, .p 2 0 0), (8, .p 3 0 0)] ∧ H = [.box [.c (I ia), .c (I ib)], .box [.c (I 0), .c (I 0), .c (I 0), .c (I 0), .c (I 0), .c (I 0)], .box [.c (I ax), .c (I ay), .c (I az)], .box [.c (I bx), .c (I by'), .c (I bz)]]) ?_ ?_ wk_aw
 ·refine ZZ ?_
  refine aw_regionM [[(0, none), (1, none), (2, none), (3, none), (4, none), (5, none), (6, none), (7, none), (8, none), (9, none), (10, none), (11, none), (12, some [0, 1, 2, 3, 4, 5, 6, 7, 8, 9, 10, 11]), (13, some [0, 1, 2, 3, 4, 5, 6, 7, 8, 9, 10, 11]), (14, some [6, 7, 8, 9, 10, 11]), (15, some [])], [(0, none), (1, none), (2, none), (3, none), (4, none), (5, none), (6, none), (7, none), (8, none), (9, none), (10, none), (11, none), (13, some [0, 1, 2, 3, 4, 5, 6, 7, 8, 9, 10, 11]), (12, some [0, 1, 2, 3, 4, 5, 6, 7, 8, 9, 10, 11]), (14, some [6, 7, 8, 9, 10, 11]), (15, some [])]] hMixed (by kernel_rfl) ?_
  focus
   refine WM ?_
   refine am_two (by rfl) (by rfl) (by rfl) ?_ ?_
   rotate_left
   refine WN ?_
   rotate_right
   refine WN ?_
  all_goals (first | exact wk_of [some 1, some 2, some 3, some 4] (fun _ => [(2, .c (I z)), (4, .p 0 0 0), (6, .p 1 0 0), (7, .p 2 0 0), (8, .p 3 0 0)]) (fun _ => [.box [.c (I ia), .c (I ib)], .box [.c (I 0), .c (I 0), .c (I 0), .c (I 0), .c (I 0), .c (I 0)], .box [.c (I ax), .c (I ay), .c (I az)], .box [.c (I bx), .c (I by'), .c (I bz)]]) (by decide) (ZNL hE) ZCF ZCH (fun _ => ⟨rfl, rfl⟩) | exact wk_of [some 1, some 2, some 4, some 3] (fun _ => [(2, .c (I z)), (4, .p 0 0 0), (6, .p 1 0 0), (7, .p 2 0 0), (8, .p 3 0 0)]) (fun _ => [.box [.c (I ia), .c (I ib)], .box [.c (I 0), .c (I 0), .c (I 0), .c (I 0), .c (I 0), .c (I 0)], .box [.c (I ax), .c (I ay), .c (I az)], .box [.c (I bx), .c (I by'), .c (I bz)]]) (by decide) (ZNL hE) ZCF ZCH (fun _ => ⟨rfl, rfl⟩))
 rintro F H ⟨rfl, rfl⟩
 have p1 := prod_in (x := ax) (y := bz - az) (M := 200000) (by omega) (by omega) (by omega)
 have p2 := prod_in (x := bx - ax) (y := z - az) (M := 200000) (by omega) (by omega) (by omega)
 have p3 := prod_in (x := ay) (y := bz - az) (M := 200000) (by omega) (by omega) (by omega)
 have p4 := prod_in (x := by' - ay) (y := z - az) (M := 200000) (by omega) (by omega) (by omega)
 have q1 : cutN ax bx az bz z = ax * (bz - az) + (bx - ax) * (z - az) := rfl
 have q2 : cutN ay by' az bz z = ay * (bz - az) + (by' - ay) * (z - az) := rfl
 rw [q1, q2]
 refine WA ?_
 refine ZZ ?_
 refine aw_regionT [(0, none), (1, none), (2, none), (3, none), (4, none), (5, none), (6, none), (7, none), (8, none), (9, none), (10, none), (11, none), (12, none), (13, none), (14, none), (15, none), (16, none), (18, none), (19, none), (20, none), (21, none), (22, none), (23, none), (24, none), (25, none), (26, none), (27, none), (28, none), (29, none), (30, none), (31, none), (32, none), (33, none), (17, some [0, 18, 19, 20, 21, 22, 23, 24, 25, 26, 27, 28, 29, 30, 31, 32, 33]), (34, some [0]), (35, none), (36, some [])] hMixed (by kernel_rfl) ?_
 refine WP ?_
 refine at_ef rfl rfl (ef_call0 false (fun _ => low_v _ _ (by omega) (by omega)) rfl .fn rfl (by decide) (by kernel_rfl) rfl (fun _ => C0 rfl) (by simp)) ?_
 rintro _ _ ⟨_, _, _, ⟨rfl, rfl⟩, hF, hH⟩
 (refine NST hF hH ?_; clear hF hH; rintro rfl rfl)
 refine ⟨ag_cons (by first | exact ag_rd rfl rfl rfl (ZK (KK (t := 70) rfl)) rfl) (ag_cons (by first | exact ag_rd rfl rfl rfl (ZX (KF (t := 93) (f := 1) rfl rfl)) rfl) (ag_cons (by first | exact ag_rd rfl rfl rfl (ZL (KK (t := 3) rfl)) rfl) (ag_cons (by first | exact ag_rd rfl rfl rfl (rd_move rfl rfl) rfl) (ag_cons (by first | exact ag_rd rfl rfl rfl (Zmul) rfl) (ag_cons (by first | exact ag_rd rfl rfl rfl (ZX (KF (t := 93) (f := 1) rfl rfl)) rfl) (ag_cons (by first | exact ag_rd rfl rfl rfl (ZL (KK (t := 3) rfl)) rfl) (ag_cons (by first | exact ag_rd rfl rfl rfl (ZX (KF (t := 93) (f := 1) rfl rfl)) rfl) (ag_cons (by first | exact ag_rd rfl rfl rfl (ZL (KK (t := 3) rfl)) rfl) (ag_cons (by first | exact ag_rd rfl rfl rfl (Zsub) rfl) (ag_cons (by first | exact ag_rd rfl rfl rfl (rd_move rfl rfl) rfl) (ag_cons (by first | exact ag_rd rfl rfl rfl (ZX (KF (t := 93) (f := 2) rfl rfl)) rfl) (ag_cons (by first | exact ag_rd rfl rfl rfl (ZL (KK (t := 3) rfl)) rfl) (ag_cons (by first | exact ag_rd rfl rfl rfl (Zsub) rfl) (ag_cons (by first | exact ag_rd rfl rfl rfl (Zmul) rfl) (ag_cons (by first | exact ag_rd rfl rfl rfl (Zadd) rfl) (ag_cons (by first | exact ag_rd rfl rfl rfl (rd_move rfl rfl) rfl) (ag_none))))))))))))))))), ?_⟩
 refine at_ef rfl rfl (ef_call0 false (fun _ => low_v _ _ (by omega) (by omega)) rfl .fn rfl (by decide) (by kernel_rfl) rfl (fun _ => C0 rfl) (by simp)) ?_
 rintro _ _ ⟨_, _, _, ⟨rfl, rfl⟩, hF, hH⟩
 (refine NST hF hH ?_; clear hF hH; rintro rfl rfl)
 refine ⟨ag_cons (by first | exact ag_rd rfl rfl rfl (ZK (KK (t := 70) rfl)) rfl) (ag_none), ?_⟩
 refine WQ ?_
 exact aret_a [] _ rfl (KK (t := 74) rfl) rfl (Cells.box rfl) (by simp) (by (try simp only [nm, putL, Nat.reduceAdd, cellsOf, cvOf]) <;> rfl) (by decide) (ZNK rfl) (fun _ => C0 rfl) (fun _ => .nil) ⟨rfl, rfl⟩
set_option maxHeartbeats 4000000 in
theorem meet_r (v w : Value) (V : List Vec3) (Fs : List Fac3) (z : Int) (s : Sid2) (hM : MOk V Fs) (hs : Cuts' V z s) (hz : -100000 ≤ z ∧ z ≤ 100000) : ACalls Tryz.prog 80 [mshA v w V Fs, .a (s.row.map .c), .c (I z)] [] fun u H => u = .a ((cutV V z s).row.map .c) ∧ H = [] := by
 obtain ⟨⟨h1, h2⟩, ⟨h3, h4⟩, h5, h6⟩ := hs
 obtain ⟨sf, st⟩ := s
 simp only at h1 h2 h3 h4 h5 h6
 obtain ⟨ia, ha⟩ : ∃ i : Nat, sf = i := ⟨sf.toNat, by omega⟩
 obtain ⟨ib, hb⟩ : ∃ i : Nat, st = i := ⟨st.toNat, by omega⟩
 subst ha; subst hb
 have ra := vrow (V := V) (i := ia) (by omega)
 have rb := vrow (V := V) (i := ib) (by omega)
 have na := nearI hM.far (i := ia) (by omega)
 have nb := nearI hM.far (i := ib) (by omega)
 have hcv : cutV V z ⟨ia, ib⟩ = ⟨⟨ia, ib⟩, lowF (cutN (vx V ia).x (vx V ib).x (vx V ia).z (vx V ib).z z) ((vx V ib).z - (vx V ia).z), lowF (cutN (vx V ia).y (vx V ib).y (vx V ia).z (vx V ib).z z) ((vx V ib).z - (vx V ia).z)⟩ := rfl
 rw [hcv]
 clear hcv
 generalize vx V ia = va at ra na h5 h6 ⊢
 generalize vx V ib = vb at rb nb h5 h6 ⊢
 obtain ⟨ax, ay, az⟩ := va
 obtain ⟨bx, by', bz⟩ := vb
 simp only [Vec3.in] at na nb
 simp only at h5 h6
 refine acalls_of (N := 60) Tryz.func80 rfl rfl (by simp) fun E hE => ?_
 refine WA ?_
 refine aw_cut (fun F H => F = [(2, .c (I z)), (4, .p 0 0 0), (6, .p 1 0 0), (7, .p 2 0 0), (8, .p 3 0 0)] ∧ H = [.box [.c (I ia), .c (I ib)], .box [.c (I 0), .c (I 0), .c (I 0), .c (I 0), .c (I 0), .c (I 0)], .box [.c (I ax), .c (I ay), .c (I az)], .box [.c (I bx), .c (I by'), .c (I bz)]]) ?_ ?_ wk_aw
 ·refine ZZ ?_
  refine aw_regionM [[(0, none), (1, none), (2, none), (3, none), (4, none), (5, none), (6, none), (7, none), (8, none), (9, none), (10, none), (11, none), (12, some [0, 1, 2, 3, 4, 5, 6, 7, 8, 9, 10, 11]), (13, some [0, 1, 2, 3, 4, 5, 6, 7, 8, 9, 10, 11]), (14, some [6, 7, 8, 9, 10, 11]), (15, some [])], [(0, none), (1, none), (2, none), (3, none), (4, none), (5, none), (6, none), (7, none), (8, none), (9, none), (10, none), (11, none), (13, some [0, 1, 2, 3, 4, 5, 6, 7, 8, 9, 10, 11]), (12, some [0, 1, 2, 3, 4, 5, 6, 7, 8, 9, 10, 11]), (14, some [6, 7, 8, 9, 10, 11]), (15, some [])]] hMixed (by kernel_rfl) ?_
  focus
   refine WM ?_
   refine am_two (by rfl) (by rfl) (by rfl) ?_ ?_
   rotate_left
   refine WN ?_
   rotate_right
   refine WN ?_
  all_goals (first | exact wk_of [some 1, some 2, some 3, some 4] (fun _ => [(2, .c (I z)), (4, .p 0 0 0), (6, .p 1 0 0), (7, .p 2 0 0), (8, .p 3 0 0)]) (fun _ => [.box [.c (I ia), .c (I ib)], .box [.c (I 0), .c (I 0), .c (I 0), .c (I 0), .c (I 0), .c (I 0)], .box [.c (I ax), .c (I ay), .c (I az)], .box [.c (I bx), .c (I by'), .c (I bz)]]) (by decide) (ZNL hE) ZCF ZCH (fun _ => ⟨rfl, rfl⟩) | exact wk_of [some 1, some 2, some 4, some 3] (fun _ => [(2, .c (I z)), (4, .p 0 0 0), (6, .p 1 0 0), (7, .p 2 0 0), (8, .p 3 0 0)]) (fun _ => [.box [.c (I ia), .c (I ib)], .box [.c (I 0), .c (I 0), .c (I 0), .c (I 0), .c (I 0), .c (I 0)], .box [.c (I ax), .c (I ay), .c (I az)], .box [.c (I bx), .c (I by'), .c (I bz)]]) (by decide) (ZNL hE) ZCF ZCH (fun _ => ⟨rfl, rfl⟩))
 rintro F H ⟨rfl, rfl⟩
 have p1 := prod_in (x := ax) (y := bz - az - (z - az)) (M := 400000) (by omega) (by omega) (by omega)
 have p2 := prod_in (x := bx) (y := z - az) (M := 400000) (by omega) (by omega) (by omega)
 have p3 := prod_in (x := ay) (y := bz - az - (z - az)) (M := 400000) (by omega) (by omega) (by omega)
 have p4 := prod_in (x := by') (y := z - az) (M := 400000) (by omega) (by omega) (by omega)
 rw [← cutN_ref ax bx az bz z, ← cutN_ref ay by' az bz z]
 refine ZZ ?_
 refine aw_regionT [(0, none), (1, none), (2, none), (3, none), (4, none), (5, none), (6, none), (7, none), (8, none), (9, none), (10, none)] hMixed (by kernel_rfl) ?_
 refine WQ ?_
 refine ZZ ?_
 refine aw_regionT [(0, none), (1, none), (2, none), (3, none), (4, none), (5, none), (6, none), (7, none), (8, none), (9, none), (10, none), (11, none), (12, none), (14, none), (15, none), (16, none), (17, none), (18, none), (19, none), (20, none), (21, none), (22, none), (23, none), (24, none), (25, none), (13, some [0, 14, 15, 16, 17, 18, 19, 20, 21, 22, 23, 24, 25]), (26, some [0]), (27, none), (28, some [])] hMixed (by kernel_rfl) ?_
 refine WP ?_
 refine at_ef rfl rfl (ef_call0 false (fun _ => rlow_v _ _ (by omega) (by omega)) rfl .fn rfl (by decide) (by kernel_rfl) rfl (fun _ => C0 rfl) (by simp)) ?_
 rintro _ _ ⟨_, _, _, ⟨rfl, rfl⟩, hF, hH⟩
 (refine NST hF hH ?_; clear hF hH; rintro rfl rfl)
 refine ⟨ag_cons (by first | exact ag_rd rfl rfl rfl (ZK (KK (t := 70) rfl)) rfl) (ag_cons (by first | exact ag_rd rfl rfl rfl (ZX (KF (t := 93) (f := 1) rfl rfl)) rfl) (ag_cons (by first | exact ag_rd rfl rfl rfl (ZL (KK (t := 3) rfl)) rfl) (ag_cons (by first | exact ag_rd rfl rfl rfl (rd_move rfl rfl) rfl) (ag_cons (by first | exact ag_rd rfl rfl rfl (rd_move rfl rfl) rfl) (ag_cons (by first | exact ag_rd rfl rfl rfl (Zsub) rfl) (ag_cons (by first | exact ag_rd rfl rfl rfl (Zmul) rfl) (ag_cons (by first | exact ag_rd rfl rfl rfl (ZX (KF (t := 93) (f := 1) rfl rfl)) rfl) (ag_cons (by first | exact ag_rd rfl rfl rfl (ZL (KK (t := 3) rfl)) rfl) (ag_cons (by first | exact ag_rd rfl rfl rfl (rd_move rfl rfl) rfl) (ag_cons (by first | exact ag_rd rfl rfl rfl (Zmul) rfl) (ag_cons (by first | exact ag_rd rfl rfl rfl (Zadd) rfl) (ag_cons (by first | exact ag_rd rfl rfl rfl (rd_move rfl rfl) rfl) (ag_none))))))))))))), ?_⟩
 refine at_ef rfl rfl (ef_call0 false (fun _ => rlow_v _ _ (by omega) (by omega)) rfl .fn rfl (by decide) (by kernel_rfl) rfl (fun _ => C0 rfl) (by simp)) ?_
 rintro _ _ ⟨_, _, _, ⟨rfl, rfl⟩, hF, hH⟩
 (refine NST hF hH ?_; clear hF hH; rintro rfl rfl)
 refine ⟨ag_cons (by first | exact ag_rd rfl rfl rfl (ZK (KK (t := 70) rfl)) rfl) (ag_none), ?_⟩
 refine WQ ?_
 exact aret_a [] _ rfl (KK (t := 74) rfl) rfl (Cells.box rfl) (by simp) (by (try simp only [nm, putL, Nat.reduceAdd, cellsOf, cvOf]) <;> rfl) (by decide) (ZNK rfl) (fun _ => C0 rfl) (fun _ => .nil) ⟨rfl, rfl⟩
end Go.Proofs.YtlblimbelfenaaaGreat
