/- Walls of near cells; cells of the same step, by value. -/
import Derived.Test.YtfilfijammemfaaGreatDoorQbh
import Derived.Test.YtfilfijammemfaaGreatDoorQar
import Derived.Test.YtfilfijammemfaaGreatDoorQay
set_option linter.unusedSimpArgs false
set_option linter.unusedVariables false
-- NEWM
namespace Go.Proofs.YtfilfijammemfaaGreatDoor
open Go Go.RowKit
set_option maxRecDepth 100000
abbrev linA (pv v : Value) (g : Grd) (q : Int) : AV := .a [gV pv v g, .c (I q)]
abbrev linB (pv v : Value) (g : Grd) (q : Int) : OB := .box [gV pv v g, .c (I q)]
abbrev lnR (l : List Lin) : List (List CV) := l.map fun p => [I p.1, I p.2.1, I p.2.2]
theorem lat_v (pv v : Value) (g : Grd) (q r c : Int) (hg : GOk g) (hr : -100000000 ≤ r ∧ r ≤ 100000000) (hc : -100000000 ≤ c ∧ c ≤ 100000000) : ACalls Tryz.prog 90 [linA pv v g q, .c (I r), .c (I c)] [] fun u H => u = .c (B (atQ g q r c)) ∧ H = [] := by
 refine ze (N := 20) Tryz.func90 rfl rfl (by simp) fun E hE => ?_
 by_cases hq : q = 1
 ·refine WA ?_
  refine WA ?_
  refine zb rfl ?_
  refine WR ?_
  refine zf rfl (za false (fun _ => at_v g pv v _ _ hg (by omega) (by omega)) rfl .fn rfl (by decide) (by kernel_rfl) rfl (fun _ => C0 rfl) (by simp)) ?_
  rintro _ _ ⟨_, _, _, ⟨rfl, rfl⟩, hF, hH⟩
  (refine NST hF hH ?_; clear hF hH; rintro rfl rfl)
  refine WE ?_
  exact zi [] _ rfl rfl rfl (by decide) (ZNK rfl) (fun _ => .nil) ⟨by rw [atQ, if_pos hq], rfl⟩
 ·refine WA ?_
  refine WA ?_
  refine zd rfl ?_
  refine ZZ ?_
  refine WR ?_
  refine zf rfl (za false (fun _ => at_v g pv v _ _ hg (by omega) (by omega)) rfl .fn rfl (by decide) (by kernel_rfl) rfl (fun _ => C0 rfl) (by simp)) ?_
  rintro _ _ ⟨_, _, _, ⟨rfl, rfl⟩, hF, hH⟩
  (refine NST hF hH ?_; clear hF hH; rintro rfl rfl)
  refine WE ?_
  exact zi [] _ rfl rfl rfl (by decide) (ZNK rfl) (fun _ => .nil) ⟨by rw [atQ, if_neg hq], rfl⟩
set_option maxHeartbeats 4000000 in
theorem llines_v (pv v : Value) (g : Grd) (q ev ph : Int) (hg : GOk g) (hev : 1 ≤ ev) (hph : -1000000 ≤ ph ∧ ph ≤ 1000000) : ACalls Tryz.prog 45 [linA pv v g q, .c (I ev), .c (I ph)] [] fun u H => ∃ v', u = .c (.r v' (lnR (linG g q ev ph))) ∧ H = [] := by
 have hgx := hg.x
 have hgy := hg.y
 have hgw := hg.w
 have hgh := hg.h
 have hout := @atQ_out g q
 have hinn := @atQ_in g q
 have hYb : -10000000 ≤ yQ g q ∧ yQ g q ≤ 10000000 := by unfold yQ; split <;> omega
 have hXb : -10000000 ≤ xQ g q ∧ xQ g q ≤ 10000000 := by unfold xQ; split <;> omega
 have hWb : wQ g q ≤ 1000 := by unfold wQ; split <;> omega
 have hHb : hQ g q ≤ 1000 := by unfold hQ; split <;> omega
 refine ze (N := 85) Tryz.func45 rfl rfl (by simp) fun E hE => ?_
 refine WA ?_
 refine ZZ ?_
 refine zg [(0, none), (1, none), (2, none), (3, none), (4, none), (5, none), (6, none), (7, none), (8, none), (9, none), (10, none), (11, none), (12, none), (13, none), (14, none), (15, none), (16, none), (17, none), (18, none), (19, none), (20, none), (21, none), (22, none), (23, none)] zn (by kernel_rfl) ?_
 refine WQ ?_
 refine WA ?_
 refine aw_cut (fun F H => F = [(1, .c (I ev)), (2, .c (I ph)), (3, .p 0 0 0), (7, .c (I (yQ g q))), (8, .c (I (hQ g q))), (9, .c (I (xQ g q))), (10, .c (I (wQ g q)))] ∧ H = [linB pv v g q]) ?_ ?_ wk_aw
 ·refine zl rfl (fun hq => ?_) (fun hq => ?_)
  ·rw [yQ, hQ, xQ, wQ, if_pos hq, if_pos hq, if_pos hq, if_pos hq]
   refine WA ?_
   exact zh [some 0] (fun _ => [(1, .c (I ev)), (2, .c (I ph)), (3, .p 0 0 0), (7, .c (I g.x)), (8, .c (I g.w)), (9, .c (I g.y)), (10, .c (I g.h))]) (fun _ => [linB pv v g q]) (by decide) (ZNL hE) ZCF ZCH (fun _ => ⟨rfl, rfl⟩)
  ·rw [yQ, hQ, xQ, wQ, if_neg hq, if_neg hq, if_neg hq, if_neg hq]
   refine ZZ ?_
   exact zh [some 0] (fun _ => [(1, .c (I ev)), (2, .c (I ph)), (3, .p 0 0 0), (7, .c (I g.y)), (8, .c (I g.h)), (9, .c (I g.x)), (10, .c (I g.w))]) (fun _ => [linB pv v g q]) (by decide) (ZNL hE) ZCF ZCH (fun _ => ⟨rfl, rfl⟩)
 rintro F H ⟨rfl, rfl⟩
 refine ZZ ?_
 have hL : linG g q ev ph = lnS (atQ g q) (yQ g q) (xQ g q) (wQ g q) ev ph (hQ g q) := rfl
 rw [hL]
 generalize yQ g q = Y at *
 generalize xQ g q = X at *
 generalize wQ g q = W at *
 generalize hQ g q = Hh at *
 refine WA ?_
 refine WA ?_
 refine zk (fun m F H => ∃ (i cp : Nat), m + i = Hh ∧ F = [(1, .c (I ev)), (2, .c (I ph)), (3, .p 0 0 0), (7, .c (I Y)), (8, .c (I Hh)), (9, .c (I X)), (10, .c (I W)), (11, .o 1 0 (lnS (atQ g q) Y X W ev ph i).length cp), (12, .c (I (Y + (i : Nat))))] ∧ H = [linB pv v g q, .arr 69 3 cp (lnR (lnS (atQ g q) Y X W ev ph i))]) ?_ ?_
 ·refine zh [some 0, none] (fun _ => [(1, .c (I ev)), (2, .c (I ph)), (3, .p 0 0 0), (7, .c (I Y)), (8, .c (I Hh)), (9, .c (I X)), (10, .c (I W)), (11, .o 1 0 0 0), (12, .c (I (Y + (0 : Nat))))]) (fun _ => [linB pv v g q, .arr 69 3 0 (lnR [])]) (by decide) (ZNL hE) ZCF ZCH (fun _ => ?_)
  exact ⟨Hh, 0, 0, by omega, rfl, rfl⟩
 rintro m F H ⟨i, cp, hi, rfl, rfl⟩
 have hsn := lnS_succ (atQ g q) Y X W ev ph i
 have hAl := lnS_len (atQ g q) Y X W ev ph i
 generalize hA : lnS (atQ g q) Y X W ev ph i = A at *
 refine WA ?_
 refine zl rfl (fun hlt => ?_) (fun hge => ?_)
 ·have hAb : A.length ≤ 1000000 := by
   have : i * W ≤ 1000 * 1000 := Nat.mul_le_mul (by omega) (by omega)
   omega
  obtain ⟨rm, hrm⟩ : ∃ z, (Y + (i : Nat) - ph).tmod ev = z := ⟨_, rfl⟩
  rw [hrm] at hsn
  refine ZR ?_
  iterate 4 refine WX1 ?_
  refine ZA (zl1 hrm rfl rfl rfl (by omega)) ?_
  refine WE ?_
  refine zl rfl (fun h0 => ?_) (fun h0 => ?_)
  ·rw [if_pos h0, List.append_nil] at hsn
   refine WA ?_
   refine zh [some 0, some 1] (fun _ => [(1, .c (I ev)), (2, .c (I ph)), (3, .p 0 0 0), (7, .c (I Y)), (8, .c (I Hh)), (9, .c (I X)), (10, .c (I W)), (11, .o 1 0 (A).length cp), (12, .c (I (Y + (i + 1 : Nat))))]) (fun _ => [linB pv v g q, .arr 69 3 cp (lnR (A))]) (by decide) (ZNL hE) ZCF ZCH (fun _ => ?_)
   exact ⟨m - 1, by omega, i + 1, cp, by omega, by rw [hsn], by rw [hsn]⟩
  rw [if_neg h0] at hsn
  generalize hf : atQ g q (Y + (i : Nat)) = f at *
  have hfo : ∀ c, c < X ∨ X + (W : Nat) ≤ c → f c = false := fun c h => by rw [← hf]; exact hout h
  have hfi : ∀ c, f c = true → X ≤ c ∧ c < X + (W : Nat) := fun c h => by rw [← hf] at h; exact hinn h
  have hat : ∀ c, atQ g q (Y + (i : Nat)) c = f c := fun c => by rw [hf]
  refine ZZ ?_
  refine WA ?_
  refine zk (fun m2 F H => ∃ (k cp : Nat), m2 + k = W ∧ (f (X + (k : Nat)) = false ∨ f (X + (k : Nat) - 1) = false) ∧ F = [(1, .c (I ev)), (2, .c (I ph)), (3, .p 0 0 0), (7, .c (I Y)), (8, .c (I Hh)), (9, .c (I X)), (10, .c (I W)), (11, .o 1 0 (A ++ lnC f (Y + (i : Nat)) X W k).length cp), (12, .c (I (Y + (i : Nat)))), (13, .c (I (X + (k : Nat))))] ∧ H = [linB pv v g q, .arr 69 3 cp (lnR (A ++ lnC f (Y + (i : Nat)) X W k))]) ?_ ?_
  ·refine zh [some 0, some 1] (fun _ => [(1, .c (I ev)), (2, .c (I ph)), (3, .p 0 0 0), (7, .c (I Y)), (8, .c (I Hh)), (9, .c (I X)), (10, .c (I W)), (11, .o 1 0 A.length cp), (12, .c (I (Y + (i : Nat)))), (13, .c (I (X + (0 : Nat))))]) (fun _ => [linB pv v g q, .arr 69 3 cp (lnR A)]) (by decide) (ZNL hE) ZCF ZCH (fun _ => ?_)
   exact ⟨W, 0, cp, by omega, .inr (hfo _ (.inl (by omega))), by rw [lnC_0, List.append_nil], by rw [lnC_0, List.append_nil]⟩
  clear cp
  rintro m2 F H ⟨k, cp, hk, hfk, rfl, rfl⟩
  have hLl := lnC_len f (Y + (i : Nat)) X W k
  have hno := @lnC_no f (Y + (i : Nat)) X W k
  have hye := @lnC_yes f (Y + (i : Nat)) X W k
  have hsk := @lnC_skip f (Y + (i : Nat)) X W k
  refine WA ?_
  refine zl rfl (fun hlt2 => ?_) (fun hge2 => ?_)
  ·have hBb : (A ++ lnC f (Y + (i : Nat)) X W k).length ≤ 10000000 := by rw [List.length_append]; omega
   obtain ⟨b, hb⟩ : ∃ b, f (X + (k : Nat)) = b := ⟨_, rfl⟩
   generalize hB : A ++ lnC f (Y + (i : Nat)) X W k = B' at *
   refine WR ?_
   refine zf rfl (za false (fun _ => lat_v pv v g q _ _ hg (by omega) (by omega)) rfl .fn rfl (by decide) (by kernel_rfl) rfl (fun _ => C0 rfl) (by simp)) ?_
   rintro _ _ ⟨_, _, _, ⟨rfl, rfl⟩, hF, hH⟩
   rw [hat, hb] at hF
   (refine NST hF hH ?_; clear hF hH; rintro rfl rfl)
   refine WE ?_
   cases b with
   | false =>
    have hn := hno (by rw [hb]; rfl)
    refine zb rfl ?_
    refine WA ?_
    refine zh [some 0, some 1] (fun _ => [(1, .c (I ev)), (2, .c (I ph)), (3, .p 0 0 0), (7, .c (I Y)), (8, .c (I Hh)), (9, .c (I X)), (10, .c (I W)), (11, .o 1 0 (B').length cp), (12, .c (I (Y + (i : Nat)))), (13, .c (I (X + (k + 1 : Nat))))]) (fun _ => [linB pv v g q, .arr 69 3 cp (lnR (B'))]) (by decide) (ZNL hE) ZCF ZCH (fun _ => ?_)
    exact ⟨m2 - 1, by omega, k + 1, cp, by omega, .inr (by rw [show X + ((k + 1 : Nat) : Int) - 1 = X + (k : Nat) by omega]; exact hb), by rw [hn, hB], by rw [hn, hB]⟩
   | true =>
    have hy := hye (by rw [hb, hfk.resolve_left (by rw [hb]; simp)]; rfl)
    obtain ⟨s1, s2, s3, s4⟩ := @rE_spec f (W - 1 - k) (X + (k : Nat))
    generalize hEE : rE f (W - 1 - k) (X + (k : Nat)) = EE at *
    refine zd rfl ?_
    refine ZZ ?_
    refine WA ?_
    refine zk (fun m3 F H => ∃ (c : Int), X + (k : Nat) ≤ c ∧ c + m3 = X + (W : Nat) - 1 ∧ rE f m3 c = EE ∧ F = [(1, .c (I ev)), (2, .c (I ph)), (3, .p 0 0 0), (7, .c (I Y)), (8, .c (I Hh)), (9, .c (I X)), (10, .c (I W)), (11, .o 1 0 B'.length cp), (12, .c (I (Y + (i : Nat)))), (13, .c (I c)), (14, .c (I (X + (k : Nat))))] ∧ H = [linB pv v g q, .arr 69 3 cp (lnR B')]) ?_ ?_
    ·refine zh [some 0, some 1] (fun _ => [(1, .c (I ev)), (2, .c (I ph)), (3, .p 0 0 0), (7, .c (I Y)), (8, .c (I Hh)), (9, .c (I X)), (10, .c (I W)), (11, .o 1 0 (B').length cp), (12, .c (I (Y + (i : Nat)))), (13, .c (I (X + (k : Nat)))), (14, .c (I (X + (k : Nat))))]) (fun _ => [linB pv v g q, .arr 69 3 cp (lnR (B'))]) (by decide) (ZNL hE) ZCF ZCH (fun _ => ?_)
     exact ⟨W - 1 - k, X + (k : Nat), by omega, by omega, hEE, rfl, rfl⟩
    rintro m3 F H ⟨c, hc1, hc2, hc3, rfl, rfl⟩
    obtain ⟨b2, hb2⟩ : ∃ b, f (c + 1) = b := ⟨_, rfl⟩
    refine WR ?_
    refine zf rfl (za false (fun _ => lat_v pv v g q _ _ hg (by omega) (by omega)) rfl .fn rfl (by decide) (by kernel_rfl) rfl (fun _ => C0 rfl) (by simp)) ?_
    rintro _ _ ⟨_, _, _, ⟨rfl, rfl⟩, hF, hH⟩
    rw [hat, hb2] at hF
    (refine NST hF hH ?_; clear hF hH; rintro rfl rfl)
    refine WE ?_
    cases b2 with
    | true =>
     have := hfi _ hb2
     obtain ⟨m3, rfl⟩ : ∃ z, m3 = z + 1 := ⟨m3 - 1, by omega⟩
     rw [rE, if_pos hb2] at hc3
     refine zb rfl ?_
     refine WA ?_
     refine zh [some 0, some 1] (fun _ => [(1, .c (I ev)), (2, .c (I ph)), (3, .p 0 0 0), (7, .c (I Y)), (8, .c (I Hh)), (9, .c (I X)), (10, .c (I W)), (11, .o 1 0 (B').length cp), (12, .c (I (Y + (i : Nat)))), (13, .c (I (c + 1))), (14, .c (I (X + (k : Nat))))]) (fun _ => [linB pv v g q, .arr 69 3 cp (lnR (B'))]) (by decide) (ZNL hE) ZCF ZCH (fun _ => ?_)
     exact ⟨m3, by omega, c + 1, by omega, by omega, hc3, rfl, rfl⟩
    | false =>
     obtain rfl : c = EE := by
      cases m3 with
      | zero => exact hc3
      | succ m3 => rw [rE, if_neg (by rw [hb2]; simp)] at hc3; exact hc3
     obtain ⟨e, he⟩ : ∃ e : Nat, c = X + (e : Nat) := ⟨(c - X).toNat, by omega⟩
     have hs5 := hsk (e := e) (by omega) (fun j h1 h2 => by
      by_cases ej : j = k + 1
      ·rw [ej, show X + ((k + 1 : Nat) : Int) - 1 = X + (k : Nat) by omega]; exact hb
      ·exact s3 _ (by omega) (by omega))
     have hfin : A ++ lnC f (Y + (i : Nat)) X W (e + 1) = B' ++ [(Y + (i : Nat), X + (k : Nat), c)] := by rw [hs5, hy, ← List.append_assoc, hB]
     refine zd rfl ?_
     refine ZZ ?_
     refine WR ?_
     refine zf rfl (Zapp (KA (t := 65) rfl)) ?_
     rintro _ _ ⟨_, cc, hcc, rfl, rfl⟩
     refine WE ?_
     refine WA ?_
     refine zh [some 0, some 1] (fun _ => [(1, .c (I ev)), (2, .c (I ph)), (3, .p 0 0 0), (7, .c (I Y)), (8, .c (I Hh)), (9, .c (I X)), (10, .c (I W)), (11, .o 1 0 (B' ++ [(Y + (i : Nat), X + (k : Nat), c)]).length cc), (12, .c (I (Y + (i : Nat)))), (13, .c (I (c + 1)))]) (fun _ => [linB pv v g q, .arr 69 3 cc (lnR (B' ++ [(Y + (i : Nat), X + (k : Nat), c)]))]) (by decide) (ZNL hE) ZCF ZCH (fun _ => ?_)
     exact ⟨W - (e + 1), by omega, e + 1, cc, by omega, .inl (by rw [show X + ((e + 1 : Nat) : Int) = c + 1 by omega]; exact hb2), by rw [hfin, show X + ((e + 1 : Nat) : Int) = c + 1 by omega], by rw [hfin]⟩
  obtain rfl : k = W := by omega
  rw [← hsn]
  generalize hA2 : lnS (atQ g q) Y X k ev ph (i + 1) = A2 at *
  refine ZZ ?_
  refine WA ?_
  refine zh [some 0, some 1] (fun _ => [(1, .c (I ev)), (2, .c (I ph)), (3, .p 0 0 0), (7, .c (I Y)), (8, .c (I Hh)), (9, .c (I X)), (10, .c (I k)), (11, .o 1 0 A2.length cp), (12, .c (I (Y + (i + 1 : Nat))))]) (fun _ => [linB pv v g q, .arr 69 3 cp (lnR A2)]) (by decide) (ZNL hE) ZCF ZCH (fun _ => ?_)
  exact ⟨m - 1, by omega, i + 1, cp, by omega, by rw [hA2], by rw [hA2]⟩
 obtain rfl : i = Hh := by omega
 rw [hA]
 refine ZZ ?_
 refine WA ?_
 exact aret_f1 [] _ rfl rfl rfl rfl (by rw [List.drop_zero, List.take_of_length_le (by simp)]) (by simp) rfl (by decide) (ZNK rfl) (fun _ => .nil) (fun q => ⟨q, rfl, rfl⟩)
set_option maxHeartbeats 1000000 in
theorem center_v (pv v : Value) (g : Grd) (q r c : Int) (hst : 0 ≤ g.st ∧ g.st ≤ 10000) (hr : -20000000 ≤ r ∧ r ≤ 20000000) (hc : -20000000 ≤ c ∧ c ≤ 20000000) : ACalls Tryz.prog 84 [linA pv v g q, .c (I r), .c (I c)] [] fun u H => u = .a [.c (I (ctr g.st q r c).1), .c (I (ctr g.st q r c).2)] ∧ H = [] := by
 have hm : ∀ z : Int, -20000000 ≤ z ∧ z ≤ 20000000 → -400000000000 ≤ z * g.st ∧ z * g.st ≤ 400000000000 := fun z hz => by
  have h1 : (z * g.st).natAbs ≤ 20000000 * 10000 := by rw [Int.natAbs_mul]; exact Nat.mul_le_mul (by omega) (by omega)
  omega
 have h1 := hm r hr
 have h2 := hm c hc
 clear hm
 refine ze (N := 38) Tryz.func84 rfl rfl (by simp) fun E hE => ?_
 by_cases hq : q = 1
 ·rw [ctr, if_pos hq]
  refine WA ?_
  refine WA ?_
  refine zb rfl ?_
  refine WA ?_
  refine WA ?_
  refine ZZ ?_
  refine zg [(0, none), (1, none), (2, none), (3, none), (4, none), (5, none), (6, none), (7, none), (8, none), (9, none), (10, none), (11, none), (12, none), (13, none), (14, none), (15, none), (16, none), (17, none), (18, none), (19, some [])] zn (by kernel_rfl) ?_
  refine WQ ?_
  all_goals exact aret_a [] _ rfl (KK (t := 107) rfl) rfl (Cells.box rfl) (by first | (simp; done) | exact Nat.le_refl 2) (by (try simp only [nm, putL, Nat.reduceAdd, cellsOf, cvOf]) <;> rfl) (by decide) (ZNK rfl) (fun _ => C0 rfl) (fun _ => .nil) ⟨rfl, rfl⟩
 ·rw [ctr, if_neg hq]
  refine WA ?_
  refine WA ?_
  refine zd rfl ?_
  refine ZZ ?_
  refine WA ?_
  refine ZZ ?_
  refine zg [(0, none), (1, none), (2, none), (3, none), (4, none), (5, none), (6, none), (7, none), (8, none), (9, none), (10, none), (11, none), (12, none), (13, none), (14, none), (15, none), (16, none), (17, none), (18, none), (19, some [])] zn (by kernel_rfl) ?_
  refine WQ ?_
  all_goals exact aret_a [] _ rfl (KK (t := 107) rfl) rfl (Cells.box rfl) (by first | (simp; done) | exact Nat.le_refl 2) (by (try simp only [nm, putL, Nat.reduceAdd, cellsOf, cvOf]) <;> rfl) (by decide) (ZNK rfl) (fun _ => C0 rfl) (fun _ => .nil) ⟨rfl, rfl⟩
set_option maxHeartbeats 1000000 in
theorem points_v (pv v : Value) (g : Grd) (q : Int) (l : Lin) (hst : 0 ≤ g.st ∧ g.st ≤ 10000) (hr : -20000000 ≤ l.1 ∧ l.1 ≤ 20000000) (ha : -20000000 ≤ l.2.1 ∧ l.2.1 ≤ 20000000) (hb : -20000000 ≤ l.2.2 ∧ l.2.2 ≤ 20000000) : ACalls Tryz.prog 37 [linA pv v g q, .c (I l.1), .c (I l.2.1), .c (I l.2.2)] [] fun u H => ∃ v', u = .c (.r v' (sR (ptsL g.st q l))) ∧ H = [] := by
 obtain ⟨r, a, b⟩ := l
 simp only at hr ha hb
 refine ze (N := 26) Tryz.func37 rfl rfl (by simp) fun E hE => ?_
 refine WA ?_
 refine WR ?_
 refine zf rfl (za false (fun _ => center_v pv v g q _ _ hst hr ha) rfl .fn rfl (by decide) (by kernel_rfl) rfl (fun _ => C0 rfl) (by simp)) ?_
 rintro _ _ ⟨_, _, _, ⟨rfl, rfl⟩, hF, hH⟩
 (refine NST hF hH ?_; clear hF hH; rintro rfl rfl)
 refine WE ?_
 refine WA ?_
 refine zl rfl (fun hne => ?_) (fun hne => ?_)
 ·have hp : ptsL g.st q (r, a, b) = [ctr g.st q r a, ctr g.st q r b] := if_pos hne
  rw [hp]
  generalize ctr g.st q r a = c1 at *
  refine WR ?_
  refine zf rfl (za false (fun _ => center_v pv v g q _ _ hst hr hb) rfl .fn rfl (by decide) (by kernel_rfl) rfl (fun _ => C0 rfl) (by simp)) ?_
  rintro _ _ ⟨_, _, _, ⟨rfl, rfl⟩, hF, hH⟩
  (refine NST hF hH ?_; clear hF hH; rintro rfl rfl)
  refine WO ?_
  refine zf rfl (Zapp (KA (t := 52) rfl)) ?_
  rintro _ _ ⟨_, cc, hcc, rfl, rfl⟩
  refine WE ?_
  generalize ctr g.st q r b = c2 at *
  refine WA ?_
  exact aret_f1 [] _ rfl rfl rfl rfl (by rfl) (by rfl) rfl (by decide) (ZNK rfl) (fun _ => .nil) (fun q => ⟨q, rfl, rfl⟩)
 ·have hp : ptsL g.st q (r, a, b) = [ctr g.st q r a] := if_neg hne
  rw [hp]
  refine ZZ ?_
  refine WA ?_
  exact aret_f1 [] _ rfl rfl rfl rfl (by rfl) (by rfl) rfl (by decide) (ZNK rfl) (fun _ => .nil) (fun q => ⟨q, rfl, rfl⟩)
end Go.Proofs.YtfilfijammemfaaGreatDoor
-- NEWM
namespace Go.Proofs.YtfilfijammemfaaGreatDoor
open Go Go.RowKit
set_option maxRecDepth 100000
def lnF (c : Cel) (q ev ph : Int) : Int := if celF c ≠ 0 then celF c else if outB q 0 1 = true then 4 else if (outB ev 1 200 || outB ph (-1000) 1000) = true then 1 else 0
theorem grd_wh {c : Cel} (h : RCel c) (q : Int) : wQ (zc c) q ≤ 200 ∧ hQ (zc c) q ≤ 200 := by
 have h1 := h.w
 have h2 := h.h
 have h3 : (zc c).w ≤ 200 ∧ (zc c).h ≤ 200 := by
  unfold zc
  split
  ·exact ⟨Nat.zero_le _, Nat.zero_le _⟩
  ·exact ⟨h1, h2⟩
 unfold wQ hQ
 split <;> (constructor <;> omega)
theorem lin_len {c : Cel} (h : RCel c) (q ev ph : Int) : (linG (zc c) q ev ph).length ≤ 40000 := by
 obtain ⟨h1, h2⟩ := grd_wh h q
 have := lnS_len (atQ (zc c) q) (yQ (zc c) q) (xQ (zc c) q) (wQ (zc c) q) ev ph (hQ (zc c) q)
 have h3 : hQ (zc c) q * wQ (zc c) q ≤ 200 * 200 := Nat.mul_le_mul h2 h1
 unfold linG
 omega
theorem lin_bd {g : Grd} (hg : GOk g) {q ev ph : Int} {l : Lin} (h : l ∈ linG g q ev ph) : (-20000000 ≤ l.1 ∧ l.1 ≤ 20000000) ∧ (-20000000 ≤ l.2.1 ∧ l.2.1 ≤ 20000000) ∧ (-20000000 ≤ l.2.2 ∧ l.2.2 ≤ 20000000) := by
 have hgx := hg.x
 have hgy := hg.y
 have hgw := hg.w
 have hgh := hg.h
 have hYb : -10000000 ≤ yQ g q ∧ yQ g q ≤ 10000000 := by unfold yQ; split <;> omega
 have hXb : -10000000 ≤ xQ g q ∧ xQ g q ≤ 10000000 := by unfold xQ; split <;> omega
 have hWb : wQ g q ≤ 1000 := by unfold wQ; split <;> omega
 have hHb : hQ g q ≤ 1000 := by unfold hQ; split <;> omega
 unfold linG lnS at h
 obtain ⟨i, hi, h2⟩ := List.mem_flatMap.1 h
 rw [List.mem_range] at hi
 split at h2
 ·cases h2
 ·unfold lnC at h2
  obtain ⟨k, hk, rfl⟩ := List.mem_map.1 h2
  have hk2 := List.mem_range.1 (List.mem_filter.1 hk).1
  obtain ⟨s1, s2, _, _⟩ := @rE_spec (atQ g q (yQ g q + (i : Nat))) (wQ g q - 1 - k) (xQ g q + (k : Nat))
  simp only
  omega
set_option maxHeartbeats 2000000 in
theorem lined_v (va : Value) (c : Cel) (q ev ph : Int) (hl : c.rows.length ≤ 1000000000) (hr : ∀ r ∈ c.rows, r.length ≤ 1000000000) : ACalls Tryz.prog 36 [celA va c, .c (I q), .c (I ev), .c (I ph)] [] fun u H => (lnF c q ev ph ≠ 0 → u = .t [.a [.c (.s (.pointer none)), .c (I 0)], .c (.r (.slice none 0 0) []), .c (I (lnF c q ev ph))]) ∧ (lnF c q ev ph = 0 → ∃ gp gv lv, u = .t [linA gp gv (zc c) q, .c (.r lv (lnR (linG (zc c) q ev ph))), .c (I 0)]) ∧ H = [] := by
 obtain ⟨cf, hcf⟩ : ∃ z, celF c = z := ⟨_, rfl⟩
 obtain ⟨b1, h1⟩ : ∃ z, outB q 0 1 = z := ⟨_, rfl⟩
 obtain ⟨b2, h2⟩ : ∃ z, outB ev 1 200 = z := ⟨_, rfl⟩
 obtain ⟨b3, h3⟩ : ∃ z, outB ph (-1000) 1000 = z := ⟨_, rfl⟩
 have hF0 : lnF c q ev ph = if cf ≠ 0 then cf else if b1 = true then 4 else if (b2 || b3) = true then 1 else 0 := by rw [lnF, hcf, h1, h2, h3]
 rw [hF0]
 refine ze (N := 44) Tryz.func36 rfl rfl (by simp) fun E hE => ?_
 refine WA ?_
 refine WR ?_
 refine zf rfl (za false (fun _ => check_v va c hl hr) rfl .fn rfl (by decide) (by kernel_rfl) rfl (fun _ => C0 rfl) (by simp)) ?_
 rintro _ _ ⟨_, _, _, ⟨rfl, rfl⟩, hF, hH⟩
 rw [hcf] at hF
 (refine NST hF hH ?_; clear hF hH; rintro rfl rfl)
 refine WE ?_
 refine WA ?_
 refine zl rfl (fun hz => ?_) (fun hz => ?_)
 ·rw [if_pos hz]
  refine WA ?_
  exact zq (us := [.a [.c (.s (.pointer none)), .c (I 0)], .c (.r (.slice none 0 0) []), .c (I (cf))]) [] (fun _ => .t [.a [.c (.s (.pointer none)), .c (I 0)], .c (.r (.slice none 0 0) []), .c (I (cf))]) (fun _ => []) (.cella (n := 2) rfl (by kernel_rfl) (Cells.box rfl) (by first | (simp; done) | exact Nat.le_refl 2) (by (try simp only [nm, putL, Nat.reduceAdd, cellsOf, cvOf]) <;> rfl) (.tmp rfl (.tmp rfl .nil))) (by decide) (fun i hi => absurd hi (Nat.not_lt_zero i)) (fun _ => cvt_clo _ _ _ _ _ rfl) (fun _ => .nil) (fun _ => ⟨fun _ => rfl, fun e => absurd e (hz), rfl⟩)
 rw [if_neg hz]
 obtain rfl : cf = 0 := by omega
 have hc := celF_0.1 hcf
 refine ZZ ?_
 cases b1 with
 | true =>
  refine WR ?_
  refine zf rfl (za false (fun _ => out_v _ _ _) rfl .fn rfl (by decide) (by kernel_rfl) rfl (fun _ => C0 rfl) (by simp)) ?_
  rintro _ _ ⟨_, _, _, ⟨rfl, rfl⟩, hF, hH⟩
  rw [h1] at hF
  (refine NST hF hH ?_; clear hF hH; rintro rfl rfl)
  refine WE ?_
  refine zb rfl ?_
  refine WA ?_
  exact zq (us := [.a [.c (.s (.pointer none)), .c (I 0)], .c (.r (.slice none 0 0) []), .c (I (4))]) [] (fun _ => .t [.a [.c (.s (.pointer none)), .c (I 0)], .c (.r (.slice none 0 0) []), .c (I (4))]) (fun _ => []) (.cella (n := 2) rfl (by kernel_rfl) (Cells.box rfl) (by first | (simp; done) | exact Nat.le_refl 2) (by (try simp only [nm, putL, Nat.reduceAdd, cellsOf, cvOf]) <;> rfl) (.tmp rfl (.tmp rfl .nil))) (by decide) (fun i hi => absurd hi (Nat.not_lt_zero i)) (fun _ => cvt_clo _ _ _ _ _ rfl) (fun _ => .nil) (fun _ => ⟨fun _ => rfl, fun e => absurd e ((by decide : (4 : Int) ≠ 0)), rfl⟩)
 | false =>
 refine WR ?_
 refine zf rfl (za false (fun _ => out_v _ _ _) rfl .fn rfl (by decide) (by kernel_rfl) rfl (fun _ => C0 rfl) (by simp)) ?_
 rintro _ _ ⟨_, _, _, ⟨rfl, rfl⟩, hF, hH⟩
 rw [h1] at hF
 (refine NST hF hH ?_; clear hF hH; rintro rfl rfl)
 refine WE ?_
 refine zd rfl ?_
 refine ZZ ?_
 cases b2 with
 | true =>
  refine WR ?_
  refine zf rfl (za false (fun _ => out_v _ _ _) rfl .fn rfl (by decide) (by kernel_rfl) rfl (fun _ => C0 rfl) (by simp)) ?_
  rintro _ _ ⟨_, _, _, ⟨rfl, rfl⟩, hF, hH⟩
  rw [h2] at hF
  (refine NST hF hH ?_; clear hF hH; rintro rfl rfl)
  refine WO ?_
  first | refine ZS ?_ | (refine G1 rfl ?_; refine zf rfl (za false (fun _ => out_v _ _ _) rfl .fn rfl (by decide) (by kernel_rfl) rfl (fun _ => C0 rfl) (by simp)) ?_; rintro _ _ ⟨_, _, _, ⟨rfl, rfl⟩, hF, hH⟩; rw [h3] at hF; (refine NST hF hH ?_; clear hF hH; rintro rfl rfl)) | skip
  refine WE ?_
  refine zb rfl ?_
  refine WA ?_
  exact zq (us := [.a [.c (.s (.pointer none)), .c (I 0)], .c (.r (.slice none 0 0) []), .c (I (1))]) [] (fun _ => .t [.a [.c (.s (.pointer none)), .c (I 0)], .c (.r (.slice none 0 0) []), .c (I (1))]) (fun _ => []) (.cella (n := 2) rfl (by kernel_rfl) (Cells.box rfl) (by first | (simp; done) | exact Nat.le_refl 2) (by (try simp only [nm, putL, Nat.reduceAdd, cellsOf, cvOf]) <;> rfl) (.tmp rfl (.tmp rfl .nil))) (by decide) (fun i hi => absurd hi (Nat.not_lt_zero i)) (fun _ => cvt_clo _ _ _ _ _ rfl) (fun _ => .nil) (fun _ => ⟨fun _ => rfl, fun e => absurd e ((by decide : (1 : Int) ≠ 0)), rfl⟩)
 | false =>
 cases b3 with
 | true =>
  refine WR ?_
  refine zf rfl (za false (fun _ => out_v _ _ _) rfl .fn rfl (by decide) (by kernel_rfl) rfl (fun _ => C0 rfl) (by simp)) ?_
  rintro _ _ ⟨_, _, _, ⟨rfl, rfl⟩, hF, hH⟩
  rw [h2] at hF
  (refine NST hF hH ?_; clear hF hH; rintro rfl rfl)
  refine WO ?_
  first | refine ZS ?_ | (refine G1 rfl ?_; refine zf rfl (za false (fun _ => out_v _ _ _) rfl .fn rfl (by decide) (by kernel_rfl) rfl (fun _ => C0 rfl) (by simp)) ?_; rintro _ _ ⟨_, _, _, ⟨rfl, rfl⟩, hF, hH⟩; rw [h3] at hF; (refine NST hF hH ?_; clear hF hH; rintro rfl rfl)) | skip
  refine WE ?_
  refine zb rfl ?_
  refine WA ?_
  exact zq (us := [.a [.c (.s (.pointer none)), .c (I 0)], .c (.r (.slice none 0 0) []), .c (I (1))]) [] (fun _ => .t [.a [.c (.s (.pointer none)), .c (I 0)], .c (.r (.slice none 0 0) []), .c (I (1))]) (fun _ => []) (.cella (n := 2) rfl (by kernel_rfl) (Cells.box rfl) (by first | (simp; done) | exact Nat.le_refl 2) (by (try simp only [nm, putL, Nat.reduceAdd, cellsOf, cvOf]) <;> rfl) (.tmp rfl (.tmp rfl .nil))) (by decide) (fun i hi => absurd hi (Nat.not_lt_zero i)) (fun _ => cvt_clo _ _ _ _ _ rfl) (fun _ => .nil) (fun _ => ⟨fun _ => rfl, fun e => absurd e ((by decide : (1 : Int) ≠ 0)), rfl⟩)
 | false =>
 have hev1 : 1 ≤ ev := by simp [outB] at h2; omega
 have hph1 : -1000000 ≤ ph ∧ ph ≤ 1000000 := by simp [outB] at h3; omega
 refine WR ?_
 refine zf rfl (za false (fun _ => out_v _ _ _) rfl .fn rfl (by decide) (by kernel_rfl) rfl (fun _ => C0 rfl) (by simp)) ?_
 rintro _ _ ⟨_, _, _, ⟨rfl, rfl⟩, hF, hH⟩
 rw [h2] at hF
 (refine NST hF hH ?_; clear hF hH; rintro rfl rfl)
 refine WO ?_
 first | refine ZS ?_ | (refine G1 rfl ?_; refine zf rfl (za false (fun _ => out_v _ _ _) rfl .fn rfl (by decide) (by kernel_rfl) rfl (fun _ => C0 rfl) (by simp)) ?_; rintro _ _ ⟨_, _, _, ⟨rfl, rfl⟩, hF, hH⟩; rw [h3] at hF; (refine NST hF hH ?_; clear hF hH; rintro rfl rfl)) | skip
 refine WE ?_
 refine zd rfl ?_
 refine ZZ ?_
 refine WR ?_
 refine zf rfl (za false (fun _ => gridof_v va c hc) rfl .fn rfl (by decide) (by kernel_rfl) rfl (fun _ => C0 rfl) (by simp)) ?_
 rintro _ _ ⟨_, _, _, ⟨gp, gv, rfl, rfl⟩, hF, hH⟩
 (refine NST hF hH ?_; clear hF hH; rintro rfl rfl)
 refine WE ?_
 have hlen := lin_len hc q ev ph
 refine WR ?_
 refine zf rfl (za false (fun _ => llines_v gp gv (zc c) q ev ph (za1 hc) hev1 hph1) rfl .fn rfl (by decide) (by kernel_rfl) rfl (fun _ => C0 rfl) (by simp)) ?_
 rintro _ _ ⟨_, _, _, ⟨lv, rfl, rfl⟩, hF, hH⟩
 (refine NST hF hH ?_; clear hF hH; rintro rfl rfl)
 refine WE ?_
 generalize linG (zc c) q ev ph = LL at *
 have e1 : (lnR LL).length = LL.length := by simp
 have hle : ¬ (100000 : Int) < ((lnR LL).length : Int) := by omega
 refine WA ?_
 refine zd rfl ?_
 refine ZZ ?_
 refine WA ?_
 exact zq (us := [linA gp gv (zc c) q, .c (.r lv (lnR LL)), .c (I 0)]) [] (fun _ => .t [linA gp gv (zc c) q, .c (.r lv (lnR LL)), .c (I 0)]) (fun _ => []) (.cella (n := 2) rfl (by kernel_rfl) (Cells.box rfl) (by first | (simp; done) | exact Nat.le_refl 2) (by (try simp only [nm, putL, Nat.reduceAdd, cellsOf, cvOf]) <;> rfl) (.tmp rfl (.tmp rfl .nil))) (by decide) (fun i hi => absurd hi (Nat.not_lt_zero i)) (fun _ => cvt_clo _ _ _ _ _ rfl) (fun _ => .nil) (fun _ => ⟨fun e => absurd rfl e, fun _ => ⟨gp, gv, lv, rfl⟩, rfl⟩)
abbrev Pth := Value × List Spot × Bool
abbrev pthR (p : Pth) : List CV := [.r p.1 (sR p.2.1), B p.2.2]
abbrev paR (l : List Pth) : List (List CV) := l.map pthR
set_option maxHeartbeats 2000000 in
theorem lines_v (va : Value) (c : Cel) (q ev ph : Int) (hl : c.rows.length ≤ 1000000000) (hr : ∀ r ∈ c.rows, r.length ≤ 1000000000) : ACalls Tryz.prog 8 [celA va c, .c (I q), .c (I ev), .c (I ph)] [] fun u H => ∃ (v : Value) (pl : List Pth), u = .t [.c (.r v (paR pl)), .c (I (lnF c q ev ph))] ∧ (lnF c q ev ph ≠ 0 → pl = []) ∧ (lnF c q ev ph = 0 → pl.map Prod.snd = (linG (zc c) q ev ph).map fun l => (ptsL c.st q l, false)) ∧ H = [] := by
 obtain ⟨fz, hfz⟩ : ∃ z, lnF c q ev ph = z := ⟨_, rfl⟩
 by_cases hz : lnF c q ev ph ≠ 0
 ·rw [hfz]
  refine ze (N := 48) Tryz.func8 rfl rfl (by simp) fun E hE => ?_
  refine WA ?_
  refine WR ?_
  refine zf rfl (za false (fun _ => lined_v va c q ev ph hl hr) rfl .fn rfl (by decide) (by kernel_rfl) rfl (fun _ => C0 rfl) (by simp)) ?_
  rintro _ _ ⟨_, _, _, ⟨hu1, hu2, rfl⟩, hF, hH⟩
  rw [hu1 hz, hfz] at hF
  (refine NST hF hH ?_; clear hF hH; rintro rfl rfl)
  refine WE ?_
  rw [hfz] at hz
  refine WA ?_
  refine zb rfl ?_
  refine WA ?_
  exact aret_2 [] _ rfl rfl rfl rfl rfl (by decide) (ZNK rfl) (fun _ => .nil) ⟨.slice none 0 0, [], rfl, fun _ => rfl, fun e => absurd e hz, rfl⟩
 ·obtain rfl : fz = 0 := by rw [← hfz]; simpa using hz
  have hcf : celF c = 0 := Classical.byContradiction fun e => by rw [lnF, if_pos e] at hfz; exact e hfz
  have hc := celF_0.1 hcf
  have hgo := za1 hc
  have hst := hc.st
  have hgs : 0 ≤ (zc c).st ∧ (zc c).st ≤ 10000 := by rw [zQ]; omega
  have hlb := lin_len hc q ev ph
  have hbd := fun l h => @lin_bd (zc c) hgo q ev ph l h
  have hgst := zQ c
  rw [hfz]
  refine ze (N := 48) Tryz.func8 rfl rfl (by simp) fun E hE => ?_
  refine WA ?_
  refine WR ?_
  refine zf rfl (za false (fun _ => lined_v va c q ev ph hl hr) rfl .fn rfl (by decide) (by kernel_rfl) rfl (fun _ => C0 rfl) (by simp)) ?_
  rintro _ _ ⟨_, _, _, ⟨hu1, hu2, rfl⟩, hF, hH⟩
  obtain ⟨gp, gv, lv, hu3⟩ := hu2 hfz
  rw [hu3] at hF
  (refine NST hF hH ?_; clear hF hH; rintro rfl rfl)
  refine WE ?_
  generalize linG (zc c) q ev ph = LL at *
  have e1 : (lnR LL).length = LL.length := by simp
  refine WA ?_
  refine zd rfl ?_
  refine ZZ ?_
  refine WA ?_
  refine WA ?_
  refine zk (fun m F H => ∃ (i cp : Nat) (pl : List Pth), m + i = LL.length ∧ pl.map Prod.snd = (LL.take i).map (fun l => (ptsL c.st q l, false)) ∧ F = [(10, .p 0 0 0), (13, .o 1 0 pl.length cp), (28, .c (.r lv (lnR LL))), (29, .c (I (lnR LL).length)), (30, .c (I i))] ∧ H = [linB gp gv (zc c) q, .arr 54 2 cp (paR pl)]) ?_ ?_
  ·refine zh [some 1, none] (fun _ => [(10, .p 0 0 0), (13, .o 1 0 0 0), (28, .c (.r lv (lnR LL))), (29, .c (I (lnR LL).length)), (30, .c (I (0 : Nat)))]) (fun _ => [linB gp gv (zc c) q, .arr 54 2 0 (paR [])]) (by decide) (ZNL hE) ZCF ZCH (fun _ => ?_)
   exact ⟨LL.length, 0, 0, [], by omega, rfl, rfl, rfl⟩
  rintro m F H ⟨i, cp, pl, hi, hpl, rfl, rfl⟩
  have hpll : pl.length = i := by have := congrArg List.length hpl; simp at this; omega
  refine WA ?_
  refine zl rfl (fun hlt => ?_) (fun hge => ?_)
  ·obtain ⟨⟨r, a, b⟩, hli⟩ : ∃ e, LL[i]? = some e := ⟨_, List.getElem?_eq_getElem (by omega)⟩
   have hrow : (lnR LL)[i]? = some [I r, I a, I b] := by rw [List.getElem?_map, hli]; rfl
   obtain ⟨hb1, hb2, hb3⟩ := hbd _ (List.mem_of_getElem? hli)
   have htk : LL.take (i + 1) = LL.take i ++ [(r, a, b)] := by rw [List.take_add_one, hli]; rfl
   refine WA ?_
   refine WR ?_
   refine zf rfl (za false (fun _ => points_v gp gv (zc c) q (r, a, b) hgs hb1 hb2 hb3) rfl .fn rfl (by decide) (by kernel_rfl) rfl (fun _ => C0 rfl) (by simp)) ?_
   rintro _ _ ⟨_, _, _, ⟨vp, rfl, rfl⟩, hF, hH⟩
   (refine NST hF hH ?_; clear hF hH; rintro rfl rfl)
   refine WO ?_
   refine zf rfl (Zapp (KA (t := 33) rfl)) ?_
   rintro _ _ ⟨_, cc, hcc, rfl, rfl⟩
   refine WE ?_
   refine WA ?_
   refine zh [some 0, some 1] (fun _ => [(10, .p 0 0 0), (13, .o 1 0 (pl ++ [((vp, ptsL (zc c).st q (r, a, b), false) : Pth)]).length cc), (28, .c (.r lv (lnR LL))), (29, .c (I (lnR LL).length)), (30, .c (I (i + 1 : Nat)))]) (fun _ => [linB gp gv (zc c) q, .arr 54 2 cc (paR (pl ++ [((vp, ptsL (zc c).st q (r, a, b), false) : Pth)]))]) (by decide) (ZNL hE) ZCF ZCH (fun _ => ?_)
   exact ⟨m - 1, by omega, i + 1, cc, pl ++ [((vp, ptsL (zc c).st q (r, a, b), false) : Pth)], by omega, by rw [List.map_append, hpl, htk, List.map_append, hgst]; rfl, rfl, rfl⟩
  obtain rfl : i = LL.length := by omega
  rw [List.take_length] at hpl
  refine ZZ ?_
  refine WA ?_
  exact aret_f2 [] _ rfl rfl rfl rfl rfl rfl (by rw [List.drop_zero, List.take_of_length_le (by simp)]) (by simp) rfl (by decide) (ZNK rfl) (fun _ => .nil) (fun q => ⟨q, pl, rfl, fun e => absurd rfl e, fun _ => hpl, rfl⟩)
end Go.Proofs.YtfilfijammemfaaGreatDoor
namespace Go.Proofs.YtfilfijammemfaaGreatDoor
open Go Go.RowKit
set_option maxRecDepth 100000
end Go.Proofs.YtfilfijammemfaaGreatDoor
-- NEWM
namespace Go.Proofs.YtfilfijammemfaaGreatDoor
open Go Go.RowKit
set_option maxRecDepth 100000
end Go.Proofs.YtfilfijammemfaaGreatDoor
-- NEWM
namespace Go.Proofs.YtfilfijammemfaaGreatDoor
open Go Go.RowKit
set_option maxRecDepth 100000
theorem ncel_nil {st : Int} (hst : 2 ≤ st ∧ st ≤ 100 ∧ st.tmod 2 = 0) : NCel ⟨st, 0, 0, []⟩ := by
 have h := celN_ok (st := st) (L := []) ⟨hst.1, by omega, hst.2.2⟩ (by decide) (by decide) (by simp [x0, mnL, cols]) (by simp [y0, mnL, rws])
 exact ⟨h, ⟨(by decide : -10000 ≤ (0 : Int)), (by decide : (0 : Int) ≤ 10000)⟩, ⟨(by decide : -10000 ≤ (0 : Int)), (by decide : (0 : Int) ≤ 10000)⟩⟩
set_option maxHeartbeats 2000000 in
theorem rightcells_v (st : Int) (hst : 2 ≤ st ∧ st ≤ 100 ∧ st.tmod 2 = 0) (v : Value) (zs : List Int) (a : Int) (hs : StrOk zs) (h0 : 0 ≤ a) (h1 : a ≤ 700000000) : ACalls Tryz.prog 20 [.p 0 0 0, .c (I st)] [strm v zs a] fun u H => ∃ (v' : Value) (c : Cel) (a' : Int), u = celA v' c ∧ H = [strm v zs a'] ∧ a ≤ a' ∧ a' ≤ a + 1200 ∧ NCel c ∧ c.st = st := by
 have hst1 : 1 ≤ st ∧ st ≤ 100 := by omega
 refine ze (N := 18) Tryz.func20 rfl rfl (by simp) fun E hE => ?_
 refine WA ?_
 refine WA ?_
 refine zk (fun m F H => ∃ (k : Nat) (a' : Int), m + k = 6 ∧ a ≤ a' ∧ a' ≤ a + 200 * k ∧ F = [(0, .p 0 0 0), (1, .c (I st)), (4, .p 1 0 0), (6, .c (I k))] ∧ H = [strm v zs a', .box [.c (I 0), .c (I 0), .c (I 0), .c (.r (.slice none 0 0) [])]]) ?_ ?_
 ·refine zh [some 0, some 1] (fun _ => [(0, .p 0 0 0), (1, .c (I st)), (4, .p 1 0 0), (6, .c (I (0 : Nat)))]) (fun _ => [strm v zs a, .box [.c (I 0), .c (I 0), .c (I 0), .c (.r (.slice none 0 0) [])]]) (by decide) (ZNL hE) ZCF ZCH (fun _ => ?_)
  exact ⟨6, 0, a, by omega, by omega, by omega, rfl, rfl⟩
 rintro m F H ⟨k, a', hk, ha1, ha2, rfl, rfl⟩
 refine WA ?_
 refine zl rfl (fun hlt => ?_) (fun hge => ?_)
 ·refine WR ?_
  refine zf rfl (zp false (fun _ => acells_w st hst1 _ _ _ hs (by omega) (by omega)) rfl .fn rfl (by decide) (by kernel_rfl) rfl rfl (fun _g => .cons (.p rfl) (.cons (.c rfl) .nil)) (fun _g => .cons (.c rfl) (.cons (.c rfl) .nil)) (by simp)) ?_
  rintro F1 H1 ⟨_, _, _, _, ⟨vc, c, ac, rfl, hq, hac1, hac2, hcs, hcst⟩, hF, hH⟩
  injection hq with hq1 hq2; subst hq1; subst hq2
  (refine NST hF hH ?_; clear hF hH; rintro rfl rfl)
  refine WE ?_
  refine WR ?_
  refine zf rfl (za false (fun _ => rcheck_v vc c (by have := hcs.h; omega) (fun r hr => by have := hcs.r r hr; omega)) rfl .fn rfl (by decide) (by kernel_rfl) rfl (fun _ => C0 rfl) (by simp)) ?_
  rintro _ _ ⟨_, _, _, ⟨rfl, rfl⟩, hF, hH⟩
  (refine NST hF hH ?_; clear hF hH; rintro rfl rfl)
  refine WE ?_
  refine zl rfl (fun hz => ?_) (fun hz => ?_)
  ·have hr := celF_0.1 hz
   have hn := hcs.near hr
   have hcs2 := hcst hr
   refine WA ?_
   exact aret_a [some 0] _ rfl (KK (t := 28) rfl) rfl (Cells.box rfl) (by first | (simp; done) | exact Nat.le_refl 4) (by (try simp only [nm, putL, Nat.reduceAdd, cellsOf, cvOf]) <;> rfl) (by decide) (ZNK rfl) (fun _ => C0 rfl) ZCH ⟨vc, c, ac, rfl, rfl, by omega, by omega, hn, hcs2⟩
  ·refine ZZ ?_
   refine WA ?_
   refine zh [some 0, some 1] (fun _ => [(0, .p 0 0 0), (1, .c (I st)), (4, .p 1 0 0), (6, .c (I (k + 1 : Nat)))]) (fun _ => [strm v zs ac, .box [.c (I 0), .c (I 0), .c (I 0), .c (.r (.slice none 0 0) [])]]) (by decide) (ZNL hE) ZCF ZCH (fun _ => ?_)
   exact ⟨m - 1, by omega, k + 1, ac, by omega, by omega, by omega, rfl, rfl⟩
 refine ZZ ?_
 refine WA ?_
 exact aret_a [some 0] _ rfl (KK (t := 28) rfl) rfl (Cells.box rfl) (by first | (simp; done) | exact Nat.le_refl 4) (by (try simp only [nm, putL, Nat.reduceAdd, cellsOf, cvOf]) <;> rfl) (by decide) (ZNK rfl) (fun _ => C0 rfl) ZCH ⟨.slice none 0 0, ⟨st, 0, 0, []⟩, a', rfl, rfl, by omega, by omega, ncel_nil hst, rfl⟩
end Go.Proofs.YtfilfijammemfaaGreatDoor
-- NEWM
namespace Go.Proofs.YtfilfijammemfaaGreatDoor
open Go Go.RowKit
set_option maxRecDepth 100000
theorem unionr_v (va vb : Value) (ca cb S : Cel) (ha : RCel ca) (hb : RCel cb) (hs : ca.st = cb.st) (hu : normC ca.st (covL ca ++ covL cb) = (S, 0)) : ACalls Tryz.prog 29 [celA va ca, celA vb cb] [] fun u H => ∃ v', u = .t [celA v' S, .c (I 0)] ∧ H = [] := by
 have := union_v va vb ca cb ha hb hs
 rw [hu] at this
 exact this
theorem bothr_v (va vb : Value) (ca cb S : Cel) (ha : RCel ca) (hb : RCel cb) (hs : ca.st = cb.st) (hu : normC ca.st (botL (covL ca) (covL cb)) = (S, 0)) : ACalls Tryz.prog 30 [celA va ca, celA vb cb] [] fun u H => ∃ v', u = .t [celA v' S, .c (I 0)] ∧ H = [] := by
 have := both_v va vb ca cb ha hb hs
 rw [hu] at this
 exact this
end Go.Proofs.YtfilfijammemfaaGreatDoor
