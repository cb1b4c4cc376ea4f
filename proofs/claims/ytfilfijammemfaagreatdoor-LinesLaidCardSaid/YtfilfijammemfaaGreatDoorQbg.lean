/- Lines of a grid, by value. -/
import Derived.Test.YtfilfijammemfaaGreatDoorQbf
import Derived.Test.YtfilfijammemfaaGreatDoorQat
set_option linter.unusedSimpArgs false
set_option linter.unusedVariables false
/- Lines of a grid, by value. -/
-- NEWM
namespace Go.Proofs.YtfilfijammemfaaGreatDoor
open Go Go.RowKit
set_option maxRecDepth 100000
abbrev linA (pv v : Value) (g : Grd) (q : Int) : AV := .a [gV pv v g, .c (I q)]
abbrev linB (pv v : Value) (g : Grd) (q : Int) : OB := .box [gV pv v g, .c (I q)]
abbrev lnR (l : List Lin) : List (List CV) := l.map fun p => [I p.1, I p.2.1, I p.2.2]
theorem lat_v (pv v : Value) (g : Grd) (q r c : Int) (hg : GOk g) (hr : -100000000 ≤ r ∧ r ≤ 100000000) (hc : -100000000 ≤ c ∧ c ≤ 100000000) : ACalls Tryz.prog 90 [linA pv v g q, .c (I r), .c (I c)] [] fun u H => u = .c (B (atQ g q r c)) ∧ H = [] := by
 refine acalls_of (N := 20) Tryz.func90 rfl rfl (by simp) fun E hE => ?_
 by_cases hq : q = 1
 ·refine WA ?_
  refine WA ?_
  refine aw_cond_t rfl ?_
  refine WR ?_
  refine al_ef rfl (ef_call0 false (fun _ => at_v g pv v _ _ hg (by omega) (by omega)) rfl .fn rfl (by decide) (by kernel_rfl) rfl (fun _ => C0 rfl) (by simp)) ?_
  rintro _ _ ⟨_, _, _, ⟨rfl, rfl⟩, hF, hH⟩
  (refine NST hF hH ?_; clear hF hH; rintro rfl rfl)
  refine WE ?_
  exact aret_1 [] _ rfl rfl rfl (by decide) (ZNK rfl) (fun _ => .nil) ⟨by rw [atQ, if_pos hq], rfl⟩
 ·refine WA ?_
  refine WA ?_
  refine aw_cond_f rfl ?_
  refine ZZ ?_
  refine WR ?_
  refine al_ef rfl (ef_call0 false (fun _ => at_v g pv v _ _ hg (by omega) (by omega)) rfl .fn rfl (by decide) (by kernel_rfl) rfl (fun _ => C0 rfl) (by simp)) ?_
  rintro _ _ ⟨_, _, _, ⟨rfl, rfl⟩, hF, hH⟩
  (refine NST hF hH ?_; clear hF hH; rintro rfl rfl)
  refine WE ?_
  exact aret_1 [] _ rfl rfl rfl (by decide) (ZNK rfl) (fun _ => .nil) ⟨by rw [atQ, if_neg hq], rfl⟩
set_option maxHeartbeats 4000000 in
theorem llines_v (pv v : Value) (g : Grd) (q ev ph : Int) (hg : GOk g) (hev : 1 ≤ ev) (hph : -1000000 ≤ ph ∧ ph ≤ 1000000) : ACalls Tryz.prog 45 [linA pv v g q, .c (I ev), .c (I ph)] [] fun u H => ∃ v', u = .c (.r v' (lnR (linG g q ev ph))) ∧ H = [] := by
 have hgx := hg.x
 have hgy := hg.y
 have hgw := hg.w
 have hgh := hg.h
 have hout := @atQ_out g q
 have hinn := @atQ_in g q
 have hYb : -10000000 ≤ yQ g q ∧ yQ g q ≤ 10000000 := by unfold yQ; split <;> omega
 have hXb : -10000000 ≤ xQ g q ∧ xQ g q ≤ 10000000 := by unfold xQ; split <;> omega
 have hWb : wQ g q ≤ 1000 := by unfold wQ; split <;> omega
 have hHb : hQ g q ≤ 1000 := by unfold hQ; split <;> omega
 refine acalls_of (N := 85) Tryz.func45 rfl rfl (by simp) fun E hE => ?_
 refine WA ?_
 refine ZZ ?_
 refine aw_regionT [(0, none), (1, none), (2, none), (3, none), (4, none), (5, none), (6, none), (7, none), (8, none), (9, none), (10, none), (11, none), (12, none), (13, none), (14, none), (15, none), (16, none), (17, none), (18, none), (19, none), (20, none), (21, none), (22, none), (23, none)] hMixed (by kernel_rfl) ?_
 refine WQ ?_
 refine WA ?_
 refine aw_cut (fun F H => F = [(1, .c (I ev)), (2, .c (I ph)), (3, .p 0 0 0), (7, .c (I (yQ g q))), (8, .c (I (hQ g q))), (9, .c (I (xQ g q))), (10, .c (I (wQ g q)))] ∧ H = [linB pv v g q]) ?_ ?_ wk_aw
 ·refine aw_if rfl (fun hq => ?_) (fun hq => ?_)
  ·rw [yQ, hQ, xQ, wQ, if_pos hq, if_pos hq, if_pos hq, if_pos hq]
   refine WA ?_
   exact wk_of [some 0] (fun _ => [(1, .c (I ev)), (2, .c (I ph)), (3, .p 0 0 0), (7, .c (I g.x)), (8, .c (I g.w)), (9, .c (I g.y)), (10, .c (I g.h))]) (fun _ => [linB pv v g q]) (by decide) (ZNL hE) ZCF ZCH (fun _ => ⟨rfl, rfl⟩)
  ·rw [yQ, hQ, xQ, wQ, if_neg hq, if_neg hq, if_neg hq, if_neg hq]
   refine ZZ ?_
   exact wk_of [some 0] (fun _ => [(1, .c (I ev)), (2, .c (I ph)), (3, .p 0 0 0), (7, .c (I g.y)), (8, .c (I g.h)), (9, .c (I g.x)), (10, .c (I g.w))]) (fun _ => [linB pv v g q]) (by decide) (ZNL hE) ZCF ZCH (fun _ => ⟨rfl, rfl⟩)
 rintro F H ⟨rfl, rfl⟩
 refine ZZ ?_
 have hL : linG g q ev ph = lnS (atQ g q) (yQ g q) (xQ g q) (wQ g q) ev ph (hQ g q) := rfl
 rw [hL]
 generalize yQ g q = Y at *
 generalize xQ g q = X at *
 generalize wQ g q = W at *
 generalize hQ g q = Hh at *
 refine WA ?_
 refine WA ?_
 refine aw_loopw (fun m F H => ∃ (i cp : Nat), m + i = Hh ∧ F = [(1, .c (I ev)), (2, .c (I ph)), (3, .p 0 0 0), (7, .c (I Y)), (8, .c (I Hh)), (9, .c (I X)), (10, .c (I W)), (11, .o 1 0 (lnS (atQ g q) Y X W ev ph i).length cp), (12, .c (I (Y + (i : Nat))))] ∧ H = [linB pv v g q, .arr 69 3 cp (lnR (lnS (atQ g q) Y X W ev ph i))]) ?_ ?_
 ·refine wk_of [some 0, none] (fun _ => [(1, .c (I ev)), (2, .c (I ph)), (3, .p 0 0 0), (7, .c (I Y)), (8, .c (I Hh)), (9, .c (I X)), (10, .c (I W)), (11, .o 1 0 0 0), (12, .c (I (Y + (0 : Nat))))]) (fun _ => [linB pv v g q, .arr 69 3 0 (lnR [])]) (by decide) (ZNL hE) ZCF ZCH (fun _ => ?_)
  exact ⟨Hh, 0, 0, by omega, rfl, rfl⟩
 rintro m F H ⟨i, cp, hi, rfl, rfl⟩
 have hsn := lnS_succ (atQ g q) Y X W ev ph i
 have hAl := lnS_len (atQ g q) Y X W ev ph i
 generalize hA : lnS (atQ g q) Y X W ev ph i = A at *
 refine WA ?_
 refine aw_if rfl (fun hlt => ?_) (fun hge => ?_)
 ·have hAb : A.length ≤ 1000000 := by
   have : i * W ≤ 1000 * 1000 := Nat.mul_le_mul (by omega) (by omega)
   omega
  obtain ⟨rm, hrm⟩ : ∃ z, (Y + (i : Nat) - ph).tmod ev = z := ⟨_, rfl⟩
  rw [hrm] at hsn
  refine ZR ?_
  iterate 4 refine WX1 ?_
  refine ZA (rd_remq hrm rfl rfl rfl (by omega)) ?_
  refine WE ?_
  refine aw_if rfl (fun h0 => ?_) (fun h0 => ?_)
  ·rw [if_pos h0, List.append_nil] at hsn
   refine WA ?_
   refine wk_of [some 0, some 1] (fun _ => [(1, .c (I ev)), (2, .c (I ph)), (3, .p 0 0 0), (7, .c (I Y)), (8, .c (I Hh)), (9, .c (I X)), (10, .c (I W)), (11, .o 1 0 (A).length cp), (12, .c (I (Y + (i + 1 : Nat))))]) (fun _ => [linB pv v g q, .arr 69 3 cp (lnR (A))]) (by decide) (ZNL hE) ZCF ZCH (fun _ => ?_)
   exact ⟨m - 1, by omega, i + 1, cp, by omega, by rw [hsn], by rw [hsn]⟩
  rw [if_neg h0] at hsn
  generalize hf : atQ g q (Y + (i : Nat)) = f at *
  have hfo : ∀ c, c < X ∨ X + (W : Nat) ≤ c → f c = false := fun c h => by rw [← hf]; exact hout h
  have hfi : ∀ c, f c = true → X ≤ c ∧ c < X + (W : Nat) := fun c h => by rw [← hf] at h; exact hinn h
  have hat : ∀ c, atQ g q (Y + (i : Nat)) c = f c := fun c => by rw [hf]
  refine ZZ ?_
  refine WA ?_
  refine aw_loopw (fun m2 F H => ∃ (k cp : Nat), m2 + k = W ∧ (f (X + (k : Nat)) = false ∨ f (X + (k : Nat) - 1) = false) ∧ F = [(1, .c (I ev)), (2, .c (I ph)), (3, .p 0 0 0), (7, .c (I Y)), (8, .c (I Hh)), (9, .c (I X)), (10, .c (I W)), (11, .o 1 0 (A ++ lnC f (Y + (i : Nat)) X W k).length cp), (12, .c (I (Y + (i : Nat)))), (13, .c (I (X + (k : Nat))))] ∧ H = [linB pv v g q, .arr 69 3 cp (lnR (A ++ lnC f (Y + (i : Nat)) X W k))]) ?_ ?_
  ·refine wk_of [some 0, some 1] (fun _ => [(1, .c (I ev)), (2, .c (I ph)), (3, .p 0 0 0), (7, .c (I Y)), (8, .c (I Hh)), (9, .c (I X)), (10, .c (I W)), (11, .o 1 0 A.length cp), (12, .c (I (Y + (i : Nat)))), (13, .c (I (X + (0 : Nat))))]) (fun _ => [linB pv v g q, .arr 69 3 cp (lnR A)]) (by decide) (ZNL hE) ZCF ZCH (fun _ => ?_)
   exact ⟨W, 0, cp, by omega, .inr (hfo _ (.inl (by omega))), by rw [lnC_0, List.append_nil], by rw [lnC_0, List.append_nil]⟩
  clear cp
  rintro m2 F H ⟨k, cp, hk, hfk, rfl, rfl⟩
  have hLl := lnC_len f (Y + (i : Nat)) X W k
  have hno := @lnC_no f (Y + (i : Nat)) X W k
  have hye := @lnC_yes f (Y + (i : Nat)) X W k
  have hsk := @lnC_skip f (Y + (i : Nat)) X W k
  refine WA ?_
  refine aw_if rfl (fun hlt2 => ?_) (fun hge2 => ?_)
  ·have hBb : (A ++ lnC f (Y + (i : Nat)) X W k).length ≤ 10000000 := by rw [List.length_append]; omega
   obtain ⟨b, hb⟩ : ∃ b, f (X + (k : Nat)) = b := ⟨_, rfl⟩
   generalize hB : A ++ lnC f (Y + (i : Nat)) X W k = B' at *
   refine WR ?_
   refine al_ef rfl (ef_call0 false (fun _ => lat_v pv v g q _ _ hg (by omega) (by omega)) rfl .fn rfl (by decide) (by kernel_rfl) rfl (fun _ => C0 rfl) (by simp)) ?_
   rintro _ _ ⟨_, _, _, ⟨rfl, rfl⟩, hF, hH⟩
   rw [hat, hb] at hF
   (refine NST hF hH ?_; clear hF hH; rintro rfl rfl)
   refine WE ?_
   cases b with
   | false =>
    have hn := hno (by rw [hb]; rfl)
    refine aw_cond_t rfl ?_
    refine WA ?_
    refine wk_of [some 0, some 1] (fun _ => [(1, .c (I ev)), (2, .c (I ph)), (3, .p 0 0 0), (7, .c (I Y)), (8, .c (I Hh)), (9, .c (I X)), (10, .c (I W)), (11, .o 1 0 (B').length cp), (12, .c (I (Y + (i : Nat)))), (13, .c (I (X + (k + 1 : Nat))))]) (fun _ => [linB pv v g q, .arr 69 3 cp (lnR (B'))]) (by decide) (ZNL hE) ZCF ZCH (fun _ => ?_)
    exact ⟨m2 - 1, by omega, k + 1, cp, by omega, .inr (by rw [show X + ((k + 1 : Nat) : Int) - 1 = X + (k : Nat) by omega]; exact hb), by rw [hn, hB], by rw [hn, hB]⟩
   | true =>
    have hy := hye (by rw [hb, hfk.resolve_left (by rw [hb]; simp)]; rfl)
    obtain ⟨s1, s2, s3, s4⟩ := @rE_spec f (W - 1 - k) (X + (k : Nat))
    generalize hEE : rE f (W - 1 - k) (X + (k : Nat)) = EE at *
    refine aw_cond_f rfl ?_
    refine ZZ ?_
    refine WA ?_
    refine aw_loopw (fun m3 F H => ∃ (c : Int), X + (k : Nat) ≤ c ∧ c + m3 = X + (W : Nat) - 1 ∧ rE f m3 c = EE ∧ F = [(1, .c (I ev)), (2, .c (I ph)), (3, .p 0 0 0), (7, .c (I Y)), (8, .c (I Hh)), (9, .c (I X)), (10, .c (I W)), (11, .o 1 0 B'.length cp), (12, .c (I (Y + (i : Nat)))), (13, .c (I c)), (14, .c (I (X + (k : Nat))))] ∧ H = [linB pv v g q, .arr 69 3 cp (lnR B')]) ?_ ?_
    ·refine wk_of [some 0, some 1] (fun _ => [(1, .c (I ev)), (2, .c (I ph)), (3, .p 0 0 0), (7, .c (I Y)), (8, .c (I Hh)), (9, .c (I X)), (10, .c (I W)), (11, .o 1 0 (B').length cp), (12, .c (I (Y + (i : Nat)))), (13, .c (I (X + (k : Nat)))), (14, .c (I (X + (k : Nat))))]) (fun _ => [linB pv v g q, .arr 69 3 cp (lnR (B'))]) (by decide) (ZNL hE) ZCF ZCH (fun _ => ?_)
     exact ⟨W - 1 - k, X + (k : Nat), by omega, by omega, hEE, rfl, rfl⟩
    rintro m3 F H ⟨c, hc1, hc2, hc3, rfl, rfl⟩
    obtain ⟨b2, hb2⟩ : ∃ b, f (c + 1) = b := ⟨_, rfl⟩
    refine WR ?_
    refine al_ef rfl (ef_call0 false (fun _ => lat_v pv v g q _ _ hg (by omega) (by omega)) rfl .fn rfl (by decide) (by kernel_rfl) rfl (fun _ => C0 rfl) (by simp)) ?_
    rintro _ _ ⟨_, _, _, ⟨rfl, rfl⟩, hF, hH⟩
    rw [hat, hb2] at hF
    (refine NST hF hH ?_; clear hF hH; rintro rfl rfl)
    refine WE ?_
    cases b2 with
    | true =>
     have := hfi _ hb2
     obtain ⟨m3, rfl⟩ : ∃ z, m3 = z + 1 := ⟨m3 - 1, by omega⟩
     rw [rE, if_pos hb2] at hc3
     refine aw_cond_t rfl ?_
     refine WA ?_
     refine wk_of [some 0, some 1] (fun _ => [(1, .c (I ev)), (2, .c (I ph)), (3, .p 0 0 0), (7, .c (I Y)), (8, .c (I Hh)), (9, .c (I X)), (10, .c (I W)), (11, .o 1 0 (B').length cp), (12, .c (I (Y + (i : Nat)))), (13, .c (I (c + 1))), (14, .c (I (X + (k : Nat))))]) (fun _ => [linB pv v g q, .arr 69 3 cp (lnR (B'))]) (by decide) (ZNL hE) ZCF ZCH (fun _ => ?_)
     exact ⟨m3, by omega, c + 1, by omega, by omega, hc3, rfl, rfl⟩
    | false =>
     obtain rfl : c = EE := by
      cases m3 with
      | zero => exact hc3
      | succ m3 => rw [rE, if_neg (by rw [hb2]; simp)] at hc3; exact hc3
     obtain ⟨e, he⟩ : ∃ e : Nat, c = X + (e : Nat) := ⟨(c - X).toNat, by omega⟩
     have hs5 := hsk (e := e) (by omega) (fun j h1 h2 => by
      by_cases ej : j = k + 1
      ·rw [ej, show X + ((k + 1 : Nat) : Int) - 1 = X + (k : Nat) by omega]; exact hb
      ·exact s3 _ (by omega) (by omega))
     have hfin : A ++ lnC f (Y + (i : Nat)) X W (e + 1) = B' ++ [(Y + (i : Nat), X + (k : Nat), c)] := by rw [hs5, hy, ← List.append_assoc, hB]
     refine aw_cond_f rfl ?_
     refine ZZ ?_
     refine WR ?_
     refine al_ef rfl (Zapp (KA (t := 65) rfl)) ?_
     rintro _ _ ⟨_, cc, hcc, rfl, rfl⟩
     refine WE ?_
     refine WA ?_
     refine wk_of [some 0, some 1] (fun _ => [(1, .c (I ev)), (2, .c (I ph)), (3, .p 0 0 0), (7, .c (I Y)), (8, .c (I Hh)), (9, .c (I X)), (10, .c (I W)), (11, .o 1 0 (B' ++ [(Y + (i : Nat), X + (k : Nat), c)]).length cc), (12, .c (I (Y + (i : Nat)))), (13, .c (I (c + 1)))]) (fun _ => [linB pv v g q, .arr 69 3 cc (lnR (B' ++ [(Y + (i : Nat), X + (k : Nat), c)]))]) (by decide) (ZNL hE) ZCF ZCH (fun _ => ?_)
     exact ⟨W - (e + 1), by omega, e + 1, cc, by omega, .inl (by rw [show X + ((e + 1 : Nat) : Int) = c + 1 by omega]; exact hb2), by rw [hfin, show X + ((e + 1 : Nat) : Int) = c + 1 by omega], by rw [hfin]⟩
  obtain rfl : k = W := by omega
  rw [← hsn]
  generalize hA2 : lnS (atQ g q) Y X k ev ph (i + 1) = A2 at *
  refine ZZ ?_
  refine WA ?_
  refine wk_of [some 0, some 1] (fun _ => [(1, .c (I ev)), (2, .c (I ph)), (3, .p 0 0 0), (7, .c (I Y)), (8, .c (I Hh)), (9, .c (I X)), (10, .c (I k)), (11, .o 1 0 A2.length cp), (12, .c (I (Y + (i + 1 : Nat))))]) (fun _ => [linB pv v g q, .arr 69 3 cp (lnR A2)]) (by decide) (ZNL hE) ZCF ZCH (fun _ => ?_)
  exact ⟨m - 1, by omega, i + 1, cp, by omega, by rw [hA2], by rw [hA2]⟩
 obtain rfl : i = Hh := by omega
 rw [hA]
 refine ZZ ?_
 refine WA ?_
 exact aret_f1 [] _ rfl rfl rfl rfl (by rw [List.drop_zero, List.take_of_length_le (by simp)]) (by simp) rfl (by decide) (ZNK rfl) (fun _ => .nil) (fun q => ⟨q, rfl, rfl⟩)
set_option maxHeartbeats 1000000 in
theorem center_v (pv v : Value) (g : Grd) (q r c : Int) (hst : 0 ≤ g.st ∧ g.st ≤ 10000) (hr : -20000000 ≤ r ∧ r ≤ 20000000) (hc : -20000000 ≤ c ∧ c ≤ 20000000) : ACalls Tryz.prog 84 [linA pv v g q, .c (I r), .c (I c)] [] fun u H => u = .a [.c (I (ctr g.st q r c).1), .c (I (ctr g.st q r c).2)] ∧ H = [] := by
 have hm : ∀ z : Int, -20000000 ≤ z ∧ z ≤ 20000000 → -400000000000 ≤ z * g.st ∧ z * g.st ≤ 400000000000 := fun z hz => by
  have h1 : (z * g.st).natAbs ≤ 20000000 * 10000 := by rw [Int.natAbs_mul]; exact Nat.mul_le_mul (by omega) (by omega)
  omega
 have h1 := hm r hr
 have h2 := hm c hc
 clear hm
 refine acalls_of (N := 38) Tryz.func84 rfl rfl (by simp) fun E hE => ?_
 by_cases hq : q = 1
 ·rw [ctr, if_pos hq]
  refine WA ?_
  refine WA ?_
  refine aw_cond_t rfl ?_
  refine WA ?_
  refine WA ?_
  refine ZZ ?_
  refine aw_regionT [(0, none), (1, none), (2, none), (3, none), (4, none), (5, none), (6, none), (7, none), (8, none), (9, none), (10, none), (11, none), (12, none), (13, none), (14, none), (15, none), (16, none), (17, none), (18, none), (19, some [])] hMixed (by kernel_rfl) ?_
  refine WQ ?_
  all_goals exact aret_a [] _ rfl (KK (t := 107) rfl) rfl (Cells.box rfl) (by first | (simp; done) | exact Nat.le_refl 2) (by (try simp only [nm, putL, Nat.reduceAdd, cellsOf, cvOf]) <;> rfl) (by decide) (ZNK rfl) (fun _ => C0 rfl) (fun _ => .nil) ⟨rfl, rfl⟩
 ·rw [ctr, if_neg hq]
  refine WA ?_
  refine WA ?_
  refine aw_cond_f rfl ?_
  refine ZZ ?_
  refine WA ?_
  refine ZZ ?_
  refine aw_regionT [(0, none), (1, none), (2, none), (3, none), (4, none), (5, none), (6, none), (7, none), (8, none), (9, none), (10, none), (11, none), (12, none), (13, none), (14, none), (15, none), (16, none), (17, none), (18, none), (19, some [])] hMixed (by kernel_rfl) ?_
  refine WQ ?_
  all_goals exact aret_a [] _ rfl (KK (t := 107) rfl) rfl (Cells.box rfl) (by first | (simp; done) | exact Nat.le_refl 2) (by (try simp only [nm, putL, Nat.reduceAdd, cellsOf, cvOf]) <;> rfl) (by decide) (ZNK rfl) (fun _ => C0 rfl) (fun _ => .nil) ⟨rfl, rfl⟩
set_option maxHeartbeats 1000000 in
theorem points_v (pv v : Value) (g : Grd) (q : Int) (l : Lin) (hst : 0 ≤ g.st ∧ g.st ≤ 10000) (hr : -20000000 ≤ l.1 ∧ l.1 ≤ 20000000) (ha : -20000000 ≤ l.2.1 ∧ l.2.1 ≤ 20000000) (hb : -20000000 ≤ l.2.2 ∧ l.2.2 ≤ 20000000) : ACalls Tryz.prog 37 [linA pv v g q, .c (I l.1), .c (I l.2.1), .c (I l.2.2)] [] fun u H => ∃ v', u = .c (.r v' (sR (ptsL g.st q l))) ∧ H = [] := by
 obtain ⟨r, a, b⟩ := l
 simp only at hr ha hb
 refine acalls_of (N := 26) Tryz.func37 rfl rfl (by simp) fun E hE => ?_
 refine WA ?_
 refine WR ?_
 refine al_ef rfl (ef_call0 false (fun _ => center_v pv v g q _ _ hst hr ha) rfl .fn rfl (by decide) (by kernel_rfl) rfl (fun _ => C0 rfl) (by simp)) ?_
 rintro _ _ ⟨_, _, _, ⟨rfl, rfl⟩, hF, hH⟩
 (refine NST hF hH ?_; clear hF hH; rintro rfl rfl)
 refine WE ?_
 refine WA ?_
 refine aw_if rfl (fun hne => ?_) (fun hne => ?_)
 ·have hp : ptsL g.st q (r, a, b) = [ctr g.st q r a, ctr g.st q r b] := if_pos hne
  rw [hp]
  generalize ctr g.st q r a = c1 at *
  refine WR ?_
  refine al_ef rfl (ef_call0 false (fun _ => center_v pv v g q _ _ hst hr hb) rfl .fn rfl (by decide) (by kernel_rfl) rfl (fun _ => C0 rfl) (by simp)) ?_
  rintro _ _ ⟨_, _, _, ⟨rfl, rfl⟩, hF, hH⟩
  (refine NST hF hH ?_; clear hF hH; rintro rfl rfl)
  refine WO ?_
  refine al_ef rfl (Zapp (KA (t := 52) rfl)) ?_
  rintro _ _ ⟨_, cc, hcc, rfl, rfl⟩
  refine WE ?_
  generalize ctr g.st q r b = c2 at *
  refine WA ?_
  exact aret_f1 [] _ rfl rfl rfl rfl (by rfl) (by rfl) rfl (by decide) (ZNK rfl) (fun _ => .nil) (fun q => ⟨q, rfl, rfl⟩)
 ·have hp : ptsL g.st q (r, a, b) = [ctr g.st q r a] := if_neg hne
  rw [hp]
  refine ZZ ?_
  refine WA ?_
  exact aret_f1 [] _ rfl rfl rfl rfl (by rfl) (by rfl) rfl (by decide) (ZNK rfl) (fun _ => .nil) (fun q => ⟨q, rfl, rfl⟩)
end Go.Proofs.YtfilfijammemfaaGreatDoor
