/- Pairs sorted by names, by value. -/
import Derived.Test.YtcdeonjdipcgpaaGreatDoorQbo
import Derived.Test.YtcdeonjdipcgpaaGreatDoorQbp
import Derived.Test.YtcdeonjdipcgpaaGreatDoorQbh
import Derived.Test.YtcdeonjdipcgpaaGreatDoorQbd
set_option linter.unusedSimpArgs false
set_option linter.unusedVariables false
-- NEWM
namespace Go.Proofs.YtcdeonjdipcgpaaGreatDoor
open Go Go.RowKit
set_option maxRecDepth 100000
set_option maxHeartbeats 4000000 in
theorem told_v (v : Value) (l : List Nt) (at_ : Int) (hl : l.length ≤ 2000) (hs : ∀ x ∈ l, ntF x = 0) (hD : cntD at_ l l.length = cntP at_ l) (hix : ∀ i ∈ cntP at_ l, ∃ k : Nat, i = k ∧ k < l.length) : ACalls Tryz.prog 67 [.c (.r v (noRs l)), .c (I at_)] [] fun u H => ∃ (X : List Jx) (bl : List Nat) (sp : List (Nat × List UInt8 × List UInt8)) (spk : Nat) (lf : List (Nat × List UInt8 × Int)) (lfk : Nat) (us : List (Nat × List UInt8 × Int)) (usk : Nat) (R1 R2 : List Int) (c1 c2 : Nat), bksF l (cntP at_ l) = ((⟨jxs X, sp, spk, lf, lfk, us, usk⟩ : Bk), R1, R2) ∧ BkOk (⟨jxs X, sp, spk, lf, lfk, us, usk⟩ : Bk) 2000 ∧ bl.length = X.length ∧ R1.length ≤ 2000 ∧ R2.length ≤ 2000 ∧ R1.length ≤ c1 ∧ R2.length ≤ c2 ∧ u = .p 0 0 0 ∧ H = [.box [.mp 1, .mp 2, .mp 3, .mp 4, .o 5 0 (R1).length c1, .o 6 0 (R2).length c2], mSP (jlF 0 (jxs X) bl) (X).length, mSS sp spk, mSI lf lfk, mSI us usk, .arr 3 1 c1 (nR (R1)), .arr 32 1 c2 (nR (R2)), .pool (plF jbQ X bl), .pool (X.map jbA)] := by
 have hcl : (cntP at_ l).length ≤ 2000 := by
  have := zf3 at_ l l.length (Nat.le_refl _)
  unfold cntP
  rw [List.length_reverse]
  omega
 refine zj (N := 53) Tryz.func67 rfl rfl (by simp) fun E hE => ?_
 refine WA ?_
 refine ZR ?_
 refine zf rfl (zm1 rfl rfl (by decide)) ?_
 rintro _ _ ⟨rfl, rfl⟩
 refine zf rfl (zm1 rfl rfl (by decide)) ?_
 rintro _ _ ⟨rfl, rfl⟩
 refine zf rfl (zm1 rfl rfl (by decide)) ?_
 rintro _ _ ⟨rfl, rfl⟩
 refine zf rfl (zm1 rfl rfl (by decide)) ?_
 rintro _ _ ⟨rfl, rfl⟩
 refine WE ?_
 refine WR ?_
 refine zf rfl (zc false (fun _ => countingD_v v l at_ (by omega)) rfl .fn rfl (by decide) (by kernel_rfl) rfl (fun _ => C0 rfl) (by simp)) ?_
 rintro _ _ ⟨_, _, _, ⟨c, hc, rfl, rfl⟩, hF, hH⟩
 (refine NST hF hH ?_; clear hF hH; rintro rfl rfl)
 refine WE ?_
 rw [hD] at *
 refine zB3 (wk_pool0 (K := fun F' H' => F' = _ ∧ H' = _) ⟨rfl, rfl⟩) ?_
 rintro _ _ ⟨rfl, rfl⟩
 refine zB3 (wk_pool0 (K := fun F' H' => F' = _ ∧ H' = _) ⟨rfl, rfl⟩) ?_
 rintro _ _ ⟨rfl, rfl⟩
 refine zC (fun m F H => ∃ (k : Nat) (X : List Jx) (bl : List Nat) (sp : List (Nat × List UInt8 × List UInt8)) (spk : Nat) (lf : List (Nat × List UInt8 × Int)) (lfk : Nat) (us : List (Nat × List UInt8 × Int)) (usk : Nat) (R1 R2 : List Int) (c1 c2 : Nat), m + k = (cntP at_ l).length ∧ bkK l (cntP at_ l) k = ((⟨jxs X, sp, spk, lf, lfk, us, usk⟩ : Bk), R1, R2) ∧ BkOk (⟨jxs X, sp, spk, lf, lfk, us, usk⟩ : Bk) k ∧ bl.length = X.length ∧ R1.length ≤ c1 ∧ R2.length ≤ c2 ∧ F = [(0, .c (.r v (noRs l))), (5, .p 0 0 0), (17, .o 9 0 (cntP at_ l).length c), (18, .c (I (cntP at_ l).length)), (19, .c (I k))] ∧ H = [.box [.mp 1, .mp 2, .mp 3, .mp 4, .o 5 0 (R1).length c1, .o 6 0 (R2).length c2], mSP (jlF 0 (jxs X) bl) (X).length, mSS sp spk, mSI lf lfk, mSI us usk, .arr 3 1 c1 (nR (R1)), .arr 32 1 c2 (nR (R2)), .pool (plF jbQ X bl), .pool (X.map jbA), .arr 3 1 c (nR (cntP at_ l))]) ?_ ?_
 ·refine zn [some 4, some 0, some 1, some 2, some 3, none, none, some 6, some 7, some 5] (fun _ => [(0, .c (.r v (noRs l))), (5, .p 0 0 0), (17, .o 9 0 (cntP at_ l).length c), (18, .c (I (cntP at_ l).length)), (19, .c (I (0 : Nat)))]) (fun _ => [.box [.mp 1, .mp 2, .mp 3, .mp 4, .o 5 0 0 0, .o 6 0 0 0], mSP [] 0, mSS [] 0, mSI [] 0, mSI [] 0, .arr 3 1 0 [], .arr 32 1 0 [], .pool [], .pool [], .arr 3 1 c (nR (cntP at_ l))]) (by decide) (ZNL hE) ZCF ZCH (fun _ => ?_)
  exact ⟨_, 0, [], [], [], 0, [], 0, [], 0, [], [], 0, 0, Nat.add_zero _, rfl, .zero, rfl, Nat.le_refl _, Nat.le_refl _, rfl, rfl⟩
 rintro m F H ⟨k, X, bl, sp, spk, lf, lfk, us, usk, R1, R2, c1, c2, hk, hbk, hB, hbl, hc1, hc2, rfl, rfl⟩
 have hRl := bkK_len l (cntP at_ l) k
 rw [hbk] at hRl
 simp only at hRl
 refine WA ?_
 refine zu rfl (fun hlt => ?_) (fun hge => ?_)
 ·obtain ⟨i0, hi0⟩ : ∃ z, (cntP at_ l)[k]? = some z := ⟨_, List.getElem?_eq_getElem (by omega)⟩
  obtain ⟨i, rfl, hil⟩ := hix i0 (List.mem_of_getElem? hi0)
  have hrow : (nR (cntP at_ l))[k]? = some [I i] := by rw [List.getElem?_map, hi0]; rfl
  obtain ⟨x, hx⟩ : ∃ x, l[i]? = some x := ⟨_, List.getElem?_eq_getElem hil⟩
  have hrow0 := zb2 hx
  have hxn := hs x (List.mem_of_getElem? hx)
  have hst := bkK_next hi0 (show l[((i : Nat) : Int).toNat]? = some x from hx)
  rw [hbk] at hst
  have hn6 : x.kd = 6 → 0 ≤ x.n ∧ x.n ≤ 100000000 := fun h => by have := (ntF_ok hxn).2.2.2 h; omega
  obtain ⟨st, no, xat, kn, pr, jb, sn, n, of_, ot⟩ := x
  have hrow2 : (noRs l)[i]? = some [T st, I no, I xat, I kn, T pr, T jb, T sn, I n, T of_, I ot] := hrow0
  refine WA ?_
  refine WR ?_
  refine zf rfl (zW [0, 1, 2, 3, 4, 5, 6, 7, 8] (fun _ => [.box [.mp 1, .mp 2, .mp 3, .mp 4, .o 5 0 (R1).length c1, .o 6 0 (R2).length c2], mSP (jlF 0 (jxs X) bl) (X).length, mSS sp spk, mSI lf lfk, mSI us usk, .arr 3 1 c1 (nR (R1)), .arr 32 1 c2 (nR (R2)), .pool (plF jbQ X bl), .pool (X.map jbA)]) false (fun _ => do_v X bl sp spk lf lfk us usk c1 c2 R1 R2 ⟨st, no, xat, kn, pr, jb, sn, n, of_, ot⟩ hB.js hbl hB.sp hB.lf hB.us (hB.spb (by omega)) hn6) rfl .fn rfl (by decide) (by kernel_rfl) rfl (fun _ => .cons (.p rfl) (.cons (.aL (C0 rfl)) .nil)) (by decide) ZCH (by simp)) ?_
  rintro F1 H1 ⟨_, _, _, _, ⟨X2, bl2, b2, rfl, hb2, hj2, hbl2, rfl⟩, hF, hH⟩
  rw [zF] at hF; (refine NSU hF hH ?_; clear hF hH; rintro rfl rfl)
  refine WE ?_
  generalize hrf : rfE (⟨jxs X, sp, spk, lf, lfk, us, usk⟩ : Bk) ⟨st, no, xat, kn, pr, jb, sn, n, of_, ot⟩ = e at hst hb2 ⊢
  refine WA ?_
  refine zu rfl (fun h1 => ?_) (fun h1 => ?_)
  ·have e1 : (nR R1).length = R1.length := by simp
   have e2 : (nR R2).length = R2.length := by simp
   rw [if_neg h1] at hb2
   subst hb2
   simp only at hj2
   have hst2 : bkK l (cntP at_ l) (k + 1) = ((⟨jxs X2, sp, spk, lf, lfk, us, usk⟩ : Bk), R1 ++ [(i : Int)], R2 ++ [e]) := by rw [hst, bkStep]; simp only; rw [hrf, if_pos h1, hj2]
   have hB2 : BkOk (⟨jxs X2, sp, spk, lf, lfk, us, usk⟩ : Bk) (k + 1) := by rw [← hj2]; exact hB.more
   refine ZZ ?_
   refine zo3 [[(0, none), (1, none), (2, none), (3, none), (4, none), (5, none), (6, none), (9, none), (10, none), (11, none), (12, none), (13, none), (7, some [0, 1, 2, 3, 4, 5, 9, 10, 11, 12, 13]), (8, some [0, 1, 9, 10, 11, 12, 13]), (14, some [0, 1, 2, 3, 4, 5, 6, 9, 10, 11, 12]), (15, some [0, 1]), (16, none), (17, none), (18, some [1]), (19, none), (20, none), (21, some [])], [(0, none), (1, none), (2, none), (3, none), (4, none), (5, none), (6, none), (9, none), (10, none), (11, none), (12, none), (13, none), (7, some [0, 1, 2, 3, 4, 5, 9, 10, 11, 12, 13]), (14, some [0, 1, 2, 3, 4, 5, 6, 9, 10, 11, 12]), (8, some [0, 1, 9, 10, 11, 12, 13]), (15, some [0, 1]), (16, none), (17, none), (18, some [1]), (19, none), (20, none), (21, some [])], [(0, none), (1, none), (2, none), (3, none), (4, none), (5, none), (6, none), (9, none), (10, none), (11, none), (12, none), (13, none), (14, some [0, 1, 2, 3, 4, 5, 6, 9, 10, 11, 12]), (7, some [0, 1, 2, 3, 4, 5, 9, 10, 11, 12, 13]), (8, some [0, 1, 9, 10, 11, 12, 13]), (15, some [0, 1]), (16, none), (17, none), (18, some [1]), (19, none), (20, none), (21, some [])]] zm (by kernel_rfl) ?_
   focus
    refine WM ?_
    refine zs2 (by rfl) (by rfl) (by rfl) ?_ ?_
    rotate_left
    refine WM ?_
    refine zi1 (i := 8) (by rfl) (by rfl) rfl rfl (Zapp (news := [[I i]]) (j := 1) (hE := KA (t := 22) rfl) (hsrc := .own rfl rfl rfl) (hj := rfl) (hle := by omega)) ?_
    rintro F1 H1 ⟨_, cc1, hcc1, hF, hH⟩
    (refine NSU hF hH ?_; clear hF hH; rintro rfl rfl)
    refine ⟨AGX, ?_⟩
    refine zi1 (i := 15) (by rfl) (by rfl) rfl rfl (Zapp (news := [[I e]]) (j := 1) (hE := KA (t := 31) rfl) (hsrc := .own rfl rfl rfl) (hj := rfl) (hle := by omega)) ?_
    rintro F1 H1 ⟨_, cc2, hcc2, hF, hH⟩
    (refine NSU hF hH ?_; clear hF hH; rintro rfl rfl)
    refine ⟨AGX, ?_⟩
    refine WN ?_
    rotate_right
    refine WM ?_
    refine zs2 (by rfl) (by rfl) (by rfl) ?_ ?_
    rotate_left
    refine WM ?_
    refine zi1 (i := 8) (by rfl) (by rfl) rfl rfl (Zapp (news := [[I i]]) (j := 1) (hE := KA (t := 22) rfl) (hsrc := .own rfl rfl rfl) (hj := rfl) (hle := by omega)) ?_
    rintro F1 H1 ⟨_, cc1, hcc1, hF, hH⟩
    (refine NSU hF hH ?_; clear hF hH; rintro rfl rfl)
    refine ⟨AGX, ?_⟩
    refine zi1 (i := 15) (by rfl) (by rfl) rfl rfl (Zapp (news := [[I e]]) (j := 1) (hE := KA (t := 31) rfl) (hsrc := .own rfl rfl rfl) (hj := rfl) (hle := by omega)) ?_
    rintro F1 H1 ⟨_, cc2, hcc2, hF, hH⟩
    (refine NSU hF hH ?_; clear hF hH; rintro rfl rfl)
    refine ⟨AGX, ?_⟩
    refine WN ?_
    rotate_right
    refine zi1 (i := 8) (by rfl) (by rfl) rfl rfl (Zapp (news := [[I i]]) (j := 1) (hE := KA (t := 22) rfl) (hsrc := .own rfl rfl rfl) (hj := rfl) (hle := by omega)) ?_
    rintro F1 H1 ⟨_, cc1, hcc1, hF, hH⟩
    (refine NSU hF hH ?_; clear hF hH; rintro rfl rfl)
    refine ⟨AGX, ?_⟩
    refine WM ?_
    refine zi1 (i := 15) (by rfl) (by rfl) rfl rfl (Zapp (news := [[I e]]) (j := 1) (hE := KA (t := 31) rfl) (hsrc := .own rfl rfl rfl) (hj := rfl) (hle := by omega)) ?_
    rintro F1 H1 ⟨_, cc2, hcc2, hF, hH⟩
    (refine NSU hF hH ?_; clear hF hH; rintro rfl rfl)
    refine ⟨AGX, ?_⟩
    refine WN ?_
   all_goals (
    refine WA ?_
    refine zn [some 0, some 1, some 2, some 3, some 4, some 5, some 6, some 7, some 8, some 9] (fun _ => [(0, .c (.r v (noRs l))), (5, .p 0 0 0), (17, .o 9 0 (cntP at_ l).length c), (18, .c (I (cntP at_ l).length)), (19, .c (I (k + 1 : Nat)))]) (fun _ => [.box [.mp 1, .mp 2, .mp 3, .mp 4, .o 5 0 (R1 ++ [(i : Int)]).length cc1, .o 6 0 (R2 ++ [e]).length cc2], mSP (jlF 0 (jxs X2) bl2) (X2).length, mSS sp spk, mSI lf lfk, mSI us usk, .arr 3 1 cc1 (nR (R1 ++ [(i : Int)])), .arr 32 1 cc2 (nR (R2 ++ [e])), .pool (plF jbQ X2 bl2), .pool (X2.map jbA), .arr 3 1 c (nR (cntP at_ l))]) (by decide) (ZNL hE) ZCF (by simp only [nR, List.map_append, List.length_append, List.length_singleton]; exact ZCH) (fun _ => ?_)
    exact ⟨m - 1, by omega, k + 1, X2, bl2, sp, spk, lf, lfk, us, usk, _, _, cc1, cc2, by omega, hst2, hB2, hbl2, by simp at hcc1 ⊢; omega, by simp at hcc2 ⊢; omega, rfl, rfl⟩)
  ·have h0 : e = 0 := Decidable.not_not.1 h1
   rw [if_pos h0] at hb2
   rw [h0] at hrf
   have hst2 : bkK l (cntP at_ l) (k + 1) = (ntS (⟨jxs X, sp, spk, lf, lfk, us, usk⟩ : Bk) ⟨st, no, xat, kn, pr, jb, sn, n, of_, ot⟩, R1, R2) := by rw [hst, bkStep]; simp only; rw [hrf, if_neg (by simp)]
   have hnx := hB.next hxn hrf
   rw [← hb2] at hst2 hnx
   obtain ⟨js3, sp3, spk3, lf3, lfk3, us3, usk3⟩ := b2
   simp only at hj2
   subst hj2
   clear hb2
   refine ZZ ?_
   refine WA ?_
   refine zn [some 0, some 1, some 2, some 3, some 4, some 5, some 6, some 7, some 8, some 9] (fun _ => [(0, .c (.r v (noRs l))), (5, .p 0 0 0), (17, .o 9 0 (cntP at_ l).length c), (18, .c (I (cntP at_ l).length)), (19, .c (I (k + 1 : Nat)))]) (fun _ => [.box [.mp 1, .mp 2, .mp 3, .mp 4, .o 5 0 (R1).length c1, .o 6 0 (R2).length c2], mSP (jlF 0 (jxs X2) bl2) (X2).length, mSS sp3 spk3, mSI lf3 lfk3, mSI us3 usk3, .arr 3 1 c1 (nR (R1)), .arr 32 1 c2 (nR (R2)), .pool (plF jbQ X2 bl2), .pool (X2.map jbA), .arr 3 1 c (nR (cntP at_ l))]) (by decide) (ZNL hE) ZCF ZCH (fun _ => ?_)
   exact ⟨m - 1, by omega, k + 1, X2, bl2, sp3, spk3, lf3, lfk3, us3, usk3, R1, R2, c1, c2, by omega, hst2, hnx, hbl2, hc1, hc2, rfl, rfl⟩
 obtain rfl : k = (cntP at_ l).length := by omega
 refine ZZ ?_
 refine WA ?_
 have hBB : BkOk (⟨jxs X, sp, spk, lf, lfk, us, usk⟩ : Bk) 2000 := ⟨hB.js, hB.sp, hB.lf, hB.us, hB.l, fun s => ⟨(hB.u s).1, by have := (hB.u s).2; omega⟩⟩
 exact aret_p [some 0, some 1, some 2, some 3, some 4, some 5, some 6, some 7, some 8] (fun _ => [.box [.mp 1, .mp 2, .mp 3, .mp 4, .o 5 0 (R1).length c1, .o 6 0 (R2).length c2], mSP (jlF 0 (jxs X) bl) (X).length, mSS sp spk, mSI lf lfk, mSI us usk, .arr 3 1 c1 (nR (R1)), .arr 32 1 c2 (nR (R2)), .pool (plF jbQ X bl), .pool (X.map jbA)]) rfl rfl rfl (by decide) (ZNK rfl) ZCH (fun _ => ⟨X, bl, sp, spk, lf, lfk, us, usk, R1, R2, c1, c2, hbk, hBB, hbl, by omega, by omega, hc1, hc2, rfl, rfl⟩)
end Go.Proofs.YtcdeonjdipcgpaaGreatDoor
-- NEWM
namespace Go.Proofs.YtcdeonjdipcgpaaGreatDoor
open Go Go.RowKit
set_option maxRecDepth 100000
def jobJ (l : List Nt) (s : List UInt8) (at_ : Int) : Option Jb := (nmI (bksF l (cntP at_ l)).1.js s).bind fun k => (bksF l (cntP at_ l)).1.js[k]?
theorem refusedD_v (v : Value) (l : List Nt) (at_ : Int) (hc : chkN l = 0) : ACalls Tryz.prog 21 [.c (.r v (noRs l)), .c (I at_)] [] fun u H => ∃ (R1 R2 : List Int) (c1 c2 : Nat), R1 = (bksF l (cntP at_ l)).2.1 ∧ R2 = (bksF l (cntP at_ l)).2.2 ∧ R1.length ≤ 2000 ∧ R2.length ≤ 2000 ∧ R1.length ≤ c1 ∧ R2.length ≤ c2 ∧ u = .t [.o 0 0 R1.length c1, .o 1 0 R2.length c2] ∧ H = [.arr 3 1 c1 (nR R1), .arr 32 1 c2 (nR R2)] := by
 refine zj (N := 18) Tryz.func21 rfl rfl (by simp) fun E hE => ?_
 refine WA ?_
 refine WR ?_
 refine zf rfl (zc false (fun _ => told_v v l at_ (zH hc).1 (zH hc).2 (zO1 hc).symm (zA3 hc)) rfl .fn rfl (by decide) (by kernel_rfl) rfl (fun _ => C0 rfl) (by simp)) ?_
 rintro _ _ ⟨_, _, _, ⟨X, bl, sp, spk, lf, lfk, us, usk, R1, R2, c1, c2, hbf, hB, hbl, h1l, h2l, hc1, hc2, rfl, rfl⟩, hF, hH⟩
 (refine NST hF hH ?_; clear hF hH; rintro rfl rfl)
 refine WE ?_
 refine ZZ ?_
 refine zg [(0, none), (1, none), (2, none), (3, none), (4, none), (5, none), (6, none), (7, none), (8, none), (9, none)] zm (by kernel_rfl) ?_
 refine WQ ?_
 exact zc1 (us := [.o 5 0 R1.length c1, .o 6 0 R2.length c2]) [some 5, some 6] (fun _ => .t [.o 0 0 R1.length c1, .o 1 0 R2.length c2]) (fun _ => [.arr 3 1 c1 (nR R1), .arr 32 1 c2 (nR R2)]) (.tmp rfl (.tmp rfl .nil)) (by decide) (ZNK rfl) (fun _ => .tL (.cons (.o rfl rfl) (.cons (.o rfl rfl) .nil))) ZCH (fun _ => ⟨R1, R2, c1, c2, by rw [hbf], by rw [hbf], h1l, h2l, hc1, hc2, rfl, rfl⟩)
theorem progressD_v (v : Value) (l : List Nt) (at_ : Int) (hc : chkN l = 0) (s : List UInt8) : ACalls Tryz.prog 25 [.c (.r v (noRs l)), .c (T s), .c (I at_)] [] fun u H => ((jobJ l s at_ = none ∧ u = .t [.c (I 0), .c (I 0), .c (B false)]) ∨ ∃ j, jobJ l s at_ = some j ∧ u = .t [.c (I j.ly.length), .c (I j.all), .c (B true)]) ∧ H = [] := by
 have hpx : PoolIx 7 := ⟨trivial⟩
 refine zj (N := 33) Tryz.func25 rfl rfl (by simp) fun E hE => ?_
 refine WA ?_
 refine WR ?_
 refine zf rfl (zc false (fun _ => told_v v l at_ (zH hc).1 (zH hc).2 (zO1 hc).symm (zA3 hc)) rfl .fn rfl (by decide) (by kernel_rfl) rfl (fun _ => C0 rfl) (by simp)) ?_
 rintro _ _ ⟨_, _, _, ⟨X, bl, sp, spk, lf, lfk, us, usk, R1, R2, c1, c2, hbf, hB, hbl, h1l, h2l, hc1, hc2, rfl, rfl⟩, hF, hH⟩
 (refine NST hF hH ?_; clear hF hH; rintro rfl rfl)
 obtain ⟨vv, hv1⟩ : ∃ q, (mget (jlF 0 (jxs X) bl) s).getD (.pointer none) = q := ⟨_, rfl⟩
 obtain ⟨oo, hv2⟩ : ∃ q, (mget (jlF 0 (jxs X) bl) s).isSome = q := ⟨_, rfl⟩
 iterate 4 refine WX1 ?_
 refine ZA (rd_lkJ2 (k := s) (l := (jlF 0 (jxs X) bl)) hv1 hv2 rfl rfl rfl rfl) ?_
 refine WE ?_
 refine WA ?_
 have hbj : bl.length = (jxs X).length := by rw [hbl, List.length_map]
 rcases hnj : nmI (jxs X) s with _ | q
 ·rw [zZ1 hbj hnj] at hv1 hv2
  subst hv1
  subst hv2
  refine zb rfl ?_
  refine WA ?_
  exact zc1 (us := [.c (I 0), .c (I 0), .c (B false)]) [] (fun _ => .t [.c (I 0), .c (I 0), .c (B false)]) (fun _ => []) (.tmp rfl (.tmp rfl (.tmp rfl .nil))) (by decide) (ZNK rfl) (fun _ => .tL (.cons (.c rfl) (.cons (.c rfl) (.cons (.c rfl) .nil)))) ZCH (fun _ => ⟨.inl ⟨by unfold jobJ; rw [hbf]; simp only; rw [hnj]; rfl, rfl⟩, rfl⟩)
 ·obtain ⟨j, hj, _⟩ := nmI_some hnj
  obtain ⟨b0, hb1, hb2⟩ := zc3 hbj hnj
  rw [hb2] at hv1 hv2
  subst hv1
  subst hv2
  obtain ⟨⟨j1, A, c⟩, hx, rfl⟩ : ∃ x, X[q]? = some x ∧ x.1 = j := by
   rw [List.getElem?_map] at hj
   cases hxq : X[q]? with
   | none => simp [hxq] at hj
   | some x => exact ⟨x, rfl, by simpa [hxq] using hj⟩
  have hin : InPool q b0 (plF jbQ X bl) [T j1.pr, T (stW j1.st), .s (.slice A j1.ly.length c), I j1.all, I j1.beg, I (if j1.st = 1 then j1.en else 0)] := ⟨zx2 hx hb1⟩
  refine za rfl ?_
  refine ZZ ?_
  refine zg [(0, none), (1, none), (2, none), (3, none), (4, none), (5, none), (6, none), (7, none), (8, none), (9, none), (10, none), (11, none)] zm (by kernel_rfl) ?_
  refine WQ ?_
  exact zc1 (us := [.c (I j1.ly.length), .c (I j1.all), .c (B true)]) [] (fun _ => .t [.c (I j1.ly.length), .c (I j1.all), .c (B true)]) (fun _ => []) (.tmp rfl (.tmp rfl (.tmp rfl .nil))) (by decide) (ZNK rfl) (fun _ => .tL (.cons (.c rfl) (.cons (.c rfl) (.cons (.c rfl) .nil)))) ZCH (fun _ => ⟨.inr ⟨j1, by unfold jobJ; rw [hbf]; simp only; rw [hnj]; exact hj, rfl⟩, rfl⟩)
theorem usedD_v (v : Value) (l : List Nt) (at_ : Int) (hc : chkN l = 0) (s : List UInt8) : ACalls Tryz.prog 26 [.c (.r v (noRs l)), .c (T s), .c (I at_)] [] fun u H => u = .c (I ((mget (bksF l (cntP at_ l)).1.us s).getD 0)) ∧ H = [] := by
 refine zj (N := 15) Tryz.func26 rfl rfl (by simp) fun E hE => ?_
 refine WA ?_
 refine WR ?_
 refine zf rfl (zc false (fun _ => told_v v l at_ (zH hc).1 (zH hc).2 (zO1 hc).symm (zA3 hc)) rfl .fn rfl (by decide) (by kernel_rfl) rfl (fun _ => C0 rfl) (by simp)) ?_
 rintro _ _ ⟨_, _, _, ⟨X, bl, sp, spk, lf, lfk, us, usk, R1, R2, c1, c2, hbf, hB, hbl, h1l, h2l, hc1, hc2, rfl, rfl⟩, hF, hH⟩
 (refine NST hF hH ?_; clear hF hH; rintro rfl rfl)
 obtain ⟨uv, huv⟩ : ∃ q, (mget us s).getD 0 = q := ⟨_, rfl⟩
 iterate 4 refine WX1 ?_
 refine ZA (zX (k := s) (l := us) huv rfl rfl rfl rfl) ?_
 refine WE ?_
 exact ze [] _ rfl rfl rfl (by decide) (ZNK rfl) (fun _ => .nil) ⟨by rw [hbf, ← huv], rfl⟩
end Go.Proofs.YtcdeonjdipcgpaaGreatDoor
-- NEWM
namespace Go.Proofs.YtcdeonjdipcgpaaGreatDoor
open Go Go.RowKit Go.Shelf
set_option maxRecDepth 100000
def sortPL_ren : Go.Shelf.Ren := ⟨fun | 6 => 117 | 15 => 140 | 14 => 177 | 28 => 209 | 29 => 210 | 20 => 240 | 21 => 241 | 22 => 242 | 23 => 243 | 24 => 244 | 25 => 245 | 26 => 246 | 27 => 247 | 46 => 299 | 47 => 271 | 48 => 272 | 49 => 300 | 50 => 301 | 57 => 332 | n => n, fun | 22 => 35 | 24 => 56 | 25 => 186 | 3 => 3 | 39 => 210 | 0 => 0 | 53 => 262 | 55 => 265 | 4 => 4 | 46 => 277 | 45 => 276 | 50 => 170 | 5 => 5 | 9 => 9 | 66 => 346 | 70 => 350 | 76 => 393 | 77 => 394 | n => n, fun | n => n⟩
theorem sortPL : Go.Proofs.SlLaysF0.n6 Tryz.prog sortPL_ren := {
 mixed := by kernel_rfl
 f6 := ⟨Tryz.f117.name, by decide, Tryz.func117.trans (congrArg some (by kernel_rfl))⟩
 f14 := ⟨Tryz.f177.name, by decide, Tryz.func177.trans (congrArg some (by kernel_rfl))⟩
 f15 := Tryz.func140.trans (congrArg some (by kernel_rfl))
 f20 := ⟨Tryz.f240.name, by decide, Tryz.func240.trans (congrArg some (by kernel_rfl))⟩
 f21 := ⟨Tryz.f241.name, by decide, Tryz.func241.trans (congrArg some (by kernel_rfl))⟩
 f22 := ⟨Tryz.f242.name, by decide, Tryz.func242.trans (congrArg some (by kernel_rfl))⟩
 f23 := ⟨Tryz.f243.name, by decide, Tryz.func243.trans (congrArg some (by kernel_rfl))⟩
 f24 := ⟨Tryz.f244.name, by decide, Tryz.func244.trans (congrArg some (by kernel_rfl))⟩
 f25 := ⟨Tryz.f245.name, by decide, Tryz.func245.trans (congrArg some (by kernel_rfl))⟩
 f26 := ⟨Tryz.f246.name, by decide, Tryz.func246.trans (congrArg some (by kernel_rfl))⟩
 f27 := ⟨Tryz.f247.name, by decide, Tryz.func247.trans (congrArg some (by kernel_rfl))⟩
 f28 := Tryz.func209.trans (congrArg some (by kernel_rfl))
 f29 := Tryz.func210.trans (congrArg some (by kernel_rfl))
 f46 := ⟨Tryz.f299.name, by decide, Tryz.func299.trans (congrArg some (by kernel_rfl))⟩
 f47 := Tryz.func271.trans (congrArg some (by kernel_rfl))
 f48 := Tryz.func272.trans (congrArg some (by kernel_rfl))
 f49 := ⟨Tryz.f300.name, by decide, Tryz.func300.trans (congrArg some (by kernel_rfl))⟩
 f50 := ⟨Tryz.f301.name, by decide, Tryz.func301.trans (congrArg some (by kernel_rfl))⟩
 f57 := ⟨Tryz.f332.name, by decide, Tryz.func332.trans (congrArg some (by kernel_rfl))⟩
 t0 := Tryz.underlying0
 a0 := Tryz.isAgg0
 z0 := Tryz.sizeOf0
 v0 := Tryz.zeroValue0
 t3 := Tryz.underlying3
 a3 := Tryz.isAgg3
 z3 := Tryz.sizeOf3
 v3 := Tryz.zeroValue3
 t4 := Tryz.underlying4
 a4 := Tryz.isAgg4
 z4 := Tryz.sizeOf4
 v4 := Tryz.zeroValue4
 t5 := Tryz.underlying5
 a5 := Tryz.isAgg5
 z5 := Tryz.sizeOf5
 v5 := Tryz.zeroValue5
 t9 := Tryz.underlying9
 a9 := Tryz.isAgg9
 z9 := Tryz.sizeOf9
 v9 := Tryz.zeroValue9
 t22 := Tryz.underlying35
 a22 := Tryz.isAgg35
 z22 := Tryz.sizeOf35
 v22 := Tryz.zeroValue35
 t25 := Tryz.underlying186
 a25 := Tryz.isAgg186
 z25 := Tryz.sizeOf186
 v25 := Tryz.zeroValue186
 t39 := Tryz.underlying210
 a39 := Tryz.isAgg210
 z39 := Tryz.sizeOf210
 v39 := Tryz.zeroValue210
 t45 := Tryz.underlying276
 a45 := Tryz.isAgg276
 z45 := Tryz.sizeOf276
 v45 := Tryz.zeroValue276
 t46 := Tryz.underlying277
 a46 := Tryz.isAgg277
 z46 := Tryz.sizeOf277
 v46 := Tryz.zeroValue277
 t50 := Tryz.underlying170
 a50 := Tryz.isAgg170
 z50 := Tryz.sizeOf170
 v50 := Tryz.zeroValue170
 t53 := Tryz.underlying262
 a53 := Tryz.isAgg262
 z53 := Tryz.sizeOf262
 v53 := Tryz.zeroValue262
 t55 := Tryz.underlying265
 a55 := Tryz.isAgg265
 z55 := Tryz.sizeOf265
 v55 := Tryz.zeroValue265
 t66 := Tryz.underlying346
 a66 := Tryz.isAgg346
 z66 := Tryz.sizeOf346
 v66 := Tryz.zeroValue346
 t70 := Tryz.underlying350
 a70 := Tryz.isAgg350
 z70 := Tryz.sizeOf350
 v70 := Tryz.zeroValue350
 t76 := Tryz.underlying393
 a76 := Tryz.isAgg393
 z76 := Tryz.sizeOf393
 v76 := Tryz.zeroValue393
 t77 := Tryz.underlying394
 a77 := Tryz.isAgg394
 z77 := Tryz.sizeOf394
 v77 := Tryz.zeroValue394 }
abbrev Pr := List UInt8 × List UInt8
abbrev prR (x : Pr) : List CV := [T x.1, T x.2]
abbrev prRs (l : List Pr) : List (List CV) := l.map prR
abbrev prA (x : Pr) : AV := .a [.c (T x.1), .c (T x.2)]
def prOf : List CV → Pr
 | [.s (.string a), .s (.string b)] => (a.data.toList, b.data.toList)
 | _ => ([], [])
theorem prOf_R (x : Pr) : prOf (prR x) = x := by
 obtain ⟨a, b⟩ := x
 simp [prR, prOf]
theorem prOf_Rs (l : List Pr) : (prRs l).map prOf = l := by
 rw [List.map_map]
 exact (List.map_congr_left fun s _ => prOf_R s).trans (List.map_id l)
theorem cmpB_irr (a : List UInt8) : ¬ cmpB a a < 0 := fun h => by
 have := (cmpB_eq (a := a) (b := a)).2 rfl
 omega
theorem cmpB_nt {a b c : List UInt8} (h1 : ¬ cmpB a b < 0) (h2 : ¬ cmpB b c < 0) : ¬ cmpB a c < 0 := fun h => by
 have n1 := cmpB_neg (a := a) (b := b)
 by_cases e1 : cmpB a b = 0
 ·rw [← cmpB_eq.1 e1] at h2
  exact h2 h
 ·have h3 : cmpB b a < 0 := by omega
  exact h2 (zi4 h3 h)
theorem sortP_v (g : FuncId) (hg : okFn Tryz.prog g = true) (hc : ∀ a b : Pr, ACalls Tryz.prog g [prA a, prA b] [] fun u H => u = .c (I (cmpB a.1 b.1)) ∧ H = []) (l : List Pr) (c : Nat) (hl : l.length ≤ 1000000) : ACallsX true Tryz.prog 117 [.o 0 0 l.length c, .f (.func g) []] [.arr 56 2 c (prRs l)] fun u H => ∃ l' : List Pr, (l'.Perm l ∧ l'.Pairwise fun a b => ¬ cmpB b.1 a.1 < 0) ∧ u = .t [] ∧ H = [.arr 56 2 c (prRs l')] := by
 have h := acalls_sort sortPL (k := 2) (fun w => Tryz.isAgg56 w) (fun w => Tryz.sizeOf56 w) (fun x => ∃ s : Pr, x = prR s) (fun x y => cmpB (prOf x).1 (prOf y).1) (g := g) hg
  (by rintro _ ⟨s, rfl⟩; rw [prOf_R]; exact cmpB_irr s.1)
  (by rintro _ _ _ ⟨a, rfl⟩ ⟨b, rfl⟩ ⟨c, rfl⟩; simp only [prOf_R]; exact fun h1 h2 => zi4 h1 h2)
  (by rintro _ _ _ ⟨a, rfl⟩ ⟨b, rfl⟩ ⟨c, rfl⟩; simp only [prOf_R]; exact fun h1 h2 => cmpB_nt h1 h2)
  (by rintro _ _ ⟨a, rfl⟩ ⟨b, rfl⟩; simp only [prOf_R]; exact hc a b)
  (prRs l) (by intro r hr; obtain ⟨s, _, rfl⟩ := List.mem_map.1 hr; exact ⟨s, rfl⟩) (by simp; omega) (e := 56) (cap := c) (n := l.length) (c := c) (pn := true) (by simp)
 refine ACallsX.mono h fun u H => ?_
 rintro ⟨rows', rfl, rfl, hp, hs⟩
 have hrow : ∀ r ∈ rows', ∃ s : Pr, r = prR s := fun r hr => by
  obtain ⟨s, _, rfl⟩ := List.mem_map.1 (hp.subset hr); exact ⟨s, rfl⟩
 refine ⟨rows'.map prOf, ⟨by have h2 := hp.map prOf; rwa [prOf_Rs] at h2, ?_⟩, rfl, ?_⟩
 ·rw [List.pairwise_map]
  exact hs
 ·congr 2
  show rows' = (rows'.map prOf).map prR
  rw [List.map_map]
  refine (List.map_id _).symm.trans (List.map_congr_left fun r hr => ?_)
  obtain ⟨s, rfl⟩ := hrow r hr
  simp [prOf_R]
theorem sorted1_v (a b : Pr) : ACalls Tryz.prog 118 [prA a, prA b] [] fun u H => u = .c (I (cmpB a.1 b.1)) ∧ H = [] := by
 refine zj (N := 10) Tryz.func118 rfl rfl (by simp) fun E hE => ?_
 repeat' (first
  | (with_reducible refine zI ?_) | (with_reducible refine zG ?_) | (with_reducible refine zL ?_) | (with_reducible refine zR ?_) | (with_reducible refine zP ?_) | (with_reducible refine zS ?_) | (with_reducible refine zQ rfl ?_) | (with_reducible refine zM ?_) | (with_reducible refine zz ?_) | (with_reducible refine zq ?_) | (with_reducible refine zJ ?_) | (with_reducible refine zB ?_)
  | refine zb rfl ?_ | refine za rfl ?_ | refine zA rfl (by assumption) ?_ | refine zw rfl (by assumption) ?_ | refine zu rfl (fun _ => ?_) (fun _ => ?_) | refine zt rfl (fun _ => ?_) (fun _ => ?_)
  | (refine zh (id := 1) ?_
     refine WO ?_
     refine zf rfl (zc false (fun _ => scmp_v _ _) rfl .fn rfl (by decide) (by kernel_rfl) rfl (fun _ => C0 rfl) (by simp)) ?_
     rintro _ _ ⟨_, _, _, ⟨rfl, rfl⟩, hF, hH⟩
     (refine NST hF hH ?_; clear hF hH; rintro rfl rfl)
     refine WE ?_)
  | (refine zh ?_; refine WE ?_))
 exact ze [] _ rfl rfl rfl (by decide) (ZNK rfl) (fun _ => .nil) ⟨rfl, rfl⟩
theorem sorted_v (l : List Pr) (c : Nat) (hl : l.length ≤ 1000000) : ACallsX true Tryz.prog 68 [.o 0 0 l.length c] [.arr 56 2 c (prRs l)] fun u H => ∃ l' : List Pr, (l'.Perm l ∧ l'.Pairwise fun a b => ¬ cmpB b.1 a.1 < 0) ∧ u = .o 0 0 l.length c ∧ H = [.arr 56 2 c (prRs l')] := by
 refine zY true (N := 6) Tryz.func68 rfl rfl (by simp) fun E hE hP => ?_
 refine WA ?_
 refine WR ?_
 refine zf rfl (zW [0] (fun _ => [.arr 56 2 c (prRs l)]) false (fun _ => sortP_v 118 (by kernel_rfl) sorted1_v l c hl) rfl .fn rfl (by decide) (by kernel_rfl) rfl ZCH (by decide) ZCH (by simp)) ?_
 rintro F1 H1 ⟨_, _, _, _, ⟨l2, hl2, rfl, rfl⟩, hF, hH⟩
 rw [zF] at hF; (refine NSU hF hH ?_; clear hF hH; rintro rfl rfl)
 refine WE ?_
 refine WA ?_
 exact aret_o (k := l.length) [some 0] (fun _ => [.arr 56 2 c (prRs l2)]) rfl rfl rfl rfl (b' := 0) rfl (by decide) (ZNK rfl) ZCH (fun _ => ⟨l2, hl2, rfl, rfl⟩)
end Go.Proofs.YtcdeonjdipcgpaaGreatDoor
