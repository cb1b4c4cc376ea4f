/- Several-order regions where three may come next. -/
import Derived.Test.YtlhbfcfjepbhpaaGreatDoorQbl
import Derived.Test.YtlhbfcfjepbhpaaGreatDoorQbj
import Derived.Test.YtlhbfcfjepbhpaaGreatDoorQbc
import Derived.Test.YtlhbfcfjepbhpaaGreatDoorQao
import Derived.Test.YtlhbfcfjepbhpaaGreatDoorQbd
import Derived.Test.YtlhbfcfjepbhpaaGreatDoorQav
set_option linter.unusedSimpArgs false
set_option linter.unusedVariables false
-- NEWM
namespace Go.Proofs.YtlhbfcfjepbhpaaGreatDoor
open Go Go.RowKit
set_option maxRecDepth 100000
theorem zn1 (vals : List (List UInt8)) (q v : Value) (zs : List Int) (a : Int) (hs : StrOk zs) (h0 : 0 ≤ a) (h1 : a ≤ 1000000000) (hv : vals ≠ []) (hl : vals.length ≤ 1000000) :
    ACalls Tryz.prog 25 [.p 0 0 0, .c (.r q (tR vals))] [strm v zs a] fun u H => ∃ r, u = .c (T r) ∧ H = [strm v zs (a + 1)] ∧ r ∈ vals ∧ r = someF zs a vals := by
 have hp : 0 < vals.length := List.length_pos_iff.2 hv
 have e1 : (tR vals).length = vals.length := by simp
 refine zg (N := 12) Tryz.func25 rfl rfl (by simp) fun E hE => ?_
 refine WA ?_
 refine WR ?_
 refine zf rfl (zi false (fun _ => zY3 _ _ _ _ hs (by omega) (by omega) (by simp only [in64]; omega)) rfl .fn rfl (by decide) (by kernel_rfl) rfl rfl (fun _g => .cons (.p rfl) (.cons (.c rfl) .nil)) (fun _g => .cons (.c rfl) (.cons (.c rfl) .nil)) (by simp)) ?_
 rintro F1 H1 ⟨_, _, _, _, ⟨r, rfl, hq, hr1, hr2, hrv⟩, hF, hH⟩
 injection hq with hq1 hq2; subst hq1; subst hq2
 (refine NST hF hH ?_; clear hF hH; rintro rfl rfl)
 obtain ⟨i, rfl⟩ : ∃ i : Nat, r = i := ⟨r.toNat, by omega⟩
 have hk : i < vals.length := by have := hr2 (by rw [e1]; omega); rw [e1] at this; omega
 obtain ⟨z, hz0⟩ : ∃ z, vals[i]? = some z := ⟨_, List.getElem?_eq_getElem hk⟩
 have hrow : (tR vals)[i]? = some [T z] := by rw [List.getElem?_map, hz0]; rfl
 refine ZA (zw2 rfl (KE (t := 61) rfl) rfl rfl (i := i) rfl hrow rfl) ?_
 refine WE ?_
 refine zh [some 0] _ rfl rfl rfl (by decide) (ZNK rfl) ZCH ?_
 refine ⟨_, rfl, rfl, List.mem_of_getElem? hz0, ?_⟩
 rw [e1] at hrv
 rw [someF, ← hrv, Int.toNat_natCast, List.getD, hz0]; rfl
def insB : Nat → List Nt → Bool
 | 0, _ => false
 | j + 1, l => match l[j + 1]?, l[j]? with
  | some x, some y => decide (cmpNt x y < 0)
  | _, _ => false
theorem insJ_false : ∀ {j : Nat} {l : List Nt}, insB j l = false → insJ j l = l
 | 0, l, _ => rfl
 | j + 1, l, h => by
  rw [insB] at h
  rw [insJ]
  split at h
  ·rename_i x y hx hy
   rw [hx, hy]
   simp only
   rw [if_neg (of_decide_eq_false h)]
  ·rename_i hn
   split
   ·rename_i x y hx hy; exact absurd hy (hn x y hx)
   ·rfl
set_option maxHeartbeats 2000000 in
theorem insN_a (g : FuncId) (hg : okFn Tryz.prog g = true) (hc : ∀ a b : Nt, ACalls Tryz.prog g [noA a, noA b] [] fun u H => u = .c (I (cmpNt a b)) ∧ H = []) (l : List Nt) (c : Nat) (hl : l.length ≤ 1000000) (hcl : l.length ≤ c) :
    ACallsX true Tryz.prog 165 [.o 0 0 l.length c, .c (I 0), .c (I l.length), .f (.func g) []] [.arr 39 10 c (noRs l)] fun u H => u = .t [] ∧ H = [.arr 39 10 c (noRs (insF l))] := by
 refine za1 true (N := 53) Tryz.func165 rfl rfl (by simp) fun E hE hP => ?_
 refine WA ?_
 refine zK (fun q F H => ∃ (i : Nat) (l' : List Nt), q + i = l.length + 1 ∧ 1 ≤ i ∧ (i ≤ l.length ∨ i = 1) ∧ l' = insK (i - 1) l ∧ F = [(0, .o 0 0 l.length c), (1, .c (I 0)), (2, .c (I l.length)), (3, .f (.func g) []), (8, .c (I i))] ∧ H = [.arr 39 10 c (noRs l')]) ?_ ?_
 ·refine zp [some 0] (fun _ => [(0, .o 0 0 l.length c), (1, .c (I 0)), (2, .c (I l.length)), (3, .f (.func g) []), (8, .c (I (1 : Nat)))]) (fun _ => [.arr 39 10 c (noRs l)]) (by decide) (ZNL hE) ZCF ZCH (fun _ => ?_)
  exact ⟨l.length, 1, l, by omega, by omega, by omega, rfl, rfl, rfl⟩
 rintro q F H ⟨i, l', hq, hi1, hi2, hl', rfl, rfl⟩
 have hll : l'.length = l.length := by rw [hl', insK_len]
 refine WA ?_
 refine zw rfl (fun hlt => ?_) (fun hge => ?_)
 ·refine WA ?_
  refine zK (fun q2 F H => ∃ (j : Nat) (l2 : List Nt), j = q2 ∧ j ≤ i ∧ l2.length = l.length ∧ insJ j l2 = insK i l ∧ F = [(0, .o 0 0 l.length c), (1, .c (I 0)), (2, .c (I l.length)), (3, .f (.func g) []), (8, .c (I i)), (9, .c (I j))] ∧ H = [.arr 39 10 c (noRs l2)]) ?_ ?_
  ·refine zp [some 0] (fun _ => [(0, .o 0 0 l.length c), (1, .c (I 0)), (2, .c (I l.length)), (3, .f (.func g) []), (8, .c (I i)), (9, .c (I i))]) (fun _ => [.arr 39 10 c (noRs l')]) (by decide) (ZNL hE) ZCF ZCH (fun _ => ?_)
   refine ⟨i, i, l', rfl, Nat.le_refl _, hll, ?_, rfl, rfl⟩
   obtain ⟨i', rfl⟩ : ∃ i', i = i' + 1 := ⟨i - 1, by omega⟩
   rw [insK, hl']; rfl
  rintro q2 F H ⟨j, l2, rfl, hji, hl2, hins, rfl, rfl⟩
  obtain ⟨z, hz⟩ : ∃ z, insB j l2 = z := ⟨_, rfl⟩
  refine ZZ ?_
  refine zA1 (fun F H => F = [(0, .o 0 0 l.length c), (1, .c (I 0)), (2, .c (I l.length)), (3, .f (.func g) []), (8, .c (I i)), (9, .c (I j)), (34, .c (B z))] ∧ H = [.arr 39 10 c (noRs l2)]) ?_ ?_ zq2
  ·cases j with
   | zero =>
    have hz' : z = false := hz.symm
    subst hz'
    refine ZZ ?_
    refine zk [(0, none), (1, none), (2, none), (3, none), (4, none), (5, none), (6, none), (7, none), (8, none), (9, none), (10, none), (11, none), (12, none), (13, none), (14, some []), (15, none), (16, none)] zS (by kernel_rfl) ?_
    refine WP ?_
    first | refine zm3 rfl rfl rfl (by decide) ⟨zm, ?_⟩ | (refine zn3 rfl (zc false (fun _ => hc ⟨[], 0, 0, 0, [], [], [], 0, [], 0⟩ ⟨[], 0, 0, 0, [], [], [], 0, [], 0⟩) rfl (.clo rfl) rfl (by decide) hg rfl (fun _ => .cons (.aL (C0 rfl)) (.cons (.aL (C0 rfl)) .nil)) (by simp)) ?_; rintro _ _ ⟨_, _, _, ⟨rfl, rfl⟩, hF, hH⟩; (refine NST hF hH ?_; clear hF hH; rintro rfl rfl); refine ⟨zm, ?_⟩)
    refine WQ ?_
    all_goals exact zp [some 0] (fun _ => [(0, .o 0 0 l.length c), (1, .c (I 0)), (2, .c (I l.length)), (3, .f (.func g) []), (8, .c (I i)), (9, .c (I (0 : Nat))), (34, .c (B false))]) (fun _ => [.arr 39 10 c (noRs l2)]) (by decide) (ZNL hE) ZCF ZCH (fun _ => ⟨rfl, rfl⟩)
   | succ j' =>
    obtain ⟨x, hx⟩ : ∃ x, l2[j' + 1]? = some x := ⟨_, List.getElem?_eq_getElem (by omega)⟩
    obtain ⟨y, hy⟩ : ∃ y, l2[j']? = some y := ⟨_, List.getElem?_eq_getElem (by omega)⟩
    rw [insB, hx, hy] at hz
    simp only at hz
    have hrx0 := zf2 hx
    have hry0 := zf2 hy
    have hj1 : (((j' + 1 : Nat) : Int) - 1) = (j' : Int) := by omega
    have hj0 : (0 : Int) < ((j' + 1 : Nat) : Int) := by omega
    obtain ⟨y0, y1, y2, y3, y4, y5, y6, y7, y8, y9⟩ := x
    obtain ⟨z0, z1, z2, z3, z4, z5, z6, z7, z8, z9⟩ := y
    have hrx : (noRs l2)[j' + 1]? = some [T y0, I y1, I y2, I y3, T y4, T y5, T y6, I y7, T y8, I y9] := hrx0
    have hry : (noRs l2)[j']? = some [T z0, I z1, I z2, I z3, T z4, T z5, T z6, I z7, T z8, I z9] := hry0
    refine ZZ ?_
    refine zk [(0, none), (1, none), (2, none), (3, none), (4, none), (5, none), (6, none), (7, none), (8, none), (9, none), (10, none), (11, none), (12, none), (13, none), (14, some []), (15, none), (16, none)] zS (by kernel_rfl) ?_
    refine WP ?_
    first | refine zm3 rfl rfl rfl (by decide) ⟨zm, ?_⟩ | (refine zn3 rfl (zc false (fun _ => hc ⟨y0, y1, y2, y3, y4, y5, y6, y7, y8, y9⟩ ⟨z0, z1, z2, z3, z4, z5, z6, z7, z8, z9⟩) rfl (.clo rfl) rfl (by decide) hg rfl (fun _ => .cons (.aL (C0 rfl)) (.cons (.aL (C0 rfl)) .nil)) (by simp)) ?_; rintro _ _ ⟨_, _, _, ⟨rfl, rfl⟩, hF, hH⟩; (refine NST hF hH ?_; clear hF hH; rintro rfl rfl); refine ⟨zm, ?_⟩)
    refine WQ ?_
    all_goals exact zp [some 0] (fun _ => [(0, .o 0 0 l.length c), (1, .c (I 0)), (2, .c (I l.length)), (3, .f (.func g) []), (8, .c (I i)), (9, .c (I (j' + 1 : Nat))), (34, .c (B z))]) (fun _ => [.arr 39 10 c (noRs l2)]) (by decide) (ZNL hE) ZCF ZCH (fun _ => ⟨rfl, rfl⟩)
  rintro F H ⟨rfl, rfl⟩
  refine ZZ ?_
  cases z with
  | true =>
   refine zb rfl ?_
   cases j with
   | zero => cases hz
   | succ j' =>
   obtain ⟨x, hx⟩ : ∃ x, l2[j' + 1]? = some x := ⟨_, List.getElem?_eq_getElem (by omega)⟩
   obtain ⟨y, hy⟩ : ∃ y, l2[j']? = some y := ⟨_, List.getElem?_eq_getElem (by omega)⟩
   rw [insB, hx, hy] at hz
   rw [insJ_next hx hy, if_pos (of_decide_eq_true hz)] at hins
   have hrx0 := zf2 hx
   have hry0 := zf2 hy
   have hj1 : (((j' + 1 : Nat) : Int) - 1) = (j' : Int) := by omega
   have hm : noRs ((l2.set (j' + 1) y).set j' x) = ((noRs l2).set (0 + (j' + 1)) (noR y)).set (0 + j') (noR x) := by rw [noRs, List.map_set, List.map_set, Nat.zero_add, Nat.zero_add]
   obtain ⟨y0, y1, y2, y3, y4, y5, y6, y7, y8, y9⟩ := x
   obtain ⟨z0, z1, z2, z3, z4, z5, z6, z7, z8, z9⟩ := y
   have hrx : (noRs l2)[j' + 1]? = some [T y0, I y1, I y2, I y3, T y4, T y5, T y6, I y7, T y8, I y9] := hrx0
   have hry : (noRs l2)[j']? = some [T z0, I z1, I z2, I z3, T z4, T z5, T z6, I z7, T z8, I z9] := hry0
   have hry2 : ((noRs l2).set (0 + (j' + 1)) [T z0, I z1, I z2, I z3, T z4, T z5, T z6, I z7, T z8, I z9])[0 + j']? = some [T z0, I z1, I z2, I z3, T z4, T z5, T z6, I z7, T z8, I z9] := by rw [List.getElem?_set_ne (by omega), Nat.zero_add]; exact hry
   refine ZZ ?_
   refine zk [(0, none), (1, none), (2, none), (3, none), (4, none), (5, none), (6, none), (7, none), (8, none), (9, none), (10, none), (11, none), (12, none), (13, none), (14, none), (15, some [2, 3, 4]), (16, none), (17, some [])] zS (by kernel_rfl) ?_
   refine WQ ?_
   refine WA ?_
   refine zp [some 0] (fun _ => [(0, .o 0 0 l.length c), (1, .c (I 0)), (2, .c (I l.length)), (3, .f (.func g) []), (8, .c (I i)), (9, .c (I j'))]) (fun _ => [.arr 39 10 c (noRs ((l2.set (j' + 1) ⟨z0, z1, z2, z3, z4, z5, z6, z7, z8, z9⟩).set j' ⟨y0, y1, y2, y3, y4, y5, y6, y7, y8, y9⟩))]) (by decide) (ZNL hE) ZCF (by rw [hm]; exact ZCH) (fun _ => ?_)
   exact ⟨j', by omega, j', _, rfl, by omega, by simp [hl2], hins, rfl, rfl⟩
  | false =>
   refine za rfl ?_
   rw [insJ_false hz] at hins
   refine ZZ ?_
   refine WA ?_
   refine zp [some 0] (fun _ => [(0, .o 0 0 l.length c), (1, .c (I 0)), (2, .c (I l.length)), (3, .f (.func g) []), (8, .c (I (i + 1 : Nat)))]) (fun _ => [.arr 39 10 c (noRs l2)]) (by decide) (ZNL hE) ZCF ZCH (fun _ => ?_)
   exact ⟨q - 1, by omega, i + 1, _, by omega, by omega, by omega, by rw [hins]; rfl, rfl, rfl⟩
 refine ZZ ?_
 have he : l' = insF l := by
  rw [hl', insF]
  congr 1
  omega
 subst he
 refine aret_0 [some 0] (fun _ => [.arr 39 10 c (noRs (insF l))]) (by simp) rfl (by decide) (ZNK rfl) ZCH (fun _ => ⟨rfl, rfl⟩)
theorem insN_z (g : FuncId) (l : List Nt) (k c : Nat) (hl : l.length ≤ 1000000) (hcl : l.length ≤ c) (hk : l.length ≤ k) (hk2 : k ≤ 1000000) :
    ACallsX true Tryz.prog 165 [.o 0 0 l.length c, .c (I k), .c (I l.length), .f (.func g) []] [.arr 39 10 c (noRs l)] fun u H => u = .t [] ∧ H = [.arr 39 10 c (noRs l)] := by
 refine za1 true (N := 53) Tryz.func165 rfl rfl (by simp) fun E hE hP => ?_
 refine WA ?_
 refine zK (fun q F H => F = [(0, .o 0 0 l.length c), (1, .c (I k)), (2, .c (I l.length)), (3, .f (.func g) []), (8, .c (I (k + 1 : Nat)))] ∧ H = [.arr 39 10 c (noRs l)]) ?_ ?_
 ·refine zp [some 0] (fun _ => [(0, .o 0 0 l.length c), (1, .c (I k)), (2, .c (I l.length)), (3, .f (.func g) []), (8, .c (I (k + 1 : Nat)))]) (fun _ => [.arr 39 10 c (noRs l)]) (by decide) (ZNL hE) ZCF ZCH (fun _ => ?_)
  exact ⟨0, rfl, rfl⟩
 rintro q F H ⟨rfl, rfl⟩
 refine WA ?_
 refine za rfl ?_
 refine ZZ ?_
 refine aret_0 [some 0] (fun _ => [.arr 39 10 c (noRs l)]) (by simp) rfl (by decide) (ZNK rfl) ZCH (fun _ => ⟨rfl, rfl⟩)
theorem stbN_a (g : FuncId) (hg : okFn Tryz.prog g = true) (hc : ∀ a b : Nt, ACalls Tryz.prog g [noA a, noA b] [] fun u H => u = .c (I (cmpNt a b)) ∧ H = []) (l : List Nt) (c : Nat) (hl : l.length ≤ 20) (hcl : l.length ≤ c) :
    ACallsX true Tryz.prog 106 [.o 0 0 l.length c, .c (I l.length), .f (.func g) []] [.arr 39 10 c (noRs l)] fun u H => u = .t [] ∧ H = [.arr 39 10 c (noRs (insF l))] := by
 have hil := insF_len l
 have hi0 := insN_a g hg hc l c (by omega) (by omega)
 refine za1 true (N := 63) Tryz.func106 rfl rfl (by simp) fun E hE hP => ?_
 refine WA ?_
 refine WA ?_
 refine zK (fun q F H => (q = 1 ∧ F = [(0, .o 0 0 l.length c), (1, .c (I l.length)), (2, .f (.func g) []), (6, .c (I 20)), (7, .c (I 0)), (8, .c (I 20))] ∧ H = [.arr 39 10 c (noRs l)]) ∨ (q = 0 ∧ l.length = 20 ∧ F = [(0, .o 0 0 l.length c), (1, .c (I l.length)), (2, .f (.func g) []), (6, .c (I 20)), (7, .c (I 20)), (8, .c (I 40))] ∧ H = [.arr 39 10 c (noRs (insF l))])) ?_ ?_
 ·refine zp [some 0] (fun _ => [(0, .o 0 0 l.length c), (1, .c (I l.length)), (2, .f (.func g) []), (6, .c (I 20)), (7, .c (I 0)), (8, .c (I 20))]) (fun _ => [.arr 39 10 c (noRs l)]) (by decide) (ZNL hE) ZCF ZCH (fun _ => ?_)
  exact ⟨1, .inl ⟨rfl, rfl, rfl⟩⟩
 rintro q F H (⟨rfl, rfl, rfl⟩ | ⟨rfl, h20, rfl, rfl⟩)
 ·refine WA ?_
  refine zw rfl (fun hlt => ?_) (fun hge => ?_)
  ·have h20 : l.length = 20 := by omega
   have hi20 := hi0
   rw [show ((l.length : Nat) : Int) = 20 from by omega] at hi20
   refine WR ?_
   refine zf rfl (zb2 [0] (fun _ => [.arr 39 10 c (noRs l)]) false (fun _ => hi20) rfl .fn rfl (by decide) (by kernel_rfl) rfl ZCH (by decide) ZCH (by simp)) ?_
   rintro F1 H1 ⟨_, _, _, _, ⟨rfl, rfl⟩, hF, hH⟩
   rw [zf1] at hF; (refine NSU hF hH ?_; clear hF hH; rintro rfl rfl)
   refine WE ?_
   refine WA ?_
   refine WA ?_
   refine zp [some 0] (fun _ => [(0, .o 0 0 l.length c), (1, .c (I l.length)), (2, .f (.func g) []), (6, .c (I 20)), (7, .c (I 20)), (8, .c (I 40))]) (fun _ => [.arr 39 10 c (noRs (insF l))]) (by decide) (ZNL hE) ZCF ZCH (fun _ => ?_)
   exact ⟨0, by omega, .inr ⟨rfl, h20, rfl, rfl⟩⟩
  ·refine ZZ ?_
   refine WR ?_
   refine zf rfl (zb2 [0] (fun _ => [.arr 39 10 c (noRs l)]) false (fun _ => hi0) rfl .fn rfl (by decide) (by kernel_rfl) rfl ZCH (by decide) ZCH (by simp)) ?_
   rintro F1 H1 ⟨_, _, _, _, ⟨rfl, rfl⟩, hF, hH⟩
   rw [zf1] at hF; (refine NSU hF hH ?_; clear hF hH; rintro rfl rfl)
   refine WE ?_
   refine zK (fun q F H => F = [(1, .c (I l.length)), (6, .c (I 20))] ∧ H = [.arr 39 10 c (noRs (insF l))]) ?_ ?_
   ·refine zp [some 0] (fun _ => [(1, .c (I l.length)), (6, .c (I 20))]) (fun _ => [.arr 39 10 c (noRs (insF l))]) (by decide) (ZNL hE) ZCF ZCH (fun _ => ?_)
    exact ⟨0, rfl, rfl⟩
   rintro q F H ⟨rfl, rfl⟩
   refine WA ?_
   refine za rfl ?_
   refine ZZ ?_
   refine aret_0 [some 0] (fun _ => [.arr 39 10 c (noRs (insF l))]) (by simp) rfl (by decide) (ZNK rfl) ZCH (fun _ => ⟨rfl, rfl⟩)
 ·refine WA ?_
  refine za rfl ?_
  rw [← hil]
  refine ZZ ?_
  refine WR ?_
  refine zf rfl (zb2 [0] (fun _ => [.arr 39 10 c (noRs (insF l))]) false (fun _ => insN_z g (insF l) 20 c (by omega) (by omega) (by omega) (by omega)) rfl .fn rfl (by decide) (by kernel_rfl) rfl ZCH (by decide) ZCH (by simp)) ?_
  rintro F1 H1 ⟨_, _, _, _, ⟨rfl, rfl⟩, hF, hH⟩
  rw [zf1] at hF; (refine NSU hF hH ?_; clear hF hH; rintro rfl rfl)
  refine WE ?_
  refine zK (fun q F H => F = [(1, .c (I (insF l).length)), (6, .c (I 20))] ∧ H = [.arr 39 10 c (noRs (insF l))]) ?_ ?_
  ·refine zp [some 0] (fun _ => [(1, .c (I (insF l).length)), (6, .c (I 20))]) (fun _ => [.arr 39 10 c (noRs (insF l))]) (by decide) (ZNL hE) ZCF ZCH (fun _ => ?_)
   exact ⟨0, rfl, rfl⟩
  rintro q F H ⟨rfl, rfl⟩
  refine WA ?_
  refine za rfl ?_
  refine ZZ ?_
  refine aret_0 [some 0] (fun _ => [.arr 39 10 c (noRs (insF l))]) (by simp) rfl (by decide) (ZNK rfl) ZCH (fun _ => ⟨rfl, rfl⟩)
theorem stabN_a (g : FuncId) (hg : okFn Tryz.prog g = true) (hc : ∀ a b : Nt, ACalls Tryz.prog g [noA a, noA b] [] fun u H => u = .c (I (cmpNt a b)) ∧ H = []) (l : List Nt) (c : Nat) (hl : l.length ≤ 20) (hcl : l.length ≤ c) :
    ACallsX true Tryz.prog 49 [.o 0 0 l.length c, .f (.func g) []] [.arr 39 10 c (noRs l)] fun u H => u = .t [] ∧ H = [.arr 39 10 c (noRs (insF l))] := by
 refine za1 true (N := 9) Tryz.func49 rfl rfl (by simp) fun E hE hP => ?_
 refine WR ?_
 refine zf rfl (zb2 [0] (fun _ => [.arr 39 10 c (noRs l)]) false (fun _ => stbN_a g hg hc l c hl hcl) rfl .fn rfl (by decide) (by kernel_rfl) rfl ZCH (by decide) ZCH (by simp)) ?_
 rintro F1 H1 ⟨_, _, _, _, ⟨rfl, rfl⟩, hF, hH⟩
 rw [zf1] at hF; (refine NSU hF hH ?_; clear hF hH; rintro rfl rfl)
 refine WE ?_
 refine aret_0 [some 0] (fun _ => [.arr 39 10 c (noRs (insF l))]) (by simp) rfl (by decide) (ZNK rfl) ZCH (fun _ => ⟨rfl, rfl⟩)
end Go.Proofs.YtlhbfcfjepbhpaaGreatDoor
namespace Go.Proofs.YtlhbfcfjepbhpaaGreatDoor
open Go Go.RowKit
abbrev SE := List (Nat × Spot × Bool)
structure SetOk (es : SE) (ck : Nat) (L : List Spot) : Prop where
 hv : ∀ e ∈ es, e.2.2 = true
 hb : ∀ e ∈ es, e.1 < ck
 nb : (es.map (·.1)).Nodup
 nk : (es.map (·.2.1)).Nodup
 hm : ∀ p, p ∈ es.map (·.2.1) ↔ p ∈ L
theorem SetOk.nil : SetOk [] 0 [] := ⟨fun e h => (by cases h), fun e h => (by cases h), .nil, .nil, fun p => Iff.rfl⟩
theorem SetOk.to {es : SE} {ck : Nat} {L L' : List Spot} (h : SetOk es ck L) (hL : ∀ p, p ∈ L ↔ p ∈ L') : SetOk es ck L' := ⟨h.hv, h.hb, h.nb, h.nk, fun p => (h.hm p).trans (hL p)⟩
theorem mget_no {es : SE} {p : Spot} : mget es p = none ↔ p ∉ es.map (·.2.1) := by
 induction es with
 | nil => simp [mget]
 | cons e es ih =>
  simp only [mget, List.map_cons, List.mem_cons]
  split
  ·rename_i h; simp [h]
  ·rename_i h; rw [ih]; simp [h]
theorem mget_in {es : SE} {p : Spot} (hv : ∀ e ∈ es, e.2.2 = true) : (mget es p).getD false = decide (p ∈ es.map (·.2.1)) := by
 induction es with
 | nil => simp [mget]
 | cons e es ih =>
  simp only [mget, List.map_cons, List.mem_cons]
  split
  ·rename_i h; simp [h, hv e List.mem_cons_self]
  ·rename_i h; rw [ih fun e he => hv e (List.mem_cons_of_mem _ he)]; simp [h]
theorem SetOk.get {es : SE} {ck : Nat} {L : List Spot} (h : SetOk es ck L) (p : Spot) : (mget es p).getD false = decide (p ∈ L) := by
 rw [mget_in h.hv]; simp only [h.hm]
theorem mset_same {ck : Nat} {p : Spot} : ∀ {es : SE}, (∀ e ∈ es, e.2.2 = true) → p ∈ es.map (·.2.1) → mset ck p true es = es
 | [], _, h => by simp at h
 | e :: es, hv, h => by
  unfold mset
  split
  ·rename_i hp
   have := hv e List.mem_cons_self
   obtain ⟨a, b, c⟩ := e
   simp only at hp this ⊢
   rw [hp, this]
  ·rename_i hp
   rw [mset_same (fun e he => hv e (List.mem_cons_of_mem _ he)) (by rw [List.map_cons, List.mem_cons] at h; exact h.resolve_left hp)]
theorem SetOk.set {es : SE} {ck : Nat} {L : List Spot} (h : SetOk es ck L) (p : Spot) : SetOk (mset ck p true es) (mclk ck p es) (L ++ [p]) := by
 by_cases hp : p ∈ es.map (·.2.1)
 ·have hs : (mget es p).isSome = true := by
   cases hg : mget es p with
   | some v => rfl
   | none => exact absurd hp (mget_no.1 hg)
  rw [mset_same h.hv hp, mclk, if_pos hs]
  refine h.to fun q => ?_
  rw [List.mem_append, List.mem_singleton]
  constructor
  ·exact .inl
  ·rintro (hq | rfl)
   ·exact hq
   ·exact (h.hm q).1 hp
 ·have hn := mget_no.2 hp
  rw [mset_none hn, mclk, if_neg (by rw [hn]; simp)]
  refine ⟨fun e he => ?_, fun e he => ?_, ?_, ?_, fun q => ?_⟩
  ·rcases List.mem_append.1 he with he | he
   ·exact h.hv e he
   ·rw [List.mem_singleton] at he; rw [he]
  ·rcases List.mem_append.1 he with he | he
   ·exact Nat.lt_succ_of_lt (h.hb e he)
   ·rw [List.mem_singleton] at he; rw [he]; exact Nat.lt_succ_self _
  ·rw [List.map_append]
   refine List.nodup_append.2 ⟨h.nb, by simp, fun a ha b hb e => ?_⟩
   simp only [List.map_cons, List.map_nil, List.mem_singleton] at hb
   obtain ⟨e', he', rfl⟩ := List.mem_map.1 ha
   have := h.hb e' he'
   omega
  ·rw [List.map_append]
   refine List.nodup_append.2 ⟨h.nk, by simp, fun a ha b hb e => ?_⟩
   simp only [List.map_cons, List.map_nil, List.mem_singleton] at hb
   exact hp (by rw [← hb, ← e]; exact ha)
  ·rw [List.map_append, List.mem_append, List.mem_append, h.hm]; simp
end Go.Proofs.YtlhbfcfjepbhpaaGreatDoor
namespace Go.Proofs.YtlhbfcfjepbhpaaGreatDoor
open Go Go.RowKit
section
variable {P : Program} {N : Nat} {E : Env} {F : Fm} {H : List OB} {o : Oper} {S : Nat → Prop} {ρ : List (Option Nat)} {a : Act} {w : World} {t : TypeId} {x y : Operand}
end
end Go.Proofs.YtlhbfcfjepbhpaaGreatDoor
namespace Go.Proofs.YtlhbfcfjepbhpaaGreatDoor
open Go Go.RowKit
section
variable {P : Program} {N : Nat} {E : Env} {F : Fm} {H : List OB} {o : Oper} {S : Nat → Prop} {ρ : List (Option Nat)} {a : Act} {w : World}
end
end Go.Proofs.YtlhbfcfjepbhpaaGreatDoor
namespace Go.Proofs.YtlhbfcfjepbhpaaGreatDoor
open Go Go.RowKit
def encSt : Enc (List UInt8) := ⟨fun s => .string (bst s), fun s => .c (T s), fun s ρ H => rfl, fun s w S ρ H => .c (.s _)⟩
def encIn : Enc Int := ⟨fun z => .int .i64 z, fun z => .c (I z), fun z ρ H => rfl, fun z w S ρ H => .c (.s _)⟩
theorem keySt : KeyOk Tryz.prog 9 encSt := by
 refine .now Tryz.underlying9 (fun a b => ?_) (fun b a w => ?_) (fun a => ?_)
 ·show some _ = _
  congr 1
  rw [Bool.eq_iff_iff, decide_eq_true_iff]
  show ((bst a).data == (bst b).data) = true ↔ a = b
  simp
 ·simp only [encSt]
  rw [show (10000 : Nat) = 9999 + 1 from rfl, Instr.checkKey]
  simp only [Sem.run_bind, zE1 Tryz.underlying9, Result.andThen_ok]
  rfl
 ·simp [encSt, Instr.sameBits]
  first | exact beq_self_eq_true _ | exact (show ((bst a).data == (bst a).data) = true by simp) | rfl
abbrev mSI (l : List (Nat × List UInt8 × Int)) (ck : Nat) : OB := mpO encSt encIn l ck
section
variable {N : Nat} {E : Env} {F : Fm} {H : List OB} {o : Oper} {b ck : Nat} {k : List UInt8}
theorem rd_lkSI {x ix : Operand} {l : List (Nat × List UInt8 × Int)} {q : Int} (hq : (mget l k).getD 0 = q) (ho : o.op = .lookup 79 x ix false) (hx : ev F x = some (.mp b)) (hH : H[b]? = some (mSI l ck)) (hi : ev F ix = some (.c (T k))) : Rd Tryz.prog N E o F H (.c (I q)) := by
 have := rd_lookup (N := N) (E := E) (ke := encSt) (ve := encIn) (k := k) (z := 0) keySt ho Tryz.underlying79 (by kernel_rfl) hx hH hi (fun ρ H => encSt.den k ρ H)
 rwa [hq] at this
theorem ef_muSI {x ix y : Operand} {l : List (Nat × List UInt8 × Int)} {z : Int} (ho : o.op = .mapUpdate 79 x ix y) (hd : o.dst = none) (hx : ev F x = some (.mp b)) (hH : H[b]? = some (mSI l ck)) (hi : ev F ix = some (.c (T k))) (hy : ev F y = some (.c (I z))) :
    Ef Tryz.prog N E o F H fun F' H' => F' = F ∧ H' = H.set b (mSI (mset ck k z l) (mclk ck k l)) :=
 ef_mapset (ke := encSt) (ve := encIn) (k := k) (z := z) keySt ho hd Tryz.underlying79 hx hH hi (fun ρ H => encSt.den k ρ H) hy (fun ρ H => encIn.den z ρ H)
theorem lkfSI {l : List (Nat × List UInt8 × Int)} {q : Int} (hq : (mget l k).getD 0 = q) : LkF b (mSI l ck) 79 false (.c (T k)) (.c (I q)) := ⟨fun ho hx hH hi => rd_lkSI hq ho hx hH hi⟩
end
end Go.Proofs.YtlhbfcfjepbhpaaGreatDoor
namespace Go.Proofs.YtlhbfcfjepbhpaaGreatDoor
open Go Go.RowKit
theorem wpM_all {P : Program} {ops : Array Oper} {Q : Act → World → Prop} {n : Nat} {ps : List Plan} {a : Act} {w : World} (h : ∀ e ∈ headsOf ps, wpM P ops Q (n + 1) ((tailsOf e ps).map (e :: ·)) a w) : wpM P ops Q (n + 1) ps a w := fun e he => by
 have key : ∀ (e : Nat × Option (List Nat)) (l : List Plan), tailsOf e (l.map (e :: ·)) = l := by
  intro e l
  induction l with
  | nil => rfl
  | cons x l ih => simp only [List.map_cons, tailsOf, beq_self_eq_true, if_true, ih]
 have keyh : ∀ (e : Nat × Option (List Nat)) (l : List Plan), l ≠ [] → e ∈ headsOf (l.map (e :: ·)) := by
  intro e l hl
  cases l with
  | nil => exact absurd rfl hl
  | cons x l =>
   simp only [List.map_cons, headsOf]
   split
   ·rename_i hc; simpa using hc
   ·simp
 obtain ⟨l, hl⟩ := zh1 (ps := ps) (e := e) he
 have hne : tailsOf e ps ≠ [] := List.ne_nil_of_mem (zq1 hl)
 have := h e he e (keyh _ _ hne)
 rw [key] at this
 exact this
theorem am_three {P : Program} {N : Nat} {E : Env} {F : Fm} {H : List OB} {Q : Exit → Fm → List OB → Prop} {ops : Array Oper} {n : Nat} {e1 e2 e3 : Nat × Option (List Nat)} {ps p1 p2 p3 : List Plan} (hh : headsOf ps = [e1, e2, e3]) (h1 : tailsOf e1 ps = p1) (h2 : tailsOf e2 ps = p2) (h3 : tailsOf e3 ps = p3)
    (k1 : AM P N E ops (n + 1) (p1.map (e1 :: ·)) F H Q) (k2 : AM P N E ops (n + 1) (p2.map (e2 :: ·)) F H Q) (k3 : AM P N E ops (n + 1) (p3.map (e3 :: ·)) F H Q) : AM P N E ops (n + 1) ps F H Q := fun S ρ a w hR => wpM_all fun e he => by
 rw [hh] at he
 simp only [List.mem_cons, List.not_mem_nil, or_false] at he
 rcases he with rfl | rfl | rfl
 ·rw [h1]; exact k1 S ρ a w hR
 ·rw [h2]; exact k2 S ρ a w hR
 ·rw [h3]; exact k3 S ρ a w hR
end Go.Proofs.YtlhbfcfjepbhpaaGreatDoor
