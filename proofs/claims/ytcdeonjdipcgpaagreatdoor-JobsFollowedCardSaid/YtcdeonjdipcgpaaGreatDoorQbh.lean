/- Small functions of the program and of its document, by value: within a span, first errors, searches and comparisons of lists. -/
import Derived.Test.YtcdeonjdipcgpaaGreatDoorQbg
import Derived.Test.YtcdeonjdipcgpaaGreatDoorQaw
import Derived.Test.YtcdeonjdipcgpaaGreatDoorQaz
import Derived.Test.YtcdeonjdipcgpaaGreatDoorQau
import Derived.Test.YtcdeonjdipcgpaaGreatDoorQap
import Derived.Test.YtcdeonjdipcgpaaGreatDoorQal
set_option linter.unusedSimpArgs false
set_option linter.unusedVariables false
namespace Go.Proofs.YtcdeonjdipcgpaaGreatDoor
open Go Go.RowKit
def cU (at_ : Int) : (List UInt8 × Int) → List Nt → Bool
 | _, [] => false
 | key, y :: l => if at_ < y.at_ then false else (decide (y.kd = 7 ∧ (y.of_, y.ot) = key) && !cU at_ (ky y) l) || cU at_ key l
def cR (at_ : Int) : List Nt → Bool
 | [] => false
 | x :: l => decide (x.at_ ≤ at_) && !cU at_ (ky x) l
theorem cU_late {at_ : Int} {s : List UInt8 × Int} : ∀ {l : List Nt}, (∀ y, l.head? = some y → at_ < y.at_) → cU at_ s l = false
 | [], _ => rfl
 | y :: l, h => by rw [cU, if_pos (h y rfl)]
theorem cst_is {at_ : Int} {l : List Nt} (hs : ∀ i x y, l[i]? = some x → l[i + 1]? = some y → x.at_ ≤ y.at_) : ∀ k, k ≤ l.length → (∀ s, (cst at_ l k).1.contains s = cU at_ s (l.drop (l.length - k))) ∧ (cst at_ l k).2.reverse = (((List.range l.length).drop (l.length - k)).filter fun i => cR at_ (l.drop i)).map (fun i : Nat => (i : Int))
 | 0, _ => by
  refine ⟨fun s => ?_, ?_⟩
  ·rw [Nat.sub_zero, List.drop_length]; rfl
  ·rw [Nat.sub_zero, List.drop_of_length_le (by simp)]; rfl
 | k + 1, h => by
  obtain ⟨h1, h2⟩ := cst_is (at_ := at_) hs k (by omega)
  obtain ⟨x, hx, hbx⟩ := bwd_at (show k < l.length by omega)
  have hd : l.drop (l.length - (k + 1)) = x :: l.drop (l.length - k) := by
   rw [show l.length - (k + 1) = l.length - 1 - k by omega, ze3 hx, show l.length - 1 - k + 1 = l.length - k by omega]
  have hr : (List.range l.length).drop (l.length - (k + 1)) = (l.length - 1 - k) :: (List.range l.length).drop (l.length - k) := by
   rw [show l.length - (k + 1) = l.length - 1 - k by omega, ze3 (List.getElem?_range (show l.length - 1 - k < l.length by omega)), show l.length - 1 - k + 1 = l.length - k by omega]
  have hd2 : l.drop (l.length - 1 - k) = x :: l.drop (l.length - k) := by rw [← hd, show l.length - (k + 1) = l.length - 1 - k by omega]
  rw [cst_next hbx, hd, hr, List.filter_cons]
  have hlate : at_ < x.at_ → ∀ s, cU at_ s (l.drop (l.length - k)) = false := fun hl s => cU_late fun y hy => by
   rw [List.head?_drop] at hy
   have := hs (l.length - 1 - k) x y hx (by rw [show l.length - 1 - k + 1 = l.length - k by omega]; exact hy)
   omega
  have hcR : cR at_ (l.drop (l.length - 1 - k)) = (decide (x.at_ ≤ at_) && !cU at_ (ky x) (l.drop (l.length - k))) := by rw [hd2]; rfl
  have hk := h1 (ky x)
  generalize cst at_ l k = cs at h1 h2 hk
  obtain ⟨ud, out⟩ := cs
  simp only at h1 h2 hk
  by_cases c1 : at_ < x.at_
  ·have e : cstp at_ (ud, out) (l.length - 1 - k, x) = (ud, out) := by unfold cstp; rw [if_pos (.inl c1)]
   rw [e]
   refine ⟨fun s => ?_, ?_⟩
   ·rw [cU, if_pos c1, ← hlate c1 s]; exact h1 s
   ·rw [if_neg (by rw [hcR, decide_eq_false (by omega)]; simp)]; exact h2
  by_cases c2 : ky x ∈ ud
  ·have e : cstp at_ (ud, out) (l.length - 1 - k, x) = (ud, out) := by unfold cstp; rw [if_pos (.inr c2)]
   have e2 : cU at_ (ky x) (l.drop (l.length - k)) = true := by rw [← hk]; exact List.contains_iff_mem.2 c2
   rw [e]
   refine ⟨fun s => ?_, ?_⟩
   ·rw [cU, if_neg c1, e2]; simp only [Bool.not_true, Bool.and_false, Bool.false_or]; exact h1 s
   ·rw [if_neg (by rw [hcR, e2]; simp)]; exact h2
  ·have e2 : cU at_ (ky x) (l.drop (l.length - k)) = false := by rw [← hk, Bool.eq_false_iff]; exact fun h => c2 (List.contains_iff_mem.1 h)
   have e : cstp at_ (ud, out) (l.length - 1 - k, x) = (if x.kd = 7 then ud ++ [(x.of_, x.ot)] else ud, out ++ [((l.length - 1 - k : Nat) : Int)]) := by unfold cstp; rw [if_neg (fun h => h.elim c1 c2)]
   rw [e]
   refine ⟨fun s => ?_, ?_⟩
   ·rw [cU, if_neg c1, e2, Bool.not_false, Bool.and_true, ← h1 s]
    by_cases h7 : x.kd = 7
    ·rw [if_pos h7]
     by_cases hs7 : (x.of_, x.ot) = s
     ·subst hs7; simp [h7]
     ·rw [decide_eq_false (fun h => hs7 h.2), Bool.false_or, List.contains_eq_mem, List.contains_eq_mem]
      simp [Ne.symm hs7]
    ·rw [if_neg h7, decide_eq_false (fun h => h7 h.1), Bool.false_or]
   ·have hc : cR at_ (l.drop (l.length - 1 - k)) = true := by rw [hcR, e2, decide_eq_true (by omega)]; rfl
    rw [if_pos hc, List.map_cons, List.reverse_append, List.reverse_singleton, h2]; rfl
theorem cntP_doc {at_ : Int} {l : List Nt} (hs : ∀ i x y, l[i]? = some x → l[i + 1]? = some y → x.at_ ≤ y.at_) : cntP at_ l = ((List.range l.length).filter fun i => cR at_ (l.drop i)).map (fun i : Nat => (i : Int)) := by
 have := (cst_is (at_ := at_) hs l.length (Nat.le_refl _)).2
 rw [Nat.sub_self, List.drop_zero] at this
 exact this
end Go.Proofs.YtcdeonjdipcgpaaGreatDoor
-- NEWM
namespace Go.Proofs.YtcdeonjdipcgpaaGreatDoor
open Go Go.RowKit
set_option maxRecDepth 100000
set_option maxHeartbeats 2000000 in
theorem countingR_v (v : Value) (l : List Nt) (at_ : Int) (hl : l.length ≤ 1000000) : ∀ (m i : Nat), m + i = l.length → 0 < m → ACalls Tryz.prog 175 [.c (.r v (noRs l)), .c (I i), .c (I at_)] [] fun u H => u = .c (B (cR at_ (l.drop i))) ∧ H = [] := by
 intro m
 induction m using Nat.strongRecOn with
 | _ m ih =>
 intro i hmi hm
 have e1 : (noRs l).length = l.length := by simp
 obtain ⟨x, hx⟩ : ∃ n, l[i]? = some n := ⟨_, List.getElem?_eq_getElem (by omega)⟩
 have hrow0 := zb2 hx
 rw [ze3 hx, cR]
 obtain ⟨x0, x1, x2, x3, x4, x5, x6, x7, x8, x9⟩ := x
 have hrow : (noRs l)[i]? = some [T x0, I x1, I x2, I x3, T x4, T x5, T x6, I x7, T x8, I x9] := hrow0
 show ACalls _ _ _ _ fun u H => u = .c (B (decide (x2 ≤ at_) && !cU at_ (x0, x1) (l.drop (i + 1)))) ∧ H = []
 refine zj (N := 70) Tryz.func175 rfl rfl (by simp) fun E hE => ?_
 refine WA ?_
 refine WA ?_
 refine zu rfl (fun h0 => ?_) (fun h0 => ?_)
 ·refine WA ?_
  exact ze [] _ rfl rfl rfl (by decide) (ZNK rfl) (fun _ => .nil) ⟨by rw [decide_eq_false (by omega)]; rfl, rfl⟩
 rw [decide_eq_true (show x2 ≤ at_ by omega), Bool.true_and]
 refine ZZ ?_
 refine WA ?_
 refine zC (fun q F H => ∃ (k : Nat), q + k = l.length ∧ i < k ∧ cU at_ (x0, x1) (l.drop k) = cU at_ (x0, x1) (l.drop (i + 1)) ∧ F = [(0, .c (.r v (noRs l))), (1, .c (I i)), (2, .c (I at_)), (7, .c (I k))] ∧ H = []) ?_ ?_
 ·refine zn [] (fun _ => [(0, .c (.r v (noRs l))), (1, .c (I i)), (2, .c (I at_)), (7, .c (I (i + 1 : Nat)))]) (fun _ => []) (by decide) (ZNL hE) ZCF (fun _ => .nil) (fun _ => ?_)
  exact ⟨l.length - (i + 1), i + 1, by omega, by omega, rfl, rfl, rfl⟩
 rintro q F H ⟨k, hk, hik, hf, rfl, rfl⟩
 by_cases hlt : k < l.length
 ·have hlt' : (k : Int) < ((noRs l).length : Int) := by omega
  obtain ⟨y, hy⟩ : ∃ n, l[k]? = some n := ⟨_, List.getElem?_eq_getElem hlt⟩
  have hrowy0 := zb2 hy
  have hrec0 := ih (l.length - k) (by omega) k (by omega) (by omega)
  rw [ze3 hy, cR] at hrec0
  rw [ze3 hy, cU] at hf
  obtain ⟨y0, y1, y2, y3, y4, y5, y6, y7, y8, y9⟩ := y
  have hrowy : (noRs l)[k]? = some [T y0, I y1, I y2, I y3, T y4, T y5, T y6, I y7, T y8, I y9] := hrowy0
  by_cases hat : y2 ≤ at_
  ·rw [if_neg (by simp only; omega)] at hf
   rw [decide_eq_true (show (⟨y0, y1, y2, y3, y4, y5, y6, y7, y8, y9⟩ : Nt).at_ ≤ at_ from hat), Bool.true_and] at hrec0
   obtain ⟨bb, hbb⟩ : ∃ b, cU at_ (ky ⟨y0, y1, y2, y3, y4, y5, y6, y7, y8, y9⟩) (l.drop (k + 1)) = b := ⟨_, rfl⟩
   rw [hbb] at hrec0 hf
   have hrec : ACalls Tryz.prog 175 [.c (.r v (noRs l)), .c (I k), .c (I at_)] [] fun u H => u = .c (B (!bb)) ∧ H = [] := hrec0
   obtain ⟨qs, hq⟩ : ∃ q, decide (y8 = x0) = q := ⟨_, rfl⟩
   refine WA ?_
   refine zb rfl ?_
   refine ZZ ?_
   by_cases h7 : y3 = 7
   rotate_left
   ·have hP : decide ((⟨y0, y1, y2, y3, y4, y5, y6, y7, y8, y9⟩ : Nt).kd = 7 ∧ (y8, y9) = (x0, x1)) = false := decide_eq_false fun h => h7 h.1
    refine ZZ ?_
    refine zg [(0, none), (1, none), (2, none), (3, none), (4, none), (5, none), (6, none), (7, none), (8, none), (9, none), (10, none), (11, none), (12, none), (13, none), (14, none), (15, none), (16, none), (17, none), (18, none), (19, none), (20, none), (21, none), (22, none), (23, none), (24, none), (25, none), (26, none), (27, none), (28, none), (29, none), (30, none), (31, none), (32, none), (33, none), (34, none), (35, none), (36, some []), (37, none)] zm (by kernel_rfl) ?_
    iterate 17 refine WX2 ?_
    first | refine ZU rfl (zT (a := y8) (b := x0) hq rfl Tryz.underlying9 rfl rfl) ?_ | refine ZV ?_
    refine WP ?_
    first | refine zq2 rfl rfl rfl (by decide) ⟨zk, ?_⟩ | (refine zr2 rfl (zc false (fun _ => hrec) rfl .fn rfl (by decide) (by kernel_rfl) rfl (fun _ => C0 rfl) (by simp)) ?_; rintro _ _ ⟨_, _, _, ⟨rfl, rfl⟩, hF, hH⟩; (refine NST hF hH ?_; clear hF hH; rintro rfl rfl); refine ⟨zk, ?_⟩)
    refine WQ ?_
    refine za rfl ?_
    refine ZZ ?_
    refine WA ?_
    refine zn [] (fun _ => [(0, .c (.r v (noRs l))), (1, .c (I i)), (2, .c (I at_)), (7, .c (I (k + 1 : Nat)))]) (fun _ => []) (by decide) (ZNL hE) ZCF (fun _ => .nil) (fun _ => ?_)
    exact ⟨q - 1, by omega, k + 1, by omega, by omega, by rw [← hf, hP, Bool.false_and, Bool.false_or], rfl, rfl⟩
   cases qs with
   | false =>
    have hP : decide ((⟨y0, y1, y2, y3, y4, y5, y6, y7, y8, y9⟩ : Nt).kd = 7 ∧ (y8, y9) = (x0, x1)) = false := decide_eq_false fun h => of_decide_eq_false hq (Prod.mk.inj h.2).1
    refine ZZ ?_
    refine zg [(0, none), (1, none), (2, none), (3, none), (4, none), (5, none), (6, none), (7, none), (8, none), (9, none), (10, none), (11, none), (12, none), (13, none), (14, none), (15, none), (16, none), (17, none), (18, none), (19, none), (20, none), (21, none), (22, none), (23, none), (24, none), (25, none), (26, none), (27, none), (28, none), (29, none), (30, none), (31, none), (32, none), (33, none), (34, none), (35, none), (36, some []), (37, none)] zm (by kernel_rfl) ?_
    iterate 17 refine WX2 ?_
    first | refine ZU rfl (zT (a := y8) (b := x0) hq rfl Tryz.underlying9 rfl rfl) ?_ | refine ZV ?_
    refine WP ?_
    first | refine zq2 rfl rfl rfl (by decide) ⟨zk, ?_⟩ | (refine zr2 rfl (zc false (fun _ => hrec) rfl .fn rfl (by decide) (by kernel_rfl) rfl (fun _ => C0 rfl) (by simp)) ?_; rintro _ _ ⟨_, _, _, ⟨rfl, rfl⟩, hF, hH⟩; (refine NST hF hH ?_; clear hF hH; rintro rfl rfl); refine ⟨zk, ?_⟩)
    refine WQ ?_
    refine za rfl ?_
    refine ZZ ?_
    refine WA ?_
    refine zn [] (fun _ => [(0, .c (.r v (noRs l))), (1, .c (I i)), (2, .c (I at_)), (7, .c (I (k + 1 : Nat)))]) (fun _ => []) (by decide) (ZNL hE) ZCF (fun _ => .nil) (fun _ => ?_)
    exact ⟨q - 1, by omega, k + 1, by omega, by omega, by rw [← hf, hP, Bool.false_and, Bool.false_or], rfl, rfl⟩
   | true =>
    by_cases h9 : y9 = x1
    rotate_left
    ·have hP : decide ((⟨y0, y1, y2, y3, y4, y5, y6, y7, y8, y9⟩ : Nt).kd = 7 ∧ (y8, y9) = (x0, x1)) = false := decide_eq_false fun h => h9 (Prod.mk.inj h.2).2
     refine ZZ ?_
     refine zg [(0, none), (1, none), (2, none), (3, none), (4, none), (5, none), (6, none), (7, none), (8, none), (9, none), (10, none), (11, none), (12, none), (13, none), (14, none), (15, none), (16, none), (17, none), (18, none), (19, none), (20, none), (21, none), (22, none), (23, none), (24, none), (25, none), (26, none), (27, none), (28, none), (29, none), (30, none), (31, none), (32, none), (33, none), (34, none), (35, none), (36, some []), (37, none)] zm (by kernel_rfl) ?_
     iterate 17 refine WX2 ?_
     first | refine ZU rfl (zT (a := y8) (b := x0) hq rfl Tryz.underlying9 rfl rfl) ?_ | refine ZV ?_
     refine WP ?_
     first | refine zq2 rfl rfl rfl (by decide) ⟨zk, ?_⟩ | (refine zr2 rfl (zc false (fun _ => hrec) rfl .fn rfl (by decide) (by kernel_rfl) rfl (fun _ => C0 rfl) (by simp)) ?_; rintro _ _ ⟨_, _, _, ⟨rfl, rfl⟩, hF, hH⟩; (refine NST hF hH ?_; clear hF hH; rintro rfl rfl); refine ⟨zk, ?_⟩)
     refine WQ ?_
     refine za rfl ?_
     refine ZZ ?_
     refine WA ?_
     refine zn [] (fun _ => [(0, .c (.r v (noRs l))), (1, .c (I i)), (2, .c (I at_)), (7, .c (I (k + 1 : Nat)))]) (fun _ => []) (by decide) (ZNL hE) ZCF (fun _ => .nil) (fun _ => ?_)
     exact ⟨q - 1, by omega, k + 1, by omega, by omega, by rw [← hf, hP, Bool.false_and, Bool.false_or], rfl, rfl⟩
    have hP : decide ((⟨y0, y1, y2, y3, y4, y5, y6, y7, y8, y9⟩ : Nt).kd = 7 ∧ (y8, y9) = (x0, x1)) = true := decide_eq_true ⟨h7, by rw [of_decide_eq_true hq, h9]⟩
    cases bb with
    | true =>
     refine ZZ ?_
     refine zg [(0, none), (1, none), (2, none), (3, none), (4, none), (5, none), (6, none), (7, none), (8, none), (9, none), (10, none), (11, none), (12, none), (13, none), (14, none), (15, none), (16, none), (17, none), (18, none), (19, none), (20, none), (21, none), (22, none), (23, none), (24, none), (25, none), (26, none), (27, none), (28, none), (29, none), (30, none), (31, none), (32, none), (33, none), (34, none), (35, none), (36, some []), (37, none)] zm (by kernel_rfl) ?_
     iterate 17 refine WX2 ?_
     first | refine ZU rfl (zT (a := y8) (b := x0) hq rfl Tryz.underlying9 rfl rfl) ?_ | refine ZV ?_
     refine WP ?_
     first | refine zq2 rfl rfl rfl (by decide) ⟨zk, ?_⟩ | (refine zr2 rfl (zc false (fun _ => hrec) rfl .fn rfl (by decide) (by kernel_rfl) rfl (fun _ => C0 rfl) (by simp)) ?_; rintro _ _ ⟨_, _, _, ⟨rfl, rfl⟩, hF, hH⟩; (refine NST hF hH ?_; clear hF hH; rintro rfl rfl); refine ⟨zk, ?_⟩)
     refine WQ ?_
     refine za rfl ?_
     refine ZZ ?_
     refine WA ?_
     refine zn [] (fun _ => [(0, .c (.r v (noRs l))), (1, .c (I i)), (2, .c (I at_)), (7, .c (I (k + 1 : Nat)))]) (fun _ => []) (by decide) (ZNL hE) ZCF (fun _ => .nil) (fun _ => ?_)
     exact ⟨q - 1, by omega, k + 1, by omega, by omega, by rw [← hf, hP, Bool.not_true, Bool.and_false, Bool.false_or], rfl, rfl⟩
    | false =>
     refine ZZ ?_
     refine zg [(0, none), (1, none), (2, none), (3, none), (4, none), (5, none), (6, none), (7, none), (8, none), (9, none), (10, none), (11, none), (12, none), (13, none), (14, none), (15, none), (16, none), (17, none), (18, none), (19, none), (20, none), (21, none), (22, none), (23, none), (24, none), (25, none), (26, none), (27, none), (28, none), (29, none), (30, none), (31, none), (32, none), (33, none), (34, none), (35, none), (36, some []), (37, none)] zm (by kernel_rfl) ?_
     iterate 17 refine WX2 ?_
     first | refine ZU rfl (zT (a := y8) (b := x0) hq rfl Tryz.underlying9 rfl rfl) ?_ | refine ZV ?_
     refine WP ?_
     first | refine zq2 rfl rfl rfl (by decide) ⟨zk, ?_⟩ | (refine zr2 rfl (zc false (fun _ => hrec) rfl .fn rfl (by decide) (by kernel_rfl) rfl (fun _ => C0 rfl) (by simp)) ?_; rintro _ _ ⟨_, _, _, ⟨rfl, rfl⟩, hF, hH⟩; (refine NST hF hH ?_; clear hF hH; rintro rfl rfl); refine ⟨zk, ?_⟩)
     refine WQ ?_
     refine zb rfl ?_
     refine ZZ ?_
     refine WA ?_
     exact ze [] _ rfl rfl rfl (by decide) (ZNK rfl) (fun _ => .nil) ⟨by rw [← hf, hP]; rfl, rfl⟩
  ·rw [if_pos (by simp only; omega)] at hf
   refine WA ?_
   refine za rfl ?_
   refine ZZ ?_
   refine WA ?_
   exact ze [] _ rfl rfl rfl (by decide) (ZNK rfl) (fun _ => .nil) ⟨by rw [← hf]; rfl, rfl⟩
 ·have hlt' : ¬ (k : Int) < ((noRs l).length : Int) := by omega
  rw [List.drop_eq_nil_of_le (by omega)] at hf
  refine WA ?_
  refine za rfl ?_
  refine ZZ ?_
  refine WA ?_
  exact ze [] _ rfl rfl rfl (by decide) (ZNK rfl) (fun _ => .nil) ⟨by rw [← hf]; rfl, rfl⟩
end Go.Proofs.YtcdeonjdipcgpaaGreatDoor
-- NEWM
namespace Go.Proofs.YtcdeonjdipcgpaaGreatDoor
open Go Go.RowKit
set_option maxRecDepth 100000
def cntD (at_ : Int) (l : List Nt) (k : Nat) : List Int := ((List.range k).filter fun i => cR at_ (l.drop i)).map (fun i : Nat => (i : Int))
theorem cntD_next {at_ : Int} {l : List Nt} {k : Nat} {b : Bool} (h : cR at_ (l.drop k) = b) : cntD at_ l (k + 1) = if b = true then cntD at_ l k ++ [(k : Int)] else cntD at_ l k := by
 unfold cntD
 rw [List.range_succ, List.filter_append, List.map_append, List.filter_cons, h]
 cases b <;> simp
theorem countingD_v (v : Value) (l : List Nt) (at_ : Int) (hl : l.length ≤ 1000000) : ACalls Tryz.prog 115 [.c (.r v (noRs l)), .c (I at_)] [] fun u H => ∃ c, (cntD at_ l l.length).length ≤ c ∧ u = .o 0 0 (cntD at_ l l.length).length c ∧ H = [.arr 3 1 c (nR (cntD at_ l l.length))] := by
 have e1 : (noRs l).length = l.length := by simp
 refine zj (N := 22) Tryz.func115 rfl rfl (by simp) fun E hE => ?_
 refine WA ?_
 refine WA ?_
 refine WA ?_
 refine zC (fun m F H => ∃ (k : Nat) (out : List Int) (cp : Nat), m + k = l.length ∧ out = cntD at_ l k ∧ out.length ≤ cp ∧ out.length ≤ k ∧ F = [(0, .c (.r v (noRs l))), (1, .c (I at_)), (5, .o 0 0 out.length cp), (8, .c (I (noRs l).length)), (9, .c (I k))] ∧ H = [.arr 3 1 cp (nR out)]) ?_ ?_
 ·refine zn [none] (fun _ => [(0, .c (.r v (noRs l))), (1, .c (I at_)), (5, .o 0 0 0 0), (8, .c (I (noRs l).length)), (9, .c (I (0 : Nat)))]) (fun _ => [.arr 3 1 0 []]) (by decide) (ZNL hE) ZCF ZCH (fun _ => ?_)
  exact ⟨l.length, 0, [], 0, by omega, rfl, Nat.le_refl _, Nat.le_refl _, rfl, rfl⟩
 rintro m F H ⟨k, out, cp, hk, ho, hcp, hol, rfl, rfl⟩
 have e2 : (nR out).length = out.length := by simp
 refine WA ?_
 refine zu rfl (fun hlt => ?_) (fun hge => ?_)
 ·have hrec0 := countingR_v v l at_ hl (l.length - k) k (by omega) (by omega)
  obtain ⟨b, hb⟩ : ∃ b, cR at_ (l.drop k) = b := ⟨_, rfl⟩
  have hn := cntD_next hb
  rw [hb] at hrec0
  have hrec := hrec0
  refine WA ?_
  refine WR ?_
  refine zf rfl (zc false (fun _ => hrec) rfl .fn rfl (by decide) (by kernel_rfl) rfl (fun _ => C0 rfl) (by simp)) ?_
  rintro _ _ ⟨_, _, _, ⟨rfl, rfl⟩, hF, hH⟩
  (refine NST hF hH ?_; clear hF hH; rintro rfl rfl)
  refine WE ?_
  cases b with
  | true =>
   refine zb rfl ?_
   refine ZZ ?_
   refine WR ?_
   refine zf rfl (Zapp (news := [[I k]]) (j := 1) (hE := KA (t := 22) rfl) (hsrc := .own rfl rfl rfl) (hj := rfl) (hle := by omega)) ?_
   rintro _ _ ⟨_, cc, hcc, rfl, rfl⟩
   refine WE ?_
   refine WA ?_
   refine zn [some 0] (fun _ => [(0, .c (.r v (noRs l))), (1, .c (I at_)), (5, .o 0 0 (out.length + 1) cc), (8, .c (I (noRs l).length)), (9, .c (I (k + 1 : Nat)))]) (fun _ => [.arr 3 1 cc (nR out ++ [[I k]])]) (by decide) (ZNL hE) ZCF ZCH (fun _ => ?_)
   exact ⟨m - 1, by omega, k + 1, out ++ [(k : Int)], cc, by omega, by rw [hn, if_pos rfl, ho], by simp at hcc ⊢; omega, by simp; omega, by simp, by simp⟩
  | false =>
   refine za rfl ?_
   refine ZZ ?_
   refine WA ?_
   refine zn [some 0] (fun _ => [(0, .c (.r v (noRs l))), (1, .c (I at_)), (5, .o 0 0 out.length cp), (8, .c (I (noRs l).length)), (9, .c (I (k + 1 : Nat)))]) (fun _ => [.arr 3 1 cp (nR out)]) (by decide) (ZNL hE) ZCF ZCH (fun _ => ?_)
   exact ⟨m - 1, by omega, k + 1, out, cp, by omega, by rw [hn, if_neg (by simp), ho], hcp, by omega, rfl, rfl⟩
 obtain rfl : k = l.length := by omega
 subst ho
 refine ZZ ?_
 refine WA ?_
 exact aret_o [some 0] (fun _ => [.arr 3 1 cp (nR (cntD at_ l l.length))]) rfl rfl rfl rfl rfl (by decide) (ZNK rfl) ZCH (fun _ => ⟨cp, hcp, rfl, rfl⟩)
end Go.Proofs.YtcdeonjdipcgpaaGreatDoor
namespace Go.Proofs.YtcdeonjdipcgpaaGreatDoor
open Go Go.RowKit
theorem chkA_ord : ∀ (l : List Nt) (p : Option Nt), chkA p l = 0 → (∀ x, l.head? = some x → badO p x = false) ∧ ∀ i x y, l[i]? = some x → l[i + 1]? = some y → cmpNt x y < 0
 | [], p, _ => ⟨fun x h => by simp at h, fun i x y h => by simp at h⟩
 | z :: l, p, h => by
  rw [zS3] at h
  split at h
  ·rename_i h1; exact absurd h h1
  split at h
  ·cases h
  ·rename_i h2
   obtain ⟨h3, h4⟩ := chkA_ord l (some z) h
   refine ⟨fun x hx => ?_, fun i x y hx hy => ?_⟩
   ·simp only [List.head?_cons, Option.some.injEq] at hx
    subst hx; simpa using h2
   ·cases i with
    | zero =>
     simp only [List.getElem?_cons_zero, Option.some.injEq] at hx
     subst hx
     have := h3 y (by rw [List.head?_eq_getElem?]; simpa using hy)
     have h5 : decide (0 ≤ cmpNt z y) = false := this
     have := of_decide_eq_false h5
     omega
    | succ i => exact h4 i x y (by simpa using hx) (by simpa using hy)
theorem chkN_ord {l : List Nt} (h : chkN l = 0) : ∀ i x y, l[i]? = some x → l[i + 1]? = some y → x.at_ ≤ y.at_ := by
 unfold chkN at h
 split at h
 ·cases h
 split at h
 ·rename_i h1; exact absurd h h1
 ·rename_i h1
  have h2 : chkA none l = 0 := Decidable.not_not.1 h1
  intro i x y hx hy
  have := (chkA_ord l none h2).2 i x y hx hy
  rw [cmpNt_lt] at this
  omega
theorem zO1 {at_ : Int} {l : List Nt} (h : chkN l = 0) : cntP at_ l = ((List.range l.length).filter fun i => cR at_ (l.drop i)).map (fun i : Nat => (i : Int)) := cntP_doc (chkN_ord h)
end Go.Proofs.YtcdeonjdipcgpaaGreatDoor
-- NEWM
namespace Go.Proofs.YtcdeonjdipcgpaaGreatDoor
open Go Go.RowKit
set_option maxRecDepth 100000
theorem spanfault_v (n lo hi : Int) : ACalls Tryz.prog 65 [.c (I n), .c (I lo), .c (I hi)] [] fun u H => u = .c (I (if outB n lo hi = true then 1 else 0)) ∧ H = [] := by
 obtain ⟨q, hq⟩ : ∃ q, (!outB n lo hi) = q := ⟨_, rfl⟩
 refine zj (N := 12) Tryz.func65 rfl rfl (by simp) fun E hE => ?_
 refine WA ?_
 refine WR ?_
 refine zf rfl (zc false (fun _ => in1_v _ _ _) rfl .fn rfl (by decide) (by kernel_rfl) rfl (fun _ => C0 rfl) (by simp)) ?_
 rintro _ _ ⟨_, _, _, ⟨rfl, rfl⟩, hF, hH⟩
 rw [hq] at hF
 (refine NST hF hH ?_; clear hF hH; rintro rfl rfl)
 refine WE ?_
 cases q with
 | true =>
  refine za rfl ?_
  refine ZZ ?_
  refine WA ?_
  exact ze [] _ rfl rfl rfl (by decide) (ZNK rfl) (fun _ => .nil) ⟨by rw [if_neg (by simpa using hq)], rfl⟩
 | false =>
  refine zb rfl ?_
  refine WA ?_
  exact ze [] _ rfl rfl rfl (by decide) (ZNK rfl) (fun _ => .nil) ⟨by rw [if_pos (by simpa using hq)], rfl⟩
theorem momentfault_v (n : Int) : ACalls Tryz.prog 19 [.c (I n)] [] fun u H => u = .c (I (if moB n = true then 0 else 1)) ∧ H = [] := by
 refine zj (N := 5) Tryz.func19 rfl rfl (by simp) fun E hE => ?_
 repeat' (first
  | (with_reducible refine zI ?_) | (with_reducible refine zG ?_) | (with_reducible refine zL ?_) | (with_reducible refine zR ?_) | (with_reducible refine zP ?_) | (with_reducible refine zS ?_) | (with_reducible refine zQ rfl ?_) | (with_reducible refine zM ?_) | (with_reducible refine zz ?_) | (with_reducible refine zq ?_) | (with_reducible refine zJ ?_) | (with_reducible refine zB ?_)
  | refine zb rfl ?_ | refine za rfl ?_ | refine zA rfl (by assumption) ?_ | refine zw rfl (by assumption) ?_ | refine zu rfl (fun _ => ?_) (fun _ => ?_) | refine zt rfl (fun _ => ?_) (fun _ => ?_)
  | (refine zh (id := 1) ?_
     refine WO ?_
     refine zf rfl (zc false (fun _ => spanfault_v _ _ _) rfl .fn rfl (by decide) (by kernel_rfl) rfl (fun _ => C0 rfl) (by simp)) ?_
     rintro _ _ ⟨_, _, _, ⟨rfl, rfl⟩, hF, hH⟩
     (refine NST hF hH ?_; clear hF hH; rintro rfl rfl)
     refine WE ?_)
  | (refine zh ?_; refine WE ?_))
 exact ze [] _ rfl rfl rfl (by decide) (ZNK rfl) (fun _ => .nil) ⟨by unfold moB; cases outB n 0 345686399999 <;> rfl, rfl⟩
end Go.Proofs.YtcdeonjdipcgpaaGreatDoor
-- NEWM
namespace Go.Proofs.YtcdeonjdipcgpaaGreatDoor
open Go Go.RowKit
set_option maxRecDepth 100000
end Go.Proofs.YtcdeonjdipcgpaaGreatDoor
namespace Go.Proofs.YtcdeonjdipcgpaaGreatDoor
open Go Go.RowKit
set_option maxRecDepth 100000
abbrev ints_r (v : Value) (l : List Int) : CV := .r v (l.map fun z => [I z])
def firstK : List Int → Int
 | [] => 0
 | e :: l => if e ≠ 0 then e else firstK l
theorem drop_consk {α : Type} {l : List α} {k : Nat} {s : α} (h : l[k]? = some s) : l.drop k = s :: l.drop (k + 1) := by
 obtain ⟨hk, rfl⟩ := List.getElem?_eq_some_iff.1 h
 exact List.drop_eq_getElem_cons hk
theorem firstK_drop {l : List Int} {k : Nat} {e : Int} (h : l[k]? = some e) : firstK (l.drop k) = if e ≠ 0 then e else firstK (l.drop (k + 1)) := by
 rw [drop_consk h]; rfl
theorem errsk_a (l : List Int) (v : Value) (hl : l.length ≤ 1000000) : ACalls Tryz.prog 17 [.c (ints_r v l)] [] fun u H => u = .c (I (firstK l)) ∧ H = [] := by
 have e1 : (l.map fun e => [I e]).length = l.length := by simp
 refine zj (N := 15) Tryz.func17 rfl rfl (by simp) fun E hE => ?_
 refine WA ?_
 refine WA ?_
 refine zC (fun m F H => ∃ (k : Nat), m + k = l.length ∧ firstK (l.drop k) = firstK l ∧ F = [(5, .c (ints_r v l)), (6, .c (I (l.map fun e => [I e]).length)), (7, .c (I k))] ∧ H = []) ?_ ?_
 ·refine zn [] (fun _ => [(5, .c (ints_r v l)), (6, .c (I (l.map fun e => [I e]).length)), (7, .c (I (0 : Nat)))]) (fun _ => _) (by decide) (ZNL hE) ZCF (fun _ => .nil) (fun _ => ?_)
  exact ⟨l.length, 0, by omega, rfl, rfl, rfl⟩
 rintro m F H ⟨k, hk, hf, rfl, rfl⟩
 refine WA ?_
 refine zu rfl (fun hlt => ?_) (fun hge => ?_)
 ·obtain ⟨e, he⟩ : ∃ e, l[k]? = some e := ⟨_, List.getElem?_eq_getElem (by omega)⟩
  have hrow : (l.map fun e => [I e])[k]? = some [I e] := by rw [List.getElem?_map, he]; rfl
  have hfd := firstK_drop he
  refine WA ?_
  refine WA ?_
  refine zu rfl (fun hne => ?_) (fun heq => ?_)
  ·refine WA ?_
   exact ze [] _ rfl rfl rfl (by decide) (ZNK rfl) (fun _ => .nil) ⟨by rw [← hf, hfd, if_pos hne], rfl⟩
  ·refine ZZ ?_
   refine WA ?_
   refine zn [] (fun _ => [(5, .c (ints_r v l)), (6, .c (I (l.map fun e => [I e]).length)), (7, .c (I (k + 1 : Nat)))]) (fun _ => _) (by decide) (ZNL hE) ZCF (fun _ => .nil) (fun _ => ?_)
   exact ⟨m - 1, by omega, k + 1, by omega, by rw [← hf, hfd, if_neg heq], rfl, rfl⟩
 refine WA ?_
 refine ze [] _ rfl rfl rfl (by decide) (ZNK rfl) (fun _ => .nil) ⟨?_, rfl⟩
 rw [← hf, List.drop_eq_nil_of_le (by omega)]; rfl
theorem zh3 {α : Type} {l : List α} {k : Nat} {s : α} (h : l[k]? = some s) : l.take (k + 1) = l.take k ++ [s] := by
 rw [List.take_add_one, h]; rfl
end Go.Proofs.YtcdeonjdipcgpaaGreatDoor
