/- The library's contracts of sorting lie at this program. -/
import Derived.Test.YtlhbfcfjepbhpaaGreatDoorQbd
import Derived.Test.YtlhbfcfjepbhpaaGreatDoorQat
import Derived.Shelf.SlSortCmp.NoneTotal
import Derived.Shelf.SortM.Plain
import Derived.Shelf.SortM.SortNone
import Derived.Test.YtlhbfcfjepbhpaaGreatDoorProg
set_option linter.unusedSimpArgs false
set_option linter.unusedVariables false
-- NEWM
namespace Go.Proofs.YtlhbfcfjepbhpaaGreatDoor
open Go Go.RowKit
set_option maxRecDepth 100000
set_option maxHeartbeats 2000000 in
theorem write_v (v : Value) (l : List Nt) (x : Nt) (hl : l.length ≤ 1000000) (hs : ∀ y ∈ l, NtS y) (hxs : NtS x) (hn : ∀ y ∈ l, y.no ≤ 4000000000000) (hxn : x.no ≤ 4000000000000) : ACalls Tryz.prog 20 [.c (.r v (noRs l)), noA x] [] fun u H => ∃ (r : List Nt) (c : Nat), r = (if (if chkN l ≠ 0 then chkN l else wrE l x) = 0 then l ++ [wrX l x] else []) ∧ r.length ≤ c ∧ u = .t [.o 0 0 r.length c, .c (I (if chkN l ≠ 0 then chkN l else wrE l x))] ∧ H = [.arr 39 10 c (noRs r)] := by
 obtain ⟨x0, x1, x2, x3, x4, x5, x6, x7, x8, x9⟩ := x
 obtain ⟨s1, s2, s3, s4, s5⟩ := hxs
 simp only at s1 s2 s3 s4 s5
 show ACalls _ _ [.c (.r v (noRs l)), .a [.c (T x0), .c (I x1), .c (I x2), .c (I x3), .c (T x4), .c (T x5), .c (T x6), .c (I x7), .c (T x8), .c (I x9)]] [] _
 have e1 : (noRs l).length = l.length := by simp
 have hnil : ∀ e : Int, (if chkN l ≠ 0 then chkN l else wrE l ⟨x0, x1, x2, x3, x4, x5, x6, x7, x8, x9⟩) = e → e ≠ 0 → ∃ (r : List Nt) (c : Nat), r = (if (if chkN l ≠ 0 then chkN l else wrE l ⟨x0, x1, x2, x3, x4, x5, x6, x7, x8, x9⟩) = 0 then l ++ [wrX l ⟨x0, x1, x2, x3, x4, x5, x6, x7, x8, x9⟩] else []) ∧ r.length ≤ c ∧ (AV.t [.o 0 0 0 0, .c (I e)]) = .t [.o 0 0 r.length c, .c (I (if chkN l ≠ 0 then chkN l else wrE l ⟨x0, x1, x2, x3, x4, x5, x6, x7, x8, x9⟩))] ∧ [OB.arr 39 10 0 []] = [.arr 39 10 c (noRs r)] := fun e h1 h2 => ⟨[], 0, by rw [h1, if_neg h2], Nat.le_refl _, by rw [h1]; rfl, rfl⟩
 refine zg (N := 68) Tryz.func20 rfl rfl (by simp) fun E hE => ?_
 refine WA ?_
 refine WR ?_
 refine zh rfl (zc false (fun _ => zr2 v l hl hs) rfl .fn rfl (by decide) (by kernel_rfl) rfl (fun _ => C0 rfl) (by simp)) ?_
 rintro _ _ ⟨_, _, _, ⟨rfl, rfl⟩, hF, hH⟩
 (refine NST hF hH ?_; clear hF hH; rintro rfl rfl)
 refine WE ?_
 generalize hce : chkN l = ce at hnil ⊢
 refine WA ?_
 refine zq rfl (fun h0 => ?_) (fun h0 => ?_)
 ·refine WA ?_
  exact zZ (us := [.c (.r (.slice none 0 0) []), .c (I ce)]) [none] (fun _ => .t [.o 0 0 0 0, .c (I ce)]) (fun _ => [.arr 39 10 0 []]) (.tmp rfl (.tmp rfl .nil)) (by decide) (ZNK rfl) (fun _ => .tL (.cons (.nil rfl) (.cons (.c rfl) .nil))) ZCH (fun _ => hnil _ (by rw [if_pos h0]) (h0))
 have hce0 : ce = 0 := by omega
 subst hce0
 simp only [ne_eq, not_true_eq_false, if_false] at hnil ⊢
 refine ZZ ?_
 refine WA ?_
 refine zq rfl (fun h1 => ?_) (fun h1 => ?_)
 ·refine WA ?_
  exact zZ (us := [.c (.r (.slice none 0 0) []), .c (I 3)]) [none] (fun _ => .t [.o 0 0 0 0, .c (I 3)]) (fun _ => [.arr 39 10 0 []]) (.tmp rfl (.tmp rfl .nil)) (by decide) (ZNK rfl) (fun _ => .tL (.cons (.nil rfl) (.cons (.c rfl) .nil))) ZCH (fun _ => hnil _ (by rw [wrE, if_pos h1]) (by decide))
 have ew : wrE l ⟨x0, x1, x2, x3, x4, x5, x6, x7, x8, x9⟩ = if ntF (wrX l ⟨x0, x1, x2, x3, x4, x5, x6, x7, x8, x9⟩) ≠ 0 then ntF (wrX l ⟨x0, x1, x2, x3, x4, x5, x6, x7, x8, x9⟩) else if badO (prv l l.length) (wrX l ⟨x0, x1, x2, x3, x4, x5, x6, x7, x8, x9⟩) = true then 7 else if 2000 ≤ l.length then 2 else 0 := by rw [wrE, if_neg h1]
 refine ZZ ?_
 refine WA ?_
 refine zC (fun m F H => ∃ (k : Nat) (M : Int), m + k = l.length ∧ M = mxN x0 (l.take k) x1 ∧ F = [(0, .c (.r v (noRs l))), (3, .p 0 0 0), (4, .c (.r (.slice none 0 0) [])), (5, .c (I 0)), (19, .c (.r v (noRs l))), (20, .c (I (noRs l).length)), (21, .c (I k))] ∧ H = [.box [.c (T x0), .c (I M), .c (I x2), .c (I x3), .c (T x4), .c (T x5), .c (T x6), .c (I x7), .c (T x8), .c (I x9)]]) ?_ ?_
 ·refine zl [some 0] (fun _ => [(0, .c (.r v (noRs l))), (3, .p 0 0 0), (4, .c (.r (.slice none 0 0) [])), (5, .c (I 0)), (19, .c (.r v (noRs l))), (20, .c (I (noRs l).length)), (21, .c (I (0 : Nat)))]) (fun _ => [.box [.c (T x0), .c (I x1), .c (I x2), .c (I x3), .c (T x4), .c (T x5), .c (T x6), .c (I x7), .c (T x8), .c (I x9)]]) (by decide) (ZNL hE) ZCF ZCH (fun _ => ?_)
  exact ⟨l.length, 0, x1, by omega, rfl, rfl, rfl⟩
 rintro m F H ⟨k, M, hk, hM, rfl, rfl⟩
 refine WA ?_
 refine zq rfl (fun hlt => ?_) (fun hge => ?_)
 ·obtain ⟨y, hy⟩ : ∃ n, l[k]? = some n := ⟨_, List.getElem?_eq_getElem (by omega)⟩
  have hrow0 := zE1 hy
  have hsn : mxN x0 (l.take (k + 1)) x1 = if y.st = x0 then max M y.no else M := by rw [List.take_add_one, hy, Option.toList_some, mxN_snoc, hM]
  obtain ⟨y0, y1, y2, y3, y4, y5, y6, y7, y8, y9⟩ := y
  have hrow : (noRs l)[k]? = some [T y0, I y1, I y2, I y3, T y4, T y5, T y6, I y7, T y8, I y9] := hrow0
  obtain ⟨q, hq⟩ : ∃ q, decide (y0 = x0) = q := ⟨_, rfl⟩
  refine WA ?_
  refine ZR ?_
  iterate 4 refine WX1 ?_
  refine ZA (zu1 (a := y0) (b := x0) hq rfl Tryz.underlying9 rfl rfl) ?_
  refine WE ?_
  cases q with
  | true =>
   refine zb rfl ?_
   refine ZZ ?_
   refine WA ?_
   refine WA ?_
   refine zl [some 0] (fun _ => [(0, .c (.r v (noRs l))), (3, .p 0 0 0), (4, .c (.r (.slice none 0 0) [])), (5, .c (I 0)), (19, .c (.r v (noRs l))), (20, .c (I (noRs l).length)), (21, .c (I (k + 1 : Nat)))]) (fun _ => [.box [.c (T x0), .c (I (max M y1)), .c (I x2), .c (I x3), .c (T x4), .c (T x5), .c (T x6), .c (I x7), .c (T x8), .c (I x9)]]) (by decide) (ZNL hE) ZCF ZCH (fun _ => ?_)
   exact ⟨m - 1, by omega, k + 1, max M y1, by omega, by rw [hsn, if_pos (of_decide_eq_true hq)], rfl, rfl⟩
  | false =>
   refine za rfl ?_
   refine ZZ ?_
   refine WA ?_
   refine zl [some 0] (fun _ => [(0, .c (.r v (noRs l))), (3, .p 0 0 0), (4, .c (.r (.slice none 0 0) [])), (5, .c (I 0)), (19, .c (.r v (noRs l))), (20, .c (I (noRs l).length)), (21, .c (I (k + 1 : Nat)))]) (fun _ => [.box [.c (T x0), .c (I M), .c (I x2), .c (I x3), .c (T x4), .c (T x5), .c (T x6), .c (I x7), .c (T x8), .c (I x9)]]) (by decide) (ZNL hE) ZCF ZCH (fun _ => ?_)
   exact ⟨m - 1, by omega, k + 1, M, by omega, by rw [hsn, if_neg (of_decide_eq_false hq)], rfl, rfl⟩
 rw [List.take_of_length_le (by omega)] at hM
 have hMb := mxN_le x0 4000000000000 l x1 hxn hn
 rw [← hM] at hMb
 have hx0 : x1 = 0 := by omega
 have hwx : wrX l ⟨x0, x1, x2, x3, x4, x5, x6, x7, x8, x9⟩ = ⟨x0, M + 1, x2, x3, x4, x5, x6, x7, x8, x9⟩ := by unfold wrX; rw [hM]
 rw [hwx] at ew
 have hws : NtS ⟨x0, M + 1, x2, x3, x4, x5, x6, x7, x8, x9⟩ := ⟨s1, s2, s3, s4, s5⟩
 refine ZZ ?_
 refine WA ?_
 refine WR ?_
 refine zh rfl (zc false (fun _ => formed_v ⟨x0, M + 1, x2, x3, x4, x5, x6, x7, x8, x9⟩ hws) rfl .fn rfl (by decide) (by kernel_rfl) rfl (fun _ => .cons (.aL (C0 rfl)) .nil) (by simp)) ?_
 rintro _ _ ⟨_, _, _, ⟨rfl, rfl⟩, hF, hH⟩
 (refine NST hF hH ?_; clear hF hH; rintro rfl rfl)
 refine WE ?_
 generalize hfe : ntF ⟨x0, M + 1, x2, x3, x4, x5, x6, x7, x8, x9⟩ = fe at ew ⊢
 refine WA ?_
 refine zq rfl (fun h2 => ?_) (fun h2 => ?_)
 ·rw [if_pos h2] at ew
  refine WA ?_
  exact zZ (us := [.c (.r (.slice none 0 0) []), .c (I fe)]) [none] (fun _ => .t [.o 0 0 0 0, .c (I fe)]) (fun _ => [.arr 39 10 0 []]) (.tmp rfl (.tmp rfl .nil)) (by decide) (ZNK rfl) (fun _ => .tL (.cons (.nil rfl) (.cons (.c rfl) .nil))) ZCH (fun _ => hnil _ (ew) (h2))
 rw [if_neg h2] at ew
 refine ZZ ?_
 refine WA ?_
 obtain ⟨q, hq⟩ : ∃ q, badO (prv l l.length) ⟨x0, M + 1, x2, x3, x4, x5, x6, x7, x8, x9⟩ = q := ⟨_, rfl⟩
 rw [hq] at ew
 refine zM2 (fun F H => F = [(0, .c (.r v (noRs l))), (3, .p 0 0 0), (4, .c (.r (.slice none 0 0) [])), (5, .c (I 0)), (59, .c (B q))] ∧ H = [.box [.c (T x0), .c (I (M + 1)), .c (I x2), .c (I x3), .c (T x4), .c (T x5), .c (T x6), .c (I x7), .c (T x8), .c (I x9)]]) ?_ ?_ zn4
 ·by_cases hk0 : l.length = 0
  ·have hq2 : q = false := by rw [← hq, hk0]; rfl
   subst hq2
   have hk0' : ¬ (0 : Int) < ((noRs l).length : Int) := by omega
   refine ZZ ?_
   refine ze [(0, none), (1, none), (2, none), (3, none), (4, none), (5, none), (6, none), (7, none), (8, none), (9, some []), (10, none), (11, none)] zr (by kernel_rfl) ?_
   refine WP ?_
   first | refine zN2 rfl rfl rfl (by decide) ⟨zk, ?_⟩ | (refine zO2 rfl (zc false (fun _ => zC2 ⟨x0, M + 1, x2, x3, x4, x5, x6, x7, x8, x9⟩ ⟨x0, M + 1, x2, x3, x4, x5, x6, x7, x8, x9⟩) rfl .fn rfl (by decide) (by kernel_rfl) rfl (fun _ => .cons (.aL (C0 rfl)) (.cons (.aL (C0 rfl)) .nil)) (by simp)) ?_; rintro _ _ ⟨_, _, _, ⟨rfl, rfl⟩, hF, hH⟩; (refine NST hF hH ?_; clear hF hH; rintro rfl rfl); refine ⟨zk, ?_⟩)
   refine WQ ?_
   all_goals refine zl [some 0] (fun _ => [(0, .c (.r v (noRs l))), (3, .p 0 0 0), (4, .c (.r (.slice none 0 0) [])), (5, .c (I 0)), (59, .c (B false))]) (fun _ => [.box [.c (T x0), .c (I (M + 1)), .c (I x2), .c (I x3), .c (T x4), .c (T x5), .c (T x6), .c (I x7), .c (T x8), .c (I x9)]]) (by decide) (ZNL hE) ZCF ZCH (fun _ => ?_)
   all_goals exact ⟨rfl, rfl⟩
  ·obtain ⟨y, hy⟩ : ∃ n, l[l.length - 1]? = some n := ⟨_, List.getElem?_eq_getElem (by omega)⟩
   have hkp : (0 : Int) < ((noRs l).length : Int) := by omega
   have hpy : prv l l.length = some y := by unfold prv; rw [if_neg hk0]; exact hy
   rw [hpy] at hq
   have hq' : decide (0 ≤ cmpNt y ⟨x0, M + 1, x2, x3, x4, x5, x6, x7, x8, x9⟩) = q := hq
   have hrowy0 := zE1 hy
   obtain ⟨y0, y1, y2, y3, y4, y5, y6, y7, y8, y9⟩ := y
   have hrowy : (noRs l)[l.length - 1]? = some [T y0, I y1, I y2, I y3, T y4, T y5, T y6, I y7, T y8, I y9] := hrowy0
   refine ZZ ?_
   refine ze [(0, none), (1, none), (2, none), (3, none), (4, none), (5, none), (6, none), (7, none), (8, none), (9, some []), (10, none), (11, none)] zr (by kernel_rfl) ?_
   refine WP ?_
   first | refine zN2 rfl rfl rfl (by decide) ⟨zk, ?_⟩ | (refine zO2 rfl (zc false (fun _ => zC2 ⟨y0, y1, y2, y3, y4, y5, y6, y7, y8, y9⟩ ⟨x0, M + 1, x2, x3, x4, x5, x6, x7, x8, x9⟩) rfl .fn rfl (by decide) (by kernel_rfl) rfl (fun _ => .cons (.aL (C0 rfl)) (.cons (.aL (C0 rfl)) .nil)) (by simp)) ?_; rintro _ _ ⟨_, _, _, ⟨rfl, rfl⟩, hF, hH⟩; (refine NST hF hH ?_; clear hF hH; rintro rfl rfl); refine ⟨zk, ?_⟩)
   refine WQ ?_
   all_goals refine zl [some 0] (fun _ => [(0, .c (.r v (noRs l))), (3, .p 0 0 0), (4, .c (.r (.slice none 0 0) [])), (5, .c (I 0)), (59, .c (B q))]) (fun _ => [.box [.c (T x0), .c (I (M + 1)), .c (I x2), .c (I x3), .c (T x4), .c (T x5), .c (T x6), .c (I x7), .c (T x8), .c (I x9)]]) (by decide) (ZNL hE) ZCF ZCH (fun _ => ?_)
   all_goals exact ⟨rfl, rfl⟩
 rintro F H ⟨rfl, rfl⟩
 cases q with
 | true =>
  refine zb rfl ?_
  refine ZZ ?_
  refine WA ?_
  exact zZ (us := [.c (.r (.slice none 0 0) []), .c (I 7)]) [none] (fun _ => .t [.o 0 0 0 0, .c (I 7)]) (fun _ => [.arr 39 10 0 []]) (.tmp rfl (.tmp rfl .nil)) (by decide) (ZNK rfl) (fun _ => .tL (.cons (.nil rfl) (.cons (.c rfl) .nil))) ZCH (fun _ => hnil _ (ew) (by decide))
 | false =>
 rw [if_neg (by simp)] at ew
 refine za rfl ?_
 refine ZZ ?_
 refine WA ?_
 refine zq rfl (fun h3 => ?_) (fun h3 => ?_)
 ·rw [if_pos (by omega)] at ew
  refine WA ?_
  exact zZ (us := [.c (.r (.slice none 0 0) []), .c (I 2)]) [none] (fun _ => .t [.o 0 0 0 0, .c (I 2)]) (fun _ => [.arr 39 10 0 []]) (.tmp rfl (.tmp rfl .nil)) (by decide) (ZNK rfl) (fun _ => .tL (.cons (.nil rfl) (.cons (.c rfl) .nil))) ZCH (fun _ => hnil _ (ew) (by decide))
 rw [if_neg (by omega)] at ew
 refine ZZ ?_
 refine zM2 (fun F H => ∃ c, l.length + 1 ≤ c ∧ F = [(4, .o 0 0 (l.length + 1) c), (5, .c (I 0))] ∧ H = [.arr 39 10 c (noRs l ++ [[T x0, I (M + 1), I x2, I x3, T x4, T x5, T x6, I x7, T x8, I x9]])]) ?_ ?_ zn4
 ·refine ZZ ?_
  refine zl3 [[(0, none), (2, none), (1, some [2]), (3, some [0]), (4, some []), (5, none), (6, none)], [(0, none), (2, none), (3, some [0]), (1, some [2]), (4, some []), (5, none), (6, none)]] zr (by kernel_rfl) ?_
  focus
   refine WM ?_
   refine zt2 (by rfl) (by rfl) (by rfl) ?_ ?_
   rotate_left
   refine WM ?_
   refine zi1 (i := 1) (by rfl) (by rfl) rfl rfl (zc false (fun _ => cloneN_a (noRs l) v (okNo l) (by omega)) rfl .fn rfl (by decide) (by kernel_rfl) rfl (fun _ => C0 rfl) (by simp)) ?_
   rintro _ _ ⟨_, _, _, ⟨c3, hc3, rfl, rfl⟩, hF, hH⟩
   (refine NST hF hH ?_; clear hF hH; rintro rfl rfl)
   refine ⟨AGX, ?_⟩
   refine zi1 (i := 4) (by rfl) (by rfl) rfl rfl (Zapp (news := [[T x0, I (M + 1), I x2, I x3, T x4, T x5, T x6, I x7, T x8, I x9]]) (j := 1) (hE := KA (t := 26) rfl) (hsrc := .own rfl rfl rfl) (hj := rfl) (hle := by omega)) ?_
   rintro _ _ ⟨_, cc, hcc, rfl, rfl⟩
   refine ⟨AGX, ?_⟩
   refine WN ?_
   rotate_right
   refine zi1 (i := 1) (by rfl) (by rfl) rfl rfl (zc false (fun _ => cloneN_a (noRs l) v (okNo l) (by omega)) rfl .fn rfl (by decide) (by kernel_rfl) rfl (fun _ => C0 rfl) (by simp)) ?_
   rintro _ _ ⟨_, _, _, ⟨c3, hc3, rfl, rfl⟩, hF, hH⟩
   (refine NST hF hH ?_; clear hF hH; rintro rfl rfl)
   refine ⟨AGX, ?_⟩
   refine WM ?_
   refine zi1 (i := 4) (by rfl) (by rfl) rfl rfl (Zapp (news := [[T x0, I (M + 1), I x2, I x3, T x4, T x5, T x6, I x7, T x8, I x9]]) (j := 1) (hE := KA (t := 26) rfl) (hsrc := .own rfl rfl rfl) (hj := rfl) (hle := by omega)) ?_
   rintro _ _ ⟨_, cc, hcc, rfl, rfl⟩
   refine ⟨AGX, ?_⟩
   refine WN ?_
  all_goals (first
   | exact zl [some 1] (fun _ => [(4, .o 0 0 (l.length + 1) cc), (5, .c (I 0))]) (fun _ => [.arr 39 10 cc (noRs l ++ [[T x0, I (M + 1), I x2, I x3, T x4, T x5, T x6, I x7, T x8, I x9]])]) (by decide) (ZNL hE) (fun g => .cons rfl (.o rfl (by simp)) (.cons rfl (.c rfl) .nil)) ZCH (fun _ => ⟨cc, by simp at hcc; omega, rfl, rfl⟩)
   | exact zl [some 2] (fun _ => [(4, .o 0 0 (l.length + 1) cc), (5, .c (I 0))]) (fun _ => [.arr 39 10 cc (noRs l ++ [[T x0, I (M + 1), I x2, I x3, T x4, T x5, T x6, I x7, T x8, I x9]])]) (by decide) (ZNL hE) (fun g => .cons rfl (.o rfl (by simp)) (.cons rfl (.c rfl) .nil)) ZCH (fun _ => ⟨cc, by simp at hcc; omega, rfl, rfl⟩))
 rintro F H ⟨c, hc, rfl, rfl⟩
 refine ZZ ?_
 have hr : l ++ [wrX l ⟨x0, x1, x2, x3, x4, x5, x6, x7, x8, x9⟩] = l ++ [⟨x0, M + 1, x2, x3, x4, x5, x6, x7, x8, x9⟩] := by rw [hwx]
 exact zZ (us := [.o 0 0 (l.length + 1) c, .c (I 0)]) [some 0] (fun _ => .t [.o 0 0 (l.length + 1) c, .c (I 0)]) (fun _ => [.arr 39 10 c (noRs l ++ [[T x0, I (M + 1), I x2, I x3, T x4, T x5, T x6, I x7, T x8, I x9]])]) (.tmp rfl (.tmp rfl .nil)) (by decide) (ZNK rfl) (fun _ => .tL (.cons (.o rfl rfl) (.cons (.c rfl) .nil))) ZCH (fun _ => ⟨l ++ [⟨x0, M + 1, x2, x3, x4, x5, x6, x7, x8, x9⟩], c, by rw [ew, if_pos rfl, hwx], by simpa using hc, by rw [ew]; simp, by simp [noR]⟩)
end Go.Proofs.YtlhbfcfjepbhpaaGreatDoor
namespace Go.Proofs.YtlhbfcfjepbhpaaGreatDoor
open Go Go.RowKit Go.Shelf Go.Sort
theorem Stp.grown {w w' : World} (h : Stp w w' (fun _ => False)) : ∃ q os, w' = Sort.grow (w.drewN q) os := by
 refine ⟨w'.drawn - w.drawn, w'.heap.extract w.heap.size w'.heap.size, ?_⟩
 have hh : w.heap ++ w'.heap.extract w.heap.size w'.heap.size = w'.heap := by
  refine Array.ext_getElem? fun k => ?_
  rw [Array.getElem?_append]
  split
  ·rename_i hk; exact (h.block k hk (fun x => x)).symm
  ·rename_i hk
   rw [Array.getElem?_extract]
   have hs := h.size
   by_cases h2 : k < w'.heap.size
   ·rw [if_pos (by omega)]; congr 1; omega
   ·rw [if_neg (by omega), Array.getElem?_eq_none (by omega)]
 have h1 := h.os; have h2 := h.tape; have h3 := h.output; have h4 := h.drawn
 obtain ⟨hp, tp, dr, o, out⟩ := w
 obtain ⟨hp', tp', dr', o', out'⟩ := w'
 simp only at h1 h2 h3 h4 hh ⊢
 subst h1; subst h2; subst h3
 simp only [Sort.grow, World.drewN]
 rw [hh, show dr + (dr' - dr) = dr' by omega]
section
variable {w : World} {S : Nat → Prop} {ρ : List (Option Nat)} {e : TypeId} {k cap B n : Nat} {rows rows' : List (List CV)} {cs : Array Value} {os : Array Obj} {f : Array Value → Array Value}
theorem zU2 {b : Nat} (hb : b < w.heap.size) (hne : b ≠ B) : (Sort.grow (mapBlock (Sort.ahead w n) B f) os).heap[b]? = w.heap[b]? := by
 simp only [Sort.grow, mapBlock, Sort.ahead]
 rw [Array.getElem?_append_left (by simpa using hb), Array.getElem?_modify, if_neg (fun e => hne e.symm)]
theorem sort_heap_at (hh : w.heap[B]? = some (.cells cs e (0, 0))) : (Sort.grow (mapBlock (Sort.ahead w n) B f) os).heap[B]? = some (.cells (f cs) e (0, 0)) := by
 have hb : B < w.heap.size := by
  rcases Nat.lt_or_ge B w.heap.size with h | h
  ·exact h
  ·rw [Array.getElem?_eq_none h] at hh; cases hh
 simp only [Sort.grow, mapBlock, Sort.ahead]
 rw [Array.getElem?_append_left (by simpa using hb), Array.getElem?_modify, if_pos rfl, hh]
 rfl
theorem zD3 : w.heap.size ≤ (Sort.grow (mapBlock (Sort.ahead w n) B f) os).heap.size := by
 simp [Sort.grow, mapBlock, Sort.ahead]
theorem inP_arr1 {e : TypeId} {k cap : Nat} {rows : List (List CV)} (i k' B : Nat) : ¬ inP [OB.arr e k cap rows] i k' B := fun ⟨o, h, h2⟩ => by
 rw [List.getElem?_singleton] at h
 split at h
 ·injection h with h; subst h; exact zd4 h2
 ·cases h
theorem sort_back (hR : RH w S ρ [.arr e k cap rows]) (hB : atB ρ 0 = some B) (hh : w.heap[B]? = some (.cells cs e (0, 0))) (hcs : (f cs).size = cap * k) (hmx : cap ≤ maxLen) (hl : rows'.length ≤ cap)
    (hrow : ∀ row ∈ rows', row.length = k ∧ ∀ u ∈ row, Good w S u ∧ u.den.oneCell' = true) (hcell : ∀ (i j : Nat) (row : List CV) (u : CV), rows'[i]? = some row → row[j]? = some u → (f cs)[i * k + j]? = some u.den) :
    RH (Sort.grow (mapBlock (Sort.ahead w n) B f) os) S ρ [.arr e k cap rows'] ∧ Stp w (Sort.grow (mapBlock (Sort.ahead w n) B f) os) (fun b => (∃ i, atB ρ i = some b) ∨ ∃ i k', inP [OB.arr e k cap rows] i k' b) := by
 have hS : ∀ b, S b → S b ∧ (Sort.grow (mapBlock (Sort.ahead w n) B f) os).heap[b]? = w.heap[b]? := fun b hb => ⟨hb, zU2 (hR.sS b hb) (fun e => hR.ap 0 B hB (e ▸ hb))⟩
 refine ⟨⟨hR.len, hR.nd, hR.ap, fun i b hi => Nat.lt_of_lt_of_le (hR.lt i b hi) zD3, fun b hb => Nat.lt_of_lt_of_le (hR.sS b hb) zD3, fun i o hi => ?_, PL.none inP_arr1⟩, ⟨rfl, rfl, rfl, zD3, fun b hb hn => zU2 hb (fun e => hn (.inl ⟨0, e ▸ hB⟩)), ?_⟩⟩
 ·cases i with
  | succ i => simp at hi
  | zero =>
   simp only [List.getElem?_cons_zero, Option.some.injEq] at hi
   subst hi
   exact .inr ⟨B, f cs, hB, sort_heap_at hh, hcs, hmx, hl, fun row hr => ⟨(hrow row hr).1, fun u hu => ⟨((hrow row hr).2 u hu).1.mono hS, ((hrow row hr).2 u hu).2⟩⟩, hcell⟩
 ·show w.drawn ≤ w.drawn + n
  exact Nat.le_add_right _ _
end
abbrev SEl (w : World) (S : Nat → Prop) (k : Nat) (p : List CV → Prop) := { x : List CV // x.length = k ∧ p x ∧ ∀ u ∈ x, Good w S u ∧ u.den.oneCell' = true }
def SEl.enc {w : World} {S : Nat → Prop} {k : Nat} {p : List CV → Prop} (x : SEl w S k p) : List Value := x.1.map CV.den
theorem sort_fin {S : Nat → Prop} {ρ : List (Option Nat)} {w u : World} {e : TypeId} {k cap : Nat} {rows rows' : List (List CV)} {pn : Bool} {Q : AV → List OB → Prop} (hR : RH w S ρ [.arr e k cap rows]) (h1 : RH u S ρ [.arr e k cap rows']) (h2 : Stp w u (fun b => (∃ i, atB ρ i = some b) ∨ ∃ i k', inP [OB.arr e k cap rows] i k' b)) (hq : Q (.t []) [.arr e k cap rows']) :
    ∃ v H' ρ' S', Ending.returned (.tuple #[]) = .returned (AV.den ρ' H' v) ∧ Q v H' ∧ WF u S' ρ' H' v ∧ RH u S' ρ' H' ∧
        Stp w u (fun B => (∃ i, atB ρ i = some B) ∨ ∃ i k', inP [OB.arr e k cap rows] i k' B) ∧ (∀ b, S' b → S b ∨ (w.heap.size ≤ b ∨ ∃ i k', inP [OB.arr e k cap rows] i k' b)) ∧ (∀ i B, atB ρ' i = some B → (w.heap.size ≤ B ∨ ∃ i k', inP [OB.arr e k cap rows] i k' B) ∨ (i < [OB.arr e k cap rows].length ∧ atB ρ i = some B)) ∧
        (∀ i k' B, inP H' i k' B → w.heap.size ≤ B ∨ ∃ i k', inP [OB.arr e k cap rows] i k' B) ∧
        (∀ i, i < [OB.arr e k cap rows].length → i < H'.length ∧ ∀ o, [OB.arr e k cap rows][i]? = some o → o.shp ≠ 0 → atB ρ' i = atB ρ i ∧ ∃ o', H'[i]? = some o' ∧ o'.shp = o.shp) ∧
        (pn = true → ∀ i, i < [OB.arr e k cap rows].length → atB ρ' i = atB ρ i ∧ szAt H' i = szAt [OB.arr e k cap rows] i ∧ capAt H' i = capAt [OB.arr e k cap rows] i) := by
 refine ⟨.t [], [.arr e k cap rows'], ρ, S, rfl, hq, .t (by simp), h1, h2, fun b hb => .inl hb, fun i B hi => .inr ⟨by have := zl4 hi; rw [hR.len] at this; exact this, hi⟩, fun i k' B hi => absurd hi (inP_arr1 i k' B), fun i hi => ⟨by simpa using hi, fun o ho hs => ?_⟩, fun _ i hi => ?_⟩
 ·cases i with
  | succ i => simp at hi
  | zero => simp only [List.getElem?_cons_zero, Option.some.injEq] at ho; subst ho; exact absurd rfl hs
 ·cases i with
  | succ i => simp at hi
  | zero => exact ⟨rfl, rfl, rfl⟩
theorem acalls_sort {P : Program} {τ : Ren} (L : SlLaysF0.n6 P τ) {k : Nat} (aE : ∀ w, (isAgg (τ.t 24)).run P w = .ok true w) (zE : ∀ w, (Go.sizeOf (τ.t 24)).run P w = .ok k w) (p : List CV → Prop) (cf : List CV → List CV → Int) {g : FuncId} (hg : okFn P g = true)
    (hirr : ∀ x, p x → ¬ cf x x < 0) (htr : ∀ x y z, p x → p y → p z → cf x y < 0 → cf y z < 0 → cf x z < 0) (hnt : ∀ x y z, p x → p y → p z → ¬ cf x y < 0 → ¬ cf y z < 0 → ¬ cf x z < 0)
    (hc : ∀ x y, p x → p y → ACalls P g [.a (x.map .c), .a (y.map .c)] [] fun u H => u = .c (.s (.int .i64 (cf x y))) ∧ H = [])
    (rows : List (List CV)) (hp : ∀ r ∈ rows, p r) (hle : rows.length ≤ 1000000000) {e : TypeId} {cap n c : Nat} {pn : Bool} (hn : n = rows.length) :
    ACallsX pn P (τ.f 6) [.o 0 0 n c, .f (.func g) []] [.arr e k cap rows] fun u H => ∃ rows', u = .t [] ∧ H = [.arr e k cap rows'] ∧ rows'.Perm rows ∧ rows'.Pairwise (fun x y => ¬ cf y x < 0) := fun S ρ w hR hW => by
 have hwf : WF w S ρ [.arr e k cap rows] (.o 0 0 n c) := hW _ (by simp)
 have hargs : ([AV.o 0 0 n c, AV.f (.func g) []].map (AV.den ρ [.arr e k cap rows])).toArray = #[.slice ((atB ρ 0).map fun B => ⟨B, 0, none⟩) n c, .func (.func g) #[] #[]] := by
  simp [AV.den, AV.denL]; rfl
 rw [hargs]
 by_cases hr0 : rows = []
 ·subst hr0
  simp only [List.length_nil] at hn
  subst hn
  refine (AnyF.slices_SortFunc_none L _ c _ w).mono ?_
  rintro e' w' ⟨rfl, rfl⟩
  exact sort_fin hR hR (Stp.refl _ _) ⟨[], rfl, rfl, List.Perm.refl _, List.Pairwise.nil⟩
 ·rcases hR.blk 0 _ rfl with ⟨_, _, h⟩ | ⟨B, cs, hB, hh, hcs, hmx, hl, hrow, hcell⟩
  ·exact absurd h hr0
  ·rw [hB]
   have hall : ∀ r ∈ rows, r.length = k ∧ p r ∧ ∀ u ∈ r, Good w S u ∧ u.den.oneCell' = true := fun r hr => ⟨(hrow r hr).1, hp r hr, (hrow r hr).2⟩
   letI : Inhabited (SEl w S k p) := ⟨⟨rows.head hr0, hall _ (List.head_mem hr0)⟩⟩
   let d : Array (SEl w S k p) := (rows.attachWith _ hall).toArray
   have hds : d.size = n := by simp [d, hn]
   have hdg : ∀ i (hi : i < rows.length), (d[i]!).1 = rows[i] := fun i hi => by
    rw [getElem!_pos d i (by rw [hds, hn]; exact hi)]
    simp [d]
   have hblt : B < w.heap.size := hR.lt 0 B hB
   have hS : ∀ (m : Nat) (os : Array Obj) (dk : Array (SEl w S k p)) (b : Nat), S b → S b ∧ (sortWorldK (α := SEl w S k p) SEl.enc k w B 0 m dk os).heap[b]? = w.heap[b]? := fun m os dk b hb => ⟨hb, zU2 (hR.sS b hb) (fun e => hR.ap 0 B hB (e ▸ hb))⟩
   have hlen : ∀ x : SEl w S k p, x.enc.length = k := fun x => by rw [SEl.enc, List.length_map]; exact x.2.1
   have hH : HoldsK SEl.enc k w B 0 d := fun j hj => by
    rw [size_flatK] at hj
    rw [get_flatK _ _ _ _ hj]
    have hk0 : 0 < k := by rcases Nat.eq_zero_or_pos k with h | h; · subst h; simp at hj
                           ·exact h
    have hq : j / k < rows.length := by rw [← hn, ← hds]; exact Nat.div_lt_of_lt_mul (by rw [Nat.mul_comm]; exact hj)
    have hm : j % k < k := Nat.mod_lt _ hk0
    have hrl := (hrow _ (List.getElem_mem hq)).1
    have h1 := hcell (j / k) (j % k) _ _ (List.getElem?_eq_getElem hq) (List.getElem?_eq_getElem (by rw [hrl]; exact hm))
    rw [show j / k * k + j % k = j by rw [Nat.mul_comm]; exact Nat.div_add_mod j k] at h1
    refine ⟨?_, ?_⟩
    ·show w.cell? ⟨B, 0 + j, none⟩ = some ((SEl.enc d[j / k]!)[j % k]!)
     rw [Nat.zero_add]
     simp only [World.cell?, hh, h1, Option.isSome_none, Bool.false_eq_true, if_false]
     rw [getElem!_pos _ _ (by rw [hlen]; exact hm)]
     simp [SEl.enc, hdg _ hq]
    ·simp [World.frozen?, hh]
   have hcmp : CmpLays P g #[] SEl.enc k (fun x y => cf x.1 y.1) B 0 d.size w := fun m os dk _ x y => by
    have hRW : RH (sortWorldK (α := SEl w S k p) SEl.enc k w B 0 m dk os) S [] [] := ⟨rfl, fun i i' B h => (by cases h), fun i B h => (by cases h), fun i B h => (by cases h), fun b hb => Nat.lt_of_lt_of_le (hR.sS b hb) zD3, fun i o h => (by simp at h), PL.none fun _ _ _ => zT3⟩
    have hax : (List.map (AV.den [] []) [AV.a (x.1.map .c), AV.a (y.1.map .c)]).toArray = #[.agg (SEl.enc x).toArray, .agg (SEl.enc y).toArray] ++ #[] := by
     simp [AV.den, AV.denL_eq, SEl.enc, Function.comp_def]
    rw [← hax]
    refine (hc x.1 y.1 x.2.2.1 y.2.2.1 S [] _ hRW ?_).mono ?_
    ·intro v hv
     have key : ∀ z : SEl w S k p, WF (sortWorldK (α := SEl w S k p) SEl.enc k w B 0 m dk os) S [] [] (.a (z.1.map .c)) := fun z => .a fun u hu => by
      obtain ⟨q, hq, rfl⟩ := List.mem_map.1 hu
      exact .c ((z.2.2.2 q hq).1.mono (hS m os dk))
     simp only [List.mem_cons, List.not_mem_nil, or_false] at hv
     rcases hv with rfl | rfl
     ·exact key x
     ·exact key y
    ·rintro e' w' ⟨u, H', ρ', S', rfl, ⟨rfl, rfl⟩, _, _, hst, _⟩
     exact ⟨rfl, Stp.grown ⟨hst.os, hst.tape, hst.output, hst.size, fun b hb _ => hst.block b hb (fun h => h.elim (fun ⟨i, h⟩ => by cases h) (fun ⟨_, _, h⟩ => zT3 h)), hst.drawn⟩⟩
   have hO : SWO (ltOf fun x y : SEl w S k p => cf x.1 y.1) :=
    ⟨fun x => by simpa [ltOf] using hirr x.1 x.2.2.1, fun x y z h1 h2 => by
        simp only [ltOf, decide_eq_true_eq] at h1 h2 ⊢
        exact htr _ _ _ x.2.2.1 y.2.2.1 z.2.2.1 h1 h2, fun x y z h1 h2 => by
        simp only [ltOf, decide_eq_false_iff_not] at h1 h2 ⊢
        exact hnt _ _ _ x.2.2.1 y.2.2.1 z.2.2.1 h1 h2⟩
   have hcap : n ≤ cap := by rw [hn]; exact hl
   have hcon := AnyQ.slices_SortFunc L k aE zE SEl.enc hlen (fun x v hv => by
    obtain ⟨u, hu, rfl⟩ := List.mem_map.1 hv
    exact (x.2.2.2 u hu).2) (fun x y => cf x.1 y.1) hO g #[] B 0 c d w (fun args w => zT1 hg) hcmp hH hblt (by
     rw [hds]; omega)
   rw [hds] at hcon
   refine hcon.mono ?_
   rintro e' w' ⟨rfl, d', q, os, ⟨hps, _, hpp⟩, hsrt, rfl⟩
   have hd' : d'.size = n := by rw [hps, hds]
   have hl' : (d'.toList.map (fun x : SEl w S k p => x.1)).length = rows.length := by simp [hd', hn]
   have hfs : ∀ F : Array Value, ((putCells id 0 F) cs).size = cs.size := fun F => by simp [putCells]
   obtain ⟨h1, h2⟩ := sort_back (n := q) (os := os) (f := putCells id 0 (flatK SEl.enc k d')) (rows' := d'.toList.map (fun x : SEl w S k p => x.1)) hR hB hh (by rw [hfs, hcs]) hmx (by rw [hl']; exact hl) (fun row hr => by
       obtain ⟨x, _, rfl⟩ := List.mem_map.1 hr
       exact ⟨x.2.1, x.2.2.2⟩) (fun i j row u hi hj => by
       rw [List.getElem?_map] at hi
       cases hx : d'.toList[i]? with
       | none => rw [hx] at hi; cases hi
       | some x =>
        rw [hx] at hi
        simp only [Option.map_some, Option.some.injEq] at hi
        subst hi
        have hi2 : i < d'.size := by
         rw [Array.getElem?_toList] at hx
         rcases Nat.lt_or_ge i d'.size with h | h
         ·exact h
         ·rw [Array.getElem?_eq_none h] at hx; cases hx
        have hj2 : j < k := by
         rcases Nat.lt_or_ge j x.1.length with h | h
         ·rw [← x.2.1]; exact h
         ·rw [List.getElem?_eq_none h] at hj; cases hj
        have hlt : i * k + j < d'.size * k := by
         have := Nat.mul_le_mul_right k (show i + 1 ≤ d'.size from hi2); rw [Nat.add_mul, Nat.one_mul] at this; omega
        have hlt2 : i * k + j < cs.size := by
         rw [hcs]; exact Nat.lt_of_lt_of_le hlt (Nat.mul_le_mul_right k (by rw [hd']; exact hcap))
        have e1 : (i * k + j) / k = i := (blk_iff k i _ (by omega)).1 ⟨by omega, by omega⟩
        have e2 : (i * k + j) % k = j := by rw [Nat.mod_eq_sub_div_mul, e1]; omega
        simp only [putCells, Array.getElem?_mapIdx, Array.getElem?_eq_getElem hlt2, Option.map_some]
        rw [if_pos ⟨Nat.zero_le _, by rw [size_flatK]; omega⟩, Nat.sub_zero, get_flatK _ _ _ _ hlt, e1, e2]
        have hxe : d'[i]! = x := by
         rw [getElem!_pos d' i hi2]
         rw [Array.getElem?_toList, Array.getElem?_eq_getElem hi2] at hx
         injection hx
        rw [hxe]
        have : x.enc[j]? = some u.den := by rw [SEl.enc, List.getElem?_map, hj]; rfl
        rw [getElem!_pos _ _ (by rw [hlen]; exact hj2)]
        rw [List.getElem?_eq_getElem (by rw [hlen]; exact hj2)] at this
        injection this with this
        simp [this])
   refine sort_fin hR h1 h2 ⟨_, rfl, rfl, ?_, ?_⟩
   ·have h3 : d'.toList.Perm d.toList := by
     have a1 : d'.extract 0 n = d' := by rw [← hd']; simp
     have a2 : d.extract 0 n = d := by rw [← hds]; simp
     rw [a1, a2] at hpp; exact hpp
    have h4 := h3.map (fun x : SEl w S k p => x.1)
    have h5 : d.toList.map (fun x : SEl w S k p => x.1) = rows := by
     refine List.ext_getElem (by simp [d]) fun i h1 h2 => ?_
     simp [d]
    rwa [h5] at h4
   ·rw [List.pairwise_map, List.pairwise_iff_getElem]
    intro i j hi hj hij
    have hi' : i < d'.size := by simpa using hi
    have hj' : j < d'.size := by simpa using hj
    have := hsrt i j (Nat.zero_le _) hij (by rw [← hd']; exact hj')
    rw [getElem!_pos d' i hi', getElem!_pos d' j hj'] at this
    simpa [ltOf] using this
end Go.Proofs.YtlhbfcfjepbhpaaGreatDoor
namespace Go.Proofs.YtlhbfcfjepbhpaaGreatDoor
open Go Go.Shelf
set_option maxRecDepth 100000
end Go.Proofs.YtlhbfcfjepbhpaaGreatDoor
