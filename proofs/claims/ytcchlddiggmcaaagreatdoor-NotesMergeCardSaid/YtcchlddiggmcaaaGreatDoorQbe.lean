/- Write and WrittenNotes, by value. -/
import Derived.Test.YtcchlddiggmcaaaGreatDoorQbd
set_option linter.unusedSimpArgs false
set_option linter.unusedVariables false
-- NEWM
namespace Go.Proofs.YtcchlddiggmcaaaGreatDoor
open Go Go.RowKit
set_option maxRecDepth 100000
set_option maxHeartbeats 2000000 in
theorem written_v (v : Value) (l : List Nt) (x : Nt) (hl : l.length ≤ 1000000) (hs : ∀ y ∈ l, NtS y) (hxs : NtS x) (hn : ∀ y ∈ l, y.no ≤ 4000000000000) (hxn : x.no ≤ 4000000000000) : ACalls Tryz.prog 20 [.c (.r v (noRs l)), noA x] [] fun u H => ∃ (r : List Nt) (c : Nat), r = (if (wrE l x) = 0 then l ++ [wrX l x] else []) ∧ r.length ≤ c ∧ u = .t [.o 0 0 r.length c, .c (I (wrE l x))] ∧ H = [.arr 33 10 c (noRs r)] := by
 obtain ⟨x0, x1, x2, x3, x4, x5, x6, x7, x8, x9⟩ := x
 obtain ⟨s1, s2, s3, s4, s5⟩ := hxs
 simp only at s1 s2 s3 s4 s5
 show ACalls _ _ [.c (.r v (noRs l)), .a [.c (T x0), .c (I x1), .c (I x2), .c (I x3), .c (T x4), .c (T x5), .c (T x6), .c (I x7), .c (T x8), .c (I x9)]] [] _
 have e1 : (noRs l).length = l.length := by simp
 have hnil : ∀ e : Int, (wrE l ⟨x0, x1, x2, x3, x4, x5, x6, x7, x8, x9⟩) = e → e ≠ 0 → ∃ (r : List Nt) (c : Nat), r = (if (wrE l ⟨x0, x1, x2, x3, x4, x5, x6, x7, x8, x9⟩) = 0 then l ++ [wrX l ⟨x0, x1, x2, x3, x4, x5, x6, x7, x8, x9⟩] else []) ∧ r.length ≤ c ∧ (AV.t [.o 0 0 0 0, .c (I e)]) = .t [.o 0 0 r.length c, .c (I (wrE l ⟨x0, x1, x2, x3, x4, x5, x6, x7, x8, x9⟩))] ∧ [OB.arr 33 10 0 []] = [.arr 33 10 c (noRs r)] := fun e h1 h2 => ⟨[], 0, by rw [h1, if_neg h2], Nat.le_refl _, by rw [h1]; rfl, rfl⟩
 refine zh (N := 61) Tryz.func20 rfl rfl (by simp) fun E hE => ?_
 refine WA ?_
 refine WA ?_
 refine zr rfl (fun h1 => ?_) (fun h1 => ?_)
 ·refine WA ?_
  exact zW (us := [.c (.r (.slice none 0 0) []), .c (I 3)]) [none] (fun _ => .t [.o 0 0 0 0, .c (I 3)]) (fun _ => [.arr 33 10 0 []]) (.tmp rfl (.tmp rfl .nil)) (by decide) (ZNK rfl) (fun _ => .tL (.cons (.nil rfl) (.cons (.c rfl) .nil))) ZCH (fun _ => hnil _ (by rw [wrE, if_pos h1]) (by decide))
 have ew : wrE l ⟨x0, x1, x2, x3, x4, x5, x6, x7, x8, x9⟩ = if ntF (wrX l ⟨x0, x1, x2, x3, x4, x5, x6, x7, x8, x9⟩) ≠ 0 then ntF (wrX l ⟨x0, x1, x2, x3, x4, x5, x6, x7, x8, x9⟩) else if badO (prv l l.length) (wrX l ⟨x0, x1, x2, x3, x4, x5, x6, x7, x8, x9⟩) = true then 7 else if 2000 ≤ l.length then 2 else 0 := by rw [wrE, if_neg h1]
 refine ZZ ?_
 refine WA ?_
 refine zC (fun m F H => ∃ (k : Nat) (M : Int), m + k = l.length ∧ M = mxN x0 (l.take k) x1 ∧ F = [(0, .c (.r v (noRs l))), (3, .p 0 0 0), (4, .c (.r (.slice none 0 0) [])), (5, .c (I 0)), (12, .c (.r v (noRs l))), (13, .c (I (noRs l).length)), (14, .c (I k))] ∧ H = [.box [.c (T x0), .c (I M), .c (I x2), .c (I x3), .c (T x4), .c (T x5), .c (T x6), .c (I x7), .c (T x8), .c (I x9)]]) ?_ ?_
 ·refine zm [some 0] (fun _ => [(0, .c (.r v (noRs l))), (3, .p 0 0 0), (4, .c (.r (.slice none 0 0) [])), (5, .c (I 0)), (12, .c (.r v (noRs l))), (13, .c (I (noRs l).length)), (14, .c (I (0 : Nat)))]) (fun _ => [.box [.c (T x0), .c (I x1), .c (I x2), .c (I x3), .c (T x4), .c (T x5), .c (T x6), .c (I x7), .c (T x8), .c (I x9)]]) (by decide) (ZNL hE) ZCF ZCH (fun _ => ?_)
  exact ⟨l.length, 0, x1, by omega, rfl, rfl, rfl⟩
 rintro m F H ⟨k, M, hk, hM, rfl, rfl⟩
 refine WA ?_
 refine zr rfl (fun hlt => ?_) (fun hge => ?_)
 ·obtain ⟨y, hy⟩ : ∃ n, l[k]? = some n := ⟨_, List.getElem?_eq_getElem (by omega)⟩
  have hrow0 := zm1 hy
  have hsn : mxN x0 (l.take (k + 1)) x1 = if y.st = x0 then max M y.no else M := by rw [List.take_add_one, hy, Option.toList_some, mxN_snoc, hM]
  obtain ⟨y0, y1, y2, y3, y4, y5, y6, y7, y8, y9⟩ := y
  have hrow : (noRs l)[k]? = some [T y0, I y1, I y2, I y3, T y4, T y5, T y6, I y7, T y8, I y9] := hrow0
  obtain ⟨q, hq⟩ : ∃ q, decide (y0 = x0) = q := ⟨_, rfl⟩
  refine WA ?_
  refine ZR ?_
  iterate 4 refine WX1 ?_
  refine ZA (zZ (a := y0) (b := x0) hq rfl Tryz.underlying9 rfl rfl) ?_
  refine WE ?_
  cases q with
  | true =>
   refine zb rfl ?_
   refine ZZ ?_
   refine WA ?_
   refine WA ?_
   refine zm [some 0] (fun _ => [(0, .c (.r v (noRs l))), (3, .p 0 0 0), (4, .c (.r (.slice none 0 0) [])), (5, .c (I 0)), (12, .c (.r v (noRs l))), (13, .c (I (noRs l).length)), (14, .c (I (k + 1 : Nat)))]) (fun _ => [.box [.c (T x0), .c (I (max M y1)), .c (I x2), .c (I x3), .c (T x4), .c (T x5), .c (T x6), .c (I x7), .c (T x8), .c (I x9)]]) (by decide) (ZNL hE) ZCF ZCH (fun _ => ?_)
   exact ⟨m - 1, by omega, k + 1, max M y1, by omega, by rw [hsn, if_pos (of_decide_eq_true hq)], rfl, rfl⟩
  | false =>
   refine zc rfl ?_
   refine ZZ ?_
   refine WA ?_
   refine zm [some 0] (fun _ => [(0, .c (.r v (noRs l))), (3, .p 0 0 0), (4, .c (.r (.slice none 0 0) [])), (5, .c (I 0)), (12, .c (.r v (noRs l))), (13, .c (I (noRs l).length)), (14, .c (I (k + 1 : Nat)))]) (fun _ => [.box [.c (T x0), .c (I M), .c (I x2), .c (I x3), .c (T x4), .c (T x5), .c (T x6), .c (I x7), .c (T x8), .c (I x9)]]) (by decide) (ZNL hE) ZCF ZCH (fun _ => ?_)
   exact ⟨m - 1, by omega, k + 1, M, by omega, by rw [hsn, if_neg (of_decide_eq_false hq)], rfl, rfl⟩
 rw [List.take_of_length_le (by omega)] at hM
 have hMb := mxN_le x0 4000000000000 l x1 hxn hn
 rw [← hM] at hMb
 have hx0 : x1 = 0 := by omega
 have hwx : wrX l ⟨x0, x1, x2, x3, x4, x5, x6, x7, x8, x9⟩ = ⟨x0, M + 1, x2, x3, x4, x5, x6, x7, x8, x9⟩ := by unfold wrX; rw [hM]
 rw [hwx] at ew
 have hws : NtS ⟨x0, M + 1, x2, x3, x4, x5, x6, x7, x8, x9⟩ := ⟨s1, s2, s3, s4, s5⟩
 refine ZZ ?_
 refine WA ?_
 refine WR ?_
 refine ze rfl (za false (fun _ => rnf_v ⟨x0, M + 1, x2, x3, x4, x5, x6, x7, x8, x9⟩ hws) rfl .fn rfl (by decide) (by kernel_rfl) rfl (fun _ => .cons (.aL (C0 rfl)) .nil) (by simp)) ?_
 rintro _ _ ⟨_, _, _, ⟨rfl, rfl⟩, hF, hH⟩
 (refine NST hF hH ?_; clear hF hH; rintro rfl rfl)
 refine WE ?_
 generalize hfe : ntF ⟨x0, M + 1, x2, x3, x4, x5, x6, x7, x8, x9⟩ = fe at ew ⊢
 refine WA ?_
 refine zr rfl (fun h2 => ?_) (fun h2 => ?_)
 ·rw [if_pos h2] at ew
  refine WA ?_
  exact zW (us := [.c (.r (.slice none 0 0) []), .c (I fe)]) [none] (fun _ => .t [.o 0 0 0 0, .c (I fe)]) (fun _ => [.arr 33 10 0 []]) (.tmp rfl (.tmp rfl .nil)) (by decide) (ZNK rfl) (fun _ => .tL (.cons (.nil rfl) (.cons (.c rfl) .nil))) ZCH (fun _ => hnil _ (ew) (h2))
 rw [if_neg h2] at ew
 refine ZZ ?_
 obtain ⟨q, hq⟩ : ∃ q, badO (prv l l.length) ⟨x0, M + 1, x2, x3, x4, x5, x6, x7, x8, x9⟩ = q := ⟨_, rfl⟩
 rw [hq] at ew
 refine zU1 (fun F H => F = [(0, .c (.r v (noRs l))), (3, .p 0 0 0), (4, .c (.r (.slice none 0 0) [])), (5, .c (I 0)), (52, .c (B q))] ∧ H = [.box [.c (T x0), .c (I (M + 1)), .c (I x2), .c (I x3), .c (T x4), .c (T x5), .c (T x6), .c (I x7), .c (T x8), .c (I x9)]]) ?_ ?_ wk_aw
 ·by_cases hk0 : l.length = 0
  ·have hq2 : q = false := by rw [← hq, hk0]; rfl
   subst hq2
   have hk0' : ¬ (0 : Int) < ((noRs l).length : Int) := by omega
   refine ZZ ?_
   refine zo [(0, none), (1, none), (2, none), (3, none), (4, none), (5, none), (6, none), (7, none), (8, none), (9, none), (10, none), (11, some []), (12, none), (13, none)] zR (by kernel_rfl) ?_
   refine WP ?_
   first | refine zB1 rfl rfl rfl (by decide) ⟨zn, ?_⟩ | (refine zC1 rfl (za false (fun _ => norder_v ⟨x0, M + 1, x2, x3, x4, x5, x6, x7, x8, x9⟩ ⟨x0, M + 1, x2, x3, x4, x5, x6, x7, x8, x9⟩) rfl .fn rfl (by decide) (by kernel_rfl) rfl (fun _ => .cons (.aL (C0 rfl)) (.cons (.aL (C0 rfl)) .nil)) (by simp)) ?_; rintro _ _ ⟨_, _, _, ⟨rfl, rfl⟩, hF, hH⟩; (refine NST hF hH ?_; clear hF hH; rintro rfl rfl); refine ⟨zn, ?_⟩)
   refine WQ ?_
   all_goals refine zm [some 0] (fun _ => [(0, .c (.r v (noRs l))), (3, .p 0 0 0), (4, .c (.r (.slice none 0 0) [])), (5, .c (I 0)), (52, .c (B false))]) (fun _ => [.box [.c (T x0), .c (I (M + 1)), .c (I x2), .c (I x3), .c (T x4), .c (T x5), .c (T x6), .c (I x7), .c (T x8), .c (I x9)]]) (by decide) (ZNL hE) ZCF ZCH (fun _ => ?_)
   all_goals exact ⟨rfl, rfl⟩
  ·obtain ⟨y, hy⟩ : ∃ n, l[l.length - 1]? = some n := ⟨_, List.getElem?_eq_getElem (by omega)⟩
   have hkp : (0 : Int) < ((noRs l).length : Int) := by omega
   have hpy : prv l l.length = some y := by unfold prv; rw [if_neg hk0]; exact hy
   rw [hpy] at hq
   have hq' : decide (0 ≤ cmpNt y ⟨x0, M + 1, x2, x3, x4, x5, x6, x7, x8, x9⟩) = q := hq
   have hrowy0 := zm1 hy
   obtain ⟨y0, y1, y2, y3, y4, y5, y6, y7, y8, y9⟩ := y
   have hrowy : (noRs l)[l.length - 1]? = some [T y0, I y1, I y2, I y3, T y4, T y5, T y6, I y7, T y8, I y9] := hrowy0
   refine ZZ ?_
   refine zo [(0, none), (1, none), (2, none), (3, none), (4, none), (5, none), (6, none), (7, none), (8, none), (9, none), (10, none), (11, some []), (12, none), (13, none)] zR (by kernel_rfl) ?_
   refine WP ?_
   first | refine zB1 rfl rfl rfl (by decide) ⟨zn, ?_⟩ | (refine zC1 rfl (za false (fun _ => norder_v ⟨y0, y1, y2, y3, y4, y5, y6, y7, y8, y9⟩ ⟨x0, M + 1, x2, x3, x4, x5, x6, x7, x8, x9⟩) rfl .fn rfl (by decide) (by kernel_rfl) rfl (fun _ => .cons (.aL (C0 rfl)) (.cons (.aL (C0 rfl)) .nil)) (by simp)) ?_; rintro _ _ ⟨_, _, _, ⟨rfl, rfl⟩, hF, hH⟩; (refine NST hF hH ?_; clear hF hH; rintro rfl rfl); refine ⟨zn, ?_⟩)
   refine WQ ?_
   all_goals refine zm [some 0] (fun _ => [(0, .c (.r v (noRs l))), (3, .p 0 0 0), (4, .c (.r (.slice none 0 0) [])), (5, .c (I 0)), (52, .c (B q))]) (fun _ => [.box [.c (T x0), .c (I (M + 1)), .c (I x2), .c (I x3), .c (T x4), .c (T x5), .c (T x6), .c (I x7), .c (T x8), .c (I x9)]]) (by decide) (ZNL hE) ZCF ZCH (fun _ => ?_)
   all_goals exact ⟨rfl, rfl⟩
 rintro F H ⟨rfl, rfl⟩
 cases q with
 | true =>
  refine zb rfl ?_
  refine ZZ ?_
  refine WA ?_
  exact zW (us := [.c (.r (.slice none 0 0) []), .c (I 7)]) [none] (fun _ => .t [.o 0 0 0 0, .c (I 7)]) (fun _ => [.arr 33 10 0 []]) (.tmp rfl (.tmp rfl .nil)) (by decide) (ZNK rfl) (fun _ => .tL (.cons (.nil rfl) (.cons (.c rfl) .nil))) ZCH (fun _ => hnil _ (ew) (by decide))
 | false =>
 rw [if_neg (by simp)] at ew
 refine zc rfl ?_
 refine ZZ ?_
 refine WA ?_
 refine zr rfl (fun h3 => ?_) (fun h3 => ?_)
 ·rw [if_pos (by omega)] at ew
  refine WA ?_
  exact zW (us := [.c (.r (.slice none 0 0) []), .c (I 2)]) [none] (fun _ => .t [.o 0 0 0 0, .c (I 2)]) (fun _ => [.arr 33 10 0 []]) (.tmp rfl (.tmp rfl .nil)) (by decide) (ZNK rfl) (fun _ => .tL (.cons (.nil rfl) (.cons (.c rfl) .nil))) ZCH (fun _ => hnil _ (ew) (by decide))
 rw [if_neg (by omega)] at ew
 refine ZZ ?_
 refine zU1 (fun F H => ∃ c, l.length + 1 ≤ c ∧ F = [(4, .o 0 0 (l.length + 1) c), (5, .c (I 0))] ∧ H = [.arr 33 10 c (noRs l ++ [[T x0, I (M + 1), I x2, I x3, T x4, T x5, T x6, I x7, T x8, I x9]])]) ?_ ?_ wk_aw
 ·refine ZZ ?_
  refine aw_regionM [[(0, none), (2, none), (1, some [2]), (3, some [0]), (4, some []), (5, none), (6, none)], [(0, none), (2, none), (3, some [0]), (1, some [2]), (4, some []), (5, none), (6, none)]] zR (by kernel_rfl) ?_
  focus
   refine WM ?_
   refine am_two (by rfl) (by rfl) (by rfl) ?_ ?_
   rotate_left
   refine WM ?_
   refine zi1 (i := 1) (by rfl) (by rfl) rfl rfl (za false (fun _ => cloneN_a (noRs l) v (okNo l) (by omega)) rfl .fn rfl (by decide) (by kernel_rfl) rfl (fun _ => C0 rfl) (by simp)) ?_
   rintro _ _ ⟨_, _, _, ⟨c3, hc3, rfl, rfl⟩, hF, hH⟩
   (refine NST hF hH ?_; clear hF hH; rintro rfl rfl)
   refine ⟨AGX, ?_⟩
   refine zi1 (i := 4) (by rfl) (by rfl) rfl rfl (Zapp (news := [[T x0, I (M + 1), I x2, I x3, T x4, T x5, T x6, I x7, T x8, I x9]]) (j := 1) (hE := KA (t := 26) rfl) (hsrc := .own rfl rfl rfl) (hj := rfl) (hle := by omega)) ?_
   rintro _ _ ⟨_, cc, hcc, rfl, rfl⟩
   refine ⟨AGX, ?_⟩
   refine WN ?_
   rotate_right
   refine zi1 (i := 1) (by rfl) (by rfl) rfl rfl (za false (fun _ => cloneN_a (noRs l) v (okNo l) (by omega)) rfl .fn rfl (by decide) (by kernel_rfl) rfl (fun _ => C0 rfl) (by simp)) ?_
   rintro _ _ ⟨_, _, _, ⟨c3, hc3, rfl, rfl⟩, hF, hH⟩
   (refine NST hF hH ?_; clear hF hH; rintro rfl rfl)
   refine ⟨AGX, ?_⟩
   refine WM ?_
   refine zi1 (i := 4) (by rfl) (by rfl) rfl rfl (Zapp (news := [[T x0, I (M + 1), I x2, I x3, T x4, T x5, T x6, I x7, T x8, I x9]]) (j := 1) (hE := KA (t := 26) rfl) (hsrc := .own rfl rfl rfl) (hj := rfl) (hle := by omega)) ?_
   rintro _ _ ⟨_, cc, hcc, rfl, rfl⟩
   refine ⟨AGX, ?_⟩
   refine WN ?_
  all_goals (first
   | exact zm [some 1] (fun _ => [(4, .o 0 0 (l.length + 1) cc), (5, .c (I 0))]) (fun _ => [.arr 33 10 cc (noRs l ++ [[T x0, I (M + 1), I x2, I x3, T x4, T x5, T x6, I x7, T x8, I x9]])]) (by decide) (ZNL hE) (fun g => .cons rfl (.o rfl (by simp)) (.cons rfl (.c rfl) .nil)) ZCH (fun _ => ⟨cc, by simp at hcc; omega, rfl, rfl⟩)
   | exact zm [some 2] (fun _ => [(4, .o 0 0 (l.length + 1) cc), (5, .c (I 0))]) (fun _ => [.arr 33 10 cc (noRs l ++ [[T x0, I (M + 1), I x2, I x3, T x4, T x5, T x6, I x7, T x8, I x9]])]) (by decide) (ZNL hE) (fun g => .cons rfl (.o rfl (by simp)) (.cons rfl (.c rfl) .nil)) ZCH (fun _ => ⟨cc, by simp at hcc; omega, rfl, rfl⟩))
 rintro F H ⟨c, hc, rfl, rfl⟩
 refine ZZ ?_
 have hr : l ++ [wrX l ⟨x0, x1, x2, x3, x4, x5, x6, x7, x8, x9⟩] = l ++ [⟨x0, M + 1, x2, x3, x4, x5, x6, x7, x8, x9⟩] := by rw [hwx]
 exact zW (us := [.o 0 0 (l.length + 1) c, .c (I 0)]) [some 0] (fun _ => .t [.o 0 0 (l.length + 1) c, .c (I 0)]) (fun _ => [.arr 33 10 c (noRs l ++ [[T x0, I (M + 1), I x2, I x3, T x4, T x5, T x6, I x7, T x8, I x9]])]) (.tmp rfl (.tmp rfl .nil)) (by decide) (ZNK rfl) (fun _ => .tL (.cons (.o rfl rfl) (.cons (.c rfl) .nil))) ZCH (fun _ => ⟨l ++ [⟨x0, M + 1, x2, x3, x4, x5, x6, x7, x8, x9⟩], c, by rw [ew, if_pos rfl, hwx], by simpa using hc, by rw [ew]; simp, by simp [noR]⟩)
set_option maxHeartbeats 2000000 in
theorem write_v (v : Value) (l : List Nt) (x : Nt) (hl : l.length ≤ 1000000) (hs : ∀ y ∈ l, NtS y) (hxs : NtS x) (hn : ∀ y ∈ l, y.no ≤ 4000000000000) (hxn : x.no ≤ 4000000000000) : ACalls Tryz.prog 14 [.c (.r v (noRs l)), noA x] [] fun u H => ∃ (r : List Nt) (c : Nat), r = (if (if chkN l ≠ 0 then chkN l else wrE l x) = 0 then l ++ [wrX l x] else []) ∧ r.length ≤ c ∧ u = .t [.o 0 0 r.length c, .c (I (if chkN l ≠ 0 then chkN l else wrE l x))] ∧ H = [.arr 33 10 c (noRs r)] := by
 obtain ⟨x0, x1, x2, x3, x4, x5, x6, x7, x8, x9⟩ := x
 obtain ⟨s1, s2, s3, s4, s5⟩ := hxs
 simp only at s1 s2 s3 s4 s5
 show ACalls _ _ [.c (.r v (noRs l)), .a [.c (T x0), .c (I x1), .c (I x2), .c (I x3), .c (T x4), .c (T x5), .c (T x6), .c (I x7), .c (T x8), .c (I x9)]] [] _
 have e1 : (noRs l).length = l.length := by simp
 have hnil : ∀ e : Int, (if chkN l ≠ 0 then chkN l else wrE l ⟨x0, x1, x2, x3, x4, x5, x6, x7, x8, x9⟩) = e → e ≠ 0 → ∃ (r : List Nt) (c : Nat), r = (if (if chkN l ≠ 0 then chkN l else wrE l ⟨x0, x1, x2, x3, x4, x5, x6, x7, x8, x9⟩) = 0 then l ++ [wrX l ⟨x0, x1, x2, x3, x4, x5, x6, x7, x8, x9⟩] else []) ∧ r.length ≤ c ∧ (AV.t [.o 0 0 0 0, .c (I e)]) = .t [.o 0 0 r.length c, .c (I (if chkN l ≠ 0 then chkN l else wrE l ⟨x0, x1, x2, x3, x4, x5, x6, x7, x8, x9⟩))] ∧ [OB.arr 33 10 0 []] = [.arr 33 10 c (noRs r)] := fun e h1 h2 => ⟨[], 0, by rw [h1, if_neg h2], Nat.le_refl _, by rw [h1]; rfl, rfl⟩
 refine zh (N := 68) Tryz.func14 rfl rfl (by simp) fun E hE => ?_
 refine WA ?_
 refine WR ?_
 refine ze rfl (za false (fun _ => zR1 v l hl hs) rfl .fn rfl (by decide) (by kernel_rfl) rfl (fun _ => C0 rfl) (by simp)) ?_
 rintro _ _ ⟨_, _, _, ⟨rfl, rfl⟩, hF, hH⟩
 (refine NST hF hH ?_; clear hF hH; rintro rfl rfl)
 refine WE ?_
 generalize hce : chkN l = ce at hnil ⊢
 refine WA ?_
 refine zr rfl (fun h0 => ?_) (fun h0 => ?_)
 ·refine WA ?_
  exact zW (us := [.c (.r (.slice none 0 0) []), .c (I ce)]) [none] (fun _ => .t [.o 0 0 0 0, .c (I ce)]) (fun _ => [.arr 33 10 0 []]) (.tmp rfl (.tmp rfl .nil)) (by decide) (ZNK rfl) (fun _ => .tL (.cons (.nil rfl) (.cons (.c rfl) .nil))) ZCH (fun _ => hnil _ (by rw [if_pos h0]) (h0))
 have hce0 : ce = 0 := by omega
 subst hce0
 simp only [ne_eq, not_true_eq_false, if_false] at hnil ⊢
 refine ZZ ?_
 refine WA ?_
 refine zr rfl (fun h1 => ?_) (fun h1 => ?_)
 ·refine WA ?_
  exact zW (us := [.c (.r (.slice none 0 0) []), .c (I 3)]) [none] (fun _ => .t [.o 0 0 0 0, .c (I 3)]) (fun _ => [.arr 33 10 0 []]) (.tmp rfl (.tmp rfl .nil)) (by decide) (ZNK rfl) (fun _ => .tL (.cons (.nil rfl) (.cons (.c rfl) .nil))) ZCH (fun _ => hnil _ (by rw [wrE, if_pos h1]) (by decide))
 have ew : wrE l ⟨x0, x1, x2, x3, x4, x5, x6, x7, x8, x9⟩ = if ntF (wrX l ⟨x0, x1, x2, x3, x4, x5, x6, x7, x8, x9⟩) ≠ 0 then ntF (wrX l ⟨x0, x1, x2, x3, x4, x5, x6, x7, x8, x9⟩) else if badO (prv l l.length) (wrX l ⟨x0, x1, x2, x3, x4, x5, x6, x7, x8, x9⟩) = true then 7 else if 2000 ≤ l.length then 2 else 0 := by rw [wrE, if_neg h1]
 refine ZZ ?_
 refine WA ?_
 refine zC (fun m F H => ∃ (k : Nat) (M : Int), m + k = l.length ∧ M = mxN x0 (l.take k) x1 ∧ F = [(0, .c (.r v (noRs l))), (3, .p 0 0 0), (4, .c (.r (.slice none 0 0) [])), (5, .c (I 0)), (19, .c (.r v (noRs l))), (20, .c (I (noRs l).length)), (21, .c (I k))] ∧ H = [.box [.c (T x0), .c (I M), .c (I x2), .c (I x3), .c (T x4), .c (T x5), .c (T x6), .c (I x7), .c (T x8), .c (I x9)]]) ?_ ?_
 ·refine zm [some 0] (fun _ => [(0, .c (.r v (noRs l))), (3, .p 0 0 0), (4, .c (.r (.slice none 0 0) [])), (5, .c (I 0)), (19, .c (.r v (noRs l))), (20, .c (I (noRs l).length)), (21, .c (I (0 : Nat)))]) (fun _ => [.box [.c (T x0), .c (I x1), .c (I x2), .c (I x3), .c (T x4), .c (T x5), .c (T x6), .c (I x7), .c (T x8), .c (I x9)]]) (by decide) (ZNL hE) ZCF ZCH (fun _ => ?_)
  exact ⟨l.length, 0, x1, by omega, rfl, rfl, rfl⟩
 rintro m F H ⟨k, M, hk, hM, rfl, rfl⟩
 refine WA ?_
 refine zr rfl (fun hlt => ?_) (fun hge => ?_)
 ·obtain ⟨y, hy⟩ : ∃ n, l[k]? = some n := ⟨_, List.getElem?_eq_getElem (by omega)⟩
  have hrow0 := zm1 hy
  have hsn : mxN x0 (l.take (k + 1)) x1 = if y.st = x0 then max M y.no else M := by rw [List.take_add_one, hy, Option.toList_some, mxN_snoc, hM]
  obtain ⟨y0, y1, y2, y3, y4, y5, y6, y7, y8, y9⟩ := y
  have hrow : (noRs l)[k]? = some [T y0, I y1, I y2, I y3, T y4, T y5, T y6, I y7, T y8, I y9] := hrow0
  obtain ⟨q, hq⟩ : ∃ q, decide (y0 = x0) = q := ⟨_, rfl⟩
  refine WA ?_
  refine ZR ?_
  iterate 4 refine WX1 ?_
  refine ZA (zZ (a := y0) (b := x0) hq rfl Tryz.underlying9 rfl rfl) ?_
  refine WE ?_
  cases q with
  | true =>
   refine zb rfl ?_
   refine ZZ ?_
   refine WA ?_
   refine WA ?_
   refine zm [some 0] (fun _ => [(0, .c (.r v (noRs l))), (3, .p 0 0 0), (4, .c (.r (.slice none 0 0) [])), (5, .c (I 0)), (19, .c (.r v (noRs l))), (20, .c (I (noRs l).length)), (21, .c (I (k + 1 : Nat)))]) (fun _ => [.box [.c (T x0), .c (I (max M y1)), .c (I x2), .c (I x3), .c (T x4), .c (T x5), .c (T x6), .c (I x7), .c (T x8), .c (I x9)]]) (by decide) (ZNL hE) ZCF ZCH (fun _ => ?_)
   exact ⟨m - 1, by omega, k + 1, max M y1, by omega, by rw [hsn, if_pos (of_decide_eq_true hq)], rfl, rfl⟩
  | false =>
   refine zc rfl ?_
   refine ZZ ?_
   refine WA ?_
   refine zm [some 0] (fun _ => [(0, .c (.r v (noRs l))), (3, .p 0 0 0), (4, .c (.r (.slice none 0 0) [])), (5, .c (I 0)), (19, .c (.r v (noRs l))), (20, .c (I (noRs l).length)), (21, .c (I (k + 1 : Nat)))]) (fun _ => [.box [.c (T x0), .c (I M), .c (I x2), .c (I x3), .c (T x4), .c (T x5), .c (T x6), .c (I x7), .c (T x8), .c (I x9)]]) (by decide) (ZNL hE) ZCF ZCH (fun _ => ?_)
   exact ⟨m - 1, by omega, k + 1, M, by omega, by rw [hsn, if_neg (of_decide_eq_false hq)], rfl, rfl⟩
 rw [List.take_of_length_le (by omega)] at hM
 have hMb := mxN_le x0 4000000000000 l x1 hxn hn
 rw [← hM] at hMb
 have hx0 : x1 = 0 := by omega
 have hwx : wrX l ⟨x0, x1, x2, x3, x4, x5, x6, x7, x8, x9⟩ = ⟨x0, M + 1, x2, x3, x4, x5, x6, x7, x8, x9⟩ := by unfold wrX; rw [hM]
 rw [hwx] at ew
 have hws : NtS ⟨x0, M + 1, x2, x3, x4, x5, x6, x7, x8, x9⟩ := ⟨s1, s2, s3, s4, s5⟩
 refine ZZ ?_
 refine WA ?_
 refine WR ?_
 refine ze rfl (za false (fun _ => formed_v ⟨x0, M + 1, x2, x3, x4, x5, x6, x7, x8, x9⟩ hws) rfl .fn rfl (by decide) (by kernel_rfl) rfl (fun _ => .cons (.aL (C0 rfl)) .nil) (by simp)) ?_
 rintro _ _ ⟨_, _, _, ⟨rfl, rfl⟩, hF, hH⟩
 (refine NST hF hH ?_; clear hF hH; rintro rfl rfl)
 refine WE ?_
 generalize hfe : ntF ⟨x0, M + 1, x2, x3, x4, x5, x6, x7, x8, x9⟩ = fe at ew ⊢
 refine WA ?_
 refine zr rfl (fun h2 => ?_) (fun h2 => ?_)
 ·rw [if_pos h2] at ew
  refine WA ?_
  exact zW (us := [.c (.r (.slice none 0 0) []), .c (I fe)]) [none] (fun _ => .t [.o 0 0 0 0, .c (I fe)]) (fun _ => [.arr 33 10 0 []]) (.tmp rfl (.tmp rfl .nil)) (by decide) (ZNK rfl) (fun _ => .tL (.cons (.nil rfl) (.cons (.c rfl) .nil))) ZCH (fun _ => hnil _ (ew) (h2))
 rw [if_neg h2] at ew
 refine ZZ ?_
 refine WA ?_
 obtain ⟨q, hq⟩ : ∃ q, badO (prv l l.length) ⟨x0, M + 1, x2, x3, x4, x5, x6, x7, x8, x9⟩ = q := ⟨_, rfl⟩
 rw [hq] at ew
 refine zU1 (fun F H => F = [(0, .c (.r v (noRs l))), (3, .p 0 0 0), (4, .c (.r (.slice none 0 0) [])), (5, .c (I 0)), (59, .c (B q))] ∧ H = [.box [.c (T x0), .c (I (M + 1)), .c (I x2), .c (I x3), .c (T x4), .c (T x5), .c (T x6), .c (I x7), .c (T x8), .c (I x9)]]) ?_ ?_ wk_aw
 ·by_cases hk0 : l.length = 0
  ·have hq2 : q = false := by rw [← hq, hk0]; rfl
   subst hq2
   have hk0' : ¬ (0 : Int) < ((noRs l).length : Int) := by omega
   refine ZZ ?_
   refine zo [(0, none), (1, none), (2, none), (3, none), (4, none), (5, none), (6, none), (7, none), (8, none), (9, some []), (10, none), (11, none)] zR (by kernel_rfl) ?_
   refine WP ?_
   first | refine zB1 rfl rfl rfl (by decide) ⟨zn, ?_⟩ | (refine zC1 rfl (za false (fun _ => compareN_v ⟨x0, M + 1, x2, x3, x4, x5, x6, x7, x8, x9⟩ ⟨x0, M + 1, x2, x3, x4, x5, x6, x7, x8, x9⟩) rfl .fn rfl (by decide) (by kernel_rfl) rfl (fun _ => .cons (.aL (C0 rfl)) (.cons (.aL (C0 rfl)) .nil)) (by simp)) ?_; rintro _ _ ⟨_, _, _, ⟨rfl, rfl⟩, hF, hH⟩; (refine NST hF hH ?_; clear hF hH; rintro rfl rfl); refine ⟨zn, ?_⟩)
   refine WQ ?_
   all_goals refine zm [some 0] (fun _ => [(0, .c (.r v (noRs l))), (3, .p 0 0 0), (4, .c (.r (.slice none 0 0) [])), (5, .c (I 0)), (59, .c (B false))]) (fun _ => [.box [.c (T x0), .c (I (M + 1)), .c (I x2), .c (I x3), .c (T x4), .c (T x5), .c (T x6), .c (I x7), .c (T x8), .c (I x9)]]) (by decide) (ZNL hE) ZCF ZCH (fun _ => ?_)
   all_goals exact ⟨rfl, rfl⟩
  ·obtain ⟨y, hy⟩ : ∃ n, l[l.length - 1]? = some n := ⟨_, List.getElem?_eq_getElem (by omega)⟩
   have hkp : (0 : Int) < ((noRs l).length : Int) := by omega
   have hpy : prv l l.length = some y := by unfold prv; rw [if_neg hk0]; exact hy
   rw [hpy] at hq
   have hq' : decide (0 ≤ cmpNt y ⟨x0, M + 1, x2, x3, x4, x5, x6, x7, x8, x9⟩) = q := hq
   have hrowy0 := zm1 hy
   obtain ⟨y0, y1, y2, y3, y4, y5, y6, y7, y8, y9⟩ := y
   have hrowy : (noRs l)[l.length - 1]? = some [T y0, I y1, I y2, I y3, T y4, T y5, T y6, I y7, T y8, I y9] := hrowy0
   refine ZZ ?_
   refine zo [(0, none), (1, none), (2, none), (3, none), (4, none), (5, none), (6, none), (7, none), (8, none), (9, some []), (10, none), (11, none)] zR (by kernel_rfl) ?_
   refine WP ?_
   first | refine zB1 rfl rfl rfl (by decide) ⟨zn, ?_⟩ | (refine zC1 rfl (za false (fun _ => compareN_v ⟨y0, y1, y2, y3, y4, y5, y6, y7, y8, y9⟩ ⟨x0, M + 1, x2, x3, x4, x5, x6, x7, x8, x9⟩) rfl .fn rfl (by decide) (by kernel_rfl) rfl (fun _ => .cons (.aL (C0 rfl)) (.cons (.aL (C0 rfl)) .nil)) (by simp)) ?_; rintro _ _ ⟨_, _, _, ⟨rfl, rfl⟩, hF, hH⟩; (refine NST hF hH ?_; clear hF hH; rintro rfl rfl); refine ⟨zn, ?_⟩)
   refine WQ ?_
   all_goals refine zm [some 0] (fun _ => [(0, .c (.r v (noRs l))), (3, .p 0 0 0), (4, .c (.r (.slice none 0 0) [])), (5, .c (I 0)), (59, .c (B q))]) (fun _ => [.box [.c (T x0), .c (I (M + 1)), .c (I x2), .c (I x3), .c (T x4), .c (T x5), .c (T x6), .c (I x7), .c (T x8), .c (I x9)]]) (by decide) (ZNL hE) ZCF ZCH (fun _ => ?_)
   all_goals exact ⟨rfl, rfl⟩
 rintro F H ⟨rfl, rfl⟩
 cases q with
 | true =>
  refine zb rfl ?_
  refine ZZ ?_
  refine WA ?_
  exact zW (us := [.c (.r (.slice none 0 0) []), .c (I 7)]) [none] (fun _ => .t [.o 0 0 0 0, .c (I 7)]) (fun _ => [.arr 33 10 0 []]) (.tmp rfl (.tmp rfl .nil)) (by decide) (ZNK rfl) (fun _ => .tL (.cons (.nil rfl) (.cons (.c rfl) .nil))) ZCH (fun _ => hnil _ (ew) (by decide))
 | false =>
 rw [if_neg (by simp)] at ew
 refine zc rfl ?_
 refine ZZ ?_
 refine WA ?_
 refine zr rfl (fun h3 => ?_) (fun h3 => ?_)
 ·rw [if_pos (by omega)] at ew
  refine WA ?_
  exact zW (us := [.c (.r (.slice none 0 0) []), .c (I 2)]) [none] (fun _ => .t [.o 0 0 0 0, .c (I 2)]) (fun _ => [.arr 33 10 0 []]) (.tmp rfl (.tmp rfl .nil)) (by decide) (ZNK rfl) (fun _ => .tL (.cons (.nil rfl) (.cons (.c rfl) .nil))) ZCH (fun _ => hnil _ (ew) (by decide))
 rw [if_neg (by omega)] at ew
 refine ZZ ?_
 refine zU1 (fun F H => ∃ c, l.length + 1 ≤ c ∧ F = [(4, .o 0 0 (l.length + 1) c), (5, .c (I 0))] ∧ H = [.arr 33 10 c (noRs l ++ [[T x0, I (M + 1), I x2, I x3, T x4, T x5, T x6, I x7, T x8, I x9]])]) ?_ ?_ wk_aw
 ·refine ZZ ?_
  refine aw_regionM [[(0, none), (2, none), (1, some [2]), (3, some [0]), (4, some []), (5, none), (6, none)], [(0, none), (2, none), (3, some [0]), (1, some [2]), (4, some []), (5, none), (6, none)]] zR (by kernel_rfl) ?_
  focus
   refine WM ?_
   refine am_two (by rfl) (by rfl) (by rfl) ?_ ?_
   rotate_left
   refine WM ?_
   refine zi1 (i := 1) (by rfl) (by rfl) rfl rfl (za false (fun _ => cloneN_a (noRs l) v (okNo l) (by omega)) rfl .fn rfl (by decide) (by kernel_rfl) rfl (fun _ => C0 rfl) (by simp)) ?_
   rintro _ _ ⟨_, _, _, ⟨c3, hc3, rfl, rfl⟩, hF, hH⟩
   (refine NST hF hH ?_; clear hF hH; rintro rfl rfl)
   refine ⟨AGX, ?_⟩
   refine zi1 (i := 4) (by rfl) (by rfl) rfl rfl (Zapp (news := [[T x0, I (M + 1), I x2, I x3, T x4, T x5, T x6, I x7, T x8, I x9]]) (j := 1) (hE := KA (t := 26) rfl) (hsrc := .own rfl rfl rfl) (hj := rfl) (hle := by omega)) ?_
   rintro _ _ ⟨_, cc, hcc, rfl, rfl⟩
   refine ⟨AGX, ?_⟩
   refine WN ?_
   rotate_right
   refine zi1 (i := 1) (by rfl) (by rfl) rfl rfl (za false (fun _ => cloneN_a (noRs l) v (okNo l) (by omega)) rfl .fn rfl (by decide) (by kernel_rfl) rfl (fun _ => C0 rfl) (by simp)) ?_
   rintro _ _ ⟨_, _, _, ⟨c3, hc3, rfl, rfl⟩, hF, hH⟩
   (refine NST hF hH ?_; clear hF hH; rintro rfl rfl)
   refine ⟨AGX, ?_⟩
   refine WM ?_
   refine zi1 (i := 4) (by rfl) (by rfl) rfl rfl (Zapp (news := [[T x0, I (M + 1), I x2, I x3, T x4, T x5, T x6, I x7, T x8, I x9]]) (j := 1) (hE := KA (t := 26) rfl) (hsrc := .own rfl rfl rfl) (hj := rfl) (hle := by omega)) ?_
   rintro _ _ ⟨_, cc, hcc, rfl, rfl⟩
   refine ⟨AGX, ?_⟩
   refine WN ?_
  all_goals (first
   | exact zm [some 1] (fun _ => [(4, .o 0 0 (l.length + 1) cc), (5, .c (I 0))]) (fun _ => [.arr 33 10 cc (noRs l ++ [[T x0, I (M + 1), I x2, I x3, T x4, T x5, T x6, I x7, T x8, I x9]])]) (by decide) (ZNL hE) (fun g => .cons rfl (.o rfl (by simp)) (.cons rfl (.c rfl) .nil)) ZCH (fun _ => ⟨cc, by simp at hcc; omega, rfl, rfl⟩)
   | exact zm [some 2] (fun _ => [(4, .o 0 0 (l.length + 1) cc), (5, .c (I 0))]) (fun _ => [.arr 33 10 cc (noRs l ++ [[T x0, I (M + 1), I x2, I x3, T x4, T x5, T x6, I x7, T x8, I x9]])]) (by decide) (ZNL hE) (fun g => .cons rfl (.o rfl (by simp)) (.cons rfl (.c rfl) .nil)) ZCH (fun _ => ⟨cc, by simp at hcc; omega, rfl, rfl⟩))
 rintro F H ⟨c, hc, rfl, rfl⟩
 refine ZZ ?_
 have hr : l ++ [wrX l ⟨x0, x1, x2, x3, x4, x5, x6, x7, x8, x9⟩] = l ++ [⟨x0, M + 1, x2, x3, x4, x5, x6, x7, x8, x9⟩] := by rw [hwx]
 exact zW (us := [.o 0 0 (l.length + 1) c, .c (I 0)]) [some 0] (fun _ => .t [.o 0 0 (l.length + 1) c, .c (I 0)]) (fun _ => [.arr 33 10 c (noRs l ++ [[T x0, I (M + 1), I x2, I x3, T x4, T x5, T x6, I x7, T x8, I x9]])]) (.tmp rfl (.tmp rfl .nil)) (by decide) (ZNK rfl) (fun _ => .tL (.cons (.o rfl rfl) (.cons (.c rfl) .nil))) ZCH (fun _ => ⟨l ++ [⟨x0, M + 1, x2, x3, x4, x5, x6, x7, x8, x9⟩], c, by rw [ew, if_pos rfl, hwx], by simpa using hc, by rw [ew]; simp, by simp [noR]⟩)
end Go.Proofs.YtcchlddiggmcaaaGreatDoor
