/- The stream's notes, plain: what a round makes, and how they are sorted. -/
import Derived.Test.YtlhbfcfjepbhpaaGreatDoorQbk
import Derived.Test.YtlhbfcfjepbhpaaGreatDoorQbd
import Derived.Test.YtlhbfcfjepbhpaaGreatDoorQaq
set_option linter.unusedSimpArgs false
set_option linter.unusedVariables false
-- NEWM
namespace Go.Proofs.YtlhbfcfjepbhpaaGreatDoor
open Go Go.RowKit
set_option maxRecDepth 1000000
theorem nt_sum {x : Nt} (h : ntF x = 0) : 0 ≤ x.n ∧ x.n ≤ 100000000 ∧ 0 ≤ x.ot ∧ x.ot ≤ 1000000 := by
 obtain ⟨-, -, -, -, -, -, -, u1, u2, -, -, -, g4, g5⟩ := zf3 h
 have u3 : 0 ≤ uM x.kd ∧ uM x.kd ≤ 100000000 := by unfold uM; split <;> (try split) <;> omega
 have hn : 0 ≤ x.n ∧ x.n ≤ 100000000 := by
  by_cases hu : uM x.kd = 0
  ·rw [g4 hu]; omega
  ·have := u2 (by omega); omega
 refine ⟨hn.1, hn.2, ?_⟩
 cases hu : uU x.kd with
 | true => have := u1 hu; omega
 | false => rw [(g5 hu).2]; omega
set_option maxHeartbeats 2000000 in
theorem notelines_v (v : Value) (l : List Nt) (hn : ∀ x ∈ l, ntF x = 0) (hll : l.length ≤ 400) : ACallsW TabX false Tryz.prog 12 [.c (.r v (noRs l))] [] fun u H => u = .c (T (txF l)) ∧ H = [] := by
 have eL : (noRs l).length = l.length := by simp
 refine zD1 zk2 false (N := 70) Tryz.func12 rfl rfl (by simp) fun E hE hP hX => ?_
 refine WA ?_
 refine WA ?_
 refine WA ?_
 refine zK (fun m F H => ∃ k : Nat, m + k = l.length ∧ F = [(3, .c (T (txF (l.take k)))), (10, .c (.r v (noRs l))), (11, .c (I (noRs l).length)), (12, .c (I k))] ∧ H = []) ?_ ?_
 ·refine zp [] (fun _ => [(3, .c (T [])), (10, .c (.r v (noRs l))), (11, .c (I (noRs l).length)), (12, .c (I (0 : Nat)))]) (fun _ => []) (by decide) (ZNL hE) ZCF (fun _ => .nil) (fun _ => ⟨_, 0, rfl, rfl, rfl⟩)
 rintro m F H ⟨k, hk, rfl, rfl⟩
 have hPl : (txF (l.take k)).length ≤ 410 * k := by
  have := txF_len (l := l.take k) fun x hx => hn x (List.mem_of_mem_take hx)
  rw [List.length_take] at this
  omega
 refine WA ?_
 refine zw rfl (fun hlt => ?_) (fun hge => ?_)
 ·obtain ⟨x, hx⟩ : ∃ x, l[k]? = some x := ⟨_, List.getElem?_eq_getElem (by omega)⟩
  have hxn := hn x (List.mem_of_getElem? hx)
  have hnx := txF_take hx
  obtain ⟨w1, w2⟩ := tx_words hxn
  have hjl := tx_len hxn
  have hsm := nt_sum hxn
  obtain ⟨h1, h2, h3, h4, -⟩ := zf3 hxn
  have htx : txD x = txW x := txD_eq hxn
  have htd : txD x = [x.st, Lib.itoa x.no, Lib.itoa x.at_, kwA x.kd] ++ [x.pr, x.jb, x.sp, x.of_].filter (fun s => decide (s ≠ [])) ++ (if 0 < x.n + x.ot then [Lib.itoa (x.n + x.ot)] else []) := rfl
  rw [htx] at htd
  generalize txW x = tw at htd hjl w1 w2 hnx
  obtain ⟨jt, hjt⟩ : ∃ jt, Lib.join tw [32] = jt := ⟨_, rfl⟩
  have hjl2 : jt.length ≤ 409 := by unfold jnF at hjl; rw [hjt, List.length_append] at hjl; simp at hjl; omega
  have hjn : jnF tw = jt ++ [10] := by unfold jnF; rw [hjt]
  rw [hjn] at hnx
  have hrow0 := zf2 hx
  generalize txF (l.take k) = P at hnx hPl ⊢
  obtain ⟨st, no, a_, kn, pr, jb, sp, n, of_, ot⟩ := x
  have hrow : (noRs l)[k]? = some [T st, I no, I a_, I kn, T pr, T jb, T sp, I n, T of_, I ot] := hrow0
  simp only at h2 h3 h4 htd hsm
  obtain ⟨kw, hkw⟩ : ∃ kw, kwA kn = kw := ⟨_, rfl⟩
  have hrk : (wR kwL)[kn.toNat]? = some [T kw] := by
   rw [← hkw]
   rcases (show kn = 1 ∨ kn = 2 ∨ kn = 3 ∨ kn = 4 ∨ kn = 5 ∨ kn = 6 ∨ kn = 7 by omega) with rfl | rfl | rfl | rfl | rfl | rfl | rfl <;> rfl
  rw [hkw] at htd
  clear htx hrow0 hx
  refine WA ?_
  refine ZZ ?_
  refine zk [(0, none), (1, none), (2, none), (3, none), (5, none), (6, none), (9, none), (10, none), (4, some [0, 1, 5, 6, 9, 10]), (7, some [0, 1, 9, 10]), (8, some [0, 1, 9, 10]), (11, none), (12, none), (13, some []), (14, none)] zS (by kernel_rfl) ?_
  refine WP ?_
  refine zi2 rfl rfl (zQ TabX (hX _ _) false (fun _ => zZ3 no (by omega) (by omega)) rfl .fn rfl (by decide) (by kernel_rfl) rfl (fun _ => C0 rfl) (by simp)) ?_
  rintro _ _ ⟨_, _, _, ⟨rfl, rfl⟩, hF, hH⟩
  (refine NST hF hH ?_; clear hF hH; rintro rfl rfl)
  refine ⟨ze (by first | exact zz rfl rfl rfl (ZX (KF (t := 39) (f := 0) rfl rfl)) rfl) (ze (by first | exact zz rfl rfl rfl (ZL (KK (t := 9) rfl)) rfl) (ze (by first | exact zz rfl rfl rfl (ZX (KF (t := 39) (f := 2) rfl rfl)) rfl) (ze (by first | exact zz rfl rfl rfl (ZL (KK (t := 3) rfl)) rfl) (ze (by first | exact zz rfl rfl rfl (ZX (KF (t := 39) (f := 3) rfl rfl)) rfl) (ze (by first | exact zz rfl rfl rfl (ZL (KK (t := 3) rfl)) rfl) (zm)))))), ?_⟩
  refine zi2 rfl rfl (zQ TabX (hX _ _) false (fun _ => zZ3 a_ (by omega) (by omega)) rfl .fn rfl (by decide) (by kernel_rfl) rfl (fun _ => C0 rfl) (by simp)) ?_
  rintro _ _ ⟨_, _, _, ⟨rfl, rfl⟩, hF, hH⟩
  (refine NST hF hH ?_; clear hF hH; rintro rfl rfl)
  refine ⟨ze (by first | exact zz rfl rfl rfl (ZX (KF (t := 39) (f := 0) rfl rfl)) rfl) (ze (by first | exact zz rfl rfl rfl (ZL (KK (t := 9) rfl)) rfl) (ze (by first | exact zz rfl rfl rfl (ZX (KF (t := 39) (f := 3) rfl rfl)) rfl) (ze (by first | exact zz rfl rfl rfl (ZL (KK (t := 3) rfl)) rfl) (zm)))), ?_⟩
  refine zi2 rfl rfl (zc false (fun _ => zr3) rfl .fn rfl (by decide) (by kernel_rfl) rfl (fun _ => C0 rfl) (by simp)) ?_
  rintro _ _ ⟨_, _, _, ⟨⟨vk, rfl⟩, rfl⟩, hF, hH⟩
  (refine NST hF hH ?_; clear hF hH; rintro rfl rfl)
  refine ⟨ze (by first | exact zz rfl rfl rfl (ZX (KF (t := 39) (f := 0) rfl rfl)) rfl) (ze (by first | exact zz rfl rfl rfl (ZL (KK (t := 9) rfl)) rfl) (ze (by first | exact zz rfl rfl rfl (ZX (KF (t := 39) (f := 3) rfl rfl)) rfl) (ze (by first | exact zz rfl rfl rfl (ZL (KK (t := 3) rfl)) rfl) (zm)))), ?_⟩
  refine WQ ?_
  refine ZR ?_
  iterate 8 refine WX1 ?_
  refine zf rfl Ybsr ?_
  rintro _ _ ⟨vst, rfl, rfl⟩
  refine WE ?_
  obtain ⟨w4, hw4⟩ : ∃ w4, w4 = [st, Lib.itoa no, Lib.itoa a_, kw] := ⟨_, rfl⟩
  rw [← hw4] at htd
  obtain ⟨l3, hl3⟩ : ∃ l3, l3 = [pr, jb, sp, of_] := ⟨_, rfl⟩
  rw [← hl3] at htd
  have hn3 : l3.length = 4 := by rw [hl3]; rfl
  have hn4 : w4.length = 4 := by rw [hw4]; rfl
  refine zK (fun m2 F H => ∃ (i c : Nat), m2 + i = 4 ∧ (w4 ++ (l3.take i).filter (fun s => decide (s ≠ []))).length ≤ c ∧ F = [(3, .c (T P)), (10, .c (.r v (noRs l))), (11, .c (I (noRs l).length)), (12, .c (I k)), (5, .p 0 0 0), (6, .o 1 0 (w4 ++ (l3.take i).filter (fun s => decide (s ≠ []))).length c), (38, .c (.r vst (wR l3))), (39, .c (I 4)), (40, .c (I i))] ∧ H = [.box [.c (T st), .c (I no), .c (I a_), .c (I kn), .c (T pr), .c (T jb), .c (T sp), .c (I n), .c (T of_), .c (I ot)], .arr 9 1 c (wR (w4 ++ (l3.take i).filter (fun s => decide (s ≠ []))))]) ?_ ?_
  ·refine zp [some 0, some 1] (fun _ => [(3, .c (T P)), (10, .c (.r v (noRs l))), (11, .c (I (noRs l).length)), (12, .c (I k)), (5, .p 0 0 0), (6, .o 1 0 4 4), (38, .c (.r vst (wR l3))), (39, .c (I 4)), (40, .c (I (0 : Nat)))]) (fun _ => [.box [.c (T st), .c (I no), .c (I a_), .c (I kn), .c (T pr), .c (T jb), .c (T sp), .c (I n), .c (T of_), .c (I ot)], .arr 9 1 4 (wR w4)]) (by decide) (ZNL hE) (by rw [hl3]; exact ZCF) (by rw [hw4]; exact ZCH) (fun _ => ⟨4, 0, 4, rfl, by simp [hn4], ?_, ?_⟩)
   ·simp [hn4]
   ·simp
  ·rintro m2 F H ⟨i, c, hi, hc, rfl, rfl⟩
   have eL3 : (wR l3).length = 4 := by simp [hn3]
   generalize hb : w4 ++ (l3.take i).filter (fun s => decide (s ≠ [])) = b at hc ⊢
   have eB : (wR b).length = b.length := by simp
   have hbl : b.length ≤ 8 := by
    rw [← hb, List.length_append, hn4]
    have h5 := List.length_filter_le (fun s => decide (s ≠ [])) (l3.take i)
    rw [List.length_take] at h5
    omega
   refine WA ?_
   refine zw rfl (fun hlt2 => ?_) (fun hge2 => ?_)
   ·obtain ⟨s, hs⟩ : ∃ s, l3[i]? = some s := ⟨_, List.getElem?_eq_getElem (by omega)⟩
    have hrow3 : (wR l3)[i]? = some [T s] := by rw [List.getElem?_map, hs]; rfl
    have hnx3 : w4 ++ (l3.take (i + 1)).filter (fun s => decide (s ≠ [])) = b ++ (if s ≠ [] then [s] else []) := by
     rw [← hb, List.take_add_one, hs, Option.toList_some, List.filter_append, ← List.append_assoc]
     congr 1
     by_cases hsn : s = []
     ·subst hsn; rfl
     ·rw [if_pos hsn, List.filter_cons_of_pos (by simpa using hsn)]; rfl
    refine WA ?_
    obtain ⟨q, hq⟩ : ∃ q, decide (s ≠ []) = q := ⟨_, rfl⟩
    refine ZR ?_
    refine WX1 ?_
    refine ZA (zZ (b := []) hq rfl Tryz.underlying9 rfl rfl) ?_
    refine WE ?_
    cases q with
    | true =>
     rw [if_pos (of_decide_eq_true hq)] at hnx3
     refine zb rfl ?_
     refine ZZ ?_
     refine WR ?_
     refine zf rfl (Zapp (KA (t := 61) rfl)) ?_
     rintro _ _ ⟨_, cc, hcc, rfl, rfl⟩
     refine WE ?_
     refine WA ?_
     refine zp [some 0, some 1] (fun _ => [(3, .c (T P)), (10, .c (.r v (noRs l))), (11, .c (I (noRs l).length)), (12, .c (I k)), (5, .p 0 0 0), (6, .o 1 0 (b.length + 1) cc), (38, .c (.r vst (wR l3))), (39, .c (I 4)), (40, .c (I (i + 1 : Nat)))]) (fun _ => [.box [.c (T st), .c (I no), .c (I a_), .c (I kn), .c (T pr), .c (T jb), .c (T sp), .c (I n), .c (T of_), .c (I ot)], .arr 9 1 cc (wR b ++ [[T s]])]) (by decide) (ZNL hE) ZCF ZCH (fun _ => ⟨m2 - 1, by omega, i + 1, cc, by omega, ?_, ?_, ?_⟩)
     ·rw [hnx3]; simp; omega
     ·rw [hnx3]; simp
     ·rw [hnx3]; simp
    | false =>
     rw [if_neg (of_decide_eq_false hq)] at hnx3
     rw [List.append_nil] at hnx3
     refine za rfl ?_
     refine ZZ ?_
     refine WA ?_
     refine zp [some 0, some 1] (fun _ => [(3, .c (T P)), (10, .c (.r v (noRs l))), (11, .c (I (noRs l).length)), (12, .c (I k)), (5, .p 0 0 0), (6, .o 1 0 b.length c), (38, .c (.r vst (wR l3))), (39, .c (I 4)), (40, .c (I (i + 1 : Nat)))]) (fun _ => [.box [.c (T st), .c (I no), .c (I a_), .c (I kn), .c (T pr), .c (T jb), .c (T sp), .c (I n), .c (T of_), .c (I ot)], .arr 9 1 c (wR b)]) (by decide) (ZNL hE) ZCF ZCH (fun _ => ⟨m2 - 1, by omega, i + 1, c, by omega, ?_, ?_, ?_⟩)
     ·rw [hnx3]; exact hc
     ·rw [hnx3]
     ·rw [hnx3]
   obtain rfl : i = 4 := by omega
   rw [List.take_of_length_le (by omega)] at hb
   rw [hb] at htd
   clear hb hi hge2 hn3 hl3 hw4 hn4 eL3 hkw hrk
   refine ZZ ?_
   refine WA ?_
   refine WA ?_
   refine zA1 (fun F H => ∃ (c3 : Nat), tw.length ≤ c3 ∧ F = [(3, .c (T P)), (10, .c (.r v (noRs l))), (11, .c (I (noRs l).length)), (12, .c (I k)), (5, .p 0 0 0), (6, .o 1 0 tw.length c3)] ∧ H = [.box [.c (T st), .c (I no), .c (I a_), .c (I kn), .c (T pr), .c (T jb), .c (T sp), .c (I n), .c (T of_), .c (I ot)], .arr 9 1 c3 (wR tw)]) ?_ ?_ zq2
   ·rw [htd]
    refine zw rfl (fun hq => ?_) (fun hq => ?_)
    ·rw [if_pos hq]
     refine WR ?_
     refine zf rfl (zQ TabX (hX _ _) false (fun _ => zZ3 (n + ot) (by omega) (by omega)) rfl .fn rfl (by decide) (by kernel_rfl) rfl (fun _ => C0 rfl) (by simp)) ?_
     rintro _ _ ⟨_, _, _, ⟨rfl, rfl⟩, hF, hH⟩
     (refine NST hF hH ?_; clear hF hH; rintro rfl rfl)
     refine WO ?_
     refine zf rfl (Zapp (KA (t := 61) rfl)) ?_
     rintro _ _ ⟨_, cc, hcc, rfl, rfl⟩
     refine WE ?_
     exact zp [some 0, some 1] (fun _ => [(3, .c (T P)), (10, .c (.r v (noRs l))), (11, .c (I (noRs l).length)), (12, .c (I k)), (5, .p 0 0 0), (6, .o 1 0 (b.length + 1) cc)]) (fun _ => [.box [.c (T st), .c (I no), .c (I a_), .c (I kn), .c (T pr), .c (T jb), .c (T sp), .c (I n), .c (T of_), .c (I ot)], .arr 9 1 cc (wR b ++ [[T (Lib.itoa (n + ot))]])]) (by decide) (ZNL hE) ZCF ZCH (fun _ => ⟨cc, by simp; omega, by simp, by simp⟩)
    ·rw [if_neg hq, List.append_nil]
     refine ZZ ?_
     exact zp [some 0, some 1] (fun _ => [(3, .c (T P)), (10, .c (.r v (noRs l))), (11, .c (I (noRs l).length)), (12, .c (I k)), (5, .p 0 0 0), (6, .o 1 0 b.length c)]) (fun _ => [.box [.c (T st), .c (I no), .c (I a_), .c (I kn), .c (T pr), .c (T jb), .c (T sp), .c (I n), .c (T of_), .c (I ot)], .arr 9 1 c (wR b)]) (by decide) (ZNL hE) ZCF ZCH (fun _ => ⟨c, hc, rfl, rfl⟩)
   rintro F H ⟨c3, hc3, rfl, rfl⟩
   refine WR ?_
   refine zf rfl (zc true (fun g => join_v (g (.o 1 0 tw.length c3)) tw [32] (by rw [hjt]; omega) (by omega)) rfl .fn rfl (by decide) (by kernel_rfl) rfl (fun _ => .cons (.frz rfl rfl (by rw [List.drop_zero, List.take_of_length_le (by simp)]) (by simp) rfl) (.cons (.c rfl) .nil)) (fun _ _ _ _ ⟨hu, hH⟩ => by rw [hu, hH]; exact ⟨.c (.inl trivial), by simp⟩)) ?_
   rintro _ _ ⟨_, _, _, ⟨rfl, rfl⟩, hF, hH⟩
   rw [hjt] at hF
   (refine NST hF hH ?_; clear hF hH; rintro rfl rfl)
   refine ZA (zG2 (a := jt) (b := [10]) rfl Tryz.underlying9 rfl rfl (by simp; omega)) ?_
   refine ZA (zG2 (a := P) (b := jt ++ [10]) rfl Tryz.underlying9 rfl rfl (by simp; omega)) ?_
   refine WE ?_
   refine WA ?_
   exact zp [] (fun _ => [(3, .c (T (P ++ (jt ++ [10])))), (10, .c (.r v (noRs l))), (11, .c (I (noRs l).length)), (12, .c (I (k + 1 : Nat)))]) (fun _ => []) (by decide) (ZNL hE) ZCF (fun _ => .nil) (fun _ => ⟨m - 1, by omega, k + 1, by omega, by rw [hnx], rfl⟩)
 ·obtain rfl : k = l.length := by omega
  rw [List.take_length]
  refine ZZ ?_
  refine WA ?_
  exact zh [] _ rfl rfl rfl (by decide) (ZNK rfl) (fun _ => .nil) ⟨rfl, rfl⟩
end Go.Proofs.YtlhbfcfjepbhpaaGreatDoor
namespace Go.Proofs.YtlhbfcfjepbhpaaGreatDoor
open Go Go.RowKit
set_option maxRecDepth 100000
def nextF (zs : List Int) (a n : Int) : Int := if zs.length = 0 then belowF ((a + 1) * 7919) n else belowF (wrap64 (belowF (zs.getD (a % zs.length).toNat 0) 1073741824 + wrap64 (a / zs.length * wrap64 (7919 + a % zs.length)))) n
theorem zY3 (n : Int) (v : Value) (zs : List Int) (a : Int) (hs : StrOk zs) (h0 : 0 ≤ a) (h1 : a ≤ 1000000000) (hn : in64 n) :
    ACalls Tryz.prog 47 [.p 0 0 0, .c (I n)] [strm v zs a] fun u H => ∃ r : Int, u = .c (I r) ∧ H = [strm v zs (a + 1)] ∧ 0 ≤ r ∧ (1 ≤ n → r < n) ∧ r = nextF zs a n := by
 refine zg (N := 64) Tryz.func47 rfl rfl (by simp) fun E hE => ?_
 unfold in64 at hn
 have hl := hs.len
 by_cases he : zs.length = 0
 ·have h00 : zs = [] := List.eq_nil_of_length_eq_zero he
  subst h00
  repeat' (first
   | (with_reducible refine zC ?_) | (with_reducible refine zA ?_) | (with_reducible refine zE ?_) | (with_reducible refine zI ?_) | (with_reducible refine zG ?_) | (with_reducible refine zJ ?_) | (with_reducible refine zH rfl ?_) | (with_reducible refine zF ?_) | (with_reducible refine zq ?_) | (with_reducible refine zj ?_) | (with_reducible refine zD ?_) | (with_reducible refine zt ?_)
   | refine zb rfl ?_ | refine za rfl ?_ | refine zr rfl (by assumption) ?_ | refine zo rfl (by assumption) ?_ | refine zw rfl (fun _ => ?_) (fun _ => ?_) | refine zn rfl (fun _ => ?_) (fun _ => ?_)
   | (refine zd (id := 3) ?_
      refine WO ?_
      refine zf rfl (zc false (fun _ => below_a _ _) rfl .fn rfl (by decide) (by kernel_rfl) rfl (fun _g => .cons (.c rfl) (.cons (.c rfl) .nil)) (by simp)) ?_
      rintro _ _ ⟨_, _, _, ⟨rfl, rfl⟩, rfl, rfl⟩
      refine WE ?_)
   | (refine zk (id := 4) [(0, none), (1, none), (2, none), (3, none), (4, none), (5, none), (6, none), (7, none), (8, none), (9, none), (10, none), (11, none)] zS (by kernel_rfl) ?_
      refine WQ ?_)
   | (refine zk (id := 5) [(0, none), (1, none), (2, none), (3, none), (4, none), (5, none), (6, none), (7, none), (8, none), (9, none), (10, none), (11, none)] zS (by kernel_rfl) ?_
      refine WQ ?_)
   | (refine zd ?_; refine WE ?_))
  all_goals (refine zh [some 0] _ rfl rfl rfl (by decide) (ZNK rfl) ZCH ?_)
  all_goals (obtain ⟨q1, q2⟩ := zY1 ((a + 1) * 7919) n hn; exact ⟨_, rfl, rfl, q1, q2, rfl⟩)
 ·have hp : 0 < zs.length := by omega
  refine WA ?_
  refine WA ?_
  refine WA ?_
  refine zo rfl (by simpa using he) ?_
  have e1 : (zs.map fun z => [I z]).length = zs.length := by simp
  have hq : ((zs.map fun z => [I z]).length : Int) = zs.length := by rw [e1]
  have hmod : 0 ≤ a % (zs.length : Int) := Int.emod_nonneg _ (by omega)
  have hmod2 : a % (zs.length : Int) < zs.length := Int.emod_lt_of_pos _ (by omega)
  refine ZZ ?_
  refine zk [(0, none), (1, none), (2, none), (3, none), (4, none), (5, none), (6, none), (7, none), (8, none), (9, none), (10, none), (11, none)] zS (by kernel_rfl) ?_
  refine WQ ?_
  refine ZZ ?_
  refine zk [(0, none), (1, none), (2, none), (3, none), (4, none), (5, none), (6, none), (7, none), (8, none), (9, none), (10, none), (11, none)] zS (by kernel_rfl) ?_
  refine WQ ?_
  obtain ⟨i, hi⟩ : ∃ i : Nat, a % (zs.length : Int) = i := ⟨(a % (zs.length : Int)).toNat, by omega⟩
  have hk : i < zs.length := by omega
  obtain ⟨z, hz0⟩ : ∃ z, zs[i]? = some z := ⟨_, List.getElem?_eq_getElem hk⟩
  have hrow : (zs.map fun z => [I z])[i]? = some [I z] := by rw [List.getElem?_map, hz0]; rfl
  refine ZR ?_
  iterate 5 refine WX1 ?_
  refine ZA (zw2 rfl (KE (t := 22) rfl) rfl rfl (i := i) (by rw [e1, show a + 1 - 1 = a from by omega]; exact hi) hrow rfl) ?_
  refine WO ?_
  refine zf rfl (zc false (fun _ => below_a _ _) rfl .fn rfl (by decide) (by kernel_rfl) rfl (fun _g => .cons (.c rfl) (.cons (.c rfl) .nil)) (by simp)) ?_
  rintro _ _ ⟨_, _, _, ⟨rfl, rfl⟩, rfl, rfl⟩
  refine WO ?_
  refine zf rfl (zc false (fun _ => below_a _ _) rfl .fn rfl (by decide) (by kernel_rfl) rfl (fun _g => .cons (.c rfl) (.cons (.c rfl) .nil)) (by simp)) ?_
  rintro _ _ ⟨_, _, _, ⟨rfl, rfl⟩, rfl, rfl⟩
  refine WE ?_
  all_goals (refine zh [some 0] _ rfl rfl rfl (by decide) (ZNK rfl) ZCH ?_)
  all_goals (refine ⟨_, rfl, rfl, (zY1 _ n hn).1, (zY1 _ n hn).2, ?_⟩)
  all_goals (have hzd : zs.getD (a % (zs.length : Int)).toNat 0 = z := by rw [hi, Int.toNat_natCast, List.getD, hz0]; rfl)
  all_goals (rw [nextF, if_neg he, hzd, e1, show a + 1 - 1 = a from by omega])
theorem flip_f (n : Int) (v : Value) (zs : List Int) (a : Int) (hs : StrOk zs) (h0 : 0 ≤ a) (h1 : a ≤ 1000000000) (hn : in64 n) :
    ACalls Tryz.prog 46 [.p 0 0 0, .c (I n)] [strm v zs a] fun u H => ∃ b : Bool, u = .c (B b) ∧ H = [strm v zs (a + 1)] ∧ b = decide (nextF zs a n = 0) := by
 unfold in64 at hn
 refine zg (N := 9) Tryz.func46 rfl rfl (by simp) fun E hE => ?_
 repeat' (first
  | (with_reducible refine zC ?_) | (with_reducible refine zA ?_) | (with_reducible refine zE ?_) | (with_reducible refine zI ?_) | (with_reducible refine zG ?_) | (with_reducible refine zJ ?_) | (with_reducible refine zH rfl ?_) | (with_reducible refine zF ?_) | (with_reducible refine zq ?_) | (with_reducible refine zj ?_) | (with_reducible refine zD ?_) | (with_reducible refine zt ?_)
  | refine zb rfl ?_ | refine za rfl ?_ | refine zr rfl (by assumption) ?_ | refine zo rfl (by assumption) ?_ | refine zw rfl (fun _ => ?_) (fun _ => ?_) | refine zn rfl (fun _ => ?_) (fun _ => ?_)
  | (refine zd (id := 1) ?_
     refine WO ?_
     refine zf rfl (zi false (fun _ => zY3 _ _ _ _ hs (by omega) (by omega) (by simp only [in64]; omega)) rfl .fn rfl (by decide) (by kernel_rfl) rfl rfl (fun _g => .cons (.p rfl) (.cons (.c rfl) .nil)) (fun _g => .cons (.c rfl) (.cons (.c rfl) .nil)) (by simp)) ?_
     rintro F1 H1 ⟨_, _, _, _, ⟨r, rfl, hq, hr1, hr2, hrv⟩, hF, hH⟩
     injection hq with hq1 hq2; subst hq1; subst hq2
     (refine NST hF hH ?_; clear hF hH; rintro rfl rfl)
     refine WE ?_)
  | (refine zd ?_; refine WE ?_))
 all_goals (refine zh [some 0] _ rfl rfl rfl (by decide) (ZNK rfl) ZCH ?_)
 all_goals exact ⟨_, rfl, rfl, by rw [← hrv]⟩
def rangeF (zs : List Int) (a lo hi : Int) : Int × Int := if hi < lo then (lo, a) else (lo + nextF zs a (hi - lo + 1), a + 1)
theorem range_f (lo hi : Int) (v : Value) (zs : List Int) (a : Int) (hs : StrOk zs) (h0 : 0 ≤ a) (h1 : a ≤ 1000000000) (h2 : -4000000000000000000 ≤ lo) (h3 : lo ≤ 4000000000000000000) (h4 : -4000000000000000000 ≤ hi) (h5 : hi ≤ 4000000000000000000) :
    ACalls Tryz.prog 8 [.p 0 0 0, .c (I lo), .c (I hi)] [strm v zs a] fun u H => ∃ r a', u = .c (I r) ∧ H = [strm v zs a'] ∧ a ≤ a' ∧ a' ≤ a + 1 ∧ lo ≤ r ∧ (lo ≤ hi → r ≤ hi) ∧ (hi < lo → r = lo) ∧ (r, a') = rangeF zs a lo hi := by
 refine zg (N := 19) Tryz.func8 rfl rfl (by simp) fun E hE => ?_
 repeat' (first
  | (with_reducible refine zC ?_) | (with_reducible refine zA ?_) | (with_reducible refine zE ?_) | (with_reducible refine zI ?_) | (with_reducible refine zG ?_) | (with_reducible refine zJ ?_) | (with_reducible refine zH rfl ?_) | (with_reducible refine zF ?_) | (with_reducible refine zq ?_) | (with_reducible refine zj ?_) | (with_reducible refine zD ?_) | (with_reducible refine zt ?_)
  | refine zb rfl ?_ | refine za rfl ?_ | refine zr rfl (by assumption) ?_ | refine zo rfl (by assumption) ?_ | refine zw rfl (fun _ => ?_) (fun _ => ?_) | refine zn rfl (fun _ => ?_) (fun _ => ?_)
  | (refine zd (id := 3) ?_
     refine WO ?_
     refine zf rfl (zi false (fun _ => zY3 _ _ _ _ hs (by omega) (by omega) (by simp only [in64]; omega)) rfl .fn rfl (by decide) (by kernel_rfl) rfl rfl (fun _g => .cons (.p rfl) (.cons (.c rfl) .nil)) (fun _g => .cons (.c rfl) (.cons (.c rfl) .nil)) (by simp)) ?_
     rintro F1 H1 ⟨_, _, _, _, ⟨r, rfl, hq, hr1, hr2, hrv⟩, hF, hH⟩
     injection hq with hq1 hq2; subst hq1; subst hq2
     (refine NST hF hH ?_; clear hF hH; rintro rfl rfl)
     refine WE ?_)
  | (refine zd ?_; refine WE ?_))
 all_goals (refine zh [some 0] _ rfl rfl rfl (by decide) (ZNK rfl) ZCH ?_)
 all_goals (refine ⟨_, _, rfl, rfl, by omega, by omega, by omega, by omega, by omega, ?_⟩)
 all_goals first | (rw [rangeF, if_pos (by omega)]; done) | (rw [rangeF, if_neg (by omega), ← hrv])
def pickF (zs : List Int) (a : Int) (vals : List Int) : Int := vals.getD (nextF zs a vals.length).toNat 0
theorem zH1 (vals : List Int) (q v : Value) (zs : List Int) (a : Int) (hs : StrOk zs) (h0 : 0 ≤ a) (h1 : a ≤ 1000000000) (hv : vals ≠ []) (hl : vals.length ≤ 1000000) :
    ACalls Tryz.prog 27 [.p 0 0 0, .c (.r q (vals.map fun z => [I z]))] [strm v zs a] fun u H => ∃ r, u = .c (I r) ∧ H = [strm v zs (a + 1)] ∧ r ∈ vals ∧ r = pickF zs a vals := by
 have hp : 0 < vals.length := List.length_pos_iff.2 hv
 have e1 : (vals.map fun z => [I z]).length = vals.length := by simp
 refine zg (N := 12) Tryz.func27 rfl rfl (by simp) fun E hE => ?_
 refine WA ?_
 refine WR ?_
 refine zf rfl (zi false (fun _ => zY3 _ _ _ _ hs (by omega) (by omega) (by simp only [in64]; omega)) rfl .fn rfl (by decide) (by kernel_rfl) rfl rfl (fun _g => .cons (.p rfl) (.cons (.c rfl) .nil)) (fun _g => .cons (.c rfl) (.cons (.c rfl) .nil)) (by simp)) ?_
 rintro F1 H1 ⟨_, _, _, _, ⟨r, rfl, hq, hr1, hr2, hrv⟩, hF, hH⟩
 injection hq with hq1 hq2; subst hq1; subst hq2
 (refine NST hF hH ?_; clear hF hH; rintro rfl rfl)
 obtain ⟨i, rfl⟩ : ∃ i : Nat, r = i := ⟨r.toNat, by omega⟩
 have hk : i < vals.length := by have := hr2 (by rw [e1]; omega); rw [e1] at this; omega
 obtain ⟨z, hz0⟩ : ∃ z, vals[i]? = some z := ⟨_, List.getElem?_eq_getElem hk⟩
 have hrow : (vals.map fun z => [I z])[i]? = some [I z] := by rw [List.getElem?_map, hz0]; rfl
 refine ZA (zw2 rfl (KE (t := 22) rfl) rfl rfl (i := i) rfl hrow rfl) ?_
 refine WE ?_
 refine zh [some 0] _ rfl rfl rfl (by decide) (ZNK rfl) ZCH ?_
 refine ⟨_, rfl, rfl, List.mem_of_getElem? hz0, ?_⟩
 rw [e1] at hrv
 rw [pickF, ← hrv, Int.toNat_natCast, List.getD, hz0]; rfl
def oddF (zs : List Int) (a lo hi : Int) : Int × Int := if nextF zs a 12 = 0 then (pickF zs (a + 1) [lo - 1, hi + 1, lo, hi, -1099511627776, 1099511627776], a + 1 + 1) else rangeF zs (a + 1) lo hi
theorem odd_f (lo hi : Int) (v : Value) (zs : List Int) (a : Int) (hs : StrOk zs) (h0 : 0 ≤ a) (h1 : a ≤ 900000000) (h2 : -4000000000000000000 ≤ lo) (h3 : lo ≤ 4000000000000000000) (h4 : -4000000000000000000 ≤ hi) (h5 : hi ≤ 4000000000000000000) :
    ACalls Tryz.prog 48 [.p 0 0 0, .c (I lo), .c (I hi)] [strm v zs a] fun u H => ∃ r a', u = .c (I r) ∧ H = [strm v zs a'] ∧ a ≤ a' ∧ a' ≤ a + 2 ∧ in64 r ∧ (r, a') = oddF zs a lo hi := by
 refine zg (N := 22) Tryz.func48 rfl rfl (by simp) fun E hE => ?_
 refine WA ?_
 refine WR ?_
 refine zf rfl (zi false (fun _ => flip_f 12 _ _ _ hs (by omega) (by omega) (by simp only [in64]; omega)) rfl .fn rfl (by decide) (by kernel_rfl) rfl rfl (fun _g => .cons (.p rfl) (.cons (.c rfl) .nil)) (fun _g => .cons (.c rfl) (.cons (.c rfl) .nil)) (by simp)) ?_
 rintro F1 H1 ⟨_, _, _, _, ⟨bb, rfl, hq, hvbb⟩, hF, hH⟩
 injection hq with hq1 hq2; subst hq1; subst hq2
 (refine NST hF hH ?_; clear hF hH; rintro rfl rfl)
 refine WE ?_
 refine zn rfl (fun hb => ?_) (fun hb => ?_)
 ·rw [hb] at hvbb
  have hz := of_decide_eq_true hvbb.symm
  refine WR ?_
  refine zf rfl (zi true (fun _ => zH1 [lo - 1, hi + 1, lo, hi, -1099511627776, 1099511627776] _ _ _ _ hs (by omega) (by omega) (by simp) (by simp)) rfl .fn rfl (by decide) (by kernel_rfl) rfl rfl (fun _g => .cons (.p rfl) (.cons (.frz rfl rfl rfl rfl rfl) .nil)) (fun _g => .cons (.c rfl) (.cons (.c rfl) .nil)) (fun _ _ _ _ ⟨_, hu, hH, _⟩ => by rw [hu, hH]; exact ⟨.c (.inl trivial), zl (.inr ⟨0, _, rfl, by simp⟩)⟩)) ?_
  rintro F1 H1 ⟨_, _, _, _, ⟨rr, rfl, hq, hrmrr, hvrr⟩, hF, hH⟩
  injection hq with hq1 hq2; subst hq1; subst hq2
  (refine NST hF hH ?_; clear hF hH; rintro rfl rfl)
  refine WE ?_
  exact zh [some 0] _ rfl rfl rfl (by decide) (ZNK rfl) ZCH ⟨_, _, rfl, rfl, by omega, by omega, by simp only [List.mem_cons, List.not_mem_nil, or_false] at hrmrr; simp only [in64]; omega, by rw [oddF, if_pos hz, ← hvrr]⟩
 ·rw [hb] at hvbb
  have hz := of_decide_eq_false hvbb.symm
  refine ZZ ?_
  refine WR ?_
  refine zf rfl (zi false (fun _ => range_f lo hi _ _ _ hs (by omega) (by omega) (by omega) (by omega) (by omega) (by omega)) rfl .fn rfl (by decide) (by kernel_rfl) rfl rfl (fun _g => .cons (.p rfl) (.cons (.c rfl) (.cons (.c rfl) .nil))) (fun _g => .cons (.c rfl) (.cons (.c rfl) .nil)) (by simp)) ?_
  rintro F1 H1 ⟨_, _, _, _, ⟨rr, ar, rfl, hq, hr3, hr4, hr1, hr2, hr5, hrv⟩, hF, hH⟩
  injection hq with hq1 hq2; subst hq1; subst hq2
  (refine NST hF hH ?_; clear hF hH; rintro rfl rfl)
  have h64r : in64 rr := by simp only [in64]; omega
  refine WE ?_
  exact zh [some 0] _ rfl rfl rfl (by decide) (ZNK rfl) ZCH ⟨_, _, rfl, rfl, by omega, by omega, h64r, by rw [oddF, if_neg hz, ← hrv]⟩
end Go.Proofs.YtlhbfcfjepbhpaaGreatDoor
namespace Go.Proofs.YtlhbfcfjepbhpaaGreatDoor
open Go Go.RowKit
def insJ : Nat → List Nt → List Nt
 | 0, l => l
 | j + 1, l => match l[j + 1]?, l[j]? with
  | some x, some y => if cmpNt x y < 0 then insJ j ((l.set (j + 1) y).set j x) else l
  | _, _ => l
def insK : Nat → List Nt → List Nt
 | 0, l => l
 | k + 1, l => insJ (k + 1) (insK k l)
def insF (l : List Nt) : List Nt := insK (l.length - 1) l
theorem insJ_next {j : Nat} {l : List Nt} {x y : Nt} (hx : l[j + 1]? = some x) (hy : l[j]? = some y) : insJ (j + 1) l = if cmpNt x y < 0 then insJ j ((l.set (j + 1) y).set j x) else l := by rw [insJ, hx, hy]
theorem insJ_len : ∀ (j : Nat) (l : List Nt), (insJ j l).length = l.length
 | 0, l => rfl
 | j + 1, l => by
  rw [insJ]
  split
  ·split
   ·rw [insJ_len j]; simp
   ·rfl
  ·rfl
theorem insJ_mem : ∀ (j : Nat) (l : List Nt) (z : Nt), z ∈ insJ j l → z ∈ l
 | 0, l, z, h => h
 | j + 1, l, z, h => by
  rw [insJ] at h
  split at h
  ·rename_i x y hx hy
   split at h
   ·have h2 := insJ_mem j _ z h
    rcases List.mem_or_eq_of_mem_set h2 with h3 | rfl
    ·rcases List.mem_or_eq_of_mem_set h3 with h4 | rfl
     ·exact h4
     ·exact List.mem_of_getElem? hy
    ·exact List.mem_of_getElem? hx
   ·exact h
  ·exact h
theorem insK_len : ∀ (k : Nat) (l : List Nt), (insK k l).length = l.length
 | 0, l => rfl
 | k + 1, l => by rw [insK, insJ_len, insK_len k]
theorem insK_mem : ∀ (k : Nat) (l : List Nt) (z : Nt), z ∈ insK k l → z ∈ l
 | 0, l, z, h => h
 | k + 1, l, z, h => insK_mem k l z (insJ_mem _ _ _ h)
theorem insF_len (l : List Nt) : (insF l).length = l.length := insK_len _ l
theorem insF_mem (l : List Nt) (z : Nt) (h : z ∈ insF l) : z ∈ l := insK_mem _ l z h
def someF (zs : List Int) (a : Int) (vals : List (List UInt8)) : List UInt8 := vals.getD (nextF zs a vals.length).toNat []
def updF (f : List UInt8 → Int) (k : List UInt8) (z : Int) : List UInt8 → Int := fun s => if s = k then z else f s
structure NG where
 at_ : Int
 no : List UInt8 → Int
 ly : List UInt8 → Int
 a : Int
def kindF (zs : List Int) (x : Nt) (ly : List UInt8 → Int) (a : Int) : Nt × (List UInt8 → Int) × Int :=
 if x.kd = 1 then ({ x with jb := someF zs a [[106], [107], [108], [109]], n := pickF zs (a + 1) [1, 2, 2, 3] }, updF ly x.pr 0, a + 1 + 1)
 else if x.kd = 2 then
  if nextF zs a 6 = 0 then ({ x with n := (rangeF zs (a + 1) 1 4).1 }, updF ly x.pr (ly x.pr + 1), (rangeF zs (a + 1) 1 4).2)
  else ({ x with n := ly x.pr + 1 }, updF ly x.pr (ly x.pr + 1), a + 1)
 else if x.kd = 5 then ({ x with sp := someF zs a [[115], [116]], n := pickF zs (a + 1) [100, 50] }, ly, a + 1 + 1)
 else if x.kd = 6 then ({ x with n := pickF zs a [10, 30, 60] }, ly, a + 1)
 else if x.kd = 7 then ({ x with pr := [], of_ := someF zs a [[97], [98]], ot := (rangeF zs (a + 1) 1 8).1 }, ly, (rangeF zs (a + 1) 1 8).2)
 else (x, ly, a)
def oddNF (zs : List Int) (x : Nt) (a : Int) : Nt × Int :=
 if nextF zs a 90 = 0 then
  if nextF zs (a + 1) 4 = 0 then ({ x with st := someF zs (a + 1 + 1) [[], x.st], no := (oddF zs (a + 1 + 1 + 1) 1 9).1, at_ := (oddF zs (oddF zs (a + 1 + 1 + 1) 1 9).2 0 60).1 }, (oddF zs (oddF zs (a + 1 + 1 + 1) 1 9).2 0 60).2)
  else if nextF zs (a + 1) 4 = 1 then ({ x with kd := (oddF zs (a + 1 + 1) 1 7).1, pr := someF zs (oddF zs (a + 1 + 1) 1 7).2 [[], [65], x.pr] }, (oddF zs (a + 1 + 1) 1 7).2 + 1)
  else if nextF zs (a + 1) 4 = 2 then ({ x with jb := someF zs (a + 1 + 1) [[], [106]], sp := someF zs (a + 1 + 1 + 1) [[], [115], [66]] }, a + 1 + 1 + 1 + 1)
  else ({ x with n := (oddF zs (a + 1 + 1) 0 10).1, ot := pickF zs (oddF zs (a + 1 + 1) 0 10).2 [0, 1, -1] }, (oddF zs (a + 1 + 1) 0 10).2 + 1)
 else (x, a + 1)
def firstF (zs : List Int) (g : NG) : Nt := ⟨someF zs (g.a + 1) [[97], [97], [98]], g.no (someF zs (g.a + 1) [[97], [97], [98]]) + 1, g.at_ + pickF zs g.a [0, 1, 1, 3, 10], pickF zs (g.a + 1 + 1) [1, 2, 2, 2, 2, 3, 3, 4, 5, 6, 6, 7], someF zs (g.a + 1 + 1 + 1) [[112], [112], [113]], [], [], 0, [], 0⟩
def noteF (zs : List Int) (g : NG) : Nt × NG :=
 ((oddNF zs (kindF zs (firstF zs g) g.ly (g.a + 1 + 1 + 1 + 1)).1 (kindF zs (firstF zs g) g.ly (g.a + 1 + 1 + 1 + 1)).2.2).1,
  ⟨g.at_ + pickF zs g.a [0, 1, 1, 3, 10], updF g.no (firstF zs g).st (g.no (firstF zs g).st + 1), (kindF zs (firstF zs g) g.ly (g.a + 1 + 1 + 1 + 1)).2.1, (oddNF zs (kindF zs (firstF zs g) g.ly (g.a + 1 + 1 + 1 + 1)).1 (kindF zs (firstF zs g) g.ly (g.a + 1 + 1 + 1 + 1)).2.2).2⟩)
def ng0 (a : Int) : NG := ⟨0, fun _ => 0, fun _ => 0, a⟩
def gensF (zs : List Int) (a : Int) : Nat → List Nt × NG
 | 0 => ([], ng0 a)
 | k + 1 => ((gensF zs a k).1 ++ [(noteF zs (gensF zs a k).2).1], (noteF zs (gensF zs a k).2).2)
def notesF (zs : List Int) (a : Int) (k : Nat) : List Nt := insF (gensF zs a k).1
theorem nextF_bd {zs : List Int} {a n : Int} (h1 : 1 ≤ n) (h2 : n ≤ 1000000) : 0 ≤ nextF zs a n ∧ nextF zs a n < n := by
 unfold nextF
 split <;> exact ⟨(zY1 _ n (by simp only [in64]; omega)).1, (zY1 _ n (by simp only [in64]; omega)).2 h1⟩
theorem pickF_mem {zs : List Int} {a : Int} {vals : List Int} (h : vals ≠ []) (hl : vals.length ≤ 1000000) : pickF zs a vals ∈ vals := by
 have h0 := List.length_pos_iff.2 h
 have h1 := @nextF_bd zs a vals.length (by omega) (by omega)
 have h2 : (nextF zs a vals.length).toNat < vals.length := by omega
 unfold pickF
 rw [List.getD, List.getElem?_eq_getElem h2]
 exact List.getElem_mem h2
theorem rangeF_bd {zs : List Int} {a lo hi : Int} (h : lo ≤ hi) (h2 : hi - lo ≤ 100000) : lo ≤ (rangeF zs a lo hi).1 ∧ (rangeF zs a lo hi).1 ≤ hi := by
 unfold rangeF
 rw [if_neg (by omega)]
 have := @nextF_bd zs a (hi - lo + 1) (by omega) (by omega)
 simp only
 omega
theorem oddF_bd {zs : List Int} {a lo hi : Int} (h : lo ≤ hi) (h2 : -1000 ≤ lo) (h3 : hi ≤ 1000) : -1100000000000 ≤ (oddF zs a lo hi).1 ∧ (oddF zs a lo hi).1 ≤ 1100000000000 := by
 unfold oddF
 split
 ·have := @pickF_mem zs (a + 1) [lo - 1, hi + 1, lo, hi, -1099511627776, 1099511627776] (by simp) (by simp)
  simp only [List.mem_cons, List.not_mem_nil, or_false] at this
  simp only
  omega
 ·have := @rangeF_bd zs (a + 1) lo hi h (by omega)
  omega
structure NtB (x : Nt) : Prop where
 st : x.st.length ≤ 1
 pr : x.pr.length ≤ 1
 jb : x.jb.length ≤ 1
 sp : x.sp.length ≤ 1
 of_ : x.of_.length ≤ 1
 no : -2000000000000 ≤ x.no ∧ x.no ≤ 2000000000000
 at_ : -2000000000000 ≤ x.at_ ∧ x.at_ ≤ 2000000000000
 kd : -2000000000000 ≤ x.kd ∧ x.kd ≤ 2000000000000
 n : -2000000000000 ≤ x.n ∧ x.n ≤ 2000000000000
 ot : -2000000000000 ≤ x.ot ∧ x.ot ≤ 2000000000000
end Go.Proofs.YtlhbfcfjepbhpaaGreatDoor
