/- The cells of a grid that a function chooses, by value: chosen. -/
import Derived.Test.YtfilfijammemfaaGreatDoorQav
set_option linter.unusedSimpArgs false
set_option linter.unusedVariables false
-- NEWM
namespace Go.Proofs.YtfilfijammemfaaGreatDoor
open Go Go.RowKit
set_option maxRecDepth 100000
theorem spt_bd {g : Grd} (hg : GOk g) {p : Spot} (h : p ∈ covG g) : -10000000 ≤ p.1 ∧ p.1 ≤ 10001000 ∧ -10000000 ≤ p.2 ∧ p.2 ≤ 10001000 := by
 obtain ⟨i, hi, rfl⟩ := covG_mem.1 h
 have hk := (List.getElem?_eq_some_iff.1 hi).1
 obtain ⟨h1, h2, _, _⟩ := each_at hg hk
 have h3 := hg.x
 have h4 := hg.y
 rw [← spt_eq]
 simp only
 omega
theorem x0_bd {g : Grd} (hg : GOk g) (h : covG g ≠ []) : -10000000 ≤ x0 (covG g) ∧ x0 (covG g) ≤ x1 (covG g) ∧ x1 (covG g) ≤ 10001000 ∧ -10000000 ≤ y0 (covG g) ∧ y0 (covG g) ≤ y1 (covG g) ∧ y1 (covG g) ≤ 10001000 := by
 obtain ⟨⟨p1, hp1, e1⟩, ⟨p2, hp2, e2⟩, ⟨p3, hp3, e3⟩, ⟨p4, hp4, e4⟩⟩ := x0_at h
 have b1 := spt_bd hg hp1
 have b2 := spt_bd hg hp2
 have b3 := spt_bd hg hp3
 have b4 := spt_bd hg hp4
 have l1 := (zi1 (show cols (covG g) ≠ [] by simpa [cols] using h)).2 p2.1 (List.mem_map_of_mem hp2)
 have l2 := (zi1 (show rws (covG g) ≠ [] by simpa [rws] using h)).2 p4.2 (List.mem_map_of_mem hp4)
 have l3 : x0 (covG g) ≤ p2.1 := l1
 have l4 : y0 (covG g) ≤ p4.2 := l2
 omega
theorem rowB_succ (L : List Spot) (x y : Int) (k : Nat) : rowB L x y (k + 1) = rowB L x y k ++ [if (x + (k : Nat), y) ∈ L then 35 else 46] := by
 unfold rowB; rw [List.range_succ, List.map_append]; rfl
def rowsB (L : List Spot) (x y : Int) (w n : Nat) : List (List UInt8) := (List.range n).map fun i => rowB L x (y + (i : Nat)) w
theorem rowsB_succ (L : List Spot) (x y : Int) (w n : Nat) : rowsB L x y w (n + 1) = rowsB L x y w n ++ [rowB L x (y + (n : Nat)) w] := by
 unfold rowsB; rw [List.range_succ, List.map_append]; rfl
theorem rowsB_len (L : List Spot) (x y : Int) (w n : Nat) : (rowsB L x y w n).length = n := by unfold rowsB; simp
set_option maxHeartbeats 2000000 in
theorem cells_v (g : Grd) (pv v : Value) (hg : GOk g) (hst : 0 ≤ g.st ∧ g.st ≤ 10000) : ACalls Tryz.prog 72 [gV pv v g] [] fun u H => ∃ v', u = .t [celA v' (normC g.st (covG g)).1, .c (I (normC g.st (covG g)).2)] ∧ H = [] := by
 by_cases hL : covG g = []
 ·have hem : (!(covG g).isEmpty) = false := by rw [hL]; rfl
  refine ze (N := 92) Tryz.func72 rfl rfl (by simp) fun E hE => ?_
  refine WA ?_
  refine WA ?_
  refine WR ?_
  refine zf rfl (za false (fun _ => box_v g pv v hg) rfl .fn rfl (by decide) (by kernel_rfl) rfl (fun _ => C0 rfl) (by simp)) ?_
  rintro _ _ ⟨_, _, _, ⟨rfl, rfl⟩, hF, hH⟩
  rw [hem] at hF
  (refine NST hF hH ?_; clear hF hH; rintro rfl rfl)
  refine WE ?_
  refine WA ?_
  refine zb rfl ?_
  refine WA ?_
  exact zq (us := [.a [.c (I g.st), .c (I 0), .c (I 0), .c (.r (.slice none 0 0) [])], .c (I (0))]) [] (fun g' => .t [.a [.c (I g.st), .c (I 0), .c (I 0), .c (.r (.slice none 0 0) [])], .c (I (0))]) (fun _ => []) (.cella (n := 4) rfl (by kernel_rfl) (Cells.box rfl) (by simp) (by (try simp only [nm, putL, Nat.reduceAdd, cellsOf, cvOf]) <;> rfl) (.tmp rfl .nil)) (by decide) (fun i hi => absurd hi (Nat.not_lt_zero i)) (fun g' => .tL (.cons (.aL (.cons (.c rfl) (.cons (.c rfl) (.cons (.c rfl) (.cons (.c rfl) .nil))))) (.cons (.c rfl) .nil))) (fun _ => .nil) (fun g' => ⟨.slice none 0 0, by rw [normC, if_pos hL]; rfl, rfl⟩)
 have hem : (!(covG g).isEmpty) = true := by cases h : covG g with | nil => exact absurd h hL | cons => rfl
 obtain ⟨d1, d2, d3, d4, d5, d6⟩ := x0_bd hg hL
 have hat := atG_eq hg.len
 have hnc : normC g.st (covG g) = if 199 < x1 (covG g) - x0 (covG g) ∨ 199 < y1 (covG g) - y0 (covG g) then (⟨0, 0, 0, []⟩, 12) else if celF ⟨g.st, x0 (covG g) * g.st, y0 (covG g) * g.st, rowsB (covG g) (x0 (covG g)) (y0 (covG g)) (x1 (covG g) - x0 (covG g) + 1).toNat (y1 (covG g) - y0 (covG g) + 1).toNat⟩ ≠ 0 then (⟨0, 0, 0, []⟩, celF ⟨g.st, x0 (covG g) * g.st, y0 (covG g) * g.st, rowsB (covG g) (x0 (covG g)) (y0 (covG g)) (x1 (covG g) - x0 (covG g) + 1).toNat (y1 (covG g) - y0 (covG g) + 1).toNat⟩) else (⟨g.st, x0 (covG g) * g.st, y0 (covG g) * g.st, rowsB (covG g) (x0 (covG g)) (y0 (covG g)) (x1 (covG g) - x0 (covG g) + 1).toNat (y1 (covG g) - y0 (covG g) + 1).toNat⟩, 0) := by
  rw [normC, if_neg hL]
  have : celN g.st (covG g) = ⟨g.st, x0 (covG g) * g.st, y0 (covG g) * g.st, rowsB (covG g) (x0 (covG g)) (y0 (covG g)) (x1 (covG g) - x0 (covG g) + 1).toNat (y1 (covG g) - y0 (covG g) + 1).toNat⟩ := by rw [celN, if_neg hL]; rfl
  rw [this]
 rw [hnc]
 refine ze (N := 92) Tryz.func72 rfl rfl (by simp) fun E hE => ?_
 refine WA ?_
 refine WA ?_
 refine WR ?_
 refine zf rfl (za false (fun _ => box_v g pv v hg) rfl .fn rfl (by decide) (by kernel_rfl) rfl (fun _ => C0 rfl) (by simp)) ?_
 rintro _ _ ⟨_, _, _, ⟨rfl, rfl⟩, hF, hH⟩
 rw [hem] at hF
 (refine NST hF hH ?_; clear hF hH; rintro rfl rfl)
 refine WE ?_
 generalize hLL : covG g = L at *
 generalize x0 L = X0 at *
 generalize x1 L = X1 at *
 generalize y0 L = Y0 at *
 generalize y1 L = Y1 at *
 refine WA ?_
 refine zd rfl ?_
 refine ZZ ?_
 by_cases hx : 199 < X1 - X0
 ·refine WA ?_
  refine zb rfl ?_
  refine WA ?_
  exact zq (us := [.a [.c (I 0), .c (I 0), .c (I 0), .c (.r (.slice none 0 0) [])], .c (I (12))]) [] (fun g' => .t [.a [.c (I 0), .c (I 0), .c (I 0), .c (.r (.slice none 0 0) [])], .c (I (12))]) (fun _ => []) (.cella (n := 4) rfl (by kernel_rfl) (Cells.box rfl) (by simp) (by (try simp only [nm, putL, Nat.reduceAdd, cellsOf, cvOf]) <;> rfl) (.tmp rfl .nil)) (by decide) (fun i hi => absurd hi (Nat.not_lt_zero i)) (fun g' => .tL (.cons (.aL (.cons (.c rfl) (.cons (.c rfl) (.cons (.c rfl) (.cons (.c rfl) .nil))))) (.cons (.c rfl) .nil))) (fun _ => .nil) (fun g' => ⟨.slice none 0 0, by rw [if_pos (.inl hx)]; rfl, rfl⟩)
 by_cases hy : 199 < Y1 - Y0
 ·refine WA ?_
  refine zb rfl ?_
  refine WA ?_
  exact zq (us := [.a [.c (I 0), .c (I 0), .c (I 0), .c (.r (.slice none 0 0) [])], .c (I (12))]) [] (fun g' => .t [.a [.c (I 0), .c (I 0), .c (I 0), .c (.r (.slice none 0 0) [])], .c (I (12))]) (fun _ => []) (.cella (n := 4) rfl (by kernel_rfl) (Cells.box rfl) (by simp) (by (try simp only [nm, putL, Nat.reduceAdd, cellsOf, cvOf]) <;> rfl) (.tmp rfl .nil)) (by decide) (fun i hi => absurd hi (Nat.not_lt_zero i)) (fun g' => .tL (.cons (.aL (.cons (.c rfl) (.cons (.c rfl) (.cons (.c rfl) (.cons (.c rfl) .nil))))) (.cons (.c rfl) .nil))) (fun _ => .nil) (fun g' => ⟨.slice none 0 0, by rw [if_pos (.inr hy)]; rfl, rfl⟩)
 rw [if_neg (by omega)]
 refine WA ?_
 refine zd rfl ?_
 refine ZZ ?_
 obtain ⟨W, hW⟩ : ∃ W : Nat, (X1 - X0 + 1).toNat = W := ⟨_, rfl⟩
 obtain ⟨N, hN⟩ : ∃ N : Nat, (Y1 - Y0 + 1).toNat = N := ⟨_, rfl⟩
 rw [hW, hN]
 have m1 : -100000000000 ≤ X0 * g.st ∧ X0 * g.st ≤ 200000000000 := ⟨by have := Int.mul_le_mul_of_nonneg_right d1 hst.1; omega, by have := Int.mul_le_mul_of_nonneg_right (show X0 ≤ 10001000 by omega) hst.1; omega⟩
 have m2 : -100000000000 ≤ Y0 * g.st ∧ Y0 * g.st ≤ 200000000000 := ⟨by have := Int.mul_le_mul_of_nonneg_right d4 hst.1; omega, by have := Int.mul_le_mul_of_nonneg_right (show Y0 ≤ 10001000 by omega) hst.1; omega⟩
 refine ZZ ?_
 refine zg [(0, none), (1, none), (2, none), (3, none), (4, none), (5, none), (6, none), (7, none), (8, none), (9, none), (10, none), (11, none), (12, none), (13, none), (14, none), (15, some [7, 8, 9, 10, 11, 12, 13]), (16, none), (17, some [])] zn (by kernel_rfl) ?_
 refine WQ ?_
 all_goals skip
 refine WA ?_
 refine zk (fun m F H => ∃ (i c : Nat), m + i = N ∧ i ≤ c ∧ F = [(0, gV pv v g), (2, .p 0 0 0), (4, .p 1 0 0), (5, .p 2 0 0), (6, .p 3 0 0), (8, .c (I (Y0 + (i : Nat))))] ∧ H = [.box [.c (I 0), .c (I 0), .c (I 0), .c (.r (.slice none 0 0) [])], .box [.c (I g.st), .c (I (X0 * g.st)), .c (I (Y0 * g.st)), .o 4 0 (rowsB L X0 Y0 W i).length c], .box [.c (I X0), .c (I Y0)], .box [.c (I X1), .c (I Y1)], .arr 9 1 c (tR (rowsB L X0 Y0 W i))]) ?_ ?_
 ·refine zh [some 0, some 1, some 2, some 3, none] (fun _ => [(0, gV pv v g), (2, .p 0 0 0), (4, .p 1 0 0), (5, .p 2 0 0), (6, .p 3 0 0), (8, .c (I (Y0 + (0 : Nat))))]) (fun _ => [.box [.c (I 0), .c (I 0), .c (I 0), .c (.r (.slice none 0 0) [])], .box [.c (I g.st), .c (I (X0 * g.st)), .c (I (Y0 * g.st)), .o 4 0 (rowsB L X0 Y0 W 0).length 0], .box [.c (I X0), .c (I Y0)], .box [.c (I X1), .c (I Y1)], .arr 9 1 0 (tR (rowsB L X0 Y0 W 0))]) (by decide) (ZNL hE) ZCF ZCH (fun _ => ?_)
  exact ⟨N, 0, 0, by omega, by omega, rfl, rfl⟩
 rintro m F H ⟨i, c, hi, hic, rfl, rfl⟩
 refine WA ?_
 refine zl rfl (fun hlt => ?_) (fun hge => ?_)
 ·refine ZR ?_
  refine zf rfl (ef_alloct (z := .agg #[.pointer none, .slice none 0 0]) (vs := [.pointer none, .slice none 0 0]) rfl rfl (by decide) (by kernel_rfl) rfl rfl) ?_
  rintro _ _ ⟨rfl, rfl⟩
  refine WE ?_
  refine WA ?_
  refine zk (fun m2 F H => ∃ (k c2 : Nat) (A : AV), m2 + k = W ∧ k ≤ c2 ∧ (A = pnil ∧ k = 0 ∨ A = .p 5 0 0) ∧ F = [(0, gV pv v g), (2, .p 0 0 0), (4, .p 1 0 0), (5, .p 2 0 0), (6, .p 3 0 0), (8, .c (I (Y0 + (i : Nat)))), (9, .p 5 0 0), (10, .c (I (X0 + (k : Nat))))] ∧ H = [.box [.c (I 0), .c (I 0), .c (I 0), .c (.r (.slice none 0 0) [])], .box [.c (I g.st), .c (I (X0 * g.st)), .c (I (Y0 * g.st)), .o 4 0 (rowsB L X0 Y0 W i).length c], .box [.c (I X0), .c (I Y0)], .box [.c (I X1), .c (I Y1)], .arr 9 1 c (tR (rowsB L X0 Y0 W i)), .boxt 203 [A, .o 6 0 (rowB L X0 (Y0 + (i : Nat)) (k)).length c2], bldA c2 (rowB L X0 (Y0 + (i : Nat)) (k))]) ?_ ?_
  ·refine zh [some 0, some 1, some 2, some 3, some 4, some 5, none] (fun _ => [(0, gV pv v g), (2, .p 0 0 0), (4, .p 1 0 0), (5, .p 2 0 0), (6, .p 3 0 0), (8, .c (I (Y0 + (i : Nat)))), (9, .p 5 0 0), (10, .c (I (X0 + (0 : Nat))))]) (fun _ => [.box [.c (I 0), .c (I 0), .c (I 0), .c (.r (.slice none 0 0) [])], .box [.c (I g.st), .c (I (X0 * g.st)), .c (I (Y0 * g.st)), .o 4 0 (rowsB L X0 Y0 W i).length c], .box [.c (I X0), .c (I Y0)], .box [.c (I X1), .c (I Y1)], .arr 9 1 c (tR (rowsB L X0 Y0 W i)), .boxt 203 [pnil, .o 6 0 (rowB L X0 (Y0 + (i : Nat)) (0)).length 0], bldA 0 (rowB L X0 (Y0 + (i : Nat)) (0))]) (by decide) (ZNL hE) ZCF ZCH (fun _ => ?_)
   exact ⟨W, 0, 0, pnil, by omega, by omega, .inl ⟨rfl, rfl⟩, rfl, rfl⟩
  rintro m2 F H ⟨k, c2, A, hk, hkc, hA, rfl, rfl⟩
  have hrs := rowB_succ L X0 (Y0 + (i : Nat)) k
  have hrl := rowB_len L X0 (Y0 + (i : Nat)) k
  have hat1 := hat (X0 + (k : Nat)) (Y0 + (i : Nat))
  generalize hr : rowB L X0 (Y0 + (i : Nat)) k = r at *
  refine WA ?_
  refine zl rfl (fun hlt2 => ?_) (fun hge2 => ?_)
  ·have hcv : ∃ A', (A' = pnil ∨ A' = .p 0 0 0) ∧ ∀ g' : AV → Value, CvH g' [some 5, some 6] [.box [.c (I 0), .c (I 0), .c (I 0), .c (.r (.slice none 0 0) [])], .box [.c (I g.st), .c (I (X0 * g.st)), .c (I (Y0 * g.st)), .o 4 0 (rowsB L X0 Y0 W i).length c], .box [.c (I X0), .c (I Y0)], .box [.c (I X1), .c (I Y1)], .arr 9 1 c (tR (rowsB L X0 Y0 W i)), .boxt 203 [A, .o 6 0 r.length c2], bldA c2 r] false [some 5, some 6] [bldB A' 1 r.length c2, bldA c2 r] := by
    rcases hA with ⟨rfl, _⟩ | rfl
    ·exact ⟨pnil, .inl rfl, fun _ => .oth rfl (.boxt (.cons (.c rfl) (.cons (.o rfl rfl) .nil))) (.arr rfl rfl .nil)⟩
    ·exact ⟨.p 0 0 0, .inr rfl, fun _ => .oth rfl (.boxt (.cons (.p rfl) (.cons (.o rfl rfl) .nil))) (.arr rfl rfl .nil)⟩
   obtain ⟨A', hA', hcv⟩ := hcv
   by_cases hin : (X0 + (k : Nat), Y0 + (i : Nat)) ∈ L
   ·rw [decide_eq_true hin] at hat1
    rw [if_pos hin] at hrs
    refine WR ?_
    refine zf rfl (za false (fun _ => at_v g pv v (X0 + (k : Nat)) (Y0 + (i : Nat)) hg (by omega) (by omega)) rfl .fn rfl (by decide) (by kernel_rfl) rfl (fun _ => C0 rfl) (by simp)) ?_
    rintro _ _ ⟨_, _, _, ⟨rfl, rfl⟩, hF, hH⟩
    rw [hat1] at hF
    (refine NST hF hH ?_; clear hF hH; rintro rfl rfl)
    refine WE ?_
    refine zb rfl ?_
    refine ZR ?_
    refine zf rfl (zD [5, 6] (fun _ => [bldB A' 1 r.length c2, bldA c2 r]) false (fun _ => writebyte_v A' c2 r 35 hA' (by omega)) rfl .fn rfl (by decide) (by kernel_rfl) rfl (fun _ => .cons (.p rfl) (.cons (.c rfl) .nil)) (by decide) hcv (by simp)) ?_
    rintro F1 H1 ⟨_, _, _, _, ⟨c3, rfl, rfl, hc3⟩, hF, hH⟩
    (refine NSU hF hH ?_; clear hF hH; rintro rfl rfl)
    refine WE ?_
    refine WA ?_
    refine zh [some 0, some 1, some 2, some 3, some 4, some 5, some 6] (fun _ => [(0, gV pv v g), (2, .p 0 0 0), (4, .p 1 0 0), (5, .p 2 0 0), (6, .p 3 0 0), (8, .c (I (Y0 + (i : Nat)))), (9, .p 5 0 0), (10, .c (I (X0 + (k + 1 : Nat))))]) (fun _ => [.box [.c (I 0), .c (I 0), .c (I 0), .c (.r (.slice none 0 0) [])], .box [.c (I g.st), .c (I (X0 * g.st)), .c (I (Y0 * g.st)), .o 4 0 (rowsB L X0 Y0 W i).length c], .box [.c (I X0), .c (I Y0)], .box [.c (I X1), .c (I Y1)], .arr 9 1 c (tR (rowsB L X0 Y0 W i)), .boxt 203 [.p 5 0 0, .o 6 0 (r ++ [35]).length c3], bldA c3 (r ++ [35])]) (by decide) (ZNL hE) ZCF ZCH (fun _ => ?_)
    have hl3 : k + 1 ≤ c3 := by rw [List.length_append, hrl] at hc3; exact hc3
    exact ⟨m2 - 1, by omega, k + 1, c3, .p 5 0 0, by omega, hl3, .inr rfl, rfl, by rw [hrs]⟩
   ·rw [decide_eq_false hin] at hat1
    rw [if_neg hin] at hrs
    refine WR ?_
    refine zf rfl (za false (fun _ => at_v g pv v (X0 + (k : Nat)) (Y0 + (i : Nat)) hg (by omega) (by omega)) rfl .fn rfl (by decide) (by kernel_rfl) rfl (fun _ => C0 rfl) (by simp)) ?_
    rintro _ _ ⟨_, _, _, ⟨rfl, rfl⟩, hF, hH⟩
    rw [hat1] at hF
    (refine NST hF hH ?_; clear hF hH; rintro rfl rfl)
    refine WE ?_
    refine zd rfl ?_
    refine ZR ?_
    refine zf rfl (zD [5, 6] (fun _ => [bldB A' 1 r.length c2, bldA c2 r]) false (fun _ => writebyte_v A' c2 r 46 hA' (by omega)) rfl .fn rfl (by decide) (by kernel_rfl) rfl (fun _ => .cons (.p rfl) (.cons (.c rfl) .nil)) (by decide) hcv (by simp)) ?_
    rintro F1 H1 ⟨_, _, _, _, ⟨c3, rfl, rfl, hc3⟩, hF, hH⟩
    (refine NSU hF hH ?_; clear hF hH; rintro rfl rfl)
    refine WE ?_
    refine WA ?_
    refine zh [some 0, some 1, some 2, some 3, some 4, some 5, some 6] (fun _ => [(0, gV pv v g), (2, .p 0 0 0), (4, .p 1 0 0), (5, .p 2 0 0), (6, .p 3 0 0), (8, .c (I (Y0 + (i : Nat)))), (9, .p 5 0 0), (10, .c (I (X0 + (k + 1 : Nat))))]) (fun _ => [.box [.c (I 0), .c (I 0), .c (I 0), .c (.r (.slice none 0 0) [])], .box [.c (I g.st), .c (I (X0 * g.st)), .c (I (Y0 * g.st)), .o 4 0 (rowsB L X0 Y0 W i).length c], .box [.c (I X0), .c (I Y0)], .box [.c (I X1), .c (I Y1)], .arr 9 1 c (tR (rowsB L X0 Y0 W i)), .boxt 203 [.p 5 0 0, .o 6 0 (r ++ [46]).length c3], bldA c3 (r ++ [46])]) (by decide) (ZNL hE) ZCF ZCH (fun _ => ?_)
    have hl3 : k + 1 ≤ c3 := by rw [List.length_append, hrl] at hc3; exact hc3
    exact ⟨m2 - 1, by omega, k + 1, c3, .p 5 0 0, by omega, hl3, .inr rfl, rfl, by rw [hrs]⟩
  obtain rfl : k = W := by omega
  obtain ⟨rfl, hk0⟩ | rfl := hA
  ·omega
  have hr0 : 0 < r.length := by omega
  have hc2 : r.length ≤ c2 := by omega
  have hsn := rowsB_succ L X0 Y0 k i
  have hsl := rowsB_len L X0 Y0 k i
  rw [hr] at hsn
  generalize hRr : rowsB L X0 Y0 k i = R at *
  refine ZZ ?_
  refine zg [(0, none), (1, none), (2, some [0, 1]), (3, some [0, 1]), (4, some []), (5, none), (6, some [])] zn (by kernel_rfl) ?_
  refine WP ?_
  refine zY rfl rfl (zD [5, 6] (fun _ => [bldB (.p 0 0 0) 1 r.length c2, bldA c2 r]) false (fun _ => bstring_v (.p 0 0 0) c2 r hr0 (by omega) hc2 rfl) rfl .fn rfl (by decide) (by kernel_rfl) rfl (fun _ => .cons (.p rfl) .nil) (by decide) (fun _ => .oth rfl (.boxt (.cons (.p rfl) (.cons (.o rfl rfl) .nil))) (.arr rfl rfl .nil)) (by simp)) ?_
  rintro F1 H1 ⟨_, _, _, _, ⟨rfl, z, rfl⟩, hF, hH⟩
  (refine NSU hF hH ?_; clear hF hH; rintro rfl rfl)
  refine ⟨zj (by first | exact zu rfl rfl rfl (ZX (KF (t := 28) (f := 3) rfl rfl)) rfl) (zj (by first | exact zu rfl rfl rfl (ZL (KK (t := 26) rfl)) rfl) (zm)), ?_⟩
  refine WP ?_
  refine zY rfl rfl (Zapp (KA (t := 26) rfl)) ?_
  rintro _ _ ⟨_, cc, hcc, rfl, rfl⟩
  refine ⟨zm, ?_⟩
  refine WQ ?_
  refine WA ?_
  refine zh [some 0, some 1, some 2, some 3, some 4] (fun _ => [(0, gV pv v g), (2, .p 0 0 0), (4, .p 1 0 0), (5, .p 2 0 0), (6, .p 3 0 0), (8, .c (I (Y0 + (i + 1 : Nat))))]) (fun _ => [.box [.c (I 0), .c (I 0), .c (I 0), .c (.r (.slice none 0 0) [])], .box [.c (I g.st), .c (I (X0 * g.st)), .c (I (Y0 * g.st)), .o 4 0 (R ++ [r]).length cc], .box [.c (I X0), .c (I Y0)], .box [.c (I X1), .c (I Y1)], .arr 9 1 cc (tR (R ++ [r]))]) (by decide) (ZNL hE) ZCF ZCH (fun _ => ?_)
  exact ⟨m - 1, by omega, i + 1, cc, by omega, by omega, rfl, by rw [hsn]⟩
 obtain rfl : i = N := by omega
 have hRl : ∀ r ∈ rowsB L X0 Y0 W i, r.length ≤ 1000000000 := fun r hr => by
  obtain ⟨j, _, rfl⟩ := List.mem_map.1 hr
  rw [rowB_len]; omega
 have hsl := rowsB_len L X0 Y0 W i
 generalize hRr : rowsB L X0 Y0 W i = R at *
 refine ZZ ?_
 refine WR ?_
 refine zf rfl (za true (fun g' => check_v (g' (.o 4 0 R.length c)) ⟨g.st, X0 * g.st, Y0 * g.st, R⟩ (by simp only; omega) hRl) rfl .fn rfl (by decide) (by kernel_rfl) rfl (fun _ => .cons (.aL (.cons (.c rfl) (.cons (.c rfl) (.cons (.c rfl) (.cons (.frz rfl rfl (by rw [List.drop_zero, List.take_of_length_le (by simp)]) (by simp) rfl) .nil))))) .nil) (fun _ _ _ _ ⟨hu, hH⟩ => by rw [hu, hH]; exact ⟨.c (.inl trivial), by simp⟩)) ?_
 rintro _ _ ⟨_, _, _, ⟨rfl, rfl⟩, hF, hH⟩
 (refine NST hF hH ?_; clear hF hH; rintro rfl rfl)
 refine WE ?_
 generalize hq : celF ⟨g.st, X0 * g.st, Y0 * g.st, R⟩ = q at *
 refine WA ?_
 refine zl rfl (fun h9 => ?_) (fun h9 => ?_)
 ·refine WA ?_
  exact zq (us := [.a [.c (I 0), .c (I 0), .c (I 0), .c (.r (.slice none 0 0) [])], .c (I (q))]) [] (fun g' => .t [.a [.c (I 0), .c (I 0), .c (I 0), .c (.r (.slice none 0 0) [])], .c (I (q))]) (fun _ => []) (.cella (n := 4) rfl (by kernel_rfl) (Cells.box rfl) (by simp) (by (try simp only [nm, putL, Nat.reduceAdd, cellsOf, cvOf]) <;> rfl) (.tmp rfl .nil)) (by decide) (fun i hi => absurd hi (Nat.not_lt_zero i)) (fun g' => .tL (.cons (.aL (.cons (.c rfl) (.cons (.c rfl) (.cons (.c rfl) (.cons (.c rfl) .nil))))) (.cons (.c rfl) .nil))) (fun _ => .nil) (fun g' => ⟨.slice none 0 0, by rw [if_pos h9]; rfl, rfl⟩)
 ·refine ZZ ?_
  refine WA ?_
  exact zq (us := [.a [.c (I g.st), .c (I (X0 * g.st)), .c (I (Y0 * g.st)), .o 4 0 R.length c], .c (I (0))]) [] (fun g' => .t [.a [.c (I g.st), .c (I (X0 * g.st)), .c (I (Y0 * g.st)), .c (.r (g' (.o 4 0 R.length c)) (tR R))], .c (I (0))]) (fun _ => []) (.cella (n := 4) rfl (by kernel_rfl) (Cells.box rfl) (by simp) (by (try simp only [nm, putL, Nat.reduceAdd, cellsOf, cvOf]) <;> rfl) (.tmp rfl .nil)) (by decide) (fun i hi => absurd hi (Nat.not_lt_zero i)) (fun g' => .tL (.cons (.aL (.cons (.c rfl) (.cons (.c rfl) (.cons (.c rfl) (.cons (.frz rfl rfl (by rw [List.drop_zero, List.take_of_length_le (by simp)]) (by simp) rfl) .nil))))) (.cons (.c rfl) .nil))) (fun _ => .nil) (fun g' => ⟨g' (.o 4 0 R.length c), by rw [if_neg h9], rfl⟩)
end Go.Proofs.YtfilfijammemfaaGreatDoor
-- NEWM
namespace Go.Proofs.YtfilfijammemfaaGreatDoor
open Go Go.RowKit
set_option maxRecDepth 100000
theorem zO {P : Program} {N : Nat} {E : Env} {F : Fm} {H : List OB} {o : Oper} {t : TypeId} {x : Operand} {v : Value} {row : List CV} {y : CV} (ho : o.op = .load t x) (ht : ldk P t = some none) (hx : ev F x = some (.c (.p v row))) (hn : row[0]? = some y) : Rd P N E o F H (.c y) := fun S ρ a w hR => by
 obtain ⟨h1, h2⟩ := hR.ev hx
 cases h2 with
 | c g =>
  cases g with
  | p row B off hS hcell hg =>
   have h3 := hcell 0 y hn
   rw [Nat.add_zero] at h3
   refine ⟨?_, .c (hg y (List.mem_of_getElem? hn))⟩
   simp [execOp, ho, h1, AV.den, CV.den, Instr.loadAt, Instr.sureAddr, loadVar, (ldk_none (w := w) ht).1, h3]
theorem spt_ix {g : Grd} {k : Nat} (h : 1 ≤ (g.w : Int)) {a b : Int} (ha : a = g.x + (k : Int) % g.w) (hb : b = g.y + (k : Int) / g.w) : (b - g.y) * (g.w : Int) + a - g.x = k := by
 have := Int.mul_ediv_add_emod k g.w
 rw [ha, hb, show g.y + (k : Int) / g.w - g.y = (k : Int) / g.w by omega, Int.mul_comm]
 omega
set_option maxHeartbeats 1000000 in
theorem chosen1_v (fn : FuncId) (fv : Fn) (e : CV) (A : List AV → List AV) (p : Spot → Bool) (hfn : okFn Tryz.prog fn = true) (hcal : ∀ (F : Fm) (x : Operand) (vs : List AV), ev F x = some (.f fv [.c e]) → Callee' F x fn vs (A vs)) (hA : ∀ a b : Int, AV.cloL (A [.c (I a), .c (I b)]) = true) (hp : ∀ a b : Int, (-20000000 ≤ a ∧ a ≤ 20000000) → (-20000000 ≤ b ∧ b ≤ 20000000) → ACalls Tryz.prog fn (A [.c (I a), .c (I b)]) [] fun u H => u = .c (B (p (a, b))) ∧ H = []) (g : Grd) (hg : GOk g) (on : List Bool) (k : Nat) (hk : k < g.on.length) (hon : on.length = g.w * g.h) (a b : Int) (ha : a = g.x + (k : Int) % g.w) (hb : b = g.y + (k : Int) / g.w) : ACalls Tryz.prog 121 [.c (I a), .c (I b), .p 0 0 0, .p 1 0 0] [.box [.f fv [.c e]], .box [.p 2 0 0], gB g.st g.x g.y g.w g.h 3 (g.w * g.h), gArr (g.w * g.h) on] fun u H => u = .t [] ∧ H = [.box [.f fv [.c e]], .box [.p 2 0 0], gB g.st g.x g.y g.w g.h 3 (g.w * g.h), gArr (g.w * g.h) (if p (a, b) = true then on.set k true else on)] := by
 obtain ⟨w1, ⟨w2, w3⟩, w4, w5⟩ := each_at hg hk
 have hgx := hg.x
 have hgy := hg.y
 have hi := spt_ix w1 ha hb
 have hnb : g.w * g.h ≤ 1000000 := Nat.le_trans (Nat.mul_le_mul hg.w hg.h) (by decide)
 have hkn : k < g.w * g.h := by rw [← hg.len]; exact hk
 obtain ⟨q, hq⟩ : ∃ q, p (a, b) = q := ⟨_, rfl⟩
 rw [hq]
 refine zK false (N := 14) Tryz.func121 rfl rfl (by simp) fun E hE hP => ?_
 cases q with
 | true =>
  refine WR ?_
  refine zf rfl (za false (fun _ => hp a b (by omega) (by omega)) rfl (hcal _ _ _ rfl) rfl (by decide) hfn rfl (fun _ => C0 (hA a b)) (by simp)) ?_
  rintro _ _ ⟨_, _, _, ⟨rfl, rfl⟩, hF, hH⟩
  rw [hq] at hF
  (refine NST hF hH ?_; clear hF hH; rintro rfl rfl)
  refine WE ?_
  refine zb rfl ?_
  refine WR ?_
  refine zf rfl (zb1 [2, 3] (fun _ => [gB g.st g.x g.y g.w g.h 1 (g.w * g.h), gArr (g.w * g.h) on]) false (fun _ => set_v g.st g.x g.y g.w g.h on (g.w * g.h) a b k hon hi (by omega) hnb (by omega) (by omega) hgx hgy) rfl .fn rfl (by decide) (by kernel_rfl) rfl (fun _ => .cons (.p rfl) (.cons (.c rfl) (.cons (.c rfl) .nil))) (by decide) ZCH (by simp)) ?_
  rintro F1 H1 ⟨_, _, _, _, ⟨rfl, rfl⟩, hF, hH⟩
  rw [zI] at hF; (refine NSU hF hH ?_; clear hF hH; rintro rfl rfl)
  refine WE ?_
  exact zF1 [some 0, some 1, some 2, some 3] (fun _ => [.box [.f fv [.c e]], .box [.p 2 0 0], gB g.st g.x g.y g.w g.h 3 (g.w * g.h), gArr (g.w * g.h) (on.set k true)]) (.inr rfl) rfl (by decide) (ZNK rfl) ZCH (fun _ => ⟨rfl, rfl⟩)
 | false =>
  refine WR ?_
  refine zf rfl (za false (fun _ => hp a b (by omega) (by omega)) rfl (hcal _ _ _ rfl) rfl (by decide) hfn rfl (fun _ => C0 (hA a b)) (by simp)) ?_
  rintro _ _ ⟨_, _, _, ⟨rfl, rfl⟩, hF, hH⟩
  rw [hq] at hF
  (refine NST hF hH ?_; clear hF hH; rintro rfl rfl)
  refine WE ?_
  refine zd rfl ?_
  refine ZZ ?_
  exact zF1 [some 0, some 1, some 2, some 3] (fun _ => [.box [.f fv [.c e]], .box [.p 2 0 0], gB g.st g.x g.y g.w g.h 3 (g.w * g.h), gArr (g.w * g.h) on]) (.inr rfl) rfl (by decide) (ZNK rfl) ZCH (fun _ => ⟨rfl, rfl⟩)
end Go.Proofs.YtfilfijammemfaaGreatDoor
-- NEWM
namespace Go.Proofs.YtfilfijammemfaaGreatDoor
open Go Go.RowKit
set_option maxRecDepth 100000
theorem filK_next {g : Grd} {p : Spot → Bool} {k : Nat} {b : Bool} (h : g.on[k]? = some b) : filK g p (k + 1) = if (b && p (spt g k)) = true then (filK g p k).set k true else filK g p k := by
 have hk := (List.getElem?_eq_some_iff.1 h).1
 have hd : g.on.getD k false = b := by rw [List.getD_eq_getElem?_getD, h]; rfl
 split
 ·rename_i hy; exact filK_yes hk (by rw [hd]; exact hy)
 ·rename_i hn; exact filK_no hk (by rw [hd]; simpa using hn)
set_option maxHeartbeats 1000000 in
theorem each_chosen (g : Grd) (pv v : Value) (fn : FuncId) (fv : Fn) (e : CV) (A : List AV → List AV) (p : Spot → Bool) (hfn : okFn Tryz.prog fn = true) (hcal : ∀ (F : Fm) (x : Operand) (vs : List AV), ev F x = some (.f fv [.c e]) → Callee' F x fn vs (A vs)) (hA : ∀ a b : Int, AV.cloL (A [.c (I a), .c (I b)]) = true) (hp : ∀ a b : Int, (-20000000 ≤ a ∧ a ≤ 20000000) → (-20000000 ≤ b ∧ b ≤ 20000000) → ACalls Tryz.prog fn (A [.c (I a), .c (I b)]) [] fun u H => u = .c (B (p (a, b))) ∧ H = []) (hg : GOk g)  : ACalls Tryz.prog 78 [gV pv v g, .f (.func 121) [.p 0 0 0, .p 1 0 0]] [.box [.f fv [.c e]], .box [.p 2 0 0], gB g.st g.x g.y g.w g.h 3 (g.w * g.h), gArr (g.w * g.h) (filK g p 0)] fun u H => u = .t [] ∧ H = [.box [.f fv [.c e]], .box [.p 2 0 0], gB g.st g.x g.y g.w g.h 3 (g.w * g.h), gArr (g.w * g.h) ((filG g p).on)] := by
 have hn := hg.n
 have hgx := hg.x
 have hgy := hg.y
 have eo : (oR g.on).length = g.on.length := by simp
 refine zK false (N := 42) Tryz.func78 rfl rfl (by simp) fun E hE hP => ?_
 refine WA ?_
 refine zk (fun m F H => ∃ k : Nat, m + k = g.on.length ∧ F = [(0, gV pv v g), (1, .f (.func 121) [.p 0 0 0, .p 1 0 0]), (9, .c (.r v (oR g.on))), (10, .c (I (oR g.on).length)), (11, .c (I k))] ∧ H = [.box [.f fv [.c e]], .box [.p 2 0 0], gB g.st g.x g.y g.w g.h 3 (g.w * g.h), gArr (g.w * g.h) (filK g p k)]) ?_ ?_
 ·refine zh [some 0, some 1, some 2, some 3] (fun _ => [(0, gV pv v g), (1, .f (.func 121) [.p 0 0 0, .p 1 0 0]), (9, .c (.r v (oR g.on))), (10, .c (I (oR g.on).length)), (11, .c (I (0 : Nat)))]) (fun _ => [.box [.f fv [.c e]], .box [.p 2 0 0], gB g.st g.x g.y g.w g.h 3 (g.w * g.h), gArr (g.w * g.h) (filK g p 0)]) (by decide) (ZNL hE) ZCF ZCH (fun _ => ?_)
  exact ⟨g.on.length, 0, by omega, rfl, rfl⟩
 rintro m F H ⟨k, hk, rfl, rfl⟩
 refine WA ?_
 refine zl rfl (fun hlt => ?_) (fun hge => ?_)
 ·have hkn : k < g.on.length := by omega
  obtain ⟨b, hb⟩ : ∃ b, g.on[k]? = some b := ⟨_, List.getElem?_eq_getElem hkn⟩
  have hrow : (oR g.on)[k]? = some [B b] := by rw [List.getElem?_map, hb]; rfl
  obtain ⟨w1, ⟨w2, w3⟩, w4, w5⟩ := each_at hg hkn
  refine WA ?_
  refine WA ?_
  cases b with
  | true =>
   refine zb rfl ?_
   have hnx : filK g p (k + 1) = if p (spt g k) = true then (filK g p k).set k true else filK g p k := by rw [filK_next hb, Bool.true_and]
   refine ZZ ?_
   refine zg [(0, none), (1, none), (2, none), (3, none), (4, none), (5, none), (6, none), (7, none), (8, none), (9, none), (10, none), (11, none), (12, none), (13, none), (14, none), (15, none), (16, none), (17, none), (18, none), (19, none), (20, none), (21, none), (22, none), (23, some [])] zn (by kernel_rfl) ?_
   refine WP ?_
   refine zY rfl rfl (zD [0, 1, 2, 3] (fun _ => [.box [.f fv [.c e]], .box [.p 2 0 0], gB g.st g.x g.y g.w g.h 3 (g.w * g.h), gArr (g.w * g.h) (filK g p k)]) false (fun _ => chosen1_v fn fv e A p hfn hcal hA hp g hg (filK g p k) k hkn (by rw [filK_len (by omega)]; exact hg.len) _ _ rfl rfl) rfl (.clo rfl) rfl (by decide) (by kernel_rfl) rfl ZCH (by decide) ZCH (by simp)) ?_
   rintro F1 H1 ⟨_, _, _, _, ⟨rfl, rfl⟩, hF, hH⟩
   rw [spt_eq, ← hnx] at hH
   (refine NSU hF hH ?_; clear hF hH; rintro rfl rfl)
   refine ⟨zm, ?_⟩
   refine WQ ?_
   refine WA ?_
   refine zh [some 0, some 1, some 2, some 3] (fun _ => [(0, gV pv v g), (1, .f (.func 121) [.p 0 0 0, .p 1 0 0]), (9, .c (.r v (oR g.on))), (10, .c (I (oR g.on).length)), (11, .c (I (k + 1 : Nat)))]) (fun _ => [.box [.f fv [.c e]], .box [.p 2 0 0], gB g.st g.x g.y g.w g.h 3 (g.w * g.h), gArr (g.w * g.h) (filK g p (k + 1))]) (by decide) (ZNL hE) ZCF ZCH (fun _ => ?_)
   exact ⟨m - 1, by omega, k + 1, by omega, rfl, rfl⟩
  | false =>
   refine zd rfl ?_
   refine ZZ ?_
   refine WA ?_
   refine zh [some 0, some 1, some 2, some 3] (fun _ => [(0, gV pv v g), (1, .f (.func 121) [.p 0 0 0, .p 1 0 0]), (9, .c (.r v (oR g.on))), (10, .c (I (oR g.on).length)), (11, .c (I (k + 1 : Nat)))]) (fun _ => [.box [.f fv [.c e]], .box [.p 2 0 0], gB g.st g.x g.y g.w g.h 3 (g.w * g.h), gArr (g.w * g.h) (filK g p (k + 1))]) (by decide) (ZNL hE) ZCF (by rw [show filK g p (k + 1) = filK g p k by rw [filK_next hb, if_neg (by simp)]]; exact ZCH) (fun _ => ?_)
   exact ⟨m - 1, by omega, k + 1, by omega, rfl, rfl⟩
 obtain rfl : k = g.on.length := by omega
 refine ZZ ?_
 rw [filK_end]
 exact zF1 [some 0, some 1, some 2, some 3] (fun _ => [.box [.f fv [.c e]], .box [.p 2 0 0], gB g.st g.x g.y g.w g.h 3 (g.w * g.h), gArr (g.w * g.h) ((filG g p).on)]) (.inr rfl) rfl (by decide) (ZNK rfl) ZCH (fun _ => ⟨rfl, rfl⟩)
end Go.Proofs.YtfilfijammemfaaGreatDoor
-- NEWM
namespace Go.Proofs.YtfilfijammemfaaGreatDoor
open Go Go.RowKit
set_option maxRecDepth 100000
theorem frzpL {g : AV → Value} {m : List (Option Nat)} {H : List OB} {b : Nat} {l : List AV} {row : List CV} (h : H[b]? = some (.box l)) (hm : m.contains (some b) = false) (hc : CvL g m H true l (row.map .c)) : Cvt g m H true (.p b 0 0) (.c (.p (g (.p b 0 0)) row)) :=
 .frzp rfl h (by have := hc.both.1; simpa using this) (fun i x u hx hu => hc.both.2 i x (.c u) hx (by rw [List.getElem?_map, hu]; rfl)) hm
theorem frzG {f : AV → Value} {m : List (Option Nat)} {H : List OB} {b k n : Nat} {g : Grd} (h : H[b]? = some (gB g.st g.x g.y g.w g.h k n)) (ha : H[k]? = some (gArr n g.on)) (hn : g.on.length = n) (hm : m.contains (some b) = false) (hk : m.contains (some k) = false) : Cvt f m H true (.p b 0 0) (gV (f (.p b 0 0)) (f (.o k 0 n n)) g) :=
 frzpL h hm (.cons (.c rfl) (.cons (.c rfl) (.cons (.c rfl) (.cons (.c rfl) (.cons (.c rfl) (.cons (.frz rfl ha (by rw [← hn, oR_take]) (by rw [List.length_map]; exact hn) hk) .nil))))))
theorem filG_ok {g : Grd} (hg : GOk g) (p : Spot → Bool) : GOk (filG g p) := by
 have hl : (filG g p).on.length = g.on.length := by simp [filG]
 exact ⟨by rw [hl]; exact hg.len, hg.w, hg.h, hg.x, hg.y⟩
set_option maxHeartbeats 2000000 in
theorem chosen_v (fn : FuncId) (fv : Fn) (e : CV) (A : List AV → List AV) (p : Spot → Bool) (hfn : okFn Tryz.prog fn = true) (hcal : ∀ (F : Fm) (x : Operand) (vs : List AV), ev F x = some (.f fv [.c e]) → Callee' F x fn vs (A vs)) (hA : ∀ a b : Int, AV.cloL (A [.c (I a), .c (I b)]) = true) (hp : ∀ a b : Int, (-20000000 ≤ a ∧ a ≤ 20000000) → (-20000000 ≤ b ∧ b ≤ 20000000) → ACalls Tryz.prog fn (A [.c (I a), .c (I b)]) [] fun u H => u = .c (B (p (a, b))) ∧ H = []) (g : Grd) (pv v : Value) (hg : GOk g) (hst : 0 ≤ g.st ∧ g.st ≤ 10000) : ACalls Tryz.prog 80 [gV pv v g, .f fv [.c e]] [] fun u H => ∃ v', u = .t [celA v' (normC g.st (covG (filG g p))).1, .c (I (normC g.st (covG (filG g p))).2)] ∧ H = [] := by
 have hgx := hg.x
 have hgy := hg.y
 have hgw := hg.w
 have hgh := hg.h
 refine ze (N := 35) Tryz.func80 rfl rfl (by simp) fun E hE => ?_
 refine WA ?_
 refine aw_cut (fun F H => F = [(0, gV pv v g), (3, .p 0 0 0), (4, .p 1 0 0), (6, .p 4 0 0)] ∧ H = [.box [.f fv [.c e]], .box [.c (I 0), .c (I 0), .c (I 0), .c (.r (.slice none 0 0) [])], gB g.st g.x g.y g.w g.h 3 (g.w * g.h), gArr (g.w * g.h) (filK g p 0), .box [.p 2 0 0]]) ?_ ?_ wk_aw
 ·have hf0 : filK g p 0 = List.replicate (g.w * g.h) false := by rw [filK_0, hg.len]
  refine ZZ ?_
  refine aw_regionM [[(0, none), (1, none), (2, none), (3, none), (4, none), (5, none), (6, none), (7, none), (8, none), (9, none), (10, none), (11, none), (12, none), (13, none), (14, none), (15, none), (16, none), (17, none), (18, none), (19, none), (20, some []), (21, some [0, 1, 2, 3, 4, 5, 6, 7, 8, 9, 10, 11, 12, 13, 14, 15, 16, 17, 18, 19]), (22, some [])], [(0, none), (1, none), (2, none), (3, none), (4, none), (5, none), (6, none), (7, none), (8, none), (9, none), (10, none), (11, none), (12, none), (13, none), (14, none), (15, none), (16, none), (17, none), (18, none), (19, none), (21, some [0, 1, 2, 3, 4, 5, 6, 7, 8, 9, 10, 11, 12, 13, 14, 15, 16, 17, 18, 19]), (20, some []), (22, some [])]] zn (by kernel_rfl) ?_
  focus
   refine WM ?_
   refine am_two (by rfl) (by rfl) (by rfl) ?_ ?_
   rotate_left
   refine WM ?_
   refine zW1 (i := 20) (by rfl) (by rfl) rfl rfl (za false (fun _ => zV1 g.st g.x g.y g.w g.h hg.w hg.h) rfl .fn rfl (by decide) (by kernel_rfl) rfl (fun _ => C0 rfl) (by simp)) ?_
   rintro _ _ ⟨_, _, _, ⟨rfl, rfl⟩, hF, hH⟩
   (refine NST hF hH ?_; clear hF hH; rintro rfl rfl)
   refine ⟨AGX, ?_⟩
   refine WN ?_
   rotate_right
   refine zW1 (i := 20) (by rfl) (by rfl) rfl rfl (za false (fun _ => zV1 g.st g.x g.y g.w g.h hg.w hg.h) rfl .fn rfl (by decide) (by kernel_rfl) rfl (fun _ => C0 rfl) (by simp)) ?_
   rintro _ _ ⟨_, _, _, ⟨rfl, rfl⟩, hF, hH⟩
   (refine NST hF hH ?_; clear hF hH; rintro rfl rfl)
   refine ⟨AGX, ?_⟩
   refine WN ?_
  ·exact zh [some 0, some 1, some 2, some 3, some 4] (fun _ => [(0, gV pv v g), (3, .p 0 0 0), (4, .p 1 0 0), (6, .p 4 0 0)]) (fun _ => [.box [.f fv [.c e]], .box [.c (I 0), .c (I 0), .c (I 0), .c (.r (.slice none 0 0) [])], gB g.st g.x g.y g.w g.h 3 (g.w * g.h), gArr (g.w * g.h) (filK g p 0), .box [.p 2 0 0]]) (by decide) (ZNL hE) ZCF (by rw [hf0]; exact ZCH) (fun _ => ⟨rfl, rfl⟩)
  ·exact zh [some 0, some 1, some 3, some 4, some 2] (fun _ => [(0, gV pv v g), (3, .p 0 0 0), (4, .p 1 0 0), (6, .p 4 0 0)]) (fun _ => [.box [.f fv [.c e]], .box [.c (I 0), .c (I 0), .c (I 0), .c (.r (.slice none 0 0) [])], gB g.st g.x g.y g.w g.h 3 (g.w * g.h), gArr (g.w * g.h) (filK g p 0), .box [.p 2 0 0]]) (by decide) (ZNL hE) ZCF (by rw [hf0]; exact ZCH) (fun _ => ⟨rfl, rfl⟩)
 rintro F H ⟨rfl, rfl⟩
 refine ZZ ?_
 refine WR ?_
 refine zf rfl (zD [0, 4, 2, 3] (fun _ => [.box [.f fv [.c e]], .box [.p 2 0 0], gB g.st g.x g.y g.w g.h 3 (g.w * g.h), gArr (g.w * g.h) (filK g p 0)]) false (fun _ => each_chosen g pv v fn fv e A p hfn hcal hA hp hg) rfl .fn rfl (by decide) (by kernel_rfl) rfl ZCH (by decide) ZCH (by simp)) ?_
 rintro F1 H1 ⟨_, _, _, _, ⟨rfl, rfl⟩, hF, hH⟩
 (refine NSU hF hH ?_; clear hF hH; rintro rfl rfl)
 refine WE ?_
 refine zC1 (zh (K := fun F H => ∃ pv1 v1, F = [(4, .p 0 0 0), (6, .p 1 0 0)] ∧ H = [.box [.c (I 0), .c (I 0), .c (I 0), .c (.r (.slice none 0 0) [])], .box [gV pv1 v1 (filG g p)]]) [some 1, some 4] (fun _ => [(4, .p 0 0 0), (6, .p 1 0 0)]) (fun f => [.box [.c (I 0), .c (I 0), .c (I 0), .c (.r (.slice none 0 0) [])], .box [gV (f (.p 2 0 0)) (f (.o 3 0 (g.w * g.h) (g.w * g.h))) (filG g p)]]) (by decide) (ZNL hE) ZCF (fun _ => .box rfl (C0 rfl) (.box rfl (.cons (frzG rfl rfl (by simp [filG, hg.len]) rfl rfl) .nil) .nil)) (fun _ => ⟨_, _, rfl, rfl⟩)) ?_
 rintro F H ⟨pv1, v1, rfl, rfl⟩
 refine WR ?_
 refine zf rfl (za false (fun _ => cells_v (filG g p) pv1 v1 (filG_ok hg p) hst) rfl .fn rfl (by decide) (by kernel_rfl) rfl (fun _ => C0 rfl) (by simp)) ?_
 rintro _ _ ⟨_, _, _, ⟨v2, rfl, rfl⟩, hF, hH⟩
 (refine NST hF hH ?_; clear hF hH; rintro rfl rfl)
 refine WE ?_
 exact zq (us := [celA v2 (normC g.st (covG (filG g p))).1, .c (I (normC g.st (covG (filG g p))).2)]) [] (fun _ => .t [celA v2 (normC g.st (covG (filG g p))).1, .c (I (normC g.st (covG (filG g p))).2)]) (fun _ => []) (.cella (n := 4) rfl (by kernel_rfl) (Cells.box rfl) (by simp) (by (try simp only [nm, putL, Nat.reduceAdd, cellsOf, cvOf]) <;> rfl) (.tmp rfl .nil)) (by decide) (fun i hi => absurd hi (Nat.not_lt_zero i)) (fun g' => .tL (.cons (.aL (.cons (.c rfl) (.cons (.c rfl) (.cons (.c rfl) (.cons (.c rfl) .nil))))) (.cons (.c rfl) .nil))) (fun _ => .nil) (fun g' => ⟨v2, rfl, rfl⟩)
end Go.Proofs.YtfilfijammemfaaGreatDoor
