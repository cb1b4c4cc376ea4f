/- The reference's fault of cells is the program's: plain. -/
import Derived.Test.YtfilfijammemfaaGreatDoorQax
import Derived.Test.YtfilfijammemfaaGreatDoorQat
set_option linter.unusedSimpArgs false
set_option linter.unusedVariables false
/- The cells of a grid, by value. -/
-- NEWM
namespace Go.Proofs.YtfilfijammemfaaGreatDoor
open Go Go.RowKit
set_option maxRecDepth 100000
theorem spt_bd {g : Grd} (hg : GOk g) {p : Spot} (h : p ∈ covG g) : -10000000 ≤ p.1 ∧ p.1 ≤ 10001000 ∧ -10000000 ≤ p.2 ∧ p.2 ≤ 10001000 := by
 obtain ⟨i, hi, rfl⟩ := covG_mem.1 h
 have hk := (List.getElem?_eq_some_iff.1 hi).1
 obtain ⟨h1, h2, _, _⟩ := each_at hg hk
 have h3 := hg.x
 have h4 := hg.y
 rw [← spt_eq]
 simp only
 omega
theorem x0_bd {g : Grd} (hg : GOk g) (h : covG g ≠ []) : -10000000 ≤ x0 (covG g) ∧ x0 (covG g) ≤ x1 (covG g) ∧ x1 (covG g) ≤ 10001000 ∧ -10000000 ≤ y0 (covG g) ∧ y0 (covG g) ≤ y1 (covG g) ∧ y1 (covG g) ≤ 10001000 := by
 obtain ⟨⟨p1, hp1, e1⟩, ⟨p2, hp2, e2⟩, ⟨p3, hp3, e3⟩, ⟨p4, hp4, e4⟩⟩ := x0_at h
 have b1 := spt_bd hg hp1
 have b2 := spt_bd hg hp2
 have b3 := spt_bd hg hp3
 have b4 := spt_bd hg hp4
 have l1 := (mnL_spec (show cols (covG g) ≠ [] by simpa [cols] using h)).2 p2.1 (List.mem_map_of_mem hp2)
 have l2 := (mnL_spec (show rws (covG g) ≠ [] by simpa [rws] using h)).2 p4.2 (List.mem_map_of_mem hp4)
 have l3 : x0 (covG g) ≤ p2.1 := l1
 have l4 : y0 (covG g) ≤ p4.2 := l2
 omega
theorem rowB_succ (L : List Spot) (x y : Int) (k : Nat) : rowB L x y (k + 1) = rowB L x y k ++ [if (x + (k : Nat), y) ∈ L then 35 else 46] := by
 unfold rowB; rw [List.range_succ, List.map_append]; rfl
def rowsB (L : List Spot) (x y : Int) (w n : Nat) : List (List UInt8) := (List.range n).map fun i => rowB L x (y + (i : Nat)) w
theorem rowsB_succ (L : List Spot) (x y : Int) (w n : Nat) : rowsB L x y w (n + 1) = rowsB L x y w n ++ [rowB L x (y + (n : Nat)) w] := by
 unfold rowsB; rw [List.range_succ, List.map_append]; rfl
theorem rowsB_len (L : List Spot) (x y : Int) (w n : Nat) : (rowsB L x y w n).length = n := by unfold rowsB; simp
set_option maxHeartbeats 2000000 in
theorem cells_v (g : Grd) (pv v : Value) (hg : GOk g) (hst : 0 ≤ g.st ∧ g.st ≤ 10000) : ACalls Tryz.prog 72 [gV pv v g] [] fun u H => ∃ v', u = .t [celA v' (normC g.st (covG g)).1, .c (I (normC g.st (covG g)).2)] ∧ H = [] := by
 by_cases hL : covG g = []
 ·have hem : (!(covG g).isEmpty) = false := by rw [hL]; rfl
  refine acalls_of (N := 92) Tryz.func72 rfl rfl (by simp) fun E hE => ?_
  refine WA ?_
  refine WA ?_
  refine WR ?_
  refine al_ef rfl (ef_call0 false (fun _ => box_v g pv v hg) rfl .fn rfl (by decide) (by kernel_rfl) rfl (fun _ => C0 rfl) (by simp)) ?_
  rintro _ _ ⟨_, _, _, ⟨rfl, rfl⟩, hF, hH⟩
  rw [hem] at hF
  (refine NST hF hH ?_; clear hF hH; rintro rfl rfl)
  refine WE ?_
  refine WA ?_
  refine aw_cond_t rfl ?_
  refine WA ?_
  exact aret_of (us := [.a [.c (I g.st), .c (I 0), .c (I 0), .c (.r (.slice none 0 0) [])], .c (I (0))]) [] (fun g' => .t [.a [.c (I g.st), .c (I 0), .c (I 0), .c (.r (.slice none 0 0) [])], .c (I (0))]) (fun _ => []) (.cella (n := 4) rfl (by kernel_rfl) (Cells.box rfl) (by simp) (by (try simp only [nm, putL, Nat.reduceAdd, cellsOf, cvOf]) <;> rfl) (.tmp rfl .nil)) (by decide) (fun i hi => absurd hi (Nat.not_lt_zero i)) (fun g' => .tL (.cons (.aL (.cons (.c rfl) (.cons (.c rfl) (.cons (.c rfl) (.cons (.c rfl) .nil))))) (.cons (.c rfl) .nil))) (fun _ => .nil) (fun g' => ⟨.slice none 0 0, by rw [normC, if_pos hL]; rfl, rfl⟩)
 have hem : (!(covG g).isEmpty) = true := by cases h : covG g with | nil => exact absurd h hL | cons => rfl
 obtain ⟨d1, d2, d3, d4, d5, d6⟩ := x0_bd hg hL
 have hat := atG_eq hg.len
 have hnc : normC g.st (covG g) = if 199 < x1 (covG g) - x0 (covG g) ∨ 199 < y1 (covG g) - y0 (covG g) then (⟨0, 0, 0, []⟩, 12) else if celF ⟨g.st, x0 (covG g) * g.st, y0 (covG g) * g.st, rowsB (covG g) (x0 (covG g)) (y0 (covG g)) (x1 (covG g) - x0 (covG g) + 1).toNat (y1 (covG g) - y0 (covG g) + 1).toNat⟩ ≠ 0 then (⟨0, 0, 0, []⟩, celF ⟨g.st, x0 (covG g) * g.st, y0 (covG g) * g.st, rowsB (covG g) (x0 (covG g)) (y0 (covG g)) (x1 (covG g) - x0 (covG g) + 1).toNat (y1 (covG g) - y0 (covG g) + 1).toNat⟩) else (⟨g.st, x0 (covG g) * g.st, y0 (covG g) * g.st, rowsB (covG g) (x0 (covG g)) (y0 (covG g)) (x1 (covG g) - x0 (covG g) + 1).toNat (y1 (covG g) - y0 (covG g) + 1).toNat⟩, 0) := by
  rw [normC, if_neg hL]
  have : celN g.st (covG g) = ⟨g.st, x0 (covG g) * g.st, y0 (covG g) * g.st, rowsB (covG g) (x0 (covG g)) (y0 (covG g)) (x1 (covG g) - x0 (covG g) + 1).toNat (y1 (covG g) - y0 (covG g) + 1).toNat⟩ := by rw [celN, if_neg hL]; rfl
  rw [this]
 rw [hnc]
 refine acalls_of (N := 92) Tryz.func72 rfl rfl (by simp) fun E hE => ?_
 refine WA ?_
 refine WA ?_
 refine WR ?_
 refine al_ef rfl (ef_call0 false (fun _ => box_v g pv v hg) rfl .fn rfl (by decide) (by kernel_rfl) rfl (fun _ => C0 rfl) (by simp)) ?_
 rintro _ _ ⟨_, _, _, ⟨rfl, rfl⟩, hF, hH⟩
 rw [hem] at hF
 (refine NST hF hH ?_; clear hF hH; rintro rfl rfl)
 refine WE ?_
 generalize hLL : covG g = L at *
 generalize x0 L = X0 at *
 generalize x1 L = X1 at *
 generalize y0 L = Y0 at *
 generalize y1 L = Y1 at *
 refine WA ?_
 refine aw_cond_f rfl ?_
 refine ZZ ?_
 by_cases hx : 199 < X1 - X0
 ·refine WA ?_
  refine aw_cond_t rfl ?_
  refine WA ?_
  exact aret_of (us := [.a [.c (I 0), .c (I 0), .c (I 0), .c (.r (.slice none 0 0) [])], .c (I (12))]) [] (fun g' => .t [.a [.c (I 0), .c (I 0), .c (I 0), .c (.r (.slice none 0 0) [])], .c (I (12))]) (fun _ => []) (.cella (n := 4) rfl (by kernel_rfl) (Cells.box rfl) (by simp) (by (try simp only [nm, putL, Nat.reduceAdd, cellsOf, cvOf]) <;> rfl) (.tmp rfl .nil)) (by decide) (fun i hi => absurd hi (Nat.not_lt_zero i)) (fun g' => .tL (.cons (.aL (.cons (.c rfl) (.cons (.c rfl) (.cons (.c rfl) (.cons (.c rfl) .nil))))) (.cons (.c rfl) .nil))) (fun _ => .nil) (fun g' => ⟨.slice none 0 0, by rw [if_pos (.inl hx)]; rfl, rfl⟩)
 by_cases hy : 199 < Y1 - Y0
 ·refine WA ?_
  refine aw_cond_t rfl ?_
  refine WA ?_
  exact aret_of (us := [.a [.c (I 0), .c (I 0), .c (I 0), .c (.r (.slice none 0 0) [])], .c (I (12))]) [] (fun g' => .t [.a [.c (I 0), .c (I 0), .c (I 0), .c (.r (.slice none 0 0) [])], .c (I (12))]) (fun _ => []) (.cella (n := 4) rfl (by kernel_rfl) (Cells.box rfl) (by simp) (by (try simp only [nm, putL, Nat.reduceAdd, cellsOf, cvOf]) <;> rfl) (.tmp rfl .nil)) (by decide) (fun i hi => absurd hi (Nat.not_lt_zero i)) (fun g' => .tL (.cons (.aL (.cons (.c rfl) (.cons (.c rfl) (.cons (.c rfl) (.cons (.c rfl) .nil))))) (.cons (.c rfl) .nil))) (fun _ => .nil) (fun g' => ⟨.slice none 0 0, by rw [if_pos (.inr hy)]; rfl, rfl⟩)
 rw [if_neg (by omega)]
 refine WA ?_
 refine aw_cond_f rfl ?_
 refine ZZ ?_
 obtain ⟨W, hW⟩ : ∃ W : Nat, (X1 - X0 + 1).toNat = W := ⟨_, rfl⟩
 obtain ⟨N, hN⟩ : ∃ N : Nat, (Y1 - Y0 + 1).toNat = N := ⟨_, rfl⟩
 rw [hW, hN]
 have m1 : -100000000000 ≤ X0 * g.st ∧ X0 * g.st ≤ 200000000000 := ⟨by have := Int.mul_le_mul_of_nonneg_right d1 hst.1; omega, by have := Int.mul_le_mul_of_nonneg_right (show X0 ≤ 10001000 by omega) hst.1; omega⟩
 have m2 : -100000000000 ≤ Y0 * g.st ∧ Y0 * g.st ≤ 200000000000 := ⟨by have := Int.mul_le_mul_of_nonneg_right d4 hst.1; omega, by have := Int.mul_le_mul_of_nonneg_right (show Y0 ≤ 10001000 by omega) hst.1; omega⟩
 refine ZZ ?_
 refine aw_regionT [(0, none), (1, none), (2, none), (3, none), (4, none), (5, none), (6, none), (7, none), (8, none), (9, none), (10, none), (11, none), (12, none), (13, none), (14, none), (15, some [7, 8, 9, 10, 11, 12, 13]), (16, none), (17, some [])] hMixed (by kernel_rfl) ?_
 refine WQ ?_
 all_goals skip
 refine WA ?_
 refine aw_loopw (fun m F H => ∃ (i c : Nat), m + i = N ∧ i ≤ c ∧ F = [(0, gV pv v g), (2, .p 0 0 0), (4, .p 1 0 0), (5, .p 2 0 0), (6, .p 3 0 0), (8, .c (I (Y0 + (i : Nat))))] ∧ H = [.box [.c (I 0), .c (I 0), .c (I 0), .c (.r (.slice none 0 0) [])], .box [.c (I g.st), .c (I (X0 * g.st)), .c (I (Y0 * g.st)), .o 4 0 (rowsB L X0 Y0 W i).length c], .box [.c (I X0), .c (I Y0)], .box [.c (I X1), .c (I Y1)], .arr 9 1 c (tR (rowsB L X0 Y0 W i))]) ?_ ?_
 ·refine wk_of [some 0, some 1, some 2, some 3, none] (fun _ => [(0, gV pv v g), (2, .p 0 0 0), (4, .p 1 0 0), (5, .p 2 0 0), (6, .p 3 0 0), (8, .c (I (Y0 + (0 : Nat))))]) (fun _ => [.box [.c (I 0), .c (I 0), .c (I 0), .c (.r (.slice none 0 0) [])], .box [.c (I g.st), .c (I (X0 * g.st)), .c (I (Y0 * g.st)), .o 4 0 (rowsB L X0 Y0 W 0).length 0], .box [.c (I X0), .c (I Y0)], .box [.c (I X1), .c (I Y1)], .arr 9 1 0 (tR (rowsB L X0 Y0 W 0))]) (by decide) (ZNL hE) ZCF ZCH (fun _ => ?_)
  exact ⟨N, 0, 0, by omega, by omega, rfl, rfl⟩
 rintro m F H ⟨i, c, hi, hic, rfl, rfl⟩
 refine WA ?_
 refine aw_if rfl (fun hlt => ?_) (fun hge => ?_)
 ·refine ZR ?_
  refine al_ef rfl (ef_alloct (z := .agg #[.pointer none, .slice none 0 0]) (vs := [.pointer none, .slice none 0 0]) rfl rfl (by decide) (by kernel_rfl) rfl rfl) ?_
  rintro _ _ ⟨rfl, rfl⟩
  refine WE ?_
  refine WA ?_
  refine aw_loopw (fun m2 F H => ∃ (k c2 : Nat) (A : AV), m2 + k = W ∧ k ≤ c2 ∧ (A = pnil ∧ k = 0 ∨ A = .p 5 0 0) ∧ F = [(0, gV pv v g), (2, .p 0 0 0), (4, .p 1 0 0), (5, .p 2 0 0), (6, .p 3 0 0), (8, .c (I (Y0 + (i : Nat)))), (9, .p 5 0 0), (10, .c (I (X0 + (k : Nat))))] ∧ H = [.box [.c (I 0), .c (I 0), .c (I 0), .c (.r (.slice none 0 0) [])], .box [.c (I g.st), .c (I (X0 * g.st)), .c (I (Y0 * g.st)), .o 4 0 (rowsB L X0 Y0 W i).length c], .box [.c (I X0), .c (I Y0)], .box [.c (I X1), .c (I Y1)], .arr 9 1 c (tR (rowsB L X0 Y0 W i)), .boxt 203 [A, .o 6 0 (rowB L X0 (Y0 + (i : Nat)) (k)).length c2], bldA c2 (rowB L X0 (Y0 + (i : Nat)) (k))]) ?_ ?_
  ·refine wk_of [some 0, some 1, some 2, some 3, some 4, some 5, none] (fun _ => [(0, gV pv v g), (2, .p 0 0 0), (4, .p 1 0 0), (5, .p 2 0 0), (6, .p 3 0 0), (8, .c (I (Y0 + (i : Nat)))), (9, .p 5 0 0), (10, .c (I (X0 + (0 : Nat))))]) (fun _ => [.box [.c (I 0), .c (I 0), .c (I 0), .c (.r (.slice none 0 0) [])], .box [.c (I g.st), .c (I (X0 * g.st)), .c (I (Y0 * g.st)), .o 4 0 (rowsB L X0 Y0 W i).length c], .box [.c (I X0), .c (I Y0)], .box [.c (I X1), .c (I Y1)], .arr 9 1 c (tR (rowsB L X0 Y0 W i)), .boxt 203 [pnil, .o 6 0 (rowB L X0 (Y0 + (i : Nat)) (0)).length 0], bldA 0 (rowB L X0 (Y0 + (i : Nat)) (0))]) (by decide) (ZNL hE) ZCF ZCH (fun _ => ?_)
   exact ⟨W, 0, 0, pnil, by omega, by omega, .inl ⟨rfl, rfl⟩, rfl, rfl⟩
  rintro m2 F H ⟨k, c2, A, hk, hkc, hA, rfl, rfl⟩
  have hrs := rowB_succ L X0 (Y0 + (i : Nat)) k
  have hrl := rowB_len L X0 (Y0 + (i : Nat)) k
  have hat1 := hat (X0 + (k : Nat)) (Y0 + (i : Nat))
  generalize hr : rowB L X0 (Y0 + (i : Nat)) k = r at *
  refine WA ?_
  refine aw_if rfl (fun hlt2 => ?_) (fun hge2 => ?_)
  ·have hcv : ∃ A', (A' = pnil ∨ A' = .p 0 0 0) ∧ ∀ g' : AV → Value, CvH g' [some 5, some 6] [.box [.c (I 0), .c (I 0), .c (I 0), .c (.r (.slice none 0 0) [])], .box [.c (I g.st), .c (I (X0 * g.st)), .c (I (Y0 * g.st)), .o 4 0 (rowsB L X0 Y0 W i).length c], .box [.c (I X0), .c (I Y0)], .box [.c (I X1), .c (I Y1)], .arr 9 1 c (tR (rowsB L X0 Y0 W i)), .boxt 203 [A, .o 6 0 r.length c2], bldA c2 r] false [some 5, some 6] [bldB A' 1 r.length c2, bldA c2 r] := by
    rcases hA with ⟨rfl, _⟩ | rfl
    ·exact ⟨pnil, .inl rfl, fun _ => .oth rfl (.boxt (.cons (.c rfl) (.cons (.o rfl rfl) .nil))) (.arr rfl rfl .nil)⟩
    ·exact ⟨.p 0 0 0, .inr rfl, fun _ => .oth rfl (.boxt (.cons (.p rfl) (.cons (.o rfl rfl) .nil))) (.arr rfl rfl .nil)⟩
   obtain ⟨A', hA', hcv⟩ := hcv
   by_cases hin : (X0 + (k : Nat), Y0 + (i : Nat)) ∈ L
   ·rw [decide_eq_true hin] at hat1
    rw [if_pos hin] at hrs
    refine WR ?_
    refine al_ef rfl (ef_call0 false (fun _ => at_v g pv v (X0 + (k : Nat)) (Y0 + (i : Nat)) hg (by omega) (by omega)) rfl .fn rfl (by decide) (by kernel_rfl) rfl (fun _ => C0 rfl) (by simp)) ?_
    rintro _ _ ⟨_, _, _, ⟨rfl, rfl⟩, hF, hH⟩
    rw [hat1] at hF
    (refine NST hF hH ?_; clear hF hH; rintro rfl rfl)
    refine WE ?_
    refine aw_cond_t rfl ?_
    refine ZR ?_
    refine al_ef rfl (ef_call [5, 6] (fun _ => [bldB A' 1 r.length c2, bldA c2 r]) false (fun _ => writebyte_v A' c2 r 35 hA' (by omega)) rfl .fn rfl (by decide) (by kernel_rfl) rfl (fun _ => .cons (.p rfl) (.cons (.c rfl) .nil)) (by decide) hcv (by simp)) ?_
    rintro F1 H1 ⟨_, _, _, _, ⟨c3, rfl, rfl, hc3⟩, hF, hH⟩
    (refine NSU hF hH ?_; clear hF hH; rintro rfl rfl)
    refine WE ?_
    refine WA ?_
    refine wk_of [some 0, some 1, some 2, some 3, some 4, some 5, some 6] (fun _ => [(0, gV pv v g), (2, .p 0 0 0), (4, .p 1 0 0), (5, .p 2 0 0), (6, .p 3 0 0), (8, .c (I (Y0 + (i : Nat)))), (9, .p 5 0 0), (10, .c (I (X0 + (k + 1 : Nat))))]) (fun _ => [.box [.c (I 0), .c (I 0), .c (I 0), .c (.r (.slice none 0 0) [])], .box [.c (I g.st), .c (I (X0 * g.st)), .c (I (Y0 * g.st)), .o 4 0 (rowsB L X0 Y0 W i).length c], .box [.c (I X0), .c (I Y0)], .box [.c (I X1), .c (I Y1)], .arr 9 1 c (tR (rowsB L X0 Y0 W i)), .boxt 203 [.p 5 0 0, .o 6 0 (r ++ [35]).length c3], bldA c3 (r ++ [35])]) (by decide) (ZNL hE) ZCF ZCH (fun _ => ?_)
    have hl3 : k + 1 ≤ c3 := by rw [List.length_append, hrl] at hc3; exact hc3
    exact ⟨m2 - 1, by omega, k + 1, c3, .p 5 0 0, by omega, hl3, .inr rfl, rfl, by rw [hrs]⟩
   ·rw [decide_eq_false hin] at hat1
    rw [if_neg hin] at hrs
    refine WR ?_
    refine al_ef rfl (ef_call0 false (fun _ => at_v g pv v (X0 + (k : Nat)) (Y0 + (i : Nat)) hg (by omega) (by omega)) rfl .fn rfl (by decide) (by kernel_rfl) rfl (fun _ => C0 rfl) (by simp)) ?_
    rintro _ _ ⟨_, _, _, ⟨rfl, rfl⟩, hF, hH⟩
    rw [hat1] at hF
    (refine NST hF hH ?_; clear hF hH; rintro rfl rfl)
    refine WE ?_
    refine aw_cond_f rfl ?_
    refine ZR ?_
    refine al_ef rfl (ef_call [5, 6] (fun _ => [bldB A' 1 r.length c2, bldA c2 r]) false (fun _ => writebyte_v A' c2 r 46 hA' (by omega)) rfl .fn rfl (by decide) (by kernel_rfl) rfl (fun _ => .cons (.p rfl) (.cons (.c rfl) .nil)) (by decide) hcv (by simp)) ?_
    rintro F1 H1 ⟨_, _, _, _, ⟨c3, rfl, rfl, hc3⟩, hF, hH⟩
    (refine NSU hF hH ?_; clear hF hH; rintro rfl rfl)
    refine WE ?_
    refine WA ?_
    refine wk_of [some 0, some 1, some 2, some 3, some 4, some 5, some 6] (fun _ => [(0, gV pv v g), (2, .p 0 0 0), (4, .p 1 0 0), (5, .p 2 0 0), (6, .p 3 0 0), (8, .c (I (Y0 + (i : Nat)))), (9, .p 5 0 0), (10, .c (I (X0 + (k + 1 : Nat))))]) (fun _ => [.box [.c (I 0), .c (I 0), .c (I 0), .c (.r (.slice none 0 0) [])], .box [.c (I g.st), .c (I (X0 * g.st)), .c (I (Y0 * g.st)), .o 4 0 (rowsB L X0 Y0 W i).length c], .box [.c (I X0), .c (I Y0)], .box [.c (I X1), .c (I Y1)], .arr 9 1 c (tR (rowsB L X0 Y0 W i)), .boxt 203 [.p 5 0 0, .o 6 0 (r ++ [46]).length c3], bldA c3 (r ++ [46])]) (by decide) (ZNL hE) ZCF ZCH (fun _ => ?_)
    have hl3 : k + 1 ≤ c3 := by rw [List.length_append, hrl] at hc3; exact hc3
    exact ⟨m2 - 1, by omega, k + 1, c3, .p 5 0 0, by omega, hl3, .inr rfl, rfl, by rw [hrs]⟩
  obtain rfl : k = W := by omega
  obtain ⟨rfl, hk0⟩ | rfl := hA
  ·omega
  have hr0 : 0 < r.length := by omega
  have hc2 : r.length ≤ c2 := by omega
  have hsn := rowsB_succ L X0 Y0 k i
  have hsl := rowsB_len L X0 Y0 k i
  rw [hr] at hsn
  generalize hRr : rowsB L X0 Y0 k i = R at *
  refine ZZ ?_
  refine aw_regionT [(0, none), (1, none), (2, some [0, 1]), (3, some [0, 1]), (4, some []), (5, none), (6, some [])] hMixed (by kernel_rfl) ?_
  refine WP ?_
  refine at_ef rfl rfl (ef_call [5, 6] (fun _ => [bldB (.p 0 0 0) 1 r.length c2, bldA c2 r]) false (fun _ => bstring_v (.p 0 0 0) c2 r hr0 (by omega) hc2 rfl) rfl .fn rfl (by decide) (by kernel_rfl) rfl (fun _ => .cons (.p rfl) .nil) (by decide) (fun _ => .oth rfl (.boxt (.cons (.p rfl) (.cons (.o rfl rfl) .nil))) (.arr rfl rfl .nil)) (by simp)) ?_
  rintro F1 H1 ⟨_, _, _, _, ⟨rfl, z, rfl⟩, hF, hH⟩
  (refine NSU hF hH ?_; clear hF hH; rintro rfl rfl)
  refine ⟨ag_cons (by first | exact ag_rd rfl rfl rfl (ZX (KF (t := 28) (f := 3) rfl rfl)) rfl) (ag_cons (by first | exact ag_rd rfl rfl rfl (ZL (KK (t := 26) rfl)) rfl) (ag_none)), ?_⟩
  refine WP ?_
  refine at_ef rfl rfl (Zapp (KA (t := 26) rfl)) ?_
  rintro _ _ ⟨_, cc, hcc, rfl, rfl⟩
  refine ⟨ag_none, ?_⟩
  refine WQ ?_
  refine WA ?_
  refine wk_of [some 0, some 1, some 2, some 3, some 4] (fun _ => [(0, gV pv v g), (2, .p 0 0 0), (4, .p 1 0 0), (5, .p 2 0 0), (6, .p 3 0 0), (8, .c (I (Y0 + (i + 1 : Nat))))]) (fun _ => [.box [.c (I 0), .c (I 0), .c (I 0), .c (.r (.slice none 0 0) [])], .box [.c (I g.st), .c (I (X0 * g.st)), .c (I (Y0 * g.st)), .o 4 0 (R ++ [r]).length cc], .box [.c (I X0), .c (I Y0)], .box [.c (I X1), .c (I Y1)], .arr 9 1 cc (tR (R ++ [r]))]) (by decide) (ZNL hE) ZCF ZCH (fun _ => ?_)
  exact ⟨m - 1, by omega, i + 1, cc, by omega, by omega, rfl, by rw [hsn]⟩
 obtain rfl : i = N := by omega
 have hRl : ∀ r ∈ rowsB L X0 Y0 W i, r.length ≤ 1000000000 := fun r hr => by
  obtain ⟨j, _, rfl⟩ := List.mem_map.1 hr
  rw [rowB_len]; omega
 have hsl := rowsB_len L X0 Y0 W i
 generalize hRr : rowsB L X0 Y0 W i = R at *
 refine ZZ ?_
 refine WR ?_
 refine al_ef rfl (ef_call0 true (fun g' => check_v (g' (.o 4 0 R.length c)) ⟨g.st, X0 * g.st, Y0 * g.st, R⟩ (by simp only; omega) hRl) rfl .fn rfl (by decide) (by kernel_rfl) rfl (fun _ => .cons (.aL (.cons (.c rfl) (.cons (.c rfl) (.cons (.c rfl) (.cons (.frz rfl rfl (by rw [List.drop_zero, List.take_of_length_le (by simp)]) (by simp) rfl) .nil))))) .nil) (fun _ _ _ _ ⟨hu, hH⟩ => by rw [hu, hH]; exact ⟨.c (.inl trivial), by simp⟩)) ?_
 rintro _ _ ⟨_, _, _, ⟨rfl, rfl⟩, hF, hH⟩
 (refine NST hF hH ?_; clear hF hH; rintro rfl rfl)
 refine WE ?_
 generalize hq : celF ⟨g.st, X0 * g.st, Y0 * g.st, R⟩ = q at *
 refine WA ?_
 refine aw_if rfl (fun h9 => ?_) (fun h9 => ?_)
 ·refine WA ?_
  exact aret_of (us := [.a [.c (I 0), .c (I 0), .c (I 0), .c (.r (.slice none 0 0) [])], .c (I (q))]) [] (fun g' => .t [.a [.c (I 0), .c (I 0), .c (I 0), .c (.r (.slice none 0 0) [])], .c (I (q))]) (fun _ => []) (.cella (n := 4) rfl (by kernel_rfl) (Cells.box rfl) (by simp) (by (try simp only [nm, putL, Nat.reduceAdd, cellsOf, cvOf]) <;> rfl) (.tmp rfl .nil)) (by decide) (fun i hi => absurd hi (Nat.not_lt_zero i)) (fun g' => .tL (.cons (.aL (.cons (.c rfl) (.cons (.c rfl) (.cons (.c rfl) (.cons (.c rfl) .nil))))) (.cons (.c rfl) .nil))) (fun _ => .nil) (fun g' => ⟨.slice none 0 0, by rw [if_pos h9]; rfl, rfl⟩)
 ·refine ZZ ?_
  refine WA ?_
  exact aret_of (us := [.a [.c (I g.st), .c (I (X0 * g.st)), .c (I (Y0 * g.st)), .o 4 0 R.length c], .c (I (0))]) [] (fun g' => .t [.a [.c (I g.st), .c (I (X0 * g.st)), .c (I (Y0 * g.st)), .c (.r (g' (.o 4 0 R.length c)) (tR R))], .c (I (0))]) (fun _ => []) (.cella (n := 4) rfl (by kernel_rfl) (Cells.box rfl) (by simp) (by (try simp only [nm, putL, Nat.reduceAdd, cellsOf, cvOf]) <;> rfl) (.tmp rfl .nil)) (by decide) (fun i hi => absurd hi (Nat.not_lt_zero i)) (fun g' => .tL (.cons (.aL (.cons (.c rfl) (.cons (.c rfl) (.cons (.c rfl) (.cons (.frz rfl rfl (by rw [List.drop_zero, List.take_of_length_le (by simp)]) (by simp) rfl) .nil))))) (.cons (.c rfl) .nil))) (fun _ => .nil) (fun g' => ⟨g' (.o 4 0 R.length c), by rw [if_neg h9], rfl⟩)
end Go.Proofs.YtfilfijammemfaaGreatDoor

/- The cells of a grid that a function chooses, by value. -/
-- NEWM
namespace Go.Proofs.YtfilfijammemfaaGreatDoor
open Go Go.RowKit
set_option maxRecDepth 100000
theorem rd_ldcp {P : Program} {N : Nat} {E : Env} {F : Fm} {H : List OB} {o : Oper} {t : TypeId} {x : Operand} {v : Value} {row : List CV} {y : CV} (ho : o.op = .load t x) (ht : ldk P t = some none) (hx : ev F x = some (.c (.p v row))) (hn : row[0]? = some y) : Rd P N E o F H (.c y) := fun S ρ a w hR => by
 obtain ⟨h1, h2⟩ := hR.ev hx
 cases h2 with
 | c g =>
  cases g with
  | p row B off hS hcell hg =>
   have h3 := hcell 0 y hn
   rw [Nat.add_zero] at h3
   refine ⟨?_, .c (hg y (List.mem_of_getElem? hn))⟩
   simp [execOp, ho, h1, AV.den, CV.den, Instr.loadAt, Instr.sureAddr, loadVar, (ldk_none (w := w) ht).1, h3]
end Go.Proofs.YtfilfijammemfaaGreatDoor

/- The cells of a grid that a function chooses, by value: the walk. -/
-- NEWM
namespace Go.Proofs.YtfilfijammemfaaGreatDoor
open Go Go.RowKit
set_option maxRecDepth 100000
end Go.Proofs.YtfilfijammemfaaGreatDoor

/- The cells of a grid that a function chooses, by value: chosen. -/
-- NEWM
namespace Go.Proofs.YtfilfijammemfaaGreatDoor
open Go Go.RowKit
set_option maxRecDepth 100000
theorem frzpL {g : AV → Value} {m : List (Option Nat)} {H : List OB} {b : Nat} {l : List AV} {row : List CV} (h : H[b]? = some (.box l)) (hm : m.contains (some b) = false) (hc : CvL g m H true l (row.map .c)) : Cvt g m H true (.p b 0 0) (.c (.p (g (.p b 0 0)) row)) :=
 .frzp rfl h (by have := hc.both.1; simpa using this) (fun i x u hx hu => hc.both.2 i x (.c u) hx (by rw [List.getElem?_map, hu]; rfl)) hm
theorem frzG {f : AV → Value} {m : List (Option Nat)} {H : List OB} {b k n : Nat} {g : Grd} (h : H[b]? = some (gB g.st g.x g.y g.w g.h k n)) (ha : H[k]? = some (gArr n g.on)) (hn : g.on.length = n) (hm : m.contains (some b) = false) (hk : m.contains (some k) = false) : Cvt f m H true (.p b 0 0) (gV (f (.p b 0 0)) (f (.o k 0 n n)) g) :=
 frzpL h hm (.cons (.c rfl) (.cons (.c rfl) (.cons (.c rfl) (.cons (.c rfl) (.cons (.c rfl) (.cons (.frz rfl ha (by rw [← hn, oR_take]) (by rw [List.length_map]; exact hn) hk) .nil))))))
end Go.Proofs.YtfilfijammemfaaGreatDoor

/- Pairs of grids; the cells of one that are not of another one; of both, by value. -/
-- NEWM
namespace Go.Proofs.YtfilfijammemfaaGreatDoor
open Go Go.RowKit
set_option maxRecDepth 100000
theorem check_r (v : Value) (c : Cel) (h : RCel c) : ACalls Tryz.prog 39 [celA v c] [] fun u H => u = .c (I 0) ∧ H = [] := by
 have hh := h.h
 have hw := h.w
 have := check_v v c (by omega) (fun r hr => by rw [(h.row r hr).1]; omega)
 rw [celF_0.2 h] at this
 exact this
abbrev celR (v : Value) (c : Cel) : List CV := [I c.st, I c.x, I c.y, .r v (tR c.rows)]
end Go.Proofs.YtfilfijammemfaaGreatDoor

/- The cells of one that are not of another one; of both, by value. -/
-- NEWM
namespace Go.Proofs.YtfilfijammemfaaGreatDoor
open Go Go.RowKit
set_option maxRecDepth 100000
theorem grdOf_st (c : Cel) : (grdOf c).st = c.st := by unfold grdOf; split <;> rfl
end Go.Proofs.YtfilfijammemfaaGreatDoor

/- The reference's fault of cells is the program's: plain. -/
namespace Go.Proofs.YtfilfijammemfaaGreatDoor
theorem hit_of {c : Cel} {i k : Nat} {r : List UInt8} (h1 : c.rows[i]? = some r) (h2 : r[k]? = some 35) : ((c.x.tdiv c.st + (k : Nat), c.y.tdiv c.st + (i : Nat)) : Spot) ∈ covL c := hitC_mem.2 ⟨i, k, r, h1, h2, rfl⟩
def spanB (c : Cel) : Bool := decide (covL c ≠ []) && decide (x0 (covL c) = c.x.tdiv c.st) && decide (y0 (covL c) = c.y.tdiv c.st) && decide (x1 (covL c) = c.x.tdiv c.st + (wid c.rows : Int) - 1) && decide (y1 (covL c) = c.y.tdiv c.st + (c.rows.length : Int) - 1)
theorem headD_at {α : Type} {l : List α} {d a : α} (h : l[0]? = some a) : l.headD d = a := by
 cases l with
 | nil => cases h
 | cons b l => simpa using h
theorem lastD_at {α : Type} {l : List α} {d a : α} {n : Nat} (hn : l.length = n + 1) (h : l[n]? = some a) : l.getLastD d = a := by
 have : l ≠ [] := by intro e; rw [e] at hn; cases hn
 rw [List.getLastD_eq_getLast?, List.getLast?_eq_getElem?, hn, Nat.add_sub_cancel, h]; rfl
theorem span_tight {c : Cel} (hr : ∀ r ∈ c.rows, r.length = wid c.rows) (hne : c.rows ≠ []) : spanB c = tightB c.rows := by
 obtain ⟨n, hn⟩ : ∃ n, c.rows.length = n + 1 := ⟨c.rows.length - 1, by have := List.length_pos_iff.2 hne; omega⟩
 obtain ⟨r0, h0⟩ : ∃ r, c.rows[0]? = some r := ⟨_, List.getElem?_eq_getElem (by omega)⟩
 obtain ⟨rn, hrn⟩ : ∃ r, c.rows[n]? = some r := ⟨_, List.getElem?_eq_getElem (by omega)⟩
 have hb : ∀ p ∈ covL c, ∃ (i k : Nat) (r : List UInt8), c.rows[i]? = some r ∧ r[k]? = some 35 ∧ i ≤ n ∧ k < wid c.rows ∧ p.1 = c.x.tdiv c.st + (k : Nat) ∧ p.2 = c.y.tdiv c.st + (i : Nat) := fun p hp => by
  obtain ⟨i, k, r, h1, h2, rfl⟩ := hitC_mem.1 hp
  have e1 := (List.getElem?_eq_some_iff.1 h1).1
  have e2 := (List.getElem?_eq_some_iff.1 h2).1
  rw [hr r (List.mem_of_getElem? h1)] at e2
  exact ⟨i, k, r, h1, h2, by omega, e2, rfl, rfl⟩
 have hT : tightB c.rows = (r0.contains 35 && rn.contains 35 && (c.rows.any fun r => r[0]? == some 35) && (c.rows.any fun r => r[wid c.rows - 1]? == some 35)) := by
  rw [tightB, headD_at h0, lastD_at hn hrn]
 rw [hT]
 by_cases hc : covL c = []
 ·have hno : r0.contains 35 = false := by
   cases e : r0.contains 35 with
   | false => rfl
   | true =>
    obtain ⟨k, hk⟩ := List.getElem?_of_mem (List.contains_iff_mem.1 e)
    have := hit_of h0 hk
    rw [hc] at this; cases this
  rw [hno]
  unfold spanB
  rw [decide_eq_false (by simp [hc])]
  rfl
 obtain ⟨⟨p1, hp1, e1⟩, ⟨p2, hp2, e2⟩, ⟨p3, hp3, e3⟩, ⟨p4, hp4, e4⟩⟩ := x0_at hc
 have k1 : decide (y0 (covL c) = c.y.tdiv c.st) = r0.contains 35 := by
  rw [Bool.eq_iff_iff, decide_eq_true_iff, List.contains_iff_mem]
  obtain ⟨i, k, r, q1, q2, q3, q4, q5, q6⟩ := hb p3 hp3
  constructor
  ·intro e
   obtain rfl : i = 0 := by omega
   rw [h0] at q1
   obtain rfl := Option.some.inj q1
   exact List.mem_of_getElem? q2
  ·intro h
   obtain ⟨k', hk'⟩ := List.getElem?_of_mem h
   have := (x0_le (hit_of h0 hk')).2.2.1
   simp only at this
   omega
 have k2 : decide (y1 (covL c) = c.y.tdiv c.st + (c.rows.length : Int) - 1) = rn.contains 35 := by
  rw [Bool.eq_iff_iff, decide_eq_true_iff, List.contains_iff_mem]
  obtain ⟨i, k, r, q1, q2, q3, q4, q5, q6⟩ := hb p4 hp4
  constructor
  ·intro e
   obtain rfl : i = n := by omega
   rw [hrn] at q1
   obtain rfl := Option.some.inj q1
   exact List.mem_of_getElem? q2
  ·intro h
   obtain ⟨k', hk'⟩ := List.getElem?_of_mem h
   have := (x0_le (hit_of hrn hk')).2.2.2
   simp only at this
   omega
 have k3 : decide (x0 (covL c) = c.x.tdiv c.st) = (c.rows.any fun r => r[0]? == some 35) := by
  rw [Bool.eq_iff_iff, decide_eq_true_iff, List.any_eq_true]
  obtain ⟨i, k, r, q1, q2, q3, q4, q5, q6⟩ := hb p1 hp1
  constructor
  ·intro e
   obtain rfl : k = 0 := by omega
   exact ⟨r, List.mem_of_getElem? q1, by rw [q2]; rfl⟩
  ·rintro ⟨r', hr', h⟩
   obtain ⟨i', hi'⟩ := List.getElem?_of_mem hr'
   have := (x0_le (hit_of hi' (by simpa using h))).1
   simp only at this
   omega
 have k4 : decide (x1 (covL c) = c.x.tdiv c.st + (wid c.rows : Int) - 1) = (c.rows.any fun r => r[wid c.rows - 1]? == some 35) := by
  rw [Bool.eq_iff_iff, decide_eq_true_iff, List.any_eq_true]
  obtain ⟨i, k, r, q1, q2, q3, q4, q5, q6⟩ := hb p2 hp2
  constructor
  ·intro e
   obtain rfl : k = wid c.rows - 1 := by omega
   exact ⟨r, List.mem_of_getElem? q1, by rw [q2]; rfl⟩
  ·rintro ⟨r', hr', h⟩
   obtain ⟨i', hi'⟩ := List.getElem?_of_mem hr'
   have := (x0_le (hit_of hi' (by simpa using h))).2.1
   simp only at this
   omega
 unfold spanB
 rw [decide_eq_true hc, k1, k2, k3, k4, Bool.true_and]
 generalize r0.contains 35 = b1
 generalize rn.contains 35 = b2
 generalize (c.rows.any fun r => r[0]? == some 35) = b3
 generalize (c.rows.any fun r => r[wid c.rows - 1]? == some 35) = b4
 revert b1 b2 b3 b4
 decide
def rowsR (rows : List (List UInt8)) : Int := if 200 < rows.length then 2 else if rowsF (wid rows) rows ≠ 0 then rowsF (wid rows) rows else if rows ≠ [] ∧ 200 < wid rows then 2 else 0
def celR2 (c : Cel) : Int :=
 if stepB c.st = true then 1
 else if c.rows = [] ∧ (c.x ≠ 0 ∨ c.y ≠ 0) then 3
 else if rowsR c.rows ≠ 0 then rowsR c.rows
 else if (farB c.x || farB c.y) = true then 1
 else if c.x.tmod c.st ≠ 0 ∨ c.y.tmod c.st ≠ 0 then 3
 else if c.rows = [] then 0
 else if spanB c = true then 0 else 3
theorem celR2_eq (c : Cel) : celR2 c = celF c := by
 unfold celR2 celF
 by_cases h1 : stepB c.st = true
 ·rw [if_pos h1, if_pos h1]
 rw [if_neg h1, if_neg h1]
 by_cases h2 : c.rows = [] ∧ (c.x ≠ 0 ∨ c.y ≠ 0)
 ·rw [if_pos h2, if_pos h2]
 rw [if_neg h2, if_neg h2]
 by_cases h3 : 200 < c.rows.length
 ·have : rowsR c.rows = 2 := by rw [rowsR, if_pos h3]
  rw [this, if_pos (by decide), if_pos h3]
 rw [if_neg h3]
 by_cases h4 : c.rows = []
 ·have hxy : c.x = 0 ∧ c.y = 0 := by
   refine ⟨?_, ?_⟩
   ·apply Classical.byContradiction; intro e; exact h2 ⟨h4, .inl e⟩
   ·apply Classical.byContradiction; intro e; exact h2 ⟨h4, .inr e⟩
  have : rowsR c.rows = 0 := by rw [h4]; rfl
  rw [this, hxy.1, hxy.2, if_pos h4, if_pos h4, if_neg (by decide), if_neg (by decide), if_neg (by simp)]
 rw [if_neg h4, if_neg h4]
 by_cases h5 : rowsF (wid c.rows) c.rows ≠ 0
 ·have : rowsR c.rows = rowsF (wid c.rows) c.rows := by rw [rowsR, if_neg h3, if_pos h5]
  rw [this, if_pos h5, if_pos h5]
 rw [if_neg h5]
 by_cases h6 : 200 < wid c.rows
 ·have : rowsR c.rows = 2 := by rw [rowsR, if_neg h3, if_neg h5, if_pos ⟨h4, h6⟩]
  rw [this, if_pos (by decide), if_pos h6]
 have : rowsR c.rows = 0 := by rw [rowsR, if_neg h3, if_neg h5, if_neg (fun h => h6 h.2)]
 rw [this, if_neg (by decide), if_neg h6]
 by_cases h7 : (farB c.x || farB c.y) = true
 ·rw [if_pos h7, if_pos h7]
 rw [if_neg h7, if_neg h7, span_tight (fun r hr => (rowsF_0.1 (by simpa using h5) r hr).1) h4]
 by_cases h8 : c.x.tmod c.st ≠ 0 ∨ c.y.tmod c.st ≠ 0
 ·rw [if_pos h8, if_pos (by rcases h8 with h | h <;> first | exact .inl h | exact .inr (.inl h))]
 rw [if_neg h8]
 cases ht : tightB c.rows with
 | true => rw [if_pos rfl, if_neg]; exact (fun h => by rcases h with h | h | h <;> first | exact h8 (.inl h) | exact h8 (.inr h) | simp at h)
 | false => rw [if_neg (by simp), if_pos (.inr (.inr rfl))]
end Go.Proofs.YtfilfijammemfaaGreatDoor
