/- The reference's cells that are so, by value: these. -/
import Derived.Test.YtfilfijammemfaaGreatDoorQbf
set_option linter.unusedSimpArgs false
set_option linter.unusedVariables false
-- NEWM
namespace Go.Proofs.YtfilfijammemfaaGreatDoor
open Go Go.RowKit
set_option maxRecDepth 100000
theorem truth_v (b : Bool) : ACalls Tryz.prog 122 [.c (B b)] [] fun u H => u = .c (I (if b = true then 1 else 0)) ∧ H = [] := by
 refine ze (N := 4) Tryz.func122 rfl rfl (by simp) fun E hE => ?_
 cases b with
 | true =>
  refine WA ?_
  refine WA ?_
  refine zb rfl ?_
  refine WA ?_
  exact zi [] _ rfl rfl rfl (by decide) (ZNK rfl) (fun _ => .nil) ⟨rfl, rfl⟩
 | false =>
  refine WA ?_
  refine WA ?_
  refine zd rfl ?_
  refine ZZ ?_
  refine WA ?_
  exact zi [] _ rfl rfl rfl (by decide) (ZNK rfl) (fun _ => .nil) ⟨rfl, rfl⟩
theorem rd_lookPq {P : Program} {N : Nat} {E : Env} {F : Fm} {H : List OB} {o : Oper} {t kt et : TypeId} {x ix : Operand} {b ck : Nat} {l : SE} {L : List Spot} {p q : Int} {v : Bool} (hv : decide ((p, q) ∈ L) = v) (hok : SetOk l ck L) (hk : KeyOk P kt encP) (ho : o.op = .lookup t x ix false) (ht : P.underlying t = some (.map kt et)) (hz : (P.info? et).bind (·.zero) = some (.bool false))
    (hx : ev F x = some (.mp b)) (hH : H[b]? = some (mpO encP encT l ck)) (hi : ev F ix = some (.a [.c (.s (.int .i64 p)), .c (.s (.int .i64 q))])) : Rd P N E o F H (.c (B v)) := hv ▸ rd_lookP hok hk ho ht hz hx hH hi
set_option maxHeartbeats 4000000 in
theorem cellsof_v (es : SE) (ck : Nat) (L : List Spot) (hok : SetOk es ck L) (st : Int) (hst : -1000000 ≤ st ∧ st ≤ 1000000) (hb : ∀ p ∈ L, (-10000000 ≤ p.1 ∧ p.1 ≤ 10000000) ∧ (-10000000 ≤ p.2 ∧ p.2 ≤ 10000000)) : ACalls Tryz.prog 83 [.mp 0, .c (I st)] [mpO encP encT es ck] fun u H => ∃ v', u = .t [celA v' (normC st L).1, .c (I (normC st L).2)] ∧ H = [mpO encP encT es ck] := by
 by_cases hL : L = []
 ·have hem : (!L.isEmpty) = false := by rw [hL]; rfl
  refine ze (N := 94) Tryz.func83 rfl rfl (by simp) fun E hE => ?_
  refine WA ?_
  refine WR ?_
  refine zf rfl (zD [0] (fun _ => [mpO encP encT es ck]) false (fun _ => span_v es ck L hok) rfl .fn rfl (by decide) (by kernel_rfl) rfl ZCH (by decide) ZCH (by simp)) ?_
  rintro F1 H1 ⟨_, _, _, _, ⟨rfl, rfl⟩, hF, hH⟩
  rw [hem] at hF
  (refine NSU hF hH ?_; clear hF hH; rintro rfl rfl)
  refine WE ?_
  refine WA ?_
  refine zb rfl ?_
  refine WA ?_
  exact zq (us := [.a [.c (I st), .c (I 0), .c (I 0), .c (.r (.slice none 0 0) [])], .c (I (0))]) [some 0] (fun g' => .t [.a [.c (I st), .c (I 0), .c (I 0), .c (.r (.slice none 0 0) [])], .c (I (0))]) (fun _ => [mpO encP encT es ck]) (.cella (n := 4) rfl (by kernel_rfl) (Cells.box rfl) (by first | (simp; done) | exact Nat.le_refl 4) (by (try simp only [nm, putL, Nat.reduceAdd, cellsOf, cvOf]) <;> rfl) (.tmp rfl .nil)) (by decide) (by first | exact (ZNK rfl)) (fun g' => .tL (.cons (.aL (.cons (.c rfl) (.cons (.c rfl) (.cons (.c rfl) (.cons (.c rfl) .nil))))) (.cons (.c rfl) .nil))) ZCH (fun g' => ⟨.slice none 0 0, by rw [normC, if_pos hL]; rfl, rfl⟩)
 have hem : (!L.isEmpty) = true := by cases h : L with | nil => exact absurd h hL | cons => rfl
 obtain ⟨d1, d2, d3, d4, d5, d6⟩ : -10000000 ≤ x0 L ∧ x0 L ≤ x1 L ∧ x1 L ≤ 10000000 ∧ -10000000 ≤ y0 L ∧ y0 L ≤ y1 L ∧ y1 L ≤ 10000000 := by
  obtain ⟨⟨p1, hp1, e1⟩, ⟨p2, hp2, e2⟩, ⟨p3, hp3, e3⟩, ⟨p4, hp4, e4⟩⟩ := x0_at hL
  have b1 := hb p1 hp1
  have b2 := hb p2 hp2
  have b3 := hb p3 hp3
  have b4 := hb p4 hp4
  have l1 := x0_le hp2
  have l2 := x0_le hp4
  omega
 have hnc : normC st L = if 199 < x1 L - x0 L ∨ 199 < y1 L - y0 L then (⟨0, 0, 0, []⟩, 12) else if celF ⟨st, x0 L * st, y0 L * st, rowsB L (x0 L) (y0 L) (x1 L - x0 L + 1).toNat (y1 L - y0 L + 1).toNat⟩ ≠ 0 then (⟨0, 0, 0, []⟩, celF ⟨st, x0 L * st, y0 L * st, rowsB L (x0 L) (y0 L) (x1 L - x0 L + 1).toNat (y1 L - y0 L + 1).toNat⟩) else (⟨st, x0 L * st, y0 L * st, rowsB L (x0 L) (y0 L) (x1 L - x0 L + 1).toNat (y1 L - y0 L + 1).toNat⟩, 0) := by
  rw [normC, if_neg hL]
  have : celN st L = ⟨st, x0 L * st, y0 L * st, rowsB L (x0 L) (y0 L) (x1 L - x0 L + 1).toNat (y1 L - y0 L + 1).toNat⟩ := by rw [celN, if_neg hL]; rfl
  rw [this]
 rw [hnc]
 clear hnc
 refine ze (N := 94) Tryz.func83 rfl rfl (by simp) fun E hE => ?_
 refine WA ?_
 refine WR ?_
 refine zf rfl (zD [0] (fun _ => [mpO encP encT es ck]) false (fun _ => span_v es ck L hok) rfl .fn rfl (by decide) (by kernel_rfl) rfl ZCH (by decide) ZCH (by simp)) ?_
 rintro F1 H1 ⟨_, _, _, _, ⟨rfl, rfl⟩, hF, hH⟩
 rw [hem] at hF
 (refine NSU hF hH ?_; clear hF hH; rintro rfl rfl)
 refine WE ?_
 generalize x0 L = X0 at *
 generalize x1 L = X1 at *
 generalize y0 L = Y0 at *
 generalize y1 L = Y1 at *
 refine WA ?_
 refine zd rfl ?_
 refine ZZ ?_
 by_cases hx : 199 < X1 - X0
 ·refine WA ?_
  refine zb rfl ?_
  refine WA ?_
  exact zq (us := [.a [.c (I 0), .c (I 0), .c (I 0), .c (.r (.slice none 0 0) [])], .c (I (12))]) [some 0] (fun g' => .t [.a [.c (I 0), .c (I 0), .c (I 0), .c (.r (.slice none 0 0) [])], .c (I (12))]) (fun _ => [mpO encP encT es ck]) (.cella (n := 4) rfl (by kernel_rfl) (Cells.box rfl) (by first | (simp; done) | exact Nat.le_refl 4) (by (try simp only [nm, putL, Nat.reduceAdd, cellsOf, cvOf]) <;> rfl) (.tmp rfl .nil)) (by decide) (by first | exact (ZNK rfl)) (fun g' => .tL (.cons (.aL (.cons (.c rfl) (.cons (.c rfl) (.cons (.c rfl) (.cons (.c rfl) .nil))))) (.cons (.c rfl) .nil))) ZCH (fun g' => ⟨.slice none 0 0, by rw [if_pos (.inl hx)]; rfl, rfl⟩)
 by_cases hy : 199 < Y1 - Y0
 ·refine WA ?_
  refine zb rfl ?_
  refine WA ?_
  exact zq (us := [.a [.c (I 0), .c (I 0), .c (I 0), .c (.r (.slice none 0 0) [])], .c (I (12))]) [some 0] (fun g' => .t [.a [.c (I 0), .c (I 0), .c (I 0), .c (.r (.slice none 0 0) [])], .c (I (12))]) (fun _ => [mpO encP encT es ck]) (.cella (n := 4) rfl (by kernel_rfl) (Cells.box rfl) (by first | (simp; done) | exact Nat.le_refl 4) (by (try simp only [nm, putL, Nat.reduceAdd, cellsOf, cvOf]) <;> rfl) (.tmp rfl .nil)) (by decide) (by first | exact (ZNK rfl)) (fun g' => .tL (.cons (.aL (.cons (.c rfl) (.cons (.c rfl) (.cons (.c rfl) (.cons (.c rfl) .nil))))) (.cons (.c rfl) .nil))) ZCH (fun g' => ⟨.slice none 0 0, by rw [if_pos (.inr hy)]; rfl, rfl⟩)
 rw [if_neg (by omega)]
 refine WA ?_
 refine zd rfl ?_
 refine ZZ ?_
 obtain ⟨W, hW⟩ : ∃ W : Nat, (X1 - X0 + 1).toNat = W := ⟨_, rfl⟩
 obtain ⟨N, hN⟩ : ∃ N : Nat, (Y1 - Y0 + 1).toNat = N := ⟨_, rfl⟩
 rw [hW, hN]
 have mb : ∀ z : Int, -10000000 ≤ z ∧ z ≤ 10000000 → -100000000000000 ≤ z * st ∧ z * st ≤ 100000000000000 := fun z hz => by
  have h1 : (z * st).natAbs ≤ 10000000 * 1000000 := by rw [Int.natAbs_mul]; exact Nat.mul_le_mul (by omega) (by omega)
  omega
 have m1 := mb X0 (by omega)
 have m2 := mb Y0 (by omega)
 clear mb
 refine WA ?_
 refine WA ?_
 refine zk (fun m F H => ∃ (i c : Nat), m + i = N ∧ i ≤ c ∧ F = [(0, .mp 0), (1, .c (I st)), (4, .p 1 0 0), (6, .p 2 0 0), (7, .p 3 0 0), (9, .p 4 0 0), (10, .c (I (Y0 + (i : Nat))))] ∧ H = [mpO encP encT es ck, .box [.c (I 0), .c (I 0), .c (I 0), .c (.r (.slice none 0 0) [])], .box [.c (I X0), .c (I Y0)], .box [.c (I X1), .c (I Y1)], .box [.c (I st), .c (I (X0 * st)), .c (I (Y0 * st)), .o 5 0 (rowsB L X0 Y0 W i).length c], .arr 9 1 c (tR (rowsB L X0 Y0 W i))]) ?_ ?_
 ·refine zh [some 0, some 1, some 2, some 3, some 4, none] (fun _ => [(0, .mp 0), (1, .c (I st)), (4, .p 1 0 0), (6, .p 2 0 0), (7, .p 3 0 0), (9, .p 4 0 0), (10, .c (I (Y0 + (0 : Nat))))]) (fun _ => [mpO encP encT es ck, .box [.c (I 0), .c (I 0), .c (I 0), .c (.r (.slice none 0 0) [])], .box [.c (I X0), .c (I Y0)], .box [.c (I X1), .c (I Y1)], .box [.c (I st), .c (I (X0 * st)), .c (I (Y0 * st)), .o 5 0 (rowsB L X0 Y0 W 0).length 0], .arr 9 1 0 (tR (rowsB L X0 Y0 W 0))]) (by decide) (ZNL hE) ZCF ZCH (fun _ => ?_)
  exact ⟨N, 0, 0, by omega, by omega, rfl, rfl⟩
 rintro m F H ⟨i, c, hi, hic, rfl, rfl⟩
 refine WA ?_
 refine zl rfl (fun hlt => ?_) (fun hge => ?_)
 ·refine WA ?_
  refine WA ?_
  refine zk (fun m2 F H => ∃ (k : Nat), m2 + k = W ∧ F = [(0, .mp 0), (1, .c (I st)), (4, .p 1 0 0), (6, .p 2 0 0), (7, .p 3 0 0), (9, .p 4 0 0), (10, .c (I (Y0 + (i : Nat)))), (11, .c (T (rowB L X0 (Y0 + (i : Nat)) k))), (12, .c (I (X0 + (k : Nat))))] ∧ H = [mpO encP encT es ck, .box [.c (I 0), .c (I 0), .c (I 0), .c (.r (.slice none 0 0) [])], .box [.c (I X0), .c (I Y0)], .box [.c (I X1), .c (I Y1)], .box [.c (I st), .c (I (X0 * st)), .c (I (Y0 * st)), .o 5 0 (rowsB L X0 Y0 W i).length c], .arr 9 1 c (tR (rowsB L X0 Y0 W i))]) ?_ ?_
  ·refine zh [some 0, some 1, some 2, some 3, some 4, some 5] (fun _ => [(0, .mp 0), (1, .c (I st)), (4, .p 1 0 0), (6, .p 2 0 0), (7, .p 3 0 0), (9, .p 4 0 0), (10, .c (I (Y0 + (i : Nat)))), (11, .c (T (rowB L X0 (Y0 + (i : Nat)) 0))), (12, .c (I (X0 + (0 : Nat))))]) (fun _ => [mpO encP encT es ck, .box [.c (I 0), .c (I 0), .c (I 0), .c (.r (.slice none 0 0) [])], .box [.c (I X0), .c (I Y0)], .box [.c (I X1), .c (I Y1)], .box [.c (I st), .c (I (X0 * st)), .c (I (Y0 * st)), .o 5 0 (rowsB L X0 Y0 W i).length c], .arr 9 1 c (tR (rowsB L X0 Y0 W i))]) (by decide) (ZNL hE) ZCF ZCH (fun _ => ?_)
   exact ⟨W, 0, by omega, rfl, rfl⟩
  rintro m2 F H ⟨k, hk, rfl, rfl⟩
  have hrs := rowB_succ L X0 (Y0 + (i : Nat)) k
  have hrl := rowB_len L X0 (Y0 + (i : Nat)) k
  generalize hr : rowB L X0 (Y0 + (i : Nat)) k = r at *
  refine WA ?_
  refine zl rfl (fun hlt2 => ?_) (fun hge2 => ?_)
  ·by_cases hin : (X0 + (k : Nat), Y0 + (i : Nat)) ∈ L
   ·rw [if_pos hin] at hrs
    refine ZZ ?_
    refine zg [(0, none), (1, none), (2, none), (3, none), (4, none), (5, none), (7, none), (8, none), (9, none), (10, none), (11, none), (6, some [0, 7, 8, 9, 10, 11]), (12, some [0]), (13, none), (14, none), (15, none), (16, none)] zn (by kernel_rfl) ?_
    iterate 5 refine WX2 ?_
    refine ZT rfl (rd_lookPq (l := es) (decide_eq_true hin) hok keyP rfl Tryz.underlying90 (by kernel_rfl) rfl rfl rfl) ?_
    iterate 4 refine WX2 ?_
    refine ZT rfl (rd_lookPq (l := es) (decide_eq_true hin) hok keyP rfl Tryz.underlying90 (by kernel_rfl) rfl rfl rfl) ?_
    refine zY rfl rfl (za false (fun _ => truth_v true) rfl .fn rfl (by decide) (by kernel_rfl) rfl (fun _ => C0 rfl) (by simp)) ?_
    rintro _ _ ⟨_, _, _, ⟨rfl, rfl⟩, hF, hH⟩
    rw [if_pos rfl] at hF
    (refine NST hF hH ?_; clear hF hH; rintro rfl rfl)
    refine ⟨zj (by first | exact zu rfl rfl rfl (zB rfl rfl) rfl) (zj (by first | exact zu rfl rfl rfl (zB rfl rfl) rfl) (zj (by first | exact zu rfl rfl rfl (zB rfl rfl) rfl) (zj (by first | exact zu rfl rfl rfl (zB rfl rfl) rfl) (zj (by first | exact zu rfl rfl rfl (Zbld rfl (KZ (t := 87) rfl) rfl (KB (t := 87) rfl) (Zbc (z := Zbc (z := .nil)))) rfl) (zj (by first | exact zu rfl rfl rfl (rd_lookPq (l := es) (decide_eq_true hin) hok keyP rfl Tryz.underlying90 (by kernel_rfl) rfl rfl rfl) rfl) (zm)))))), ?_⟩
    refine zY rfl rfl (za false (fun _ => truth_v true) rfl .fn rfl (by decide) (by kernel_rfl) rfl (fun _ => C0 rfl) (by simp)) ?_
    rintro _ _ ⟨_, _, _, ⟨rfl, rfl⟩, hF, hH⟩
    rw [if_pos rfl] at hF
    (refine NST hF hH ?_; clear hF hH; rintro rfl rfl)
    refine ⟨zj (by first | exact zu rfl rfl rfl (zB rfl rfl) rfl) (zm), ?_⟩
    refine WX2 ?_
    refine ZT rfl (rd_slcs (l := [46, 35]) (i := 1) (j := 2) rfl Tryz.underlying9 rfl (.inr ⟨_, _, _, rfl, rfl, rfl⟩) (.inr ⟨_, _, _, rfl, rfl, rfl⟩) (by decide) (by decide)) ?_
    refine WQ ?_
    all_goals (
     refine WA ?_
     refine zh [some 0, some 1, some 2, some 3, some 4, some 5] (fun _ => [(0, .mp 0), (1, .c (I st)), (4, .p 1 0 0), (6, .p 2 0 0), (7, .p 3 0 0), (9, .p 4 0 0), (10, .c (I (Y0 + (i : Nat)))), (11, .c (T (r ++ [35]))), (12, .c (I (X0 + (k + 1 : Nat))))]) (fun _ => [mpO encP encT es ck, .box [.c (I 0), .c (I 0), .c (I 0), .c (.r (.slice none 0 0) [])], .box [.c (I X0), .c (I Y0)], .box [.c (I X1), .c (I Y1)], .box [.c (I st), .c (I (X0 * st)), .c (I (Y0 * st)), .o 5 0 (rowsB L X0 Y0 W i).length c], .arr 9 1 c (tR (rowsB L X0 Y0 W i))]) (by decide) (ZNL hE) ZCF ZCH (fun _ => ?_)
     exact ⟨m2 - 1, by omega, k + 1, by omega, by rw [hrs], rfl⟩)
   ·rw [if_neg hin] at hrs
    refine ZZ ?_
    refine zg [(0, none), (1, none), (2, none), (3, none), (4, none), (5, none), (7, none), (8, none), (9, none), (10, none), (11, none), (6, some [0, 7, 8, 9, 10, 11]), (12, some [0]), (13, none), (14, none), (15, none), (16, none)] zn (by kernel_rfl) ?_
    iterate 5 refine WX2 ?_
    refine ZT rfl (rd_lookPq (l := es) (decide_eq_false hin) hok keyP rfl Tryz.underlying90 (by kernel_rfl) rfl rfl rfl) ?_
    iterate 4 refine WX2 ?_
    refine ZT rfl (rd_lookPq (l := es) (decide_eq_false hin) hok keyP rfl Tryz.underlying90 (by kernel_rfl) rfl rfl rfl) ?_
    refine zY rfl rfl (za false (fun _ => truth_v false) rfl .fn rfl (by decide) (by kernel_rfl) rfl (fun _ => C0 rfl) (by simp)) ?_
    rintro _ _ ⟨_, _, _, ⟨rfl, rfl⟩, hF, hH⟩
    rw [if_neg Bool.false_ne_true] at hF
    (refine NST hF hH ?_; clear hF hH; rintro rfl rfl)
    refine ⟨zj (by first | exact zu rfl rfl rfl (zB rfl rfl) rfl) (zj (by first | exact zu rfl rfl rfl (zB rfl rfl) rfl) (zj (by first | exact zu rfl rfl rfl (zB rfl rfl) rfl) (zj (by first | exact zu rfl rfl rfl (zB rfl rfl) rfl) (zj (by first | exact zu rfl rfl rfl (Zbld rfl (KZ (t := 87) rfl) rfl (KB (t := 87) rfl) (Zbc (z := Zbc (z := .nil)))) rfl) (zj (by first | exact zu rfl rfl rfl (rd_lookPq (l := es) (decide_eq_false hin) hok keyP rfl Tryz.underlying90 (by kernel_rfl) rfl rfl rfl) rfl) (zm)))))), ?_⟩
    refine zY rfl rfl (za false (fun _ => truth_v false) rfl .fn rfl (by decide) (by kernel_rfl) rfl (fun _ => C0 rfl) (by simp)) ?_
    rintro _ _ ⟨_, _, _, ⟨rfl, rfl⟩, hF, hH⟩
    rw [if_neg Bool.false_ne_true] at hF
    (refine NST hF hH ?_; clear hF hH; rintro rfl rfl)
    refine ⟨zj (by first | exact zu rfl rfl rfl (zB rfl rfl) rfl) (zm), ?_⟩
    refine WX2 ?_
    refine ZT rfl (rd_slcs (l := [46, 35]) (i := 0) (j := 1) rfl Tryz.underlying9 rfl (.inr ⟨_, _, _, rfl, rfl, rfl⟩) (.inr ⟨_, _, _, rfl, rfl, rfl⟩) (by decide) (by decide)) ?_
    refine WQ ?_
    all_goals (
     refine WA ?_
     refine zh [some 0, some 1, some 2, some 3, some 4, some 5] (fun _ => [(0, .mp 0), (1, .c (I st)), (4, .p 1 0 0), (6, .p 2 0 0), (7, .p 3 0 0), (9, .p 4 0 0), (10, .c (I (Y0 + (i : Nat)))), (11, .c (T (r ++ [46]))), (12, .c (I (X0 + (k + 1 : Nat))))]) (fun _ => [mpO encP encT es ck, .box [.c (I 0), .c (I 0), .c (I 0), .c (.r (.slice none 0 0) [])], .box [.c (I X0), .c (I Y0)], .box [.c (I X1), .c (I Y1)], .box [.c (I st), .c (I (X0 * st)), .c (I (Y0 * st)), .o 5 0 (rowsB L X0 Y0 W i).length c], .arr 9 1 c (tR (rowsB L X0 Y0 W i))]) (by decide) (ZNL hE) ZCF ZCH (fun _ => ?_)
     exact ⟨m2 - 1, by omega, k + 1, by omega, by rw [hrs], rfl⟩)
  obtain rfl : k = W := by omega
  have hsn := rowsB_succ L X0 Y0 k i
  have hsl := rowsB_len L X0 Y0 k i
  rw [hr] at hsn
  generalize hRr : rowsB L X0 Y0 k i = R at *
  refine ZZ ?_
  refine WR ?_
  refine zf rfl (Zapp (KA (t := 26) rfl)) ?_
  rintro _ _ ⟨_, cc, hcc, rfl, rfl⟩
  refine WE ?_
  refine WA ?_
  refine zh [some 0, some 1, some 2, some 3, some 4, some 5] (fun _ => [(0, .mp 0), (1, .c (I st)), (4, .p 1 0 0), (6, .p 2 0 0), (7, .p 3 0 0), (9, .p 4 0 0), (10, .c (I (Y0 + (i + 1 : Nat))))]) (fun _ => [mpO encP encT es ck, .box [.c (I 0), .c (I 0), .c (I 0), .c (.r (.slice none 0 0) [])], .box [.c (I X0), .c (I Y0)], .box [.c (I X1), .c (I Y1)], .box [.c (I st), .c (I (X0 * st)), .c (I (Y0 * st)), .o 5 0 (R ++ [r]).length cc], .arr 9 1 cc (tR (R ++ [r]))]) (by decide) (ZNL hE) ZCF ZCH (fun _ => ?_)
  exact ⟨m - 1, by omega, i + 1, cc, by omega, by omega, rfl, by rw [hsn]⟩
 obtain rfl : i = N := by omega
 have hRl : ∀ r ∈ rowsB L X0 Y0 W i, r.length ≤ 1000000000 := fun r hr => by
  obtain ⟨j, _, rfl⟩ := List.mem_map.1 hr
  rw [rowB_len]; omega
 have hsl := rowsB_len L X0 Y0 W i
 generalize hRr : rowsB L X0 Y0 W i = R at *
 refine ZZ ?_
 refine WR ?_
 refine zf rfl (za true (fun g' => rcheck_v (g' (.o 5 0 R.length c)) ⟨st, X0 * st, Y0 * st, R⟩ (by simp only; omega) hRl) rfl .fn rfl (by decide) (by kernel_rfl) rfl (fun _ => .cons (.aL (.cons (.c rfl) (.cons (.c rfl) (.cons (.c rfl) (.cons (.frz rfl rfl (by rw [List.drop_zero, List.take_of_length_le (by simp)]) (by simp) rfl) .nil))))) .nil) (fun _ _ _ _ ⟨hu, hH⟩ => by rw [hu, hH]; exact ⟨.c (.inl trivial), by simp⟩)) ?_
 rintro _ _ ⟨_, _, _, ⟨rfl, rfl⟩, hF, hH⟩
 (refine NST hF hH ?_; clear hF hH; rintro rfl rfl)
 refine WE ?_
 generalize hq : celF ⟨st, X0 * st, Y0 * st, R⟩ = q at *
 refine WA ?_
 refine zl rfl (fun h9 => ?_) (fun h9 => ?_)
 ·refine WA ?_
  exact zq (us := [.a [.c (I 0), .c (I 0), .c (I 0), .c (.r (.slice none 0 0) [])], .c (I (q))]) [some 0] (fun g' => .t [.a [.c (I 0), .c (I 0), .c (I 0), .c (.r (.slice none 0 0) [])], .c (I (q))]) (fun _ => [mpO encP encT es ck]) (.cella (n := 4) rfl (by kernel_rfl) (Cells.box rfl) (by first | (simp; done) | exact Nat.le_refl 4) (by (try simp only [nm, putL, Nat.reduceAdd, cellsOf, cvOf]) <;> rfl) (.tmp rfl .nil)) (by decide) (by first | exact (ZNK rfl)) (fun g' => .tL (.cons (.aL (.cons (.c rfl) (.cons (.c rfl) (.cons (.c rfl) (.cons (.c rfl) .nil))))) (.cons (.c rfl) .nil))) ZCH (fun g' => ⟨.slice none 0 0, by rw [if_pos h9]; rfl, rfl⟩)
 ·refine ZZ ?_
  refine WA ?_
  exact zq (us := [.a [.c (I st), .c (I (X0 * st)), .c (I (Y0 * st)), .o 5 0 R.length c], .c (I (0))]) [some 0] (fun g' => .t [.a [.c (I st), .c (I (X0 * st)), .c (I (Y0 * st)), .c (.r (g' (.o 5 0 R.length c)) (tR R))], .c (I (0))]) (fun _ => [mpO encP encT es ck]) (.cella (n := 4) rfl (by kernel_rfl) (Cells.box rfl) (by first | (simp; done) | exact Nat.le_refl 4) (by (try simp only [nm, putL, Nat.reduceAdd, cellsOf, cvOf]) <;> rfl) (.tmp rfl .nil)) (by decide) (by first | exact (ZNK rfl)) (fun g' => .tL (.cons (.aL (.cons (.c rfl) (.cons (.c rfl) (.cons (.c rfl) (.cons (.frz rfl rfl (by rw [List.drop_zero, List.take_of_length_le (by simp)]) (by simp) rfl) .nil))))) (.cons (.c rfl) .nil))) ZCH (fun g' => ⟨g' (.o 5 0 R.length c), by rw [if_neg h9], rfl⟩)
theorem cov_bd {c : Cel} (hst : 1 ≤ c.st) (hx : -2000000 ≤ c.x ∧ c.x ≤ 2000000) (hy : -2000000 ≤ c.y ∧ c.y ≤ 2000000) (hl : c.rows.length ≤ 1000000) (hr : ∀ r ∈ c.rows, r.length ≤ 1000000) : ∀ p ∈ covL c, (-10000000 ≤ p.1 ∧ p.1 ≤ 10000000) ∧ (-10000000 ≤ p.2 ∧ p.2 ≤ 10000000) := fun p hp => by
 obtain ⟨i, k, r, q1, q2, rfl⟩ := hitC_mem.1 hp
 have k1 := (List.getElem?_eq_some_iff.1 q1).1
 have k2 := (List.getElem?_eq_some_iff.1 q2).1
 have k3 := hr r (List.mem_of_getElem? q1)
 have hX := tdiv_bd hst hx
 have hY := tdiv_bd hst hy
 simp only
 omega
set_option maxHeartbeats 1000000 in
theorem trimmed_v (va : Value) (c : Cel) (hst : 1 ≤ c.st ∧ c.st ≤ 1000000) (hx : -2000000 ≤ c.x ∧ c.x ≤ 2000000) (hy : -2000000 ≤ c.y ∧ c.y ≤ 2000000) (hl : c.rows.length ≤ 1000000) (hr : ∀ r ∈ c.rows, r.length ≤ 1000000 ∧ okB2 r = true) : ACalls Tryz.prog 34 [celA va c] [] fun u H => ∃ v', u = celA v' (normC c.st (covL c)).1 ∧ H = [] := by
 have hbd := cov_bd hst.1 hx hy hl (fun r h => (hr r h).1)
 have hx5 : -1000000000000 ≤ c.x ∧ c.x ≤ 1000000000000 := by omega
 have hy5 : -1000000000000 ≤ c.y ∧ c.y ≤ 1000000000000 := by omega
 have hl5 : c.rows.length ≤ 1000000000 := by omega
 have hst5 : -1000000 ≤ c.st ∧ c.st ≤ 1000000 := by omega
 have hR : ∀ r ∈ c.rows, r.length ≤ 1000000000 ∧ okB2 r = true := fun r h => ⟨by have := (hr r h).1; omega, (hr r h).2⟩
 refine ze (N := 14) Tryz.func34 rfl rfl (by simp) fun E hE => ?_
 refine WA ?_
 refine ZZ ?_
 refine aw_regionM [[(0, none), (2, none), (3, none), (1, some [2, 3]), (4, some []), (5, none), (6, none), (7, none), (8, some [0, 2, 3, 5, 6, 7]), (9, some [7]), (10, none)], [(0, none), (2, none), (3, none), (1, some [2, 3]), (8, some [0, 2, 3]), (4, some []), (5, none), (6, none), (7, none), (9, some [7]), (10, none)], [(0, none), (2, none), (3, none), (8, some [0, 2, 3]), (1, some [2, 3]), (4, some []), (5, none), (6, none), (7, none), (9, some [7]), (10, none)]] zn (by kernel_rfl) ?_
 focus
  refine WM ?_
  refine am_two (by rfl) (by rfl) (by rfl) ?_ ?_
  rotate_left
  refine WM ?_
  refine zW1 (i := 1) (by rfl) (by rfl) rfl rfl (za false (fun _ => setof_v va c (by omega) hx5 hy5 hl5 hR) rfl .fn rfl (by decide) (by kernel_rfl) rfl (fun _ => C0 rfl) (by simp)) ?_
  rintro _ _ ⟨_, _, _, ⟨es, ck, hes, rfl, rfl⟩, hF, hH⟩
  (refine NSU hF hH ?_; clear hF hH; rintro rfl rfl)
  refine ⟨AGX, ?_⟩
  first | refine zW1 (i := 4) (by rfl) (by rfl) rfl rfl (zD [2] (fun _ => [mpO encP encT es ck]) false (fun _ => cellsof_v es ck _ hes c.st hst5 hbd) rfl .fn rfl (by decide) (by kernel_rfl) rfl ZCH (by decide) ZCH (by simp)) ?_ | refine zW1 (i := 4) (by rfl) (by rfl) rfl rfl (zD [3] (fun _ => [mpO encP encT es ck]) false (fun _ => cellsof_v es ck _ hes c.st hst5 hbd) rfl .fn rfl (by decide) (by kernel_rfl) rfl ZCH (by decide) ZCH (by simp)) ?_
  rintro F1 H1 ⟨_, _, _, _, ⟨v', rfl, rfl⟩, hF, hH⟩
  (refine NSU hF hH ?_; clear hF hH; rintro rfl rfl)
  refine ⟨AGX, ?_⟩
  refine WN ?_
  rotate_right
  refine zW1 (i := 1) (by rfl) (by rfl) rfl rfl (za false (fun _ => setof_v va c (by omega) hx5 hy5 hl5 hR) rfl .fn rfl (by decide) (by kernel_rfl) rfl (fun _ => C0 rfl) (by simp)) ?_
  rintro _ _ ⟨_, _, _, ⟨es, ck, hes, rfl, rfl⟩, hF, hH⟩
  (refine NSU hF hH ?_; clear hF hH; rintro rfl rfl)
  refine ⟨AGX, ?_⟩
  refine am_two (by rfl) (by rfl) (by rfl) ?_ ?_
  rotate_left
  refine WM ?_
  first | refine zW1 (i := 4) (by rfl) (by rfl) rfl rfl (zD [2] (fun _ => [mpO encP encT es ck]) false (fun _ => cellsof_v es ck _ hes c.st hst5 hbd) rfl .fn rfl (by decide) (by kernel_rfl) rfl ZCH (by decide) ZCH (by simp)) ?_ | refine zW1 (i := 4) (by rfl) (by rfl) rfl rfl (zD [3] (fun _ => [mpO encP encT es ck]) false (fun _ => cellsof_v es ck _ hes c.st hst5 hbd) rfl .fn rfl (by decide) (by kernel_rfl) rfl ZCH (by decide) ZCH (by simp)) ?_
  rintro F1 H1 ⟨_, _, _, _, ⟨v', rfl, rfl⟩, hF, hH⟩
  (refine NSU hF hH ?_; clear hF hH; rintro rfl rfl)
  refine ⟨AGX, ?_⟩
  refine WN ?_
  rotate_right
  first | refine zW1 (i := 4) (by rfl) (by rfl) rfl rfl (zD [2] (fun _ => [mpO encP encT es ck]) false (fun _ => cellsof_v es ck _ hes c.st hst5 hbd) rfl .fn rfl (by decide) (by kernel_rfl) rfl ZCH (by decide) ZCH (by simp)) ?_ | refine zW1 (i := 4) (by rfl) (by rfl) rfl rfl (zD [3] (fun _ => [mpO encP encT es ck]) false (fun _ => cellsof_v es ck _ hes c.st hst5 hbd) rfl .fn rfl (by decide) (by kernel_rfl) rfl ZCH (by decide) ZCH (by simp)) ?_
  rintro F1 H1 ⟨_, _, _, _, ⟨v', rfl, rfl⟩, hF, hH⟩
  (refine NSU hF hH ?_; clear hF hH; rintro rfl rfl)
  refine ⟨AGX, ?_⟩
  refine WN ?_
 all_goals (
  refine WA ?_
  exact aret_a [] _ rfl (KK (t := 28) rfl) rfl (Cells.box rfl) (by first | (simp; done) | exact Nat.le_refl 4) (by (try simp only [nm, putL, Nat.reduceAdd, cellsOf, cvOf]) <;> rfl) (by decide) (ZNK rfl) (fun _ => C0 rfl) (fun _ => .nil) ⟨v', rfl, rfl⟩)
end Go.Proofs.YtfilfijammemfaaGreatDoor
-- NEWM
namespace Go.Proofs.YtfilfijammemfaaGreatDoor
open Go Go.RowKit
set_option maxRecDepth 100000
abbrev sR (l : List Spot) : List (List CV) := l.map fun p => [I p.1, I p.2]
end Go.Proofs.YtfilfijammemfaaGreatDoor
-- NEWM
namespace Go.Proofs.YtfilfijammemfaaGreatDoor
open Go Go.RowKit
set_option maxRecDepth 100000
end Go.Proofs.YtfilfijammemfaaGreatDoor
-- NEWM
namespace Go.Proofs.YtfilfijammemfaaGreatDoor
open Go Go.RowKit
set_option maxRecDepth 100000
theorem hitR_len {x y : Int} : ∀ r : List UInt8, (hitR x y r).length ≤ r.length := fun r => by
 induction r generalizing x with
 | nil => simp [hitR]
 | cons b r ih =>
  unfold hitR
  have := ih (x := x + 1)
  split <;> (simp only [List.length_cons]; omega)
theorem hitC_len {x : Int} {M : Nat} : ∀ {rs : List (List UInt8)} {y : Int}, (∀ r ∈ rs, r.length ≤ M) → (hitC x y rs).length ≤ rs.length * M
 | [], y, _ => by simp [hitC]
 | r :: rs, y, h => by
  have h1 := hitC_len (x := x) (y := y + 1) (fun q hq => h q (List.mem_cons_of_mem _ hq))
  have h2 := hitR_len (x := x) (y := y) r
  have h3 := h r List.mem_cons_self
  rw [hitC, List.length_append, List.length_cons, Nat.succ_mul]
  omega
theorem len_take {α : Type} {l : List α} {P : α → Prop} {k : Nat} (h : ∀ r ∈ l, P r) : ∀ r ∈ l.take k, P r := fun r hr => h r (List.mem_of_mem_take hr)
set_option maxHeartbeats 1000000 in
theorem places_v (va : Value) (c : Cel) (hst : 1 ≤ c.st) (hx : -1000000000000 ≤ c.x ∧ c.x ≤ 1000000000000) (hy : -1000000000000 ≤ c.y ∧ c.y ≤ 1000000000000) (hl : c.rows.length ≤ 10000) (hr : ∀ r ∈ c.rows, r.length ≤ 10000) : ACalls Tryz.prog 92 [celA va c] [] fun u H => ∃ v, u = .c (.r v (sR (covL c))) ∧ H = [] := by
 have hX := tdiv_bd hst hx
 have hY := tdiv_bd hst hy
 have e1 : (tR c.rows).length = c.rows.length := by simp
 refine ze (N := 45) Tryz.func92 rfl rfl (by simp) fun E hE => ?_
 refine WA ?_
 refine WA ?_
 refine WA ?_
 refine zk (fun m F H => ∃ (i cp : Nat), m + i = c.rows.length ∧ F = [(1, .p 0 0 0), (3, .o 1 0 (hitC (c.x.tdiv c.st) (c.y.tdiv c.st) (c.rows.take i)).length cp), (8, .c (.r va (tR c.rows))), (9, .c (I (tR c.rows).length)), (10, .c (I i))] ∧ H = [celB va c, .arr 162 2 cp (sR (hitC (c.x.tdiv c.st) (c.y.tdiv c.st) (c.rows.take i)))]) ?_ ?_
 ·refine zh [some 0, none] (fun _ => [(1, .p 0 0 0), (3, .o 1 0 0 0), (8, .c (.r va (tR c.rows))), (9, .c (I (tR c.rows).length)), (10, .c (I (0 : Nat)))]) (fun _ => [celB va c, .arr 162 2 0 (sR [])]) (by decide) (ZNL hE) ZCF ZCH (fun _ => ?_)
  exact ⟨c.rows.length, 0, 0, by omega, rfl, rfl⟩
 rintro m F H ⟨i, cp, hi, rfl, rfl⟩
 refine WA ?_
 refine zl rfl (fun hlt => ?_) (fun hge => ?_)
 ·obtain ⟨r, hri⟩ : ∃ r, c.rows[i]? = some r := ⟨_, List.getElem?_eq_getElem (by omega)⟩
  have hrow : (tR c.rows)[i]? = some [T r] := by rw [List.getElem?_map, hri]; rfl
  have hrl := hr r (List.mem_of_getElem? hri)
  have htk : c.rows.take (i + 1) = c.rows.take i ++ [r] := by rw [List.take_add_one, hri]; rfl
  have hil : (c.rows.take i).length = i := by rw [List.length_take]; omega
  have hnx : ∀ k, k ≤ r.length → hitC (c.x.tdiv c.st) (c.y.tdiv c.st) (c.rows.take i ++ [r.take k]) = hitC (c.x.tdiv c.st) (c.y.tdiv c.st) (c.rows.take i) ++ hitR (c.x.tdiv c.st) (c.y.tdiv c.st + (i : Nat)) (r.take k) := fun k hk => by
   rw [hitC_append, hil]; simp [hitC]
  have hbig : ∀ k, (hitC (c.x.tdiv c.st) (c.y.tdiv c.st) (c.rows.take i ++ [r.take k])).length ≤ 1000000000 := fun k => by
   have := hitC_len (x := c.x.tdiv c.st) (y := c.y.tdiv c.st) (rs := c.rows.take i ++ [r.take k]) (M := 10000) (fun q hq => by
    rcases List.mem_append.1 hq with hq | hq
    ·exact len_take hr q hq
    ·rw [List.mem_singleton.1 hq, List.length_take]; omega)
   have h2 : (c.rows.take i ++ [r.take k]).length ≤ 10001 := by rw [List.length_append, hil]; simp; omega
   have h3 := Nat.mul_le_mul_right 10000 h2
   omega
  refine WA ?_
  refine WA ?_
  refine zk (fun m2 F H => ∃ (k cp : Nat), m2 + k = r.length ∧ F = [(1, .p 0 0 0), (3, .o 1 0 (hitC (c.x.tdiv c.st) (c.y.tdiv c.st) (c.rows.take i ++ [r.take k])).length cp), (4, .c (I i)), (5, .c (T r)), (8, .c (.r va (tR c.rows))), (9, .c (I (tR c.rows).length)), (10, .c (I i)), (16, .c (I r.length)), (17, .c (I k))] ∧ H = [celB va c, .arr 162 2 cp (sR (hitC (c.x.tdiv c.st) (c.y.tdiv c.st) (c.rows.take i ++ [r.take k])))]) ?_ ?_
  ·have h0 := hnx 0 (Nat.zero_le _)
   rw [List.take_zero, hitR, List.append_nil] at h0
   refine zh [some 0, some 1] (fun _ => [(1, .p 0 0 0), (3, .o 1 0 (hitC (c.x.tdiv c.st) (c.y.tdiv c.st) (c.rows.take i)).length cp), (4, .c (I i)), (5, .c (T r)), (8, .c (.r va (tR c.rows))), (9, .c (I (tR c.rows).length)), (10, .c (I i)), (16, .c (I r.length)), (17, .c (I (0 : Nat)))]) (fun _ => [celB va c, .arr 162 2 cp (sR (hitC (c.x.tdiv c.st) (c.y.tdiv c.st) (c.rows.take i)))]) (by decide) (ZNL hE) ZCF ZCH (fun _ => ?_)
   exact ⟨r.length, 0, cp, by omega, by rw [List.take_zero, h0], by rw [List.take_zero, h0]⟩
  clear cp
  rintro m2 F H ⟨k, cp, hk, rfl, rfl⟩
  have hbk := hbig k
  generalize hA : hitC (c.x.tdiv c.st) (c.y.tdiv c.st) (c.rows.take i ++ [r.take k]) = A at *
  by_cases hkl : k < r.length
  ·obtain ⟨b, hb⟩ : ∃ b, r[k]? = some b := ⟨_, List.getElem?_eq_getElem hkl⟩
   have hrk : r.take (k + 1) = r.take k ++ [b] := by rw [List.take_add_one, hb]; rfl
   have hkl2 : (r.take k).length = k := by rw [List.length_take]; omega
   have hA2 : hitC (c.x.tdiv c.st) (c.y.tdiv c.st) (c.rows.take i ++ [r.take (k + 1)]) = A ++ (if b = 35 then [(c.x.tdiv c.st + (k : Nat), c.y.tdiv c.st + (i : Nat))] else []) := by
    rw [hnx _ (by omega), hrk, hitR_append, hkl2, ← List.append_assoc, ← hnx k (by omega), hA]; simp [hitR]
   have h35 := u8_35 b
   refine WA ?_
   refine zb rfl ?_
   refine WA ?_
   refine ZR ?_
   iterate 2 refine WX1 ?_
   refine ZA (rd_idxs (i := k) rfl Tryz.underlying9 rfl rfl rfl hb) ?_
   refine WE ?_
   refine zl rfl (fun hb5 => ?_) (fun hb5 => ?_)
   ·rw [decide_eq_true hb5] at h35
    rw [if_pos (by simpa using h35.symm)] at hA2
    refine ZZ ?_
    refine zg [(0, none), (1, none), (2, none), (3, none), (4, none), (5, none), (6, none), (7, none), (8, none), (9, none), (10, none), (11, none), (12, none), (13, none), (14, none), (15, none), (16, some [0]), (17, some []), (18, none)] zn (by kernel_rfl) ?_
    refine WP ?_
    refine zY rfl rfl (Zapp (KA (t := 159) rfl)) ?_
    rintro _ _ ⟨_, cc, hcc, rfl, rfl⟩
    refine ⟨zm, ?_⟩
    refine WQ ?_
    refine zC1 (zh (K := fun F H => F = [(1, .p 0 0 0), (3, .o 1 0 (A ++ [(c.x.tdiv c.st + (k : Nat), c.y.tdiv c.st + (i : Nat))]).length cc), (4, .c (I i)), (5, .c (T r)), (8, .c (.r va (tR c.rows))), (9, .c (I (tR c.rows).length)), (10, .c (I i)), (16, .c (I r.length)), (17, .c (I k))] ∧ H = [celB va c, .arr 162 2 cc (sR (A ++ [(c.x.tdiv c.st + (k : Nat), c.y.tdiv c.st + (i : Nat))]))]) [some 0, some 1] (fun _ => [(1, .p 0 0 0), (3, .o 1 0 (A ++ [(c.x.tdiv c.st + (k : Nat), c.y.tdiv c.st + (i : Nat))]).length cc), (4, .c (I i)), (5, .c (T r)), (8, .c (.r va (tR c.rows))), (9, .c (I (tR c.rows).length)), (10, .c (I i)), (16, .c (I r.length)), (17, .c (I k))]) (fun _ => [celB va c, .arr 162 2 cc (sR (A ++ [(c.x.tdiv c.st + (k : Nat), c.y.tdiv c.st + (i : Nat))]))]) (by decide) (ZNL hE) ZCF ZCH (fun _ => ⟨rfl, rfl⟩)) ?_
    rintro F H ⟨rfl, rfl⟩
    rw [← hA2]
    generalize hA3 : hitC (c.x.tdiv c.st) (c.y.tdiv c.st) (c.rows.take i ++ [r.take (k + 1)]) = A3 at *
    refine WA ?_
    refine zh [some 0, some 1] (fun _ => [(1, .p 0 0 0), (3, .o 1 0 A3.length cc), (4, .c (I i)), (5, .c (T r)), (8, .c (.r va (tR c.rows))), (9, .c (I (tR c.rows).length)), (10, .c (I i)), (16, .c (I r.length)), (17, .c (I (k + 1 : Nat)))]) (fun _ => [celB va c, .arr 162 2 cc (sR A3)]) (by decide) (ZNL hE) ZCF ZCH (fun _ => ?_)
    exact ⟨m2 - 1, by omega, k + 1, cc, by omega, by rw [hA3], by rw [hA3]⟩
   ·rw [decide_eq_false hb5] at h35
    rw [if_neg (by simpa using h35.symm), List.append_nil] at hA2
    refine ZZ ?_
    refine WA ?_
    refine zh [some 0, some 1] (fun _ => [(1, .p 0 0 0), (3, .o 1 0 A.length cp), (4, .c (I i)), (5, .c (T r)), (8, .c (.r va (tR c.rows))), (9, .c (I (tR c.rows).length)), (10, .c (I i)), (16, .c (I r.length)), (17, .c (I (k + 1 : Nat)))]) (fun _ => [celB va c, .arr 162 2 cp (sR A)]) (by decide) (ZNL hE) ZCF ZCH (fun _ => ?_)
    exact ⟨m2 - 1, by omega, k + 1, cp, by omega, by rw [hA2], by rw [hA2]⟩
  obtain rfl : k = r.length := by omega
  rw [List.take_length, ← htk] at hA
  refine WA ?_
  refine zd rfl ?_
  refine ZZ ?_
  refine WA ?_
  refine zh [some 0, some 1] (fun _ => [(1, .p 0 0 0), (3, .o 1 0 A.length cp), (8, .c (.r va (tR c.rows))), (9, .c (I (tR c.rows).length)), (10, .c (I (i + 1 : Nat)))]) (fun _ => [celB va c, .arr 162 2 cp (sR A)]) (by decide) (ZNL hE) ZCF ZCH (fun _ => ?_)
  exact ⟨m - 1, by omega, i + 1, cp, by omega, by rw [hA], by rw [hA]⟩
 obtain rfl : i = c.rows.length := by omega
 rw [List.take_length]
 refine ZZ ?_
 refine WA ?_
 exact aret_f1 (rs := sR (covL c)) [] _ rfl rfl rfl rfl (by rw [List.drop_zero, List.take_of_length_le (by simp)]; rfl) (by rw [List.length_map]; rfl) rfl (by decide) (ZNK rfl) ZCH (fun q => ⟨q, rfl, rfl⟩)
theorem idxpl_v (xf xt : Int) (l : List Spot) (v : Value) (hl : l.length ≤ 1000000000) : ACalls Tryz.prog 136 [.c (.r v (sR l)), .a [.c (I xf), .c (I xt)]] [] fun u H => ∃ r : Int, u = .c (I r) ∧ H = [] ∧ (0 ≤ r ↔ (xf, xt) ∈ l) := by
 have e1 : (sR l).length = l.length := by simp
 refine ze (N := 19) Tryz.func136 rfl rfl (by simp) fun E hE => ?_
 refine WA ?_
 refine WA ?_
 refine zk (fun m F H => ∃ (k : Nat), m + k = l.length ∧ ((xf, xt) ∈ l.drop k ↔ (xf, xt) ∈ l) ∧ F = [(0, .c (.r v (sR l))), (3, .p 0 0 0), (7, .c (I (sR l).length)), (8, .c (I k))] ∧ H = [.box [.c (I xf), .c (I xt)]]) ?_ ?_
 ·refine zh [some 0] (fun _ => [(0, .c (.r v (sR l))), (3, .p 0 0 0), (7, .c (I (sR l).length)), (8, .c (I (0 : Nat)))]) (fun _ => [.box [.c (I xf), .c (I xt)]]) (by decide) (ZNL hE) ZCF ZCH (fun _ => ?_)
  exact ⟨l.length, 0, by omega, Iff.rfl, rfl, rfl⟩
 rintro m F H ⟨k, hk, hf, rfl, rfl⟩
 refine WA ?_
 refine zl rfl (fun hlt => ?_) (fun hge => ?_)
 ·obtain ⟨⟨zx, zy⟩, hz⟩ : ∃ e, l[k]? = some e := ⟨_, List.getElem?_eq_getElem (by omega)⟩
  have hfd : (xf, xt) ∈ l.drop k ↔ (xf = zx ∧ xt = zy) ∨ (xf, xt) ∈ l.drop (k + 1) := by
   obtain ⟨h1, h2⟩ := List.getElem?_eq_some_iff.1 hz
   rw [List.drop_eq_getElem_cons h1, List.mem_cons, h2]; simp
  have hrow : (sR l)[k]? = some [I zx, I zy] := by rw [List.getElem?_map, hz]; rfl
  refine WA ?_
  refine ZZ ?_
  refine zg [(0, none), (1, none), (2, none), (3, none), (4, none), (5, none)] zn (by kernel_rfl) ?_
  iterate 5 refine WX2 ?_
  refine ZT rfl (rd_eqla162 rfl rfl rfl) ?_
  refine WQ ?_
  refine zl rfl (fun heq => ?_) (fun hne => ?_)
  ·refine WA ?_
   exact zi [] _ rfl rfl rfl (by decide) (ZNK rfl) (fun _ => .nil) ⟨_, rfl, rfl, ⟨fun _ => hf.1 (hfd.2 (.inl heq)), fun _ => by omega⟩⟩
  ·refine ZZ ?_
   refine WA ?_
   refine zh [some 0] (fun _ => [(0, .c (.r v (sR l))), (3, .p 0 0 0), (7, .c (I (sR l).length)), (8, .c (I (k + 1 : Nat)))]) (fun _ => [.box [.c (I xf), .c (I xt)]]) (by decide) (ZNL hE) ZCF ZCH (fun _ => ?_)
   exact ⟨m - 1, by omega, k + 1, by omega, ⟨fun h => hf.1 (hfd.2 (.inr h)), fun h => (hfd.1 (hf.2 h)).resolve_left hne⟩, rfl, rfl⟩
 refine WA ?_
 refine zi [] _ rfl rfl rfl (by decide) (ZNK rfl) (fun _ => .nil) ⟨_, rfl, rfl, ?_⟩
 rw [← hf, List.drop_eq_nil_of_le (by omega)]; simp
theorem haspl_v (xf xt : Int) (l : List Spot) (v : Value) (hl : l.length ≤ 1000000000) : ACalls Tryz.prog 95 [.c (.r v (sR l)), .a [.c (I xf), .c (I xt)]] [] fun u H => u = .c (B (decide ((xf, xt) ∈ l))) ∧ H = [] := by
 refine ze (N := 9) Tryz.func95 rfl rfl (by simp) fun E hE => ?_
 refine WA ?_
 refine WR ?_
 refine zf rfl (za false (fun _ => idxpl_v xf xt l v hl) rfl .fn rfl (by decide) (by kernel_rfl) rfl (fun _ => C0 rfl) (by simp)) ?_
 rintro _ _ ⟨_, _, _, ⟨r, rfl, rfl, hr⟩, hF, hH⟩
 (refine NST hF hH ?_; clear hF hH; rintro rfl rfl)
 refine WE ?_
 refine zi [] _ rfl rfl rfl (by decide) (ZNK rfl) (fun _ => .nil) ⟨congrArg (fun z => AV.c (B z)) ?_, rfl⟩
 rw [Bool.eq_iff_iff, decide_eq_true_iff, decide_eq_true_iff, hr]
end Go.Proofs.YtfilfijammemfaaGreatDoor
-- NEWM
namespace Go.Proofs.YtfilfijammemfaaGreatDoor
open Go Go.RowKit
set_option maxRecDepth 100000
end Go.Proofs.YtfilfijammemfaaGreatDoor
