/- The reference's shrinking, by value: ShrunkBy. -/
import Derived.Test.YtfilfijammemfaaGreatDoorQbc
set_option linter.unusedSimpArgs false
set_option linter.unusedVariables false
/- The reference's cells of a set, by value: cellsOf, Trimmed. -/
-- NEWM
namespace Go.Proofs.YtfilfijammemfaaGreatDoor
open Go Go.RowKit
set_option maxRecDepth 100000
theorem truth_v (b : Bool) : ACalls Tryz.prog 122 [.c (B b)] [] fun u H => u = .c (I (if b = true then 1 else 0)) ∧ H = [] := by
 refine acalls_of (N := 4) Tryz.func122 rfl rfl (by simp) fun E hE => ?_
 cases b with
 | true =>
  refine WA ?_
  refine WA ?_
  refine aw_cond_t rfl ?_
  refine WA ?_
  exact aret_1 [] _ rfl rfl rfl (by decide) (ZNK rfl) (fun _ => .nil) ⟨rfl, rfl⟩
 | false =>
  refine WA ?_
  refine WA ?_
  refine aw_cond_f rfl ?_
  refine ZZ ?_
  refine WA ?_
  exact aret_1 [] _ rfl rfl rfl (by decide) (ZNK rfl) (fun _ => .nil) ⟨rfl, rfl⟩
theorem rd_lookPq {P : Program} {N : Nat} {E : Env} {F : Fm} {H : List OB} {o : Oper} {t kt et : TypeId} {x ix : Operand} {b ck : Nat} {l : SE} {L : List Spot} {p q : Int} {v : Bool} (hv : decide ((p, q) ∈ L) = v) (hok : SetOk l ck L) (hk : KeyOk P kt encP) (ho : o.op = .lookup t x ix false) (ht : P.underlying t = some (.map kt et)) (hz : (P.info? et).bind (·.zero) = some (.bool false))
    (hx : ev F x = some (.mp b)) (hH : H[b]? = some (mpO encP encT l ck)) (hi : ev F ix = some (.a [.c (.s (.int .i64 p)), .c (.s (.int .i64 q))])) : Rd P N E o F H (.c (B v)) := hv ▸ rd_lookP hok hk ho ht hz hx hH hi
set_option maxHeartbeats 4000000 in
theorem cellsof_v (es : SE) (ck : Nat) (L : List Spot) (hok : SetOk es ck L) (st : Int) (hst : -1000000 ≤ st ∧ st ≤ 1000000) (hb : ∀ p ∈ L, (-10000000 ≤ p.1 ∧ p.1 ≤ 10000000) ∧ (-10000000 ≤ p.2 ∧ p.2 ≤ 10000000)) : ACalls Tryz.prog 83 [.mp 0, .c (I st)] [mpO encP encT es ck] fun u H => ∃ v', u = .t [celA v' (normC st L).1, .c (I (normC st L).2)] ∧ H = [mpO encP encT es ck] := by
 by_cases hL : L = []
 ·have hem : (!L.isEmpty) = false := by rw [hL]; rfl
  refine acalls_of (N := 94) Tryz.func83 rfl rfl (by simp) fun E hE => ?_
  refine WA ?_
  refine WR ?_
  refine al_ef rfl (ef_call [0] (fun _ => [mpO encP encT es ck]) false (fun _ => span_v es ck L hok) rfl .fn rfl (by decide) (by kernel_rfl) rfl ZCH (by decide) ZCH (by simp)) ?_
  rintro F1 H1 ⟨_, _, _, _, ⟨rfl, rfl⟩, hF, hH⟩
  rw [hem] at hF
  (refine NSU hF hH ?_; clear hF hH; rintro rfl rfl)
  refine WE ?_
  refine WA ?_
  refine aw_cond_t rfl ?_
  refine WA ?_
  exact aret_of (us := [.a [.c (I st), .c (I 0), .c (I 0), .c (.r (.slice none 0 0) [])], .c (I (0))]) [some 0] (fun g' => .t [.a [.c (I st), .c (I 0), .c (I 0), .c (.r (.slice none 0 0) [])], .c (I (0))]) (fun _ => [mpO encP encT es ck]) (.cella (n := 4) rfl (by kernel_rfl) (Cells.box rfl) (by first | (simp; done) | exact Nat.le_refl 4) (by (try simp only [nm, putL, Nat.reduceAdd, cellsOf, cvOf]) <;> rfl) (.tmp rfl .nil)) (by decide) (by first | exact (ZNK rfl)) (fun g' => .tL (.cons (.aL (.cons (.c rfl) (.cons (.c rfl) (.cons (.c rfl) (.cons (.c rfl) .nil))))) (.cons (.c rfl) .nil))) ZCH (fun g' => ⟨.slice none 0 0, by rw [normC, if_pos hL]; rfl, rfl⟩)
 have hem : (!L.isEmpty) = true := by cases h : L with | nil => exact absurd h hL | cons => rfl
 obtain ⟨d1, d2, d3, d4, d5, d6⟩ : -10000000 ≤ x0 L ∧ x0 L ≤ x1 L ∧ x1 L ≤ 10000000 ∧ -10000000 ≤ y0 L ∧ y0 L ≤ y1 L ∧ y1 L ≤ 10000000 := by
  obtain ⟨⟨p1, hp1, e1⟩, ⟨p2, hp2, e2⟩, ⟨p3, hp3, e3⟩, ⟨p4, hp4, e4⟩⟩ := x0_at hL
  have b1 := hb p1 hp1
  have b2 := hb p2 hp2
  have b3 := hb p3 hp3
  have b4 := hb p4 hp4
  have l1 := x0_le hp2
  have l2 := x0_le hp4
  omega
 have hnc : normC st L = if 199 < x1 L - x0 L ∨ 199 < y1 L - y0 L then (⟨0, 0, 0, []⟩, 12) else if celF ⟨st, x0 L * st, y0 L * st, rowsB L (x0 L) (y0 L) (x1 L - x0 L + 1).toNat (y1 L - y0 L + 1).toNat⟩ ≠ 0 then (⟨0, 0, 0, []⟩, celF ⟨st, x0 L * st, y0 L * st, rowsB L (x0 L) (y0 L) (x1 L - x0 L + 1).toNat (y1 L - y0 L + 1).toNat⟩) else (⟨st, x0 L * st, y0 L * st, rowsB L (x0 L) (y0 L) (x1 L - x0 L + 1).toNat (y1 L - y0 L + 1).toNat⟩, 0) := by
  rw [normC, if_neg hL]
  have : celN st L = ⟨st, x0 L * st, y0 L * st, rowsB L (x0 L) (y0 L) (x1 L - x0 L + 1).toNat (y1 L - y0 L + 1).toNat⟩ := by rw [celN, if_neg hL]; rfl
  rw [this]
 rw [hnc]
 clear hnc
 refine acalls_of (N := 94) Tryz.func83 rfl rfl (by simp) fun E hE => ?_
 refine WA ?_
 refine WR ?_
 refine al_ef rfl (ef_call [0] (fun _ => [mpO encP encT es ck]) false (fun _ => span_v es ck L hok) rfl .fn rfl (by decide) (by kernel_rfl) rfl ZCH (by decide) ZCH (by simp)) ?_
 rintro F1 H1 ⟨_, _, _, _, ⟨rfl, rfl⟩, hF, hH⟩
 rw [hem] at hF
 (refine NSU hF hH ?_; clear hF hH; rintro rfl rfl)
 refine WE ?_
 generalize x0 L = X0 at *
 generalize x1 L = X1 at *
 generalize y0 L = Y0 at *
 generalize y1 L = Y1 at *
 refine WA ?_
 refine aw_cond_f rfl ?_
 refine ZZ ?_
 by_cases hx : 199 < X1 - X0
 ·refine WA ?_
  refine aw_cond_t rfl ?_
  refine WA ?_
  exact aret_of (us := [.a [.c (I 0), .c (I 0), .c (I 0), .c (.r (.slice none 0 0) [])], .c (I (12))]) [some 0] (fun g' => .t [.a [.c (I 0), .c (I 0), .c (I 0), .c (.r (.slice none 0 0) [])], .c (I (12))]) (fun _ => [mpO encP encT es ck]) (.cella (n := 4) rfl (by kernel_rfl) (Cells.box rfl) (by first | (simp; done) | exact Nat.le_refl 4) (by (try simp only [nm, putL, Nat.reduceAdd, cellsOf, cvOf]) <;> rfl) (.tmp rfl .nil)) (by decide) (by first | exact (ZNK rfl)) (fun g' => .tL (.cons (.aL (.cons (.c rfl) (.cons (.c rfl) (.cons (.c rfl) (.cons (.c rfl) .nil))))) (.cons (.c rfl) .nil))) ZCH (fun g' => ⟨.slice none 0 0, by rw [if_pos (.inl hx)]; rfl, rfl⟩)
 by_cases hy : 199 < Y1 - Y0
 ·refine WA ?_
  refine aw_cond_t rfl ?_
  refine WA ?_
  exact aret_of (us := [.a [.c (I 0), .c (I 0), .c (I 0), .c (.r (.slice none 0 0) [])], .c (I (12))]) [some 0] (fun g' => .t [.a [.c (I 0), .c (I 0), .c (I 0), .c (.r (.slice none 0 0) [])], .c (I (12))]) (fun _ => [mpO encP encT es ck]) (.cella (n := 4) rfl (by kernel_rfl) (Cells.box rfl) (by first | (simp; done) | exact Nat.le_refl 4) (by (try simp only [nm, putL, Nat.reduceAdd, cellsOf, cvOf]) <;> rfl) (.tmp rfl .nil)) (by decide) (by first | exact (ZNK rfl)) (fun g' => .tL (.cons (.aL (.cons (.c rfl) (.cons (.c rfl) (.cons (.c rfl) (.cons (.c rfl) .nil))))) (.cons (.c rfl) .nil))) ZCH (fun g' => ⟨.slice none 0 0, by rw [if_pos (.inr hy)]; rfl, rfl⟩)
 rw [if_neg (by omega)]
 refine WA ?_
 refine aw_cond_f rfl ?_
 refine ZZ ?_
 obtain ⟨W, hW⟩ : ∃ W : Nat, (X1 - X0 + 1).toNat = W := ⟨_, rfl⟩
 obtain ⟨N, hN⟩ : ∃ N : Nat, (Y1 - Y0 + 1).toNat = N := ⟨_, rfl⟩
 rw [hW, hN]
 have mb : ∀ z : Int, -10000000 ≤ z ∧ z ≤ 10000000 → -100000000000000 ≤ z * st ∧ z * st ≤ 100000000000000 := fun z hz => by
  have h1 : (z * st).natAbs ≤ 10000000 * 1000000 := by rw [Int.natAbs_mul]; exact Nat.mul_le_mul (by omega) (by omega)
  omega
 have m1 := mb X0 (by omega)
 have m2 := mb Y0 (by omega)
 clear mb
 refine WA ?_
 refine WA ?_
 refine aw_loopw (fun m F H => ∃ (i c : Nat), m + i = N ∧ i ≤ c ∧ F = [(0, .mp 0), (1, .c (I st)), (4, .p 1 0 0), (6, .p 2 0 0), (7, .p 3 0 0), (9, .p 4 0 0), (10, .c (I (Y0 + (i : Nat))))] ∧ H = [mpO encP encT es ck, .box [.c (I 0), .c (I 0), .c (I 0), .c (.r (.slice none 0 0) [])], .box [.c (I X0), .c (I Y0)], .box [.c (I X1), .c (I Y1)], .box [.c (I st), .c (I (X0 * st)), .c (I (Y0 * st)), .o 5 0 (rowsB L X0 Y0 W i).length c], .arr 9 1 c (tR (rowsB L X0 Y0 W i))]) ?_ ?_
 ·refine wk_of [some 0, some 1, some 2, some 3, some 4, none] (fun _ => [(0, .mp 0), (1, .c (I st)), (4, .p 1 0 0), (6, .p 2 0 0), (7, .p 3 0 0), (9, .p 4 0 0), (10, .c (I (Y0 + (0 : Nat))))]) (fun _ => [mpO encP encT es ck, .box [.c (I 0), .c (I 0), .c (I 0), .c (.r (.slice none 0 0) [])], .box [.c (I X0), .c (I Y0)], .box [.c (I X1), .c (I Y1)], .box [.c (I st), .c (I (X0 * st)), .c (I (Y0 * st)), .o 5 0 (rowsB L X0 Y0 W 0).length 0], .arr 9 1 0 (tR (rowsB L X0 Y0 W 0))]) (by decide) (ZNL hE) ZCF ZCH (fun _ => ?_)
  exact ⟨N, 0, 0, by omega, by omega, rfl, rfl⟩
 rintro m F H ⟨i, c, hi, hic, rfl, rfl⟩
 refine WA ?_
 refine aw_if rfl (fun hlt => ?_) (fun hge => ?_)
 ·refine WA ?_
  refine WA ?_
  refine aw_loopw (fun m2 F H => ∃ (k : Nat), m2 + k = W ∧ F = [(0, .mp 0), (1, .c (I st)), (4, .p 1 0 0), (6, .p 2 0 0), (7, .p 3 0 0), (9, .p 4 0 0), (10, .c (I (Y0 + (i : Nat)))), (11, .c (T (rowB L X0 (Y0 + (i : Nat)) k))), (12, .c (I (X0 + (k : Nat))))] ∧ H = [mpO encP encT es ck, .box [.c (I 0), .c (I 0), .c (I 0), .c (.r (.slice none 0 0) [])], .box [.c (I X0), .c (I Y0)], .box [.c (I X1), .c (I Y1)], .box [.c (I st), .c (I (X0 * st)), .c (I (Y0 * st)), .o 5 0 (rowsB L X0 Y0 W i).length c], .arr 9 1 c (tR (rowsB L X0 Y0 W i))]) ?_ ?_
  ·refine wk_of [some 0, some 1, some 2, some 3, some 4, some 5] (fun _ => [(0, .mp 0), (1, .c (I st)), (4, .p 1 0 0), (6, .p 2 0 0), (7, .p 3 0 0), (9, .p 4 0 0), (10, .c (I (Y0 + (i : Nat)))), (11, .c (T (rowB L X0 (Y0 + (i : Nat)) 0))), (12, .c (I (X0 + (0 : Nat))))]) (fun _ => [mpO encP encT es ck, .box [.c (I 0), .c (I 0), .c (I 0), .c (.r (.slice none 0 0) [])], .box [.c (I X0), .c (I Y0)], .box [.c (I X1), .c (I Y1)], .box [.c (I st), .c (I (X0 * st)), .c (I (Y0 * st)), .o 5 0 (rowsB L X0 Y0 W i).length c], .arr 9 1 c (tR (rowsB L X0 Y0 W i))]) (by decide) (ZNL hE) ZCF ZCH (fun _ => ?_)
   exact ⟨W, 0, by omega, rfl, rfl⟩
  rintro m2 F H ⟨k, hk, rfl, rfl⟩
  have hrs := rowB_succ L X0 (Y0 + (i : Nat)) k
  have hrl := rowB_len L X0 (Y0 + (i : Nat)) k
  generalize hr : rowB L X0 (Y0 + (i : Nat)) k = r at *
  refine WA ?_
  refine aw_if rfl (fun hlt2 => ?_) (fun hge2 => ?_)
  ·by_cases hin : (X0 + (k : Nat), Y0 + (i : Nat)) ∈ L
   ·rw [if_pos hin] at hrs
    refine ZZ ?_
    refine aw_regionT [(0, none), (1, none), (2, none), (3, none), (4, none), (5, none), (7, none), (8, none), (9, none), (10, none), (11, none), (6, some [0, 7, 8, 9, 10, 11]), (12, some [0]), (13, none), (14, none), (15, none), (16, none)] hMixed (by kernel_rfl) ?_
    iterate 5 refine WX2 ?_
    refine ZT rfl (rd_lookPq (l := es) (decide_eq_true hin) hok keyP rfl Tryz.underlying90 (by kernel_rfl) rfl rfl rfl) ?_
    iterate 4 refine WX2 ?_
    refine ZT rfl (rd_lookPq (l := es) (decide_eq_true hin) hok keyP rfl Tryz.underlying90 (by kernel_rfl) rfl rfl rfl) ?_
    refine at_ef rfl rfl (ef_call0 false (fun _ => truth_v true) rfl .fn rfl (by decide) (by kernel_rfl) rfl (fun _ => C0 rfl) (by simp)) ?_
    rintro _ _ ⟨_, _, _, ⟨rfl, rfl⟩, hF, hH⟩
    rw [if_pos rfl] at hF
    (refine NST hF hH ?_; clear hF hH; rintro rfl rfl)
    refine ⟨ag_cons (by first | exact ag_rd rfl rfl rfl (rd_move rfl rfl) rfl) (ag_cons (by first | exact ag_rd rfl rfl rfl (rd_move rfl rfl) rfl) (ag_cons (by first | exact ag_rd rfl rfl rfl (rd_move rfl rfl) rfl) (ag_cons (by first | exact ag_rd rfl rfl rfl (rd_move rfl rfl) rfl) (ag_cons (by first | exact ag_rd rfl rfl rfl (Zbld rfl (KZ (t := 87) rfl) rfl (KB (t := 87) rfl) (Zbc (z := Zbc (z := .nil)))) rfl) (ag_cons (by first | exact ag_rd rfl rfl rfl (rd_lookPq (l := es) (decide_eq_true hin) hok keyP rfl Tryz.underlying90 (by kernel_rfl) rfl rfl rfl) rfl) (ag_none)))))), ?_⟩
    refine at_ef rfl rfl (ef_call0 false (fun _ => truth_v true) rfl .fn rfl (by decide) (by kernel_rfl) rfl (fun _ => C0 rfl) (by simp)) ?_
    rintro _ _ ⟨_, _, _, ⟨rfl, rfl⟩, hF, hH⟩
    rw [if_pos rfl] at hF
    (refine NST hF hH ?_; clear hF hH; rintro rfl rfl)
    refine ⟨ag_cons (by first | exact ag_rd rfl rfl rfl (rd_move rfl rfl) rfl) (ag_none), ?_⟩
    refine WX2 ?_
    refine ZT rfl (rd_slcs (l := [46, 35]) (i := 1) (j := 2) rfl Tryz.underlying9 rfl (.inr ⟨_, _, _, rfl, rfl, rfl⟩) (.inr ⟨_, _, _, rfl, rfl, rfl⟩) (by decide) (by decide)) ?_
    refine WQ ?_
    all_goals (
     refine WA ?_
     refine wk_of [some 0, some 1, some 2, some 3, some 4, some 5] (fun _ => [(0, .mp 0), (1, .c (I st)), (4, .p 1 0 0), (6, .p 2 0 0), (7, .p 3 0 0), (9, .p 4 0 0), (10, .c (I (Y0 + (i : Nat)))), (11, .c (T (r ++ [35]))), (12, .c (I (X0 + (k + 1 : Nat))))]) (fun _ => [mpO encP encT es ck, .box [.c (I 0), .c (I 0), .c (I 0), .c (.r (.slice none 0 0) [])], .box [.c (I X0), .c (I Y0)], .box [.c (I X1), .c (I Y1)], .box [.c (I st), .c (I (X0 * st)), .c (I (Y0 * st)), .o 5 0 (rowsB L X0 Y0 W i).length c], .arr 9 1 c (tR (rowsB L X0 Y0 W i))]) (by decide) (ZNL hE) ZCF ZCH (fun _ => ?_)
     exact ⟨m2 - 1, by omega, k + 1, by omega, by rw [hrs], rfl⟩)
   ·rw [if_neg hin] at hrs
    refine ZZ ?_
    refine aw_regionT [(0, none), (1, none), (2, none), (3, none), (4, none), (5, none), (7, none), (8, none), (9, none), (10, none), (11, none), (6, some [0, 7, 8, 9, 10, 11]), (12, some [0]), (13, none), (14, none), (15, none), (16, none)] hMixed (by kernel_rfl) ?_
    iterate 5 refine WX2 ?_
    refine ZT rfl (rd_lookPq (l := es) (decide_eq_false hin) hok keyP rfl Tryz.underlying90 (by kernel_rfl) rfl rfl rfl) ?_
    iterate 4 refine WX2 ?_
    refine ZT rfl (rd_lookPq (l := es) (decide_eq_false hin) hok keyP rfl Tryz.underlying90 (by kernel_rfl) rfl rfl rfl) ?_
    refine at_ef rfl rfl (ef_call0 false (fun _ => truth_v false) rfl .fn rfl (by decide) (by kernel_rfl) rfl (fun _ => C0 rfl) (by simp)) ?_
    rintro _ _ ⟨_, _, _, ⟨rfl, rfl⟩, hF, hH⟩
    rw [if_neg Bool.false_ne_true] at hF
    (refine NST hF hH ?_; clear hF hH; rintro rfl rfl)
    refine ⟨ag_cons (by first | exact ag_rd rfl rfl rfl (rd_move rfl rfl) rfl) (ag_cons (by first | exact ag_rd rfl rfl rfl (rd_move rfl rfl) rfl) (ag_cons (by first | exact ag_rd rfl rfl rfl (rd_move rfl rfl) rfl) (ag_cons (by first | exact ag_rd rfl rfl rfl (rd_move rfl rfl) rfl) (ag_cons (by first | exact ag_rd rfl rfl rfl (Zbld rfl (KZ (t := 87) rfl) rfl (KB (t := 87) rfl) (Zbc (z := Zbc (z := .nil)))) rfl) (ag_cons (by first | exact ag_rd rfl rfl rfl (rd_lookPq (l := es) (decide_eq_false hin) hok keyP rfl Tryz.underlying90 (by kernel_rfl) rfl rfl rfl) rfl) (ag_none)))))), ?_⟩
    refine at_ef rfl rfl (ef_call0 false (fun _ => truth_v false) rfl .fn rfl (by decide) (by kernel_rfl) rfl (fun _ => C0 rfl) (by simp)) ?_
    rintro _ _ ⟨_, _, _, ⟨rfl, rfl⟩, hF, hH⟩
    rw [if_neg Bool.false_ne_true] at hF
    (refine NST hF hH ?_; clear hF hH; rintro rfl rfl)
    refine ⟨ag_cons (by first | exact ag_rd rfl rfl rfl (rd_move rfl rfl) rfl) (ag_none), ?_⟩
    refine WX2 ?_
    refine ZT rfl (rd_slcs (l := [46, 35]) (i := 0) (j := 1) rfl Tryz.underlying9 rfl (.inr ⟨_, _, _, rfl, rfl, rfl⟩) (.inr ⟨_, _, _, rfl, rfl, rfl⟩) (by decide) (by decide)) ?_
    refine WQ ?_
    all_goals (
     refine WA ?_
     refine wk_of [some 0, some 1, some 2, some 3, some 4, some 5] (fun _ => [(0, .mp 0), (1, .c (I st)), (4, .p 1 0 0), (6, .p 2 0 0), (7, .p 3 0 0), (9, .p 4 0 0), (10, .c (I (Y0 + (i : Nat)))), (11, .c (T (r ++ [46]))), (12, .c (I (X0 + (k + 1 : Nat))))]) (fun _ => [mpO encP encT es ck, .box [.c (I 0), .c (I 0), .c (I 0), .c (.r (.slice none 0 0) [])], .box [.c (I X0), .c (I Y0)], .box [.c (I X1), .c (I Y1)], .box [.c (I st), .c (I (X0 * st)), .c (I (Y0 * st)), .o 5 0 (rowsB L X0 Y0 W i).length c], .arr 9 1 c (tR (rowsB L X0 Y0 W i))]) (by decide) (ZNL hE) ZCF ZCH (fun _ => ?_)
     exact ⟨m2 - 1, by omega, k + 1, by omega, by rw [hrs], rfl⟩)
  obtain rfl : k = W := by omega
  have hsn := rowsB_succ L X0 Y0 k i
  have hsl := rowsB_len L X0 Y0 k i
  rw [hr] at hsn
  generalize hRr : rowsB L X0 Y0 k i = R at *
  refine ZZ ?_
  refine WR ?_
  refine al_ef rfl (Zapp (KA (t := 26) rfl)) ?_
  rintro _ _ ⟨_, cc, hcc, rfl, rfl⟩
  refine WE ?_
  refine WA ?_
  refine wk_of [some 0, some 1, some 2, some 3, some 4, some 5] (fun _ => [(0, .mp 0), (1, .c (I st)), (4, .p 1 0 0), (6, .p 2 0 0), (7, .p 3 0 0), (9, .p 4 0 0), (10, .c (I (Y0 + (i + 1 : Nat))))]) (fun _ => [mpO encP encT es ck, .box [.c (I 0), .c (I 0), .c (I 0), .c (.r (.slice none 0 0) [])], .box [.c (I X0), .c (I Y0)], .box [.c (I X1), .c (I Y1)], .box [.c (I st), .c (I (X0 * st)), .c (I (Y0 * st)), .o 5 0 (R ++ [r]).length cc], .arr 9 1 cc (tR (R ++ [r]))]) (by decide) (ZNL hE) ZCF ZCH (fun _ => ?_)
  exact ⟨m - 1, by omega, i + 1, cc, by omega, by omega, rfl, by rw [hsn]⟩
 obtain rfl : i = N := by omega
 have hRl : ∀ r ∈ rowsB L X0 Y0 W i, r.length ≤ 1000000000 := fun r hr => by
  obtain ⟨j, _, rfl⟩ := List.mem_map.1 hr
  rw [rowB_len]; omega
 have hsl := rowsB_len L X0 Y0 W i
 generalize hRr : rowsB L X0 Y0 W i = R at *
 refine ZZ ?_
 refine WR ?_
 refine al_ef rfl (ef_call0 true (fun g' => rcheck_v (g' (.o 5 0 R.length c)) ⟨st, X0 * st, Y0 * st, R⟩ (by simp only; omega) hRl) rfl .fn rfl (by decide) (by kernel_rfl) rfl (fun _ => .cons (.aL (.cons (.c rfl) (.cons (.c rfl) (.cons (.c rfl) (.cons (.frz rfl rfl (by rw [List.drop_zero, List.take_of_length_le (by simp)]) (by simp) rfl) .nil))))) .nil) (fun _ _ _ _ ⟨hu, hH⟩ => by rw [hu, hH]; exact ⟨.c (.inl trivial), by simp⟩)) ?_
 rintro _ _ ⟨_, _, _, ⟨rfl, rfl⟩, hF, hH⟩
 (refine NST hF hH ?_; clear hF hH; rintro rfl rfl)
 refine WE ?_
 generalize hq : celF ⟨st, X0 * st, Y0 * st, R⟩ = q at *
 refine WA ?_
 refine aw_if rfl (fun h9 => ?_) (fun h9 => ?_)
 ·refine WA ?_
  exact aret_of (us := [.a [.c (I 0), .c (I 0), .c (I 0), .c (.r (.slice none 0 0) [])], .c (I (q))]) [some 0] (fun g' => .t [.a [.c (I 0), .c (I 0), .c (I 0), .c (.r (.slice none 0 0) [])], .c (I (q))]) (fun _ => [mpO encP encT es ck]) (.cella (n := 4) rfl (by kernel_rfl) (Cells.box rfl) (by first | (simp; done) | exact Nat.le_refl 4) (by (try simp only [nm, putL, Nat.reduceAdd, cellsOf, cvOf]) <;> rfl) (.tmp rfl .nil)) (by decide) (by first | exact (ZNK rfl)) (fun g' => .tL (.cons (.aL (.cons (.c rfl) (.cons (.c rfl) (.cons (.c rfl) (.cons (.c rfl) .nil))))) (.cons (.c rfl) .nil))) ZCH (fun g' => ⟨.slice none 0 0, by rw [if_pos h9]; rfl, rfl⟩)
 ·refine ZZ ?_
  refine WA ?_
  exact aret_of (us := [.a [.c (I st), .c (I (X0 * st)), .c (I (Y0 * st)), .o 5 0 R.length c], .c (I (0))]) [some 0] (fun g' => .t [.a [.c (I st), .c (I (X0 * st)), .c (I (Y0 * st)), .c (.r (g' (.o 5 0 R.length c)) (tR R))], .c (I (0))]) (fun _ => [mpO encP encT es ck]) (.cella (n := 4) rfl (by kernel_rfl) (Cells.box rfl) (by first | (simp; done) | exact Nat.le_refl 4) (by (try simp only [nm, putL, Nat.reduceAdd, cellsOf, cvOf]) <;> rfl) (.tmp rfl .nil)) (by decide) (by first | exact (ZNK rfl)) (fun g' => .tL (.cons (.aL (.cons (.c rfl) (.cons (.c rfl) (.cons (.c rfl) (.cons (.frz rfl rfl (by rw [List.drop_zero, List.take_of_length_le (by simp)]) (by simp) rfl) .nil))))) (.cons (.c rfl) .nil))) ZCH (fun g' => ⟨g' (.o 5 0 R.length c), by rw [if_neg h9], rfl⟩)
theorem cov_bd {c : Cel} (hst : 1 ≤ c.st) (hx : -2000000 ≤ c.x ∧ c.x ≤ 2000000) (hy : -2000000 ≤ c.y ∧ c.y ≤ 2000000) (hl : c.rows.length ≤ 1000000) (hr : ∀ r ∈ c.rows, r.length ≤ 1000000) : ∀ p ∈ covL c, (-10000000 ≤ p.1 ∧ p.1 ≤ 10000000) ∧ (-10000000 ≤ p.2 ∧ p.2 ≤ 10000000) := fun p hp => by
 obtain ⟨i, k, r, q1, q2, rfl⟩ := hitC_mem.1 hp
 have k1 := (List.getElem?_eq_some_iff.1 q1).1
 have k2 := (List.getElem?_eq_some_iff.1 q2).1
 have k3 := hr r (List.mem_of_getElem? q1)
 have hX := tdiv_bd hst hx
 have hY := tdiv_bd hst hy
 simp only
 omega
set_option maxHeartbeats 1000000 in
theorem trimmed_v (va : Value) (c : Cel) (hst : 1 ≤ c.st ∧ c.st ≤ 1000000) (hx : -2000000 ≤ c.x ∧ c.x ≤ 2000000) (hy : -2000000 ≤ c.y ∧ c.y ≤ 2000000) (hl : c.rows.length ≤ 1000000) (hr : ∀ r ∈ c.rows, r.length ≤ 1000000 ∧ okB2 r = true) : ACalls Tryz.prog 34 [celA va c] [] fun u H => ∃ v', u = celA v' (normC c.st (covL c)).1 ∧ H = [] := by
 have hbd := cov_bd hst.1 hx hy hl (fun r h => (hr r h).1)
 have hx5 : -1000000000000 ≤ c.x ∧ c.x ≤ 1000000000000 := by omega
 have hy5 : -1000000000000 ≤ c.y ∧ c.y ≤ 1000000000000 := by omega
 have hl5 : c.rows.length ≤ 1000000000 := by omega
 have hst5 : -1000000 ≤ c.st ∧ c.st ≤ 1000000 := by omega
 have hR : ∀ r ∈ c.rows, r.length ≤ 1000000000 ∧ okB2 r = true := fun r h => ⟨by have := (hr r h).1; omega, (hr r h).2⟩
 refine acalls_of (N := 14) Tryz.func34 rfl rfl (by simp) fun E hE => ?_
 refine WA ?_
 refine ZZ ?_
 refine aw_regionM [[(0, none), (2, none), (3, none), (1, some [2, 3]), (4, some []), (5, none), (6, none), (7, none), (8, some [0, 2, 3, 5, 6, 7]), (9, some [7]), (10, none)], [(0, none), (2, none), (3, none), (1, some [2, 3]), (8, some [0, 2, 3]), (4, some []), (5, none), (6, none), (7, none), (9, some [7]), (10, none)], [(0, none), (2, none), (3, none), (8, some [0, 2, 3]), (1, some [2, 3]), (4, some []), (5, none), (6, none), (7, none), (9, some [7]), (10, none)]] hMixed (by kernel_rfl) ?_
 focus
  refine WM ?_
  refine am_two (by rfl) (by rfl) (by rfl) ?_ ?_
  rotate_left
  refine WM ?_
  refine am_ef (i := 1) (by rfl) (by rfl) rfl rfl (ef_call0 false (fun _ => setof_v va c (by omega) hx5 hy5 hl5 hR) rfl .fn rfl (by decide) (by kernel_rfl) rfl (fun _ => C0 rfl) (by simp)) ?_
  rintro _ _ ⟨_, _, _, ⟨es, ck, hes, rfl, rfl⟩, hF, hH⟩
  (refine NSU hF hH ?_; clear hF hH; rintro rfl rfl)
  refine ⟨AGX, ?_⟩
  first | refine am_ef (i := 4) (by rfl) (by rfl) rfl rfl (ef_call [2] (fun _ => [mpO encP encT es ck]) false (fun _ => cellsof_v es ck _ hes c.st hst5 hbd) rfl .fn rfl (by decide) (by kernel_rfl) rfl ZCH (by decide) ZCH (by simp)) ?_ | refine am_ef (i := 4) (by rfl) (by rfl) rfl rfl (ef_call [3] (fun _ => [mpO encP encT es ck]) false (fun _ => cellsof_v es ck _ hes c.st hst5 hbd) rfl .fn rfl (by decide) (by kernel_rfl) rfl ZCH (by decide) ZCH (by simp)) ?_
  rintro F1 H1 ⟨_, _, _, _, ⟨v', rfl, rfl⟩, hF, hH⟩
  (refine NSU hF hH ?_; clear hF hH; rintro rfl rfl)
  refine ⟨AGX, ?_⟩
  refine WN ?_
  rotate_right
  refine am_ef (i := 1) (by rfl) (by rfl) rfl rfl (ef_call0 false (fun _ => setof_v va c (by omega) hx5 hy5 hl5 hR) rfl .fn rfl (by decide) (by kernel_rfl) rfl (fun _ => C0 rfl) (by simp)) ?_
  rintro _ _ ⟨_, _, _, ⟨es, ck, hes, rfl, rfl⟩, hF, hH⟩
  (refine NSU hF hH ?_; clear hF hH; rintro rfl rfl)
  refine ⟨AGX, ?_⟩
  refine am_two (by rfl) (by rfl) (by rfl) ?_ ?_
  rotate_left
  refine WM ?_
  first | refine am_ef (i := 4) (by rfl) (by rfl) rfl rfl (ef_call [2] (fun _ => [mpO encP encT es ck]) false (fun _ => cellsof_v es ck _ hes c.st hst5 hbd) rfl .fn rfl (by decide) (by kernel_rfl) rfl ZCH (by decide) ZCH (by simp)) ?_ | refine am_ef (i := 4) (by rfl) (by rfl) rfl rfl (ef_call [3] (fun _ => [mpO encP encT es ck]) false (fun _ => cellsof_v es ck _ hes c.st hst5 hbd) rfl .fn rfl (by decide) (by kernel_rfl) rfl ZCH (by decide) ZCH (by simp)) ?_
  rintro F1 H1 ⟨_, _, _, _, ⟨v', rfl, rfl⟩, hF, hH⟩
  (refine NSU hF hH ?_; clear hF hH; rintro rfl rfl)
  refine ⟨AGX, ?_⟩
  refine WN ?_
  rotate_right
  first | refine am_ef (i := 4) (by rfl) (by rfl) rfl rfl (ef_call [2] (fun _ => [mpO encP encT es ck]) false (fun _ => cellsof_v es ck _ hes c.st hst5 hbd) rfl .fn rfl (by decide) (by kernel_rfl) rfl ZCH (by decide) ZCH (by simp)) ?_ | refine am_ef (i := 4) (by rfl) (by rfl) rfl rfl (ef_call [3] (fun _ => [mpO encP encT es ck]) false (fun _ => cellsof_v es ck _ hes c.st hst5 hbd) rfl .fn rfl (by decide) (by kernel_rfl) rfl ZCH (by decide) ZCH (by simp)) ?_
  rintro F1 H1 ⟨_, _, _, _, ⟨v', rfl, rfl⟩, hF, hH⟩
  (refine NSU hF hH ?_; clear hF hH; rintro rfl rfl)
  refine ⟨AGX, ?_⟩
  refine WN ?_
 all_goals (
  refine WA ?_
  exact aret_a [] _ rfl (KK (t := 28) rfl) rfl (Cells.box rfl) (by first | (simp; done) | exact Nat.le_refl 4) (by (try simp only [nm, putL, Nat.reduceAdd, cellsOf, cvOf]) <;> rfl) (by decide) (ZNK rfl) (fun _ => C0 rfl) (fun _ => .nil) ⟨v', rfl, rfl⟩)
end Go.Proofs.YtfilfijammemfaaGreatDoor

/- The reference's shrinking, by value: about, ContainsFunc, ShrunkBy. -/
-- NEWM
namespace Go.Proofs.YtfilfijammemfaaGreatDoor
open Go Go.RowKit
set_option maxRecDepth 100000
abbrev sR (l : List Spot) : List (List CV) := l.map fun p => [I p.1, I p.2]
end Go.Proofs.YtfilfijammemfaaGreatDoor

/- The reference's shrinking, by value: ShrunkBy. -/
-- NEWM
namespace Go.Proofs.YtfilfijammemfaaGreatDoor
open Go Go.RowKit
set_option maxRecDepth 100000
end Go.Proofs.YtfilfijammemfaaGreatDoor
