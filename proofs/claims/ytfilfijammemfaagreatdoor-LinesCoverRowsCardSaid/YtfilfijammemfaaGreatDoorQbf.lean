/- The reference's fault of cells, by value: CellsFault. -/
import Derived.Test.YtfilfijammemfaaGreatDoorQbe
set_option linter.unusedSimpArgs false
set_option linter.unusedVariables false
-- NEWM
namespace Go.Proofs.YtfilfijammemfaaGreatDoor
open Go Go.RowKit
set_option maxRecDepth 100000
theorem rd_neqsq {N : Nat} {E : Env} {F : Fm} {H : List OB} {o : Oper} {x y : Operand} {yt : TypeId} {a0 a1 b0 b1 : Int} {q : Bool} (h : decide (¬ (a0 = b0 ∧ a1 = b1)) = q) (ho : o.op = .binOp .neq 87 x y yt) (hx : ev F x = some (.a [.c (.s (.int .i64 a0)), .c (.s (.int .i64 a1))])) (hy : ev F y = some (.a [.c (.s (.int .i64 b0)), .c (.s (.int .i64 b1))])) : Rd Tryz.prog N E o F H (.c (.s (.bool q))) := h ▸ rd_neqa87 ho hx hy
set_option maxHeartbeats 2000000 in
theorem rcheck_v (v : Value) (c : Cel) (hl : c.rows.length ≤ 1000000000) (hr : ∀ r ∈ c.rows, r.length ≤ 1000000000) : ACalls Tryz.prog 12 [celA v c] [] fun u H => u = .c (I (celF c)) ∧ H = [] := by
 rw [← celR2_eq]
 have hspan : ∀ c', spanB c' = (decide (covL c' ≠ []) && decide (x0 (covL c') = c'.x.tdiv c'.st) && decide (y0 (covL c') = c'.y.tdiv c'.st) && decide (x1 (covL c') = c'.x.tdiv c'.st + (wid c'.rows : Int) - 1) && decide (y1 (covL c') = c'.y.tdiv c'.st + (c'.rows.length : Int) - 1)) := fun c' => rfl
 obtain ⟨st, x, y, rows⟩ := c
 simp only at hl hr
 have e1 : (tR rows).length = rows.length := by simp
 have hc1 : celR2 ⟨st, x, y, rows⟩ = if stepB st = true then 1 else if rows = [] ∧ (x ≠ 0 ∨ y ≠ 0) then 3 else if rowsR rows ≠ 0 then rowsR rows else if (farB x || farB y) = true then 1 else if x.tmod st ≠ 0 ∨ y.tmod st ≠ 0 then 3 else if rows = [] then 0 else if spanB ⟨st, x, y, rows⟩ = true then 0 else 3 := rfl
 refine ze (N := 110) Tryz.func12 rfl rfl (by simp) fun E hE => ?_
 obtain ⟨b1, hb1⟩ : ∃ b, stepB st = b := ⟨_, rfl⟩
 cases b1 with
 | true =>
  have hq : (if stepB st = true then (1 : Int) else 0) = 1 := by rw [hb1]; rfl
  refine WA ?_
  refine WR ?_
  refine zf rfl (za false (fun _ => rstep_v _) rfl .fn rfl (by decide) (by kernel_rfl) rfl (fun _ => C0 rfl) (by simp)) ?_
  rintro _ _ ⟨_, _, _, ⟨rfl, rfl⟩, hF, hH⟩
  rw [hq] at hF
  (refine NST hF hH ?_; clear hF hH; rintro rfl rfl)
  refine WE ?_
  refine WA ?_
  refine zb rfl ?_
  refine WA ?_
  exact zi [] _ rfl rfl rfl (by decide) (ZNK rfl) (fun _ => .nil) ⟨congrArg (fun z => AV.c (I z)) (by rw [hc1, if_pos hb1]), rfl⟩
 | false =>
 have hq : (if stepB st = true then (1 : Int) else 0) = 0 := by rw [hb1]; rfl
 rw [if_neg (by rw [hb1]; simp)] at hc1
 have hst := stepB_f.1 hb1
 refine WA ?_
 refine WR ?_
 refine zf rfl (za false (fun _ => rstep_v _) rfl .fn rfl (by decide) (by kernel_rfl) rfl (fun _ => C0 rfl) (by simp)) ?_
 rintro _ _ ⟨_, _, _, ⟨rfl, rfl⟩, hF, hH⟩
 rw [hq] at hF
 (refine NST hF hH ?_; clear hF hH; rintro rfl rfl)
 refine WE ?_
 refine WA ?_
 refine zd rfl ?_
 refine ZZ ?_
 by_cases h0 : rows.length = 0 ∧ (x ≠ 0 ∨ y ≠ 0)
 ·have hrn : rows = [] := List.eq_nil_of_length_eq_zero h0.1
  have h00 := h0.1
  by_cases hx : x = 0
  ·have hy : ¬ y = 0 := fun e => by rcases h0.2 with h | h <;> contradiction
   refine WA ?_
   refine zb rfl ?_
   refine WA ?_
   exact zi [] _ rfl rfl rfl (by decide) (ZNK rfl) (fun _ => .nil) ⟨congrArg (fun z => AV.c (I z)) (by rw [hc1, if_pos ⟨hrn, .inr hy⟩]), rfl⟩
  ·refine WA ?_
   refine zb rfl ?_
   refine WA ?_
   exact zi [] _ rfl rfl rfl (by decide) (ZNK rfl) (fun _ => .nil) ⟨congrArg (fun z => AV.c (I z)) (by rw [hc1, if_pos ⟨hrn, .inl hx⟩]), rfl⟩
 rw [if_neg (fun h => h0 ⟨by rw [h.1]; rfl, h.2⟩)] at hc1
 refine aw_cut (fun F H => F = [(1, .p 0 0 0), (2, .c (I 0)), (27, .c (B false))] ∧ H = [.box [.c (I st), .c (I x), .c (I y), .c (.r v (tR rows))]]) ?_ ?_ wk_aw
 ·by_cases h00 : rows.length = 0
  ·have hx : x = 0 := Classical.byContradiction fun e => h0 ⟨h00, .inl e⟩
   have hy : y = 0 := Classical.byContradiction fun e => h0 ⟨h00, .inr e⟩
   refine WA ?_
   refine zh [some 0] (fun _ => [(1, .p 0 0 0), (2, .c (I 0)), (27, .c (B false))]) (fun _ => [.box [.c (I st), .c (I x), .c (I y), .c (.r v (tR rows))]]) (by decide) (ZNL hE) ZCF ZCH (fun _ => ?_)
   exact ⟨rfl, rfl⟩
  ·refine WA ?_
   refine zh [some 0] (fun _ => [(1, .p 0 0 0), (2, .c (I 0)), (27, .c (B false))]) (fun _ => [.box [.c (I st), .c (I x), .c (I y), .c (.r v (tR rows))]]) (by decide) (ZNL hE) ZCF ZCH (fun _ => ?_)
   exact ⟨rfl, rfl⟩
 rintro F H ⟨rfl, rfl⟩
 refine ZZ ?_
 refine zd rfl ?_
 refine ZZ ?_
 obtain ⟨q, hq2⟩ : ∃ q, rowsR rows = q := ⟨_, rfl⟩
 rw [hq2] at hc1
 refine WR ?_
 refine zf rfl (za false (fun _ => rrows_v v rows hl hr) rfl .fn rfl (by decide) (by kernel_rfl) rfl (fun _ => C0 rfl) (by simp)) ?_
 rintro _ _ ⟨_, _, _, ⟨rfl, rfl⟩, hF, hH⟩
 rw [hq2] at hF
 (refine NST hF hH ?_; clear hF hH; rintro rfl rfl)
 refine WE ?_
 refine WA ?_
 refine zl rfl (fun h3 => ?_) (fun h3 => ?_)
 ·refine WA ?_
  exact zi [] _ rfl rfl rfl (by decide) (ZNK rfl) (fun _ => .nil) ⟨congrArg (fun z => AV.c (I z)) (by rw [hc1, if_pos h3]), rfl⟩
 rw [if_neg h3] at hc1
 obtain rfl : q = 0 := by simpa using h3
 refine ZZ ?_
 obtain ⟨b2, hb2⟩ : ∃ b, outB x (-2000000) 2000000 = b := ⟨_, rfl⟩
 obtain ⟨b3, hb3⟩ : ∃ b, outB y (-2000000) 2000000 = b := ⟨_, rfl⟩
 have hff : (farB x || farB y) = (b2 || b3) := by rw [← hb2, ← hb3]; rfl
 rw [hff] at hc1
 have hfx : b2 = false → -2000000 ≤ x ∧ x ≤ 2000000 := fun e => farB_f.1 (hb2.trans e)
 have hfy : b3 = false → -2000000 ≤ y ∧ y ≤ 2000000 := fun e => farB_f.1 (hb3.trans e)
 cases b2 with
 | true =>
  refine WR ?_
  refine zf rfl (za false (fun _ => rin_v _ _ _) rfl .fn rfl (by decide) (by kernel_rfl) rfl (fun _ => C0 rfl) (by simp)) ?_
  rintro _ _ ⟨_, _, _, ⟨rfl, rfl⟩, hF, hH⟩
  rw [hb2] at hF
  (refine NST hF hH ?_; clear hF hH; rintro rfl rfl)
  refine WO ?_
  first | refine ZS ?_ | (refine G1 rfl ?_; refine zf rfl (za false (fun _ => rin_v _ _ _) rfl .fn rfl (by decide) (by kernel_rfl) rfl (fun _ => C0 rfl) (by simp)) ?_; rintro _ _ ⟨_, _, _, ⟨rfl, rfl⟩, hF, hH⟩; rw [hb3] at hF; (refine NST hF hH ?_; clear hF hH; rintro rfl rfl)) | skip
  refine WE ?_
  refine zb rfl ?_
  refine WA ?_
  exact zi [] _ rfl rfl rfl (by decide) (ZNK rfl) (fun _ => .nil) ⟨congrArg (fun z => AV.c (I z)) (by rw [hc1, if_pos (by simp)]), rfl⟩
 | false =>
 cases b3 with
 | true =>
  refine WR ?_
  refine zf rfl (za false (fun _ => rin_v _ _ _) rfl .fn rfl (by decide) (by kernel_rfl) rfl (fun _ => C0 rfl) (by simp)) ?_
  rintro _ _ ⟨_, _, _, ⟨rfl, rfl⟩, hF, hH⟩
  rw [hb2] at hF
  (refine NST hF hH ?_; clear hF hH; rintro rfl rfl)
  refine WO ?_
  first | refine ZS ?_ | (refine G1 rfl ?_; refine zf rfl (za false (fun _ => rin_v _ _ _) rfl .fn rfl (by decide) (by kernel_rfl) rfl (fun _ => C0 rfl) (by simp)) ?_; rintro _ _ ⟨_, _, _, ⟨rfl, rfl⟩, hF, hH⟩; rw [hb3] at hF; (refine NST hF hH ?_; clear hF hH; rintro rfl rfl)) | skip
  refine WE ?_
  refine zb rfl ?_
  refine WA ?_
  exact zi [] _ rfl rfl rfl (by decide) (ZNK rfl) (fun _ => .nil) ⟨congrArg (fun z => AV.c (I z)) (by rw [hc1, if_pos (by simp)]), rfl⟩
 | false =>
 have hxb := hfx rfl
 have hyb := hfy rfl
 rw [if_neg (by simp)] at hc1
 refine WR ?_
 refine zf rfl (za false (fun _ => rin_v _ _ _) rfl .fn rfl (by decide) (by kernel_rfl) rfl (fun _ => C0 rfl) (by simp)) ?_
 rintro _ _ ⟨_, _, _, ⟨rfl, rfl⟩, hF, hH⟩
 rw [hb2] at hF
 (refine NST hF hH ?_; clear hF hH; rintro rfl rfl)
 refine WO ?_
 first | refine ZS ?_ | (refine G1 rfl ?_; refine zf rfl (za false (fun _ => rin_v _ _ _) rfl .fn rfl (by decide) (by kernel_rfl) rfl (fun _ => C0 rfl) (by simp)) ?_; rintro _ _ ⟨_, _, _, ⟨rfl, rfl⟩, hF, hH⟩; rw [hb3] at hF; (refine NST hF hH ?_; clear hF hH; rintro rfl rfl)) | skip
 refine WE ?_
 refine zd rfl ?_
 refine ZZ ?_
 obtain ⟨qx, hqx⟩ : ∃ q, x.tmod st = q := ⟨_, rfl⟩
 obtain ⟨qy, hqy⟩ : ∃ q, y.tmod st = q := ⟨_, rfl⟩
 rw [hqx, hqy] at hc1
 by_cases hx : qx = 0
 ·by_cases hy : qy = 0
  ·refine ZR ?_
   iterate 4 refine WX1 ?_
   refine ZA (zl1 hqx rfl rfl rfl (by omega)) ?_
   iterate 6 refine WX1 ?_
   first | refine ZP (zl1 hqy rfl rfl rfl (by omega)) ?_ | refine ZS ?_
   refine WE ?_
   refine zd rfl ?_
   rw [if_neg (by simp [hx, hy])] at hc1
   refine ZZ ?_
   by_cases h00 : rows.length = 0
   ·refine WA ?_
    refine zb rfl ?_
    refine WA ?_
    exact zi [] _ rfl rfl rfl (by decide) (ZNK rfl) (fun _ => .nil) ⟨congrArg (fun z => AV.c (I z)) (by rw [hc1, if_pos (List.eq_nil_of_length_eq_zero h00)]), rfl⟩
   have hrn : rows ≠ [] := fun e => h00 (by rw [e]; rfl)
   rw [if_neg hrn, hspan] at hc1
   simp only at hc1
   refine WA ?_
   refine zd rfl ?_
   refine ZZ ?_
   obtain ⟨r0, hr0⟩ : ∃ r0, rows[0]? = some r0 := ⟨_, List.getElem?_eq_getElem (by omega)⟩
   have hrow0 : (tR rows)[0]? = some [T r0] := by rw [List.getElem?_map, hr0]; rfl
   have hl0 := hr r0 (List.mem_of_getElem? hr0)
   have hwr : wid rows = r0.length := by rw [wid, headD_at hr0]
   rw [hwr] at hc1
   have hrf : rowsF (wid rows) rows = 0 := by
    unfold rowsR at hq2
    split at hq2
    ·cases hq2
    ·split at hq2
     ·rename_i h; exact absurd hq2 h
     ·rename_i h; simpa using h
   have hR : ∀ r ∈ rows, r.length ≤ 1000000000 ∧ okB2 r = true := fun r h => ⟨hr r h, (rowsF_0.1 hrf r h).2⟩
   have hX := tdiv_bd (show 1 ≤ st by omega) hxb
   have hs5 : 1 ≤ st := by omega
   have hx5 : -1000000000000 ≤ x ∧ x ≤ 1000000000000 := by omega
   have hy5 : -1000000000000 ≤ y ∧ y ≤ 1000000000000 := by omega
   have hY := tdiv_bd (show 1 ≤ st by omega) hyb
   have hbd : ∀ p ∈ covL ⟨st, x, y, rows⟩, -2000000 ≤ p.1 ∧ p.1 ≤ 1002000000 ∧ -2000000 ≤ p.2 ∧ p.2 ≤ 1002000000 := fun p hp => by
    obtain ⟨i, k, r, q1, q2, rfl⟩ := hitC_mem.1 hp
    have k1 : i < rows.length := (List.getElem?_eq_some_iff.1 q1).1
    have k2 := (List.getElem?_eq_some_iff.1 q2).1
    have k3 := hr r (List.mem_of_getElem? q1)
    simp only
    omega
   have hx0 : (-2000000 ≤ x0 (covL ⟨st, x, y, rows⟩) ∧ x0 (covL ⟨st, x, y, rows⟩) ≤ 1002000000) ∧ (-2000000 ≤ y0 (covL ⟨st, x, y, rows⟩) ∧ y0 (covL ⟨st, x, y, rows⟩) ≤ 1002000000) := by
    by_cases hL : covL ⟨st, x, y, rows⟩ = []
    ·rw [hL]; decide
    ·obtain ⟨⟨p1, hp1, e1⟩, _, ⟨p3, hp3, e3⟩, _⟩ := x0_at hL
     have := hbd p1 hp1
     have := hbd p3 hp3
     omega
   obtain ⟨em, hem⟩ : ∃ q, (!(covL ⟨st, x, y, rows⟩).isEmpty) = q := ⟨_, rfl⟩
   have hem2 : decide (covL ⟨st, x, y, rows⟩ ≠ []) = em := by rw [← hem]; cases covL ⟨st, x, y, rows⟩ <;> rfl
   rw [hem2] at hc1
   refine WR ?_
   refine zf rfl (za false (fun _ => setof_v v ⟨st, x, y, rows⟩ hs5 hx5 hy5 hl hR) rfl .fn rfl (by decide) (by kernel_rfl) rfl (fun _ => C0 rfl) (by simp)) ?_
   rintro _ _ ⟨_, _, _, ⟨es, ck, hes, rfl, rfl⟩, hF, hH⟩
   (refine NSU hF hH ?_; clear hF hH; rintro rfl rfl)
   refine zf rfl (zD [1] (fun _ => [mpO encP encT es ck]) false (fun _ => span_v es ck _ hes) rfl .fn rfl (by decide) (by kernel_rfl) rfl ZCH (by decide) ZCH (by simp)) ?_
   rintro F1 H1 ⟨_, _, _, _, ⟨rfl, rfl⟩, hF, hH⟩
   rw [hem] at hF
   (refine NSU hF hH ?_; clear hF hH; rintro rfl rfl)
   refine WE ?_
   generalize x0 (covL ⟨st, x, y, rows⟩) = a0 at *
   generalize y0 (covL ⟨st, x, y, rows⟩) = a1 at *
   generalize x1 (covL ⟨st, x, y, rows⟩) = c0 at *
   generalize y1 (covL ⟨st, x, y, rows⟩) = c1 at *
   cases em with
   | false =>
    refine ZZ ?_
    refine zg [(0, none), (1, none), (2, none), (3, none), (4, none), (5, none), (6, none), (7, none), (8, none), (9, none), (10, none), (11, none), (12, none), (13, none), (14, none), (15, none), (16, none), (17, none), (18, none), (19, none), (20, none), (21, none), (22, none), (23, none), (24, none), (25, none), (26, none), (27, none), (28, none), (29, none), (30, none), (31, none), (32, none), (33, none), (34, none), (35, none), (36, none), (37, none)] zn (by kernel_rfl) ?_
    refine WQ ?_
    refine zb rfl ?_
    refine WA ?_
    exact zi [] _ rfl rfl rfl (by decide) (ZNK rfl) (fun _ => .nil) ⟨congrArg (fun z => AV.c (I z)) (by rw [hc1]; rfl), rfl⟩
   | true =>
   by_cases g1 : a0 = x.tdiv st ∧ a1 = y.tdiv st
   ·refine ZZ ?_
    refine zg [(0, none), (1, none), (2, none), (3, none), (4, none), (5, none), (6, none), (7, none), (8, none), (9, none), (10, none), (11, none), (12, none), (13, none), (14, none), (15, none), (16, none), (17, none), (18, none), (19, none), (20, none), (21, none), (22, none), (23, none), (24, none), (25, none), (26, none), (27, none), (28, none), (29, none), (30, none), (31, none), (32, none), (33, none), (34, none), (35, none), (36, none), (37, none)] zn (by kernel_rfl) ?_
    iterate 15 refine WX2 ?_
    first | refine ZU rfl (rd_neqsq (decide_eq_false (fun h => h g1)) rfl rfl rfl) ?_ | refine ZV ?_
    iterate 20 refine WX2 ?_
    first | refine ZU rfl (rd_neqsq rfl rfl rfl rfl) ?_ | refine ZV ?_
    refine WQ ?_
    refine zC rfl (fun hz => ?_) (fun hz => ?_)
    ·refine WA ?_
     have hz' := of_decide_eq_true hz
     exact zi [] _ rfl rfl rfl (by decide) (ZNK rfl) (fun _ => .nil) ⟨congrArg (fun z => AV.c (I z)) (by rw [hc1, if_neg (by simp only [Bool.true_and, Bool.and_eq_true, decide_eq_true_iff]; rintro ⟨⟨⟨_, _⟩, h1⟩, h2⟩; exact hz' ⟨by omega, by omega⟩)]), rfl⟩
    ·refine ZZ ?_
     refine WA ?_
     have hz' := Classical.not_not.1 (of_decide_eq_false hz)
     exact zi [] _ rfl rfl rfl (by decide) (ZNK rfl) (fun _ => .nil) ⟨congrArg (fun z => AV.c (I z)) (by rw [hc1, if_pos (by simp only [Bool.true_and, Bool.and_eq_true, decide_eq_true_iff]; exact ⟨⟨⟨g1.1, g1.2⟩, by omega⟩, by omega⟩)]), rfl⟩
   ·refine ZZ ?_
    refine zg [(0, none), (1, none), (2, none), (3, none), (4, none), (5, none), (6, none), (7, none), (8, none), (9, none), (10, none), (11, none), (12, none), (13, none), (14, none), (15, none), (16, none), (17, none), (18, none), (19, none), (20, none), (21, none), (22, none), (23, none), (24, none), (25, none), (26, none), (27, none), (28, none), (29, none), (30, none), (31, none), (32, none), (33, none), (34, none), (35, none), (36, none), (37, none)] zn (by kernel_rfl) ?_
    iterate 15 refine WX2 ?_
    first | refine ZU rfl (rd_neqsq (decide_eq_true g1) rfl rfl rfl) ?_ | refine ZV ?_
    iterate 20 refine WX2 ?_
    first | refine ZU rfl (rd_neqsq rfl rfl rfl rfl) ?_ | refine ZV ?_
    refine WQ ?_
    refine zb rfl ?_
    refine WA ?_
    exact zi [] _ rfl rfl rfl (by decide) (ZNK rfl) (fun _ => .nil) ⟨congrArg (fun z => AV.c (I z)) (by rw [hc1, if_neg (by simp only [Bool.true_and, Bool.and_eq_true, decide_eq_true_iff]; exact fun h => g1 h.1.1)]), rfl⟩
  ·refine ZR ?_
   iterate 4 refine WX1 ?_
   refine ZA (zl1 hqx rfl rfl rfl (by omega)) ?_
   iterate 6 refine WX1 ?_
   first | refine ZP (zl1 hqy rfl rfl rfl (by omega)) ?_ | refine ZS ?_
   refine WE ?_
   refine zb rfl ?_
   refine WA ?_
   exact zi [] _ rfl rfl rfl (by decide) (ZNK rfl) (fun _ => .nil) ⟨congrArg (fun z => AV.c (I z)) (by rw [hc1, if_pos (.inr hy)]), rfl⟩
 ·refine ZR ?_
  iterate 4 refine WX1 ?_
  refine ZA (zl1 hqx rfl rfl rfl (by omega)) ?_
  iterate 6 refine WX1 ?_
  first | refine ZP (zl1 hqy rfl rfl rfl (by omega)) ?_ | refine ZS ?_
  refine WE ?_
  refine zb rfl ?_
  refine WA ?_
  exact zi [] _ rfl rfl rfl (by decide) (ZNK rfl) (fun _ => .nil) ⟨congrArg (fun z => AV.c (I z)) (by rw [hc1, if_pos (.inl hx)]), rfl⟩
end Go.Proofs.YtfilfijammemfaaGreatDoor
