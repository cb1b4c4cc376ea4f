/- The cells of a grid, by value. -/
import Derived.Test.YtniolldgidgffaaGreatDoorQav
set_option linter.unusedSimpArgs false
set_option linter.unusedVariables false
/- CheckCells, by value: the walk. -/
-- NEWM
namespace Go.Proofs.YtniolldgidgffaaGreatDoor
open Go Go.RowKit
set_option maxRecDepth 100000
theorem rd_remq {P : Program} {N : Nat} {E : Env} {F : Fm} {H : List OB} {o : Oper} {t yt : TypeId} {x y : Operand} {m n q : Int} (h : m.tmod n = q) (ho : o.op = .binOp .rem t x y yt) (hx : ev F x = some (.c (.s (.int .i64 m)))) (hy : ev F y = some (.c (.s (.int .i64 n)))) (h0 : n ≠ 0) : Rd P N E o F H (.c (.s (.int .i64 q))) := h ▸ rd_rem ho hx hy h0
set_option maxHeartbeats 2000000 in
theorem check_v (v : Value) (c : Cel) (hl : c.rows.length ≤ 1000000000) (hr : ∀ r ∈ c.rows, r.length ≤ 1000000000) : ACalls Tryz.prog 65 [celA v c] [] fun u H => u = .c (I (celF c)) ∧ H = [] := by
 obtain ⟨st, x, y, rows⟩ := c
 simp only at hl hr
 have e1 : (tR rows).length = rows.length := by simp
 refine acalls_of (N := 110) Tryz.func65 rfl rfl (by simp) fun E hE => ?_
 obtain ⟨b1, hb1⟩ : ∃ b, outB st 2 10000 = b := ⟨_, rfl⟩
 cases b1 with
 | true =>
  refine WA ?_
  refine WR ?_
  refine al_ef rfl (ef_call0 false (fun _ => out_v _ _ _) rfl .fn rfl (by decide) (by kernel_rfl) rfl (fun _ => C0 rfl) (by simp)) ?_
  rintro _ _ ⟨_, _, _, ⟨rfl, rfl⟩, hF, hH⟩
  rw [hb1] at hF
  (refine NST hF hH ?_; clear hF hH; rintro rfl rfl)
  refine WE ?_
  refine aw_cond_t rfl ?_
  refine WA ?_
  exact aret_1 [] _ rfl rfl rfl (by decide) (ZNK rfl) (fun _ => .nil) ⟨congrArg (fun z => AV.c (I z)) (by rw [celF, if_pos (by rw [stepB_out, hb1]; rfl)]), rfl⟩
 | false =>
 have hst : 2 ≤ st ∧ st ≤ 10000 := by
  unfold outB at hb1; simp at hb1; omega
 have hmod : st.tmod 2 = st % 2 := Int.tmod_eq_emod_of_nonneg (by omega)
 refine WA ?_
 refine WR ?_
 refine al_ef rfl (ef_call0 false (fun _ => out_v _ _ _) rfl .fn rfl (by decide) (by kernel_rfl) rfl (fun _ => C0 rfl) (by simp)) ?_
 rintro _ _ ⟨_, _, _, ⟨rfl, rfl⟩, hF, hH⟩
 rw [hb1] at hF
 (refine NST hF hH ?_; clear hF hH; rintro rfl rfl)
 refine WE ?_
 refine aw_if rfl (fun h2 => ?_) (fun h2 => ?_)
 ·refine WA ?_
  exact aret_1 [] _ rfl rfl rfl (by decide) (ZNK rfl) (fun _ => .nil) ⟨congrArg (fun z => AV.c (I z)) (by rw [celF, if_pos (by rw [stepB_out, hmod]; simpa using Or.inr h2)]), rfl⟩
 have hs2 : stepB st = false := by rw [stepB_out, hb1, hmod]; simp at h2 ⊢; exact h2
 refine ZZ ?_
 have hc1 : celF ⟨st, x, y, rows⟩ = if rows = [] ∧ (x ≠ 0 ∨ y ≠ 0) then 3 else if 200 < rows.length then 2 else if rows = [] then 0 else if rowsF (wid rows) rows ≠ 0 then rowsF (wid rows) rows else if 200 < wid rows then 2 else if (farB x || farB y) = true then 1 else if x.tmod st ≠ 0 ∨ y.tmod st ≠ 0 ∨ tightB rows = false then 3 else 0 := by
  rw [celF, if_neg (by rw [hs2]; simp)]
 by_cases h0 : rows.length = 0
 ·have hrn : rows = [] := List.eq_nil_of_length_eq_zero h0
  by_cases hx : x = 0
  ·by_cases hy : y = 0
   ·refine WA ?_
    refine aw_cond_f rfl ?_
    refine ZZ ?_
    refine WA ?_
    refine aw_cond_f rfl ?_
    refine ZZ ?_
    refine WA ?_
    refine aw_cond_t rfl ?_
    refine WA ?_
    exact aret_1 [] _ rfl rfl rfl (by decide) (ZNK rfl) (fun _ => .nil) ⟨congrArg (fun z => AV.c (I z)) (by rw [hc1, if_neg (by simp [hx, hy]), if_neg (by omega), if_pos hrn]), rfl⟩
   ·refine WA ?_
    refine aw_cond_t rfl ?_
    refine WA ?_
    exact aret_1 [] _ rfl rfl rfl (by decide) (ZNK rfl) (fun _ => .nil) ⟨congrArg (fun z => AV.c (I z)) (by rw [hc1, if_pos ⟨hrn, .inr hy⟩]), rfl⟩
  ·refine WA ?_
   refine aw_cond_t rfl ?_
   refine WA ?_
   exact aret_1 [] _ rfl rfl rfl (by decide) (ZNK rfl) (fun _ => .nil) ⟨congrArg (fun z => AV.c (I z)) (by rw [hc1, if_pos ⟨hrn, .inl hx⟩]), rfl⟩
 have hrn : rows ≠ [] := fun e => h0 (by rw [e]; rfl)
 rw [if_neg (fun h => hrn h.1)] at hc1
 refine WA ?_
 refine aw_cond_f rfl ?_
 refine ZZ ?_
 refine WA ?_
 refine aw_if rfl (fun h3 => ?_) (fun h3 => ?_)
 ·refine WA ?_
  exact aret_1 [] _ rfl rfl rfl (by decide) (ZNK rfl) (fun _ => .nil) ⟨congrArg (fun z => AV.c (I z)) (by rw [hc1, if_pos (by omega)]), rfl⟩
 rw [if_neg (by omega), if_neg hrn] at hc1
 refine ZZ ?_
 refine WA ?_
 refine aw_cond_f rfl ?_
 refine ZZ ?_
 obtain ⟨r0, hr0⟩ : ∃ r0, rows[0]? = some r0 := ⟨_, List.getElem?_eq_getElem (by omega)⟩
 have hrow0 : (tR rows)[0]? = some [T r0] := by rw [List.getElem?_map, hr0]; rfl
 have hwr : wid rows = r0.length := by
  cases rows with
  | nil => cases hr0
  | cons a l => injection hr0 with e; unfold wid; rw [← e]; rfl
 have hl0 := hr r0 (List.mem_of_getElem? hr0)
 rw [hwr] at hc1
 refine WA ?_
 refine aw_loopw (fun m F H => ∃ i : Nat, m + i = rows.length ∧ rowsF r0.length (rows.drop i) = rowsF r0.length rows ∧ F = [(1, .p 0 0 0), (42, .c (.r v (tR rows))), (43, .c (I (tR rows).length)), (44, .c (I i))] ∧ H = [celB v ⟨st, x, y, rows⟩]) ?_ ?_
 ·refine wk_of [some 0] (fun _ => [(1, .p 0 0 0), (42, .c (.r v (tR rows))), (43, .c (I (tR rows).length)), (44, .c (I (0 : Nat)))]) (fun _ => [celB v ⟨st, x, y, rows⟩]) (by decide) (ZNL hE) ZCF ZCH (fun _ => ?_)
  exact ⟨rows.length, 0, by omega, rfl, rfl, rfl⟩
 rintro m F H ⟨i, hi, hfd, rfl, rfl⟩
 refine WA ?_
 refine aw_if rfl (fun hlt => ?_) (fun hge => ?_)
 ·obtain ⟨r, hri⟩ : ∃ r, rows[i]? = some r := ⟨_, List.getElem?_eq_getElem (by omega)⟩
  have hrow : (tR rows)[i]? = some [T r] := by rw [List.getElem?_map, hri]; rfl
  have hlr := hr r (List.mem_of_getElem? hri)
  have hdr := rowsF_drop (w := r0.length) hri
  refine WA ?_
  refine WA ?_
  refine aw_if rfl (fun h4 => ?_) (fun h4 => ?_)
  ·refine WA ?_
   exact aret_1 [] _ rfl rfl rfl (by decide) (ZNK rfl) (fun _ => .nil) ⟨congrArg (fun z => AV.c (I z)) (by rw [hc1, ← hfd, hdr, if_pos (c := r.length ≠ r0.length) (by omega)]; rfl), rfl⟩
  rw [if_neg (by omega)] at hdr
  refine ZZ ?_
  refine WA ?_
  refine aw_loopw (fun m2 F H => ∃ k : Nat, m2 + k = r.length ∧ okB2 (r.drop k) = okB2 r ∧ F = [(1, .p 0 0 0), (4, .c (T r)), (42, .c (.r v (tR rows))), (43, .c (I (tR rows).length)), (44, .c (I i)), (57, .c (I r.length)), (58, .c (I k))] ∧ H = [celB v ⟨st, x, y, rows⟩]) ?_ ?_
  ·refine wk_of [some 0] (fun _ => [(1, .p 0 0 0), (4, .c (T r)), (42, .c (.r v (tR rows))), (43, .c (I (tR rows).length)), (44, .c (I i)), (57, .c (I r.length)), (58, .c (I (0 : Nat)))]) (fun _ => [celB v ⟨st, x, y, rows⟩]) (by decide) (ZNL hE) ZCF ZCH (fun _ => ?_)
   exact ⟨r.length, 0, by omega, rfl, rfl, rfl⟩
  rintro m2 F H ⟨k, hk, hok, rfl, rfl⟩
  refine WA ?_
  refine aw_if rfl (fun hlt2 => ?_) (fun hge2 => ?_)
  ·obtain ⟨b, hb⟩ : ∃ b, r[k]? = some b := ⟨_, List.getElem?_eq_getElem (by omega)⟩
   have hbd := okB2_drop hb
   have h35 := u8_35 b
   have h46 := u8_46 b
   by_cases q1 : (b.toNat : Int) = 35
   ·refine WA ?_
    refine WA ?_
    refine aw_cond_f rfl ?_
    refine ZZ ?_
    refine WA ?_
    refine wk_of [some 0] (fun _ => [(1, .p 0 0 0), (4, .c (T r)), (42, .c (.r v (tR rows))), (43, .c (I (tR rows).length)), (44, .c (I i)), (57, .c (I r.length)), (58, .c (I (k + 1 : Nat)))]) (fun _ => [celB v ⟨st, x, y, rows⟩]) (by decide) (ZNL hE) ZCF ZCH (fun _ => ?_)
    exact ⟨m2 - 1, by omega, k + 1, by omega, by rw [← hok, hbd, ← h35]; simp [q1], rfl, rfl⟩
   ·refine WA ?_
    refine WA ?_
    refine aw_if rfl (fun q2 => ?_) (fun q2 => ?_)
    ·refine WA ?_
     have hrf : rowsF r0.length rows = 9 := by rw [← hfd, hdr, if_pos (by rw [← hok, hbd, ← h35, ← h46]; simp [q1, q2])]
     exact aret_1 [] _ rfl rfl rfl (by decide) (ZNK rfl) (fun _ => .nil) ⟨congrArg (fun z => AV.c (I z)) (by rw [hc1, hrf]; rfl), rfl⟩
    ·refine ZZ ?_
     refine WA ?_
     refine wk_of [some 0] (fun _ => [(1, .p 0 0 0), (4, .c (T r)), (42, .c (.r v (tR rows))), (43, .c (I (tR rows).length)), (44, .c (I i)), (57, .c (I r.length)), (58, .c (I (k + 1 : Nat)))]) (fun _ => [celB v ⟨st, x, y, rows⟩]) (by decide) (ZNL hE) ZCF ZCH (fun _ => ?_)
     exact ⟨m2 - 1, by omega, k + 1, by omega, by rw [← hok, hbd, ← h46]; simp at q2; simp [q2], rfl, rfl⟩
  have hbt : okB2 r = true := by rw [← hok, List.drop_eq_nil_of_le (by omega)]; rfl
  rw [if_neg (by rw [hbt]; simp)] at hdr
  refine ZZ ?_
  refine WA ?_
  refine wk_of [some 0] (fun _ => [(1, .p 0 0 0), (42, .c (.r v (tR rows))), (43, .c (I (tR rows).length)), (44, .c (I (i + 1 : Nat)))]) (fun _ => [celB v ⟨st, x, y, rows⟩]) (by decide) (ZNL hE) ZCF ZCH (fun _ => ?_)
  exact ⟨m - 1, by omega, i + 1, by omega, by rw [← hfd, hdr], rfl, rfl⟩
 have hrf : rowsF r0.length rows = 0 := by rw [← hfd, List.drop_eq_nil_of_le (by omega)]; rfl
 have hrw := rowsF_0.1 hrf
 rw [hrf, if_neg (by simp)] at hc1
 refine ZZ ?_
 refine WA ?_
 refine aw_if rfl (fun h5 => ?_) (fun h5 => ?_)
 ·refine WA ?_
  exact aret_1 [] _ rfl rfl rfl (by decide) (ZNK rfl) (fun _ => .nil) ⟨congrArg (fun z => AV.c (I z)) (by rw [hc1, if_pos (by omega)]), rfl⟩
 rw [if_neg (by omega)] at hc1
 refine ZZ ?_
 obtain ⟨b2, hb2⟩ : ∃ b, outB x (-2000000) 2000000 = b := ⟨_, rfl⟩
 obtain ⟨b3, hb3⟩ : ∃ b, outB y (-2000000) 2000000 = b := ⟨_, rfl⟩
 have hff : (farB x || farB y) = (b2 || b3) := by rw [← hb2, ← hb3]; rfl
 rw [hff] at hc1
 have hfx : b2 = false → -2000000 ≤ x ∧ x ≤ 2000000 := fun e => farB_f.1 (hb2.trans e)
 have hfy : b3 = false → -2000000 ≤ y ∧ y ≤ 2000000 := fun e => farB_f.1 (hb3.trans e)
 cases b2 with
 | true =>
  refine WR ?_
  refine al_ef rfl (ef_call0 false (fun _ => out_v _ _ _) rfl .fn rfl (by decide) (by kernel_rfl) rfl (fun _ => C0 rfl) (by simp)) ?_
  rintro _ _ ⟨_, _, _, ⟨rfl, rfl⟩, hF, hH⟩
  rw [hb2] at hF
  (refine NST hF hH ?_; clear hF hH; rintro rfl rfl)
  refine WO ?_
  first | refine ZS ?_ | (refine G1 rfl ?_; refine al_ef rfl (ef_call0 false (fun _ => out_v _ _ _) rfl .fn rfl (by decide) (by kernel_rfl) rfl (fun _ => C0 rfl) (by simp)) ?_; rintro _ _ ⟨_, _, _, ⟨rfl, rfl⟩, hF, hH⟩; rw [hb3] at hF; (refine NST hF hH ?_; clear hF hH; rintro rfl rfl)) | skip
  refine WE ?_
  refine aw_cond_t rfl ?_
  refine WA ?_
  exact aret_1 [] _ rfl rfl rfl (by decide) (ZNK rfl) (fun _ => .nil) ⟨congrArg (fun z => AV.c (I z)) (by rw [hc1, if_pos (by simp)]), rfl⟩
 | false =>
 cases b3 with
 | true =>
  refine WR ?_
  refine al_ef rfl (ef_call0 false (fun _ => out_v _ _ _) rfl .fn rfl (by decide) (by kernel_rfl) rfl (fun _ => C0 rfl) (by simp)) ?_
  rintro _ _ ⟨_, _, _, ⟨rfl, rfl⟩, hF, hH⟩
  rw [hb2] at hF
  (refine NST hF hH ?_; clear hF hH; rintro rfl rfl)
  refine WO ?_
  first | refine ZS ?_ | (refine G1 rfl ?_; refine al_ef rfl (ef_call0 false (fun _ => out_v _ _ _) rfl .fn rfl (by decide) (by kernel_rfl) rfl (fun _ => C0 rfl) (by simp)) ?_; rintro _ _ ⟨_, _, _, ⟨rfl, rfl⟩, hF, hH⟩; rw [hb3] at hF; (refine NST hF hH ?_; clear hF hH; rintro rfl rfl)) | skip
  refine WE ?_
  refine aw_cond_t rfl ?_
  refine WA ?_
  exact aret_1 [] _ rfl rfl rfl (by decide) (ZNK rfl) (fun _ => .nil) ⟨congrArg (fun z => AV.c (I z)) (by rw [hc1, if_pos (by simp)]), rfl⟩
 | false =>
 obtain ⟨hx1, hx2⟩ := hfx rfl
 obtain ⟨hy1, hy2⟩ := hfy rfl
 rw [if_neg (by simp)] at hc1
 refine WR ?_
 refine al_ef rfl (ef_call0 false (fun _ => out_v _ _ _) rfl .fn rfl (by decide) (by kernel_rfl) rfl (fun _ => C0 rfl) (by simp)) ?_
 rintro _ _ ⟨_, _, _, ⟨rfl, rfl⟩, hF, hH⟩
 rw [hb2] at hF
 (refine NST hF hH ?_; clear hF hH; rintro rfl rfl)
 refine WO ?_
 first | refine ZS ?_ | (refine G1 rfl ?_; refine al_ef rfl (ef_call0 false (fun _ => out_v _ _ _) rfl .fn rfl (by decide) (by kernel_rfl) rfl (fun _ => C0 rfl) (by simp)) ?_; rintro _ _ ⟨_, _, _, ⟨rfl, rfl⟩, hF, hH⟩; rw [hb3] at hF; (refine NST hF hH ?_; clear hF hH; rintro rfl rfl)) | skip
 refine WE ?_
 refine aw_cond_f rfl ?_
 refine ZZ ?_
 obtain ⟨qx, hqx⟩ : ∃ q, x.tmod st = q := ⟨_, rfl⟩
 obtain ⟨qy, hqy⟩ : ∃ q, y.tmod st = q := ⟨_, rfl⟩
 rw [hqx, hqy] at hc1
 by_cases hx : qx = 0
 ·by_cases hy : qy = 0
  ·refine ZR ?_
   iterate 4 refine WX1 ?_
   refine ZA (rd_remq hqx rfl rfl rfl (by omega)) ?_
   iterate 6 refine WX1 ?_
   first | refine ZP (rd_remq hqy rfl rfl rfl (by omega)) ?_ | refine ZS ?_
   refine WO ?_
   first | refine ZS ?_ | (refine G1 rfl ?_; refine al_ef rfl (ef_call0 false (fun _ => istight_v v rows hrn (fun r hr => (hrw r hr).1.trans hwr.symm) hl (by rw [hwr]; exact hl0)) rfl .fn rfl (by decide) (by kernel_rfl) rfl (fun _ => C0 rfl) (by simp)) ?_; rintro _ _ ⟨_, _, _, ⟨rfl, rfl⟩, hF, hH⟩; (refine NST hF hH ?_; clear hF hH; rintro rfl rfl)) | skip
   refine WE ?_
   refine aw_cond rfl (fun ht => ?_) (fun ht => ?_)
   ·refine WA ?_
    exact aret_1 [] _ rfl rfl rfl (by decide) (ZNK rfl) (fun _ => .nil) ⟨congrArg (fun z => AV.c (I z)) (by rw [hc1, if_pos (.inr (.inr (by simpa using ht)))]), rfl⟩
   ·refine ZZ ?_
    refine WA ?_
    exact aret_1 [] _ rfl rfl rfl (by decide) (ZNK rfl) (fun _ => .nil) ⟨congrArg (fun z => AV.c (I z)) (by rw [hc1, if_neg (by simp [hx, hy]; simpa using ht)]), rfl⟩
  ·refine ZR ?_
   iterate 4 refine WX1 ?_
   refine ZA (rd_remq hqx rfl rfl rfl (by omega)) ?_
   iterate 6 refine WX1 ?_
   first | refine ZP (rd_remq hqy rfl rfl rfl (by omega)) ?_ | refine ZS ?_
   refine WO ?_
   first | refine ZS ?_ | (refine G1 rfl ?_; refine al_ef rfl (ef_call0 false (fun _ => istight_v v rows hrn (fun r hr => (hrw r hr).1.trans hwr.symm) hl (by rw [hwr]; exact hl0)) rfl .fn rfl (by decide) (by kernel_rfl) rfl (fun _ => C0 rfl) (by simp)) ?_; rintro _ _ ⟨_, _, _, ⟨rfl, rfl⟩, hF, hH⟩; (refine NST hF hH ?_; clear hF hH; rintro rfl rfl)) | skip
   refine WE ?_
   refine aw_cond_t rfl ?_
   refine WA ?_
   exact aret_1 [] _ rfl rfl rfl (by decide) (ZNK rfl) (fun _ => .nil) ⟨congrArg (fun z => AV.c (I z)) (by rw [hc1, if_pos (.inr (.inl hy))]), rfl⟩
 ·refine ZR ?_
  iterate 4 refine WX1 ?_
  refine ZA (rd_remq hqx rfl rfl rfl (by omega)) ?_
  iterate 6 refine WX1 ?_
  first | refine ZP (rd_remq hqy rfl rfl rfl (by omega)) ?_ | refine ZS ?_
  refine WO ?_
  first | refine ZS ?_ | (refine G1 rfl ?_; refine al_ef rfl (ef_call0 false (fun _ => istight_v v rows hrn (fun r hr => (hrw r hr).1.trans hwr.symm) hl (by rw [hwr]; exact hl0)) rfl .fn rfl (by decide) (by kernel_rfl) rfl (fun _ => C0 rfl) (by simp)) ?_; rintro _ _ ⟨_, _, _, ⟨rfl, rfl⟩, hF, hH⟩; (refine NST hF hH ?_; clear hF hH; rintro rfl rfl)) | skip
  refine WE ?_
  refine aw_cond_t rfl ?_
  refine WA ?_
  exact aret_1 [] _ rfl rfl rfl (by decide) (ZNK rfl) (fun _ => .nil) ⟨congrArg (fun z => AV.c (I z)) (by rw [hc1, if_pos (.inl hx)]), rfl⟩
end Go.Proofs.YtniolldgidgffaaGreatDoor

/- The least and the greatest place of a grid's cells, by value. -/
-- NEWM
namespace Go.Proofs.YtniolldgidgffaaGreatDoor
open Go Go.RowKit
set_option maxRecDepth 100000
theorem box_v (g : Grd) (pv v : Value) (hg : GOk g) : ACalls Tryz.prog 159 [gV pv v g] [] fun u H => u = .t [.a [.c (I (x0 (covG g))), .c (I (y0 (covG g)))], .a [.c (I (x1 (covG g))), .c (I (y1 (covG g)))], .c (B (!(covG g).isEmpty))] ∧ H = [] := by
 refine acalls_of (N := 11) Tryz.func159 rfl rfl (by simp) fun E hE => ?_
 refine WA ?_
 refine WR ?_
 refine al_ef rfl (ef_call [2, 0, 1] (fun _ => [bxS (covK g 0), bxL (covK g 0), bxG (covK g 0)]) false (fun _ => each_box g pv v hg) rfl .fn rfl (by decide) (by kernel_rfl) rfl ZCH (by decide) ZCH (by simp)) ?_
 rintro F1 H1 ⟨_, _, _, _, ⟨rfl, rfl⟩, hF, hH⟩
 (refine NSU hF hH ?_; clear hF hH; rintro rfl rfl)
 refine WE ?_
 refine ZZ ?_
 refine aw_regionT [(0, none), (1, none), (2, none), (3, some [1, 2]), (4, some [2]), (5, some [])] hMixed (by kernel_rfl) ?_
 refine WQ ?_
 all_goals (exact aret_of (us := [.a [.c (I (x0 (covG g))), .c (I (y0 (covG g)))], .a [.c (I (x1 (covG g))), .c (I (y1 (covG g)))], .c (B (!(covG g).isEmpty))]) [] (fun _ => .t [.a [.c (I (x0 (covG g))), .c (I (y0 (covG g)))], .a [.c (I (x1 (covG g))), .c (I (y1 (covG g)))], .c (B (!(covG g).isEmpty))]) (fun _ => []) (.cella (n := 2) rfl (by kernel_rfl) (Cells.box rfl) (by simp) (by (try simp only [nm, putL, Nat.reduceAdd, cellsOf, cvOf]) <;> rfl) (.cella (n := 2) rfl (by kernel_rfl) (Cells.box rfl) (by simp) (by (try simp only [nm, putL, Nat.reduceAdd, cellsOf, cvOf]) <;> rfl) (.cell rfl (by kernel_rfl) (Cells.box rfl) .nil))) (by decide) (fun i hi => absurd hi (Nat.not_lt_zero i)) (fun g => .tL (.cons (.aL (.cons (.c rfl) (.cons (.c rfl) .nil))) (.cons (.aL (.cons (.c rfl) (.cons (.c rfl) .nil))) (.cons (.c rfl) .nil)))) (fun _ => .nil) (fun _ => ⟨rfl, rfl⟩))
end Go.Proofs.YtniolldgidgffaaGreatDoor

/- The cells of a grid, by value. -/
-- NEWM
namespace Go.Proofs.YtniolldgidgffaaGreatDoor
open Go Go.RowKit
set_option maxRecDepth 100000
theorem spt_bd {g : Grd} (hg : GOk g) {p : Spot} (h : p ∈ covG g) : -10000000 ≤ p.1 ∧ p.1 ≤ 10001000 ∧ -10000000 ≤ p.2 ∧ p.2 ≤ 10001000 := by
 obtain ⟨i, hi, rfl⟩ := covG_mem.1 h
 have hk := (List.getElem?_eq_some_iff.1 hi).1
 obtain ⟨h1, h2, _, _⟩ := each_at hg hk
 have h3 := hg.x
 have h4 := hg.y
 rw [← spt_eq]
 simp only
 omega
theorem x0_bd {g : Grd} (hg : GOk g) (h : covG g ≠ []) : -10000000 ≤ x0 (covG g) ∧ x0 (covG g) ≤ x1 (covG g) ∧ x1 (covG g) ≤ 10001000 ∧ -10000000 ≤ y0 (covG g) ∧ y0 (covG g) ≤ y1 (covG g) ∧ y1 (covG g) ≤ 10001000 := by
 obtain ⟨⟨p1, hp1, e1⟩, ⟨p2, hp2, e2⟩, ⟨p3, hp3, e3⟩, ⟨p4, hp4, e4⟩⟩ := x0_at h
 have b1 := spt_bd hg hp1
 have b2 := spt_bd hg hp2
 have b3 := spt_bd hg hp3
 have b4 := spt_bd hg hp4
 have l1 := (mnL_spec (show cols (covG g) ≠ [] by simpa [cols] using h)).2 p2.1 (List.mem_map_of_mem hp2)
 have l2 := (mnL_spec (show rws (covG g) ≠ [] by simpa [rws] using h)).2 p4.2 (List.mem_map_of_mem hp4)
 have l3 : x0 (covG g) ≤ p2.1 := l1
 have l4 : y0 (covG g) ≤ p4.2 := l2
 omega
theorem rowB_succ (L : List Spot) (x y : Int) (k : Nat) : rowB L x y (k + 1) = rowB L x y k ++ [if (x + (k : Nat), y) ∈ L then 35 else 46] := by
 unfold rowB; rw [List.range_succ, List.map_append]; rfl
def rowsB (L : List Spot) (x y : Int) (w n : Nat) : List (List UInt8) := (List.range n).map fun i => rowB L x (y + (i : Nat)) w
theorem rowsB_succ (L : List Spot) (x y : Int) (w n : Nat) : rowsB L x y w (n + 1) = rowsB L x y w n ++ [rowB L x (y + (n : Nat)) w] := by
 unfold rowsB; rw [List.range_succ, List.map_append]; rfl
theorem rowsB_len (L : List Spot) (x y : Int) (w n : Nat) : (rowsB L x y w n).length = n := by unfold rowsB; simp
set_option maxHeartbeats 2000000 in
theorem cells_v (g : Grd) (pv v : Value) (hg : GOk g) (hst : 0 ≤ g.st ∧ g.st ≤ 10000) : ACalls Tryz.prog 93 [gV pv v g] [] fun u H => ∃ v', u = .t [celA v' (normC g.st (covG g)).1, .c (I (normC g.st (covG g)).2)] ∧ H = [] := by
 by_cases hL : covG g = []
 ·have hem : (!(covG g).isEmpty) = false := by rw [hL]; rfl
  refine acalls_of (N := 92) Tryz.func93 rfl rfl (by simp) fun E hE => ?_
  refine WA ?_
  refine WA ?_
  refine WR ?_
  refine al_ef rfl (ef_call0 false (fun _ => box_v g pv v hg) rfl .fn rfl (by decide) (by kernel_rfl) rfl (fun _ => C0 rfl) (by simp)) ?_
  rintro _ _ ⟨_, _, _, ⟨rfl, rfl⟩, hF, hH⟩
  rw [hem] at hF
  (refine NST hF hH ?_; clear hF hH; rintro rfl rfl)
  refine WE ?_
  refine WA ?_
  refine aw_cond_t rfl ?_
  refine WA ?_
  exact aret_of (us := [.a [.c (I g.st), .c (I 0), .c (I 0), .c (.r (.slice none 0 0) [])], .c (I (0))]) [] (fun g' => .t [.a [.c (I g.st), .c (I 0), .c (I 0), .c (.r (.slice none 0 0) [])], .c (I (0))]) (fun _ => []) (.cella (n := 4) rfl (by kernel_rfl) (Cells.box rfl) (by simp) (by (try simp only [nm, putL, Nat.reduceAdd, cellsOf, cvOf]) <;> rfl) (.tmp rfl .nil)) (by decide) (fun i hi => absurd hi (Nat.not_lt_zero i)) (fun g' => .tL (.cons (.aL (.cons (.c rfl) (.cons (.c rfl) (.cons (.c rfl) (.cons (.c rfl) .nil))))) (.cons (.c rfl) .nil))) (fun _ => .nil) (fun g' => ⟨.slice none 0 0, by rw [normC, if_pos hL]; rfl, rfl⟩)
 have hem : (!(covG g).isEmpty) = true := by cases h : covG g with | nil => exact absurd h hL | cons => rfl
 obtain ⟨d1, d2, d3, d4, d5, d6⟩ := x0_bd hg hL
 have hat := atG_eq hg.len
 have hnc : normC g.st (covG g) = if 199 < x1 (covG g) - x0 (covG g) ∨ 199 < y1 (covG g) - y0 (covG g) then (⟨0, 0, 0, []⟩, 12) else if celF ⟨g.st, x0 (covG g) * g.st, y0 (covG g) * g.st, rowsB (covG g) (x0 (covG g)) (y0 (covG g)) (x1 (covG g) - x0 (covG g) + 1).toNat (y1 (covG g) - y0 (covG g) + 1).toNat⟩ ≠ 0 then (⟨0, 0, 0, []⟩, celF ⟨g.st, x0 (covG g) * g.st, y0 (covG g) * g.st, rowsB (covG g) (x0 (covG g)) (y0 (covG g)) (x1 (covG g) - x0 (covG g) + 1).toNat (y1 (covG g) - y0 (covG g) + 1).toNat⟩) else (⟨g.st, x0 (covG g) * g.st, y0 (covG g) * g.st, rowsB (covG g) (x0 (covG g)) (y0 (covG g)) (x1 (covG g) - x0 (covG g) + 1).toNat (y1 (covG g) - y0 (covG g) + 1).toNat⟩, 0) := by
  rw [normC, if_neg hL]
  have : celN g.st (covG g) = ⟨g.st, x0 (covG g) * g.st, y0 (covG g) * g.st, rowsB (covG g) (x0 (covG g)) (y0 (covG g)) (x1 (covG g) - x0 (covG g) + 1).toNat (y1 (covG g) - y0 (covG g) + 1).toNat⟩ := by rw [celN, if_neg hL]; rfl
  rw [this]
 rw [hnc]
 refine acalls_of (N := 92) Tryz.func93 rfl rfl (by simp) fun E hE => ?_
 refine WA ?_
 refine WA ?_
 refine WR ?_
 refine al_ef rfl (ef_call0 false (fun _ => box_v g pv v hg) rfl .fn rfl (by decide) (by kernel_rfl) rfl (fun _ => C0 rfl) (by simp)) ?_
 rintro _ _ ⟨_, _, _, ⟨rfl, rfl⟩, hF, hH⟩
 rw [hem] at hF
 (refine NST hF hH ?_; clear hF hH; rintro rfl rfl)
 refine WE ?_
 generalize hLL : covG g = L at *
 generalize x0 L = X0 at *
 generalize x1 L = X1 at *
 generalize y0 L = Y0 at *
 generalize y1 L = Y1 at *
 refine WA ?_
 refine aw_cond_f rfl ?_
 refine ZZ ?_
 by_cases hx : 199 < X1 - X0
 ·refine WA ?_
  refine aw_cond_t rfl ?_
  refine WA ?_
  exact aret_of (us := [.a [.c (I 0), .c (I 0), .c (I 0), .c (.r (.slice none 0 0) [])], .c (I (12))]) [] (fun g' => .t [.a [.c (I 0), .c (I 0), .c (I 0), .c (.r (.slice none 0 0) [])], .c (I (12))]) (fun _ => []) (.cella (n := 4) rfl (by kernel_rfl) (Cells.box rfl) (by simp) (by (try simp only [nm, putL, Nat.reduceAdd, cellsOf, cvOf]) <;> rfl) (.tmp rfl .nil)) (by decide) (fun i hi => absurd hi (Nat.not_lt_zero i)) (fun g' => .tL (.cons (.aL (.cons (.c rfl) (.cons (.c rfl) (.cons (.c rfl) (.cons (.c rfl) .nil))))) (.cons (.c rfl) .nil))) (fun _ => .nil) (fun g' => ⟨.slice none 0 0, by rw [if_pos (.inl hx)]; rfl, rfl⟩)
 by_cases hy : 199 < Y1 - Y0
 ·refine WA ?_
  refine aw_cond_t rfl ?_
  refine WA ?_
  exact aret_of (us := [.a [.c (I 0), .c (I 0), .c (I 0), .c (.r (.slice none 0 0) [])], .c (I (12))]) [] (fun g' => .t [.a [.c (I 0), .c (I 0), .c (I 0), .c (.r (.slice none 0 0) [])], .c (I (12))]) (fun _ => []) (.cella (n := 4) rfl (by kernel_rfl) (Cells.box rfl) (by simp) (by (try simp only [nm, putL, Nat.reduceAdd, cellsOf, cvOf]) <;> rfl) (.tmp rfl .nil)) (by decide) (fun i hi => absurd hi (Nat.not_lt_zero i)) (fun g' => .tL (.cons (.aL (.cons (.c rfl) (.cons (.c rfl) (.cons (.c rfl) (.cons (.c rfl) .nil))))) (.cons (.c rfl) .nil))) (fun _ => .nil) (fun g' => ⟨.slice none 0 0, by rw [if_pos (.inr hy)]; rfl, rfl⟩)
 rw [if_neg (by omega)]
 refine WA ?_
 refine aw_cond_f rfl ?_
 refine ZZ ?_
 obtain ⟨W, hW⟩ : ∃ W : Nat, (X1 - X0 + 1).toNat = W := ⟨_, rfl⟩
 obtain ⟨N, hN⟩ : ∃ N : Nat, (Y1 - Y0 + 1).toNat = N := ⟨_, rfl⟩
 rw [hW, hN]
 have m1 : -100000000000 ≤ X0 * g.st ∧ X0 * g.st ≤ 200000000000 := ⟨by have := Int.mul_le_mul_of_nonneg_right d1 hst.1; omega, by have := Int.mul_le_mul_of_nonneg_right (show X0 ≤ 10001000 by omega) hst.1; omega⟩
 have m2 : -100000000000 ≤ Y0 * g.st ∧ Y0 * g.st ≤ 200000000000 := ⟨by have := Int.mul_le_mul_of_nonneg_right d4 hst.1; omega, by have := Int.mul_le_mul_of_nonneg_right (show Y0 ≤ 10001000 by omega) hst.1; omega⟩
 refine ZZ ?_
 refine aw_regionT [(0, none), (1, none), (2, none), (3, none), (4, none), (5, none), (6, none), (7, none), (8, none), (9, none), (10, none), (11, none), (12, none), (13, none), (14, none), (15, some [7, 8, 9, 10, 11, 12, 13]), (16, none), (17, some [])] hMixed (by kernel_rfl) ?_
 refine WQ ?_
 all_goals skip
 refine WA ?_
 refine aw_loopw (fun m F H => ∃ (i c : Nat), m + i = N ∧ i ≤ c ∧ F = [(0, gV pv v g), (2, .p 0 0 0), (4, .p 1 0 0), (5, .p 2 0 0), (6, .p 3 0 0), (8, .c (I (Y0 + (i : Nat))))] ∧ H = [.box [.c (I 0), .c (I 0), .c (I 0), .c (.r (.slice none 0 0) [])], .box [.c (I g.st), .c (I (X0 * g.st)), .c (I (Y0 * g.st)), .o 4 0 (rowsB L X0 Y0 W i).length c], .box [.c (I X0), .c (I Y0)], .box [.c (I X1), .c (I Y1)], .arr 9 1 c (tR (rowsB L X0 Y0 W i))]) ?_ ?_
 ·refine wk_of [some 0, some 1, some 2, some 3, none] (fun _ => [(0, gV pv v g), (2, .p 0 0 0), (4, .p 1 0 0), (5, .p 2 0 0), (6, .p 3 0 0), (8, .c (I (Y0 + (0 : Nat))))]) (fun _ => [.box [.c (I 0), .c (I 0), .c (I 0), .c (.r (.slice none 0 0) [])], .box [.c (I g.st), .c (I (X0 * g.st)), .c (I (Y0 * g.st)), .o 4 0 (rowsB L X0 Y0 W 0).length 0], .box [.c (I X0), .c (I Y0)], .box [.c (I X1), .c (I Y1)], .arr 9 1 0 (tR (rowsB L X0 Y0 W 0))]) (by decide) (ZNL hE) ZCF ZCH (fun _ => ?_)
  exact ⟨N, 0, 0, by omega, by omega, rfl, rfl⟩
 rintro m F H ⟨i, c, hi, hic, rfl, rfl⟩
 refine WA ?_
 refine aw_if rfl (fun hlt => ?_) (fun hge => ?_)
 ·refine ZR ?_
  refine al_ef rfl (ef_alloct (z := .agg #[.pointer none, .slice none 0 0]) (vs := [.pointer none, .slice none 0 0]) rfl rfl (by decide) (by kernel_rfl) rfl rfl) ?_
  rintro _ _ ⟨rfl, rfl⟩
  refine WE ?_
  refine WA ?_
  refine aw_loopw (fun m2 F H => ∃ (k c2 : Nat) (A : AV), m2 + k = W ∧ k ≤ c2 ∧ (A = pnil ∧ k = 0 ∨ A = .p 5 0 0) ∧ F = [(0, gV pv v g), (2, .p 0 0 0), (4, .p 1 0 0), (5, .p 2 0 0), (6, .p 3 0 0), (8, .c (I (Y0 + (i : Nat)))), (9, .p 5 0 0), (10, .c (I (X0 + (k : Nat))))] ∧ H = [.box [.c (I 0), .c (I 0), .c (I 0), .c (.r (.slice none 0 0) [])], .box [.c (I g.st), .c (I (X0 * g.st)), .c (I (Y0 * g.st)), .o 4 0 (rowsB L X0 Y0 W i).length c], .box [.c (I X0), .c (I Y0)], .box [.c (I X1), .c (I Y1)], .arr 9 1 c (tR (rowsB L X0 Y0 W i)), .boxt 234 [A, .o 6 0 (rowB L X0 (Y0 + (i : Nat)) (k)).length c2], bldA c2 (rowB L X0 (Y0 + (i : Nat)) (k))]) ?_ ?_
  ·refine wk_of [some 0, some 1, some 2, some 3, some 4, some 5, none] (fun _ => [(0, gV pv v g), (2, .p 0 0 0), (4, .p 1 0 0), (5, .p 2 0 0), (6, .p 3 0 0), (8, .c (I (Y0 + (i : Nat)))), (9, .p 5 0 0), (10, .c (I (X0 + (0 : Nat))))]) (fun _ => [.box [.c (I 0), .c (I 0), .c (I 0), .c (.r (.slice none 0 0) [])], .box [.c (I g.st), .c (I (X0 * g.st)), .c (I (Y0 * g.st)), .o 4 0 (rowsB L X0 Y0 W i).length c], .box [.c (I X0), .c (I Y0)], .box [.c (I X1), .c (I Y1)], .arr 9 1 c (tR (rowsB L X0 Y0 W i)), .boxt 234 [pnil, .o 6 0 (rowB L X0 (Y0 + (i : Nat)) (0)).length 0], bldA 0 (rowB L X0 (Y0 + (i : Nat)) (0))]) (by decide) (ZNL hE) ZCF ZCH (fun _ => ?_)
   exact ⟨W, 0, 0, pnil, by omega, by omega, .inl ⟨rfl, rfl⟩, rfl, rfl⟩
  rintro m2 F H ⟨k, c2, A, hk, hkc, hA, rfl, rfl⟩
  have hrs := rowB_succ L X0 (Y0 + (i : Nat)) k
  have hrl := rowB_len L X0 (Y0 + (i : Nat)) k
  have hat1 := hat (X0 + (k : Nat)) (Y0 + (i : Nat))
  generalize hr : rowB L X0 (Y0 + (i : Nat)) k = r at *
  refine WA ?_
  refine aw_if rfl (fun hlt2 => ?_) (fun hge2 => ?_)
  ·have hcv : ∃ A', (A' = pnil ∨ A' = .p 0 0 0) ∧ ∀ g' : AV → Value, CvH g' [some 5, some 6] [.box [.c (I 0), .c (I 0), .c (I 0), .c (.r (.slice none 0 0) [])], .box [.c (I g.st), .c (I (X0 * g.st)), .c (I (Y0 * g.st)), .o 4 0 (rowsB L X0 Y0 W i).length c], .box [.c (I X0), .c (I Y0)], .box [.c (I X1), .c (I Y1)], .arr 9 1 c (tR (rowsB L X0 Y0 W i)), .boxt 234 [A, .o 6 0 r.length c2], bldA c2 r] false [some 5, some 6] [bldB A' 1 r.length c2, bldA c2 r] := by
    rcases hA with ⟨rfl, _⟩ | rfl
    ·exact ⟨pnil, .inl rfl, fun _ => .oth rfl (.boxt (.cons (.c rfl) (.cons (.o rfl rfl) .nil))) (.arr rfl rfl .nil)⟩
    ·exact ⟨.p 0 0 0, .inr rfl, fun _ => .oth rfl (.boxt (.cons (.p rfl) (.cons (.o rfl rfl) .nil))) (.arr rfl rfl .nil)⟩
   obtain ⟨A', hA', hcv⟩ := hcv
   by_cases hin : (X0 + (k : Nat), Y0 + (i : Nat)) ∈ L
   ·rw [decide_eq_true hin] at hat1
    rw [if_pos hin] at hrs
    refine WR ?_
    refine al_ef rfl (ef_call0 false (fun _ => at_v g pv v (X0 + (k : Nat)) (Y0 + (i : Nat)) hg (by omega) (by omega)) rfl .fn rfl (by decide) (by kernel_rfl) rfl (fun _ => C0 rfl) (by simp)) ?_
    rintro _ _ ⟨_, _, _, ⟨rfl, rfl⟩, hF, hH⟩
    rw [hat1] at hF
    (refine NST hF hH ?_; clear hF hH; rintro rfl rfl)
    refine WE ?_
    refine aw_cond_t rfl ?_
    refine ZR ?_
    refine al_ef rfl (ef_call [5, 6] (fun _ => [bldB A' 1 r.length c2, bldA c2 r]) false (fun _ => writebyte_v A' c2 r 35 hA' (by omega)) rfl .fn rfl (by decide) (by kernel_rfl) rfl (fun _ => .cons (.p rfl) (.cons (.c rfl) .nil)) (by decide) hcv (by simp)) ?_
    rintro F1 H1 ⟨_, _, _, _, ⟨c3, rfl, rfl, hc3⟩, hF, hH⟩
    (refine NSU hF hH ?_; clear hF hH; rintro rfl rfl)
    refine WE ?_
    refine WA ?_
    refine wk_of [some 0, some 1, some 2, some 3, some 4, some 5, some 6] (fun _ => [(0, gV pv v g), (2, .p 0 0 0), (4, .p 1 0 0), (5, .p 2 0 0), (6, .p 3 0 0), (8, .c (I (Y0 + (i : Nat)))), (9, .p 5 0 0), (10, .c (I (X0 + (k + 1 : Nat))))]) (fun _ => [.box [.c (I 0), .c (I 0), .c (I 0), .c (.r (.slice none 0 0) [])], .box [.c (I g.st), .c (I (X0 * g.st)), .c (I (Y0 * g.st)), .o 4 0 (rowsB L X0 Y0 W i).length c], .box [.c (I X0), .c (I Y0)], .box [.c (I X1), .c (I Y1)], .arr 9 1 c (tR (rowsB L X0 Y0 W i)), .boxt 234 [.p 5 0 0, .o 6 0 (r ++ [35]).length c3], bldA c3 (r ++ [35])]) (by decide) (ZNL hE) ZCF ZCH (fun _ => ?_)
    have hl3 : k + 1 ≤ c3 := by rw [List.length_append, hrl] at hc3; exact hc3
    exact ⟨m2 - 1, by omega, k + 1, c3, .p 5 0 0, by omega, hl3, .inr rfl, rfl, by rw [hrs]⟩
   ·rw [decide_eq_false hin] at hat1
    rw [if_neg hin] at hrs
    refine WR ?_
    refine al_ef rfl (ef_call0 false (fun _ => at_v g pv v (X0 + (k : Nat)) (Y0 + (i : Nat)) hg (by omega) (by omega)) rfl .fn rfl (by decide) (by kernel_rfl) rfl (fun _ => C0 rfl) (by simp)) ?_
    rintro _ _ ⟨_, _, _, ⟨rfl, rfl⟩, hF, hH⟩
    rw [hat1] at hF
    (refine NST hF hH ?_; clear hF hH; rintro rfl rfl)
    refine WE ?_
    refine aw_cond_f rfl ?_
    refine ZR ?_
    refine al_ef rfl (ef_call [5, 6] (fun _ => [bldB A' 1 r.length c2, bldA c2 r]) false (fun _ => writebyte_v A' c2 r 46 hA' (by omega)) rfl .fn rfl (by decide) (by kernel_rfl) rfl (fun _ => .cons (.p rfl) (.cons (.c rfl) .nil)) (by decide) hcv (by simp)) ?_
    rintro F1 H1 ⟨_, _, _, _, ⟨c3, rfl, rfl, hc3⟩, hF, hH⟩
    (refine NSU hF hH ?_; clear hF hH; rintro rfl rfl)
    refine WE ?_
    refine WA ?_
    refine wk_of [some 0, some 1, some 2, some 3, some 4, some 5, some 6] (fun _ => [(0, gV pv v g), (2, .p 0 0 0), (4, .p 1 0 0), (5, .p 2 0 0), (6, .p 3 0 0), (8, .c (I (Y0 + (i : Nat)))), (9, .p 5 0 0), (10, .c (I (X0 + (k + 1 : Nat))))]) (fun _ => [.box [.c (I 0), .c (I 0), .c (I 0), .c (.r (.slice none 0 0) [])], .box [.c (I g.st), .c (I (X0 * g.st)), .c (I (Y0 * g.st)), .o 4 0 (rowsB L X0 Y0 W i).length c], .box [.c (I X0), .c (I Y0)], .box [.c (I X1), .c (I Y1)], .arr 9 1 c (tR (rowsB L X0 Y0 W i)), .boxt 234 [.p 5 0 0, .o 6 0 (r ++ [46]).length c3], bldA c3 (r ++ [46])]) (by decide) (ZNL hE) ZCF ZCH (fun _ => ?_)
    have hl3 : k + 1 ≤ c3 := by rw [List.length_append, hrl] at hc3; exact hc3
    exact ⟨m2 - 1, by omega, k + 1, c3, .p 5 0 0, by omega, hl3, .inr rfl, rfl, by rw [hrs]⟩
  obtain rfl : k = W := by omega
  obtain ⟨rfl, hk0⟩ | rfl := hA
  ·omega
  have hr0 : 0 < r.length := by omega
  have hc2 : r.length ≤ c2 := by omega
  have hsn := rowsB_succ L X0 Y0 k i
  have hsl := rowsB_len L X0 Y0 k i
  rw [hr] at hsn
  generalize hRr : rowsB L X0 Y0 k i = R at *
  refine ZZ ?_
  refine aw_regionT [(0, none), (1, none), (2, some [0, 1]), (3, some [0, 1]), (4, some []), (5, none), (6, some [])] hMixed (by kernel_rfl) ?_
  refine WP ?_
  refine at_ef rfl rfl (ef_call [5, 6] (fun _ => [bldB (.p 0 0 0) 1 r.length c2, bldA c2 r]) false (fun _ => bstring_v (.p 0 0 0) c2 r hr0 (by omega) hc2 rfl) rfl .fn rfl (by decide) (by kernel_rfl) rfl (fun _ => .cons (.p rfl) .nil) (by decide) (fun _ => .oth rfl (.boxt (.cons (.p rfl) (.cons (.o rfl rfl) .nil))) (.arr rfl rfl .nil)) (by simp)) ?_
  rintro F1 H1 ⟨_, _, _, _, ⟨rfl, z, rfl⟩, hF, hH⟩
  (refine NSU hF hH ?_; clear hF hH; rintro rfl rfl)
  refine ⟨ag_cons (by first | exact ag_rd rfl rfl rfl (ZX (KF (t := 28) (f := 3) rfl rfl)) rfl) (ag_cons (by first | exact ag_rd rfl rfl rfl (ZL (KK (t := 26) rfl)) rfl) (ag_none)), ?_⟩
  refine WP ?_
  refine at_ef rfl rfl (Zapp (KA (t := 26) rfl)) ?_
  rintro _ _ ⟨_, cc, hcc, rfl, rfl⟩
  refine ⟨ag_none, ?_⟩
  refine WQ ?_
  refine WA ?_
  refine wk_of [some 0, some 1, some 2, some 3, some 4] (fun _ => [(0, gV pv v g), (2, .p 0 0 0), (4, .p 1 0 0), (5, .p 2 0 0), (6, .p 3 0 0), (8, .c (I (Y0 + (i + 1 : Nat))))]) (fun _ => [.box [.c (I 0), .c (I 0), .c (I 0), .c (.r (.slice none 0 0) [])], .box [.c (I g.st), .c (I (X0 * g.st)), .c (I (Y0 * g.st)), .o 4 0 (R ++ [r]).length cc], .box [.c (I X0), .c (I Y0)], .box [.c (I X1), .c (I Y1)], .arr 9 1 cc (tR (R ++ [r]))]) (by decide) (ZNL hE) ZCF ZCH (fun _ => ?_)
  exact ⟨m - 1, by omega, i + 1, cc, by omega, by omega, rfl, by rw [hsn]⟩
 obtain rfl : i = N := by omega
 have hRl : ∀ r ∈ rowsB L X0 Y0 W i, r.length ≤ 1000000000 := fun r hr => by
  obtain ⟨j, _, rfl⟩ := List.mem_map.1 hr
  rw [rowB_len]; omega
 have hsl := rowsB_len L X0 Y0 W i
 generalize hRr : rowsB L X0 Y0 W i = R at *
 refine ZZ ?_
 refine WR ?_
 refine al_ef rfl (ef_call0 true (fun g' => check_v (g' (.o 4 0 R.length c)) ⟨g.st, X0 * g.st, Y0 * g.st, R⟩ (by simp only; omega) hRl) rfl .fn rfl (by decide) (by kernel_rfl) rfl (fun _ => .cons (.aL (.cons (.c rfl) (.cons (.c rfl) (.cons (.c rfl) (.cons (.frz rfl rfl (by rw [List.drop_zero, List.take_of_length_le (by simp)]) (by simp) rfl) .nil))))) .nil) (fun _ _ _ _ ⟨hu, hH⟩ => by rw [hu, hH]; exact ⟨.c (.inl trivial), by simp⟩)) ?_
 rintro _ _ ⟨_, _, _, ⟨rfl, rfl⟩, hF, hH⟩
 (refine NST hF hH ?_; clear hF hH; rintro rfl rfl)
 refine WE ?_
 generalize hq : celF ⟨g.st, X0 * g.st, Y0 * g.st, R⟩ = q at *
 refine WA ?_
 refine aw_if rfl (fun h9 => ?_) (fun h9 => ?_)
 ·refine WA ?_
  exact aret_of (us := [.a [.c (I 0), .c (I 0), .c (I 0), .c (.r (.slice none 0 0) [])], .c (I (q))]) [] (fun g' => .t [.a [.c (I 0), .c (I 0), .c (I 0), .c (.r (.slice none 0 0) [])], .c (I (q))]) (fun _ => []) (.cella (n := 4) rfl (by kernel_rfl) (Cells.box rfl) (by simp) (by (try simp only [nm, putL, Nat.reduceAdd, cellsOf, cvOf]) <;> rfl) (.tmp rfl .nil)) (by decide) (fun i hi => absurd hi (Nat.not_lt_zero i)) (fun g' => .tL (.cons (.aL (.cons (.c rfl) (.cons (.c rfl) (.cons (.c rfl) (.cons (.c rfl) .nil))))) (.cons (.c rfl) .nil))) (fun _ => .nil) (fun g' => ⟨.slice none 0 0, by rw [if_pos h9]; rfl, rfl⟩)
 ·refine ZZ ?_
  refine WA ?_
  exact aret_of (us := [.a [.c (I g.st), .c (I (X0 * g.st)), .c (I (Y0 * g.st)), .o 4 0 R.length c], .c (I (0))]) [] (fun g' => .t [.a [.c (I g.st), .c (I (X0 * g.st)), .c (I (Y0 * g.st)), .c (.r (g' (.o 4 0 R.length c)) (tR R))], .c (I (0))]) (fun _ => []) (.cella (n := 4) rfl (by kernel_rfl) (Cells.box rfl) (by simp) (by (try simp only [nm, putL, Nat.reduceAdd, cellsOf, cvOf]) <;> rfl) (.tmp rfl .nil)) (by decide) (fun i hi => absurd hi (Nat.not_lt_zero i)) (fun g' => .tL (.cons (.aL (.cons (.c rfl) (.cons (.c rfl) (.cons (.c rfl) (.cons (.frz rfl rfl (by rw [List.drop_zero, List.take_of_length_le (by simp)]) (by simp) rfl) .nil))))) (.cons (.c rfl) .nil))) (fun _ => .nil) (fun g' => ⟨g' (.o 4 0 R.length c), by rw [if_neg h9], rfl⟩)
end Go.Proofs.YtniolldgidgffaaGreatDoor
