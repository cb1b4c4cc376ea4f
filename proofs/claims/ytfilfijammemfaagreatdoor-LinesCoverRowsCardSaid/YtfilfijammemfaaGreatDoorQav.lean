/- The least and the greatest place of a grid's cells, by value. -/
import Derived.Test.YtfilfijammemfaaGreatDoorQau
set_option linter.unusedSimpArgs false
set_option linter.unusedVariables false
-- NEWM
namespace Go.Proofs.YtfilfijammemfaaGreatDoor
open Go Go.RowKit
set_option maxRecDepth 100000
theorem istight_v (v : Value) (rows : List (List UInt8)) (h0 : rows ≠ []) (hw : ∀ r ∈ rows, r.length = wid rows) (hl : rows.length ≤ 1000000000) (hwl : wid rows ≤ 1000000000) : ACalls Tryz.prog 86 [.c (.r v (tR rows))] [] fun u H => u = .c (B (tightB rows)) ∧ H = [] := by
 have e1 : (tR rows).length = rows.length := by simp
 have hpos : 0 < rows.length := by cases rows with | nil => exact absurd rfl h0 | cons => simp
 obtain ⟨r0, hr0⟩ : ∃ r0, rows[0]? = some r0 := ⟨_, List.getElem?_eq_getElem hpos⟩
 obtain ⟨rl, hrl⟩ : ∃ rl, rows[rows.length - 1]? = some rl := ⟨_, List.getElem?_eq_getElem (by omega)⟩
 have hh : rows.headD [] = r0 := by cases rows with | nil => cases hr0 | cons a l => injection hr0
 have hg : rows.getLastD [] = rl := by rw [List.getLastD_eq_getLast?, List.getLast?_eq_getElem?, hrl]; rfl
 have hwr : wid rows = r0.length := by unfold wid; rw [hh]
 rw [hwr] at hw hwl
 have hrow0 : (tR rows)[0]? = some [T r0] := by rw [List.getElem?_map, hr0]; rfl
 have hrowl : (tR rows)[rows.length - 1]? = some [T rl] := by rw [List.getElem?_map, hrl]; rfl
 unfold tightB
 rw [hh, hg, hwr]
 refine ze (N := 35) Tryz.func86 rfl rfl (by simp) fun E hE => ?_
 refine WA ?_
 refine WA ?_
 refine WA ?_
 obtain ⟨b1, hb1⟩ : ∃ b, r0.contains 35 = b := ⟨_, rfl⟩
 cases b1 with
 | false =>
  refine WR ?_
  refine zf rfl (za false (fun _ => has_v r0) rfl (.clo rfl) rfl (by decide) (by kernel_rfl) rfl (fun _ => C0 rfl) (by simp)) ?_
  rintro _ _ ⟨_, _, _, ⟨rfl, rfl⟩, hF, hH⟩
  rw [hb1] at hF
  (refine NST hF hH ?_; clear hF hH; rintro rfl rfl)
  iterate 7 refine WX1 ?_
  first | refine ZP (YJo (i := rows.length - 1) (hz := by omega)) ?_ | refine ZS ?_
  refine WO ?_
  first | refine ZS ?_ | (refine G1 rfl ?_; refine zf rfl (za false (fun _ => has_v rl) rfl (.clo rfl) rfl (by decide) (by kernel_rfl) rfl (fun _ => C0 rfl) (by simp)) ?_; rintro _ _ ⟨_, _, _, ⟨rfl, rfl⟩, hF, hH⟩; rw [hb2] at hF; (refine NST hF hH ?_; clear hF hH; rintro rfl rfl)) | skip
  refine WE ?_
  refine zb rfl ?_
  refine WA ?_
  exact zi [] _ rfl rfl rfl (by decide) (ZNK rfl) (fun _ => .nil) ⟨congrArg (fun z => AV.c (B z)) (by rw [hb1]; rfl), rfl⟩
 | true =>
  have hr1 : 0 < r0.length := by
   cases r0 with
   | nil => cases hb1
   | cons => simp
  have hp2 : ∀ r ∈ rows, ACalls Tryz.prog 126 [.c (T r)] [] fun u H => u = .c (B (r[0]? == some 35)) ∧ H = [] := fun r hr => fst_v r (by rw [hw r hr]; exact hr1)
  have hp3 : ∀ r ∈ rows, ACalls Tryz.prog 127 [.c (T r), .p 0 0 0] [.box [.c (I r0.length)]] fun u H => u = .c (B (r[r0.length - 1]? == some 35)) ∧ H = [.box [.c (I r0.length)]] := fun r hr => lst_v r r0.length hr1 (by rw [hw r hr]; exact Nat.le_refl _) hwl
  obtain ⟨b2, hb2⟩ : ∃ b, rl.contains 35 = b := ⟨_, rfl⟩
  cases b2 with
  | false =>
   refine WR ?_
   refine zf rfl (za false (fun _ => has_v r0) rfl (.clo rfl) rfl (by decide) (by kernel_rfl) rfl (fun _ => C0 rfl) (by simp)) ?_
   rintro _ _ ⟨_, _, _, ⟨rfl, rfl⟩, hF, hH⟩
   rw [hb1] at hF
   (refine NST hF hH ?_; clear hF hH; rintro rfl rfl)
   iterate 7 refine WX1 ?_
   first | refine ZP (YJo (i := rows.length - 1) (hz := by omega)) ?_ | refine ZS ?_
   refine WO ?_
   first | refine ZS ?_ | (refine G1 rfl ?_; refine zf rfl (za false (fun _ => has_v rl) rfl (.clo rfl) rfl (by decide) (by kernel_rfl) rfl (fun _ => C0 rfl) (by simp)) ?_; rintro _ _ ⟨_, _, _, ⟨rfl, rfl⟩, hF, hH⟩; rw [hb2] at hF; (refine NST hF hH ?_; clear hF hH; rintro rfl rfl)) | skip
   refine WE ?_
   refine zb rfl ?_
   refine WA ?_
   exact zi [] _ rfl rfl rfl (by decide) (ZNK rfl) (fun _ => .nil) ⟨congrArg (fun z => AV.c (B z)) (by rw [hb1, hb2]; rfl), rfl⟩
  | true =>
   refine WR ?_
   refine zf rfl (za false (fun _ => has_v r0) rfl (.clo rfl) rfl (by decide) (by kernel_rfl) rfl (fun _ => C0 rfl) (by simp)) ?_
   rintro _ _ ⟨_, _, _, ⟨rfl, rfl⟩, hF, hH⟩
   rw [hb1] at hF
   (refine NST hF hH ?_; clear hF hH; rintro rfl rfl)
   iterate 7 refine WX1 ?_
   first | refine ZP (YJo (i := rows.length - 1) (hz := by omega)) ?_ | refine ZS ?_
   refine WO ?_
   first | refine ZS ?_ | (refine G1 rfl ?_; refine zf rfl (za false (fun _ => has_v rl) rfl (.clo rfl) rfl (by decide) (by kernel_rfl) rfl (fun _ => C0 rfl) (by simp)) ?_; rintro _ _ ⟨_, _, _, ⟨rfl, rfl⟩, hF, hH⟩; rw [hb2] at hF; (refine NST hF hH ?_; clear hF hH; rintro rfl rfl)) | skip
   refine WE ?_
   refine zd rfl ?_
   refine ZZ ?_
   obtain ⟨b3, hb3⟩ : ∃ b, (rows.any fun r => r[0]? == some 35) = b := ⟨_, rfl⟩
   refine WR ?_
   refine zf rfl (za false (fun _ => containsS_v 126 (fun r => r[0]? == some 35) (by kernel_rfl) rows v hp2 (by omega)) rfl .fn rfl (by decide) (by kernel_rfl) rfl (fun _ => C0 rfl) (by simp)) ?_
   rintro _ _ ⟨_, _, _, ⟨rfl, rfl⟩, hF, hH⟩
   rw [hb3] at hF
   (refine NST hF hH ?_; clear hF hH; rintro rfl rfl)
   refine WE ?_
   cases b3 with
   | false =>
    refine WR ?_
    first | refine ZS ?_ | (refine G1 rfl ?_; refine zf rfl (zD [0] (fun _ => [.box [.c (I r0.length)]]) false (fun _ => containsSp_v r0.length 127 (fun r => r[r0.length - 1]? == some 35) (by kernel_rfl) rows v hp3 (by omega)) rfl .fn rfl (by decide) (by kernel_rfl) rfl ZCH (by decide) ZCH (by simp)) ?_; rintro F1 H1 ⟨_, _, _, _, ⟨rfl, rfl⟩, hF, hH⟩; (refine NSU hF hH ?_; clear hF hH; rintro rfl rfl)) | skip
    refine WE ?_
    exact zi [] _ rfl rfl rfl (by decide) (ZNK rfl) (fun _ => .nil) ⟨congrArg (fun z => AV.c (B z)) (by rw [hb1, hb2, hb3]; rfl), rfl⟩
   | true =>
    refine WR ?_
    first | refine ZS ?_ | (refine G1 rfl ?_; refine zf rfl (zD [0] (fun _ => [.box [.c (I r0.length)]]) false (fun _ => containsSp_v r0.length 127 (fun r => r[r0.length - 1]? == some 35) (by kernel_rfl) rows v hp3 (by omega)) rfl .fn rfl (by decide) (by kernel_rfl) rfl ZCH (by decide) ZCH (by simp)) ?_; rintro F1 H1 ⟨_, _, _, _, ⟨rfl, rfl⟩, hF, hH⟩; (refine NSU hF hH ?_; clear hF hH; rintro rfl rfl)) | skip
    refine WE ?_
    exact zi [] _ rfl rfl rfl (by decide) (ZNK rfl) (fun _ => .nil) ⟨congrArg (fun z => AV.c (B z)) (by rw [hb1, hb2, hb3]; rfl), rfl⟩
theorem stepB_out (st : Int) : stepB st = (outB st 2 10000 || decide (st.tmod 2 ≠ 0)) := rfl
theorem rowsF_drop {w : Nat} {rows : List (List UInt8)} {k : Nat} {r : List UInt8} (h : rows[k]? = some r) : rowsF w (rows.drop k) = if r.length ≠ w then 3 else if okB2 r = false then 9 else rowsF w (rows.drop (k + 1)) := by
 obtain ⟨hk, rfl⟩ := List.getElem?_eq_some_iff.1 h
 rw [List.drop_eq_getElem_cons hk]; rfl
theorem okB2_drop {r : List UInt8} {k : Nat} {b : UInt8} (h : r[k]? = some b) : okB2 (r.drop k) = ((b == 35 || b == 46) && okB2 (r.drop (k + 1))) := by
 obtain ⟨hk, rfl⟩ := List.getElem?_eq_some_iff.1 h
 rw [List.drop_eq_getElem_cons hk]; rfl
theorem u8_46 (b : UInt8) : decide ((b.toNat : Int) = 46) = (b == 46) := u8_eq b 46
end Go.Proofs.YtfilfijammemfaaGreatDoor
-- NEWM
namespace Go.Proofs.YtfilfijammemfaaGreatDoor
open Go Go.RowKit
set_option maxRecDepth 100000
theorem zl1 {P : Program} {N : Nat} {E : Env} {F : Fm} {H : List OB} {o : Oper} {t yt : TypeId} {x y : Operand} {m n q : Int} (h : m.tmod n = q) (ho : o.op = .binOp .rem t x y yt) (hx : ev F x = some (.c (.s (.int .i64 m)))) (hy : ev F y = some (.c (.s (.int .i64 n)))) (h0 : n ≠ 0) : Rd P N E o F H (.c (.s (.int .i64 q))) := h ▸ rd_rem ho hx hy h0
set_option maxHeartbeats 2000000 in
theorem check_v (v : Value) (c : Cel) (hl : c.rows.length ≤ 1000000000) (hr : ∀ r ∈ c.rows, r.length ≤ 1000000000) : ACalls Tryz.prog 39 [celA v c] [] fun u H => u = .c (I (celF c)) ∧ H = [] := by
 obtain ⟨st, x, y, rows⟩ := c
 simp only at hl hr
 have e1 : (tR rows).length = rows.length := by simp
 refine ze (N := 110) Tryz.func39 rfl rfl (by simp) fun E hE => ?_
 obtain ⟨b1, hb1⟩ : ∃ b, outB st 2 10000 = b := ⟨_, rfl⟩
 cases b1 with
 | true =>
  refine WA ?_
  refine WR ?_
  refine zf rfl (za false (fun _ => out_v _ _ _) rfl .fn rfl (by decide) (by kernel_rfl) rfl (fun _ => C0 rfl) (by simp)) ?_
  rintro _ _ ⟨_, _, _, ⟨rfl, rfl⟩, hF, hH⟩
  rw [hb1] at hF
  (refine NST hF hH ?_; clear hF hH; rintro rfl rfl)
  refine WE ?_
  refine zb rfl ?_
  refine WA ?_
  exact zi [] _ rfl rfl rfl (by decide) (ZNK rfl) (fun _ => .nil) ⟨congrArg (fun z => AV.c (I z)) (by rw [celF, if_pos (by rw [stepB_out, hb1]; rfl)]), rfl⟩
 | false =>
 have hst : 2 ≤ st ∧ st ≤ 10000 := by
  unfold outB at hb1; simp at hb1; omega
 have hmod : st.tmod 2 = st % 2 := Int.tmod_eq_emod_of_nonneg (by omega)
 refine WA ?_
 refine WR ?_
 refine zf rfl (za false (fun _ => out_v _ _ _) rfl .fn rfl (by decide) (by kernel_rfl) rfl (fun _ => C0 rfl) (by simp)) ?_
 rintro _ _ ⟨_, _, _, ⟨rfl, rfl⟩, hF, hH⟩
 rw [hb1] at hF
 (refine NST hF hH ?_; clear hF hH; rintro rfl rfl)
 refine WE ?_
 refine zl rfl (fun h2 => ?_) (fun h2 => ?_)
 ·refine WA ?_
  exact zi [] _ rfl rfl rfl (by decide) (ZNK rfl) (fun _ => .nil) ⟨congrArg (fun z => AV.c (I z)) (by rw [celF, if_pos (by rw [stepB_out, hmod]; simpa using Or.inr h2)]), rfl⟩
 have hs2 : stepB st = false := by rw [stepB_out, hb1, hmod]; simp at h2 ⊢; exact h2
 refine ZZ ?_
 have hc1 : celF ⟨st, x, y, rows⟩ = if rows = [] ∧ (x ≠ 0 ∨ y ≠ 0) then 3 else if 200 < rows.length then 2 else if rows = [] then 0 else if rowsF (wid rows) rows ≠ 0 then rowsF (wid rows) rows else if 200 < wid rows then 2 else if (farB x || farB y) = true then 1 else if x.tmod st ≠ 0 ∨ y.tmod st ≠ 0 ∨ tightB rows = false then 3 else 0 := by
  rw [celF, if_neg (by rw [hs2]; simp)]
 by_cases h0 : rows.length = 0
 ·have hrn : rows = [] := List.eq_nil_of_length_eq_zero h0
  by_cases hx : x = 0
  ·by_cases hy : y = 0
   ·refine WA ?_
    refine zd rfl ?_
    refine ZZ ?_
    refine WA ?_
    refine zd rfl ?_
    refine ZZ ?_
    refine WA ?_
    refine zb rfl ?_
    refine WA ?_
    exact zi [] _ rfl rfl rfl (by decide) (ZNK rfl) (fun _ => .nil) ⟨congrArg (fun z => AV.c (I z)) (by rw [hc1, if_neg (by simp [hx, hy]), if_neg (by omega), if_pos hrn]), rfl⟩
   ·refine WA ?_
    refine zb rfl ?_
    refine WA ?_
    exact zi [] _ rfl rfl rfl (by decide) (ZNK rfl) (fun _ => .nil) ⟨congrArg (fun z => AV.c (I z)) (by rw [hc1, if_pos ⟨hrn, .inr hy⟩]), rfl⟩
  ·refine WA ?_
   refine zb rfl ?_
   refine WA ?_
   exact zi [] _ rfl rfl rfl (by decide) (ZNK rfl) (fun _ => .nil) ⟨congrArg (fun z => AV.c (I z)) (by rw [hc1, if_pos ⟨hrn, .inl hx⟩]), rfl⟩
 have hrn : rows ≠ [] := fun e => h0 (by rw [e]; rfl)
 rw [if_neg (fun h => hrn h.1)] at hc1
 refine WA ?_
 refine zd rfl ?_
 refine ZZ ?_
 refine WA ?_
 refine zl rfl (fun h3 => ?_) (fun h3 => ?_)
 ·refine WA ?_
  exact zi [] _ rfl rfl rfl (by decide) (ZNK rfl) (fun _ => .nil) ⟨congrArg (fun z => AV.c (I z)) (by rw [hc1, if_pos (by omega)]), rfl⟩
 rw [if_neg (by omega), if_neg hrn] at hc1
 refine ZZ ?_
 refine WA ?_
 refine zd rfl ?_
 refine ZZ ?_
 obtain ⟨r0, hr0⟩ : ∃ r0, rows[0]? = some r0 := ⟨_, List.getElem?_eq_getElem (by omega)⟩
 have hrow0 : (tR rows)[0]? = some [T r0] := by rw [List.getElem?_map, hr0]; rfl
 have hwr : wid rows = r0.length := by
  cases rows with
  | nil => cases hr0
  | cons a l => injection hr0 with e; unfold wid; rw [← e]; rfl
 have hl0 := hr r0 (List.mem_of_getElem? hr0)
 rw [hwr] at hc1
 refine WA ?_
 refine zk (fun m F H => ∃ i : Nat, m + i = rows.length ∧ rowsF r0.length (rows.drop i) = rowsF r0.length rows ∧ F = [(1, .p 0 0 0), (42, .c (.r v (tR rows))), (43, .c (I (tR rows).length)), (44, .c (I i))] ∧ H = [celB v ⟨st, x, y, rows⟩]) ?_ ?_
 ·refine zh [some 0] (fun _ => [(1, .p 0 0 0), (42, .c (.r v (tR rows))), (43, .c (I (tR rows).length)), (44, .c (I (0 : Nat)))]) (fun _ => [celB v ⟨st, x, y, rows⟩]) (by decide) (ZNL hE) ZCF ZCH (fun _ => ?_)
  exact ⟨rows.length, 0, by omega, rfl, rfl, rfl⟩
 rintro m F H ⟨i, hi, hfd, rfl, rfl⟩
 refine WA ?_
 refine zl rfl (fun hlt => ?_) (fun hge => ?_)
 ·obtain ⟨r, hri⟩ : ∃ r, rows[i]? = some r := ⟨_, List.getElem?_eq_getElem (by omega)⟩
  have hrow : (tR rows)[i]? = some [T r] := by rw [List.getElem?_map, hri]; rfl
  have hlr := hr r (List.mem_of_getElem? hri)
  have hdr := rowsF_drop (w := r0.length) hri
  refine WA ?_
  refine WA ?_
  refine zl rfl (fun h4 => ?_) (fun h4 => ?_)
  ·refine WA ?_
   exact zi [] _ rfl rfl rfl (by decide) (ZNK rfl) (fun _ => .nil) ⟨congrArg (fun z => AV.c (I z)) (by rw [hc1, ← hfd, hdr, if_pos (c := r.length ≠ r0.length) (by omega)]; rfl), rfl⟩
  rw [if_neg (by omega)] at hdr
  refine ZZ ?_
  refine WA ?_
  refine zk (fun m2 F H => ∃ k : Nat, m2 + k = r.length ∧ okB2 (r.drop k) = okB2 r ∧ F = [(1, .p 0 0 0), (4, .c (T r)), (42, .c (.r v (tR rows))), (43, .c (I (tR rows).length)), (44, .c (I i)), (57, .c (I r.length)), (58, .c (I k))] ∧ H = [celB v ⟨st, x, y, rows⟩]) ?_ ?_
  ·refine zh [some 0] (fun _ => [(1, .p 0 0 0), (4, .c (T r)), (42, .c (.r v (tR rows))), (43, .c (I (tR rows).length)), (44, .c (I i)), (57, .c (I r.length)), (58, .c (I (0 : Nat)))]) (fun _ => [celB v ⟨st, x, y, rows⟩]) (by decide) (ZNL hE) ZCF ZCH (fun _ => ?_)
   exact ⟨r.length, 0, by omega, rfl, rfl, rfl⟩
  rintro m2 F H ⟨k, hk, hok, rfl, rfl⟩
  refine WA ?_
  refine zl rfl (fun hlt2 => ?_) (fun hge2 => ?_)
  ·obtain ⟨b, hb⟩ : ∃ b, r[k]? = some b := ⟨_, List.getElem?_eq_getElem (by omega)⟩
   have hbd := okB2_drop hb
   have h35 := u8_35 b
   have h46 := u8_46 b
   by_cases q1 : (b.toNat : Int) = 35
   ·refine WA ?_
    refine WA ?_
    refine zd rfl ?_
    refine ZZ ?_
    refine WA ?_
    refine zh [some 0] (fun _ => [(1, .p 0 0 0), (4, .c (T r)), (42, .c (.r v (tR rows))), (43, .c (I (tR rows).length)), (44, .c (I i)), (57, .c (I r.length)), (58, .c (I (k + 1 : Nat)))]) (fun _ => [celB v ⟨st, x, y, rows⟩]) (by decide) (ZNL hE) ZCF ZCH (fun _ => ?_)
    exact ⟨m2 - 1, by omega, k + 1, by omega, by rw [← hok, hbd, ← h35]; simp [q1], rfl, rfl⟩
   ·refine WA ?_
    refine WA ?_
    refine zl rfl (fun q2 => ?_) (fun q2 => ?_)
    ·refine WA ?_
     have hrf : rowsF r0.length rows = 9 := by rw [← hfd, hdr, if_pos (by rw [← hok, hbd, ← h35, ← h46]; simp [q1, q2])]
     exact zi [] _ rfl rfl rfl (by decide) (ZNK rfl) (fun _ => .nil) ⟨congrArg (fun z => AV.c (I z)) (by rw [hc1, hrf]; rfl), rfl⟩
    ·refine ZZ ?_
     refine WA ?_
     refine zh [some 0] (fun _ => [(1, .p 0 0 0), (4, .c (T r)), (42, .c (.r v (tR rows))), (43, .c (I (tR rows).length)), (44, .c (I i)), (57, .c (I r.length)), (58, .c (I (k + 1 : Nat)))]) (fun _ => [celB v ⟨st, x, y, rows⟩]) (by decide) (ZNL hE) ZCF ZCH (fun _ => ?_)
     exact ⟨m2 - 1, by omega, k + 1, by omega, by rw [← hok, hbd, ← h46]; simp at q2; simp [q2], rfl, rfl⟩
  have hbt : okB2 r = true := by rw [← hok, List.drop_eq_nil_of_le (by omega)]; rfl
  rw [if_neg (by rw [hbt]; simp)] at hdr
  refine ZZ ?_
  refine WA ?_
  refine zh [some 0] (fun _ => [(1, .p 0 0 0), (42, .c (.r v (tR rows))), (43, .c (I (tR rows).length)), (44, .c (I (i + 1 : Nat)))]) (fun _ => [celB v ⟨st, x, y, rows⟩]) (by decide) (ZNL hE) ZCF ZCH (fun _ => ?_)
  exact ⟨m - 1, by omega, i + 1, by omega, by rw [← hfd, hdr], rfl, rfl⟩
 have hrf : rowsF r0.length rows = 0 := by rw [← hfd, List.drop_eq_nil_of_le (by omega)]; rfl
 have hrw := rowsF_0.1 hrf
 rw [hrf, if_neg (by simp)] at hc1
 refine ZZ ?_
 refine WA ?_
 refine zl rfl (fun h5 => ?_) (fun h5 => ?_)
 ·refine WA ?_
  exact zi [] _ rfl rfl rfl (by decide) (ZNK rfl) (fun _ => .nil) ⟨congrArg (fun z => AV.c (I z)) (by rw [hc1, if_pos (by omega)]), rfl⟩
 rw [if_neg (by omega)] at hc1
 refine ZZ ?_
 obtain ⟨b2, hb2⟩ : ∃ b, outB x (-2000000) 2000000 = b := ⟨_, rfl⟩
 obtain ⟨b3, hb3⟩ : ∃ b, outB y (-2000000) 2000000 = b := ⟨_, rfl⟩
 have hff : (farB x || farB y) = (b2 || b3) := by rw [← hb2, ← hb3]; rfl
 rw [hff] at hc1
 have hfx : b2 = false → -2000000 ≤ x ∧ x ≤ 2000000 := fun e => farB_f.1 (hb2.trans e)
 have hfy : b3 = false → -2000000 ≤ y ∧ y ≤ 2000000 := fun e => farB_f.1 (hb3.trans e)
 cases b2 with
 | true =>
  refine WR ?_
  refine zf rfl (za false (fun _ => out_v _ _ _) rfl .fn rfl (by decide) (by kernel_rfl) rfl (fun _ => C0 rfl) (by simp)) ?_
  rintro _ _ ⟨_, _, _, ⟨rfl, rfl⟩, hF, hH⟩
  rw [hb2] at hF
  (refine NST hF hH ?_; clear hF hH; rintro rfl rfl)
  refine WO ?_
  first | refine ZS ?_ | (refine G1 rfl ?_; refine zf rfl (za false (fun _ => out_v _ _ _) rfl .fn rfl (by decide) (by kernel_rfl) rfl (fun _ => C0 rfl) (by simp)) ?_; rintro _ _ ⟨_, _, _, ⟨rfl, rfl⟩, hF, hH⟩; rw [hb3] at hF; (refine NST hF hH ?_; clear hF hH; rintro rfl rfl)) | skip
  refine WE ?_
  refine zb rfl ?_
  refine WA ?_
  exact zi [] _ rfl rfl rfl (by decide) (ZNK rfl) (fun _ => .nil) ⟨congrArg (fun z => AV.c (I z)) (by rw [hc1, if_pos (by simp)]), rfl⟩
 | false =>
 cases b3 with
 | true =>
  refine WR ?_
  refine zf rfl (za false (fun _ => out_v _ _ _) rfl .fn rfl (by decide) (by kernel_rfl) rfl (fun _ => C0 rfl) (by simp)) ?_
  rintro _ _ ⟨_, _, _, ⟨rfl, rfl⟩, hF, hH⟩
  rw [hb2] at hF
  (refine NST hF hH ?_; clear hF hH; rintro rfl rfl)
  refine WO ?_
  first | refine ZS ?_ | (refine G1 rfl ?_; refine zf rfl (za false (fun _ => out_v _ _ _) rfl .fn rfl (by decide) (by kernel_rfl) rfl (fun _ => C0 rfl) (by simp)) ?_; rintro _ _ ⟨_, _, _, ⟨rfl, rfl⟩, hF, hH⟩; rw [hb3] at hF; (refine NST hF hH ?_; clear hF hH; rintro rfl rfl)) | skip
  refine WE ?_
  refine zb rfl ?_
  refine WA ?_
  exact zi [] _ rfl rfl rfl (by decide) (ZNK rfl) (fun _ => .nil) ⟨congrArg (fun z => AV.c (I z)) (by rw [hc1, if_pos (by simp)]), rfl⟩
 | false =>
 obtain ⟨hx1, hx2⟩ := hfx rfl
 obtain ⟨hy1, hy2⟩ := hfy rfl
 rw [if_neg (by simp)] at hc1
 refine WR ?_
 refine zf rfl (za false (fun _ => out_v _ _ _) rfl .fn rfl (by decide) (by kernel_rfl) rfl (fun _ => C0 rfl) (by simp)) ?_
 rintro _ _ ⟨_, _, _, ⟨rfl, rfl⟩, hF, hH⟩
 rw [hb2] at hF
 (refine NST hF hH ?_; clear hF hH; rintro rfl rfl)
 refine WO ?_
 first | refine ZS ?_ | (refine G1 rfl ?_; refine zf rfl (za false (fun _ => out_v _ _ _) rfl .fn rfl (by decide) (by kernel_rfl) rfl (fun _ => C0 rfl) (by simp)) ?_; rintro _ _ ⟨_, _, _, ⟨rfl, rfl⟩, hF, hH⟩; rw [hb3] at hF; (refine NST hF hH ?_; clear hF hH; rintro rfl rfl)) | skip
 refine WE ?_
 refine zd rfl ?_
 refine ZZ ?_
 obtain ⟨qx, hqx⟩ : ∃ q, x.tmod st = q := ⟨_, rfl⟩
 obtain ⟨qy, hqy⟩ : ∃ q, y.tmod st = q := ⟨_, rfl⟩
 rw [hqx, hqy] at hc1
 by_cases hx : qx = 0
 ·by_cases hy : qy = 0
  ·refine ZR ?_
   iterate 4 refine WX1 ?_
   refine ZA (zl1 hqx rfl rfl rfl (by omega)) ?_
   iterate 6 refine WX1 ?_
   first | refine ZP (zl1 hqy rfl rfl rfl (by omega)) ?_ | refine ZS ?_
   refine WO ?_
   first | refine ZS ?_ | (refine G1 rfl ?_; refine zf rfl (za false (fun _ => istight_v v rows hrn (fun r hr => (hrw r hr).1.trans hwr.symm) hl (by rw [hwr]; exact hl0)) rfl .fn rfl (by decide) (by kernel_rfl) rfl (fun _ => C0 rfl) (by simp)) ?_; rintro _ _ ⟨_, _, _, ⟨rfl, rfl⟩, hF, hH⟩; (refine NST hF hH ?_; clear hF hH; rintro rfl rfl)) | skip
   refine WE ?_
   refine zC rfl (fun ht => ?_) (fun ht => ?_)
   ·refine WA ?_
    exact zi [] _ rfl rfl rfl (by decide) (ZNK rfl) (fun _ => .nil) ⟨congrArg (fun z => AV.c (I z)) (by rw [hc1, if_pos (.inr (.inr (by simpa using ht)))]), rfl⟩
   ·refine ZZ ?_
    refine WA ?_
    exact zi [] _ rfl rfl rfl (by decide) (ZNK rfl) (fun _ => .nil) ⟨congrArg (fun z => AV.c (I z)) (by rw [hc1, if_neg (by simp [hx, hy]; simpa using ht)]), rfl⟩
  ·refine ZR ?_
   iterate 4 refine WX1 ?_
   refine ZA (zl1 hqx rfl rfl rfl (by omega)) ?_
   iterate 6 refine WX1 ?_
   first | refine ZP (zl1 hqy rfl rfl rfl (by omega)) ?_ | refine ZS ?_
   refine WO ?_
   first | refine ZS ?_ | (refine G1 rfl ?_; refine zf rfl (za false (fun _ => istight_v v rows hrn (fun r hr => (hrw r hr).1.trans hwr.symm) hl (by rw [hwr]; exact hl0)) rfl .fn rfl (by decide) (by kernel_rfl) rfl (fun _ => C0 rfl) (by simp)) ?_; rintro _ _ ⟨_, _, _, ⟨rfl, rfl⟩, hF, hH⟩; (refine NST hF hH ?_; clear hF hH; rintro rfl rfl)) | skip
   refine WE ?_
   refine zb rfl ?_
   refine WA ?_
   exact zi [] _ rfl rfl rfl (by decide) (ZNK rfl) (fun _ => .nil) ⟨congrArg (fun z => AV.c (I z)) (by rw [hc1, if_pos (.inr (.inl hy))]), rfl⟩
 ·refine ZR ?_
  iterate 4 refine WX1 ?_
  refine ZA (zl1 hqx rfl rfl rfl (by omega)) ?_
  iterate 6 refine WX1 ?_
  first | refine ZP (zl1 hqy rfl rfl rfl (by omega)) ?_ | refine ZS ?_
  refine WO ?_
  first | refine ZS ?_ | (refine G1 rfl ?_; refine zf rfl (za false (fun _ => istight_v v rows hrn (fun r hr => (hrw r hr).1.trans hwr.symm) hl (by rw [hwr]; exact hl0)) rfl .fn rfl (by decide) (by kernel_rfl) rfl (fun _ => C0 rfl) (by simp)) ?_; rintro _ _ ⟨_, _, _, ⟨rfl, rfl⟩, hF, hH⟩; (refine NST hF hH ?_; clear hF hH; rintro rfl rfl)) | skip
  refine WE ?_
  refine zb rfl ?_
  refine WA ?_
  exact zi [] _ rfl rfl rfl (by decide) (ZNK rfl) (fun _ => .nil) ⟨congrArg (fun z => AV.c (I z)) (by rw [hc1, if_pos (.inl hx)]), rfl⟩
end Go.Proofs.YtfilfijammemfaaGreatDoor
-- NEWM
namespace Go.Proofs.YtfilfijammemfaaGreatDoor
open Go Go.RowKit
set_option maxRecDepth 100000
theorem box_v (g : Grd) (pv v : Value) (hg : GOk g) : ACalls Tryz.prog 116 [gV pv v g] [] fun u H => u = .t [.a [.c (I (x0 (covG g))), .c (I (y0 (covG g)))], .a [.c (I (x1 (covG g))), .c (I (y1 (covG g)))], .c (B (!(covG g).isEmpty))] ∧ H = [] := by
 refine ze (N := 11) Tryz.func116 rfl rfl (by simp) fun E hE => ?_
 refine WA ?_
 refine WR ?_
 refine zf rfl (zD [2, 0, 1] (fun _ => [bxS (covK g 0), bxL (covK g 0), bxG (covK g 0)]) false (fun _ => each_box g pv v hg) rfl .fn rfl (by decide) (by kernel_rfl) rfl ZCH (by decide) ZCH (by simp)) ?_
 rintro F1 H1 ⟨_, _, _, _, ⟨rfl, rfl⟩, hF, hH⟩
 (refine NSU hF hH ?_; clear hF hH; rintro rfl rfl)
 refine WE ?_
 refine ZZ ?_
 refine zg [(0, none), (1, none), (2, none), (3, some [1, 2]), (4, some [2]), (5, some [])] zn (by kernel_rfl) ?_
 refine WQ ?_
 all_goals (exact zq (us := [.a [.c (I (x0 (covG g))), .c (I (y0 (covG g)))], .a [.c (I (x1 (covG g))), .c (I (y1 (covG g)))], .c (B (!(covG g).isEmpty))]) [] (fun _ => .t [.a [.c (I (x0 (covG g))), .c (I (y0 (covG g)))], .a [.c (I (x1 (covG g))), .c (I (y1 (covG g)))], .c (B (!(covG g).isEmpty))]) (fun _ => []) (.cella (n := 2) rfl (by kernel_rfl) (Cells.box rfl) (by simp) (by (try simp only [nm, putL, Nat.reduceAdd, cellsOf, cvOf]) <;> rfl) (.cella (n := 2) rfl (by kernel_rfl) (Cells.box rfl) (by simp) (by (try simp only [nm, putL, Nat.reduceAdd, cellsOf, cvOf]) <;> rfl) (.cell rfl (by kernel_rfl) (Cells.box rfl) .nil))) (by decide) (fun i hi => absurd hi (Nat.not_lt_zero i)) (fun g => .tL (.cons (.aL (.cons (.c rfl) (.cons (.c rfl) .nil))) (.cons (.aL (.cons (.c rfl) (.cons (.c rfl) .nil))) (.cons (.c rfl) .nil)))) (fun _ => .nil) (fun _ => ⟨rfl, rfl⟩))
end Go.Proofs.YtfilfijammemfaaGreatDoor
