/- Arrays in the logic over values: an element of one, the address of an element, a literal, a slice of one. Conditions: none. -/
import Derived.Test.YtfilfijammemfaaGreatDoorQbc
import Derived.Test.YtfilfijammemfaaGreatDoorQax
import Derived.Laws.StructEq
import Derived.Test.YtfilfijammemfaaGreatDoorQas
set_option linter.unusedSimpArgs false
set_option linter.unusedVariables false
-- NEWM
namespace Go.Proofs.YtfilfijammemfaaGreatDoor
open Go Go.RowKit
set_option maxRecDepth 100000
theorem chkJ (b : Bool) (z : Int) (w : World) : (Instr.checkKey b 9999 3 (.int .i64 z)).run Tryz.prog w = .ok () w := by
 rw [show (9999 : Nat) = 9998 + 1 from rfl, Instr.checkKey]
 simp only [Sem.run_bind, zE1 Tryz.underlying3, Result.andThen_ok]
 rfl
theorem keySpoe (a b c d : Int) (w : World) : (Op.equal 87 (.agg #[.int .i64 a, .int .i64 b]) (.agg #[.int .i64 c, .int .i64 d])).run Tryz.prog w = .ok (a == c && b == d) w := by
 have u3 := Tryz.underlying3
 have a3 := Tryz.isAgg3
 have z3 := Tryz.sizeOf3
 have hS : Tryz.prog.underlying 87 = some (.struct (Tryz.prog.fieldsOf 87)) := by kernel_rfl
 have hp : Tryz.prog.stoodInHeld 87 = false := by kernel_rfl
 unfold Op.equal Op.maxDepth
 rw [show (10000 : Nat) = 9999 + 1 from rfl, run_equalIn_agg w 9999 87 _ _ hS hp]
 simp only [Program.fieldsOf, Tryz.underlying87]
 go_simp
 by_cases h1 : a = c <;> by_cases h2 : b = d <;> simp [h1, h2]
theorem keySpoc (em : Bool) (a b : Int) (w : World) : (Instr.checkKey em 10000 87 (.agg #[.int .i64 a, .int .i64 b])).run Tryz.prog w = .ok () w := by
 have u3 := Tryz.underlying3
 have a3 := Tryz.isAgg3
 have z3 := Tryz.sizeOf3
 have hc := chkJ em
 rw [show (10000 : Nat) = 9999 + 1 from rfl, Instr.checkKey]
 simp only [Sem.run_bind, zE1 Tryz.underlying87, Result.andThen_ok]
 go_simp
theorem keyP : KeyOk Tryz.prog 87 encP := by
 refine .ask Tryz.underlying87 (fun _ _ => rfl) (fun a b w => ?_) (fun b a w => keySpoc _ _ _ w) (fun a => ?_)
 ·simp only [encP]
  rw [keySpoe]
  congr 1
  rw [Bool.eq_iff_iff]
  obtain ⟨a1, a2⟩ := a
  obtain ⟨b1, b2⟩ := b
  simp
 ·simp [encP, Instr.sameBits]
theorem rin_v (n lo hi : Int) : ACalls Tryz.prog 48 [.c (I n), .c (I lo), .c (I hi)] [] fun u H => u = .c (B (!outB n lo hi)) ∧ H = [] := by
 refine ze (N := 15) Tryz.func48 rfl rfl (by simp) fun E hE => ?_
 by_cases h1 : lo ≤ n
 ·repeat' (first
   | (with_reducible refine zt1 ?_) | (with_reducible refine zw1 ?_) | (with_reducible refine zv1 ?_) | (with_reducible refine zA1 ?_) | (with_reducible refine zy1 ?_) | (with_reducible refine zB1 ?_) | (with_reducible refine zz1 rfl ?_) | (with_reducible refine zx1 ?_) | (with_reducible refine zV ?_) | (with_reducible refine zM ?_) | (with_reducible refine zu1 ?_) | (with_reducible refine zX ?_)
   | refine zb rfl ?_ | refine zd rfl ?_ | refine zW rfl (by assumption) ?_ | refine zP rfl (by assumption) ?_ | refine zl rfl (fun _ => ?_) (fun _ => ?_) | refine zC rfl (fun _ => ?_) (fun _ => ?_)
   | (refine zo ?_; refine WE ?_))
  all_goals (refine zi [] _ rfl rfl rfl (by decide) (ZNK rfl) (fun _ => .nil) ⟨congrArg (fun z => AV.c (B z)) ?_, rfl⟩)
  all_goals (unfold outB; rw [Bool.eq_iff_iff]; simp; try omega)
 ·repeat' (first
   | (with_reducible refine zt1 ?_) | (with_reducible refine zw1 ?_) | (with_reducible refine zv1 ?_) | (with_reducible refine zA1 ?_) | (with_reducible refine zy1 ?_) | (with_reducible refine zB1 ?_) | (with_reducible refine zz1 rfl ?_) | (with_reducible refine zx1 ?_) | (with_reducible refine zV ?_) | (with_reducible refine zM ?_) | (with_reducible refine zu1 ?_) | (with_reducible refine zX ?_)
   | refine zb rfl ?_ | refine zd rfl ?_ | refine zW rfl (by assumption) ?_ | refine zP rfl (by assumption) ?_ | refine zl rfl (fun _ => ?_) (fun _ => ?_) | refine zC rfl (fun _ => ?_) (fun _ => ?_)
   | (refine zo ?_; refine WE ?_))
  all_goals (refine zi [] _ rfl rfl rfl (by decide) (ZNK rfl) (fun _ => .nil) ⟨congrArg (fun z => AV.c (B z)) ?_, rfl⟩)
  all_goals (unfold outB; rw [Bool.eq_iff_iff]; simp; try omega)
theorem rstep_v (st : Int) : ACalls Tryz.prog 46 [.c (I st)] [] fun u H => u = .c (I (if stepB st = true then 1 else 0)) ∧ H = [] := by
 obtain ⟨b1, h1⟩ : ∃ q, outB st 2 10000 = q := ⟨_, rfl⟩
 have hb : stepB st = (b1 || decide (st.tmod 2 ≠ 0)) := by rw [← h1]; rfl
 rw [hb]
 refine ze (N := 11) Tryz.func46 rfl rfl (by simp) fun E hE => ?_
 cases b1 with
 | true =>
  refine WA ?_
  refine WR ?_
  refine zf rfl (za false (fun _ => rin_v _ _ _) rfl .fn rfl (by decide) (by kernel_rfl) rfl (fun _ => C0 rfl) (by simp)) ?_
  rintro _ _ ⟨_, _, _, ⟨rfl, rfl⟩, hF, hH⟩
  rw [h1] at hF
  (refine NST hF hH ?_; clear hF hH; rintro rfl rfl)
  refine WE ?_
  refine zb rfl ?_
  refine WA ?_
  exact zi [] _ rfl rfl rfl (by decide) (ZNK rfl) (fun _ => .nil) ⟨rfl, rfl⟩
 | false =>
  refine WA ?_
  refine WR ?_
  refine zf rfl (za false (fun _ => rin_v _ _ _) rfl .fn rfl (by decide) (by kernel_rfl) rfl (fun _ => C0 rfl) (by simp)) ?_
  rintro _ _ ⟨_, _, _, ⟨rfl, rfl⟩, hF, hH⟩
  rw [h1] at hF
  (refine NST hF hH ?_; clear hF hH; rintro rfl rfl)
  refine WE ?_
  refine zl rfl (fun h2 => ?_) (fun h2 => ?_)
  ·refine WA ?_
   exact zi [] _ rfl rfl rfl (by decide) (ZNK rfl) (fun _ => .nil) ⟨congrArg (fun z => AV.c (I z)) (by simp [h2]), rfl⟩
  ·refine ZZ ?_
   refine WA ?_
   exact zi [] _ rfl rfl rfl (by decide) (ZNK rfl) (fun _ => .nil) ⟨congrArg (fun z => AV.c (I z)) (by simp [h2]), rfl⟩
theorem aret_m {P : Program} {fn : Func} {nl q b b' : Nat} {F : Fm} {H : List OB} {Qr : AV → List OB → Prop} {z : AV} (m : List (Option Nat)) (H' : (AV → Value) → List OB) (hr : fn.results = #[.tmp q]) (h : F.lookup q = some z) (hz : z = .mp b) (hb : m[b']? = some (some b)) (hm : (m.filterMap id).Nodup) (hl : ∀ i, i < nl → m[i]? = some (some i)) (hH : ∀ g, CvH g m H true m (H' g)) (hq : ∀ g, Qr (.mp b') (H' g)) : ARet P fn nl Qr .ret F H := by
 subst hz
 exact zq m (fun _ => .mp b') H' (by rw [hr]; exact .tmp h .nil) hm hl (fun _ => .mp hb) hH hq
theorem tdiv_bd {x s M : Int} (hs : 1 ≤ s) (hx : -M ≤ x ∧ x ≤ M) : -M ≤ x.tdiv s ∧ x.tdiv s ≤ M := by
 have h : (x.tdiv s).natAbs = x.natAbs / s.natAbs := Int.natAbs_tdiv x s
 have h2 : x.natAbs / s.natAbs ≤ x.natAbs := Nat.div_le_self _ _
 generalize x.natAbs / s.natAbs = q at h h2
 omega
set_option maxHeartbeats 1000000 in
theorem setof_v (va : Value) (c : Cel) (hst : 1 ≤ c.st) (hx : -1000000000000 ≤ c.x ∧ c.x ≤ 1000000000000) (hy : -1000000000000 ≤ c.y ∧ c.y ≤ 1000000000000) (hl : c.rows.length ≤ 1000000000) (hr : ∀ r ∈ c.rows, r.length ≤ 1000000000 ∧ okB2 r = true) : ACalls Tryz.prog 49 [celA va c] [] fun u H => ∃ es ck, SetOk es ck (covL c) ∧ u = .mp 0 ∧ H = [mpO encP encT es ck] := by
 have hX := tdiv_bd hst hx
 have hY := tdiv_bd hst hy
 have e1 : (tR c.rows).length = c.rows.length := by simp
 refine ze (N := 43) Tryz.func49 rfl rfl (by simp) fun E hE => ?_
 refine WA ?_
 refine ZR ?_
 refine zf rfl (ef_mkmap rfl rfl (by decide)) ?_
 rintro _ _ ⟨rfl, rfl⟩
 refine WE ?_
 refine WA ?_
 refine zk (fun m F H => ∃ (i : Nat) (es : SE) (ck : Nat), m + i = c.rows.length ∧ SetOk es ck (hitC (c.x.tdiv c.st) (c.y.tdiv c.st) (c.rows.take i)) ∧ F = [(1, .p 0 0 0), (3, .mp 1), (9, .c (.r va (tR c.rows))), (10, .c (I (tR c.rows).length)), (11, .c (I i))] ∧ H = [celB va c, mpO encP encT es ck]) ?_ ?_
 ·refine zh [some 0, some 1] (fun _ => [(1, .p 0 0 0), (3, .mp 1), (9, .c (.r va (tR c.rows))), (10, .c (I (tR c.rows).length)), (11, .c (I (0 : Nat)))]) (fun _ => [celB va c, mpO encP encT [] 0]) (by decide) (ZNL hE) ZCF ZCH (fun _ => ?_)
  exact ⟨c.rows.length, 0, [], 0, by omega, by rw [List.take_zero]; exact .nil, rfl, rfl⟩
 rintro m F H ⟨i, es, ck, hi, hes, rfl, rfl⟩
 refine WA ?_
 refine zl rfl (fun hlt => ?_) (fun hge => ?_)
 ·obtain ⟨r, hri⟩ : ∃ r, c.rows[i]? = some r := ⟨_, List.getElem?_eq_getElem (by omega)⟩
  have hrow : (tR c.rows)[i]? = some [T r] := by rw [List.getElem?_map, hri]; rfl
  obtain ⟨hrl, hrb⟩ := hr r (List.mem_of_getElem? hri)
  have htk : c.rows.take (i + 1) = c.rows.take i ++ [r] := by rw [List.take_add_one, hri]; rfl
  have hil : (c.rows.take i).length = i := by rw [List.length_take]; omega
  have hnx : ∀ k, k ≤ r.length → hitC (c.x.tdiv c.st) (c.y.tdiv c.st) (c.rows.take i ++ [r.take k]) = hitC (c.x.tdiv c.st) (c.y.tdiv c.st) (c.rows.take i) ++ hitR (c.x.tdiv c.st) (c.y.tdiv c.st + (i : Nat)) (r.take k) := fun k hk => by
   rw [hitC_append, hil]; simp [hitC]
  refine WA ?_
  refine ZR ?_
  refine WX1 ?_
  refine zf rfl (ef_ranges (l := r) rfl rfl (by decide) Tryz.underlying9 rfl) ?_
  rintro _ _ ⟨rfl, rfl⟩
  refine WE ?_
  refine zk (fun m2 F H => ∃ (k : Nat) (es : SE) (ck : Nat), m2 + k = r.length ∧ SetOk es ck (hitC (c.x.tdiv c.st) (c.y.tdiv c.st) (c.rows.take i ++ [r.take k])) ∧ F = [(1, .p 0 0 0), (3, .mp 1), (4, .c (I i)), (5, .c (T r)), (9, .c (.r va (tR c.rows))), (10, .c (I (tR c.rows).length)), (11, .c (I i)), (17, .p 2 0 0)] ∧ H = [celB va c, mpO encP encT es ck, .sit (bst r) k]) ?_ ?_
  ·refine zh [some 0, some 1, some 2] (fun _ => [(1, .p 0 0 0), (3, .mp 1), (4, .c (I i)), (5, .c (T r)), (9, .c (.r va (tR c.rows))), (10, .c (I (tR c.rows).length)), (11, .c (I i)), (17, .p 2 0 0)]) (fun _ => [celB va c, mpO encP encT es ck, .sit (bst r) 0]) (by decide) (ZNL hE) ZCF ZCH (fun _ => ?_)
   exact ⟨r.length, 0, es, ck, by omega, by rw [hnx 0 (by omega), List.take_zero, hitR, List.append_nil]; exact hes, rfl, rfl⟩
  clear hes es ck
  rintro m2 F H ⟨k, es, ck, hk, hes, rfl, rfl⟩
  by_cases hkl : k < r.length
  ·obtain ⟨b, hb⟩ : ∃ b, r[k]? = some b := ⟨_, List.getElem?_eq_getElem hkl⟩
   have hb2 : b = 35 ∨ b = 46 := by
    have := List.all_eq_true.1 hrb b (List.mem_of_getElem? hb)
    simpa using this
   have hb8 : b < 128 := by rcases hb2 with rfl | rfl <;> decide
   have hrk : r.take (k + 1) = r.take k ++ [b] := by rw [List.take_add_one, hb]; rfl
   have hkl2 : (r.take k).length = k := by rw [List.length_take]; omega
   refine ZR ?_
   refine zf rfl (ef_nexts (l := r) (b := b) rfl rfl (by decide) rfl rfl hb hb8) ?_
   rintro _ _ ⟨rfl, rfl⟩
   refine WE ?_
   refine zb rfl ?_
   refine WA ?_
   refine ZR ?_
   iterate 2 refine WX1 ?_
   refine ZA (rd_idxs (i := k) rfl Tryz.underlying9 rfl rfl rfl hb) ?_
   refine WE ?_
   refine zl rfl (fun h35 => ?_) (fun h35 => ?_)
   ·obtain rfl : b = 35 := by rcases hb2 with rfl | rfl; rfl; exact absurd h35 (by decide)
    have hs := hes.set (c.x.tdiv c.st + (k : Nat), c.y.tdiv c.st + (i : Nat))
    refine ZZ ?_
    refine zg [(0, none), (1, none), (2, none), (3, none), (4, none), (5, none), (6, none), (7, none), (8, none), (9, none), (10, none), (11, none), (12, none), (13, none), (14, none), (15, none), (16, some [])] zn (by kernel_rfl) ?_
    iterate 16 refine WX2 ?_
    refine zY rfl rfl (ef_mapset (ke := encP) (ve := encT) (k := (c.x.tdiv c.st + (k : Nat), c.y.tdiv c.st + (i : Nat))) (z := true) (l := es) (ck := ck) keyP rfl rfl Tryz.underlying90 rfl rfl rfl (fun ρ H => by simp [AV.den, AV.denL, CV.den, encP]) rfl (fun ρ H => rfl)) ?_
    rintro _ _ ⟨rfl, rfl⟩
    refine ⟨zm, ?_⟩
    refine WQ ?_
    refine zh [some 0, some 1, some 2] (fun _ => [(1, .p 0 0 0), (3, .mp 1), (4, .c (I i)), (5, .c (T r)), (9, .c (.r va (tR c.rows))), (10, .c (I (tR c.rows).length)), (11, .c (I i)), (17, .p 2 0 0)]) (fun _ => [celB va c, mpO encP encT (mset ck (c.x.tdiv c.st + (k : Nat), c.y.tdiv c.st + (i : Nat)) true es) (mclk ck (c.x.tdiv c.st + (k : Nat), c.y.tdiv c.st + (i : Nat)) es), .sit (bst r) (k + 1)]) (by decide) (ZNL hE) ZCF ZCH (fun _ => ?_)
    exact ⟨m2 - 1, by omega, k + 1, _, _, by omega, by rw [hnx _ (by omega), hrk, hitR_append, hkl2, ← List.append_assoc, ← hnx k (by omega)]; simpa [hitR] using hs, rfl, rfl⟩
   ·obtain rfl : b = 46 := by rcases hb2 with rfl | rfl; exact absurd rfl h35; rfl
    refine ZZ ?_
    refine zh [some 0, some 1, some 2] (fun _ => [(1, .p 0 0 0), (3, .mp 1), (4, .c (I i)), (5, .c (T r)), (9, .c (.r va (tR c.rows))), (10, .c (I (tR c.rows).length)), (11, .c (I i)), (17, .p 2 0 0)]) (fun _ => [celB va c, mpO encP encT es ck, .sit (bst r) (k + 1)]) (by decide) (ZNL hE) ZCF ZCH (fun _ => ?_)
    exact ⟨m2 - 1, by omega, k + 1, es, ck, by omega, by rw [hnx _ (by omega), hrk, hitR_append, hkl2, ← List.append_assoc, ← hnx k (by omega)]; simpa [hitR] using hes, rfl, rfl⟩
  obtain rfl : k = r.length := by omega
  rw [List.take_length, ← htk] at hes
  refine ZR ?_
  refine zf rfl (ef_nexte (l := r) rfl rfl (by decide) rfl rfl (Nat.le_refl _)) ?_
  rintro _ _ ⟨rfl, rfl⟩
  refine WE ?_
  refine zd rfl ?_
  refine ZZ ?_
  refine WA ?_
  refine zh [some 0, some 1] (fun _ => [(1, .p 0 0 0), (3, .mp 1), (9, .c (.r va (tR c.rows))), (10, .c (I (tR c.rows).length)), (11, .c (I (i + 1 : Nat)))]) (fun _ => [celB va c, mpO encP encT es ck]) (by decide) (ZNL hE) ZCF ZCH (fun _ => ?_)
  exact ⟨m - 1, by omega, i + 1, es, ck, by omega, hes, rfl, rfl⟩
 obtain rfl : i = c.rows.length := by omega
 rw [List.take_length] at hes
 refine ZZ ?_
 refine WA ?_
 exact aret_m (b' := 0) [some 1] (fun _ => [mpO encP encT es ck]) rfl rfl rfl rfl (by decide) (ZNK rfl) ZCH (fun _ => ⟨es, ck, hes, rfl, rfl⟩)
end Go.Proofs.YtfilfijammemfaaGreatDoor
-- NEWM
namespace Go.Proofs.YtfilfijammemfaaGreatDoor
open Go Go.RowKit
set_option maxRecDepth 100000
def ptG (l : List Spot) : Int := if l.any farS = true then 1 else 0
theorem ptG_drop {l : List Spot} {k : Nat} {p : Spot} (h : l[k]? = some p) : ptG (l.drop k) = if farS p = true then 1 else ptG (l.drop (k + 1)) := by
 obtain ⟨h1, h2⟩ := List.getElem?_eq_some_iff.1 h
 rw [List.drop_eq_getElem_cons h1, h2]
 unfold ptG
 rw [List.any_cons]
 cases h3 : farS p with
 | true => rw [Bool.true_or]; rfl
 | false => rw [Bool.false_or]; rfl
set_option maxHeartbeats 1000000 in
theorem pntf_v (v : Value) (l : List Spot) (hl : l.length ≤ 1000000) : ACalls Tryz.prog 65 [.c (.r v (ptR l))] [] fun u H => u = .c (I (ptG l)) ∧ H = [] := by
 have e1 : (ptR l).length = l.length := by simp
 refine ze (N := 22) Tryz.func65 rfl rfl (by simp) fun E hE => ?_
 refine WA ?_
 refine WA ?_
 refine zk (fun m F H => ∃ (k : Nat), m + k = l.length ∧ ptG (l.drop k) = ptG l ∧ F = [(5, .c (.r v (ptR l))), (6, .c (I (ptR l).length)), (7, .c (I k))] ∧ H = []) ?_ ?_
 ·refine zh [] (fun _ => [(5, .c (.r v (ptR l))), (6, .c (I (ptR l).length)), (7, .c (I (0 : Nat)))]) (fun _ => []) (by decide) (ZNL hE) ZCF (fun _ => .nil) (fun _ => ?_)
  exact ⟨l.length, 0, by omega, rfl, rfl, rfl⟩
 rintro m F H ⟨k, hk, hf, rfl, rfl⟩
 refine WA ?_
 refine zl rfl (fun hlt => ?_) (fun hge => ?_)
 ·obtain ⟨⟨sx, sy⟩, hz⟩ : ∃ e, l[k]? = some e := ⟨_, List.getElem?_eq_getElem (by omega)⟩
  have hrow : (ptR l)[k]? = some [I sx, I sy] := by rw [List.getElem?_map, hz]; rfl
  have hd := ptG_drop hz
  obtain ⟨b1, h1⟩ : ∃ q, outB sx (-100000) 100000 = q := ⟨_, rfl⟩
  obtain ⟨b2, h2⟩ : ∃ q, outB sy (-100000) 100000 = q := ⟨_, rfl⟩
  have hfs : farS (sx, sy) = (b1 || b2) := by rw [← h1, ← h2]; rfl
  rw [hfs] at hd
  refine WA ?_
  cases b1 with
  | true =>
   have hv : ptG l = 1 := by rw [← hf, hd, if_pos (Bool.true_or _)]
   rw [hv]
   refine WR ?_
   refine zf rfl (za false (fun _ => rin_v _ _ _) rfl .fn rfl (by decide) (by kernel_rfl) rfl (fun _ => C0 rfl) (by simp)) ?_
   rintro _ _ ⟨_, _, _, ⟨rfl, rfl⟩, hF, hH⟩
   rw [h1] at hF
   (refine NST hF hH ?_; clear hF hH; rintro rfl rfl)
   refine WO ?_
   first | refine ZS ?_ | (refine G1 rfl ?_; refine zf rfl (za false (fun _ => rin_v _ _ _) rfl .fn rfl (by decide) (by kernel_rfl) rfl (fun _ => C0 rfl) (by simp)) ?_; rintro _ _ ⟨_, _, _, ⟨rfl, rfl⟩, hF, hH⟩; rw [h2] at hF; (refine NST hF hH ?_; clear hF hH; rintro rfl rfl)) | skip
   refine WE ?_
   refine zb rfl ?_
   refine WA ?_
   exact zi [] _ rfl rfl rfl (by decide) (ZNK rfl) (fun _ => .nil) ⟨rfl, rfl⟩
  | false =>
   cases b2 with
   | true =>
    have hv : ptG l = 1 := by rw [← hf, hd, if_pos (Bool.or_true _)]
    rw [hv]
    refine WR ?_
    refine zf rfl (za false (fun _ => rin_v _ _ _) rfl .fn rfl (by decide) (by kernel_rfl) rfl (fun _ => C0 rfl) (by simp)) ?_
    rintro _ _ ⟨_, _, _, ⟨rfl, rfl⟩, hF, hH⟩
    rw [h1] at hF
    (refine NST hF hH ?_; clear hF hH; rintro rfl rfl)
    refine WO ?_
    first | refine ZS ?_ | (refine G1 rfl ?_; refine zf rfl (za false (fun _ => rin_v _ _ _) rfl .fn rfl (by decide) (by kernel_rfl) rfl (fun _ => C0 rfl) (by simp)) ?_; rintro _ _ ⟨_, _, _, ⟨rfl, rfl⟩, hF, hH⟩; rw [h2] at hF; (refine NST hF hH ?_; clear hF hH; rintro rfl rfl)) | skip
    refine WE ?_
    refine zb rfl ?_
    refine WA ?_
    exact zi [] _ rfl rfl rfl (by decide) (ZNK rfl) (fun _ => .nil) ⟨rfl, rfl⟩
   | false =>
    rw [if_neg (by simp)] at hd
    refine WR ?_
    refine zf rfl (za false (fun _ => rin_v _ _ _) rfl .fn rfl (by decide) (by kernel_rfl) rfl (fun _ => C0 rfl) (by simp)) ?_
    rintro _ _ ⟨_, _, _, ⟨rfl, rfl⟩, hF, hH⟩
    rw [h1] at hF
    (refine NST hF hH ?_; clear hF hH; rintro rfl rfl)
    refine WO ?_
    first | refine ZS ?_ | (refine G1 rfl ?_; refine zf rfl (za false (fun _ => rin_v _ _ _) rfl .fn rfl (by decide) (by kernel_rfl) rfl (fun _ => C0 rfl) (by simp)) ?_; rintro _ _ ⟨_, _, _, ⟨rfl, rfl⟩, hF, hH⟩; rw [h2] at hF; (refine NST hF hH ?_; clear hF hH; rintro rfl rfl)) | skip
    refine WE ?_
    refine zd rfl ?_
    refine ZZ ?_
    refine WA ?_
    refine zh [] (fun _ => [(5, .c (.r v (ptR l))), (6, .c (I (ptR l).length)), (7, .c (I (k + 1 : Nat)))]) (fun _ => []) (by decide) (ZNL hE) ZCF (fun _ => .nil) (fun _ => ?_)
    exact ⟨m - 1, by omega, k + 1, by omega, by rw [← hd, hf], rfl, rfl⟩
 obtain rfl : k = l.length := by omega
 rw [List.drop_eq_nil_of_le (by omega)] at hf
 have hv : ptG l = 0 := hf.symm
 rw [hv]
 refine ZZ ?_
 refine WA ?_
 exact zi [] _ rfl rfl rfl (by decide) (ZNK rfl) (fun _ => .nil) ⟨rfl, rfl⟩
set_option maxHeartbeats 2000000 in
theorem waysf_v (v : Value) (l : List Wy) (hl : l.length ≤ 1000000) (hp : ∀ p ∈ l, p.pts.length ≤ 1000000) : ACalls Tryz.prog 22 [.c (.r v (wyR l))] [] fun u H => u = .c (I (wyF (l.map (·.pts)))) ∧ H = [] := by
 have e1 : (wyR l).length = l.length := by simp
 have e2 : (l.map (·.pts)).length = l.length := by simp
 refine ze (N := 32) Tryz.func22 rfl rfl (by simp) fun E hE => ?_
 refine WA ?_
 refine WA ?_
 refine zl rfl (fun hlong => ?_) (fun hlong => ?_)
 ·have hw : wyF (l.map (·.pts)) = 2 := by unfold wyF; rw [if_pos (by omega)]
  rw [hw]
  refine WA ?_
  exact zi [] _ rfl rfl rfl (by decide) (ZNK rfl) (fun _ => .nil) ⟨rfl, rfl⟩
 have hw : wyF (l.map (·.pts)) = wyG (l.map (·.pts)) := by unfold wyF; rw [if_neg (by omega)]
 rw [hw]
 clear hw
 refine ZZ ?_
 refine WA ?_
 refine zk (fun m F H => ∃ (k : Nat), m + k = l.length ∧ wyG ((l.map (·.pts)).drop k) = wyG (l.map (·.pts)) ∧ F = [(9, .c (.r v (wyR l))), (10, .c (I (wyR l).length)), (11, .c (I k))] ∧ H = []) ?_ ?_
 ·refine zh [] (fun _ => [(9, .c (.r v (wyR l))), (10, .c (I (wyR l).length)), (11, .c (I (0 : Nat)))]) (fun _ => []) (by decide) (ZNL hE) ZCF (fun _ => .nil) (fun _ => ?_)
  exact ⟨l.length, 0, by omega, rfl, rfl, rfl⟩
 rintro m F H ⟨k, hk, hf, rfl, rfl⟩
 refine WA ?_
 refine zl rfl (fun hlt => ?_) (fun hge => ?_)
 ·obtain ⟨⟨pw, pp, pc⟩, hz⟩ : ∃ e, l[k]? = some e := ⟨_, List.getElem?_eq_getElem (by omega)⟩
  have hrow : (wyR l)[k]? = some [.r pw (ptR pp), B pc] := by rw [List.getElem?_map, hz]; rfl
  have hzc : (l.map (·.pts))[k]? = some pp := by rw [List.getElem?_map, hz]; rfl
  have hd := wyG_drop hzc
  have hpl : pp.length ≤ 1000000 := hp _ (List.mem_of_getElem? hz)
  have e3 : (ptR pp).length = pp.length := by simp
  refine WA ?_
  refine WA ?_
  refine zl rfl (fun h1 => ?_) (fun h1 => ?_)
  ·have hv : wyG (l.map (·.pts)) = 8 := by rw [← hf, hd, if_pos (by omega)]
   rw [hv]
   refine WA ?_
   exact zi [] _ rfl rfl rfl (by decide) (ZNK rfl) (fun _ => .nil) ⟨rfl, rfl⟩
  rw [if_neg (by omega)] at hd
  refine WA ?_
  refine zl rfl (fun h2 => ?_) (fun h2 => ?_)
  ·have hv : wyG (l.map (·.pts)) = 2 := by rw [← hf, hd, if_pos (by omega)]
   rw [hv]
   refine WA ?_
   exact zi [] _ rfl rfl rfl (by decide) (ZNK rfl) (fun _ => .nil) ⟨rfl, rfl⟩
  rw [if_neg (by omega)] at hd
  refine ZZ ?_
  obtain ⟨bf, hbf⟩ : ∃ q, pp.any farS = q := ⟨_, rfl⟩
  cases bf with
  | true =>
   have hv : wyG (l.map (·.pts)) = 1 := by rw [← hf, hd, if_pos hbf]
   have hg : ptG pp = 1 := by unfold ptG; rw [if_pos hbf]
   rw [hv]
   refine WR ?_
   refine zf rfl (za false (fun _ => pntf_v pw pp (by omega)) rfl .fn rfl (by decide) (by kernel_rfl) rfl (fun _ => C0 rfl) (by simp)) ?_
   rintro _ _ ⟨_, _, _, ⟨rfl, rfl⟩, hF, hH⟩
   rw [hg] at hF
   (refine NST hF hH ?_; clear hF hH; rintro rfl rfl)
   refine WE ?_
   refine WA ?_
   refine zb rfl ?_
   refine WA ?_
   exact zi [] _ rfl rfl rfl (by decide) (ZNK rfl) (fun _ => .nil) ⟨rfl, rfl⟩
  | false =>
   have hg : ptG pp = 0 := by unfold ptG; rw [if_neg (by rw [hbf]; simp)]
   rw [if_neg (by rw [hbf]; simp)] at hd
   refine WR ?_
   refine zf rfl (za false (fun _ => pntf_v pw pp (by omega)) rfl .fn rfl (by decide) (by kernel_rfl) rfl (fun _ => C0 rfl) (by simp)) ?_
   rintro _ _ ⟨_, _, _, ⟨rfl, rfl⟩, hF, hH⟩
   rw [hg] at hF
   (refine NST hF hH ?_; clear hF hH; rintro rfl rfl)
   refine WE ?_
   refine WA ?_
   refine zd rfl ?_
   refine ZZ ?_
   refine WA ?_
   refine zh [] (fun _ => [(9, .c (.r v (wyR l))), (10, .c (I (wyR l).length)), (11, .c (I (k + 1 : Nat)))]) (fun _ => []) (by decide) (ZNL hE) ZCF (fun _ => .nil) (fun _ => ?_)
   exact ⟨m - 1, by omega, k + 1, by omega, by rw [← hd, hf], rfl, rfl⟩
 obtain rfl : k = l.length := by omega
 rw [List.drop_eq_nil_of_le (by omega)] at hf
 have hv : wyG (l.map (·.pts)) = 0 := hf.symm
 rw [hv]
 refine ZZ ?_
 refine WA ?_
 exact zi [] _ rfl rfl rfl (by decide) (ZNK rfl) (fun _ => .nil) ⟨rfl, rfl⟩
end Go.Proofs.YtfilfijammemfaaGreatDoor
-- NEWM
-- NILC
namespace Go.Proofs.YtfilfijammemfaaGreatDoor
open Go Go.RowKit
set_option maxRecDepth 100000
end Go.Proofs.YtfilfijammemfaaGreatDoor
-- NEWM
namespace Go.Proofs.YtfilfijammemfaaGreatDoor
open Go Go.RowKit
set_option maxRecDepth 100000
theorem onS_fst (a b : Spot) : onS a b a := by
 unfold onS
 refine ⟨by rw [Int.sub_self, Int.sub_self, Int.mul_zero, Int.mul_zero], by omega, by omega⟩
end Go.Proofs.YtfilfijammemfaaGreatDoor
-- NEWM
namespace Go.Proofs.YtfilfijammemfaaGreatDoor
open Go Go.RowKit
set_option maxRecDepth 100000
set_option maxHeartbeats 1000000 in
theorem span_v (es : SE) (ck : Nat) (L : List Spot) (hok : SetOk es ck L) : ACalls Tryz.prog 50 [.mp 0] [mpO encP encT es ck] fun u H => u = .t [.a [.c (I (x0 L)), .c (I (y0 L))], .a [.c (I (x1 L)), .c (I (y1 L))], .c (B (!L.isEmpty))] ∧ H = [mpO encP encT es ck] := by
 refine ze (N := 41) Tryz.func50 rfl rfl (by simp) fun E hE => ?_
 refine WA ?_
 refine ZR ?_
 refine WX1 ?_
 refine zf rfl (ef_range (ke := encP) (ve := encT) (l := es) (ck := ck) rfl rfl (by decide) Tryz.underlying90 rfl rfl) ?_
 rintro _ _ ⟨rfl, rfl⟩
 refine WE ?_
 refine zk (fun m F H => ∃ (seen : List Nat) (T : List Spot) (s : Bool), unseen es seen = m ∧ (∀ p, p ∈ T ↔ p ∈ seenT es seen) ∧ (s = false ∧ T = [] ∨ s = true ∧ T ≠ []) ∧ F = [(2, .p 1 0 0), (3, .p 2 0 0), (4, .c (B s)), (7, .p 3 0 0)] ∧ H = [mpO encP encT es ck, .box [.c (I (x0 T)), .c (I (y0 T))], .box [.c (I (x1 T)), .c (I (y1 T))], .itr 0 ck seen ck]) ?_ ?_
 ·refine zh [some 0, some 1, some 2, some 3] (fun _ => [(2, .p 1 0 0), (3, .p 2 0 0), (4, .c (B false)), (7, .p 3 0 0)]) (fun _ => [mpO encP encT es ck, .box [.c (I (x0 [])), .c (I (y0 []))], .box [.c (I (x1 [])), .c (I (y1 []))], .itr 0 ck [] ck]) (by decide) (ZNL hE) ZCF ZCH (fun _ => ?_)
  exact ⟨_, [], [], false, rfl, fun p => by simp [seenT], .inl ⟨rfl, rfl⟩, rfl, rfl⟩
 rintro m F H ⟨seen, T, s, hm, hT, hs, rfl, rfl⟩
 refine ZR ?_
 refine zf rfl (ef_nextP (l := es) hok rfl rfl (by decide) rfl rfl rfl) ?_
 rintro _ _ (⟨eb, ex, ey, he, hne, rfl, rfl⟩ | ⟨hall, rfl, rfl⟩)
 all_goals (refine WE ?_)
 ·refine zb rfl ?_
  have hlt := unseen_lt he hne
  have hT' : ∀ p, p ∈ T ++ [(ex, ey)] ↔ p ∈ seenT es (seen ++ [eb]) := fun p => by
   rw [seenT_snoc hok.nb he, List.mem_append, List.mem_append, hT]
  refine ZR ?_
  refine ZA (rd_entryP (l := es) hok rfl rfl rfl rfl he) ?_
  refine WE ?_
  refine WA ?_
  rcases hs with ⟨rfl, rfl⟩ | ⟨rfl, hne'⟩
  ·refine zb rfl ?_
   refine ZZ ?_
   refine zg [(0, none), (1, none), (2, some [1]), (3, some []), (4, none)] zn (by kernel_rfl) ?_
   refine WQ ?_
   refine ZZ ?_
   refine zg [(0, none), (1, none), (2, none), (3, none), (4, none), (5, none), (6, none), (7, none), (8, none), (9, none), (10, none), (11, none), (12, none), (13, none), (14, none), (15, none), (16, none), (17, none), (18, none), (19, none), (20, none), (21, none), (22, some [11, 12, 13, 14, 15, 16, 17, 18, 19, 20, 21]), (23, some [])] zn (by kernel_rfl) ?_
   refine WQ ?_
   refine zh [some 0, some 1, some 2, some 3] (fun _ => [(2, .p 1 0 0), (3, .p 2 0 0), (4, .c (B true)), (7, .p 3 0 0)]) (fun _ => [mpO encP encT es ck, .box [.c (I (min ex ex)), .c (I (min ey ey))], .box [.c (I (max ex ex)), .c (I (max ey ey))], .itr 0 ck (seen ++ [eb]) ck]) (by decide) (ZNL hE) ZCF ZCH (fun _ => ?_)
   exact ⟨_, by rw [← hm]; exact hlt, seen ++ [eb], [] ++ [(ex, ey)], true, rfl, hT', .inr ⟨rfl, by simp⟩, rfl, by rw [Int.min_self, Int.min_self, Int.max_self, Int.max_self]; rfl⟩
  ·refine zd rfl ?_
   refine ZZ ?_
   refine zg [(0, none), (1, none), (2, none), (3, none), (4, none), (5, none), (6, none), (7, none), (8, none), (9, none), (10, none), (11, none), (12, none), (13, none), (14, none), (15, none), (16, none), (17, none), (18, none), (19, none), (20, none), (21, none), (22, some [11, 12, 13, 14, 15, 16, 17, 18, 19, 20, 21]), (23, some [])] zn (by kernel_rfl) ?_
   refine WQ ?_
   refine zh [some 0, some 1, some 2, some 3] (fun _ => [(2, .p 1 0 0), (3, .p 2 0 0), (4, .c (B true)), (7, .p 3 0 0)]) (fun _ => [mpO encP encT es ck, .box [.c (I (min (x0 T) ex)), .c (I (min (y0 T) ey))], .box [.c (I (max (x1 T) ex)), .c (I (max (y1 T) ey))], .itr 0 ck (seen ++ [eb]) ck]) (by decide) (ZNL hE) ZCF ZCH (fun _ => ?_)
   obtain ⟨q1, q2, q3, q4⟩ := x0_snocs (p := (ex, ey)) hne'
   exact ⟨_, by rw [← hm]; exact hlt, seen ++ [eb], T ++ [(ex, ey)], true, rfl, hT', .inr ⟨rfl, by simp⟩, rfl, by rw [q1, q2, q3, q4]⟩
 ·refine zd rfl ?_
  have hTL : ∀ p, p ∈ T ↔ p ∈ L := fun p => (hT p).trans (seenT_end hok hall)
  obtain ⟨q1, q2, q3, q4⟩ := x0_mem hTL
  have hsL : (!L.isEmpty) = s := by
   rcases hs with ⟨rfl, rfl⟩ | ⟨rfl, hne'⟩
   ·have : L = [] := List.eq_nil_iff_forall_not_mem.2 fun p hp => by rw [← hTL] at hp; cases hp
    rw [this]; rfl
   ·cases L with
    | nil => exact absurd (List.eq_nil_iff_forall_not_mem.2 fun p hp => by rw [hTL] at hp; cases hp) hne'
    | cons => rfl
  rw [hsL, ← q1, ← q2, ← q3, ← q4]
  refine ZZ ?_
  refine zg [(0, none), (1, none), (2, none), (3, some [1, 2]), (4, some [2]), (5, none)] zn (by kernel_rfl) ?_
  refine WQ ?_
  exact zq (us := [.a [.c (I (x0 T)), .c (I (y0 T))], .a [.c (I (x1 T)), .c (I (y1 T))], .c (B s)]) [some 0] (fun _ => .t [.a [.c (I (x0 T)), .c (I (y0 T))], .a [.c (I (x1 T)), .c (I (y1 T))], .c (B s)]) (fun _ => [mpO encP encT es ck]) (.cella (n := 2) rfl (by kernel_rfl) (Cells.box rfl) (by simp) (by (try simp only [nm, putL, Nat.reduceAdd, cellsOf, cvOf]) <;> rfl) (.cella (n := 2) rfl (by kernel_rfl) (Cells.box rfl) (by simp) (by (try simp only [nm, putL, Nat.reduceAdd, cellsOf, cvOf]) <;> rfl) (.tmp rfl .nil))) (by decide) (by first | exact (ZNK rfl)) (fun _ => cvt_clo _ _ _ _ _ rfl) ZCH (fun _ => ⟨rfl, rfl⟩)
end Go.Proofs.YtfilfijammemfaaGreatDoor
namespace Go.Proofs.YtfilfijammemfaaGreatDoor
open Go Go.RowKit
section
variable {P : Program} {N : Nat} {E : Env} {F : Fm} {H : List OB} {o : Oper} {S : Nat → Prop} {ρ : List (Option Nat)} {a : Act} {w : World}
def arrSz (P : Program) (t : TypeId) : Option (Nat × TypeId × Nat) :=
 match P.underlying t with
 | some (.array n e) => (P.info? e).map fun i => (n, e, i.size)
 | _ => none
theorem arrSz_spec {t e : TypeId} {n sz : Nat} (h : arrSz P t = some (n, e, sz)) : (underlying t).run P w = .ok (.array n e) w ∧ (sizeOf e).run P w = .ok sz w := by
 unfold arrSz at h
 cases hu : P.underlying t with
 | none => rw [hu] at h; cases h
 | some d =>
  rw [hu] at h
  cases d <;> simp only [reduceCtorEq] at h
  rename_i n' e'
  cases hi : P.info? e' with
  | none => rw [hi] at h; cases h
  | some i =>
   rw [hi] at h
   simp only [Option.map_some, Option.some.injEq, Prod.mk.injEq] at h
   obtain ⟨rfl, rfl, rfl⟩ := h
   exact ⟨by unfold underlying; simp [hu], by simp [sizeOf, typeInfo, hi]⟩
theorem rd_ixa {t e : TypeId} {x ix : Operand} {b k j n i sz : Nat} {kd : IntKind} {z : Int} (ho : o.op = .indexAddr t x ix) (ht : arrSz P t = some (n, e, sz)) (hx : ev F x = some (.p b k j)) (hix : ev F ix = some (.c (.s (.int kd z)))) (hz : z = i) (hi : i < n) :
    Rd P N E o F H (.p b k (j + i * sz)) := fun S ρ a w hR => by
 obtain ⟨h1, h2⟩ := hR.ev hx
 have h3 := (hR.ev hix).1
 simp only [AV.den, CV.den] at h3
 obtain ⟨hu, hs⟩ := arrSz_spec (w := w) ht
 cases h2 with
 | p g0 g =>
  obtain ⟨B, hB⟩ := Option.isSome_iff_exists.1 g
  refine ⟨?_, .p g0 g⟩
  simp only [execOp, ho, h1, h3, AV.den, hB, Option.map_some, hz, Sem.run_bind, Instr.indexAt, asIntOf, hu, Result.andThen_ok, Sem.run_pure, Instr.sureAddr]
  rw [if_pos (by omega)]
  simp only [Sem.run_bind, hs, Result.andThen_ok, Sem.run_pure, Int.toNat_natCast]
  unfold Addr.add
  split
  ·rename_i h0; rw [h0]; rfl
  ·simp only [Nat.add_assoc]
mutual
/-- Pointers to the block's cells, without rows. -/
def AV.nk (b : Nat) : AV → Bool
 | .p b' k _ => b' != b || k == 0
 | .a l => AV.nkL b l
 | .t l => AV.nkL b l
 | .f _ l => AV.nkL b l
 | _ => true
def AV.nkL (b : Nat) : List AV → Bool
 | [] => true
 | x :: l => AV.nk b x && AV.nkL b l
end
def OB.nk (b : Nat) : OB → Bool
 | .box l => AV.nkL b l
 | .boxt _ l => AV.nkL b l
 | .eqv x _ => AV.nk b x
 | _ => true
end
end Go.Proofs.YtfilfijammemfaaGreatDoor
