/- strings.Trim with a set of ASCII letters, by value. -/
import Derived.Test.YtniolldgidgffaaGreatDoorQbd
import Derived.Test.YtniolldgidgffaaGreatDoorQaz
import Derived.Laws.StructEq
import Derived.Test.YtniolldgidgffaaGreatDoorQbc
import Derived.Test.YtniolldgidgffaaGreatDoorQat
set_option linter.unusedSimpArgs false
set_option linter.unusedVariables false
/- The reference's sets of spots, by value: setOf, span. -/
-- NEWM
namespace Go.Proofs.YtniolldgidgffaaGreatDoor
open Go Go.RowKit
set_option maxRecDepth 100000
theorem chkJ (b : Bool) (z : Int) (w : World) : (Instr.checkKey b 9999 3 (.int .i64 z)).run Tryz.prog w = .ok () w := by
 rw [show (9999 : Nat) = 9998 + 1 from rfl, Instr.checkKey]
 simp only [Sem.run_bind, mp_under Tryz.underlying3, Result.andThen_ok]
 rfl
theorem keySpoe (a b c d : Int) (w : World) : (Op.equal 119 (.agg #[.int .i64 a, .int .i64 b]) (.agg #[.int .i64 c, .int .i64 d])).run Tryz.prog w = .ok (a == c && b == d) w := by
 have u3 := Tryz.underlying3
 have a3 := Tryz.isAgg3
 have z3 := Tryz.sizeOf3
 have hS : Tryz.prog.underlying 119 = some (.struct (Tryz.prog.fieldsOf 119)) := by kernel_rfl
 have hp : Tryz.prog.stoodInHeld 119 = false := by kernel_rfl
 unfold Op.equal Op.maxDepth
 rw [show (10000 : Nat) = 9999 + 1 from rfl, run_equalIn_agg w 9999 119 _ _ hS hp]
 simp only [Program.fieldsOf, Tryz.underlying119]
 go_simp
 by_cases h1 : a = c <;> by_cases h2 : b = d <;> simp [h1, h2]
theorem keySpoc (em : Bool) (a b : Int) (w : World) : (Instr.checkKey em 10000 119 (.agg #[.int .i64 a, .int .i64 b])).run Tryz.prog w = .ok () w := by
 have u3 := Tryz.underlying3
 have a3 := Tryz.isAgg3
 have z3 := Tryz.sizeOf3
 have hc := chkJ em
 rw [show (10000 : Nat) = 9999 + 1 from rfl, Instr.checkKey]
 simp only [Sem.run_bind, mp_under Tryz.underlying119, Result.andThen_ok]
 go_simp
theorem keyP : KeyOk Tryz.prog 119 encP := by
 refine .ask Tryz.underlying119 (fun _ _ => rfl) (fun a b w => ?_) (fun b a w => keySpoc _ _ _ w) (fun a => ?_)
 ·simp only [encP]
  rw [keySpoe]
  congr 1
  rw [Bool.eq_iff_iff]
  obtain ⟨a1, a2⟩ := a
  obtain ⟨b1, b2⟩ := b
  simp
 ·simp [encP, Instr.sameBits]
theorem rin_v (n lo hi : Int) : ACalls Tryz.prog 74 [.c (I n), .c (I lo), .c (I hi)] [] fun u H => u = .c (B (!outB n lo hi)) ∧ H = [] := by
 refine acalls_of (N := 15) Tryz.func74 rfl rfl (by simp) fun E hE => ?_
 by_cases h1 : lo ≤ n
 ·repeat' (first
   | (with_reducible refine aw_seq ?_) | (with_reducible refine aseq_n ?_) | (with_reducible refine aseq_r ?_) | (with_reducible refine ablk_n ?_) | (with_reducible refine ablk_r ?_) | (with_reducible refine ablk_e ?_) | (with_reducible refine ablk_o rfl ?_) | (with_reducible refine aseq_e ?_) | (with_reducible refine aw_skip ?_) | (with_reducible refine aw_block ?_) | (with_reducible refine aw_ret ?_) | (with_reducible refine aw_exit ?_)
   | refine aw_cond_t rfl ?_ | refine aw_cond_f rfl ?_ | refine aw_if_t rfl (by assumption) ?_ | refine aw_if_f rfl (by assumption) ?_ | refine aw_if rfl (fun _ => ?_) (fun _ => ?_) | refine aw_cond rfl (fun _ => ?_) (fun _ => ?_)
   | (refine aw_region ?_; refine WE ?_))
  all_goals (refine aret_1 [] _ rfl rfl rfl (by decide) (ZNK rfl) (fun _ => .nil) ⟨congrArg (fun z => AV.c (B z)) ?_, rfl⟩)
  all_goals (unfold outB; rw [Bool.eq_iff_iff]; simp; try omega)
 ·repeat' (first
   | (with_reducible refine aw_seq ?_) | (with_reducible refine aseq_n ?_) | (with_reducible refine aseq_r ?_) | (with_reducible refine ablk_n ?_) | (with_reducible refine ablk_r ?_) | (with_reducible refine ablk_e ?_) | (with_reducible refine ablk_o rfl ?_) | (with_reducible refine aseq_e ?_) | (with_reducible refine aw_skip ?_) | (with_reducible refine aw_block ?_) | (with_reducible refine aw_ret ?_) | (with_reducible refine aw_exit ?_)
   | refine aw_cond_t rfl ?_ | refine aw_cond_f rfl ?_ | refine aw_if_t rfl (by assumption) ?_ | refine aw_if_f rfl (by assumption) ?_ | refine aw_if rfl (fun _ => ?_) (fun _ => ?_) | refine aw_cond rfl (fun _ => ?_) (fun _ => ?_)
   | (refine aw_region ?_; refine WE ?_))
  all_goals (refine aret_1 [] _ rfl rfl rfl (by decide) (ZNK rfl) (fun _ => .nil) ⟨congrArg (fun z => AV.c (B z)) ?_, rfl⟩)
  all_goals (unfold outB; rw [Bool.eq_iff_iff]; simp; try omega)
theorem rstep_v (st : Int) : ACalls Tryz.prog 72 [.c (I st)] [] fun u H => u = .c (I (if stepB st = true then 1 else 0)) ∧ H = [] := by
 obtain ⟨b1, h1⟩ : ∃ q, outB st 2 10000 = q := ⟨_, rfl⟩
 have hb : stepB st = (b1 || decide (st.tmod 2 ≠ 0)) := by rw [← h1]; rfl
 rw [hb]
 refine acalls_of (N := 11) Tryz.func72 rfl rfl (by simp) fun E hE => ?_
 cases b1 with
 | true =>
  refine WA ?_
  refine WR ?_
  refine al_ef rfl (ef_call0 false (fun _ => rin_v _ _ _) rfl .fn rfl (by decide) (by kernel_rfl) rfl (fun _ => C0 rfl) (by simp)) ?_
  rintro _ _ ⟨_, _, _, ⟨rfl, rfl⟩, hF, hH⟩
  rw [h1] at hF
  (refine NST hF hH ?_; clear hF hH; rintro rfl rfl)
  refine WE ?_
  refine aw_cond_t rfl ?_
  refine WA ?_
  exact aret_1 [] _ rfl rfl rfl (by decide) (ZNK rfl) (fun _ => .nil) ⟨rfl, rfl⟩
 | false =>
  refine WA ?_
  refine WR ?_
  refine al_ef rfl (ef_call0 false (fun _ => rin_v _ _ _) rfl .fn rfl (by decide) (by kernel_rfl) rfl (fun _ => C0 rfl) (by simp)) ?_
  rintro _ _ ⟨_, _, _, ⟨rfl, rfl⟩, hF, hH⟩
  rw [h1] at hF
  (refine NST hF hH ?_; clear hF hH; rintro rfl rfl)
  refine WE ?_
  refine aw_if rfl (fun h2 => ?_) (fun h2 => ?_)
  ·refine WA ?_
   exact aret_1 [] _ rfl rfl rfl (by decide) (ZNK rfl) (fun _ => .nil) ⟨congrArg (fun z => AV.c (I z)) (by simp [h2]), rfl⟩
  ·refine ZZ ?_
   refine WA ?_
   exact aret_1 [] _ rfl rfl rfl (by decide) (ZNK rfl) (fun _ => .nil) ⟨congrArg (fun z => AV.c (I z)) (by simp [h2]), rfl⟩
theorem aret_m {P : Program} {fn : Func} {nl q b b' : Nat} {F : Fm} {H : List OB} {Qr : AV → List OB → Prop} {z : AV} (m : List (Option Nat)) (H' : (AV → Value) → List OB) (hr : fn.results = #[.tmp q]) (h : F.lookup q = some z) (hz : z = .mp b) (hb : m[b']? = some (some b)) (hm : (m.filterMap id).Nodup) (hl : ∀ i, i < nl → m[i]? = some (some i)) (hH : ∀ g, CvH g m H true m (H' g)) (hq : ∀ g, Qr (.mp b') (H' g)) : ARet P fn nl Qr .ret F H := by
 subst hz
 exact aret_of m (fun _ => .mp b') H' (by rw [hr]; exact .tmp h .nil) hm hl (fun _ => .mp hb) hH hq
theorem tdiv_bd {x s M : Int} (hs : 1 ≤ s) (hx : -M ≤ x ∧ x ≤ M) : -M ≤ x.tdiv s ∧ x.tdiv s ≤ M := by
 have h : (x.tdiv s).natAbs = x.natAbs / s.natAbs := Int.natAbs_tdiv x s
 have h2 : x.natAbs / s.natAbs ≤ x.natAbs := Nat.div_le_self _ _
 generalize x.natAbs / s.natAbs = q at h h2
 omega
set_option maxHeartbeats 1000000 in
theorem setof_v (va : Value) (c : Cel) (hst : 1 ≤ c.st) (hx : -1000000000000 ≤ c.x ∧ c.x ≤ 1000000000000) (hy : -1000000000000 ≤ c.y ∧ c.y ≤ 1000000000000) (hl : c.rows.length ≤ 1000000000) (hr : ∀ r ∈ c.rows, r.length ≤ 1000000000 ∧ okB2 r = true) : ACalls Tryz.prog 75 [celA va c] [] fun u H => ∃ es ck, SetOk es ck (covL c) ∧ u = .mp 0 ∧ H = [mpO encP encT es ck] := by
 have hX := tdiv_bd hst hx
 have hY := tdiv_bd hst hy
 have e1 : (tR c.rows).length = c.rows.length := by simp
 refine acalls_of (N := 43) Tryz.func75 rfl rfl (by simp) fun E hE => ?_
 refine WA ?_
 refine ZR ?_
 refine al_ef rfl (ef_mkmap rfl rfl (by decide)) ?_
 rintro _ _ ⟨rfl, rfl⟩
 refine WE ?_
 refine WA ?_
 refine aw_loopw (fun m F H => ∃ (i : Nat) (es : SE) (ck : Nat), m + i = c.rows.length ∧ SetOk es ck (hitC (c.x.tdiv c.st) (c.y.tdiv c.st) (c.rows.take i)) ∧ F = [(1, .p 0 0 0), (3, .mp 1), (9, .c (.r va (tR c.rows))), (10, .c (I (tR c.rows).length)), (11, .c (I i))] ∧ H = [celB va c, mpO encP encT es ck]) ?_ ?_
 ·refine wk_of [some 0, some 1] (fun _ => [(1, .p 0 0 0), (3, .mp 1), (9, .c (.r va (tR c.rows))), (10, .c (I (tR c.rows).length)), (11, .c (I (0 : Nat)))]) (fun _ => [celB va c, mpO encP encT [] 0]) (by decide) (ZNL hE) ZCF ZCH (fun _ => ?_)
  exact ⟨c.rows.length, 0, [], 0, by omega, by rw [List.take_zero]; exact .nil, rfl, rfl⟩
 rintro m F H ⟨i, es, ck, hi, hes, rfl, rfl⟩
 refine WA ?_
 refine aw_if rfl (fun hlt => ?_) (fun hge => ?_)
 ·obtain ⟨r, hri⟩ : ∃ r, c.rows[i]? = some r := ⟨_, List.getElem?_eq_getElem (by omega)⟩
  have hrow : (tR c.rows)[i]? = some [T r] := by rw [List.getElem?_map, hri]; rfl
  obtain ⟨hrl, hrb⟩ := hr r (List.mem_of_getElem? hri)
  have htk : c.rows.take (i + 1) = c.rows.take i ++ [r] := by rw [List.take_add_one, hri]; rfl
  have hil : (c.rows.take i).length = i := by rw [List.length_take]; omega
  have hnx : ∀ k, k ≤ r.length → hitC (c.x.tdiv c.st) (c.y.tdiv c.st) (c.rows.take i ++ [r.take k]) = hitC (c.x.tdiv c.st) (c.y.tdiv c.st) (c.rows.take i) ++ hitR (c.x.tdiv c.st) (c.y.tdiv c.st + (i : Nat)) (r.take k) := fun k hk => by
   rw [hitC_append, hil]; simp [hitC]
  refine WA ?_
  refine ZR ?_
  refine WX1 ?_
  refine al_ef rfl (ef_ranges (l := r) rfl rfl (by decide) Tryz.underlying9 rfl) ?_
  rintro _ _ ⟨rfl, rfl⟩
  refine WE ?_
  refine aw_loopw (fun m2 F H => ∃ (k : Nat) (es : SE) (ck : Nat), m2 + k = r.length ∧ SetOk es ck (hitC (c.x.tdiv c.st) (c.y.tdiv c.st) (c.rows.take i ++ [r.take k])) ∧ F = [(1, .p 0 0 0), (3, .mp 1), (4, .c (I i)), (5, .c (T r)), (9, .c (.r va (tR c.rows))), (10, .c (I (tR c.rows).length)), (11, .c (I i)), (17, .p 2 0 0)] ∧ H = [celB va c, mpO encP encT es ck, .sit (bst r) k]) ?_ ?_
  ·refine wk_of [some 0, some 1, some 2] (fun _ => [(1, .p 0 0 0), (3, .mp 1), (4, .c (I i)), (5, .c (T r)), (9, .c (.r va (tR c.rows))), (10, .c (I (tR c.rows).length)), (11, .c (I i)), (17, .p 2 0 0)]) (fun _ => [celB va c, mpO encP encT es ck, .sit (bst r) 0]) (by decide) (ZNL hE) ZCF ZCH (fun _ => ?_)
   exact ⟨r.length, 0, es, ck, by omega, by rw [hnx 0 (by omega), List.take_zero, hitR, List.append_nil]; exact hes, rfl, rfl⟩
  clear hes es ck
  rintro m2 F H ⟨k, es, ck, hk, hes, rfl, rfl⟩
  by_cases hkl : k < r.length
  ·obtain ⟨b, hb⟩ : ∃ b, r[k]? = some b := ⟨_, List.getElem?_eq_getElem hkl⟩
   have hb2 : b = 35 ∨ b = 46 := by
    have := List.all_eq_true.1 hrb b (List.mem_of_getElem? hb)
    simpa using this
   have hb8 : b < 128 := by rcases hb2 with rfl | rfl <;> decide
   have hrk : r.take (k + 1) = r.take k ++ [b] := by rw [List.take_add_one, hb]; rfl
   have hkl2 : (r.take k).length = k := by rw [List.length_take]; omega
   refine ZR ?_
   refine al_ef rfl (ef_nexts (l := r) (b := b) rfl rfl (by decide) rfl rfl hb hb8) ?_
   rintro _ _ ⟨rfl, rfl⟩
   refine WE ?_
   refine aw_cond_t rfl ?_
   refine WA ?_
   refine ZR ?_
   iterate 2 refine WX1 ?_
   refine ZA (rd_idxs (i := k) rfl Tryz.underlying9 rfl rfl rfl hb) ?_
   refine WE ?_
   refine aw_if rfl (fun h35 => ?_) (fun h35 => ?_)
   ·obtain rfl : b = 35 := by rcases hb2 with rfl | rfl; rfl; exact absurd h35 (by decide)
    have hs := hes.set (c.x.tdiv c.st + (k : Nat), c.y.tdiv c.st + (i : Nat))
    refine ZZ ?_
    refine aw_regionT [(0, none), (1, none), (2, none), (3, none), (4, none), (5, none), (6, none), (7, none), (8, none), (9, none), (10, none), (11, none), (12, none), (13, none), (14, none), (15, none), (16, some [])] hMixed (by kernel_rfl) ?_
    iterate 16 refine WX2 ?_
    refine at_ef rfl rfl (ef_mapset (ke := encP) (ve := encT) (k := (c.x.tdiv c.st + (k : Nat), c.y.tdiv c.st + (i : Nat))) (z := true) (l := es) (ck := ck) keyP rfl rfl Tryz.underlying122 rfl rfl rfl (fun ρ H => by simp [AV.den, AV.denL, CV.den, encP]) rfl (fun ρ H => rfl)) ?_
    rintro _ _ ⟨rfl, rfl⟩
    refine ⟨ag_none, ?_⟩
    refine WQ ?_
    refine wk_of [some 0, some 1, some 2] (fun _ => [(1, .p 0 0 0), (3, .mp 1), (4, .c (I i)), (5, .c (T r)), (9, .c (.r va (tR c.rows))), (10, .c (I (tR c.rows).length)), (11, .c (I i)), (17, .p 2 0 0)]) (fun _ => [celB va c, mpO encP encT (mset ck (c.x.tdiv c.st + (k : Nat), c.y.tdiv c.st + (i : Nat)) true es) (mclk ck (c.x.tdiv c.st + (k : Nat), c.y.tdiv c.st + (i : Nat)) es), .sit (bst r) (k + 1)]) (by decide) (ZNL hE) ZCF ZCH (fun _ => ?_)
    exact ⟨m2 - 1, by omega, k + 1, _, _, by omega, by rw [hnx _ (by omega), hrk, hitR_append, hkl2, ← List.append_assoc, ← hnx k (by omega)]; simpa [hitR] using hs, rfl, rfl⟩
   ·obtain rfl : b = 46 := by rcases hb2 with rfl | rfl; exact absurd rfl h35; rfl
    refine ZZ ?_
    refine wk_of [some 0, some 1, some 2] (fun _ => [(1, .p 0 0 0), (3, .mp 1), (4, .c (I i)), (5, .c (T r)), (9, .c (.r va (tR c.rows))), (10, .c (I (tR c.rows).length)), (11, .c (I i)), (17, .p 2 0 0)]) (fun _ => [celB va c, mpO encP encT es ck, .sit (bst r) (k + 1)]) (by decide) (ZNL hE) ZCF ZCH (fun _ => ?_)
    exact ⟨m2 - 1, by omega, k + 1, es, ck, by omega, by rw [hnx _ (by omega), hrk, hitR_append, hkl2, ← List.append_assoc, ← hnx k (by omega)]; simpa [hitR] using hes, rfl, rfl⟩
  obtain rfl : k = r.length := by omega
  rw [List.take_length, ← htk] at hes
  refine ZR ?_
  refine al_ef rfl (ef_nexte (l := r) rfl rfl (by decide) rfl rfl (Nat.le_refl _)) ?_
  rintro _ _ ⟨rfl, rfl⟩
  refine WE ?_
  refine aw_cond_f rfl ?_
  refine ZZ ?_
  refine WA ?_
  refine wk_of [some 0, some 1] (fun _ => [(1, .p 0 0 0), (3, .mp 1), (9, .c (.r va (tR c.rows))), (10, .c (I (tR c.rows).length)), (11, .c (I (i + 1 : Nat)))]) (fun _ => [celB va c, mpO encP encT es ck]) (by decide) (ZNL hE) ZCF ZCH (fun _ => ?_)
  exact ⟨m - 1, by omega, i + 1, es, ck, by omega, hes, rfl, rfl⟩
 obtain rfl : i = c.rows.length := by omega
 rw [List.take_length] at hes
 refine ZZ ?_
 refine WA ?_
 exact aret_m (b' := 0) [some 1] (fun _ => [mpO encP encT es ck]) rfl rfl rfl rfl (by decide) (ZNK rfl) ZCH (fun _ => ⟨es, ck, hes, rfl, rfl⟩)
end Go.Proofs.YtniolldgidgffaaGreatDoor

/- What is wrong with paths that cover, by value: the reference's WaysFault. -/
-- NEWM
namespace Go.Proofs.YtniolldgidgffaaGreatDoor
open Go Go.RowKit
set_option maxRecDepth 100000
end Go.Proofs.YtniolldgidgffaaGreatDoor

/- Whether paths lead through a point, by value: the reference's on and led. -/
-- NEWM
-- NILC
namespace Go.Proofs.YtniolldgidgffaaGreatDoor
open Go Go.RowKit
set_option maxRecDepth 100000
end Go.Proofs.YtniolldgidgffaaGreatDoor

/- Whether paths lead through a point, by value: the reference's led. -/
-- NEWM
namespace Go.Proofs.YtniolldgidgffaaGreatDoor
open Go Go.RowKit
set_option maxRecDepth 100000
end Go.Proofs.YtniolldgidgffaaGreatDoor

/- The span of a set of spots, by value. -/
-- NEWM
namespace Go.Proofs.YtniolldgidgffaaGreatDoor
open Go Go.RowKit
set_option maxRecDepth 100000
set_option maxHeartbeats 1000000 in
theorem span_v (es : SE) (ck : Nat) (L : List Spot) (hok : SetOk es ck L) : ACalls Tryz.prog 76 [.mp 0] [mpO encP encT es ck] fun u H => u = .t [.a [.c (I (x0 L)), .c (I (y0 L))], .a [.c (I (x1 L)), .c (I (y1 L))], .c (B (!L.isEmpty))] ∧ H = [mpO encP encT es ck] := by
 refine acalls_of (N := 41) Tryz.func76 rfl rfl (by simp) fun E hE => ?_
 refine WA ?_
 refine ZR ?_
 refine WX1 ?_
 refine al_ef rfl (ef_range (ke := encP) (ve := encT) (l := es) (ck := ck) rfl rfl (by decide) Tryz.underlying122 rfl rfl) ?_
 rintro _ _ ⟨rfl, rfl⟩
 refine WE ?_
 refine aw_loopw (fun m F H => ∃ (seen : List Nat) (T : List Spot) (s : Bool), unseen es seen = m ∧ (∀ p, p ∈ T ↔ p ∈ seenT es seen) ∧ (s = false ∧ T = [] ∨ s = true ∧ T ≠ []) ∧ F = [(2, .p 1 0 0), (3, .p 2 0 0), (4, .c (B s)), (7, .p 3 0 0)] ∧ H = [mpO encP encT es ck, .box [.c (I (x0 T)), .c (I (y0 T))], .box [.c (I (x1 T)), .c (I (y1 T))], .itr 0 ck seen ck]) ?_ ?_
 ·refine wk_of [some 0, some 1, some 2, some 3] (fun _ => [(2, .p 1 0 0), (3, .p 2 0 0), (4, .c (B false)), (7, .p 3 0 0)]) (fun _ => [mpO encP encT es ck, .box [.c (I (x0 [])), .c (I (y0 []))], .box [.c (I (x1 [])), .c (I (y1 []))], .itr 0 ck [] ck]) (by decide) (ZNL hE) ZCF ZCH (fun _ => ?_)
  exact ⟨_, [], [], false, rfl, fun p => by simp [seenT], .inl ⟨rfl, rfl⟩, rfl, rfl⟩
 rintro m F H ⟨seen, T, s, hm, hT, hs, rfl, rfl⟩
 refine ZR ?_
 refine al_ef rfl (ef_nextP (l := es) hok rfl rfl (by decide) rfl rfl rfl) ?_
 rintro _ _ (⟨eb, ex, ey, he, hne, rfl, rfl⟩ | ⟨hall, rfl, rfl⟩)
 all_goals (refine WE ?_)
 ·refine aw_cond_t rfl ?_
  have hlt := unseen_lt he hne
  have hT' : ∀ p, p ∈ T ++ [(ex, ey)] ↔ p ∈ seenT es (seen ++ [eb]) := fun p => by
   rw [seenT_snoc hok.nb he, List.mem_append, List.mem_append, hT]
  refine ZR ?_
  refine ZA (rd_entryP (l := es) hok rfl rfl rfl rfl he) ?_
  refine WE ?_
  refine WA ?_
  rcases hs with ⟨rfl, rfl⟩ | ⟨rfl, hne'⟩
  ·refine aw_cond_t rfl ?_
   refine ZZ ?_
   refine aw_regionT [(0, none), (1, none), (2, some [1]), (3, some []), (4, none)] hMixed (by kernel_rfl) ?_
   refine WQ ?_
   refine ZZ ?_
   refine aw_regionT [(0, none), (1, none), (2, none), (3, none), (4, none), (5, none), (6, none), (7, none), (8, none), (9, none), (10, none), (11, none), (12, none), (13, none), (14, none), (15, none), (16, none), (17, none), (18, none), (19, none), (20, none), (21, none), (22, some [11, 12, 13, 14, 15, 16, 17, 18, 19, 20, 21]), (23, some [])] hMixed (by kernel_rfl) ?_
   refine WQ ?_
   refine wk_of [some 0, some 1, some 2, some 3] (fun _ => [(2, .p 1 0 0), (3, .p 2 0 0), (4, .c (B true)), (7, .p 3 0 0)]) (fun _ => [mpO encP encT es ck, .box [.c (I (min ex ex)), .c (I (min ey ey))], .box [.c (I (max ex ex)), .c (I (max ey ey))], .itr 0 ck (seen ++ [eb]) ck]) (by decide) (ZNL hE) ZCF ZCH (fun _ => ?_)
   exact ⟨_, by rw [← hm]; exact hlt, seen ++ [eb], [] ++ [(ex, ey)], true, rfl, hT', .inr ⟨rfl, by simp⟩, rfl, by rw [Int.min_self, Int.min_self, Int.max_self, Int.max_self]; rfl⟩
  ·refine aw_cond_f rfl ?_
   refine ZZ ?_
   refine aw_regionT [(0, none), (1, none), (2, none), (3, none), (4, none), (5, none), (6, none), (7, none), (8, none), (9, none), (10, none), (11, none), (12, none), (13, none), (14, none), (15, none), (16, none), (17, none), (18, none), (19, none), (20, none), (21, none), (22, some [11, 12, 13, 14, 15, 16, 17, 18, 19, 20, 21]), (23, some [])] hMixed (by kernel_rfl) ?_
   refine WQ ?_
   refine wk_of [some 0, some 1, some 2, some 3] (fun _ => [(2, .p 1 0 0), (3, .p 2 0 0), (4, .c (B true)), (7, .p 3 0 0)]) (fun _ => [mpO encP encT es ck, .box [.c (I (min (x0 T) ex)), .c (I (min (y0 T) ey))], .box [.c (I (max (x1 T) ex)), .c (I (max (y1 T) ey))], .itr 0 ck (seen ++ [eb]) ck]) (by decide) (ZNL hE) ZCF ZCH (fun _ => ?_)
   obtain ⟨q1, q2, q3, q4⟩ := x0_snocs (p := (ex, ey)) hne'
   exact ⟨_, by rw [← hm]; exact hlt, seen ++ [eb], T ++ [(ex, ey)], true, rfl, hT', .inr ⟨rfl, by simp⟩, rfl, by rw [q1, q2, q3, q4]⟩
 ·refine aw_cond_f rfl ?_
  have hTL : ∀ p, p ∈ T ↔ p ∈ L := fun p => (hT p).trans (seenT_end hok hall)
  obtain ⟨q1, q2, q3, q4⟩ := x0_mem hTL
  have hsL : (!L.isEmpty) = s := by
   rcases hs with ⟨rfl, rfl⟩ | ⟨rfl, hne'⟩
   ·have : L = [] := List.eq_nil_iff_forall_not_mem.2 fun p hp => by rw [← hTL] at hp; cases hp
    rw [this]; rfl
   ·cases L with
    | nil => exact absurd (List.eq_nil_iff_forall_not_mem.2 fun p hp => by rw [hTL] at hp; cases hp) hne'
    | cons => rfl
  rw [hsL, ← q1, ← q2, ← q3, ← q4]
  refine ZZ ?_
  refine aw_regionT [(0, none), (1, none), (2, none), (3, some [1, 2]), (4, some [2]), (5, none)] hMixed (by kernel_rfl) ?_
  refine WQ ?_
  exact aret_of (us := [.a [.c (I (x0 T)), .c (I (y0 T))], .a [.c (I (x1 T)), .c (I (y1 T))], .c (B s)]) [some 0] (fun _ => .t [.a [.c (I (x0 T)), .c (I (y0 T))], .a [.c (I (x1 T)), .c (I (y1 T))], .c (B s)]) (fun _ => [mpO encP encT es ck]) (.cella (n := 2) rfl (by kernel_rfl) (Cells.box rfl) (by simp) (by (try simp only [nm, putL, Nat.reduceAdd, cellsOf, cvOf]) <;> rfl) (.cella (n := 2) rfl (by kernel_rfl) (Cells.box rfl) (by simp) (by (try simp only [nm, putL, Nat.reduceAdd, cellsOf, cvOf]) <;> rfl) (.tmp rfl .nil))) (by decide) (by first | exact (ZNK rfl)) (fun _ => cvt_clo _ _ _ _ _ rfl) ZCH (fun _ => ⟨rfl, rfl⟩)
end Go.Proofs.YtniolldgidgffaaGreatDoor

/- Arrays in the logic over values: an element of one, the address of an element, a literal, a slice of one. Conditions: none. -/
namespace Go.Proofs.YtniolldgidgffaaGreatDoor
open Go Go.RowKit
section
variable {P : Program} {N : Nat} {E : Env} {F : Fm} {H : List OB} {o : Oper} {S : Nat → Prop} {ρ : List (Option Nat)} {a : Act} {w : World}
def arrSz (P : Program) (t : TypeId) : Option (Nat × TypeId × Nat) :=
 match P.underlying t with
 | some (.array n e) => (P.info? e).map fun i => (n, e, i.size)
 | _ => none
theorem arrSz_spec {t e : TypeId} {n sz : Nat} (h : arrSz P t = some (n, e, sz)) : (underlying t).run P w = .ok (.array n e) w ∧ (sizeOf e).run P w = .ok sz w := by
 unfold arrSz at h
 cases hu : P.underlying t with
 | none => rw [hu] at h; cases h
 | some d =>
  rw [hu] at h
  cases d <;> simp only [reduceCtorEq] at h
  rename_i n' e'
  cases hi : P.info? e' with
  | none => rw [hi] at h; cases h
  | some i =>
   rw [hi] at h
   simp only [Option.map_some, Option.some.injEq, Prod.mk.injEq] at h
   obtain ⟨rfl, rfl, rfl⟩ := h
   exact ⟨by unfold underlying; simp [hu], by simp [sizeOf, typeInfo, hi]⟩
theorem rd_ixa {t e : TypeId} {x ix : Operand} {b k j n i sz : Nat} {kd : IntKind} {z : Int} (ho : o.op = .indexAddr t x ix) (ht : arrSz P t = some (n, e, sz)) (hx : ev F x = some (.p b k j)) (hix : ev F ix = some (.c (.s (.int kd z)))) (hz : z = i) (hi : i < n) :
    Rd P N E o F H (.p b k (j + i * sz)) := fun S ρ a w hR => by
 obtain ⟨h1, h2⟩ := hR.ev hx
 have h3 := (hR.ev hix).1
 simp only [AV.den, CV.den] at h3
 obtain ⟨hu, hs⟩ := arrSz_spec (w := w) ht
 cases h2 with
 | p g0 g =>
  obtain ⟨B, hB⟩ := Option.isSome_iff_exists.1 g
  refine ⟨?_, .p g0 g⟩
  simp only [execOp, ho, h1, h3, AV.den, hB, Option.map_some, hz, Sem.run_bind, Instr.indexAt, asIntOf, hu, Result.andThen_ok, Sem.run_pure, Instr.sureAddr]
  rw [if_pos (by omega)]
  simp only [Sem.run_bind, hs, Result.andThen_ok, Sem.run_pure, Int.toNat_natCast]
  unfold Addr.add
  split
  ·rename_i h0; rw [h0]; rfl
  ·simp only [Nat.add_assoc]
mutual
/-- Pointers to the block's cells, without rows. -/
def AV.nk (b : Nat) : AV → Bool
 | .p b' k _ => b' != b || k == 0
 | .a l => AV.nkL b l
 | .t l => AV.nkL b l
 | .f _ l => AV.nkL b l
 | _ => true
def AV.nkL (b : Nat) : List AV → Bool
 | [] => true
 | x :: l => AV.nk b x && AV.nkL b l
end
def OB.nk (b : Nat) : OB → Bool
 | .box l => AV.nkL b l
 | .boxt _ l => AV.nkL b l
 | .eqv x _ => AV.nk b x
 | _ => true
end
end Go.Proofs.YtniolldgidgffaaGreatDoor

/- strings.Trim with a set of ASCII letters, by value. -/
-- NEWM
namespace Go.Proofs.YtniolldgidgffaaGreatDoor
open Go Go.RowKit
set_option maxRecDepth 100000
def ascL (l : List UInt8) : List AV := (List.range 256).map fun i => .c (B (l.any fun c => c.toNat == i))
theorem ascL_len (l : List UInt8) : (ascL l).length = 256 := by simp [ascL]
theorem ascL_nil : (List.replicate 256 (Value.bool false)).map (fun v => AV.c (cvOf v)) = ascL [] := by
 rw [List.map_replicate, ascL]
 refine List.ext_getElem (by rw [List.length_replicate, List.length_map, List.length_range]) fun i h1 h2 => ?_
 rw [List.getElem_replicate, List.getElem_map]
 rfl
theorem ascL_at (l : List UInt8) (b : UInt8) : (ascL l).drop (0 + b.toNat * 1) = .c (B (l.contains b)) :: (ascL l).drop (b.toNat + 1) := by
 have hb := b.toNat_lt
 rw [Nat.zero_add, Nat.mul_one, List.drop_eq_getElem_cons (by rw [ascL_len]; omega)]
 congr 1
 simp only [ascL, List.getElem_map, List.getElem_range]
 congr 2
 rw [Bool.eq_iff_iff, List.any_eq_true, List.contains_iff_mem]
 constructor
 ·rintro ⟨c, h1, h2⟩
  have h2 : c.toNat = b.toNat := by simpa using h2
  rwa [← UInt8.toNat_inj.1 h2]
 ·intro h; exact ⟨b, h, by simp⟩
theorem ascL_put (l : List UInt8) (b : UInt8) : putL (ascL l) (0 + b.toNat * 1) [.c (B true)] = ascL (l ++ [b]) := by
 have hb := b.toNat_lt
 rw [Nat.zero_add, Nat.mul_one]
 refine List.ext_getElem? fun i => ?_
 rw [putL_get (by rw [ascL_len]; simp; omega)]
 have hat : ∀ (m : List UInt8) (i : Nat), (ascL m)[i]? = if i < 256 then some (.c (B (m.any fun c => c.toNat == i))) else none := fun m i => by
  unfold ascL
  rw [List.getElem?_map]
  split
  ·rename_i h; rw [List.getElem?_range h]; rfl
  ·rename_i h; rw [List.getElem?_eq_none (by simpa using h)]; rfl
 rw [hat, hat]
 simp only [List.length_singleton]
 by_cases hi : b.toNat ≤ i ∧ i < b.toNat + 1
 ·obtain rfl : i = b.toNat := by omega
  rw [if_pos ⟨by omega, by omega⟩, if_pos (by omega), Nat.sub_self]
  simp
 ·rw [if_neg hi]
  have : (b.toNat == i) = false := by simp; omega
  simp [List.any_append, this]
theorem ascL_clo (l : List UInt8) : AV.cloL (ascL l) = true := by
 have : ∀ m : List CV, AV.cloL (m.map .c) = true := fun m => by
  induction m with
  | nil => rfl
  | cons x m ih => rw [List.map_cons, AV.cloL, AV.clo]; exact ih
 have e : ascL l = ((List.range 256).map fun i => B (l.any fun c => c.toNat == i)).map .c := by rw [ascL, List.map_map]; rfl
 rw [e]; exact this _
theorem ascL_one (l : List UInt8) : (ascL l).all AV.one = true := by
 rw [List.all_eq_true]
 intro x hx
 obtain ⟨i, _, rfl⟩ := List.mem_map.1 hx
 rfl
theorem ascL_all (m l : List UInt8) : putL (ascL m) 0 (ascL l) = ascL l := by
 unfold putL
 rw [List.take_zero, List.nil_append, Nat.zero_add, List.drop_eq_nil_of_le (by rw [ascL_len, ascL_len]; exact Nat.le_refl _), List.append_nil]
theorem aschas_v (l : List UInt8) (b : UInt8) : ACalls Tryz.prog 239 [.p 0 0 0, .c (.s (.int .u8 b.toNat))] [.box (ascL l)] fun u H => u = .c (B (l.contains b)) ∧ H = [.box (ascL l)] := by
 refine acalls_of (N := 10) Tryz.func239 rfl rfl (by simp) fun E hE => ?_
 refine WA ?_
 refine ZR ?_
 iterate 3 refine WX1 ?_
 refine ZA (rd_ixa (i := b.toNat) (n := 256) (e := 4) (sz := 1) rfl (by kernel_rfl) rfl rfl rfl (by have := b.toNat_lt; omega)) ?_
 refine ZA (rd_loadn1 rfl (by kernel_rfl) rfl (Cells.box rfl) (ascL_at l b)) ?_
 refine WE ?_
 exact aret_1 [some 0] [.box (ascL l)] rfl rfl rfl (by decide) (ZNK rfl) (fun _ => .box rfl (C0 (ascL_clo l)) .nil) ⟨rfl, rfl⟩
theorem makeascii_v (l : List UInt8) (h8 : ∀ b ∈ l, b < 128) (hl : l.length ≤ 1000000) : ACalls Tryz.prog 197 [.c (T l)] [] fun u H => u = .t [.a (ascL l), .c (B true)] ∧ H = [] := by
 refine acalls_of (N := 21) Tryz.func197 rfl rfl (by simp) fun E hE => ?_
 refine ZR ?_
 refine al_ef rfl (ef_alloc (z := .agg (List.replicate 256 (Value.bool false)).toArray) (vs := List.replicate 256 (.bool false)) rfl rfl (by decide) (by kernel_rfl) rfl (by decide +kernel)) ?_
 rintro _ _ ⟨rfl, rfl⟩
 rw [ascL_nil]
 refine WE ?_
 refine WA ?_
 refine aw_loopw (fun m F H => ∃ k : Nat, m + k = l.length ∧ F = [(0, .c (T l)), (2, .p 0 0 0), (4, .c (I k))] ∧ H = [.box (ascL (l.take k))]) ?_ ?_
 ·refine wk_of [some 0] (fun _ => [(0, .c (T l)), (2, .p 0 0 0), (4, .c (I (0 : Nat)))]) (fun _ => [.box (ascL [])]) (by decide) (ZNL hE) ZCF (fun _ => .box rfl (C0 (ascL_clo _)) .nil) (fun _ => ?_)
  exact ⟨l.length, 0, by omega, rfl, rfl⟩
 rintro m F H ⟨k, hk, rfl, rfl⟩
 have hsz := bst_size l
 by_cases hlt : k < l.length
 ·obtain ⟨b, hb⟩ : ∃ b, l[k]? = some b := ⟨_, List.getElem?_eq_getElem hlt⟩
  have hb8 : ¬ (128 : Int) ≤ (b.toNat : Int) := by have := h8 b (List.mem_of_getElem? hb); have : b.toNat < 128 := this; omega
  have htk : l.take (k + 1) = l.take k ++ [b] := by rw [List.take_add_one, hb]; rfl
  refine WA ?_
  refine aw_cond_t rfl ?_
  refine ZR ?_
  iterate 2 refine WX1 ?_
  refine ZA (rd_idxs (i := k) rfl Tryz.underlying9 rfl rfl rfl hb) ?_
  refine WE ?_
  refine WA ?_
  refine aw_cond_f rfl ?_
  refine ZZ ?_
  refine ZR ?_
  refine WX1 ?_
  refine ZA (rd_ixa (i := b.toNat) (n := 256) (e := 4) (sz := 1) rfl (by kernel_rfl) rfl rfl rfl (by have := b.toNat_lt; omega)) ?_
  refine al_ef rfl (ef_storen (k := 1) rfl rfl rfl rfl rfl (by kernel_rfl) rfl (by rw [ascL_len]; have := b.toNat_lt; omega) rfl (ascL_put _ b) rfl) ?_
  rintro _ _ ⟨rfl, rfl⟩
  refine WE ?_
  refine WA ?_
  refine wk_of [some 0] (fun _ => [(0, .c (T l)), (2, .p 0 0 0), (4, .c (I (k + 1 : Nat)))]) (fun _ => [.box (ascL (l.take k ++ [b]))]) (by decide) (ZNL hE) ZCF (fun _ => .box rfl (C0 (ascL_clo _)) .nil) (fun _ => ?_)
  exact ⟨m - 1, by omega, k + 1, by omega, rfl, by rw [htk]⟩
 obtain rfl : k = l.length := by omega
 rw [List.take_length]
 refine WA ?_
 refine aw_cond_f rfl ?_
 refine ZZ ?_
 refine ZR ?_
 refine ZA (rd_loadn (k := 256) (cs' := ascL l) rfl (by kernel_rfl) rfl (Cells.box rfl) (by rw [List.drop_zero, List.take_of_length_le (by rw [ascL_len]; exact Nat.le_refl _)]) (by rw [List.drop_zero, ascL_len]; exact Nat.le_refl _)) ?_
 refine al_ef rfl (ef_storen (k := 256) (l' := ascL l) rfl rfl rfl rfl rfl (by kernel_rfl) (ascL_len l) (by rw [ascL_len]; exact Nat.le_refl _) (ascL_one l) (ascL_all _ l) rfl) ?_
 rintro _ _ ⟨rfl, rfl⟩
 refine WE ?_
 exact aret_of (us := [.a (ascL l), .c (B true)]) [] (fun _ => .t [.a (ascL l), .c (B true)]) (fun _ => []) (.cella (n := 256) rfl (by kernel_rfl) (Cells.box rfl) (by rw [List.drop_zero, ascL_len]; exact Nat.le_refl _) (by rw [List.drop_zero, List.take_of_length_le (by rw [ascL_len]; exact Nat.le_refl _)]) (.tmp rfl .nil)) (by decide) (fun i hi => absurd hi (Nat.not_lt_zero i)) (fun _ => .tL (.cons (.aL (C0 (ascL_clo l))) (.cons (.c rfl) .nil))) (fun _ => .nil) (fun _ => ⟨rfl, rfl⟩)
end Go.Proofs.YtniolldgidgffaaGreatDoor
