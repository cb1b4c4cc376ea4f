/- Whole, by value: the walk over one part's cells. -/
import Derived.Test.YtniolldgidgffaaGreatDoorQbg
import Derived.Test.YtniolldgidgffaaGreatDoorQbh
import Derived.Test.YtniolldgidgffaaGreatDoorQbk
set_option linter.unusedSimpArgs false
set_option linter.unusedVariables false
/- Walls of near cells; cells of the same step, by value. -/
-- NEWM
namespace Go.Proofs.YtniolldgidgffaaGreatDoor
open Go Go.RowKit
set_option maxRecDepth 100000
set_option maxHeartbeats 1000000 in
theorem idxg_v (fn : FuncId) (hfn : okFn Tryz.prog fn = true) (e : CV) (pr : Cel → Bool) (v : Value) (l : List (Value × Cel)) (hl : l.length ≤ 1000000) (hp : ∀ w c, (w, c) ∈ l → ACalls Tryz.prog fn [celA w c, .c e] [] fun u H => u = .c (B (pr c)) ∧ H = []) : ACalls Tryz.prog 144 [.c (.r v (cR l)), .f (.func fn) [.c e]] [] fun u H => ∃ r : Int, u = .c (I r) ∧ H = [] ∧ (0 ≤ r ↔ (l.any fun p => pr p.2) = true) := by
 have e1 : (cR l).length = l.length := by simp
 refine acalls_of (N := 19) Tryz.func144 rfl rfl (by simp) fun E hE => ?_
 refine WA ?_
 refine WA ?_
 refine aw_loopw (fun m F H => ∃ (k : Nat), m + k = l.length ∧ ((l.drop k).any fun p => pr p.2) = (l.any fun p => pr p.2) ∧ F = [(0, .c (.r v (cR l))), (1, .f (.func fn) [.c e]), (7, .c (I (cR l).length)), (8, .c (I k))] ∧ H = []) ?_ ?_
 ·refine wk_of [] (fun _ => [(0, .c (.r v (cR l))), (1, .f (.func fn) [.c e]), (7, .c (I (cR l).length)), (8, .c (I (0 : Nat)))]) (fun _ => []) (by decide) (ZNL hE) ZCF (fun _ => .nil) (fun _ => ?_)
  exact ⟨l.length, 0, by omega, rfl, rfl, rfl⟩
 rintro m F H ⟨k, hk, hf, rfl, rfl⟩
 refine WA ?_
 refine aw_if rfl (fun hlt => ?_) (fun hge => ?_)
 ·obtain ⟨⟨w, c⟩, hz⟩ : ∃ e, l[k]? = some e := ⟨_, List.getElem?_eq_getElem (by omega)⟩
  have hrow : (cR l)[k]? = some (celR w c) := by rw [List.getElem?_map, hz]; rfl
  have hfd : ((l.drop k).any fun p => pr p.2) = (pr c || (l.drop (k + 1)).any fun p => pr p.2) := by
   obtain ⟨h1, h2⟩ := List.getElem?_eq_some_iff.1 hz
   rw [List.drop_eq_getElem_cons h1, h2]; rfl
  refine WA ?_
  refine WR ?_
  refine al_ef rfl (ef_call0 false (fun _ => hp w c (List.mem_of_getElem? hz)) rfl (.clo rfl) rfl (by decide) hfn rfl (fun _ => C0 rfl) (by simp)) ?_
  rintro _ _ ⟨_, _, _, ⟨rfl, rfl⟩, hF, hH⟩
  (refine NST hF hH ?_; clear hF hH; rintro rfl rfl)
  refine WE ?_
  refine aw_cond rfl (fun hpz => ?_) (fun hpz => ?_)
  ·refine WA ?_
   refine aret_1 [] _ rfl rfl rfl (by decide) (ZNK rfl) (fun _ => .nil) ⟨_, rfl, rfl, ?_⟩
   rw [← hf, hfd, hpz]
   simp
  ·refine ZZ ?_
   refine WA ?_
   refine wk_of [] (fun _ => [(0, .c (.r v (cR l))), (1, .f (.func fn) [.c e]), (7, .c (I (cR l).length)), (8, .c (I (k + 1 : Nat)))]) (fun _ => []) (by decide) (ZNL hE) ZCF (fun _ => .nil) (fun _ => ?_)
   exact ⟨m - 1, by omega, k + 1, by omega, by rw [← hf, hfd, hpz]; rfl, rfl, rfl⟩
 refine ZZ ?_
 refine WA ?_
 refine aret_1 [] _ rfl rfl rfl (by decide) (ZNK rfl) (fun _ => .nil) ⟨_, rfl, rfl, ?_⟩
 rw [← hf, List.drop_eq_nil_of_le (by omega)]; simp
theorem contg_v (fn : FuncId) (hfn : okFn Tryz.prog fn = true) (e : CV) (pr : Cel → Bool) (v : Value) (l : List (Value × Cel)) (hl : l.length ≤ 1000000) (hp : ∀ w c, (w, c) ∈ l → ACalls Tryz.prog fn [celA w c, .c e] [] fun u H => u = .c (B (pr c)) ∧ H = []) : ACalls Tryz.prog 68 [.c (.r v (cR l)), .f (.func fn) [.c e]] [] fun u H => u = .c (B (l.any fun p => pr p.2)) ∧ H = [] := by
 refine acalls_of (N := 9) Tryz.func68 rfl rfl (by simp) fun E hE => ?_
 repeat' (first
  | (with_reducible refine aw_seq ?_) | (with_reducible refine aseq_n ?_) | (with_reducible refine aseq_r ?_) | (with_reducible refine ablk_n ?_) | (with_reducible refine ablk_r ?_) | (with_reducible refine ablk_e ?_) | (with_reducible refine ablk_o rfl ?_) | (with_reducible refine aseq_e ?_) | (with_reducible refine aw_skip ?_) | (with_reducible refine aw_block ?_) | (with_reducible refine aw_ret ?_) | (with_reducible refine aw_exit ?_)
  | refine aw_cond_t rfl ?_ | refine aw_cond_f rfl ?_ | refine aw_if_t rfl (by assumption) ?_ | refine aw_if_f rfl (by assumption) ?_ | refine aw_if rfl (fun _ => ?_) (fun _ => ?_) | refine aw_cond rfl (fun _ => ?_) (fun _ => ?_)
  | (refine aw_region (id := 1) ?_
     refine WO ?_
     refine al_ef rfl (ef_call0 false (fun _ => idxg_v fn hfn e pr v l hl hp) rfl .fn rfl (by decide) (by kernel_rfl) rfl (fun _ => C0 rfl) (by simp)) ?_
     rintro _ _ ⟨_, _, _, ⟨r, rfl, rfl, hr⟩, hF, hH⟩
     (refine NST hF hH ?_; clear hF hH; rintro rfl rfl)
     refine WE ?_)
  | (refine aw_region ?_; refine WE ?_))
 exact aret_1 [] _ rfl rfl rfl (by decide) (ZNK rfl) (fun _ => .nil) ⟨congrArg (fun z => AV.c (B z)) (by rw [Bool.eq_iff_iff, ← hr]; simp), rfl⟩
theorem sst1_v (w v pv : Value) (c : Cel) (v0 : Value) (c0 : Cel) (l : List (Value × Cel)) : ACalls Tryz.prog 170 [celA w c, .c (.p pv [.r v (cR ((v0, c0) :: l))])] [] fun u H => u = .c (B (!decide (c.st = c0.st))) ∧ H = [] := by
 obtain ⟨st, x, y, rows⟩ := c
 have hrow : (cR ((v0, c0) :: l))[0]? = some (celR v0 c0) := rfl
 refine acalls_of (N := 11) Tryz.func170 rfl rfl (by simp) fun E hE => ?_
 repeat' (first
  | (with_reducible refine aw_seq ?_) | (with_reducible refine aseq_n ?_) | (with_reducible refine aseq_r ?_) | (with_reducible refine ablk_n ?_) | (with_reducible refine ablk_r ?_) | (with_reducible refine ablk_e ?_) | (with_reducible refine ablk_o rfl ?_) | (with_reducible refine aseq_e ?_) | (with_reducible refine aw_skip ?_) | (with_reducible refine aw_block ?_) | (with_reducible refine aw_ret ?_) | (with_reducible refine aw_exit ?_)
  | refine aw_cond_t rfl ?_ | refine aw_cond_f rfl ?_ | refine aw_if_t rfl (by assumption) ?_ | refine aw_if_f rfl (by assumption) ?_ | refine aw_if rfl (fun _ => ?_) (fun _ => ?_) | refine aw_cond rfl (fun _ => ?_) (fun _ => ?_)
  | (refine aw_regionT (id := 1) [(0, none), (1, none), (2, none), (3, none), (4, none), (5, none), (6, none), (7, none)] hMixed (by kernel_rfl) ?_
     iterate 2 refine WX2 ?_
     refine ZT rfl (rd_ldcp rfl (by kernel_rfl) rfl rfl) ?_
     refine WQ ?_)
  | (refine aw_region ?_; refine WE ?_))
 exact aret_1 [] _ rfl rfl rfl (by decide) (ZNK rfl) (fun _ => .nil) ⟨congrArg (fun z => AV.c (B z)) (by simp), rfl⟩
def sameB (l : List Cel) : Bool := !(l.any fun c => !decide (c.st = (l.headD ⟨0, 0, 0, []⟩).st))
theorem samestep_v (v v0 : Value) (c0 : Cel) (l : List (Value × Cel)) (hl : ((v0, c0) :: l).length ≤ 1000000) : ACalls Tryz.prog 109 [.c (.r v (cR ((v0, c0) :: l)))] [] fun u H => u = .c (B (sameB (((v0, c0) :: l).map Prod.snd))) ∧ H = [] := by
 have hb : sameB (((v0, c0) :: l).map Prod.snd) = !(((v0, c0) :: l).any fun p => !decide (p.2.st = c0.st)) := by
  unfold sameB
  rw [List.any_map]
  rfl
 rw [hb]
 refine acalls_of (N := 7) Tryz.func109 rfl rfl (by simp) fun E hE => ?_
 refine WA ?_
 refine aw_wk (wk_of (K := fun F H => ∃ pv, F = [(1, .c (.p pv [.r v (cR ((v0, c0) :: l))]))] ∧ H = []) [] (fun g => [(1, .c (.p (g (.p 0 0 0)) [.r v (cR ((v0, c0) :: l))]))]) (fun _ => []) (by decide) (ZNL hE) (fun _ => .cons rfl (frzpL rfl rfl (.cons (.c rfl) .nil)) .nil) ZCH (fun _ => ⟨_, rfl, rfl⟩)) ?_
 rintro F H ⟨pv, rfl, rfl⟩
 refine ZR ?_
 refine ZA (rd_ldcp rfl (by kernel_rfl) rfl rfl) ?_
 refine WO ?_
 refine al_ef rfl (ef_call0 false (fun _ => contg_v 170 (by kernel_rfl) (.p pv [.r v (cR ((v0, c0) :: l))]) (fun c => !decide (c.st = c0.st)) v ((v0, c0) :: l) hl (fun w c _ => sst1_v w v pv c v0 c0 l)) rfl .fn rfl (by decide) (by kernel_rfl) rfl (fun _ => C0 rfl) (by simp)) ?_
 rintro _ _ ⟨_, _, _, ⟨rfl, rfl⟩, hF, hH⟩
 (refine NST hF hH ?_; clear hF hH; rintro rfl rfl)
 refine WE ?_
 exact aret_1 [] _ rfl rfl rfl (by decide) (ZNK rfl) (fun _ => .nil) ⟨rfl, rfl⟩
end Go.Proofs.YtniolldgidgffaaGreatDoor

/- Whole, by value: the walk over one part's cells. -/
-- NEWM
namespace Go.Proofs.YtniolldgidgffaaGreatDoor
open Go Go.RowKit
set_option maxRecDepth 100000
theorem keyPnte (a b c d : Int) (w : World) : (Op.equal 82 (.agg #[.int .i64 a, .int .i64 b]) (.agg #[.int .i64 c, .int .i64 d])).run Tryz.prog w = .ok (a == c && b == d) w := by
 have u3 := Tryz.underlying3
 have a3 := Tryz.isAgg3
 have z3 := Tryz.sizeOf3
 have hS : Tryz.prog.underlying 82 = some (.struct (Tryz.prog.fieldsOf 82)) := by kernel_rfl
 have hp : Tryz.prog.stoodInHeld 82 = false := by kernel_rfl
 unfold Op.equal Op.maxDepth
 rw [show (10000 : Nat) = 9999 + 1 from rfl, run_equalIn_agg w 9999 82 _ _ hS hp]
 simp only [Program.fieldsOf, Tryz.underlying82]
 go_simp
 by_cases h1 : a = c <;> by_cases h2 : b = d <;> simp [h1, h2]
theorem keyPntc (em : Bool) (a b : Int) (w : World) : (Instr.checkKey em 10000 82 (.agg #[.int .i64 a, .int .i64 b])).run Tryz.prog w = .ok () w := by
 have u3 := Tryz.underlying3
 have a3 := Tryz.isAgg3
 have z3 := Tryz.sizeOf3
 have hc := chkJ em
 rw [show (10000 : Nat) = 9999 + 1 from rfl, Instr.checkKey]
 simp only [Sem.run_bind, mp_under Tryz.underlying82, Result.andThen_ok]
 go_simp
theorem keyPt : KeyOk Tryz.prog 82 encP := by
 refine .ask Tryz.underlying82 (fun _ _ => rfl) (fun a b w => ?_) (fun b a w => keyPntc _ _ _ w) (fun a => ?_)
 ·simp only [encP]
  rw [keyPnte]
  congr 1
  rw [Bool.eq_iff_iff]
  obtain ⟨a1, a2⟩ := a
  obtain ⟨b1, b2⟩ := b
  simp
 ·simp [encP, Instr.sameBits]
def dupT : Bool → List Spot → List Spot → Bool
 | tw, _, [] => tw
 | tw, S, p :: L => dupT (tw || decide (p ∈ S)) (S ++ [p]) L
theorem dupT_app : ∀ {L M S : List Spot} {tw : Bool}, dupT tw S (L ++ M) = dupT (dupT tw S L) (S ++ L) M
 | [], M, S, tw => by simp [dupT]
 | p :: L, M, S, tw => by rw [List.cons_append, dupT, dupT, dupT_app]; simp
theorem dupT_snoc {L S : List Spot} {tw : Bool} {p : Spot} : dupT tw S (L ++ [p]) = (dupT tw S L || decide (p ∈ S ++ L)) := by rw [dupT_app]; rfl
theorem dupT_true : ∀ {L S : List Spot}, dupT true S L = true
 | [], _ => rfl
 | p :: L, S => by rw [dupT, Bool.true_or]; exact dupT_true
theorem whole1_v (es : SE) (ck : Nat) (L : List Spot) (hok : SetOk es ck L) (tw : Bool) (x y : Int) : ACalls Tryz.prog 110 [.c (I x), .c (I y), .p 0 0 0, .p 1 0 0] [.box [.c (B tw)], .box [.mp 2], mpO encP encT es ck] fun u H => u = .t [] ∧ H = [.box [.c (B (tw || decide ((x, y) ∈ L)))], .box [.mp 2], mpO encP encT (mset ck (x, y) true es) (mclk ck (x, y) es)] := by
 refine acalls_of (N := 18) Tryz.func110 rfl rfl (by simp) fun E hE => ?_
 cases tw with
 | true =>
  refine WA ?_
  refine WA ?_
  refine ZR ?_
  iterate 2 refine WX1 ?_
  refine al_ef rfl (ef_mapset (ke := encP) (ve := encT) (k := (x, y)) (z := true) (l := es) (ck := ck) keyPt rfl rfl Tryz.underlying160 rfl rfl rfl (fun ρ H => by simp [AV.den, AV.denL, CV.den, encP]) rfl (fun ρ H => rfl)) ?_
  rintro _ _ ⟨rfl, rfl⟩
  refine WE ?_
  exact aret_0 [some 0, some 1, some 2] (fun _ => [.box [.c (B true)], .box [.mp 2], mpO encP encT (mset ck (x, y) true es) (mclk ck (x, y) es)]) (.inr rfl) rfl (by decide) (ZNK rfl) ZCH (fun _ => ⟨rfl, by rw [Bool.true_or]⟩)
 | false =>
  refine WA ?_
  refine ZR ?_
  iterate 4 refine WX1 ?_
  first | refine ZP (rd_lookP (l := es) hok keyPt rfl Tryz.underlying160 (by kernel_rfl) rfl rfl rfl) ?_ | refine ZS ?_
  refine WE ?_
  refine ZR ?_
  iterate 2 refine WX1 ?_
  refine al_ef rfl (ef_mapset (ke := encP) (ve := encT) (k := (x, y)) (z := true) (l := es) (ck := ck) keyPt rfl rfl Tryz.underlying160 rfl rfl rfl (fun ρ H => by simp [AV.den, AV.denL, CV.den, encP]) rfl (fun ρ H => rfl)) ?_
  rintro _ _ ⟨rfl, rfl⟩
  refine WE ?_
  exact aret_0 [some 0, some 1, some 2] (fun _ => [.box [.c (B (decide ((x, y) ∈ L)))], .box [.mp 2], mpO encP encT (mset ck (x, y) true es) (mclk ck (x, y) es)]) (.inr rfl) rfl (by decide) (ZNK rfl) ZCH (fun _ => ⟨rfl, by rw [Bool.false_or]⟩)
set_option maxHeartbeats 2000000 in
theorem each_whole (g : Grd) (pv v : Value) (hg : GOk g) (es0 : SE) (ck0 : Nat) (S : List Spot) (hok0 : SetOk es0 ck0 S) (tw : Bool) : ACalls Tryz.prog 95 [gV pv v g, .f (.func 110) [.p 0 0 0, .p 1 0 0]] [.box [.c (B tw)], .box [.mp 2], mpO encP encT es0 ck0] fun u H => ∃ es' ck', SetOk es' ck' (S ++ covG g) ∧ u = .t [] ∧ H = [.box [.c (B (dupT tw S (covG g)))], .box [.mp 2], mpO encP encT es' ck'] := by
 have hn := hg.n
 have hgx := hg.x
 have hgy := hg.y
 have eo : (oR g.on).length = g.on.length := by simp
 refine acalls_of (N := 42) Tryz.func95 rfl rfl (by simp) fun E hE => ?_
 refine WA ?_
 refine aw_loopw (fun m F H => ∃ (k : Nat) (es : SE) (ck : Nat), m + k = g.on.length ∧ SetOk es ck (S ++ covK g k) ∧ F = [(0, gV pv v g), (1, .f (.func 110) [.p 0 0 0, .p 1 0 0]), (9, .c (.r v (oR g.on))), (10, .c (I (oR g.on).length)), (11, .c (I k))] ∧ H = [.box [.c (B (dupT tw S (covK g k)))], .box [.mp 2], mpO encP encT es ck]) ?_ ?_
 ·refine wk_of [some 0, some 1, some 2] (fun _ => [(0, gV pv v g), (1, .f (.func 110) [.p 0 0 0, .p 1 0 0]), (9, .c (.r v (oR g.on))), (10, .c (I (oR g.on).length)), (11, .c (I (0 : Nat)))]) (fun _ => [.box [.c (B tw)], .box [.mp 2], mpO encP encT es0 ck0]) (by decide) (ZNL hE) ZCF ZCH (fun _ => ?_)
  exact ⟨g.on.length, 0, es0, ck0, by omega, by rw [show covK g 0 = [] from rfl, List.append_nil]; exact hok0, rfl, rfl⟩
 rintro m F H ⟨k, es, ck, hk, hok, rfl, rfl⟩
 refine WA ?_
 refine aw_if rfl (fun hlt => ?_) (fun hge => ?_)
 ·have hkn : k < g.on.length := by omega
  obtain ⟨b, hb⟩ : ∃ b, g.on[k]? = some b := ⟨_, List.getElem?_eq_getElem hkn⟩
  have hrow : (oR g.on)[k]? = some [B b] := by rw [List.getElem?_map, hb]; rfl
  obtain ⟨w1, ⟨w2, w3⟩, w4, w5⟩ := each_at hg hkn
  have hnx := covK_next hb
  have hdn : dupT tw S (covK g (k + 1)) = if b = true then (dupT tw S (covK g k) || decide (spt g k ∈ S ++ covK g k)) else dupT tw S (covK g k) := by
   rw [hnx]
   cases b with
   | true => rw [if_pos rfl, if_pos rfl, dupT_snoc]
   | false => rw [if_neg (by simp), if_neg (by simp), List.append_nil]
  generalize htw : dupT tw S (covK g k) = tw1 at *
  refine WA ?_
  refine WA ?_
  cases b with
  | true =>
   rw [if_pos rfl] at hdn hnx
   rw [← spt_eq] at hdn hnx
   have hset := hok.set (g.x + (k : Int) % (g.w : Int), g.y + (k : Int) / (g.w : Int))
   rw [List.append_assoc, ← hnx] at hset
   refine aw_cond_t rfl ?_
   refine ZZ ?_
   refine aw_regionT [(0, none), (1, none), (2, none), (3, none), (4, none), (5, none), (6, none), (7, none), (8, none), (9, none), (10, none), (11, none), (12, none), (13, none), (14, none), (15, none), (16, none), (17, none), (18, none), (19, none), (20, none), (21, none), (22, none), (23, some [])] hMixed (by kernel_rfl) ?_
   refine WP ?_
   refine at_ef rfl rfl (ef_call [0, 1, 2] (fun _ => [.box [.c (B tw1)], .box [.mp 2], mpO encP encT es ck]) false (fun _ => whole1_v es ck _ hok tw1 (g.x + (k : Int) % (g.w : Int)) (g.y + (k : Int) / (g.w : Int))) rfl (.clo rfl) rfl (by decide) (by kernel_rfl) rfl ZCH (by decide) ZCH (by simp)) ?_
   rintro F1 H1 ⟨_, _, _, _, ⟨rfl, rfl⟩, hF, hH⟩
   (refine NSU hF hH ?_; clear hF hH; rintro rfl rfl)
   refine ⟨ag_none, ?_⟩
   refine WQ ?_
   refine WA ?_
   refine wk_of [some 0, some 1, some 2] (fun _ => [(0, gV pv v g), (1, .f (.func 110) [.p 0 0 0, .p 1 0 0]), (9, .c (.r v (oR g.on))), (10, .c (I (oR g.on).length)), (11, .c (I (k + 1 : Nat)))]) (fun _ => [.box [.c (B (tw1 || decide ((g.x + (k : Int) % (g.w : Int), g.y + (k : Int) / (g.w : Int)) ∈ S ++ covK g k)))], .box [.mp 2], mpO encP encT (mset ck (g.x + (k : Int) % (g.w : Int), g.y + (k : Int) / (g.w : Int)) true es) (mclk ck (g.x + (k : Int) % (g.w : Int), g.y + (k : Int) / (g.w : Int)) es)]) (by decide) (ZNL hE) ZCF ZCH (fun _ => ?_)
   exact ⟨m - 1, by omega, k + 1, _, _, by omega, hset, rfl, by rw [hdn]⟩
  | false =>
   rw [if_neg (by simp)] at hdn hnx
   rw [List.append_nil] at hnx
   refine aw_cond_f rfl ?_
   refine ZZ ?_
   refine WA ?_
   refine wk_of [some 0, some 1, some 2] (fun _ => [(0, gV pv v g), (1, .f (.func 110) [.p 0 0 0, .p 1 0 0]), (9, .c (.r v (oR g.on))), (10, .c (I (oR g.on).length)), (11, .c (I (k + 1 : Nat)))]) (fun _ => [.box [.c (B tw1)], .box [.mp 2], mpO encP encT es ck]) (by decide) (ZNL hE) ZCF ZCH (fun _ => ?_)
   exact ⟨m - 1, by omega, k + 1, es, ck, by omega, by rw [hnx]; exact hok, rfl, by rw [hdn]⟩
 obtain rfl : k = g.on.length := by omega
 rw [show covK g g.on.length = covG g from rfl] at *
 refine ZZ ?_
 exact aret_0 [some 0, some 1, some 2] (fun _ => [.box [.c (B (dupT tw S (covG g)))], .box [.mp 2], mpO encP encT es ck]) (.inr rfl) rfl (by decide) (ZNK rfl) ZCH (fun _ => ⟨es, ck, hok, rfl, rfl⟩)
end Go.Proofs.YtniolldgidgffaaGreatDoor
