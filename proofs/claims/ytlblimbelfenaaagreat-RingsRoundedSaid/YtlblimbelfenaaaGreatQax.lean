/- Cuts: the program's and the reference's, by value; planes of the stream. -/
import Derived.Test.YtlblimbelfenaaaGreatQao
import Derived.Test.YtlblimbelfenaaaGreatQat
import Derived.Test.YtlblimbelfenaaaGreatQaw
import Derived.Test.YtlblimbelfenaaaGreatQav
import Derived.Test.YtlblimbelfenaaaGreatQar
set_option linter.unusedSimpArgs false
set_option linter.unusedVariables false
/- cmp.Compare of numbers, by value. -/
namespace Go.Proofs.YtlblimbelfenaaaGreat
open Go Go.RowKit
set_option maxRecDepth 100000
def cmpI (m n : Int) : Int := if m < n then -1 else if n < m then 1 else 0
theorem nanI_v (n : Int) : ACalls Tryz.prog 150 [.c (I n)] [] fun u H => u = .c (B false) ∧ H = [] := by
 have hn : ¬ n ≠ n := fun h => h rfl
 refine acalls_of (N := 6) Tryz.func150 rfl rfl (by simp) fun E hE => ?_
 repeat' (first
  | (with_reducible refine aw_seq ?_) | (with_reducible refine aseq_n ?_) | (with_reducible refine aseq_r ?_) | (with_reducible refine ablk_n ?_) | (with_reducible refine ablk_r ?_) | (with_reducible refine ablk_e ?_) | (with_reducible refine ablk_o rfl ?_) | (with_reducible refine aseq_e ?_) | (with_reducible refine aw_skip ?_) | (with_reducible refine aw_block ?_) | (with_reducible refine aw_ret ?_) | (with_reducible refine aw_exit ?_)
  | refine aw_cond_t rfl ?_ | refine aw_cond_f rfl ?_ | refine aw_if_t rfl (by assumption) ?_ | refine aw_if_f rfl (by assumption) ?_ | refine aw_if rfl (fun _ => ?_) (fun _ => ?_) | refine aw_cond rfl (fun _ => ?_) (fun _ => ?_)
  | (refine aw_region ?_; refine WE ?_))
 exact aret_1 [] _ rfl rfl rfl (by decide) (ZNK rfl) (fun _ => .nil) ⟨by simp, rfl⟩
theorem cmpI_v (m n : Int) : ACalls Tryz.prog 110 [.c (I m), .c (I n)] [] fun u H => u = .c (I (cmpI m n)) ∧ H = [] := by
 refine acalls_of (N := 20) Tryz.func110 rfl rfl (by simp) fun E hE => ?_
 repeat' (first
  | (with_reducible refine aw_seq ?_) | (with_reducible refine aseq_n ?_) | (with_reducible refine aseq_r ?_) | (with_reducible refine ablk_n ?_) | (with_reducible refine ablk_r ?_) | (with_reducible refine ablk_e ?_) | (with_reducible refine ablk_o rfl ?_) | (with_reducible refine aseq_e ?_) | (with_reducible refine aw_skip ?_) | (with_reducible refine aw_block ?_) | (with_reducible refine aw_ret ?_) | (with_reducible refine aw_exit ?_)
  | refine aw_cond_t rfl ?_ | refine aw_cond_f rfl ?_ | refine aw_if_t rfl (by assumption) ?_ | refine aw_if_f rfl (by assumption) ?_ | refine aw_if rfl (fun _ => ?_) (fun _ => ?_) | refine aw_cond rfl (fun _ => ?_) (fun _ => ?_)
  | (refine aw_region (id := 1) ?_
     refine WO ?_
     refine al_ef rfl (ef_call0 false (fun _ => nanI_v _) rfl .fn rfl (by decide) (by kernel_rfl) rfl (fun _g => .cons (.c rfl) .nil) (by simp)) ?_
     rintro _ _ ⟨_, _, _, ⟨rfl, rfl⟩, hF, hH⟩
     (refine NST hF hH ?_; clear hF hH; rintro rfl rfl)
     refine WE ?_)
  | (refine aw_region (id := 2) ?_
     refine WO ?_
     refine al_ef rfl (ef_call0 false (fun _ => nanI_v _) rfl .fn rfl (by decide) (by kernel_rfl) rfl (fun _g => .cons (.c rfl) .nil) (by simp)) ?_
     rintro _ _ ⟨_, _, _, ⟨rfl, rfl⟩, hF, hH⟩
     (refine NST hF hH ?_; clear hF hH; rintro rfl rfl)
     refine WE ?_)
  | (refine aw_region ?_; refine WE ?_))
 all_goals (refine aret_1 [] _ rfl rfl rfl (by decide) (ZNK rfl) (fun _ => .nil) ⟨?_, rfl⟩)
 all_goals (unfold cmpI; first | rw [if_pos (by omega)] | rw [if_neg (by omega), if_pos (by omega)] | rw [if_neg (by omega), if_neg (by omega)])
end Go.Proofs.YtlblimbelfenaaaGreat

/- Adaptive tops: the program's, by value. -/
-- NEWM
namespace Go.Proofs.YtlblimbelfenaaaGreat
open Go Go.RowKit
set_option maxRecDepth 100000
end Go.Proofs.YtlblimbelfenaaaGreat

/- Faults of what Adaptive is asked, by value. -/
-- NEWM
namespace Go.Proofs.YtlblimbelfenaaaGreat
open Go Go.RowKit
set_option maxRecDepth 100000
theorem fst0_drop {l : List Int} {k : Nat} {n : Int} (h : l[k]? = some n) : fst0 (l.drop k) = if n = 0 then fst0 (l.drop (k + 1)) else n := by
 obtain ⟨h1, h2⟩ := List.getElem?_eq_some_iff.1 h
 rw [List.drop_eq_getElem_cons h1, h2]; rfl
theorem first_v (l : List Int) (v : Value) (hl : l.length ≤ 1000000) : ACalls Tryz.prog 104 [.c (.r v (zR l))] [] fun u H => u = .c (I (fst0 l)) ∧ H = [] := by
 have e1 : (zR l).length = l.length := by simp
 refine acalls_of (N := 15) Tryz.func104 rfl rfl (by simp) fun E hE => ?_
 refine WA ?_
 refine WA ?_
 refine aw_loopw (fun m F H => ∃ (k : Nat), m + k = l.length ∧ fst0 (l.drop k) = fst0 l ∧ F = [(5, .c (.r v (zR l))), (6, .c (I (zR l).length)), (7, .c (I k))] ∧ H = []) ?_ ?_
 ·refine wk_of [] (fun _ => [(5, .c (.r v (zR l))), (6, .c (I (zR l).length)), (7, .c (I (0 : Nat)))]) (fun _ => _) (by decide) (ZNL hE) ZCF (fun _ => .nil) (fun _ => ?_)
  exact ⟨l.length, 0, by omega, rfl, rfl, rfl⟩
 rintro m F H ⟨k, hk, hf, rfl, rfl⟩
 refine WA ?_
 refine aw_if rfl (fun hlt => ?_) (fun hge => ?_)
 ·obtain ⟨n, hn⟩ : ∃ n, l[k]? = some n := ⟨_, List.getElem?_eq_getElem (by omega)⟩
  have hrow : (zR l)[k]? = some [I n] := by rw [List.getElem?_map, hn]; rfl
  have hd := fst0_drop hn
  refine WA ?_
  refine WA ?_
  refine aw_if rfl (fun hv => ?_) (fun hv => ?_)
  ·refine WA ?_
   exact aret_1 [] _ rfl rfl rfl (by decide) (ZNK rfl) (fun _ => .nil) ⟨by rw [← hf, hd, if_neg hv], rfl⟩
  ·refine WA ?_
   refine wk_of [] (fun _ => [(5, .c (.r v (zR l))), (6, .c (I (zR l).length)), (7, .c (I (k + 1 : Nat)))]) (fun _ => _) (by decide) (ZNL hE) ZCF (fun _ => .nil) (fun _ => ?_)
   exact ⟨m - 1, by omega, k + 1, by omega, by rw [← hf, hd, if_pos (by omega)], rfl, rfl⟩
 refine WA ?_
 exact aret_1 [] _ rfl rfl rfl (by decide) (ZNK rfl) (fun _ => .nil) ⟨by rw [← hf, List.drop_eq_nil_of_le (by omega)]; rfl, rfl⟩
theorem errs_v (l : List Int) (v : Value) (hl : l.length ≤ 1000000) : ACalls Tryz.prog 12 [.c (.r v (zR l))] [] fun u H => u = .c (I (fst0 l)) ∧ H = [] := by
 have e1 : (zR l).length = l.length := by simp
 refine acalls_of (N := 15) Tryz.func12 rfl rfl (by simp) fun E hE => ?_
 refine WA ?_
 refine WA ?_
 refine aw_loopw (fun m F H => ∃ (k : Nat), m + k = l.length ∧ fst0 (l.drop k) = fst0 l ∧ F = [(5, .c (.r v (zR l))), (6, .c (I (zR l).length)), (7, .c (I k))] ∧ H = []) ?_ ?_
 ·refine wk_of [] (fun _ => [(5, .c (.r v (zR l))), (6, .c (I (zR l).length)), (7, .c (I (0 : Nat)))]) (fun _ => _) (by decide) (ZNL hE) ZCF (fun _ => .nil) (fun _ => ?_)
  exact ⟨l.length, 0, by omega, rfl, rfl, rfl⟩
 rintro m F H ⟨k, hk, hf, rfl, rfl⟩
 refine WA ?_
 refine aw_if rfl (fun hlt => ?_) (fun hge => ?_)
 ·obtain ⟨n, hn⟩ : ∃ n, l[k]? = some n := ⟨_, List.getElem?_eq_getElem (by omega)⟩
  have hrow : (zR l)[k]? = some [I n] := by rw [List.getElem?_map, hn]; rfl
  have hd := fst0_drop hn
  refine WA ?_
  refine WA ?_
  refine aw_if rfl (fun hv => ?_) (fun hv => ?_)
  ·refine WA ?_
   exact aret_1 [] _ rfl rfl rfl (by decide) (ZNK rfl) (fun _ => .nil) ⟨by rw [← hf, hd, if_neg hv], rfl⟩
  ·refine WA ?_
   refine wk_of [] (fun _ => [(5, .c (.r v (zR l))), (6, .c (I (zR l).length)), (7, .c (I (k + 1 : Nat)))]) (fun _ => _) (by decide) (ZNL hE) ZCF (fun _ => .nil) (fun _ => ?_)
   exact ⟨m - 1, by omega, k + 1, by omega, by rw [← hf, hd, if_pos (by omega)], rfl, rfl⟩
 refine WA ?_
 exact aret_1 [] _ rfl rfl rfl (by decide) (ZNK rfl) (fun _ => .nil) ⟨by rw [← hf, List.drop_eq_nil_of_le (by omega)]; rfl, rfl⟩
end Go.Proofs.YtlblimbelfenaaaGreat

/- cmp.Or of numbers; the order of sides, by value. -/
-- NEWM
namespace Go.Proofs.YtlblimbelfenaaaGreat
open Go Go.RowKit
set_option maxRecDepth 100000
theorem orI_v (l : List Int) (v : Value) (hl : l.length ≤ 1000000) : ACalls Tryz.prog 109 [.c (.r v (zR l))] [] fun u H => u = .c (I (fst0 l)) ∧ H = [] := by
 have e1 : (zR l).length = l.length := by simp
 refine acalls_of (N := 18) Tryz.func109 rfl rfl (by simp) fun E hE => ?_
 refine WA ?_
 refine WA ?_
 refine WA ?_
 refine aw_loopw (fun m F H => ∃ (k : Nat), m + k = l.length ∧ fst0 (l.drop k) = fst0 l ∧ F = [(3, .c (I 0)), (6, .c (.r v (zR l))), (7, .c (I (zR l).length)), (8, .c (I k))] ∧ H = []) ?_ ?_
 ·refine wk_of [] (fun _ => [(3, .c (I 0)), (6, .c (.r v (zR l))), (7, .c (I (zR l).length)), (8, .c (I (0 : Nat)))]) (fun _ => _) (by decide) (ZNL hE) ZCF (fun _ => .nil) (fun _ => ?_)
  exact ⟨l.length, 0, by omega, rfl, rfl, rfl⟩
 rintro m F H ⟨k, hk, hf, rfl, rfl⟩
 refine WA ?_
 refine aw_if rfl (fun hlt => ?_) (fun hge => ?_)
 ·obtain ⟨n, hn⟩ : ∃ n, l[k]? = some n := ⟨_, List.getElem?_eq_getElem (by omega)⟩
  have hrow : (zR l)[k]? = some [I n] := by rw [List.getElem?_map, hn]; rfl
  have hd := fst0_drop hn
  refine WA ?_
  refine WA ?_
  refine aw_if rfl (fun hv => ?_) (fun hv => ?_)
  ·refine WA ?_
   exact aret_1 [] _ rfl rfl rfl (by decide) (ZNK rfl) (fun _ => .nil) ⟨by rw [← hf, hd, if_neg hv], rfl⟩
  ·refine WA ?_
   refine wk_of [] (fun _ => [(3, .c (I 0)), (6, .c (.r v (zR l))), (7, .c (I (zR l).length)), (8, .c (I (k + 1 : Nat)))]) (fun _ => _) (by decide) (ZNL hE) ZCF (fun _ => .nil) (fun _ => ?_)
   exact ⟨m - 1, by omega, k + 1, by omega, by rw [← hf, hd, if_pos (by omega)], rfl, rfl⟩
 refine WA ?_
 exact aret_1 [] _ rfl rfl rfl (by decide) (ZNK rfl) (fun _ => .nil) ⟨by rw [← hf, List.drop_eq_nil_of_le (by omega)]; rfl, rfl⟩
def sidC (a b : Sid2) : Int := fst0 [cmpI a.f b.f, cmpI a.t b.t]
theorem sidC_v (a b : Sid2) : ACalls Tryz.prog 108 [.a (a.row.map .c), .a (b.row.map .c)] [] fun u H => u = .c (I (sidC a b)) ∧ H = [] := by
 obtain ⟨af, at_⟩ := a
 obtain ⟨bf, bt⟩ := b
 refine acalls_of (N := 17) Tryz.func108 rfl rfl (by simp) fun E hE => ?_
 refine WA ?_
 refine ZZ ?_
 refine aw_regionT [(0, none), (1, none), (2, none), (3, none), (5, none), (6, none), (7, none), (8, none), (4, some [5, 6, 7, 8]), (9, some []), (10, some []), (11, some []), (12, none)] hMixed (by kernel_rfl) ?_
 refine WP ?_
 refine at_ef rfl rfl (ef_call0 false (fun _ => cmpI_v _ _) rfl .fn rfl (by decide) (by kernel_rfl) rfl (fun _g => .cons (.c rfl) (.cons (.c rfl) .nil)) (by simp)) ?_
 rintro _ _ ⟨_, _, _, ⟨rfl, rfl⟩, hF, hH⟩
 (refine NST hF hH ?_; clear hF hH; rintro rfl rfl)
 refine ⟨ag_cons (by first | exact ag_rd rfl rfl rfl (ZX (KF (t := 70) (f := 1) rfl rfl)) rfl) (ag_cons (by first | exact ag_rd rfl rfl rfl (ZL (KK (t := 3) rfl)) rfl) (ag_cons (by first | exact ag_rd rfl rfl rfl (ZX (KF (t := 70) (f := 1) rfl rfl)) rfl) (ag_cons (by first | exact ag_rd rfl rfl rfl (ZL (KK (t := 3) rfl)) rfl) (ag_none)))), ?_⟩
 refine at_ef rfl rfl (ef_call0 false (fun _ => cmpI_v _ _) rfl .fn rfl (by decide) (by kernel_rfl) rfl (fun _g => .cons (.c rfl) (.cons (.c rfl) .nil)) (by simp)) ?_
 rintro _ _ ⟨_, _, _, ⟨rfl, rfl⟩, hF, hH⟩
 (refine NST hF hH ?_; clear hF hH; rintro rfl rfl)
 refine ⟨ag_none, ?_⟩
 refine WP ?_
 refine at_ef rfl rfl (ef_call0 true (fun g => orI_v [cmpI af bf, cmpI at_ bt] (g (.o 2 0 2 2)) (by simp)) rfl .fn rfl (by decide) (by kernel_rfl) rfl (fun _ => .cons (.frz rfl rfl rfl rfl rfl) .nil) (fun _ _ _ _ ⟨hu, hH⟩ => by rw [hu, hH]; exact ⟨.c (.inl trivial), by simp⟩)) ?_
 rintro _ _ ⟨_, _, _, ⟨rfl, rfl⟩, hF, hH⟩
 (refine NST hF hH ?_; clear hF hH; rintro rfl rfl)
 refine ⟨ag_none, ?_⟩
 refine WQ ?_
 all_goals exact aret_1 [] _ rfl rfl rfl (by decide) (ZNK rfl) (fun _ => .nil) ⟨rfl, rfl⟩
end Go.Proofs.YtlblimbelfenaaaGreat

/- slices.SortFunc of sides: some order of the same. -/
namespace Go.Proofs.YtlblimbelfenaaaGreat
open Go Go.RowKit
set_option maxRecDepth 100000
def sidOf : List CV → Sid2
 | [.s (.int _ a), .s (.int _ b)] => ⟨a, b⟩
 | _ => ⟨0, 0⟩
theorem sidOf_row (s : Sid2) : sidOf s.row = s := rfl
theorem fst0_two (a b : Int) : fst0 [a, b] = if a = 0 then b else a := by
 simp only [fst0]; split <;> simp_all
theorem sidC_lt (a b : Sid2) : sidC a b < 0 ↔ (a.f < b.f ∨ (a.f = b.f ∧ a.t < b.t)) := by
 unfold sidC
 rw [fst0_two]
 unfold cmpI
 split <;> split <;> omega
theorem sortS_v (l : List Sid2) (c : Nat) (hl : l.length ≤ 1000000) : ACallsX true Tryz.prog 72 [.o 0 0 l.length c, .f (.func 108) []] [.arr 70 2 c (sR l)] fun u H => ∃ l' : List Sid2, l'.Perm l ∧ u = .t [] ∧ H = [.arr 70 2 c (sR l')] := by
 have h := acalls_sort sortSideL (k := 2) (fun w => Tryz.isAgg70 w) (fun w => Tryz.sizeOf70 w) (fun x => ∃ s : Sid2, x = s.row) (fun x y => sidC (sidOf x) (sidOf y)) (g := 108) (by kernel_rfl)
  (by rintro _ ⟨s, rfl⟩; rw [sidC_lt]; omega)
  (by rintro _ _ _ ⟨a, rfl⟩ ⟨b, rfl⟩ ⟨c, rfl⟩; simp only [sidC_lt, sidOf_row]; omega)
  (by rintro _ _ _ ⟨a, rfl⟩ ⟨b, rfl⟩ ⟨c, rfl⟩; simp only [sidC_lt, sidOf_row]; omega)
  (by rintro _ _ ⟨a, rfl⟩ ⟨b, rfl⟩; exact sidC_v a b)
  (sR l) (by intro r hr; obtain ⟨s, _, rfl⟩ := List.mem_map.1 hr; exact ⟨s, rfl⟩) (by simp; omega) (e := 70) (cap := c) (n := l.length) (c := c) (pn := true) (by simp)
 refine ACallsX.mono h fun u H => ?_
 rintro ⟨rows', rfl, rfl, hp, _⟩
 refine ⟨rows'.map sidOf, ?_, rfl, ?_⟩
 ·have h2 := hp.map sidOf
  rwa [List.map_map, show (sidOf ∘ Sid2.row) = id from funext fun s => rfl, List.map_id] at h2
 ·congr 2
  rw [sR, List.map_map]
  refine (List.map_id _).symm.trans (List.map_congr_left fun r hr => ?_)
  obtain ⟨s, _, rfl⟩ := List.mem_map.1 (hp.subset hr)
  rfl
end Go.Proofs.YtlblimbelfenaaaGreat

/- Faults of planes, orders of sides, planes of the stream, by value. -/
-- NEWM
namespace Go.Proofs.YtlblimbelfenaaaGreat
open Go Go.RowKit
set_option maxRecDepth 100000
theorem sfar_v (n : Int) : ACalls Tryz.prog 112 [.c (I n)] [] fun u H => u = .c (B (farI n)) ∧ H = [] := by
 refine acalls_of (N := 5) Tryz.func112 rfl rfl (by simp) fun E hE => ?_
 repeat' (first
  | (with_reducible refine aw_seq ?_) | (with_reducible refine aseq_n ?_) | (with_reducible refine aseq_r ?_) | (with_reducible refine ablk_n ?_) | (with_reducible refine ablk_r ?_) | (with_reducible refine ablk_e ?_) | (with_reducible refine ablk_o rfl ?_) | (with_reducible refine aseq_e ?_) | (with_reducible refine aw_skip ?_) | (with_reducible refine aw_block ?_) | (with_reducible refine aw_ret ?_) | (with_reducible refine aw_exit ?_)
  | refine aw_cond_t rfl ?_ | refine aw_cond_f rfl ?_ | refine aw_if_t rfl (by assumption) ?_ | refine aw_if_f rfl (by assumption) ?_ | refine aw_if rfl (fun _ => ?_) (fun _ => ?_) | refine aw_cond rfl (fun _ => ?_) (fun _ => ?_)
  | (refine aw_region (id := 1) ?_
     refine WO ?_
     refine al_ef rfl (ef_call0 false (fun _ => outside_v _ _ _) rfl .fn rfl (by decide) (by kernel_rfl) rfl (fun _g => .cons (.c rfl) (.cons (.c rfl) (.cons (.c rfl) .nil))) (by simp)) ?_
     rintro _ _ ⟨_, _, _, ⟨rfl, rfl⟩, hF, hH⟩
     (refine NST hF hH ?_; clear hF hH; rintro rfl rfl)
     refine WE ?_)
  | (refine aw_region ?_; refine WE ?_))
 refine aret_1 [] _ rfl rfl rfl (by decide) (ZNK rfl) (fun _ => .nil) ⟨rfl, rfl⟩
theorem anyG_drop {α : Type} (p : α → Bool) {l : List α} {k : Nat} {n : α} (h : l[k]? = some n) : (l.drop k).any p = (p n || (l.drop (k + 1)).any p) := by
 obtain ⟨h1, h2⟩ := List.getElem?_eq_some_iff.1 h
 rw [List.drop_eq_getElem_cons h1, h2, List.any_cons]
theorem idxFar_v (l : List Int) (v : Value) (hl : l.length ≤ 1000000) : ACalls Tryz.prog 151 [.c (.r v (zR l)), .f (.func 112) []] [] fun u H => ∃ r : Int, u = .c (I r) ∧ H = [] ∧ (0 ≤ r ↔ l.any farI = true) := by
 have e1 : (zR l).length = l.length := by simp
 refine acalls_of (N := 19) Tryz.func151 rfl rfl (by simp) fun E hE => ?_
 refine WA ?_
 refine WA ?_
 refine aw_loopw (fun m F H => ∃ (k : Nat), m + k = l.length ∧ (l.drop k).any farI = l.any farI ∧ F = [(0, .c (.r v (zR l))), (1, .f (.func 112) []), (7, .c (I (zR l).length)), (8, .c (I k))] ∧ H = []) ?_ ?_
 ·refine wk_of [] (fun _ => [(0, .c (.r v (zR l))), (1, .f (.func 112) []), (7, .c (I (zR l).length)), (8, .c (I (0 : Nat)))]) (fun _ => _) (by decide) (ZNL hE) ZCF (fun _ => .nil) (fun _ => ?_)
  exact ⟨l.length, 0, by omega, rfl, rfl, rfl⟩
 rintro m F H ⟨k, hk, hf, rfl, rfl⟩
 refine WA ?_
 refine aw_if rfl (fun hlt => ?_) (fun hge => ?_)
 ·obtain ⟨n, hn⟩ : ∃ n, l[k]? = some n := ⟨_, List.getElem?_eq_getElem (by omega)⟩
  have hrow : (zR l)[k]? = some [I n] := by rw [List.getElem?_map, hn]; rfl
  have hd := anyG_drop farI hn
  refine WA ?_
  refine WR ?_
  refine al_ef rfl (ef_call0 false (fun _ => sfar_v _) rfl (.clo rfl) rfl (by decide) (by kernel_rfl) rfl (fun _g => .cons (.c rfl) .nil) (by simp)) ?_
  rintro _ _ ⟨_, _, _, ⟨rfl, rfl⟩, hF, hH⟩
  (refine NST hF hH ?_; clear hF hH; rintro rfl rfl)
  refine WE ?_
  refine aw_cond rfl (fun hv => ?_) (fun hv => ?_)
  ·refine WA ?_
   refine aret_1 [] _ rfl rfl rfl (by decide) (ZNK rfl) (fun _ => .nil) ⟨_, rfl, rfl, ?_⟩
   rw [← hf, hd, hv]; simp
  ·refine ZZ ?_
   refine WA ?_
   refine wk_of [] (fun _ => [(0, .c (.r v (zR l))), (1, .f (.func 112) []), (7, .c (I (zR l).length)), (8, .c (I (k + 1 : Nat)))]) (fun _ => _) (by decide) (ZNL hE) ZCF (fun _ => .nil) (fun _ => ?_)
   exact ⟨m - 1, by omega, k + 1, by omega, by rw [← hf, hd, hv, Bool.false_or], rfl, rfl⟩
 refine WA ?_
 refine aret_1 [] _ rfl rfl rfl (by decide) (ZNK rfl) (fun _ => .nil) ⟨_, rfl, rfl, ?_⟩
 rw [← hf, List.drop_eq_nil_of_le (by omega)]; simp
theorem hasFar_v (l : List Int) (v : Value) (hl : l.length ≤ 1000000) : ACalls Tryz.prog 111 [.c (.r v (zR l)), .f (.func 112) []] [] fun u H => u = .c (B (l.any farI)) ∧ H = [] := by
 refine acalls_of (N := 9) Tryz.func111 rfl rfl (by simp) fun E hE => ?_
 refine WA ?_
 refine WR ?_
 refine al_ef rfl (ef_call0 false (fun _ => idxFar_v l v hl) rfl .fn rfl (by decide) (by kernel_rfl) rfl (fun _g => .cons (.c rfl) (.cons (.fL .nil) .nil)) (by simp)) ?_
 rintro _ _ ⟨_, _, _, ⟨r, rfl, rfl, hr⟩, hF, hH⟩
 (refine NST hF hH ?_; clear hF hH; rintro rfl rfl)
 refine WE ?_
 refine aret_1 [] _ rfl rfl rfl (by decide) (ZNK rfl) (fun _ => .nil) ⟨congrArg (fun z => AV.c (B z)) ?_, rfl⟩
 cases h : l.any farI
 ·rw [h] at hr; simp at hr ⊢; omega
 ·rw [h] at hr; simp at hr ⊢; omega
def plnF (l : List Int) : Int := if l.any farI = true then 1 else 0
def pltF (V : List Vec3) (Fs : List Fac3) (l : List Int) : Int := if mshF V Fs ≠ 0 then mshF V Fs else plnF l
theorem sfault_v (v w q : Value) (V : List Vec3) (Fs : List Fac3) (l : List Int) (hVl : V.length ≤ 1000000) (hFl : Fs.length ≤ 1000000) (hl : l.length ≤ 1000000) : ACalls Tryz.prog 55 [mshA v w V Fs, .c (.r q (zR l))] [] fun u H => u = .c (I (pltF V Fs l)) ∧ H = [] := by
 refine acalls_of (N := 13) Tryz.func55 rfl rfl (by simp) fun E hE => ?_
 refine WA ?_
 refine WR ?_
 refine al_ef rfl (ef_call0 false (fun _ => checkmesh_v v w V Fs (by omega) (by omega)) rfl .fn rfl (by decide) (by kernel_rfl) rfl (fun _ => C0 rfl) (by simp)) ?_
 rintro _ _ ⟨_, _, _, ⟨rfl, rfl⟩, hF, hH⟩
 (refine NST hF hH ?_; clear hF hH; rintro rfl rfl)
 refine WE ?_
 refine WA ?_
 refine aw_if rfl (fun h0 => ?_) (fun h0 => ?_)
 ·refine WA ?_
  exact aret_1 [] _ rfl rfl rfl (by decide) (ZNK rfl) (fun _ => .nil) ⟨by rw [pltF, if_pos h0], rfl⟩
 ·refine ZZ ?_
  refine WR ?_
  refine al_ef rfl (ef_call0 false (fun _ => hasFar_v l q hl) rfl .fn rfl (by decide) (by kernel_rfl) rfl (fun _g => .cons (.c rfl) (.cons (.fL .nil) .nil)) (by simp)) ?_
  rintro _ _ ⟨_, _, _, ⟨rfl, rfl⟩, hF, hH⟩
  (refine NST hF hH ?_; clear hF hH; rintro rfl rfl)
  refine WE ?_
  refine aw_cond rfl (fun hb => ?_) (fun hb => ?_)
  ·refine WA ?_
   exact aret_1 [] _ rfl rfl rfl (by decide) (ZNK rfl) (fun _ => .nil) ⟨by rw [pltF, if_neg h0, plnF, if_pos hb], rfl⟩
  ·refine WA ?_
   exact aret_1 [] _ rfl rfl rfl (by decide) (ZNK rfl) (fun _ => .nil) ⟨by rw [pltF, if_neg h0, plnF, if_neg (by rw [hb]; simp)], rfl⟩
theorem planef_v (l : List Int) (v : Value) (hl : l.length ≤ 1000000) : ACalls Tryz.prog 14 [.c (.r v (zR l))] [] fun u H => u = .c (I (plnF l)) ∧ H = [] := by
 have e1 : (zR l).length = l.length := by simp
 refine acalls_of (N := 18) Tryz.func14 rfl rfl (by simp) fun E hE => ?_
 refine WA ?_
 refine WA ?_
 refine aw_loopw (fun m F H => ∃ (k : Nat), m + k = l.length ∧ (l.drop k).any farI = l.any farI ∧ F = [(6, .c (.r v (zR l))), (7, .c (I (zR l).length)), (8, .c (I k))] ∧ H = []) ?_ ?_
 ·refine wk_of [] (fun _ => [(6, .c (.r v (zR l))), (7, .c (I (zR l).length)), (8, .c (I (0 : Nat)))]) (fun _ => _) (by decide) (ZNL hE) ZCF (fun _ => .nil) (fun _ => ?_)
  exact ⟨l.length, 0, by omega, rfl, rfl, rfl⟩
 rintro m F H ⟨k, hk, hf, rfl, rfl⟩
 refine WA ?_
 refine aw_if rfl (fun hlt => ?_) (fun hge => ?_)
 ·obtain ⟨n, hn⟩ : ∃ n, l[k]? = some n := ⟨_, List.getElem?_eq_getElem (by omega)⟩
  have hrow : (zR l)[k]? = some [I n] := by rw [List.getElem?_map, hn]; rfl
  have hd := anyG_drop farI hn
  have hsp : spnF n (-100000) 100000 = if farI n = true then 1 else 0 := rfl
  refine WA ?_
  refine WR ?_
  refine al_ef rfl (ef_call0 false (fun _ => span_v _ _ _) rfl .fn rfl (by decide) (by kernel_rfl) rfl (fun _g => .cons (.c rfl) (.cons (.c rfl) (.cons (.c rfl) .nil))) (by simp)) ?_
  rintro _ _ ⟨_, _, _, ⟨rfl, rfl⟩, hF, hH⟩
  (refine NST hF hH ?_; clear hF hH; rintro rfl rfl)
  refine WE ?_
  refine WA ?_
  refine aw_if rfl (fun hv => ?_) (fun hv => ?_)
  ·have hfn : farI n = true := by
    cases h : farI n with
    | true => rfl
    | false => rw [h] at hsp; exact absurd hsp hv
   refine WA ?_
   exact aret_1 [] _ rfl rfl rfl (by decide) (ZNK rfl) (fun _ => .nil) ⟨by rw [hsp, if_pos hfn, plnF, ← hf, hd, hfn, Bool.true_or, if_pos rfl], rfl⟩
  ·have hfn : farI n = false := by
    cases h : farI n with
    | false => rfl
    | true => rw [h] at hsp; exact absurd (by rw [hsp]; decide) hv
   refine WA ?_
   refine wk_of [] (fun _ => [(6, .c (.r v (zR l))), (7, .c (I (zR l).length)), (8, .c (I (k + 1 : Nat)))]) (fun _ => _) (by decide) (ZNL hE) ZCF (fun _ => .nil) (fun _ => ?_)
   exact ⟨m - 1, by omega, k + 1, by omega, by rw [← hf, hd, hfn, Bool.false_or], rfl, rfl⟩
 refine WA ?_
 exact aret_1 [] _ rfl rfl rfl (by decide) (ZNK rfl) (fun _ => .nil) ⟨by rw [plnF, ← hf, List.drop_eq_nil_of_le (by omega)]; rfl, rfl⟩
theorem cmpS_v (a b : Sid2) : ACalls Tryz.prog 73 [.a (a.row.map .c), .a (b.row.map .c)] [] fun u H => u = .c (I (sidC a b)) ∧ H = [] := by
 obtain ⟨af, at_⟩ := a
 obtain ⟨bf, bt⟩ := b
 refine acalls_of (N := 17) Tryz.func73 rfl rfl (by simp) fun E hE => ?_
 refine WA ?_
 refine ZZ ?_
 refine aw_regionT [(0, none), (1, none), (2, none), (3, none), (5, none), (6, none), (7, none), (8, none), (4, some [5, 6, 7, 8]), (9, some []), (10, some []), (11, some []), (12, none)] hMixed (by kernel_rfl) ?_
 refine WP ?_
 refine at_ef rfl rfl (ef_call0 false (fun _ => cmpI_v _ _) rfl .fn rfl (by decide) (by kernel_rfl) rfl (fun _g => .cons (.c rfl) (.cons (.c rfl) .nil)) (by simp)) ?_
 rintro _ _ ⟨_, _, _, ⟨rfl, rfl⟩, hF, hH⟩
 (refine NST hF hH ?_; clear hF hH; rintro rfl rfl)
 refine ⟨ag_cons (by first | exact ag_rd rfl rfl rfl (ZX (KF (t := 70) (f := 1) rfl rfl)) rfl) (ag_cons (by first | exact ag_rd rfl rfl rfl (ZL (KK (t := 3) rfl)) rfl) (ag_cons (by first | exact ag_rd rfl rfl rfl (ZX (KF (t := 70) (f := 1) rfl rfl)) rfl) (ag_cons (by first | exact ag_rd rfl rfl rfl (ZL (KK (t := 3) rfl)) rfl) (ag_none)))), ?_⟩
 refine at_ef rfl rfl (ef_call0 false (fun _ => cmpI_v _ _) rfl .fn rfl (by decide) (by kernel_rfl) rfl (fun _g => .cons (.c rfl) (.cons (.c rfl) .nil)) (by simp)) ?_
 rintro _ _ ⟨_, _, _, ⟨rfl, rfl⟩, hF, hH⟩
 (refine NST hF hH ?_; clear hF hH; rintro rfl rfl)
 refine ⟨ag_none, ?_⟩
 refine WP ?_
 refine at_ef rfl rfl (ef_call0 true (fun g => orI_v [cmpI af bf, cmpI at_ bt] (g (.o 2 0 2 2)) (by simp)) rfl .fn rfl (by decide) (by kernel_rfl) rfl (fun _ => .cons (.frz rfl rfl rfl rfl rfl) .nil) (fun _ _ _ _ ⟨hu, hH⟩ => by rw [hu, hH]; exact ⟨.c (.inl trivial), by simp⟩)) ?_
 rintro _ _ ⟨_, _, _, ⟨rfl, rfl⟩, hF, hH⟩
 (refine NST hF hH ?_; clear hF hH; rintro rfl rfl)
 refine ⟨ag_none, ?_⟩
 refine WQ ?_
 all_goals exact aret_1 [] _ rfl rfl rfl (by decide) (ZNK rfl) (fun _ => .nil) ⟨rfl, rfl⟩
theorem cmp2_v (v w : Value) (af at_ bf bt : Int) : ACalls Tryz.prog 133 [.c (.r v (zR [af, at_])), .c (.r w (zR [bf, bt]))] [] fun u H => u = .c (I (sidC ⟨af, at_⟩ ⟨bf, bt⟩)) ∧ H = [] := by
 have hs : sidC ⟨af, at_⟩ ⟨bf, bt⟩ = fst0 [cmpI af bf, cmpI at_ bt] := rfl
 rw [hs]
 refine acalls_of (N := 36) Tryz.func133 rfl rfl (by simp) fun E hE => ?_
 refine WA ?_
 refine WA ?_
 refine aw_loopw (fun m F H => ∃ (k : Nat), m + k = 2 ∧ (1 ≤ k → cmpI af bf = 0) ∧ (2 ≤ k → cmpI at_ bt = 0) ∧ F = [(0, .c (.r v (zR [af, at_]))), (1, .c (.r w (zR [bf, bt]))), (9, .c (.r v (zR [af, at_]))), (10, .c (I 2)), (11, .c (I k))] ∧ H = []) ?_ ?_
 ·refine wk_of [] (fun _ => [(0, .c (.r v (zR [af, at_]))), (1, .c (.r w (zR [bf, bt]))), (9, .c (.r v (zR [af, at_]))), (10, .c (I 2)), (11, .c (I (0 : Nat)))]) (fun _ => _) (by decide) (ZNL hE) ZCF (fun _ => .nil) (fun _ => ?_)
  exact ⟨2, 0, rfl, by omega, by omega, rfl, rfl⟩
 rintro m F H ⟨k, hk, h1, h2, rfl, rfl⟩
 refine WA ?_
 refine aw_if rfl (fun hlt => ?_) (fun hge => ?_)
 ·obtain ⟨x, hx⟩ : ∃ z, [af, at_][k]? = some z := ⟨_, List.getElem?_eq_getElem (by simp; omega)⟩
  obtain ⟨y, hy⟩ : ∃ z, [bf, bt][k]? = some z := ⟨_, List.getElem?_eq_getElem (by simp; omega)⟩
  have hrx : (zR [af, at_])[k]? = some [I x] := by rw [List.getElem?_map, hx]; rfl
  have hry : (zR [bf, bt])[k]? = some [I y] := by rw [List.getElem?_map, hy]; rfl
  have el : ((zR [bf, bt]).length : Int) = 2 := rfl
  refine WA ?_
  refine WA ?_
  refine aw_cond_f rfl ?_
  refine ZZ ?_
  refine WA ?_
  refine WR ?_
  refine al_ef rfl (ef_call0 false (fun _ => cmpI_v _ _) rfl .fn rfl (by decide) (by kernel_rfl) rfl (fun _g => .cons (.c rfl) (.cons (.c rfl) .nil)) (by simp)) ?_
  rintro _ _ ⟨_, _, _, ⟨rfl, rfl⟩, hF, hH⟩
  (refine NST hF hH ?_; clear hF hH; rintro rfl rfl)
  refine WE ?_
  refine WA ?_
  refine aw_if rfl (fun hv => ?_) (fun hv => ?_)
  ·refine WA ?_
   refine aret_1 [] _ rfl rfl rfl (by decide) (ZNK rfl) (fun _ => .nil) ⟨?_, rfl⟩
   have : k = 0 ∨ k = 1 := by omega
   rcases this with rfl | rfl
   ·simp at hx hy; subst hx; subst hy
    rw [fst0_two, if_neg hv]
   ·simp at hx hy; subst hx; subst hy
    rw [fst0_two, if_pos (h1 (by omega))]
  ·refine ZZ ?_
   refine WA ?_
   refine wk_of [] (fun _ => [(0, .c (.r v (zR [af, at_]))), (1, .c (.r w (zR [bf, bt]))), (9, .c (.r v (zR [af, at_]))), (10, .c (I 2)), (11, .c (I (k + 1 : Nat)))]) (fun _ => _) (by decide) (ZNL hE) ZCF (fun _ => .nil) (fun _ => ?_)
   refine ⟨m - 1, by omega, k + 1, by omega, fun _ => ?_, fun _ => ?_, rfl, rfl⟩
   ·by_cases hk0 : k = 0
    ·subst hk0; simp at hx hy; subst hx; subst hy; omega
    ·exact h1 (by omega)
   ·obtain rfl : k = 1 := by omega
    simp at hx hy; subst hx; subst hy; omega
 have hk2 : k = 2 := by omega
 have el1 : ((zR [af, at_]).length : Int) = 2 := rfl
 have el2 : ((zR [bf, bt]).length : Int) = 2 := rfl
 refine ZZ ?_
 refine WA ?_
 refine aw_cond_f rfl ?_
 refine WA ?_
 exact aret_1 [] _ rfl rfl rfl (by decide) (ZNK rfl) (fun _ => .nil) ⟨by rw [fst0_two, if_pos (h1 (by omega)), h2 (by omega)], rfl⟩
theorem rcmpS_v (a b : Sid2) : ACalls Tryz.prog 79 [.a (a.row.map .c), .a (b.row.map .c)] [] fun u H => u = .c (I (sidC a b)) ∧ H = [] := by
 obtain ⟨af, at_⟩ := a
 obtain ⟨bf, bt⟩ := b
 refine acalls_of (N := 16) Tryz.func79 rfl rfl (by simp) fun E hE => ?_
 refine WA ?_
 refine WR ?_
 refine al_ef rfl (ef_call0 true (fun g => cmp2_v (g (.o 2 0 2 2)) (g (.o 3 0 2 2)) af at_ bf bt) rfl .fn rfl (by decide) (by kernel_rfl) rfl (fun _ => .cons (.frz rfl rfl rfl rfl rfl) (.cons (.frz rfl rfl rfl rfl rfl) .nil)) (fun _ _ _ _ ⟨hu, hH⟩ => by rw [hu, hH]; exact ⟨.c (.inl trivial), by simp⟩)) ?_
 rintro _ _ ⟨_, _, _, ⟨rfl, rfl⟩, hF, hH⟩
 (refine NST hF hH ?_; clear hF hH; rintro rfl rfl)
 refine WE ?_
 all_goals exact aret_1 [] _ rfl rfl rfl (by decide) (ZNK rfl) (fun _ => .nil) ⟨rfl, rfl⟩
end Go.Proofs.YtlblimbelfenaaaGreat

/- slices.Compact of sides, by value. -/
-- NEWM
namespace Go.Proofs.YtlblimbelfenaaaGreat
open Go Go.RowKit
set_option maxRecDepth 100000
end Go.Proofs.YtlblimbelfenaaaGreat

/- Cuts: the program's and the reference's, by value; planes of the stream. -/
-- NEWM
namespace Go.Proofs.YtlblimbelfenaaaGreat
open Go Go.RowKit
set_option maxRecDepth 100000
theorem sortY_v (g : FuncId) (hg : okFn Tryz.prog g = true) (hc : ∀ a b : Sid2, ACalls Tryz.prog g [.a (a.row.map .c), .a (b.row.map .c)] [] fun u H => u = .c (I (sidC a b)) ∧ H = []) (l : List Sid2) (c : Nat) (hl : l.length ≤ 1000000) :
    ACallsX true Tryz.prog 72 [.o 0 0 l.length c, .f (.func g) []] [.arr 70 2 c (sR l)] fun u H => u = .t [] ∧ H = [.arr 70 2 c (sR (srtS l))] := by
 have h := acalls_sort sortSideL (k := 2) (fun w => Tryz.isAgg70 w) (fun w => Tryz.sizeOf70 w) (fun x => ∃ s : Sid2, x = s.row) (fun x y => sidC (sidOf x) (sidOf y)) (g := g) hg
  (by rintro _ ⟨s, rfl⟩; rw [sidC_lt]; omega)
  (by rintro _ _ _ ⟨a, rfl⟩ ⟨b, rfl⟩ ⟨c, rfl⟩; simp only [sidC_lt, sidOf_row]; omega)
  (by rintro _ _ _ ⟨a, rfl⟩ ⟨b, rfl⟩ ⟨c, rfl⟩; simp only [sidC_lt, sidOf_row]; omega)
  (by rintro _ _ ⟨a, rfl⟩ ⟨b, rfl⟩; exact hc a b)
  (sR l) (by intro r hr; obtain ⟨s, _, rfl⟩ := List.mem_map.1 hr; exact ⟨s, rfl⟩) (by simp; omega) (e := 70) (cap := c) (n := l.length) (c := c) (pn := true) (by simp)
 refine ACallsX.mono h fun u H => ?_
 rintro ⟨rows', rfl, rfl, hp, hs⟩
 have h2 := hp.map sidOf
 rw [sR, List.map_map, show (sidOf ∘ Sid2.row) = id from funext fun s => rfl, List.map_id] at h2
 have h3 : (rows'.map sidOf).Pairwise leS := by
  rw [List.pairwise_map]
  refine hs.imp fun {x y} h => ?_
  rw [sidC_lt] at h
  unfold leS
  omega
 have h4 := srtS_is h2 h3
 refine ⟨rfl, ?_⟩
 congr 2
 rw [← h4, sR, List.map_map]
 refine (List.map_id _).symm.trans (List.map_congr_left fun r hr => ?_)
 obtain ⟨s, _, rfl⟩ := List.mem_map.1 (hp.subset hr)
 rfl
theorem srtS_len (l : List Sid2) : (srtS l).length = l.length := (srtS_perm l).length_eq
theorem pltF_ok {V : List Vec3} {Fs : List Fac3} {z : Int} (h : pltF V Fs [z] = 0) : MOk V Fs ∧ (-100000 ≤ z ∧ z ≤ 100000) := by
 unfold pltF at h
 split at h
 ·contradiction
 ·rename_i h1
  refine ⟨mok_of (by omega), ?_⟩
  unfold plnF at h
  split at h
  ·cases h
  ·rename_i h2
   simp [farI] at h2
   omega
end Go.Proofs.YtlblimbelfenaaaGreat
