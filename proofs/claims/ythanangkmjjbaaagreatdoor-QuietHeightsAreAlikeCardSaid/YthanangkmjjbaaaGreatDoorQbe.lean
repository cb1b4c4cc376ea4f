/- Plain law: passes over sides, one by one. -/
import Derived.Test.YthanangkmjjbaaaGreatDoorQar
import Derived.Test.YthanangkmjjbaaaGreatDoorQbd
import Derived.Test.YthanangkmjjbaaaGreatDoorQbc
import Derived.Test.YthanangkmjjbaaaGreatDoorQbb
import Derived.Test.YthanangkmjjbaaaGreatDoorQau
set_option linter.unusedSimpArgs false
set_option linter.unusedVariables false
/- cmp.Compare of numbers, by value. -/
namespace Go.Proofs.YthanangkmjjbaaaGreatDoor
open Go Go.RowKit
set_option maxRecDepth 100000
def cmpI (m n : Int) : Int := if m < n then -1 else if n < m then 1 else 0
theorem nanI_v (n : Int) : ACalls Tryz.prog 123 [.c (I n)] [] fun u H => u = .c (B false) ∧ H = [] := by
  have hn : ¬ n ≠ n := fun h => h rfl
  refine acalls_of (N := 6) Tryz.func123 rfl rfl (by simp) fun E hE => ?_
  repeat' (first
    | (with_reducible refine aw_seq ?_) | (with_reducible refine aseq_n ?_) | (with_reducible refine aseq_r ?_) | (with_reducible refine ablk_n ?_) | (with_reducible refine ablk_r ?_) | (with_reducible refine ablk_e ?_) | (with_reducible refine ablk_o rfl ?_) | (with_reducible refine aseq_e ?_) | (with_reducible refine aw_skip ?_) | (with_reducible refine aw_block ?_) | (with_reducible refine aw_ret ?_) | (with_reducible refine aw_exit ?_)
    | refine aw_cond_t rfl ?_ | refine aw_cond_f rfl ?_ | refine aw_if_t rfl (by assumption) ?_ | refine aw_if_f rfl (by assumption) ?_ | refine aw_if rfl (fun _ => ?_) (fun _ => ?_) | refine aw_cond rfl (fun _ => ?_) (fun _ => ?_)
    | (refine aw_region ?_; refine WE ?_))
  exact aret_1 [] _ rfl rfl rfl (by decide) (ZNK rfl) (fun _ => .nil) ⟨by simp, rfl⟩
theorem cmpI_v (m n : Int) : ACalls Tryz.prog 90 [.c (I m), .c (I n)] [] fun u H => u = .c (I (cmpI m n)) ∧ H = [] := by
  refine acalls_of (N := 20) Tryz.func90 rfl rfl (by simp) fun E hE => ?_
  repeat' (first
    | (with_reducible refine aw_seq ?_) | (with_reducible refine aseq_n ?_) | (with_reducible refine aseq_r ?_) | (with_reducible refine ablk_n ?_) | (with_reducible refine ablk_r ?_) | (with_reducible refine ablk_e ?_) | (with_reducible refine ablk_o rfl ?_) | (with_reducible refine aseq_e ?_) | (with_reducible refine aw_skip ?_) | (with_reducible refine aw_block ?_) | (with_reducible refine aw_ret ?_) | (with_reducible refine aw_exit ?_)
    | refine aw_cond_t rfl ?_ | refine aw_cond_f rfl ?_ | refine aw_if_t rfl (by assumption) ?_ | refine aw_if_f rfl (by assumption) ?_ | refine aw_if rfl (fun _ => ?_) (fun _ => ?_) | refine aw_cond rfl (fun _ => ?_) (fun _ => ?_)
    | (refine aw_region (id := 1) ?_
       refine WO ?_
       refine al_ef rfl (ef_call0 false (fun _ => nanI_v _) rfl .fn rfl (by decide) (by kernel_rfl) rfl (fun _g => .cons (.c rfl) .nil) (by simp)) ?_
       rintro _ _ ⟨_, _, _, ⟨rfl, rfl⟩, hF, hH⟩
       (try simp only [nsl, Nat.reduceAdd, Nat.reduceLT, Nat.reduceSub] at hF); (try simp only [nsl, Nat.reduceAdd, Nat.reduceLT, Nat.reduceSub] at hH); subst hF; subst hH
       refine WE ?_)
    | (refine aw_region (id := 2) ?_
       refine WO ?_
       refine al_ef rfl (ef_call0 false (fun _ => nanI_v _) rfl .fn rfl (by decide) (by kernel_rfl) rfl (fun _g => .cons (.c rfl) .nil) (by simp)) ?_
       rintro _ _ ⟨_, _, _, ⟨rfl, rfl⟩, hF, hH⟩
       (try simp only [nsl, Nat.reduceAdd, Nat.reduceLT, Nat.reduceSub] at hF); (try simp only [nsl, Nat.reduceAdd, Nat.reduceLT, Nat.reduceSub] at hH); subst hF; subst hH
       refine WE ?_)
    | (refine aw_region ?_; refine WE ?_))
  all_goals (refine aret_1 [] _ rfl rfl rfl (by decide) (ZNK rfl) (fun _ => .nil) ⟨?_, rfl⟩)
  all_goals (unfold cmpI; first | rw [if_pos (by omega)] | rw [if_neg (by omega), if_pos (by omega)] | rw [if_neg (by omega), if_neg (by omega)])
end Go.Proofs.YthanangkmjjbaaaGreatDoor

/- Adaptive tops: the program's, by value. -/
-- NEWM
namespace Go.Proofs.YthanangkmjjbaaaGreatDoor
open Go Go.RowKit
set_option maxRecDepth 100000
end Go.Proofs.YthanangkmjjbaaaGreatDoor

/- Faults of what Adaptive is asked, by value. -/
-- NEWM
namespace Go.Proofs.YthanangkmjjbaaaGreatDoor
open Go Go.RowKit
set_option maxRecDepth 100000
theorem fst0_drop {l : List Int} {k : Nat} {n : Int} (h : l[k]? = some n) : fst0 (l.drop k) = if n = 0 then fst0 (l.drop (k + 1)) else n := by
  obtain ⟨h1, h2⟩ := List.getElem?_eq_some_iff.1 h
  rw [List.drop_eq_getElem_cons h1, h2]; rfl
end Go.Proofs.YthanangkmjjbaaaGreatDoor

/- cmp.Or of numbers; the order of sides, by value. -/
-- NEWM
namespace Go.Proofs.YthanangkmjjbaaaGreatDoor
open Go Go.RowKit
set_option maxRecDepth 100000
theorem orI_v (l : List Int) (v : Value) (hl : l.length ≤ 1000000) : ACalls Tryz.prog 89 [.c (.r v (zR l))] [] fun u H => u = .c (I (fst0 l)) ∧ H = [] := by
  have e1 : (zR l).length = l.length := by simp
  refine acalls_of (N := 18) Tryz.func89 rfl rfl (by simp) fun E hE => ?_
  refine WA ?_
  refine WA ?_
  refine WA ?_
  refine aw_loopw (fun m F H => ∃ (k : Nat), m + k = l.length ∧ fst0 (l.drop k) = fst0 l ∧ F = [(3, .c (I 0)), (6, .c (.r v (zR l))), (7, .c (I (zR l).length)), (8, .c (I k))] ∧ H = []) ?_ ?_
  · refine wk_of [] (fun _ => [(3, .c (I 0)), (6, .c (.r v (zR l))), (7, .c (I (zR l).length)), (8, .c (I (0 : Nat)))]) (fun _ => _) (by decide) (ZNL hE) ZCF (fun _ => .nil) (fun _ => ?_)
    exact ⟨l.length, 0, by omega, rfl, rfl, rfl⟩
  rintro m F H ⟨k, hk, hf, rfl, rfl⟩
  refine WA ?_
  refine aw_if rfl (fun hlt => ?_) (fun hge => ?_)
  · obtain ⟨n, hn⟩ : ∃ n, l[k]? = some n := ⟨_, List.getElem?_eq_getElem (by omega)⟩
    have hrow : (zR l)[k]? = some [I n] := by rw [List.getElem?_map, hn]; rfl
    have hd := fst0_drop hn
    refine WA ?_
    refine WA ?_
    refine aw_if rfl (fun hv => ?_) (fun hv => ?_)
    · refine WA ?_
      exact aret_1 [] _ rfl rfl rfl (by decide) (ZNK rfl) (fun _ => .nil) ⟨by rw [← hf, hd, if_neg hv], rfl⟩
    · refine WA ?_
      refine wk_of [] (fun _ => [(3, .c (I 0)), (6, .c (.r v (zR l))), (7, .c (I (zR l).length)), (8, .c (I (k + 1 : Nat)))]) (fun _ => _) (by decide) (ZNL hE) ZCF (fun _ => .nil) (fun _ => ?_)
      exact ⟨m - 1, by omega, k + 1, by omega, by rw [← hf, hd, if_pos (by omega)], rfl, rfl⟩
  refine WA ?_
  exact aret_1 [] _ rfl rfl rfl (by decide) (ZNK rfl) (fun _ => .nil) ⟨by rw [← hf, List.drop_eq_nil_of_le (by omega)]; rfl, rfl⟩
/-- The order of sides. -/
def sidC (a b : Sid2) : Int := fst0 [cmpI a.f b.f, cmpI a.t b.t]
end Go.Proofs.YthanangkmjjbaaaGreatDoor

/- slices.SortFunc of sides: some order of the same. -/
namespace Go.Proofs.YthanangkmjjbaaaGreatDoor
open Go Go.RowKit
set_option maxRecDepth 100000
def sidOf : List CV → Sid2
  | [.s (.int _ a), .s (.int _ b)] => ⟨a, b⟩
  | _ => ⟨0, 0⟩
theorem sidOf_row (s : Sid2) : sidOf s.row = s := rfl
theorem fst0_two (a b : Int) : fst0 [a, b] = if a = 0 then b else a := by
  simp only [fst0]; split <;> simp_all
theorem sidC_lt (a b : Sid2) : sidC a b < 0 ↔ (a.f < b.f ∨ (a.f = b.f ∧ a.t < b.t)) := by
  unfold sidC
  rw [fst0_two]
  unfold cmpI
  split <;> split <;> omega
end Go.Proofs.YthanangkmjjbaaaGreatDoor

/- Faults of planes, orders of sides, planes of the stream, by value. -/
-- NEWM
namespace Go.Proofs.YthanangkmjjbaaaGreatDoor
open Go Go.RowKit
set_option maxRecDepth 100000
theorem sfar_v (n : Int) : ACalls Tryz.prog 104 [.c (I n)] [] fun u H => u = .c (B (farI n)) ∧ H = [] := by
  refine acalls_of (N := 5) Tryz.func104 rfl rfl (by simp) fun E hE => ?_
  repeat' (first
    | (with_reducible refine aw_seq ?_) | (with_reducible refine aseq_n ?_) | (with_reducible refine aseq_r ?_) | (with_reducible refine ablk_n ?_) | (with_reducible refine ablk_r ?_) | (with_reducible refine ablk_e ?_) | (with_reducible refine ablk_o rfl ?_) | (with_reducible refine aseq_e ?_) | (with_reducible refine aw_skip ?_) | (with_reducible refine aw_block ?_) | (with_reducible refine aw_ret ?_) | (with_reducible refine aw_exit ?_)
    | refine aw_cond_t rfl ?_ | refine aw_cond_f rfl ?_ | refine aw_if_t rfl (by assumption) ?_ | refine aw_if_f rfl (by assumption) ?_ | refine aw_if rfl (fun _ => ?_) (fun _ => ?_) | refine aw_cond rfl (fun _ => ?_) (fun _ => ?_)
    | (refine aw_region (id := 1) ?_
       refine WO ?_
       refine al_ef rfl (ef_call0 false (fun _ => outside_v _ _ _) rfl .fn rfl (by decide) (by kernel_rfl) rfl (fun _g => .cons (.c rfl) (.cons (.c rfl) (.cons (.c rfl) .nil))) (by simp)) ?_
       rintro _ _ ⟨_, _, _, ⟨rfl, rfl⟩, hF, hH⟩
       (try simp only [nsl, Nat.reduceAdd, Nat.reduceLT, Nat.reduceSub] at hF); (try simp only [nsl, Nat.reduceAdd, Nat.reduceLT, Nat.reduceSub] at hH); subst hF; subst hH
       refine WE ?_)
    | (refine aw_region ?_; refine WE ?_))
  refine aret_1 [] _ rfl rfl rfl (by decide) (ZNK rfl) (fun _ => .nil) ⟨rfl, rfl⟩
theorem anyG_drop {α : Type} (p : α → Bool) {l : List α} {k : Nat} {n : α} (h : l[k]? = some n) : (l.drop k).any p = (p n || (l.drop (k + 1)).any p) := by
  obtain ⟨h1, h2⟩ := List.getElem?_eq_some_iff.1 h
  rw [List.drop_eq_getElem_cons h1, h2, List.any_cons]
theorem idxFar_v (l : List Int) (v : Value) (hl : l.length ≤ 1000000) : ACalls Tryz.prog 148 [.c (.r v (zR l)), .f (.func 104) []] [] fun u H => ∃ r : Int, u = .c (I r) ∧ H = [] ∧ (0 ≤ r ↔ l.any farI = true) := by
  have e1 : (zR l).length = l.length := by simp
  refine acalls_of (N := 19) Tryz.func148 rfl rfl (by simp) fun E hE => ?_
  refine WA ?_
  refine WA ?_
  refine aw_loopw (fun m F H => ∃ (k : Nat), m + k = l.length ∧ (l.drop k).any farI = l.any farI ∧ F = [(0, .c (.r v (zR l))), (1, .f (.func 104) []), (7, .c (I (zR l).length)), (8, .c (I k))] ∧ H = []) ?_ ?_
  · refine wk_of [] (fun _ => [(0, .c (.r v (zR l))), (1, .f (.func 104) []), (7, .c (I (zR l).length)), (8, .c (I (0 : Nat)))]) (fun _ => _) (by decide) (ZNL hE) ZCF (fun _ => .nil) (fun _ => ?_)
    exact ⟨l.length, 0, by omega, rfl, rfl, rfl⟩
  rintro m F H ⟨k, hk, hf, rfl, rfl⟩
  refine WA ?_
  refine aw_if rfl (fun hlt => ?_) (fun hge => ?_)
  · obtain ⟨n, hn⟩ : ∃ n, l[k]? = some n := ⟨_, List.getElem?_eq_getElem (by omega)⟩
    have hrow : (zR l)[k]? = some [I n] := by rw [List.getElem?_map, hn]; rfl
    have hd := anyG_drop farI hn
    refine WA ?_
    refine WR ?_
    refine al_ef rfl (ef_call0 false (fun _ => sfar_v _) rfl (.clo rfl) rfl (by decide) (by kernel_rfl) rfl (fun _g => .cons (.c rfl) .nil) (by simp)) ?_
    rintro _ _ ⟨_, _, _, ⟨rfl, rfl⟩, hF, hH⟩
    (try simp only [nsl, Nat.reduceAdd, Nat.reduceLT, Nat.reduceSub] at hF); (try simp only [nsl, Nat.reduceAdd, Nat.reduceLT, Nat.reduceSub] at hH); subst hF; subst hH
    refine WE ?_
    refine aw_cond rfl (fun hv => ?_) (fun hv => ?_)
    · refine WA ?_
      refine aret_1 [] _ rfl rfl rfl (by decide) (ZNK rfl) (fun _ => .nil) ⟨_, rfl, rfl, ?_⟩
      rw [← hf, hd, hv]; simp
    · refine ZZ ?_
      refine WA ?_
      refine wk_of [] (fun _ => [(0, .c (.r v (zR l))), (1, .f (.func 104) []), (7, .c (I (zR l).length)), (8, .c (I (k + 1 : Nat)))]) (fun _ => _) (by decide) (ZNL hE) ZCF (fun _ => .nil) (fun _ => ?_)
      exact ⟨m - 1, by omega, k + 1, by omega, by rw [← hf, hd, hv, Bool.false_or], rfl, rfl⟩
  refine WA ?_
  refine aret_1 [] _ rfl rfl rfl (by decide) (ZNK rfl) (fun _ => .nil) ⟨_, rfl, rfl, ?_⟩
  rw [← hf, List.drop_eq_nil_of_le (by omega)]; simp
theorem hasFar_v (l : List Int) (v : Value) (hl : l.length ≤ 1000000) : ACalls Tryz.prog 103 [.c (.r v (zR l)), .f (.func 104) []] [] fun u H => u = .c (B (l.any farI)) ∧ H = [] := by
  refine acalls_of (N := 9) Tryz.func103 rfl rfl (by simp) fun E hE => ?_
  refine WA ?_
  refine WR ?_
  refine al_ef rfl (ef_call0 false (fun _ => idxFar_v l v hl) rfl .fn rfl (by decide) (by kernel_rfl) rfl (fun _g => .cons (.c rfl) (.cons (.fL .nil) .nil)) (by simp)) ?_
  rintro _ _ ⟨_, _, _, ⟨r, rfl, rfl, hr⟩, hF, hH⟩
  (try simp only [nsl, Nat.reduceAdd, Nat.reduceLT, Nat.reduceSub] at hF); (try simp only [nsl, Nat.reduceAdd, Nat.reduceLT, Nat.reduceSub] at hH); subst hF; subst hH
  refine WE ?_
  refine aret_1 [] _ rfl rfl rfl (by decide) (ZNK rfl) (fun _ => .nil) ⟨congrArg (fun z => AV.c (B z)) ?_, rfl⟩
  cases h : l.any farI
  · rw [h] at hr; simp at hr ⊢; omega
  · rw [h] at hr; simp at hr ⊢; omega
/-- What is wrong with planes. -/
def plnF (l : List Int) : Int := if l.any farI = true then 1 else 0
def pltF (V : List Vec3) (Fs : List Fac3) (l : List Int) : Int := if mshF V Fs ≠ 0 then mshF V Fs else plnF l
theorem sfault_v (v w q : Value) (V : List Vec3) (Fs : List Fac3) (l : List Int) (hVl : V.length ≤ 1000000) (hFl : Fs.length ≤ 1000000) (hl : l.length ≤ 1000000) : ACalls Tryz.prog 52 [mshA v w V Fs, .c (.r q (zR l))] [] fun u H => u = .c (I (pltF V Fs l)) ∧ H = [] := by
  refine acalls_of (N := 13) Tryz.func52 rfl rfl (by simp) fun E hE => ?_
  refine WA ?_
  refine WR ?_
  refine al_ef rfl (ef_call0 false (fun _ => checkmesh_v v w V Fs (by omega) (by omega)) rfl .fn rfl (by decide) (by kernel_rfl) rfl (fun _ => C0 rfl) (by simp)) ?_
  rintro _ _ ⟨_, _, _, ⟨rfl, rfl⟩, hF, hH⟩
  (try simp only [nsl, Nat.reduceAdd, Nat.reduceLT, Nat.reduceSub] at hF); (try simp only [nsl, Nat.reduceAdd, Nat.reduceLT, Nat.reduceSub] at hH); subst hF; subst hH
  refine WE ?_
  refine WA ?_
  refine aw_if rfl (fun h0 => ?_) (fun h0 => ?_)
  · refine WA ?_
    exact aret_1 [] _ rfl rfl rfl (by decide) (ZNK rfl) (fun _ => .nil) ⟨by rw [pltF, if_pos h0], rfl⟩
  · refine ZZ ?_
    refine WR ?_
    refine al_ef rfl (ef_call0 false (fun _ => hasFar_v l q hl) rfl .fn rfl (by decide) (by kernel_rfl) rfl (fun _g => .cons (.c rfl) (.cons (.fL .nil) .nil)) (by simp)) ?_
    rintro _ _ ⟨_, _, _, ⟨rfl, rfl⟩, hF, hH⟩
    (try simp only [nsl, Nat.reduceAdd, Nat.reduceLT, Nat.reduceSub] at hF); (try simp only [nsl, Nat.reduceAdd, Nat.reduceLT, Nat.reduceSub] at hH); subst hF; subst hH
    refine WE ?_
    refine aw_cond rfl (fun hb => ?_) (fun hb => ?_)
    · refine WA ?_
      exact aret_1 [] _ rfl rfl rfl (by decide) (ZNK rfl) (fun _ => .nil) ⟨by rw [pltF, if_neg h0, plnF, if_pos hb], rfl⟩
    · refine WA ?_
      exact aret_1 [] _ rfl rfl rfl (by decide) (ZNK rfl) (fun _ => .nil) ⟨by rw [pltF, if_neg h0, plnF, if_neg (by rw [hb]; simp)], rfl⟩
/-- The program's order of sides. -/
theorem cmpS_v (a b : Sid2) : ACalls Tryz.prog 60 [.a (a.row.map .c), .a (b.row.map .c)] [] fun u H => u = .c (I (sidC a b)) ∧ H = [] := by
  obtain ⟨af, at_⟩ := a
  obtain ⟨bf, bt⟩ := b
  refine acalls_of (N := 17) Tryz.func60 rfl rfl (by simp) fun E hE => ?_
  refine WA ?_
  refine ZZ ?_
  refine aw_regionT [(0, none), (1, none), (2, none), (3, none), (5, none), (6, none), (7, none), (8, none), (4, some [5, 6, 7, 8]), (9, some []), (10, some []), (11, some []), (12, none)] hMixed (by kernel_rfl) ?_
  refine WP ?_
  refine at_ef rfl rfl (ef_call0 false (fun _ => cmpI_v _ _) rfl .fn rfl (by decide) (by kernel_rfl) rfl (fun _g => .cons (.c rfl) (.cons (.c rfl) .nil)) (by simp)) ?_
  rintro _ _ ⟨_, _, _, ⟨rfl, rfl⟩, hF, hH⟩
  (try simp only [nsl, Nat.reduceAdd, Nat.reduceLT, Nat.reduceSub] at hF); (try simp only [nsl, Nat.reduceAdd, Nat.reduceLT, Nat.reduceSub] at hH); subst hF; subst hH
  refine ⟨ag_cons (by first | exact ag_rd rfl rfl rfl (ZX (KF (t := 54) (f := 1) rfl rfl)) rfl) (ag_cons (by first | exact ag_rd rfl rfl rfl (ZL (KK (t := 3) rfl)) rfl) (ag_cons (by first | exact ag_rd rfl rfl rfl (ZX (KF (t := 54) (f := 1) rfl rfl)) rfl) (ag_cons (by first | exact ag_rd rfl rfl rfl (ZL (KK (t := 3) rfl)) rfl) (ag_none)))), ?_⟩
  refine at_ef rfl rfl (ef_call0 false (fun _ => cmpI_v _ _) rfl .fn rfl (by decide) (by kernel_rfl) rfl (fun _g => .cons (.c rfl) (.cons (.c rfl) .nil)) (by simp)) ?_
  rintro _ _ ⟨_, _, _, ⟨rfl, rfl⟩, hF, hH⟩
  (try simp only [nsl, Nat.reduceAdd, Nat.reduceLT, Nat.reduceSub] at hF); (try simp only [nsl, Nat.reduceAdd, Nat.reduceLT, Nat.reduceSub] at hH); subst hF; subst hH
  refine ⟨ag_none, ?_⟩
  refine WP ?_
  refine at_ef rfl rfl (ef_call0 true (fun g => orI_v [cmpI af bf, cmpI at_ bt] (g (.o 2 0 2 2)) (by simp)) rfl .fn rfl (by decide) (by kernel_rfl) rfl (fun _ => .cons (.frz rfl rfl rfl rfl rfl) .nil) (fun _ _ _ _ ⟨hu, hH⟩ => by rw [hu, hH]; exact ⟨.c (.inl trivial), by simp⟩)) ?_
  rintro _ _ ⟨_, _, _, ⟨rfl, rfl⟩, hF, hH⟩
  (try simp only [nsl, Nat.reduceAdd, Nat.reduceLT, Nat.reduceSub] at hF); (try simp only [nsl, Nat.reduceAdd, Nat.reduceLT, Nat.reduceSub] at hH); subst hF; subst hH
  refine ⟨ag_none, ?_⟩
  refine WQ ?_
  all_goals exact aret_1 [] _ rfl rfl rfl (by decide) (ZNK rfl) (fun _ => .nil) ⟨rfl, rfl⟩
end Go.Proofs.YthanangkmjjbaaaGreatDoor

/- slices.Compact of sides, by value. -/
-- NEWM
namespace Go.Proofs.YthanangkmjjbaaaGreatDoor
open Go Go.RowKit
set_option maxRecDepth 100000
end Go.Proofs.YthanangkmjjbaaaGreatDoor

/- Cuts: the program's and the reference's, by value; planes of the stream. -/
-- NEWM
namespace Go.Proofs.YthanangkmjjbaaaGreatDoor
open Go Go.RowKit
set_option maxRecDepth 100000
/-- slices.SortFunc of sides, by a function that orders them. -/
theorem sortY_v (g : FuncId) (hg : okFn Tryz.prog g = true) (hc : ∀ a b : Sid2, ACalls Tryz.prog g [.a (a.row.map .c), .a (b.row.map .c)] [] fun u H => u = .c (I (sidC a b)) ∧ H = []) (l : List Sid2) (c : Nat) (hl : l.length ≤ 1000000) :
    ACallsX true Tryz.prog 59 [.o 0 0 l.length c, .f (.func g) []] [.arr 54 2 c (sR l)] fun u H => u = .t [] ∧ H = [.arr 54 2 c (sR (srtS l))] := by
  have h := acalls_sort sortSideL (k := 2) (fun w => Tryz.isAgg54 w) (fun w => Tryz.sizeOf54 w) (fun x => ∃ s : Sid2, x = s.row) (fun x y => sidC (sidOf x) (sidOf y)) (g := g) hg
    (by rintro _ ⟨s, rfl⟩; rw [sidC_lt]; omega)
    (by rintro _ _ _ ⟨a, rfl⟩ ⟨b, rfl⟩ ⟨c, rfl⟩; simp only [sidC_lt, sidOf_row]; omega)
    (by rintro _ _ _ ⟨a, rfl⟩ ⟨b, rfl⟩ ⟨c, rfl⟩; simp only [sidC_lt, sidOf_row]; omega)
    (by rintro _ _ ⟨a, rfl⟩ ⟨b, rfl⟩; exact hc a b)
    (sR l) (by intro r hr; obtain ⟨s, _, rfl⟩ := List.mem_map.1 hr; exact ⟨s, rfl⟩) (by simp; omega) (e := 54) (cap := c) (n := l.length) (c := c) (pn := true) (by simp)
  refine ACallsX.mono h fun u H => ?_
  rintro ⟨rows', rfl, rfl, hp, hs⟩
  have h2 := hp.map sidOf
  rw [sR, List.map_map, show (sidOf ∘ Sid2.row) = id from funext fun s => rfl, List.map_id] at h2
  have h3 : (rows'.map sidOf).Pairwise leS := by
    rw [List.pairwise_map]
    refine hs.imp fun {x y} h => ?_
    rw [sidC_lt] at h
    unfold leS
    omega
  have h4 := srtS_is h2 h3
  refine ⟨rfl, ?_⟩
  congr 2
  rw [← h4, sR, List.map_map]
  refine (List.map_id _).symm.trans (List.map_congr_left fun r hr => ?_)
  obtain ⟨s, _, rfl⟩ := List.mem_map.1 (hp.subset hr)
  rfl
theorem srtS_len (l : List Sid2) : (srtS l).length = l.length := (srtS_perm l).length_eq
end Go.Proofs.YthanangkmjjbaaaGreatDoor

/- The library's contract of sorting lies at this program for segments and contours. -/
namespace Go.Proofs.YthanangkmjjbaaaGreatDoor
open Go Go.Shelf
set_option maxRecDepth 100000
def sortConL_ren : Go.Shelf.Ren := ⟨fun | 6 => 118 | 15 => 116 | 14 => 168 | 28 => 165 | 29 => 166 | 20 => 214 | 21 => 215 | 22 => 216 | 23 => 217 | 24 => 218 | 25 => 219 | 26 => 220 | 27 => 221 | 46 => 252 | 47 => 210 | 48 => 211 | 49 => 253 | 50 => 254 | 57 => 275 | n => n, fun | 22 => 132 | 24 => 135 | 25 => 210 | 3 => 3 | 39 => 204 | 0 => 0 | 53 => 265 | 55 => 267 | 4 => 4 | 46 => 258 | 45 => 257 | 50 => 262 | 5 => 5 | 9 => 9 | 66 => 307 | 70 => 311 | 76 => 342 | 77 => 343 | n => n, fun | n => n⟩
theorem sortConL : Go.Proofs.SlLaysF0.n6 Tryz.prog sortConL_ren := {
  mixed := by kernel_rfl
  f6 := ⟨Tryz.f118.name, by decide, Tryz.func118.trans (congrArg some (by kernel_rfl))⟩
  f14 := ⟨Tryz.f168.name, by decide, Tryz.func168.trans (congrArg some (by kernel_rfl))⟩
  f15 := Tryz.func116.trans (congrArg some (by kernel_rfl))
  f20 := ⟨Tryz.f214.name, by decide, Tryz.func214.trans (congrArg some (by kernel_rfl))⟩
  f21 := ⟨Tryz.f215.name, by decide, Tryz.func215.trans (congrArg some (by kernel_rfl))⟩
  f22 := ⟨Tryz.f216.name, by decide, Tryz.func216.trans (congrArg some (by kernel_rfl))⟩
  f23 := ⟨Tryz.f217.name, by decide, Tryz.func217.trans (congrArg some (by kernel_rfl))⟩
  f24 := ⟨Tryz.f218.name, by decide, Tryz.func218.trans (congrArg some (by kernel_rfl))⟩
  f25 := ⟨Tryz.f219.name, by decide, Tryz.func219.trans (congrArg some (by kernel_rfl))⟩
  f26 := ⟨Tryz.f220.name, by decide, Tryz.func220.trans (congrArg some (by kernel_rfl))⟩
  f27 := ⟨Tryz.f221.name, by decide, Tryz.func221.trans (congrArg some (by kernel_rfl))⟩
  f28 := Tryz.func165.trans (congrArg some (by kernel_rfl))
  f29 := Tryz.func166.trans (congrArg some (by kernel_rfl))
  f46 := ⟨Tryz.f252.name, by decide, Tryz.func252.trans (congrArg some (by kernel_rfl))⟩
  f47 := Tryz.func210.trans (congrArg some (by kernel_rfl))
  f48 := Tryz.func211.trans (congrArg some (by kernel_rfl))
  f49 := ⟨Tryz.f253.name, by decide, Tryz.func253.trans (congrArg some (by kernel_rfl))⟩
  f50 := ⟨Tryz.f254.name, by decide, Tryz.func254.trans (congrArg some (by kernel_rfl))⟩
  f57 := ⟨Tryz.f275.name, by decide, Tryz.func275.trans (congrArg some (by kernel_rfl))⟩
  t0 := Tryz.underlying0
  a0 := Tryz.isAgg0
  z0 := Tryz.sizeOf0
  v0 := Tryz.zeroValue0
  t3 := Tryz.underlying3
  a3 := Tryz.isAgg3
  z3 := Tryz.sizeOf3
  v3 := Tryz.zeroValue3
  t4 := Tryz.underlying4
  a4 := Tryz.isAgg4
  z4 := Tryz.sizeOf4
  v4 := Tryz.zeroValue4
  t5 := Tryz.underlying5
  a5 := Tryz.isAgg5
  z5 := Tryz.sizeOf5
  v5 := Tryz.zeroValue5
  t9 := Tryz.underlying9
  a9 := Tryz.isAgg9
  z9 := Tryz.sizeOf9
  v9 := Tryz.zeroValue9
  t22 := Tryz.underlying132
  a22 := Tryz.isAgg132
  z22 := Tryz.sizeOf132
  v22 := Tryz.zeroValue132
  t25 := Tryz.underlying210
  a25 := Tryz.isAgg210
  z25 := Tryz.sizeOf210
  v25 := Tryz.zeroValue210
  t39 := Tryz.underlying204
  a39 := Tryz.isAgg204
  z39 := Tryz.sizeOf204
  v39 := Tryz.zeroValue204
  t45 := Tryz.underlying257
  a45 := Tryz.isAgg257
  z45 := Tryz.sizeOf257
  v45 := Tryz.zeroValue257
  t46 := Tryz.underlying258
  a46 := Tryz.isAgg258
  z46 := Tryz.sizeOf258
  v46 := Tryz.zeroValue258
  t50 := Tryz.underlying262
  a50 := Tryz.isAgg262
  z50 := Tryz.sizeOf262
  v50 := Tryz.zeroValue262
  t53 := Tryz.underlying265
  a53 := Tryz.isAgg265
  z53 := Tryz.sizeOf265
  v53 := Tryz.zeroValue265
  t55 := Tryz.underlying267
  a55 := Tryz.isAgg267
  z55 := Tryz.sizeOf267
  v55 := Tryz.zeroValue267
  t66 := Tryz.underlying307
  a66 := Tryz.isAgg307
  z66 := Tryz.sizeOf307
  v66 := Tryz.zeroValue307
  t70 := Tryz.underlying311
  a70 := Tryz.isAgg311
  z70 := Tryz.sizeOf311
  v70 := Tryz.zeroValue311
  t76 := Tryz.underlying342
  a76 := Tryz.isAgg342
  z76 := Tryz.sizeOf342
  v76 := Tryz.zeroValue342
  t77 := Tryz.underlying343
  a77 := Tryz.isAgg343
  z77 := Tryz.sizeOf343
  v77 := Tryz.zeroValue343 }
end Go.Proofs.YthanangkmjjbaaaGreatDoor

/- Plain law: passes over sides, one by one. -/
namespace Go.Proofs.YthanangkmjjbaaaGreatDoor
theorem PassP.append {N : Nxt} {F : Sid2 → Bool} {is : Bool} {a b sn sn1 sn2 : List Sid2} {o o2 : List (List Sid2 × Bool)} (h : PassP N F is a sn o sn1) : PassP N F is b sn1 o2 sn2 → PassP N F is (a ++ b) sn (o ++ o2) sn2 := by
  induction h with
  | nil => intro h2; exact h2
  | skip h _ ih => intro h2; exact .skip h (ih h2)
  | take h1 h2 h3 _ ih => intro h4; exact .take h1 h2 h3 (ih h4)
theorem PassP.skip1 {N : Nxt} {F : Sid2 → Bool} {is : Bool} {l sn0 sn : List Sid2} {o : List (List Sid2 × Bool)} {k : Nat} {f : Sid2} (h : PassP N F is (l.take k) sn0 o sn) (hf : l[k]? = some f) (hs : f ∈ sn ∨ (is = false ∧ F f = true)) : PassP N F is (l.take (k + 1)) sn0 o sn := by
  rw [List.take_add_one, hf]
  have := h.append (.skip hs .nil)
  rwa [List.append_nil] at this
theorem PassP.take1 {N : Nxt} {F : Sid2 → Bool} {is : Bool} {l sn0 sn r : List Sid2} {o : List (List Sid2 × Bool)} {k : Nat} {f : Sid2} {c : Bool} (h : PassP N F is (l.take k) sn0 o sn) (hf : l[k]? = some f) (h1 : f ∉ sn) (h2 : ¬ (is = false ∧ F f = true)) (hc : Ch N f f r c) : PassP N F is (l.take (k + 1)) sn0 (o ++ [(f :: r, is)]) (sn ++ f :: r) := by
  rw [List.take_add_one, hf]
  exact h.append (.take h1 h2 hc .nil)
theorem nxt_snoc {A : List Seg5} {g : Seg5} (h : ((A ++ [g]).map (·.fr)).Nodup) (s : Sid2) : nxt (A ++ [g]) s = if s = g.fr then some g.to else nxt A s := by
  induction A with
  | nil =>
    simp only [List.nil_append, nxt]
    by_cases e : s = g.fr
    · rw [if_pos e, if_pos e.symm]
    · rw [if_neg e, if_neg (fun h => e h.symm)]
  | cons k A ih =>
    simp only [List.cons_append, List.map_cons, List.nodup_cons] at h
    simp only [List.cons_append, nxt]
    rw [ih h.2]
    split
    · rename_i e
      rw [if_neg]
      intro e2
      exact h.1 (by rw [e, e2]; simp)
    · rfl
theorem folB_snoc {A : List Seg5} {g : Seg5} (s : Sid2) : folB (A ++ [g]) s = if s = g.to then true else folB A s := by
  rw [Bool.eq_iff_iff]
  split
  · rename_i e; simp [folB, e]
  · rename_i e
    simp only [folB, List.map_append, List.map_cons, List.map_nil, List.contains_eq_mem, List.mem_append, List.mem_singleton, decide_eq_true_eq, e, or_false]
theorem take_snoc {α : Type} {l : List α} {k : Nat} {x : α} (h : l[k]? = some x) : l.take (k + 1) = l.take k ++ [x] := by rw [List.take_add_one, h]; rfl
theorem nodup_take {S : List Seg5} (h : (S.map (·.fr)).Nodup) (k : Nat) : ((S.take k).map (·.fr)).Nodup := by
  rw [List.map_take]; exact h.sublist (List.take_sublist _ _)
theorem sgL_ok {V : List Vec3} {Fs : List Fac3} {z : Int} (hM : MOk V Fs) : SegOk (sgL V Fs z) := ⟨(sg_nodup hM.dup).1, (sg_nodup hM.dup).2⟩
/-- Both passes, and the order. -/
theorem IsConts.of {S : List Seg5} {cs O : List (List Sid2 × Bool)} {s1 s2 : List Sid2} {o1 o2 : List (List Sid2 × Bool)} (h1 : PassP (nxt S) (folB S) false (srtS (S.map (·.fr))) [] o1 s1) (h2 : PassP (nxt S) (folB S) true (srtS (S.map (·.fr))) s1 o2 s2) (hO : O = o1 ++ o2) (hp : cs.Perm O) (hs : cs.Pairwise leC) : IsConts S cs :=
  ⟨_, o1, s1, o2, s2, srtS_perm _, srtS_sorted _, h1, h2, hO ▸ hp, hs⟩
/-- The first side of a row. -/
def hdS (k : List Sid2 × Bool) : Sid2 := k.1.headD ⟨0, 0⟩
theorem leC_of {a b : List Sid2 × Bool} (h : leS (hdS a) (hdS b)) : leC a b := fun x y hx hy => by
  obtain ⟨a1, a2⟩ := a
  obtain ⟨b1, b2⟩ := b
  cases a1 with
  | nil => cases hx
  | cons x' _ => cases b1 with
    | nil => cases hy
    | cons y' _ =>
      simp only [List.head?_cons, Option.some.injEq] at hx hy
      subst hx; subst hy
      exact h
theorem PassP.ne {N : Nxt} {F : Sid2 → Bool} {is : Bool} {l sn sn' : List Sid2} {o : List (List Sid2 × Bool)} (h : PassP N F is l sn o sn') : ∀ k ∈ o, k.1 ≠ [] := fun k hk => by
  obtain ⟨f, r, rfl, _⟩ := h.heads.2.1 k hk
  simp
end Go.Proofs.YthanangkmjjbaaaGreatDoor
