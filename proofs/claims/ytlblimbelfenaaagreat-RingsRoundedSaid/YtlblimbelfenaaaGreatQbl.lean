/- The reference's rounding, and twice the area of a ring, by value. -/
import Derived.Test.YtlblimbelfenaaaGreatQbj
import Derived.Test.YtlblimbelfenaaaGreatQbk
import Derived.Test.YtlblimbelfenaaaGreatQay
set_option linter.unusedSimpArgs false
set_option linter.unusedVariables false
/- What the reference finds wrong with a region whose points are near, by value. -/
-- NEWM
namespace Go.Proofs.YtlblimbelfenaaaGreat
open Go Go.RowKit
set_option maxRecDepth 100000
def psR (A : List (Value × List P2)) : List (Value × List (List CV)) := A.map fun p => (p.1, pR p.2)
theorem psR_rows (A : List (Value × List P2)) : ((psR A).map fun p => [CV.r p.1 p.2]) = rgR A := by unfold psR; rw [List.map_map]; rfl
theorem catR_tot (A : List (Value × List P2)) : (catR (psR A)).length = tot (A.map Prod.snd) := by
 unfold catR psR tot
 rw [List.length_flatMap, List.map_map, List.map_map]
 congr 1
 exact List.map_congr_left fun p _ => by simp
theorem tot_le : ∀ {A : List (Value × List P2)}, (∀ p ∈ A, p.2.length ≤ 2000) → tot (A.map Prod.snd) ≤ 2000 * A.length
 | [], _ => by simp [tot]
 | p :: A, h => by
  have h1 := h p List.mem_cons_self
  have h2 := tot_le fun q hq => h q (List.mem_cons_of_mem _ hq)
  unfold tot at h2 ⊢
  simp only [List.map_cons, List.sum_cons, List.length_cons]
  omega
theorem okP2 (p : P2) : (P2.row p).length = 2 ∧ ∀ u ∈ P2.row p, u.one = true := by
 refine ⟨rfl, fun u hu => ?_⟩
 simp only [P2.row, List.mem_cons, List.not_mem_nil, or_false] at hu
 rcases hu with rfl | rfl <;> rfl
theorem concatR_v (A : List (Value × List P2)) (v : Value) (hA : A.length ≤ 100) (hl : ∀ p ∈ A, p.2.length ≤ 2000) : ACalls Tryz.prog 120 [.c (.r v (rgR A))] [] fun u H => (∃ q, A = [] ∧ u = .c (.r q []) ∧ H = []) ∨ (∃ (c : Nat) (R : List (List CV)), R.length = tot (A.map Prod.snd) ∧ u = .o 0 0 R.length c ∧ H = [.arr 119 2 c R]) := by
 by_cases h : A = []
 ·subst h
  exact ACallsX.mono (concatR_z v) fun u H ⟨q, h1, h2⟩ => .inl ⟨q, rfl, h1, h2⟩
 ·have h1 := List.length_pos_iff.2 h
  have h2 := tot_le hl
  rw [← psR_rows]
  refine ACallsX.mono (concatR_a (psR A) v (fun p hp => ?_) (by simp [psR]; omega) (by simp [psR]; omega) (by rw [catR_tot]; omega)) fun u H ⟨c, k1, k2, k3⟩ => .inr ⟨c, _, catR_tot A, k2, k3⟩
  obtain ⟨q, _, rfl⟩ := List.mem_map.1 hp
  exact okR_map okP2 q.2
theorem concatR_p (A : List (Value × List P2)) (v : Value) (h : A ≠ []) (hA : A.length ≤ 100) (hl : ∀ p ∈ A, p.2.length ≤ 2000) : ACalls Tryz.prog 120 [.c (.r v (rgR A))] [] fun u H => ∃ (c : Nat) (R : List (List CV)), R.length = tot (A.map Prod.snd) ∧ u = .o 0 0 R.length c ∧ H = [.arr 119 2 c R] :=
 ACallsX.mono (concatR_v A v hA hl) fun u H k => by
  rcases k with ⟨_, h0, _⟩ | k
  ·exact absurd h0 h
  ·exact k
set_option maxHeartbeats 8000000 in
theorem rregion_v (A : List (Value × List P2)) (v : Value) (hl2 : ∀ p ∈ A, p.2.length ≤ 2000) (hA : A.length ≤ 100000) (hl : ∀ p ∈ A, ∀ q ∈ p.2, q.in) : ACalls Tryz.prog 66 [.c (.r v (rgR A))] [] fun u H => u = .c (I (regF (A.map Prod.snd))) ∧ H = [] := by
 have e1 : (rgR A).length = A.length := by simp
 have eA : (A.map Prod.snd).length = A.length := by simp
 have hr1 : (100 < A.length ∨ 2000 < tot (A.map Prod.snd)) → regF (A.map Prod.snd) = 2 := fun h => by rw [regF, if_pos (by rw [eA]; exact h)]
 have hr2 : ¬ (100 < A.length ∨ 2000 < tot (A.map Prod.snd)) → regF (A.map Prod.snd) = if fst0 ((A.map Prod.snd).map chkF) ≠ 0 then fst0 ((A.map Prod.snd).map chkF) else if cfR (A.map Prod.snd) = true then 13 else 0 := fun h => by rw [regF, if_neg (by rw [eA]; exact h), cfR_eq]
 refine acalls_of (N := 62) Tryz.func66 rfl rfl (by simp) fun E hE => ?_
 refine WA ?_
 refine aw_cut (fun F H => F = [(0, .c (.r v (rgR A))), (20, .c (B (decide (100 < A.length) || decide (2000 < tot (A.map Prod.snd)))))] ∧ H = []) ?_ ?_ wk_aw
 ·by_cases hb : 100 < A.length
  ·rw [decide_eq_true hb, Bool.true_or]
   refine WR ?_
   first | refine ZS ?_ | (refine G1 rfl ?_; refine al_ef rfl (ef_call [] (fun _ => []) false (fun _ => concatR_v A v (by omega) hl2) rfl .fn rfl (by decide) (by kernel_rfl) rfl (fun _ => C0 rfl) (by decide) (fun _ => .nil) (by simp)) ?_; rintro F1 H1 ⟨_, _, _, _, ⟨qk, hA0, rfl, rfl⟩ | ⟨ck, R, hRl, rfl, rfl⟩, hF, hH⟩; all_goals (refine NSU hF hH ?_; clear hF hH; rintro rfl rfl)) | skip
   refine WE ?_
   all_goals (exact wk_of [] (fun _ => [(0, .c (.r v (rgR A))), (20, .c (B true))]) (fun _ => []) (by decide) (ZNL hE) ZCF (fun _ => .nil) (fun _ => ⟨rfl, rfl⟩))
  ·rw [decide_eq_false hb, Bool.false_or]
   by_cases hA0 : A = []
   ·subst hA0
    have e0 : decide (2000 < tot (([] : List (Value × List P2)).map Prod.snd)) = false := by simp [tot]
    rw [e0]
    refine WR ?_
    first | refine ZS ?_ | (refine G1 rfl ?_; refine al_ef rfl (ef_call0 false (fun _ => concatR_z v) rfl .fn rfl (by decide) (by kernel_rfl) rfl (fun _ => C0 rfl) (by simp)) ?_; rintro _ _ ⟨_, _, _, ⟨qk, rfl, rfl⟩, hF, hH⟩; (refine NST hF hH ?_; clear hF hH; rintro rfl rfl)) | skip
    refine WE ?_
    all_goals (exact wk_of [] (fun _ => [(0, .c (.r v (rgR []))), (20, .c (B false))]) (fun _ => []) (by decide) (ZNL hE) ZCF (fun _ => .nil) (fun _ => ⟨rfl, rfl⟩))
   ·refine WR ?_
    first | refine ZS ?_ | (refine G1 rfl ?_; refine al_ef rfl (ef_call [] (fun _ => []) false (fun _ => concatR_p A v hA0 (by omega) hl2) rfl .fn rfl (by decide) (by kernel_rfl) rfl (fun _ => C0 rfl) (by decide) (fun _ => .nil) (by simp)) ?_; rintro F1 H1 ⟨_, _, _, _, ⟨ck, R, hRl, rfl, rfl⟩, hF, hH⟩; (refine NSU hF hH ?_; clear hF hH; rintro rfl rfl)) | skip
    refine WE ?_
    rw [hRl]
    all_goals (exact wk_of [] (fun _ => [(0, .c (.r v (rgR A))), (20, .c (B (decide (2000 < tot (A.map Prod.snd)))))]) (fun _ => []) (by decide) (ZNL hE) ZCF (fun _ => .nil) (fun _ => ⟨rfl, rfl⟩))
 rintro F H ⟨rfl, rfl⟩
 refine ZZ ?_
 by_cases hb : 100 < A.length ∨ 2000 < tot (A.map Prod.snd)
 ·have e0 : (decide (100 < A.length) || decide (2000 < tot (A.map Prod.snd))) = true := by rcases hb with h | h <;> simp [h]
  rw [e0]
  refine aw_cond_t rfl ?_
  refine WA ?_
  exact aret_1 [] _ rfl rfl rfl (by decide) (ZNK rfl) (fun _ => .nil) ⟨by rw [hr1 hb], rfl⟩
 have e0 : (decide (100 < A.length) || decide (2000 < tot (A.map Prod.snd))) = false := by rw [decide_eq_false (by omega), decide_eq_false (by omega)]; rfl
 rw [e0, hr2 hb]
 refine aw_cond_f rfl ?_
 refine ZZ ?_
 refine WA ?_
 refine aw_loopw (fun m F H => ∃ (k : Nat), m + k = A.length ∧ fst0 (((A.map Prod.snd).map chkF).drop k) = fst0 ((A.map Prod.snd).map chkF) ∧ F = [(0, .c (.r v (rgR A))), (21, .c (.r v (rgR A))), (22, .c (I (rgR A).length)), (23, .c (I k))] ∧ H = []) ?_ ?_
 ·refine wk_of [] (fun _ => [(0, .c (.r v (rgR A))), (21, .c (.r v (rgR A))), (22, .c (I (rgR A).length)), (23, .c (I (0 : Nat)))]) (fun _ => _) (by decide) (ZNL hE) ZCF (fun _ => .nil) (fun _ => ?_)
  exact ⟨A.length, 0, by omega, rfl, rfl, rfl⟩
 rintro m F H ⟨k, hk, hf, rfl, rfl⟩
 refine WA ?_
 refine aw_if rfl (fun hlt => ?_) (fun hge => ?_)
 ·obtain ⟨p, hp⟩ : ∃ z, A[k]? = some z := ⟨_, List.getElem?_eq_getElem (by omega)⟩
  have hpl := hl2 p (List.mem_of_getElem? hp)
  have hri := hl p (List.mem_of_getElem? hp)
  have hfd := fst0_drop (l := (A.map Prod.snd).map chkF) (k := k) (n := chkF p.2) (by rw [List.getElem?_map, List.getElem?_map, hp]; rfl)
  obtain ⟨qv, r⟩ := p
  simp only at hpl hri hfd
  have hrow : (rgR A)[k]? = some [.r qv (pR r)] := by rw [List.getElem?_map, hp]; rfl
  refine WA ?_
  refine WR ?_
  refine al_ef rfl (ef_call0 false (fun _ => rringf_v r qv (by omega) hri) rfl .fn rfl (by decide) (by kernel_rfl) rfl (fun _ => C0 rfl) (by simp)) ?_
  rintro _ _ ⟨_, _, _, ⟨rfl, rfl⟩, hF, hH⟩
  (refine NST hF hH ?_; clear hF hH; rintro rfl rfl)
  refine WE ?_
  refine WA ?_
  refine aw_if rfl (fun hne => ?_) (fun heq => ?_)
  ·refine WA ?_
   have hv : fst0 ((A.map Prod.snd).map chkF) = chkF r := by rw [← hf, hfd, if_neg hne]
   exact aret_1 [] _ rfl rfl rfl (by decide) (ZNK rfl) (fun _ => .nil) ⟨by rw [hv, if_pos hne], rfl⟩
  ·refine ZZ ?_
   refine WA ?_
   refine wk_of [] (fun _ => [(0, .c (.r v (rgR A))), (21, .c (.r v (rgR A))), (22, .c (I (rgR A).length)), (23, .c (I (k + 1 : Nat)))]) (fun _ => _) (by decide) (ZNL hE) ZCF (fun _ => .nil) (fun _ => ?_)
   exact ⟨m - 1, by omega, k + 1, by omega, by rw [← hf, hfd, if_pos (by omega)], rfl, rfl⟩
 have hz : fst0 ((A.map Prod.snd).map chkF) = 0 := by rw [← hf, List.drop_eq_nil_of_le (by simp; omega)]; rfl
 rw [hz, if_neg (by omega)]
 refine ZZ ?_
 refine WA ?_
 have hno2 : (∀ i k, i < A.length → k < i → mtS (A.map Prod.snd) i k = false) → cfR (A.map Prod.snd) = false := fun h => List.any_eq_false.2 fun i hi => by
  rw [List.any_eq_false.2 fun k hk => by rw [h i k (by simpa using List.mem_range.1 hi) (List.mem_range.1 hk)]; simp]; simp
 have hyes : ∀ i k, i < A.length → k < i → mtS (A.map Prod.snd) i k = true → cfR (A.map Prod.snd) = true := fun i k h1 h2 h3 => List.any_eq_true.2 ⟨i, List.mem_range.2 (by rw [eA]; exact h1), List.any_eq_true.2 ⟨k, List.mem_range.2 h2, h3⟩⟩
 refine aw_loopw (fun m F H => ∃ (i : Nat), m + i = A.length ∧ (∀ i' k, i' < i → k < i' → mtS (A.map Prod.snd) i' k = false) ∧ F = [(0, .c (.r v (rgR A))), (33, .c (.r v (rgR A))), (34, .c (I (rgR A).length)), (35, .c (I i))] ∧ H = []) ?_ ?_
 ·refine wk_of [] (fun _ => [(0, .c (.r v (rgR A))), (33, .c (.r v (rgR A))), (34, .c (I (rgR A).length)), (35, .c (I (0 : Nat)))]) (fun _ => []) (by decide) (ZNL hE) ZCF (fun _ => .nil) (fun _ => ?_)
  exact ⟨A.length, 0, by omega, fun _ _ h => absurd h (by omega), rfl, rfl⟩
 rintro m F H ⟨i, hi, hno, rfl, rfl⟩
 refine WA ?_
 refine aw_if rfl (fun hlt => ?_) (fun hge => ?_)
 ·obtain ⟨p, hpi⟩ : ∃ z, A[i]? = some z := ⟨_, List.getElem?_eq_getElem (by omega)⟩
  have hpl := hl2 p (List.mem_of_getElem? hpi)
  have hri := hl p (List.mem_of_getElem? hpi)
  obtain ⟨qv, r⟩ := p
  simp only at hpl hri
  have hrow : (rgR A)[i]? = some [.r qv (pR r)] := by rw [List.getElem?_map, hpi]; rfl
  refine WA ?_
  have eT : (rgR (A.take i)).length = i := by simp; omega
  have hsl : ((rgR A).take i).drop 0 = rgR (A.take i) := by rw [List.drop_zero]; exact List.map_take.symm
  refine aw_cut (fun F H => ∃ q0, F = [(0, .c (.r v (rgR A))), (6, .c (I i)), (7, .c (.r qv (pR r))), (33, .c (.r v (rgR A))), (34, .c (I (rgR A).length)), (35, .c (I i)), (42, .c (.r q0 (rgR (A.take i)))), (43, .c (I (rgR (A.take i)).length)), (44, .c (I (0 : Nat)))] ∧ H = []) ?_ ?_ wk_aw
  ·refine ZR ?_
   iterate 2 refine WX1 ?_
   refine ZA (rd_slicer (l := 0) (h := i) rfl (KE (t := 33) rfl) rfl (by intro row hr; obtain ⟨p, _, rfl⟩ := List.mem_map.1 hr; rfl) (.inl ⟨rfl, rfl⟩) (.inr ⟨_, _, _, rfl, rfl, rfl⟩) (by omega) (by omega)) ?_
   refine WE ?_
   rw [hsl]
   exact wk_of [] (fun _ => [(0, .c (.r v (rgR A))), (6, .c (I i)), (7, .c (.r qv (pR r))), (33, .c (.r v (rgR A))), (34, .c (I (rgR A).length)), (35, .c (I i)), (42, .c (.r _ (rgR (A.take i)))), (43, .c (I (rgR (A.take i)).length)), (44, .c (I (0 : Nat)))]) (fun _ => []) (by decide) (ZNL hE) ZCF (fun _ => .nil) (fun _ => ⟨_, rfl, rfl⟩)
  rintro F H ⟨q0, rfl, rfl⟩
  refine ZZ ?_
  refine aw_loopw (fun m2 F H => ∃ (k : Nat), m2 + k = i ∧ (∀ k', k' < k → mtS (A.map Prod.snd) i k' = false) ∧ F = [(0, .c (.r v (rgR A))), (6, .c (I i)), (7, .c (.r qv (pR r))), (33, .c (.r v (rgR A))), (34, .c (I (rgR A).length)), (35, .c (I i)), (42, .c (.r q0 (rgR (A.take i)))), (43, .c (I (rgR (A.take i)).length)), (44, .c (I k))] ∧ H = []) ?_ ?_
  ·refine wk_of [] (fun _ => [(0, .c (.r v (rgR A))), (6, .c (I i)), (7, .c (.r qv (pR r))), (33, .c (.r v (rgR A))), (34, .c (I (rgR A).length)), (35, .c (I i)), (42, .c (.r q0 (rgR (A.take i)))), (43, .c (I (rgR (A.take i)).length)), (44, .c (I (0 : Nat)))]) (fun _ => []) (by decide) (ZNL hE) ZCF (fun _ => .nil) (fun _ => ?_)
   exact ⟨i, 0, by omega, fun _ h => absurd h (by omega), rfl, rfl⟩
  rintro m2 F H ⟨k, hk, hnk, rfl, rfl⟩
  refine WA ?_
  refine aw_if rfl (fun hlt2 => ?_) (fun hge2 => ?_)
  ·obtain ⟨p', hpk⟩ : ∃ z, A[k]? = some z := ⟨_, List.getElem?_eq_getElem (by omega)⟩
   have hpl' := hl2 p' (List.mem_of_getElem? hpk)
   have hri' := hl p' (List.mem_of_getElem? hpk)
   obtain ⟨qb, r'⟩ := p'
   simp only at hpl' hri'
   have hrw : (rgR (A.take i))[k]? = some [.r qb (pR r')] := by rw [List.getElem?_map, List.getElem?_take, if_pos (by omega), hpk]; rfl
   have gi : rgA (A.map Prod.snd) i = r := by rw [rgA, List.getD_eq_getElem?_getD, List.getElem?_map, hpi]; rfl
   have gk : rgA (A.map Prod.snd) k = r' := by rw [rgA, List.getD_eq_getElem?_getD, List.getElem?_map, hpk]; rfl
   have hmt : mtS (A.map Prod.snd) i k = (sd4 r).any fun s => (sd4 r').any fun t => metB s.1 s.2 t.1 t.2 := by rw [mtS, gi, gk]
   have eS : (s4R (sd4 r)).length = r.length := by simp [sd4_len]
   refine WA ?_
   refine WR ?_
   refine al_ef rfl (ef_call0 false (fun _ => rgsides_v r qv (by omega)) rfl .fn rfl (by decide) (by kernel_rfl) rfl (fun _ => C0 rfl) (by simp)) ?_
   rintro _ _ ⟨_, _, _, ⟨qs, rfl, rfl⟩, hF, hH⟩
   (refine NST hF hH ?_; clear hF hH; rintro rfl rfl)
   refine WE ?_
   refine aw_loopw (fun m3 F H => ∃ (j : Nat), m3 + j = r.length ∧ (((sd4 r).drop j).any fun s => (sd4 r').any fun t => metB s.1 s.2 t.1 t.2) = mtS (A.map Prod.snd) i k ∧ F = [(0, .c (.r v (rgR A))), (6, .c (I i)), (7, .c (.r qv (pR r))), (9, .c (.r qb (pR r'))), (33, .c (.r v (rgR A))), (34, .c (I (rgR A).length)), (35, .c (I i)), (42, .c (.r q0 (rgR (A.take i)))), (43, .c (I (rgR (A.take i)).length)), (44, .c (I k)), (49, .c (.r qs (s4R (sd4 r)))), (50, .c (I (s4R (sd4 r)).length)), (51, .c (I j))] ∧ H = []) ?_ ?_
   ·refine wk_of [] (fun _ => [(0, .c (.r v (rgR A))), (6, .c (I i)), (7, .c (.r qv (pR r))), (9, .c (.r qb (pR r'))), (33, .c (.r v (rgR A))), (34, .c (I (rgR A).length)), (35, .c (I i)), (42, .c (.r q0 (rgR (A.take i)))), (43, .c (I (rgR (A.take i)).length)), (44, .c (I k)), (49, .c (.r qs (s4R (sd4 r)))), (50, .c (I (s4R (sd4 r)).length)), (51, .c (I (0 : Nat)))]) (fun _ => []) (by decide) (ZNL hE) ZCF (fun _ => .nil) (fun _ => ?_)
    exact ⟨r.length, 0, by omega, by rw [hmt, List.drop_zero], rfl, rfl⟩
   rintro m3 F H ⟨j, hj, hjf, rfl, rfl⟩
   refine WA ?_
   refine aw_if rfl (fun hlt3 => ?_) (fun hge3 => ?_)
   ·have hjl : j < r.length := by omega
    have rS := sd4_get hjl
    have pA := ptA_in hri hjl
    have pB := ptA_in hri (i := (j + 1) % r.length) (Nat.mod_lt _ (by omega))
    have hd := anyG_drop (fun s => (sd4 r').any fun t => metB s.1 s.2 t.1 t.2) (l := sd4 r) (k := j) (n := (ptA r j, ptA r ((j + 1) % r.length))) (by unfold sd4; rw [List.getElem?_map, List.getElem?_range hjl]; rfl)
    have hL4 : ∀ t ∈ sd4 r', t.1.in ∧ t.2.in := fun t ht => by
     obtain ⟨x, hx, rfl⟩ := List.mem_map.1 ht
     have hx := List.mem_range.1 hx
     exact ⟨ptA_in hri' hx, ptA_in hri' (Nat.mod_lt _ (by omega))⟩
    generalize ptA r j = sa at rS pA hd
    generalize ptA r ((j + 1) % r.length) = sb at rS pB hd
    obtain ⟨sax, say⟩ := sa
    obtain ⟨sbx, sby⟩ := sb
    simp only at rS hd
    rw [hjf] at hd
    refine WA ?_
    cases hv : (sd4 r').any fun t => metB ⟨sax, say⟩ ⟨sbx, sby⟩ t.1 t.2 with
    | true =>
     rw [hv, Bool.true_or] at hd
     refine WR ?_
     refine al_ef rfl (ef_call0 false (fun _ => rgsides_v r' qb (by omega)) rfl .fn rfl (by decide) (by kernel_rfl) rfl (fun _ => C0 rfl) (by simp)) ?_
     rintro _ _ ⟨_, _, _, ⟨qt, rfl, rfl⟩, hF, hH⟩
     (refine NST hF hH ?_; clear hF hH; rintro rfl rfl)
     refine WO ?_
     refine al_ef rfl (ef_call [0] (fun _ => [b4 (⟨sax, say⟩, ⟨sbx, sby⟩)]) false (fun _ => hasR_v (⟨sax, say⟩, ⟨sbx, sby⟩) (sd4 r') qt (by rw [sd4_len]; omega) pA pB hL4) rfl .fn rfl (by decide) (by kernel_rfl) rfl (fun _ => .cons (.c rfl) (.cons (.fL (.cons (.p rfl) .nil)) .nil)) (by decide) ZCH (by simp)) ?_
     rintro F1 H1 ⟨_, _, _, _, ⟨hu, rfl⟩, hF, hH⟩
     rw [hv] at hu; subst hu
     (refine NSU hF hH ?_; clear hF hH; rintro rfl rfl)
     refine WE ?_
     refine aw_cond_t rfl ?_
     refine WA ?_
     exact aret_1 [] _ rfl rfl rfl (by decide) (ZNK rfl) (fun _ => .nil) ⟨by rw [hyes i k (by omega) (by omega) hd]; rfl, rfl⟩
    | false =>
     rw [hv, Bool.false_or] at hd
     refine WR ?_
     refine al_ef rfl (ef_call0 false (fun _ => rgsides_v r' qb (by omega)) rfl .fn rfl (by decide) (by kernel_rfl) rfl (fun _ => C0 rfl) (by simp)) ?_
     rintro _ _ ⟨_, _, _, ⟨qt, rfl, rfl⟩, hF, hH⟩
     (refine NST hF hH ?_; clear hF hH; rintro rfl rfl)
     refine WO ?_
     refine al_ef rfl (ef_call [0] (fun _ => [b4 (⟨sax, say⟩, ⟨sbx, sby⟩)]) false (fun _ => hasR_v (⟨sax, say⟩, ⟨sbx, sby⟩) (sd4 r') qt (by rw [sd4_len]; omega) pA pB hL4) rfl .fn rfl (by decide) (by kernel_rfl) rfl (fun _ => .cons (.c rfl) (.cons (.fL (.cons (.p rfl) .nil)) .nil)) (by decide) ZCH (by simp)) ?_
     rintro F1 H1 ⟨_, _, _, _, ⟨hu, rfl⟩, hF, hH⟩
     rw [hv] at hu; subst hu
     (refine NSU hF hH ?_; clear hF hH; rintro rfl rfl)
     refine WE ?_
     refine aw_cond_f rfl ?_
     refine ZZ ?_
     refine WA ?_
     refine wk_of [] (fun _ => [(0, .c (.r v (rgR A))), (6, .c (I i)), (7, .c (.r qv (pR r))), (9, .c (.r qb (pR r'))), (33, .c (.r v (rgR A))), (34, .c (I (rgR A).length)), (35, .c (I i)), (42, .c (.r q0 (rgR (A.take i)))), (43, .c (I (rgR (A.take i)).length)), (44, .c (I k)), (49, .c (.r qs (s4R (sd4 r)))), (50, .c (I (s4R (sd4 r)).length)), (51, .c (I (j + 1 : Nat)))]) (fun _ => []) (by decide) (ZNL hE) ZCF (fun _ => .nil) (fun _ => ?_)
     exact ⟨m3 - 1, by omega, j + 1, by omega, hd.symm, rfl, rfl⟩
   have h0 : mtS (A.map Prod.snd) i k = false := by rw [← hjf, List.drop_eq_nil_of_le (by rw [sd4_len]; omega)]; rfl
   refine ZZ ?_
   refine WA ?_
   refine wk_of [] (fun _ => [(0, .c (.r v (rgR A))), (6, .c (I i)), (7, .c (.r qv (pR r))), (33, .c (.r v (rgR A))), (34, .c (I (rgR A).length)), (35, .c (I i)), (42, .c (.r q0 (rgR (A.take i)))), (43, .c (I (rgR (A.take i)).length)), (44, .c (I (k + 1 : Nat)))]) (fun _ => []) (by decide) (ZNL hE) ZCF (fun _ => .nil) (fun _ => ?_)
   refine ⟨m2 - 1, by omega, k + 1, by omega, fun k' h2 => ?_, rfl, rfl⟩
   by_cases e : k' = k
   ·subst e; exact h0
   ·exact hnk k' (by omega)
  obtain rfl : k = i := by omega
  refine ZZ ?_
  refine WA ?_
  refine wk_of [] (fun _ => [(0, .c (.r v (rgR A))), (33, .c (.r v (rgR A))), (34, .c (I (rgR A).length)), (35, .c (I (k + 1 : Nat)))]) (fun _ => []) (by decide) (ZNL hE) ZCF (fun _ => .nil) (fun _ => ?_)
  refine ⟨m - 1, by omega, k + 1, by omega, fun i' k' h1 h2 => ?_, rfl, rfl⟩
  by_cases e : i' = k
  ·subst e; exact hnk k' h2
  ·exact hno i' k' (by omega) h2
 have h5 := hno2 fun i' k h1 h2 => hno i' k (by omega) h2
 rw [h5]
 refine ZZ ?_
 refine WA ?_
 exact aret_1 [] _ rfl rfl rfl (by decide) (ZNK rfl) (fun _ => .nil) ⟨rfl, rfl⟩
end Go.Proofs.YtlblimbelfenaaaGreat

/- The reference's rounding, and twice the area of a ring, by value. -/
-- NEWM
namespace Go.Proofs.YtlblimbelfenaaaGreat
open Go Go.RowKit
set_option maxRecDepth 100000
theorem rflo_v (x b : Int) (h0 : -9000000000000000000 ≤ x ∧ x ≤ 9000000000000000000) (h2 : 1 ≤ b ∧ b ≤ 9000000000000000000) : ACalls Tryz.prog 158 [.c (I x), .c (I b)] [] fun u H => u = .c (I (x / b)) ∧ H = [] := by
 have hq : (x.tdiv b).natAbs ≤ x.natAbs := Int.natAbs_tdiv_le_natAbs x b
 have e1 : wrap64 (x.tdiv b) = x.tdiv b := IntWalk.wrap64_in _ (by constructor <;> omega)
 obtain ⟨e3, e4⟩ := floor_q x b h2.1
 refine acalls_of (N := 16) Tryz.func158 rfl rfl (by simp) fun E hE => ?_
 refine WA ?_
 refine ZR ?_
 iterate 2 refine WX1 ?_
 refine ZA (rd_quoY (z := x.tdiv b) rfl rfl rfl (by omega) e1) ?_
 refine WE ?_
 refine ZR ?_
 iterate 2 refine WX1 ?_
 refine ZA (rd_remY (z := x.tmod b) rfl rfl rfl (by omega) rfl) ?_
 refine WE ?_
 refine aw_if rfl (fun hlt => ?_) (fun hge => ?_)
 ·refine WA ?_
  refine WA ?_
  exact aret_1 [] _ rfl rfl rfl (by decide) (ZNK rfl) (fun _ => .nil) ⟨by rw [e3 hlt], rfl⟩
 ·refine ZZ ?_
  refine WA ?_
  exact aret_1 [] _ rfl rfl rfl (by decide) (ZNK rfl) (fun _ => .nil) ⟨by rw [e4 (by omega)], rfl⟩
theorem rrnd_v (f : Fra) (h1 : -1000000000000000 ≤ f.n ∧ f.n ≤ 1000000000000000) (h2 : 1 ≤ f.d ∧ f.d ≤ 1000000000000000) : ACalls Tryz.prog 119 [.a [.c (I f.n), .c (I f.d)]] [] fun u H => u = .c (I (nearF f)) ∧ H = [] := by
 obtain ⟨n, d⟩ := f
 simp only at h1 h2
 refine acalls_of (N := 13) Tryz.func119 rfl rfl (by simp) fun E hE => ?_
 refine WA ?_
 refine WR ?_
 refine al_ef rfl (ef_call0 false (fun _ => rflo_v (2 * n + d) (2 * d) (by omega) (by omega)) rfl .fn rfl (by decide) (by kernel_rfl) rfl (fun _ => C0 rfl) (by simp)) ?_
 rintro _ _ ⟨_, _, _, ⟨rfl, rfl⟩, hF, hH⟩
 (refine NST hF hH ?_; clear hF hH; rintro rfl rfl)
 refine WE ?_
 exact aret_1 [] _ rfl rfl rfl (by decide) (ZNK rfl) (fun _ => .nil) ⟨rfl, rfl⟩
set_option maxHeartbeats 2000000 in
theorem rdbl_v (l : List P2) (v : Value) (hl : l.length ≤ 1000000) (hp : ∀ p ∈ l, p.in) : ACalls Tryz.prog 67 [.c (.r v (pR l))] [] fun u H => u = .c (I (dblF l)) ∧ H = [] := by
 have e1 : (pR l).length = l.length := by simp
 refine acalls_of (N := 37) Tryz.func67 rfl rfl (by simp) fun E hE => ?_
 refine WA ?_
 refine WA ?_
 refine WA ?_
 refine aw_loopw (fun m F H => ∃ (k : Nat), m + k = l.length ∧ F = [(0, .c (.r v (pR l))), (3, .c (I (dblN l k))), (7, .c (.r v (pR l))), (8, .c (I (pR l).length)), (9, .c (I k))] ∧ H = []) ?_ ?_
 ·refine wk_of [] (fun _ => [(0, .c (.r v (pR l))), (3, .c (I 0)), (7, .c (.r v (pR l))), (8, .c (I (pR l).length)), (9, .c (I (0 : Nat)))]) (fun _ => _) (by decide) (ZNL hE) ZCF (fun _ => .nil) (fun _ => ?_)
  exact ⟨l.length, 0, by omega, rfl, rfl⟩
 rintro m F H ⟨k, hk, rfl, rfl⟩
 refine WA ?_
 refine aw_if rfl (fun hlt => ?_) (fun hge => ?_)
 ·have hkl : k < l.length := by omega
  have hj : (k + 1) % l.length < l.length := Nat.mod_lt _ (by omega)
  have hn : dblN l (k + 1) = dblN l k + crP (ptA l k) (ptA l ((k + 1) % l.length)) := rfl
  have hb := dblN_in hp k (by omega)
  have hb2 := dblN_in hp (k + 1) (by omega)
  have pk := ptA_in hp hkl
  have pj := ptA_in hp hj
  have hc := crP_in pk pj
  have rk := prow hkl
  have rj := prow hj
  rw [hn] at hb2
  generalize dblN l k = D at hn hb hb2 ⊢
  have hmz : (((k : Int) + 1) % (l.length : Int)) = ((k + 1) % l.length : Nat) := by simp
  generalize (k + 1) % l.length = j at *
  generalize ptA l k = a at *
  generalize ptA l j = b at *
  obtain ⟨ax, ay⟩ := a
  obtain ⟨bx, by'⟩ := b
  simp only [crP, P2.in] at *
  refine ZR ?_
  refine WX1 ?_
  refine ZA (rd_indexq (i := k) rfl (KE (t := 107) rfl) rfl rfl rfl rk rfl) ?_
  refine WE ?_
  refine ZR ?_
  iterate 5 refine WX1 ?_
  refine ZA (rd_remY (z := (j : Int)) rfl rfl rfl (by omega) (by rw [Int.tmod_eq_emod_of_nonneg (by omega)]; simpa using hmz)) ?_
  refine WE ?_
  refine WA ?_
  refine WA ?_
  refine wk_of [] (fun _ => [(0, .c (.r v (pR l))), (3, .c (I (D + (ax * by' - ay * bx)))), (7, .c (.r v (pR l))), (8, .c (I (pR l).length)), (9, .c (I (k + 1 : Nat)))]) (fun _ => []) (by decide) (ZNL hE) ZCF (fun _ => .nil) (fun _ => ?_)
  exact ⟨m - 1, by omega, k + 1, by omega, by rw [hn], rfl⟩
 obtain rfl : k = l.length := by omega
 refine ZZ ?_
 refine WA ?_
 exact aret_1 [] _ rfl rfl rfl (by decide) (ZNK rfl) (fun _ => .nil) ⟨rfl, rfl⟩
end Go.Proofs.YtlblimbelfenaaaGreat
