/- Plain law: two ways to say that ways meet. -/
import Derived.Test.YtlblimbelfenaaaGreatQay
set_option linter.unusedSimpArgs false
set_option linter.unusedVariables false
/- The ring of a contour, by value. -/
-- NEWM
namespace Go.Proofs.YtlblimbelfenaaaGreat
open Go Go.RowKit
set_option maxRecDepth 100000
theorem compG_last {α : Type} [DecidableEq α] : ∀ l : List α, (compG l).getLast? = l.getLast?
 | [] => rfl
 | [_] => rfl
 | x :: y :: l => by
  have ih := compG_last (y :: l)
  unfold compG
  split
  ·rw [ih]; simp
  ·cases h : compG (y :: l) with
   | nil =>
    rw [h] at ih
    exact absurd ih.symm (by rw [show ([] : List α).getLast? = none from rfl, List.getLast?_eq_none_iff]; simp)
   | cons a t => rw [h] at ih; rw [List.getLast?_cons_cons, ih]; simp
theorem compG_push {α : Type} [DecidableEq α] (L : List α) (p : α) : compG (L ++ [p]) = if (compG L).getLast? = some p then compG L else compG L ++ [p] := by
 cases h : L.getLast? with
 | none =>
  rw [List.getLast?_eq_none_iff] at h
  subst h
  simp [compG]
 | some y =>
  rw [compG_snoc h, compG_last, h]
  simp
theorem trimE_go {A : List P2} {n : Nat} {a b : P2} (hn : n ≤ A.length) (h1 : 1 < n) (ha : A[n - 1]? = some a) (hb : A[0]? = some b) : trimE (A.take n) = if a = b then trimE (A.take (n - 1)) else A.take n := by
 have hl : (A.take n).length = n := by rw [List.length_take]; omega
 have e1 : (A.take n).getLast? = some a := by
  rw [List.getLast?_eq_getElem?, hl, List.getElem?_take, if_pos (by omega)]; exact ha
 have e2 : (A.take n).head? = some b := by
  rw [List.head?_eq_getElem?, List.getElem?_take, if_pos (by omega)]; exact hb
 split
 ·rename_i e
  rw [trimE_step (by omega) (by rw [e1, e2, e]), List.dropLast_eq_take, hl, List.take_take]
  congr 2; omega
 ·rename_i e
  refine trimE_stop fun h => e ?_
  have := h.2
  rw [e1, e2] at this
  injection this
theorem p2_eq (a b : P2) : a = b ↔ (a.x = b.x ∧ a.y = b.y) := by
 obtain ⟨x, y⟩ := a
 obtain ⟨z, w⟩ := b
 simp
abbrev mB (v w : Value) (V : List Vec3) (Fs : List Fac3) : OB := mBox v w V (fR Fs)
set_option maxHeartbeats 8000000 in
theorem ringof_v (v w pv : Value) (V : List Vec3) (Fs : List Fac3) (z : Int) (ps : List Sid2) (pb : Bool) (hM : MOk V Fs) (hz : -100000 ≤ z ∧ z ≤ 100000) (hl : ps.length ≤ 1000000) (hs : ∀ s ∈ ps, Cuts' V z s) : ACalls Tryz.prog 114 [mshA v w V Fs, .a [.c (.r pv (sR ps)), .c (B pb)], .c (I z)] [] fun u H => ∃ q, u = .c (.r q (pR (ringV V z ps))) ∧ H = [] := by
 have e1 : (sR ps).length = ps.length := by simp
 refine acalls_of (N := 69) Tryz.func114 rfl rfl (by simp) fun E hE => ?_
 refine WA ?_
 refine WA ?_
 refine WA ?_
 refine aw_loopw (fun m F H => ∃ (k c : Nat) (A : List P2), m + k = ps.length ∧ A.length ≤ k ∧ A.length ≤ c ∧ A = compG ((ps.take k).map (ptV V z)) ∧ F = [(2, .c (I z)), (3, .p 0 0 0), (4, .p 1 0 0), (7, .o 2 0 A.length c), (13, .c (.r pv (sR ps))), (14, .c (I (sR ps).length)), (15, .c (I k))] ∧ H = [mB v w V Fs, .box [.c (.r pv (sR ps)), .c (B pb)], .arr 119 2 c (pR A)]) ?_ ?_
 ·refine wk_of [some 0, some 1, none] (fun _ => [(2, .c (I z)), (3, .p 0 0 0), (4, .p 1 0 0), (7, .o 2 0 0 0), (13, .c (.r pv (sR ps))), (14, .c (I (sR ps).length)), (15, .c (I (0 : Nat)))]) (fun _ => [mB v w V Fs, .box [.c (.r pv (sR ps)), .c (B pb)], .arr 119 2 0 []]) (by decide) (ZNL hE) ZCF ZCH (fun _ => ?_)
  exact ⟨ps.length, 0, 0, [], by omega, by simp, by simp, rfl, rfl, rfl⟩
 rintro m F H ⟨k, c, A, hk, hAk, hcap, hA, rfl, rfl⟩
 refine WA ?_
 refine aw_if rfl (fun hlt => ?_) (fun hge => ?_)
 ·obtain ⟨s, hsk⟩ : ∃ s, ps[k]? = some s := ⟨_, List.getElem?_eq_getElem (by omega)⟩
  have hsc := hs s (List.mem_of_getElem? hsk)
  have hrow : (sR ps)[k]? = some [I s.f, I s.t] := by rw [List.getElem?_map, hsk]; rfl
  have hnx : compG ((ps.take (k + 1)).map (ptV V z)) = if A.getLast? = some (ptV V z s) then A else A ++ [ptV V z s] := by
   rw [take_snoc hsk, List.map_append, List.map_singleton, compG_push, ← hA]
  have hpt : ptV V z s = ⟨nearF (cutV V z s).x, nearF (cutV V z s).y⟩ := rfl
  obtain ⟨hb1, hb2⟩ := cut6_small hM hsc hz
  clear hsk hs
  obtain ⟨sf, st⟩ := s
  have hcv : (cutV V z ⟨sf, st⟩).row = [I sf, I st, I (cutV V z ⟨sf, st⟩).x.n, I (cutV V z ⟨sf, st⟩).x.d, I (cutV V z ⟨sf, st⟩).y.n, I (cutV V z ⟨sf, st⟩).y.d] := rfl
  rw [hpt] at hnx
  clear hpt
  generalize (cutV V z ⟨sf, st⟩).x = f1 at hcv hnx hb1
  generalize (cutV V z ⟨sf, st⟩).y = f2 at hcv hnx hb2
  obtain ⟨xn, xd⟩ := f1
  obtain ⟨yn, yd⟩ := f2
  simp only at hcv hb1 hb2 hrow
  refine WA ?_
  refine WR ?_
  refine al_ef rfl (ef_call0 false (fun _ => cut_p v w V Fs z ⟨sf, st⟩ hM hsc hz) rfl .fn rfl (by decide) (by kernel_rfl) rfl (fun _g => .cons (.aL (C0 rfl)) (.cons (.aL (C0 rfl)) (.cons (.c rfl) .nil))) (by simp)) ?_
  rintro _ _ ⟨_, _, _, ⟨rfl, rfl⟩, hF, hH⟩
  rw [hcv] at hF
  (refine NST hF hH ?_; clear hF hH; rintro rfl rfl)
  refine WE ?_
  refine aw_cut (fun F H => F = [(2, .c (I z)), (3, .p 0 0 0), (4, .p 1 0 0), (7, .o 2 0 A.length c), (11, .p 3 0 0), (13, .c (.r pv (sR ps))), (14, .c (I (sR ps).length)), (15, .c (I k))] ∧ H = [mB v w V Fs, .box [.c (.r pv (sR ps)), .c (B pb)], .arr 119 2 c (pR A), .box [.c (I (nearF ⟨xn, xd⟩)), .c (I (nearF ⟨yn, yd⟩))]]) ?_ ?_ wk_aw
  ·refine ZZ ?_
   refine aw_regionM [[(0, none), (1, none), (3, none), (4, none), (2, some [3, 4]), (5, some []), (6, none), (7, some [0, 1, 3, 4, 6]), (8, some [])], [(0, none), (1, none), (3, none), (4, none), (2, some [3, 4]), (7, some [0, 1, 3, 4]), (5, some []), (6, none), (8, some [])], [(0, none), (1, none), (3, none), (4, none), (7, some [0, 1, 3, 4]), (2, some [3, 4]), (5, some []), (6, none), (8, some [])]] hMixed (by kernel_rfl) ?_
   focus
    refine WM ?_
    refine am_two (by rfl) (by rfl) (by rfl) ?_ ?_
    rotate_left
    refine WM ?_
    refine am_ef (i := 2) (by rfl) (by rfl) rfl rfl (ef_call0 false (fun _ => rnd_v ⟨xn, xd⟩ (by simp only; omega) (by simp only; omega)) rfl .fn rfl (by decide) (by kernel_rfl) rfl (fun _g => .cons (.aL (C0 rfl)) .nil) (by simp)) ?_
    rintro _ _ ⟨_, _, _, ⟨rfl, rfl⟩, hF, hH⟩
    (refine NST hF hH ?_; clear hF hH; rintro rfl rfl)
    refine ⟨AGX, ?_⟩
    refine am_ef (i := 5) (by rfl) (by rfl) rfl rfl (ef_call0 false (fun _ => rnd_v ⟨yn, yd⟩ (by simp only; omega) (by simp only; omega)) rfl .fn rfl (by decide) (by kernel_rfl) rfl (fun _g => .cons (.aL (C0 rfl)) .nil) (by simp)) ?_
    rintro _ _ ⟨_, _, _, ⟨rfl, rfl⟩, hF, hH⟩
    (refine NST hF hH ?_; clear hF hH; rintro rfl rfl)
    refine ⟨AGX, ?_⟩
    refine WN ?_
    rotate_right
    refine am_ef (i := 2) (by rfl) (by rfl) rfl rfl (ef_call0 false (fun _ => rnd_v ⟨xn, xd⟩ (by simp only; omega) (by simp only; omega)) rfl .fn rfl (by decide) (by kernel_rfl) rfl (fun _g => .cons (.aL (C0 rfl)) .nil) (by simp)) ?_
    rintro _ _ ⟨_, _, _, ⟨rfl, rfl⟩, hF, hH⟩
    (refine NST hF hH ?_; clear hF hH; rintro rfl rfl)
    refine ⟨AGX, ?_⟩
    refine am_two (by rfl) (by rfl) (by rfl) ?_ ?_
    rotate_left
    refine WM ?_
    refine am_ef (i := 5) (by rfl) (by rfl) rfl rfl (ef_call0 false (fun _ => rnd_v ⟨yn, yd⟩ (by simp only; omega) (by simp only; omega)) rfl .fn rfl (by decide) (by kernel_rfl) rfl (fun _g => .cons (.aL (C0 rfl)) .nil) (by simp)) ?_
    rintro _ _ ⟨_, _, _, ⟨rfl, rfl⟩, hF, hH⟩
    (refine NST hF hH ?_; clear hF hH; rintro rfl rfl)
    refine ⟨AGX, ?_⟩
    refine WN ?_
    rotate_right
    refine am_ef (i := 5) (by rfl) (by rfl) rfl rfl (ef_call0 false (fun _ => rnd_v ⟨yn, yd⟩ (by simp only; omega) (by simp only; omega)) rfl .fn rfl (by decide) (by kernel_rfl) rfl (fun _g => .cons (.aL (C0 rfl)) .nil) (by simp)) ?_
    rintro _ _ ⟨_, _, _, ⟨rfl, rfl⟩, hF, hH⟩
    (refine NST hF hH ?_; clear hF hH; rintro rfl rfl)
    refine ⟨AGX, ?_⟩
    refine WN ?_
   all_goals (exact wk_of [some 0, some 1, some 2, some 5] (fun _ => [(2, .c (I z)), (3, .p 0 0 0), (4, .p 1 0 0), (7, .o 2 0 A.length c), (11, .p 3 0 0), (13, .c (.r pv (sR ps))), (14, .c (I (sR ps).length)), (15, .c (I k))]) (fun _ => _) (by decide) (ZNL hE) ZCF ZCH (fun _ => ⟨rfl, rfl⟩))
  rintro F H ⟨rfl, rfl⟩
  generalize nearF ⟨xn, xd⟩ = px at hnx ⊢
  generalize nearF ⟨yn, yd⟩ = py at hnx ⊢
  clear hcv hb1 hb2 hrow
  have eA : (pR A).length = A.length := by simp
  refine ZZ ?_
  refine aw_cut (fun F H => ∃ b : Bool, (b = true ↔ A.getLast? ≠ some ⟨px, py⟩) ∧ F = [(2, .c (I z)), (3, .p 0 0 0), (4, .p 1 0 0), (7, .o 2 0 A.length c), (11, .p 3 0 0), (13, .c (.r pv (sR ps))), (14, .c (I (sR ps).length)), (15, .c (I k)), (42, .c (B b))] ∧ H = [mB v w V Fs, .box [.c (.r pv (sR ps)), .c (B pb)], .arr 119 2 c (pR A), .box [.c (I px), .c (I py)]]) ?_ ?_ wk_aw
  ·by_cases hA0 : A.length = 0
   ·have hA1 : A = [] := List.eq_nil_of_length_eq_zero hA0
    refine ZZ ?_
    refine aw_regionT [(0, none), (1, none), (2, none), (3, none), (4, none), (5, none), (6, none), (7, none), (8, none), (9, none), (10, none), (11, none), (12, none)] hMixed (by kernel_rfl) ?_
    iterate 8 refine WX2 ?_
    first | refine ZU rfl (rd_index (i := A.length - 1) rfl (KE (t := 107) rfl) rfl rfl rfl (by omega) (by omega)) ?_ | refine ZV ?_
    iterate 2 refine WX2 ?_
    first | refine ZU rfl (rd_neqa119 rfl rfl rfl) ?_ | refine ZV ?_
    refine WQ ?_
    all_goals (exact wk_of [some 0, some 1, some 2, some 3] (fun _ => [(2, .c (I z)), (3, .p 0 0 0), (4, .p 1 0 0), (7, .o 2 0 A.length c), (11, .p 3 0 0), (13, .c (.r pv (sR ps))), (14, .c (I (sR ps).length)), (15, .c (I k)), (42, .c (B true))]) (fun _ => _) (by decide) (ZNL hE) ZCF ZCH (fun _ => ⟨true, by simp [hA1], rfl, rfl⟩))
   ·obtain ⟨a, ha⟩ : ∃ a, A[A.length - 1]? = some a := ⟨_, List.getElem?_eq_getElem (by omega)⟩
    have hgl : A.getLast? = some a := by rw [List.getLast?_eq_getElem?]; exact ha
    have hra : (pR A)[A.length - 1]? = some [I a.x, I a.y] := by rw [List.getElem?_map, ha]; rfl
    rw [hgl]
    have hpq : (some a ≠ some (⟨px, py⟩ : P2)) ↔ ¬ (a.x = px ∧ a.y = py) := by rw [ne_eq, Option.some.injEq, p2_eq]
    rw [hpq]
    clear hgl ha hpq
    obtain ⟨ax, ay⟩ := a
    simp only at hra ⊢
    refine ZZ ?_
    refine aw_regionT [(0, none), (1, none), (2, none), (3, none), (4, none), (5, none), (6, none), (7, none), (8, none), (9, none), (10, none), (11, none), (12, none)] hMixed (by kernel_rfl) ?_
    iterate 8 refine WX2 ?_
    first | refine ZU rfl (rd_index (i := A.length - 1) rfl (KE (t := 107) rfl) rfl rfl rfl (by omega) (by omega)) ?_ | refine ZV ?_
    iterate 2 refine WX2 ?_
    first | refine ZU rfl (rd_neqa119 rfl rfl rfl) ?_ | refine ZV ?_
    refine WQ ?_
    all_goals (exact wk_of [some 0, some 1, some 2, some 3] (fun _ => [(2, .c (I z)), (3, .p 0 0 0), (4, .p 1 0 0), (7, .o 2 0 A.length c), (11, .p 3 0 0), (13, .c (.r pv (sR ps))), (14, .c (I (sR ps).length)), (15, .c (I k)), (42, .c (B (decide (¬ (ax = px ∧ ay = py)))))]) (fun _ => _) (by decide) (ZNL hE) ZCF ZCH (fun _ => ⟨_, by rw [decide_eq_true_iff], rfl, rfl⟩))
  rintro F H ⟨b, hb, rfl, rfl⟩
  refine ZZ ?_
  refine aw_cond rfl (fun hbt => ?_) (fun hbf => ?_)
  ·have hnx2 : compG ((ps.take (k + 1)).map (ptV V z)) = A ++ [⟨px, py⟩] := by rw [hnx, if_neg (hb.1 (by simpa using hbt))]
   refine WR ?_
   refine al_ef rfl (Zapp (KA (t := 107) rfl)) ?_
   rintro _ _ ⟨_, cc, hcc, rfl, rfl⟩
   refine WE ?_
   refine WA ?_
   all_goals (refine wk_of [some 0, some 1, some 2] (fun _ => [(2, .c (I z)), (3, .p 0 0 0), (4, .p 1 0 0), (7, .o 2 0 (A ++ [(⟨px, py⟩ : P2)]).length _), (13, .c (.r pv (sR ps))), (14, .c (I (sR ps).length)), (15, .c (I (k + 1 : Nat)))]) (fun _ => _) (by decide) (ZNL hE) ZCF ZCH (fun _ => ?_))
   all_goals (exact ⟨m - 1, by omega, k + 1, _, A ++ [⟨px, py⟩], by omega, by simp; omega, by simp; omega, hnx2.symm, rfl, by simp [pR]⟩)
  ·have hnx2 : compG ((ps.take (k + 1)).map (ptV V z)) = A := by
    rw [hnx, if_pos]
    by_cases h : A.getLast? = some ⟨px, py⟩
    ·exact h
    ·rw [hb.2 h] at hbf; simp at hbf
   refine ZZ ?_
   refine WA ?_
   refine wk_of [some 0, some 1, some 2] (fun _ => [(2, .c (I z)), (3, .p 0 0 0), (4, .p 1 0 0), (7, .o 2 0 A.length c), (13, .c (.r pv (sR ps))), (14, .c (I (sR ps).length)), (15, .c (I (k + 1 : Nat)))]) (fun _ => _) (by decide) (ZNL hE) ZCF ZCH (fun _ => ?_)
   exact ⟨m - 1, by omega, k + 1, c, A, by omega, by omega, by omega, hnx2.symm, rfl, rfl⟩
 obtain rfl : k = ps.length := by omega
 rw [List.take_of_length_le (Nat.le_refl _)] at hA
 refine ZZ ?_
 have hR : trimE (A.take A.length) = ringV V z ps := by rw [List.take_of_length_le (Nat.le_refl _), hA]; rfl
 have eA : (pR A).length = A.length := by simp
 generalize ringV V z ps = R at hR ⊢
 refine aw_loopw (fun m F H => m ≤ A.length ∧ trimE (A.take m) = R ∧ F = [(7, .o 0 0 m c)] ∧ H = [.arr 119 2 c (pR A)]) ?_ ?_
 ·refine wk_of [some 2] (fun _ => [(7, .o 0 0 A.length c)]) (fun _ => _) (by decide) (ZNL hE) ZCF ZCH (fun _ => ?_)
  exact ⟨A.length, Nat.le_refl _, hR, rfl, rfl⟩
 rintro n F H ⟨hn, hR, rfl, rfl⟩
 by_cases h1 : 1 < n
 ·obtain ⟨a, ha⟩ : ∃ a, A[n - 1]? = some a := ⟨_, List.getElem?_eq_getElem (by omega)⟩
  obtain ⟨b, hb⟩ : ∃ a, A[0]? = some a := ⟨_, List.getElem?_eq_getElem (by omega)⟩
  have hra : (pR A)[n - 1]? = some [I a.x, I a.y] := by rw [List.getElem?_map, ha]; rfl
  have hrb : (pR A)[0]? = some [I b.x, I b.y] := by rw [List.getElem?_map, hb]; rfl
  have hgo := trimE_go hn h1 ha hb
  rw [hR] at hgo
  simp only [p2_eq] at hgo
  clear ha hb
  obtain ⟨ax, ay⟩ := a
  obtain ⟨bx, by'⟩ := b
  simp only at hra hrb hgo
  refine ZZ ?_
  refine aw_cut (fun F H => F = [(7, .o 0 0 n c), (62, .c (B (decide (ax = bx ∧ ay = by'))))] ∧ H = [.arr 119 2 c (pR A)]) ?_ ?_ wk_aw
  ·refine ZZ ?_
   refine aw_regionT [(0, none), (1, none), (2, none), (3, none), (4, none), (5, none), (6, none), (7, none), (8, none), (9, none), (10, none), (11, none), (12, none), (13, none), (14, none)] hMixed (by kernel_rfl) ?_
   iterate 8 refine WX2 ?_
   first | refine ZU rfl (rd_index (i := n - 1) rfl (KE (t := 107) rfl) rfl rfl rfl (by omega) (by omega)) ?_ | refine ZV ?_
   iterate 2 refine WX2 ?_
   first | refine ZU rfl (rd_index (i := 0) rfl (KE (t := 107) rfl) rfl rfl rfl rfl (by omega)) ?_ | refine ZV ?_
   refine WX2 ?_
   first | refine ZU rfl (rd_eqla119 rfl rfl rfl) ?_ | refine ZV ?_
   refine WQ ?_
   all_goals (exact wk_of [some 0] (fun _ => [(7, .o 0 0 n c), (62, .c (B (decide (ax = bx ∧ ay = by'))))]) (fun _ => _) (by decide) (ZNL hE) ZCF ZCH (fun _ => ⟨rfl, rfl⟩))
  rintro F H ⟨rfl, rfl⟩
  refine ZZ ?_
  refine aw_if rfl (fun he => ?_) (fun hne => ?_)
  ·rw [if_pos he] at hgo
   refine ZR ?_
   iterate 4 refine WX1 ?_
   refine ZA (rd_slice (l := 0) (h := n - 1) rfl (KE (t := 107) rfl) rfl rfl (.inl ⟨rfl, rfl⟩) (.inr ⟨_, _, _, rfl, rfl, by omega⟩) (by omega) (by omega) (by omega)) ?_
   refine WE ?_
   refine wk_of [some 0] (fun _ => [(7, .o 0 0 (n - 1) c)]) (fun _ => _) (by decide) (ZNL hE) ZCF ZCH (fun _ => ?_)
   exact ⟨n - 1, by omega, by omega, hgo.symm, rfl, rfl⟩
  ·rw [if_neg hne] at hgo
   refine ZZ ?_
   refine WA ?_
   exact aret_f1 [] _ rfl rfl rfl rfl (by rw [List.drop_zero, ← List.map_take]) (by simp; omega) rfl (by decide) (ZNK rfl) (fun _ => .nil) (fun q => ⟨q, by rw [hgo], rfl⟩)
 ·have hst : A.take n = R := by rw [← hR, trimE_stop]; rw [List.length_take]; omega
  refine ZZ ?_
  refine aw_cut (fun F H => F = [(7, .o 0 0 n c), (62, .c (B false))] ∧ H = [.arr 119 2 c (pR A)]) ?_ ?_ wk_aw
  ·refine ZZ ?_
   refine aw_regionT [(0, none), (1, none), (2, none), (3, none), (4, none), (5, none), (6, none), (7, none), (8, none), (9, none), (10, none), (11, none), (12, none), (13, none), (14, none)] hMixed (by kernel_rfl) ?_
   iterate 8 refine WX2 ?_
   first | refine ZU rfl (rd_index (i := n - 1) rfl (KE (t := 107) rfl) rfl rfl rfl (by omega) (by omega)) ?_ | refine ZV ?_
   iterate 2 refine WX2 ?_
   first | refine ZU rfl (rd_index (i := 0) rfl (KE (t := 107) rfl) rfl rfl rfl rfl (by omega)) ?_ | refine ZV ?_
   refine WX2 ?_
   first | refine ZU rfl (rd_eqla119 rfl rfl rfl) ?_ | refine ZV ?_
   refine WQ ?_
   all_goals (exact wk_of [some 0] (fun _ => [(7, .o 0 0 n c), (62, .c (B false))]) (fun _ => _) (by decide) (ZNL hE) ZCF ZCH (fun _ => ⟨rfl, rfl⟩))
  rintro F H ⟨rfl, rfl⟩
  refine ZZ ?_
  refine aw_cond_f rfl ?_
  refine ZZ ?_
  refine WA ?_
  exact aret_f1 [] _ rfl rfl rfl rfl (by rw [List.drop_zero, ← List.map_take]) (by simp; omega) rfl (by decide) (ZNK rfl) (fun _ => .nil) (fun q => ⟨q, by rw [hst], rfl⟩)
end Go.Proofs.YtlblimbelfenaaaGreat

/- Ways of regions: turns, ways that meet, ways that fold back, by value. -/
-- NEWM
namespace Go.Proofs.YtlblimbelfenaaaGreat
open Go Go.RowKit
set_option maxRecDepth 100000
def trn (a b c : P2) : Int := (b.x - a.x) * (c.y - a.y) - (b.y - a.y) * (c.x - a.x)
def apaB (a b c d : Int) : Bool := decide (max a b < min c d) || decide (max c d < min a b)
def acrB (m n : Int) : Bool := decide (min m n ≤ 0) && decide (0 ≤ max m n)
def metB (a b c d : P2) : Bool := !(apaB a.x b.x c.x d.x || apaB a.y b.y c.y d.y) && (acrB (trn a b c) (trn a b d) && acrB (trn c d a) (trn c d b))
def fldB (o a b : P2) : Bool := decide (trn o a b = 0) && decide (0 < (a.x - o.x) * (b.x - o.x) + (a.y - o.y) * (b.y - o.y))
theorem pro_in {x y : Int} (hx : -200000 ≤ x ∧ x ≤ 200000) (hy : -200000 ≤ y ∧ y ≤ 200000) : -40000000000 ≤ x * y ∧ x * y ≤ 40000000000 := by
 have h : (x * y).natAbs ≤ 200000 * 200000 := by rw [Int.natAbs_mul]; exact Nat.mul_le_mul (by omega) (by omega)
 omega
theorem turn_v (a b c : P2) (ha : a.in) (hb : b.in) (hc : c.in) : ACalls Tryz.prog 212 [.a [.c (I a.x), .c (I a.y)], .a [.c (I b.x), .c (I b.y)], .a [.c (I c.x), .c (I c.y)]] [] fun u H => u = .c (I (trn a b c)) ∧ H = [] := by
 obtain ⟨ax, ay⟩ := a
 obtain ⟨bx, by'⟩ := b
 obtain ⟨cx, cy⟩ := c
 simp only [P2.in] at ha hb hc
 have p1 := pro_in (x := bx - ax) (y := cy - ay) (by omega) (by omega)
 have p2 := pro_in (x := by' - ay) (y := cx - ax) (by omega) (by omega)
 simp only [trn]
 refine acalls_of (N := 30) Tryz.func212 rfl rfl (by simp) fun E hE => ?_
 refine WA ?_
 refine WA ?_
 exact aret_1 [] _ rfl rfl rfl (by decide) (ZNK rfl) (fun _ => .nil) ⟨rfl, rfl⟩
theorem apart_v (a b c d : Int) : ACalls Tryz.prog 210 [.c (I a), .c (I b), .c (I c), .c (I d)] [] fun u H => u = .c (B (apaB a b c d)) ∧ H = [] := by
 refine acalls_of (N := 25) Tryz.func210 rfl rfl (by simp) fun E hE => ?_
 by_cases h : max a b < min c d
 ·have e : apaB a b c d = true := by simp [apaB, h]
  rw [e]
  refine WA ?_
  refine WA ?_
  exact aret_1 [] _ rfl rfl rfl (by decide) (ZNK rfl) (fun _ => .nil) ⟨rfl, rfl⟩
 ·have e : apaB a b c d = decide (max c d < min a b) := by simp [apaB, h]
  rw [e]
  refine WA ?_
  refine WA ?_
  exact aret_1 [] _ rfl rfl rfl (by decide) (ZNK rfl) (fun _ => .nil) ⟨rfl, rfl⟩
theorem acr_v (m n : Int) : ACalls Tryz.prog 211 [.c (I m), .c (I n)] [] fun u H => u = .c (B (acrB m n)) ∧ H = [] := by
 refine acalls_of (N := 15) Tryz.func211 rfl rfl (by simp) fun E hE => ?_
 by_cases h : min m n ≤ 0
 ·have e : acrB m n = decide (0 ≤ max m n) := by simp [acrB, h]
  rw [e]
  refine WA ?_
  refine WA ?_
  exact aret_1 [] _ rfl rfl rfl (by decide) (ZNK rfl) (fun _ => .nil) ⟨rfl, rfl⟩
 ·have e : acrB m n = false := by simp [acrB, h]
  rw [e]
  refine WA ?_
  refine WA ?_
  exact aret_1 [] _ rfl rfl rfl (by decide) (ZNK rfl) (fun _ => .nil) ⟨rfl, rfl⟩
theorem folds_v (o a b : P2) (ho : o.in) (ha : a.in) (hb : b.in) : ACalls Tryz.prog 238 [.a [.c (I o.x), .c (I o.y)], .a [.c (I a.x), .c (I a.y)], .a [.c (I b.x), .c (I b.y)]] [] fun u H => u = .c (B (fldB o a b)) ∧ H = [] := by
 have ho2 := ho; have ha2 := ha; have hb2 := hb
 simp only [P2.in] at ho2 ha2 hb2
 have p1 := pro_in (x := a.x - o.x) (y := b.x - o.x) (by omega) (by omega)
 have p2 := pro_in (x := a.y - o.y) (y := b.y - o.y) (by omega) (by omega)
 refine acalls_of (N := 38) Tryz.func238 rfl rfl (by simp) fun E hE => ?_
 by_cases h : trn o a b = 0
 ·have e : fldB o a b = decide (0 < (a.x - o.x) * (b.x - o.x) + (a.y - o.y) * (b.y - o.y)) := by simp [fldB, h]
  rw [e]
  refine WA ?_
  refine WR ?_
  refine al_ef rfl (ef_call0 false (fun _ => turn_v o a b ho ha hb) rfl .fn rfl (by decide) (by kernel_rfl) rfl (fun _g => .cons (.aL (C0 rfl)) (.cons (.aL (C0 rfl)) (.cons (.aL (C0 rfl)) .nil))) (by simp)) ?_
  rintro _ _ ⟨_, _, _, ⟨rfl, rfl⟩, hF, hH⟩
  (refine NST hF hH ?_; clear hF hH; rintro rfl rfl)
  refine WE ?_
  exact aret_1 [] _ rfl rfl rfl (by decide) (ZNK rfl) (fun _ => .nil) ⟨rfl, rfl⟩
 ·have e : fldB o a b = false := by simp [fldB, h]
  rw [e]
  refine WA ?_
  refine WR ?_
  refine al_ef rfl (ef_call0 false (fun _ => turn_v o a b ho ha hb) rfl .fn rfl (by decide) (by kernel_rfl) rfl (fun _g => .cons (.aL (C0 rfl)) (.cons (.aL (C0 rfl)) (.cons (.aL (C0 rfl)) .nil))) (by simp)) ?_
  rintro _ _ ⟨_, _, _, ⟨rfl, rfl⟩, hF, hH⟩
  (refine NST hF hH ?_; clear hF hH; rintro rfl rfl)
  refine WE ?_
  exact aret_1 [] _ rfl rfl rfl (by decide) (ZNK rfl) (fun _ => .nil) ⟨rfl, rfl⟩
end Go.Proofs.YtlblimbelfenaaaGreat

/- Plain law: two ways to say that ways meet. -/
namespace Go.Proofs.YtlblimbelfenaaaGreat
def Acr (m n : Int) : Prop := min m n ≤ 0 ∧ 0 ≤ max m n
def InR (e p q : Int) : Prop := min p q ≤ e ∧ e ≤ max p q
def OnP (p a b : P2) : Prop := trn a b p = 0 ∧ InR p.x a.x b.x ∧ InR p.y a.y b.y
def Opp (m n : Int) : Prop := (m < 0 ∧ 0 < n) ∨ (0 < m ∧ n < 0)
def MtP (a b c d : P2) : Prop := OnP a c d ∨ OnP b c d ∨ OnP c a b ∨ OnP d a b ∨ (Opp (trn a b c) (trn a b d) ∧ Opp (trn c d a) (trn c d b))
theorem i1 (a b c d : P2) : trn a b d - trn a b c = trn c d a - trn c d b := by
 unfold trn; grind
theorem i2 (a b c d : P2) : trn a b d * c.x - trn a b c * d.x = trn c d a * b.x - trn c d b * a.x := by
 unfold trn; grind
theorem i3 (a b c d : P2) : trn a b d * c.y - trn a b c * d.y = trn c d a * b.y - trn c d b * a.y := by
 unfold trn; grind
theorem i4 (a b c d : P2) : (d.x - c.x) * trn a b c = (c.x - a.x) * (trn a b d - trn a b c) - (b.x - a.x) * trn c d a := by
 unfold trn; grind
theorem i5 (a b c d : P2) : (d.y - c.y) * trn a b c = (c.y - a.y) * (trn a b d - trn a b c) - (b.y - a.y) * trn c d a := by
 unfold trn; grind
theorem conv1 {a b c t s : Int} (h : c * (t - s) = t * b - s * a) (h1 : s < t) (h2 : s ≤ 0) (h3 : 0 ≤ t) : InR c a b := by
 have u1 : t * b ≤ t * max a b := Int.mul_le_mul_of_nonneg_left (by omega) h3
 have u2 : -s * a ≤ -s * max a b := Int.mul_le_mul_of_nonneg_left (by omega) (by omega)
 have u3 : t * min a b ≤ t * b := Int.mul_le_mul_of_nonneg_left (by omega) h3
 have u4 : -s * min a b ≤ -s * a := Int.mul_le_mul_of_nonneg_left (by omega) (by omega)
 have u5 : -s * a = -(s * a) := by rw [Int.neg_mul]
 have u6 : -s * max a b = -(s * max a b) := by rw [Int.neg_mul]
 have u7 : -s * min a b = -(s * min a b) := by rw [Int.neg_mul]
 have u8 : max a b * (t - s) = t * max a b - s * max a b := by rw [Int.mul_sub, Int.mul_comm, Int.mul_comm _ s]
 have u9 : min a b * (t - s) = t * min a b - s * min a b := by rw [Int.mul_sub, Int.mul_comm, Int.mul_comm _ s]
 constructor
 ·exact Int.le_of_mul_le_mul_right (a := t - s) (by omega) (by omega)
 ·exact Int.le_of_mul_le_mul_right (a := t - s) (by omega) (by omega)
theorem conv {a b c t s : Int} (h : c * (t - s) = t * b - s * a) (hne : t ≠ s) (ha : Acr t s) : InR c a b := by
 unfold Acr at ha
 rcases Int.lt_or_lt_of_ne hne with h1 | h1
 ·have h' : c * (s - t) = s * a - t * b := by
   rw [show s - t = -(t - s) by omega, Int.mul_neg, h]; omega
  have := conv1 (a := b) (b := a) h' h1 (by omega) (by omega)
  unfold InR at this ⊢
  omega
 ·exact conv1 h h1 (by omega) (by omega)
theorem over1 {a b c d t1 t2 t3 t4 : Int} (h : t2 * c - t1 * d = t3 * b - t4 * a) (hD : t2 - t1 = t3 - t4) (h0 : t1 < t2) (h1 : t1 ≤ 0 ∧ 0 ≤ t2) (h2 : t4 ≤ 0 ∧ 0 ≤ t3) : ¬ (max a b < min c d) ∧ ¬ (max c d < min a b) := by
 have q1 : t2 * min c d ≤ t2 * c := Int.mul_le_mul_of_nonneg_left (by omega) (by omega)
 have q2 : -t1 * min c d ≤ -t1 * d := Int.mul_le_mul_of_nonneg_left (by omega) (by omega)
 have q3 : t2 * c ≤ t2 * max c d := Int.mul_le_mul_of_nonneg_left (by omega) (by omega)
 have q4 : -t1 * d ≤ -t1 * max c d := Int.mul_le_mul_of_nonneg_left (by omega) (by omega)
 have r1 : t3 * min a b ≤ t3 * b := Int.mul_le_mul_of_nonneg_left (by omega) (by omega)
 have r2 : -t4 * min a b ≤ -t4 * a := Int.mul_le_mul_of_nonneg_left (by omega) (by omega)
 have r3 : t3 * b ≤ t3 * max a b := Int.mul_le_mul_of_nonneg_left (by omega) (by omega)
 have r4 : -t4 * a ≤ -t4 * max a b := Int.mul_le_mul_of_nonneg_left (by omega) (by omega)
 simp only [Int.neg_mul] at q2 q4 r2 r4
 have s1 : min c d * (t2 - t1) = t2 * min c d - t1 * min c d := by rw [Int.mul_sub, Int.mul_comm, Int.mul_comm _ t1]
 have s2 : max c d * (t2 - t1) = t2 * max c d - t1 * max c d := by rw [Int.mul_sub, Int.mul_comm, Int.mul_comm _ t1]
 have s3 : min a b * (t2 - t1) = t3 * min a b - t4 * min a b := by rw [hD, Int.mul_sub, Int.mul_comm, Int.mul_comm _ t4]
 have s4 : max a b * (t2 - t1) = t3 * max a b - t4 * max a b := by rw [hD, Int.mul_sub, Int.mul_comm, Int.mul_comm _ t4]
 have k1 : min c d ≤ max a b := Int.le_of_mul_le_mul_right (a := t2 - t1) (by omega) (by omega)
 have k2 : min a b ≤ max c d := Int.le_of_mul_le_mul_right (a := t2 - t1) (by omega) (by omega)
 omega
theorem over {a b c d t1 t2 t3 t4 : Int} (h : t2 * c - t1 * d = t3 * b - t4 * a) (hD : t2 - t1 = t3 - t4) (hne : t1 ≠ t2) (h1 : Acr t1 t2) (h2 : Acr t3 t4) : ¬ (max a b < min c d) ∧ ¬ (max c d < min a b) := by
 unfold Acr at h1 h2
 rcases Int.lt_or_lt_of_ne hne with h0 | h0
 ·exact over1 h hD h0 (by omega) (by omega)
 ·have h' : t1 * d - t2 * c = t4 * a - t3 * b := by omega
  have := over1 (a := b) (b := a) (c := d) (d := c) h' (by omega) h0 (by omega) (by omega)
  omega
theorem eq0 {t s p q e : Int} (h : t * (p - e) = s * (q - e)) (hb : InR e p q) (hn : (0 < t ∧ 0 < s) ∨ (t < 0 ∧ s < 0)) : p = e ∧ q = e := by
 unfold InR at hb
 rcases Int.lt_trichotomy p e with h1 | h1 | h1
 ·exfalso
  rcases hn with ⟨h2, h3⟩ | ⟨h2, h3⟩
  ·have a1 : t * (p - e) < 0 := Int.mul_neg_of_pos_of_neg h2 (by omega)
   have a2 : 0 ≤ s * (q - e) := Int.mul_nonneg (by omega) (by omega)
   omega
  ·have a1 : 0 < t * (p - e) := Int.mul_pos_of_neg_of_neg h2 (by omega)
   have a2 : s * (q - e) ≤ 0 := Int.mul_nonpos_of_nonpos_of_nonneg (by omega) (by omega)
   omega
 ·subst h1
  rw [Int.sub_self, Int.mul_zero] at h
  rcases Int.mul_eq_zero.1 h.symm with h4 | h4
  ·omega
  ·exact ⟨rfl, by omega⟩
 ·exfalso
  rcases hn with ⟨h2, h3⟩ | ⟨h2, h3⟩
  ·have a1 : 0 < t * (p - e) := Int.mul_pos h2 (by omega)
   have a2 : s * (q - e) ≤ 0 := Int.mul_nonpos_of_nonneg_of_nonpos (by omega) (by omega)
   omega
  ·have a1 : t * (p - e) < 0 := Int.mul_neg_of_neg_of_pos h2 (by omega)
   have a2 : 0 ≤ s * (q - e) := Int.mul_nonneg_of_nonpos_of_nonpos (by omega) (by omega)
   omega
theorem p2_ext {p q : P2} (h1 : p.x = q.x) (h2 : p.y = q.y) : p = q := by cases p; cases q; simp_all
theorem acr_on {t s : Int} {p q e : P2} (hx : t * (p.x - e.x) = s * (q.x - e.x)) (hy : t * (p.y - e.y) = s * (q.y - e.y)) (bx : InR e.x p.x q.x) (by' : InR e.y p.y q.y) (hne : p ≠ q) : Acr t s := by
 by_cases h : (0 < t ∧ 0 < s) ∨ (t < 0 ∧ s < 0)
 ·obtain ⟨h1, h2⟩ := eq0 hx bx h
  obtain ⟨h3, h4⟩ := eq0 hy by' h
  exact absurd (p2_ext (h1.trans h2.symm) (h3.trans h4.symm)) hne
 ·unfold Acr; omega
theorem inY {a b c : P2} (h : trn a b c = 0) (hne : a.x ≠ b.x) (hx : InR c.x a.x b.x) : InR c.y a.y b.y := by
 refine conv (t := c.x - a.x) (s := c.x - b.x) ?_ (by omega) (by unfold InR at hx; unfold Acr; omega)
 unfold trn at h
 grind
end Go.Proofs.YtlblimbelfenaaaGreat
