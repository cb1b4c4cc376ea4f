/- The reference's rings of a plane, by value. -/
import Derived.Test.YtlblimbelfenaaaGreatQbl
import Derived.Test.YtlblimbelfenaaaGreatQbg
set_option linter.unusedSimpArgs false
set_option linter.unusedVariables false
/- The reference's rings of a plane, by value. -/
-- NEWM
namespace Go.Proofs.YtlblimbelfenaaaGreat
open Go Go.RowKit
set_option maxRecDepth 100000
set_option maxHeartbeats 40000000 in
theorem ringsb_v (v w : Value) (V : List Vec3) (Fs : List Fac3) (z : Int) (hM : MOk V Fs) (hz : -100000 ≤ z ∧ z ≤ 100000) : ACalls Tryz.prog 65 [mshA v w V Fs, .c (I z)] [] fun u H => ∃ (q : Value) (A : List (Value × List P2)) (cs : List Con), u = .t [.c (.r q (rgR A)), .c (I (lfN V z cs))] ∧ H = [] ∧ A.map Prod.snd = rgL V z cs ∧ IsConts (sgL V Fs z) cs := by
 have hlf := hM.lf
 have hok := sgL_ok (z := z) hM
 have hSl := sgL_len V Fs z
 refine acalls_of (N := 107) Tryz.func65 rfl rfl (by simp) fun E hE => ?_
 refine WA ?_
 refine WA ?_
 refine WA ?_
 refine WR ?_
 refine al_ef rfl (ef_call0 false (fun _ => contours_r v w V Fs z hM) rfl .fn rfl (by decide) (by kernel_rfl) rfl (fun _ => C0 rfl) (by simp)) ?_
 rintro _ _ ⟨_, _, _, ⟨q1, q2, l, rfl, rfl, hcon⟩, hF, hH⟩
 (refine NST hF hH ?_; clear hF hH; rintro rfl rfl)
 refine WE ?_
 have hsm := hcon.small hok
 have hl1000 : l.length ≤ 1000 := by have := hsm.1; rw [List.length_map] at this; omega
 have hne : ∀ p ∈ l, p.2.1 ≠ [] ∧ p.2.1.length ≤ 1001 := fun p hp => by
  obtain ⟨h1, h2⟩ := hsm.2 p.2 (List.mem_map.2 ⟨p, hp, rfl⟩)
  exact ⟨h1, by omega⟩
 clear hsm
 have hcs := hcon.cuts hM
 have e5 : (sidR l).length = l.length := by simp
 have e6 : (cloR l).length = l.length := by simp
 refine WA ?_
 refine aw_loopw (fun m F H => ∃ (j ca lf : Nat) (AA : List (Value × List P2)), m + j = l.length ∧ AA.length ≤ ca ∧ lf ≤ j ∧ AA.map Prod.snd = rgL V z ((l.map Prod.snd).take j) ∧ lf = lfN V z ((l.map Prod.snd).take j) ∧ F = [(1, .c (I z)), (2, .p 0 0 0), (6, .o 1 0 AA.length ca), (7, .c (I lf)), (9, .c (.r q2 (cloR l))), (23, .c (.r q1 (sidR l))), (24, .c (I (sidR l).length)), (25, .c (I j))] ∧ H = [mB v w V Fs, .arr 107 1 ca (rgR AA)]) ?_ ?_
 ·refine wk_of [some 0, none] (fun _ => [(1, .c (I z)), (2, .p 0 0 0), (6, .o 1 0 0 0), (7, .c (I (0 : Nat))), (9, .c (.r q2 (cloR l))), (23, .c (.r q1 (sidR l))), (24, .c (I (sidR l).length)), (25, .c (I (0 : Nat)))]) (fun _ => [mB v w V Fs, .arr 107 1 0 []]) (by decide) (ZNL hE) ZCF ZCH (fun _ => ?_)
  exact ⟨l.length, 0, 0, 0, [], by omega, by simp, by omega, by simp [rgL, rgs], by simp [lfN, rgs], rfl, rfl⟩
 rintro m F H ⟨j, ca, lf, AA, hj, hcap, hlj, hAA, hlf2, rfl, rfl⟩
 have hAl : AA.length ≤ 1000 := by
  have h9 : AA.length ≤ j := by
   have := congrArg List.length hAA
   rw [List.length_map] at this
   have h2 : (rgL V z ((l.map Prod.snd).take j)).length ≤ ((l.map Prod.snd).take j).length := by
    unfold rgL rgs
    refine Nat.le_trans (List.length_filter_le _ _) ?_
    rw [List.length_map]
    exact List.length_filter_le _ _
   rw [List.length_take] at h2
   omega
  omega
 refine WA ?_
 refine aw_if rfl (fun hlt => ?_) (fun hge => ?_)
 ·obtain ⟨p, hp⟩ : ∃ z, l[j]? = some z := ⟨_, List.getElem?_eq_getElem (by omega)⟩
  obtain ⟨hne0, hpl⟩ := hne p (List.mem_of_getElem? hp)
  have hp2 : (l.map Prod.snd)[j]? = some p.2 := by rw [List.getElem?_map, hp]; rfl
  have hnx := rgs_next (V := V) (z := z) hp2
  have hs := hcs p.2 (List.mem_of_getElem? hp2)
  obtain ⟨pv, ps, pb⟩ := p
  simp only at hne0 hpl hs hnx
  have hrow : (sidR l)[j]? = some [.r pv (sR ps)] := by rw [List.getElem?_map, hp]; rfl
  have hrw2 : (cloR l)[j]? = some [B pb] := by rw [List.getElem?_map, hp]; rfl
  have e1 : (sR ps).length = ps.length := by simp
  refine WA ?_
  cases pb with
  | false =>
   have hnx1 : rgs V z ((l.map Prod.snd).take (j + 1)) = rgs V z ((l.map Prod.snd).take j) := by rw [hnx]; simp
   refine WA ?_
   refine aw_cond_t rfl ?_
   refine ZZ ?_
   refine WA ?_
   refine wk_of [some 0, some 1] (fun _ => [(1, .c (I z)), (2, .p 0 0 0), (6, .o 1 0 AA.length ca), (7, .c (I lf)), (9, .c (.r q2 (cloR l))), (23, .c (.r q1 (sidR l))), (24, .c (I (sidR l).length)), (25, .c (I (j + 1 : Nat)))]) (fun _ => _) (by decide) (ZNL hE) ZCF ZCH (fun _ => ?_)
   exact ⟨m - 1, by omega, j + 1, ca, lf, AA, by omega, hcap, by omega, by rw [hAA, rgL, rgL, hnx1], by rw [hlf2, lfN, lfN, hnx1], rfl, rfl⟩
  | true =>
   have hnx1 : rgs V z ((l.map Prod.snd).take (j + 1)) = rgs V z ((l.map Prod.snd).take j) ++ [ringV V z ps] := by rw [hnx]; simp
   have hRl := ring_len V z ps
   have hRi := ring_in hM hs
   have hD := dblN_in hRi (ringV V z ps).length (Nat.le_refl _)
   have h0t : okB (ringV V z ps) = false → rgL V z ((l.map Prod.snd).take (j + 1)) = rgL V z ((l.map Prod.snd).take j) ∧ lfN V z ((l.map Prod.snd).take (j + 1)) = lfN V z ((l.map Prod.snd).take j) + 1 := fun h => by
    unfold rgL lfN
    rw [hnx1]
    simp [h]
   have h1t : okB (ringV V z ps) = true → rgL V z ((l.map Prod.snd).take (j + 1)) = rgL V z ((l.map Prod.snd).take j) ++ [ringV V z ps] ∧ lfN V z ((l.map Prod.snd).take (j + 1)) = lfN V z ((l.map Prod.snd).take j) := fun h => by
    unfold rgL lfN
    rw [hnx1]
    simp [h]
   rw [← hAA, ← hlf2] at h0t h1t
   clear hnx hnx1 hAA hlf2
   refine WA ?_
   refine aw_cond_f rfl ?_
   refine ZZ ?_
   refine WA ?_
   refine WA ?_
   refine aw_loopw (fun m F H => ∃ (k c : Nat) (A : List P2), m + k = ps.length ∧ A.length ≤ k ∧ A.length ≤ c ∧ A = compG ((ps.take k).map (ptV V z)) ∧ F = [(1, .c (I z)), (2, .p 0 0 0), (6, .o 1 0 AA.length ca), (7, .c (I lf)), (9, .c (.r q2 (cloR l))), (23, .c (.r q1 (sidR l))), (24, .c (I (sidR l).length)), (25, .c (I j)), (12, .o 2 0 A.length c), (35, .c (.r pv (sR ps))), (36, .c (I (sR ps).length)), (37, .c (I k))] ∧ H = [mB v w V Fs, .arr 107 1 ca (rgR AA), .arr 119 2 c (pR A)]) ?_ ?_
   ·refine wk_of [some 0, some 1, none] (fun _ => [(1, .c (I z)), (2, .p 0 0 0), (6, .o 1 0 AA.length ca), (7, .c (I lf)), (9, .c (.r q2 (cloR l))), (23, .c (.r q1 (sidR l))), (24, .c (I (sidR l).length)), (25, .c (I j)), (12, .o 2 0 0 0), (35, .c (.r pv (sR ps))), (36, .c (I (sR ps).length)), (37, .c (I (0 : Nat)))]) (fun _ => [mB v w V Fs, .arr 107 1 ca (rgR AA), .arr 119 2 0 []]) (by decide) (ZNL hE) ZCF ZCH (fun _ => ?_)
    exact ⟨ps.length, 0, 0, [], by omega, by simp, by simp, rfl, rfl, rfl⟩
   rintro m2 F H ⟨k, c, A, hk, hAk, hcapA, hA, rfl, rfl⟩
   refine WA ?_
   refine aw_if rfl (fun hlt2 => ?_) (fun hge2 => ?_)
   ·obtain ⟨s, hsk⟩ : ∃ s, ps[k]? = some s := ⟨_, List.getElem?_eq_getElem (by omega)⟩
    have hsc := hs s (List.mem_of_getElem? hsk)
    have hrow : (sR ps)[k]? = some [I s.f, I s.t] := by rw [List.getElem?_map, hsk]; rfl
    have hnx : compG ((ps.take (k + 1)).map (ptV V z)) = if A.getLast? = some (ptV V z s) then A else A ++ [ptV V z s] := by
     rw [take_snoc hsk, List.map_append, List.map_singleton, compG_push, ← hA]
    have hpt : ptV V z s = ⟨nearF (cutV V z s).x, nearF (cutV V z s).y⟩ := rfl
    obtain ⟨hb1, hb2⟩ := cut6_small hM hsc hz
    clear hsk hs h0t h1t hD hRi hRl
    obtain ⟨sf, st⟩ := s
    have hcv : (cutV V z ⟨sf, st⟩).row = [I sf, I st, I (cutV V z ⟨sf, st⟩).x.n, I (cutV V z ⟨sf, st⟩).x.d, I (cutV V z ⟨sf, st⟩).y.n, I (cutV V z ⟨sf, st⟩).y.d] := rfl
    rw [hpt] at hnx
    clear hpt
    generalize (cutV V z ⟨sf, st⟩).x = f1 at hcv hnx hb1
    generalize (cutV V z ⟨sf, st⟩).y = f2 at hcv hnx hb2
    obtain ⟨xn, xd⟩ := f1
    obtain ⟨yn, yd⟩ := f2
    simp only at hcv hb1 hb2 hrow
    refine WA ?_
    refine WR ?_
    refine al_ef rfl (ef_call0 false (fun _ => meet_r v w V Fs z ⟨sf, st⟩ hM hsc hz) rfl .fn rfl (by decide) (by kernel_rfl) rfl (fun _g => .cons (.aL (C0 rfl)) (.cons (.aL (C0 rfl)) (.cons (.c rfl) .nil))) (by simp)) ?_
    rintro _ _ ⟨_, _, _, ⟨rfl, rfl⟩, hF, hH⟩
    rw [hcv] at hF
    (refine NST hF hH ?_; clear hF hH; rintro rfl rfl)
    refine WE ?_
    refine aw_cut (fun F H => F = [(1, .c (I z)), (2, .p 0 0 0), (6, .o 1 0 AA.length ca), (7, .c (I lf)), (9, .c (.r q2 (cloR l))), (23, .c (.r q1 (sidR l))), (24, .c (I (sidR l).length)), (25, .c (I j)), (12, .o 2 0 A.length c), (16, .p 3 0 0), (35, .c (.r pv (sR ps))), (36, .c (I (sR ps).length)), (37, .c (I k))] ∧ H = [mB v w V Fs, .arr 107 1 ca (rgR AA), .arr 119 2 c (pR A), .box [.c (I (nearF ⟨xn, xd⟩)), .c (I (nearF ⟨yn, yd⟩))]]) ?_ ?_ wk_aw
    ·refine ZZ ?_
     refine aw_regionM [[(0, none), (1, none), (3, none), (4, none), (2, some [3, 4]), (5, some []), (6, none), (7, some [0, 1, 3, 4, 6]), (8, some [])], [(0, none), (1, none), (3, none), (4, none), (2, some [3, 4]), (7, some [0, 1, 3, 4]), (5, some []), (6, none), (8, some [])], [(0, none), (1, none), (3, none), (4, none), (7, some [0, 1, 3, 4]), (2, some [3, 4]), (5, some []), (6, none), (8, some [])]] hMixed (by kernel_rfl) ?_
     focus
      refine WM ?_
      refine am_two (by rfl) (by rfl) (by rfl) ?_ ?_
      rotate_left
      refine WM ?_
      refine am_ef (i := 2) (by rfl) (by rfl) rfl rfl (ef_call0 false (fun _ => rrnd_v ⟨xn, xd⟩ (by simp only; omega) (by simp only; omega)) rfl .fn rfl (by decide) (by kernel_rfl) rfl (fun _g => .cons (.aL (C0 rfl)) .nil) (by simp)) ?_
      rintro _ _ ⟨_, _, _, ⟨rfl, rfl⟩, hF, hH⟩
      (refine NST hF hH ?_; clear hF hH; rintro rfl rfl)
      refine ⟨AGX, ?_⟩
      refine am_ef (i := 5) (by rfl) (by rfl) rfl rfl (ef_call0 false (fun _ => rrnd_v ⟨yn, yd⟩ (by simp only; omega) (by simp only; omega)) rfl .fn rfl (by decide) (by kernel_rfl) rfl (fun _g => .cons (.aL (C0 rfl)) .nil) (by simp)) ?_
      rintro _ _ ⟨_, _, _, ⟨rfl, rfl⟩, hF, hH⟩
      (refine NST hF hH ?_; clear hF hH; rintro rfl rfl)
      refine ⟨AGX, ?_⟩
      refine WN ?_
      rotate_right
      refine am_ef (i := 2) (by rfl) (by rfl) rfl rfl (ef_call0 false (fun _ => rrnd_v ⟨xn, xd⟩ (by simp only; omega) (by simp only; omega)) rfl .fn rfl (by decide) (by kernel_rfl) rfl (fun _g => .cons (.aL (C0 rfl)) .nil) (by simp)) ?_
      rintro _ _ ⟨_, _, _, ⟨rfl, rfl⟩, hF, hH⟩
      (refine NST hF hH ?_; clear hF hH; rintro rfl rfl)
      refine ⟨AGX, ?_⟩
      refine am_two (by rfl) (by rfl) (by rfl) ?_ ?_
      rotate_left
      refine WM ?_
      refine am_ef (i := 5) (by rfl) (by rfl) rfl rfl (ef_call0 false (fun _ => rrnd_v ⟨yn, yd⟩ (by simp only; omega) (by simp only; omega)) rfl .fn rfl (by decide) (by kernel_rfl) rfl (fun _g => .cons (.aL (C0 rfl)) .nil) (by simp)) ?_
      rintro _ _ ⟨_, _, _, ⟨rfl, rfl⟩, hF, hH⟩
      (refine NST hF hH ?_; clear hF hH; rintro rfl rfl)
      refine ⟨AGX, ?_⟩
      refine WN ?_
      rotate_right
      refine am_ef (i := 5) (by rfl) (by rfl) rfl rfl (ef_call0 false (fun _ => rrnd_v ⟨yn, yd⟩ (by simp only; omega) (by simp only; omega)) rfl .fn rfl (by decide) (by kernel_rfl) rfl (fun _g => .cons (.aL (C0 rfl)) .nil) (by simp)) ?_
      rintro _ _ ⟨_, _, _, ⟨rfl, rfl⟩, hF, hH⟩
      (refine NST hF hH ?_; clear hF hH; rintro rfl rfl)
      refine ⟨AGX, ?_⟩
      refine WN ?_
     all_goals (exact wk_of [some 0, some 1, some 2, some 5] (fun _ => [(1, .c (I z)), (2, .p 0 0 0), (6, .o 1 0 AA.length ca), (7, .c (I lf)), (9, .c (.r q2 (cloR l))), (23, .c (.r q1 (sidR l))), (24, .c (I (sidR l).length)), (25, .c (I j)), (12, .o 2 0 A.length c), (16, .p 3 0 0), (35, .c (.r pv (sR ps))), (36, .c (I (sR ps).length)), (37, .c (I k))]) (fun _ => _) (by decide) (ZNL hE) ZCF ZCH (fun _ => ⟨rfl, rfl⟩))
    rintro F H ⟨rfl, rfl⟩
    generalize nearF ⟨xn, xd⟩ = px at hnx ⊢
    generalize nearF ⟨yn, yd⟩ = py at hnx ⊢
    clear hcv hb1 hb2 hrow
    have eA : (pR A).length = A.length := by simp
    refine ZZ ?_
    refine aw_cut (fun F H => ∃ b : Bool, (b = true ↔ A.getLast? ≠ some ⟨px, py⟩) ∧ F = [(1, .c (I z)), (2, .p 0 0 0), (6, .o 1 0 AA.length ca), (7, .c (I lf)), (9, .c (.r q2 (cloR l))), (23, .c (.r q1 (sidR l))), (24, .c (I (sidR l).length)), (25, .c (I j)), (12, .o 2 0 A.length c), (16, .p 3 0 0), (35, .c (.r pv (sR ps))), (36, .c (I (sR ps).length)), (37, .c (I k)), (64, .c (B b))] ∧ H = [mB v w V Fs, .arr 107 1 ca (rgR AA), .arr 119 2 c (pR A), .box [.c (I px), .c (I py)]]) ?_ ?_ wk_aw
    ·by_cases hA0 : A.length = 0
     ·have hA1 : A = [] := List.eq_nil_of_length_eq_zero hA0
      refine ZZ ?_
      refine aw_regionT [(0, none), (1, none), (2, none), (3, none), (4, none), (5, none), (6, none), (7, none), (8, none), (9, none), (10, none), (11, none), (12, none)] hMixed (by kernel_rfl) ?_
      iterate 8 refine WX2 ?_
      first | refine ZU rfl (rd_index (i := A.length - 1) rfl (KE (t := 107) rfl) rfl rfl rfl (by omega) (by omega)) ?_ | refine ZV ?_
      iterate 2 refine WX2 ?_
      first | refine ZU rfl (rd_neqa119 rfl rfl rfl) ?_ | refine ZV ?_
      refine WQ ?_
      all_goals (exact wk_of [some 0, some 1, some 2, some 3] (fun _ => [(1, .c (I z)), (2, .p 0 0 0), (6, .o 1 0 AA.length ca), (7, .c (I lf)), (9, .c (.r q2 (cloR l))), (23, .c (.r q1 (sidR l))), (24, .c (I (sidR l).length)), (25, .c (I j)), (12, .o 2 0 A.length c), (16, .p 3 0 0), (35, .c (.r pv (sR ps))), (36, .c (I (sR ps).length)), (37, .c (I k)), (64, .c (B true))]) (fun _ => _) (by decide) (ZNL hE) ZCF ZCH (fun _ => ⟨true, by simp [hA1], rfl, rfl⟩))
     ·obtain ⟨a, ha⟩ : ∃ a, A[A.length - 1]? = some a := ⟨_, List.getElem?_eq_getElem (by omega)⟩
      have hgl : A.getLast? = some a := by rw [List.getLast?_eq_getElem?]; exact ha
      have hra : (pR A)[A.length - 1]? = some [I a.x, I a.y] := by rw [List.getElem?_map, ha]; rfl
      rw [hgl]
      have hpq : (some a ≠ some (⟨px, py⟩ : P2)) ↔ ¬ (a.x = px ∧ a.y = py) := by rw [ne_eq, Option.some.injEq, p2_eq]
      rw [hpq]
      clear hgl ha hpq
      obtain ⟨ax, ay⟩ := a
      simp only at hra ⊢
      refine ZZ ?_
      refine aw_regionT [(0, none), (1, none), (2, none), (3, none), (4, none), (5, none), (6, none), (7, none), (8, none), (9, none), (10, none), (11, none), (12, none)] hMixed (by kernel_rfl) ?_
      iterate 8 refine WX2 ?_
      first | refine ZU rfl (rd_index (i := A.length - 1) rfl (KE (t := 107) rfl) rfl rfl rfl (by omega) (by omega)) ?_ | refine ZV ?_
      iterate 2 refine WX2 ?_
      first | refine ZU rfl (rd_neqa119 rfl rfl rfl) ?_ | refine ZV ?_
      refine WQ ?_
      all_goals (exact wk_of [some 0, some 1, some 2, some 3] (fun _ => [(1, .c (I z)), (2, .p 0 0 0), (6, .o 1 0 AA.length ca), (7, .c (I lf)), (9, .c (.r q2 (cloR l))), (23, .c (.r q1 (sidR l))), (24, .c (I (sidR l).length)), (25, .c (I j)), (12, .o 2 0 A.length c), (16, .p 3 0 0), (35, .c (.r pv (sR ps))), (36, .c (I (sR ps).length)), (37, .c (I k)), (64, .c (B (decide (¬ (ax = px ∧ ay = py)))))]) (fun _ => _) (by decide) (ZNL hE) ZCF ZCH (fun _ => ⟨_, by rw [decide_eq_true_iff], rfl, rfl⟩))
    rintro F H ⟨b, hb, rfl, rfl⟩
    refine ZZ ?_
    refine aw_cond rfl (fun hbt => ?_) (fun hbf => ?_)
    ·have hnx2 : compG ((ps.take (k + 1)).map (ptV V z)) = A ++ [⟨px, py⟩] := by rw [hnx, if_neg (hb.1 (by simpa using hbt))]
     refine WR ?_
     refine al_ef rfl (Zapp (KA (t := 107) rfl)) ?_
     rintro _ _ ⟨_, cc, hcc, rfl, rfl⟩
     refine WE ?_
     refine WA ?_
     all_goals (refine wk_of [some 0, some 1, some 2] (fun _ => [(1, .c (I z)), (2, .p 0 0 0), (6, .o 1 0 AA.length ca), (7, .c (I lf)), (9, .c (.r q2 (cloR l))), (23, .c (.r q1 (sidR l))), (24, .c (I (sidR l).length)), (25, .c (I j)), (12, .o 2 0 (A ++ [(⟨px, py⟩ : P2)]).length _), (35, .c (.r pv (sR ps))), (36, .c (I (sR ps).length)), (37, .c (I (k + 1 : Nat)))]) (fun _ => _) (by decide) (ZNL hE) ZCF ZCH (fun _ => ?_))
     all_goals (exact ⟨m2 - 1, by omega, k + 1, _, A ++ [⟨px, py⟩], by omega, by simp; omega, by simp; omega, hnx2.symm, rfl, by simp [pR]⟩)
    ·have hnx2 : compG ((ps.take (k + 1)).map (ptV V z)) = A := by
      rw [hnx, if_pos]
      by_cases h : A.getLast? = some ⟨px, py⟩
      ·exact h
      ·rw [hb.2 h] at hbf; simp at hbf
     refine ZZ ?_
     refine WA ?_
     refine wk_of [some 0, some 1, some 2] (fun _ => [(1, .c (I z)), (2, .p 0 0 0), (6, .o 1 0 AA.length ca), (7, .c (I lf)), (9, .c (.r q2 (cloR l))), (23, .c (.r q1 (sidR l))), (24, .c (I (sidR l).length)), (25, .c (I j)), (12, .o 2 0 A.length c), (35, .c (.r pv (sR ps))), (36, .c (I (sR ps).length)), (37, .c (I (k + 1 : Nat)))]) (fun _ => _) (by decide) (ZNL hE) ZCF ZCH (fun _ => ?_)
     exact ⟨m2 - 1, by omega, k + 1, c, A, by omega, by omega, by omega, hnx2.symm, rfl, rfl⟩
   obtain rfl : k = ps.length := by omega
   rw [List.take_of_length_le (Nat.le_refl _)] at hA
   refine ZZ ?_
   have hA1 : A.length ≤ 1001 := by omega
   have hR0 : trimE A = ringV V z ps := by rw [hA]; rfl
   clear hA hAk
   have eA : (pR A).length = A.length := by simp
   generalize ringV V z ps = R at hR0 h0t h1t hRl hRi hD ⊢
   refine aw_loopw (fun m F H => m ≤ A.length ∧ trimE (A.take m) = R ∧ F = [(1, .c (I z)), (2, .p 0 0 0), (6, .o 1 0 AA.length ca), (7, .c (I lf)), (9, .c (.r q2 (cloR l))), (23, .c (.r q1 (sidR l))), (24, .c (I (sidR l).length)), (25, .c (I j)), (12, .o 2 0 m c)] ∧ H = [mB v w V Fs, .arr 107 1 ca (rgR AA), .arr 119 2 c (pR A)]) ?_ ?_
   ·refine wk_of [some 0, some 1, some 2] (fun _ => [(1, .c (I z)), (2, .p 0 0 0), (6, .o 1 0 AA.length ca), (7, .c (I lf)), (9, .c (.r q2 (cloR l))), (23, .c (.r q1 (sidR l))), (24, .c (I (sidR l).length)), (25, .c (I j)), (12, .o 2 0 A.length c)]) (fun _ => _) (by decide) (ZNL hE) ZCF ZCH (fun _ => ?_)
    exact ⟨A.length, Nat.le_refl _, by rw [List.take_of_length_le (Nat.le_refl _)]; exact hR0, rfl, rfl⟩
   rintro n F H ⟨hn, hR, rfl, rfl⟩
   refine ZZ ?_
   refine aw_cut (fun F H => ∃ b : Bool, (b = true → 1 < n ∧ trimE (A.take (n - 1)) = R) ∧ (b = false → A.take n = R) ∧ F = [(1, .c (I z)), (2, .p 0 0 0), (6, .o 1 0 AA.length ca), (7, .c (I lf)), (9, .c (.r q2 (cloR l))), (23, .c (.r q1 (sidR l))), (24, .c (I (sidR l).length)), (25, .c (I j)), (12, .o 2 0 n c), (84, .c (B b))] ∧ H = [mB v w V Fs, .arr 107 1 ca (rgR AA), .arr 119 2 c (pR A)]) ?_ ?_ wk_aw
   ·by_cases h1 : 1 < n
    ·obtain ⟨a, ha⟩ : ∃ a, A[n - 1]? = some a := ⟨_, List.getElem?_eq_getElem (by omega)⟩
     obtain ⟨b, hb⟩ : ∃ a, A[0]? = some a := ⟨_, List.getElem?_eq_getElem (by omega)⟩
     have hra : (pR A)[n - 1]? = some [I a.x, I a.y] := by rw [List.getElem?_map, ha]; rfl
     have hrb : (pR A)[0]? = some [I b.x, I b.y] := by rw [List.getElem?_map, hb]; rfl
     have hgo := trimE_go hn h1 ha hb
     rw [hR] at hgo
     simp only [p2_eq] at hgo
     clear ha hb
     obtain ⟨ax, ay⟩ := a
     obtain ⟨bx, by'⟩ := b
     simp only at hra hrb hgo
     refine ZZ ?_
     refine aw_regionT [(0, none), (1, none), (2, none), (3, none), (4, none), (5, none), (6, none), (7, none), (8, none), (9, none), (10, none), (11, none), (12, none), (13, none), (14, none)] hMixed (by kernel_rfl) ?_
     iterate 8 refine WX2 ?_
     first | refine ZU rfl (rd_index (i := n - 1) rfl (KE (t := 107) rfl) rfl rfl rfl (by omega) (by omega)) ?_ | refine ZV ?_
     iterate 2 refine WX2 ?_
     first | refine ZU rfl (rd_index (i := 0) rfl (KE (t := 107) rfl) rfl rfl rfl rfl (by omega)) ?_ | refine ZV ?_
     refine WX2 ?_
     first | refine ZU rfl (rd_eqla119 rfl rfl rfl) ?_ | refine ZV ?_
     refine WQ ?_
     all_goals (exact wk_of [some 0, some 1, some 2] (fun _ => [(1, .c (I z)), (2, .p 0 0 0), (6, .o 1 0 AA.length ca), (7, .c (I lf)), (9, .c (.r q2 (cloR l))), (23, .c (.r q1 (sidR l))), (24, .c (I (sidR l).length)), (25, .c (I j)), (12, .o 2 0 n c), (84, .c (B (decide (ax = bx ∧ ay = by'))))]) (fun _ => _) (by decide) (ZNL hE) ZCF ZCH (fun _ => ⟨_, fun h => ⟨h1, by rw [hgo, if_pos (by simpa using h)]⟩, fun h => by rw [hgo, if_neg (by simpa using h)], rfl, rfl⟩))
    ·have hst : A.take n = R := by rw [← hR, trimE_stop]; rw [List.length_take]; omega
     refine ZZ ?_
     refine aw_regionT [(0, none), (1, none), (2, none), (3, none), (4, none), (5, none), (6, none), (7, none), (8, none), (9, none), (10, none), (11, none), (12, none), (13, none), (14, none)] hMixed (by kernel_rfl) ?_
     iterate 8 refine WX2 ?_
     first | refine ZU rfl (rd_index (i := n - 1) rfl (KE (t := 107) rfl) rfl rfl rfl (by omega) (by omega)) ?_ | refine ZV ?_
     iterate 2 refine WX2 ?_
     first | refine ZU rfl (rd_index (i := 0) rfl (KE (t := 107) rfl) rfl rfl rfl rfl (by omega)) ?_ | refine ZV ?_
     refine WX2 ?_
     first | refine ZU rfl (rd_eqla119 rfl rfl rfl) ?_ | refine ZV ?_
     refine WQ ?_
     all_goals (exact wk_of [some 0, some 1, some 2] (fun _ => [(1, .c (I z)), (2, .p 0 0 0), (6, .o 1 0 AA.length ca), (7, .c (I lf)), (9, .c (.r q2 (cloR l))), (23, .c (.r q1 (sidR l))), (24, .c (I (sidR l).length)), (25, .c (I j)), (12, .o 2 0 n c), (84, .c (B false))]) (fun _ => _) (by decide) (ZNL hE) ZCF ZCH (fun _ => ⟨_, fun h => (by cases h), fun _ => hst, rfl, rfl⟩))
   rintro F H ⟨b, hbt, hbf, rfl, rfl⟩
   refine ZZ ?_
   refine aw_cond rfl (fun h => ?_) (fun h => ?_)
   ·obtain ⟨h1, hgo⟩ := hbt (by simpa using h)
    refine ZR ?_
    iterate 4 refine WX1 ?_
    refine ZA (rd_slice (l := 0) (h := n - 1) rfl (KE (t := 107) rfl) rfl rfl (.inl ⟨rfl, rfl⟩) (.inr ⟨_, _, _, rfl, rfl, by omega⟩) (by omega) (by omega) (by omega)) ?_
    refine WE ?_
    refine wk_of [some 0, some 1, some 2] (fun _ => [(1, .c (I z)), (2, .p 0 0 0), (6, .o 1 0 AA.length ca), (7, .c (I lf)), (9, .c (.r q2 (cloR l))), (23, .c (.r q1 (sidR l))), (24, .c (I (sidR l).length)), (25, .c (I j)), (12, .o 2 0 (n - 1) c)]) (fun _ => _) (by decide) (ZNL hE) ZCF ZCH (fun _ => ?_)
    exact ⟨n - 1, by omega, by omega, hgo, rfl, rfl⟩
   have hst := hbf (by simpa using h)
   refine ZZ ?_
   refine aw_wk (wk_of (K := fun F H => ∃ qr : Value, F = [(1, .c (I z)), (2, .p 0 0 0), (6, .o 1 0 AA.length ca), (7, .c (I lf)), (9, .c (.r q2 (cloR l))), (23, .c (.r q1 (sidR l))), (24, .c (I (sidR l).length)), (25, .c (I j)), (12, .c (.r qr (pR R)))] ∧ H = [mB v w V Fs, .arr 107 1 ca (rgR AA)]) [some 0, some 1] (fun g => [(1, .c (I z)), (2, .p 0 0 0), (6, .o 1 0 AA.length ca), (7, .c (I lf)), (9, .c (.r q2 (cloR l))), (23, .c (.r q1 (sidR l))), (24, .c (I (sidR l).length)), (25, .c (I j)), (12, .c (.r (g (.o 2 0 n c)) (pR R)))]) (fun _ => [mB v w V Fs, .arr 107 1 ca (rgR AA)]) (by decide) (ZNL hE) (fun _g => .cons rfl (.c rfl) (.cons rfl (.p rfl) (.cons rfl (.o rfl (by first | omega | (simp; done) | (simp; omega))) (.cons rfl (.c rfl) (.cons rfl (.c rfl) (.cons rfl (.c rfl) (.cons rfl (.c rfl) (.cons rfl (.c rfl) (.cons rfl (.frz rfl rfl (by rw [List.drop_zero, ← List.map_take, hst]) (by rw [← hst]; simp; omega) rfl) .nil))))))))) ZCH (fun g => ⟨_, rfl, rfl⟩)) ?_
   rintro F H ⟨qr, rfl, rfl⟩
   clear eA hR0
   have eR : (pR R).length = R.length := by simp
   refine ZZ ?_
   refine aw_cut (fun F H => F = [(1, .c (I z)), (2, .p 0 0 0), (6, .o 1 0 AA.length ca), (7, .c (I lf)), (9, .c (.r q2 (cloR l))), (23, .c (.r q1 (sidR l))), (24, .c (I (sidR l).length)), (25, .c (I j)), (12, .c (.r qr (pR R))), (97, .c (B (!okB R)))] ∧ H = [mB v w V Fs, .arr 107 1 ca (rgR AA)]) ?_ ?_ wk_aw
   ·by_cases h3 : R.length < 3
    ·have hk : okB R = false := by simp [okB, h3]
     refine WR ?_
     first | refine ZS ?_ | (refine G1 rfl ?_; refine al_ef rfl (ef_call0 false (fun _ => rdbl_v R qr (by omega) hRi) rfl .fn rfl (by decide) (by kernel_rfl) rfl (fun _ => C0 rfl) (by simp)) ?_; rintro _ _ ⟨_, _, _, ⟨rfl, rfl⟩, hF, hH⟩; (refine NST hF hH ?_; clear hF hH; rintro rfl rfl)) | skip
     refine WE ?_
     all_goals (exact wk_of [some 0, some 1] (fun _ => [(1, .c (I z)), (2, .p 0 0 0), (6, .o 1 0 AA.length ca), (7, .c (I lf)), (9, .c (.r q2 (cloR l))), (23, .c (.r q1 (sidR l))), (24, .c (I (sidR l).length)), (25, .c (I j)), (12, .c (.r qr (pR R))), (97, .c (B (!okB R)))]) (fun _ => _) (by decide) (ZNL hE) (by rw [hk]; exact ZCF) ZCH (fun _ => ⟨rfl, rfl⟩))
    ·have hk : (!okB R) = decide (dblF R = 0) := by simp [okB, h3]
     refine WR ?_
     first | refine ZS ?_ | (refine G1 rfl ?_; refine al_ef rfl (ef_call0 false (fun _ => rdbl_v R qr (by omega) hRi) rfl .fn rfl (by decide) (by kernel_rfl) rfl (fun _ => C0 rfl) (by simp)) ?_; rintro _ _ ⟨_, _, _, ⟨rfl, rfl⟩, hF, hH⟩; (refine NST hF hH ?_; clear hF hH; rintro rfl rfl)) | skip
     refine WE ?_
     all_goals (exact wk_of [some 0, some 1] (fun _ => [(1, .c (I z)), (2, .p 0 0 0), (6, .o 1 0 AA.length ca), (7, .c (I lf)), (9, .c (.r q2 (cloR l))), (23, .c (.r q1 (sidR l))), (24, .c (I (sidR l).length)), (25, .c (I j)), (12, .c (.r qr (pR R))), (97, .c (B (!okB R)))]) (fun _ => _) (by decide) (ZNL hE) (by rw [hk]; exact ZCF) ZCH (fun _ => ⟨rfl, rfl⟩))
   rintro F H ⟨rfl, rfl⟩
   refine ZZ ?_
   refine aw_cond rfl (fun hbt => ?_) (fun hbf => ?_)
   ·obtain ⟨k1, k2⟩ := h0t (by simpa using hbt)
    refine WA ?_
    refine WA ?_
    refine wk_of [some 0, some 1] (fun _ => [(1, .c (I z)), (2, .p 0 0 0), (6, .o 1 0 AA.length ca), (7, .c (I (lf + 1 : Nat))), (9, .c (.r q2 (cloR l))), (23, .c (.r q1 (sidR l))), (24, .c (I (sidR l).length)), (25, .c (I (j + 1 : Nat)))]) (fun _ => _) (by decide) (ZNL hE) ZCF ZCH (fun _ => ?_)
    exact ⟨m - 1, by omega, j + 1, ca, lf + 1, AA, by omega, hcap, by omega, by rw [k1], by rw [k2], rfl, rfl⟩
   ·obtain ⟨k1, k2⟩ := h1t (by simpa using hbf)
    refine ZZ ?_
    refine WR ?_
    refine al_ef rfl (Zapp (KA (t := 33) rfl)) ?_
    rintro _ _ ⟨_, cc, hcc, rfl, rfl⟩
    refine WE ?_
    refine WA ?_
    refine wk_of [some 0, some 1] (fun _ => [(1, .c (I z)), (2, .p 0 0 0), (6, .o 1 0 (AA ++ [(qr, R)]).length _), (7, .c (I lf)), (9, .c (.r q2 (cloR l))), (23, .c (.r q1 (sidR l))), (24, .c (I (sidR l).length)), (25, .c (I (j + 1 : Nat)))]) (fun _ => _) (by decide) (ZNL hE) ZCF ZCH (fun _ => ?_)
    exact ⟨m - 1, by omega, j + 1, _, lf, AA ++ [(qr, R)], by omega, by simp; omega, by omega, by rw [k1, List.map_append]; rfl, by rw [k2], rfl, by simp [rgR]⟩
 obtain rfl : j = l.length := by omega
 rw [List.take_of_length_le (by simp)] at hAA hlf2
 refine ZZ ?_
 refine WA ?_
 exact aret_f2 [] _ rfl rfl rfl rfl rfl rfl (by rw [List.drop_zero, List.take_of_length_le (by simp)]) (by simp) rfl (by decide) (ZNK rfl) (fun _ => .nil) (fun q => ⟨q, AA, l.map Prod.snd, by rw [hlf2], rfl, hAA, hcon⟩)
end Go.Proofs.YtlblimbelfenaaaGreat
