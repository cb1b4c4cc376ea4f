/- copy into an array of the call's own. -/
import Derived.Test.YtlblimbelfenaaaGreatQbi
import Derived.Test.YtlblimbelfenaaaGreatQbd
import Derived.Test.YtlblimbelfenaaaGreatQal
set_option linter.unusedSimpArgs false
set_option linter.unusedVariables false
/- What the reference finds wrong with a ring whose points are near, by value. -/
-- NEWM
namespace Go.Proofs.YtlblimbelfenaaaGreat
open Go Go.RowKit
set_option maxRecDepth 100000
theorem sd4_get {r : List P2} {k : Nat} (h : k < r.length) : (s4R (sd4 r))[k]? = some [I (ptA r k).x, I (ptA r k).y, I (ptA r ((k + 1) % r.length)).x, I (ptA r ((k + 1) % r.length)).y] := by
 unfold sd4
 rw [List.getElem?_map, List.getElem?_map, List.getElem?_range h]; rfl
theorem s4R_take (L : List (P2 × P2)) (k : Nat) : ((s4R L).take k).drop 0 = s4R (L.take k) := by rw [List.drop_zero]; exact List.map_take.symm
theorem pR_take (L : List P2) (k : Nat) : ((pR L).take k).drop 0 = pR (L.take k) := by rw [List.drop_zero]; exact List.map_take.symm
def rchk (r : List P2) : Int := if r.length < 3 then 3 else if 500 < r.length then 2 else if r.Nodup then (if rfF r = true then 13 else 0) else 6
theorem rchk_eq (r : List P2) : rchk r = chkF r := by
 unfold rchk chkF
 by_cases h : r.length < 3
 ·rw [if_pos h, if_pos h]
 ·rw [if_neg h, if_neg h]
  by_cases hn : r.Nodup
  ·rw [if_pos hn, if_pos hn, rfF_eq hn (by omega)]
  ·rw [if_neg hn, if_neg hn]
set_option maxHeartbeats 8000000 in
theorem rringf_v (r : List P2) (v : Value) (hl : r.length ≤ 1000000) (hp : ∀ p ∈ r, p.in) : ACalls Tryz.prog 121 [.c (.r v (pR r))] [] fun u H => u = .c (I (chkF r)) ∧ H = [] := by
 have e1 : (pR r).length = r.length := by simp
 rw [← rchk_eq]
 refine acalls_of (N := 114) Tryz.func121 rfl rfl (by simp) fun E hE => ?_
 refine WA ?_
 refine WA ?_
 refine aw_if rfl (fun h0 => ?_) (fun h0 => ?_)
 ·refine WA ?_
  exact aret_1 [] _ rfl rfl rfl (by decide) (ZNK rfl) (fun _ => .nil) ⟨by rw [rchk, if_pos (by omega)], rfl⟩
 refine ZZ ?_
 refine WA ?_
 refine aw_if rfl (fun h1 => ?_) (fun h1 => ?_)
 ·refine WA ?_
  exact aret_1 [] _ rfl rfl rfl (by decide) (ZNK rfl) (fun _ => .nil) ⟨by rw [rchk, if_neg (by omega), if_pos (by omega)], rfl⟩
 have ec : rchk r = if r.Nodup then (if rfF r = true then 13 else 0) else 6 := by rw [rchk, if_neg (by omega), if_neg (by omega)]
 rw [ec]
 refine ZZ ?_
 refine WR ?_
 refine al_ef rfl (ef_call0 false (fun _ => pfault_v r v (by omega) hp) rfl .fn rfl (by decide) (by kernel_rfl) rfl (fun _ => C0 rfl) (by simp)) ?_
 rintro _ _ ⟨_, _, _, ⟨rfl, rfl⟩, hF, hH⟩
 (refine NST hF hH ?_; clear hF hH; rintro rfl rfl)
 refine WE ?_
 refine WA ?_
 refine aw_cond_f rfl ?_
 refine ZZ ?_
 refine WA ?_
 refine aw_loopw (fun m F H => ∃ (k : Nat), m + k = r.length ∧ (r.take k).Nodup ∧ F = [(0, .c (.r v (pR r))), (24, .c (.r v (pR r))), (25, .c (I (pR r).length)), (26, .c (I k))] ∧ H = []) ?_ ?_
 ·refine wk_of [] (fun _ => [(0, .c (.r v (pR r))), (24, .c (.r v (pR r))), (25, .c (I (pR r).length)), (26, .c (I (0 : Nat)))]) (fun _ => _) (by decide) (ZNL hE) ZCF (fun _ => .nil) (fun _ => ?_)
  exact ⟨r.length, 0, by omega, by simp, rfl, rfl⟩
 rintro m F H ⟨k, hk, hnd, rfl, rfl⟩
 refine WA ?_
 refine aw_if rfl (fun hlt => ?_) (fun hge => ?_)
 ·obtain ⟨p, hpk⟩ : ∃ n, r[k]? = some n := ⟨_, List.getElem?_eq_getElem (by omega)⟩
  have hyes : p ∈ r.take k → ¬ r.Nodup := not_nodup_tk hpk
  have hno := nodup_tk hpk hnd
  obtain ⟨px, py⟩ := p
  have hrow : (pR r)[k]? = some [I px, I py] := by rw [List.getElem?_map, hpk]; rfl
  refine WA ?_
  cases hc : (r.take k).contains (⟨px, py⟩ : P2) with
  | true =>
   refine ZZ ?_
   refine aw_regionT [(0, none), (1, none), (2, none), (3, none), (4, some [])] hMixed (by kernel_rfl) ?_
   iterate 2 refine WX2 ?_
   refine ZT rfl (rd_slicer (l := 0) (h := k) rfl (KE (t := 107) rfl) rfl (by intro row hr; obtain ⟨p, _, rfl⟩ := List.mem_map.1 hr; rfl) (.inl ⟨rfl, rfl⟩) (.inr ⟨_, _, _, rfl, rfl, rfl⟩) (by omega) (by simp; omega)) ?_
   refine WP ?_
   refine at_ef rfl rfl (ef_call0 false (fun _ => hasP_v ⟨px, py⟩ (r.take k) _ (by simp; omega)) rfl .fn rfl (by decide) (by kernel_rfl) rfl (fun _g => .cons (.c (congrArg (CV.r _) (pR_take _ _))) (.cons (.aL (C0 rfl)) .nil)) (by simp)) ?_
   rintro _ _ ⟨_, _, _, ⟨hu, rfl⟩, hF, hH⟩
   rw [hc] at hu; subst hu
   (refine NST hF hH ?_; clear hF hH; rintro rfl rfl)
   refine ⟨ag_none, ?_⟩
   refine WQ ?_
   all_goals (refine aw_cond_t rfl ?_)
   refine WA ?_
   exact aret_1 [] _ rfl rfl rfl (by decide) (ZNK rfl) (fun _ => .nil) ⟨by rw [if_neg (hyes (by simpa using hc))], rfl⟩
  | false =>
   refine ZZ ?_
   refine aw_regionT [(0, none), (1, none), (2, none), (3, none), (4, some [])] hMixed (by kernel_rfl) ?_
   iterate 2 refine WX2 ?_
   refine ZT rfl (rd_slicer (l := 0) (h := k) rfl (KE (t := 107) rfl) rfl (by intro row hr; obtain ⟨p, _, rfl⟩ := List.mem_map.1 hr; rfl) (.inl ⟨rfl, rfl⟩) (.inr ⟨_, _, _, rfl, rfl, rfl⟩) (by omega) (by simp; omega)) ?_
   refine WP ?_
   refine at_ef rfl rfl (ef_call0 false (fun _ => hasP_v ⟨px, py⟩ (r.take k) _ (by simp; omega)) rfl .fn rfl (by decide) (by kernel_rfl) rfl (fun _g => .cons (.c (congrArg (CV.r _) (pR_take _ _))) (.cons (.aL (C0 rfl)) .nil)) (by simp)) ?_
   rintro _ _ ⟨_, _, _, ⟨hu, rfl⟩, hF, hH⟩
   rw [hc] at hu; subst hu
   (refine NST hF hH ?_; clear hF hH; rintro rfl rfl)
   refine ⟨ag_none, ?_⟩
   refine WQ ?_
   all_goals (refine aw_cond_f rfl ?_)
   refine ZZ ?_
   refine WA ?_
   refine wk_of [] (fun _ => [(0, .c (.r v (pR r))), (24, .c (.r v (pR r))), (25, .c (I (pR r).length)), (26, .c (I (k + 1 : Nat)))]) (fun _ => []) (by decide) (ZNL hE) ZCF (fun _ => .nil) (fun _ => ?_)
   exact ⟨m - 1, by omega, k + 1, by omega, hno (by simpa using hc), rfl, rfl⟩
 obtain rfl : k = r.length := by omega
 rw [List.take_of_length_le (Nat.le_refl _)] at hnd
 rw [if_pos hnd]
 refine ZZ ?_
 refine WR ?_
 refine al_ef rfl (ef_call0 false (fun _ => rgsides_v r v (by omega)) rfl .fn rfl (by decide) (by kernel_rfl) rfl (fun _ => C0 rfl) (by simp)) ?_
 rintro _ _ ⟨_, _, _, ⟨qs, rfl, rfl⟩, hF, hH⟩
 (refine NST hF hH ?_; clear hF hH; rintro rfl rfl)
 refine WE ?_
 refine WA ?_
 have eL : (s4R (sd4 r)).length = r.length := by simp [sd4_len]
 have hrf : ∀ i k, i < r.length → k < i → cfB r i k = true → rfF r = true := fun i k h1 h2 h3 => List.any_eq_true.2 ⟨i, List.mem_range.2 h1, List.any_eq_true.2 ⟨k, List.mem_range.2 h2, h3⟩⟩
 have hrn : (∀ i k, i < r.length → k < i → cfB r i k = false) → rfF r = false := fun h => List.any_eq_false.2 fun i hi => by
  rw [List.any_eq_false.2 fun k hk => by rw [h i k (List.mem_range.1 hi) (List.mem_range.1 hk)]; simp]; simp
 refine aw_loopw (fun m F H => ∃ (i : Nat), m + i = r.length ∧ (∀ i' k, i' < i → k < i' → cfB r i' k = false) ∧ F = [(6, .c (.r qs (s4R (sd4 r)))), (39, .c (.r qs (s4R (sd4 r)))), (40, .c (I (s4R (sd4 r)).length)), (41, .c (I i))] ∧ H = []) ?_ ?_
 ·refine wk_of [] (fun _ => [(6, .c (.r qs (s4R (sd4 r)))), (39, .c (.r qs (s4R (sd4 r)))), (40, .c (I (s4R (sd4 r)).length)), (41, .c (I (0 : Nat)))]) (fun _ => []) (by decide) (ZNL hE) ZCF (fun _ => .nil) (fun _ => ?_)
  exact ⟨r.length, 0, by omega, fun _ _ h => absurd h (by omega), rfl, rfl⟩
 rintro m F H ⟨i, hi, hno, rfl, rfl⟩
 refine WA ?_
 refine aw_if rfl (fun hlt => ?_) (fun hge => ?_)
 ·have hil : i < r.length := by omega
  have rS := sd4_get hil
  have pA := ptA_in hp hil
  have pB := ptA_in hp (i := (i + 1) % r.length) (Nat.mod_lt _ (by omega))
  have eT : (s4R ((sd4 r).take i)).length = i := by simp [sd4_len]; omega
  have hgT : ∀ k, k < i → (s4R ((sd4 r).take i))[k]? = some [I (ptA r k).x, I (ptA r k).y, I (ptA r ((k + 1) % r.length)).x, I (ptA r ((k + 1) % r.length)).y] := fun k hk => by
   rw [← s4R_take, List.drop_zero, List.getElem?_take, if_pos hk]; exact sd4_get (by omega)
  have hcf : ∀ k, cfB r i k = if k + 1 = i then onB (ptA r k) (ptA r i) (ptA r ((i + 1) % r.length)) || onB (ptA r ((i + 1) % r.length)) (ptA r k) (ptA r ((k + 1) % r.length)) else if k = 0 ∧ i + 1 = r.length then onB (ptA r i) (ptA r k) (ptA r ((k + 1) % r.length)) || onB (ptA r ((k + 1) % r.length)) (ptA r i) (ptA r ((i + 1) % r.length)) else metB (ptA r i) (ptA r ((i + 1) % r.length)) (ptA r k) (ptA r ((k + 1) % r.length)) := fun _ => rfl
  generalize ptA r i = sa at rS pA hcf
  generalize ptA r ((i + 1) % r.length) = sb at rS pB hcf
  obtain ⟨sax, say⟩ := sa
  obtain ⟨sbx, sby⟩ := sb
  simp only at rS
  refine WA ?_
  refine aw_cut (fun F H => ∃ q0, F = [(6, .c (.r qs (s4R (sd4 r)))), (7, .c (I i)), (8, .p 0 0 0), (39, .c (.r qs (s4R (sd4 r)))), (40, .c (I (s4R (sd4 r)).length)), (41, .c (I i)), (48, .c (.r q0 (s4R ((sd4 r).take i)))), (49, .c (I (s4R ((sd4 r).take i)).length)), (50, .c (I (0 : Nat)))] ∧ H = [.box [.c (I sax), .c (I say), .c (I sbx), .c (I sby)]]) ?_ ?_ wk_aw
  ·refine ZR ?_
   iterate 2 refine WX1 ?_
   refine ZA (rd_slicer (l := 0) (h := i) rfl (KE (t := 168) rfl) rfl (by intro row hr; obtain ⟨p, _, rfl⟩ := List.mem_map.1 hr; rfl) (.inl ⟨rfl, rfl⟩) (.inr ⟨_, _, _, rfl, rfl, rfl⟩) (by omega) (by omega)) ?_
   refine WE ?_
   rw [s4R_take]
   exact wk_of [some 0] (fun _ => [(6, .c (.r qs (s4R (sd4 r)))), (7, .c (I i)), (8, .p 0 0 0), (39, .c (.r qs (s4R (sd4 r)))), (40, .c (I (s4R (sd4 r)).length)), (41, .c (I i)), (48, .c (.r _ (s4R ((sd4 r).take i)))), (49, .c (I (s4R ((sd4 r).take i)).length)), (50, .c (I (0 : Nat)))]) (fun _ => _) (by decide) (ZNL hE) ZCF ZCH (fun _ => ⟨_, rfl, rfl⟩)
  rintro F H ⟨q0, rfl, rfl⟩
  refine ZZ ?_
  refine aw_loopw (fun m2 F H => ∃ (k : Nat), m2 + k = i ∧ (∀ k', k' < k → cfB r i k' = false) ∧ F = [(6, .c (.r qs (s4R (sd4 r)))), (7, .c (I i)), (8, .p 0 0 0), (39, .c (.r qs (s4R (sd4 r)))), (40, .c (I (s4R (sd4 r)).length)), (41, .c (I i)), (48, .c (.r q0 (s4R ((sd4 r).take i)))), (49, .c (I (s4R ((sd4 r).take i)).length)), (50, .c (I k))] ∧ H = [.box [.c (I sax), .c (I say), .c (I sbx), .c (I sby)]]) ?_ ?_
  ·refine wk_of [some 0] (fun _ => [(6, .c (.r qs (s4R (sd4 r)))), (7, .c (I i)), (8, .p 0 0 0), (39, .c (.r qs (s4R (sd4 r)))), (40, .c (I (s4R (sd4 r)).length)), (41, .c (I i)), (48, .c (.r q0 (s4R ((sd4 r).take i)))), (49, .c (I (s4R ((sd4 r).take i)).length)), (50, .c (I (0 : Nat)))]) (fun _ => _) (by decide) (ZNL hE) ZCF ZCH (fun _ => ?_)
   exact ⟨i, 0, by omega, fun _ h => absurd h (by omega), rfl, rfl⟩
  rintro m2 F H ⟨k, hk, hnk, rfl, rfl⟩
  refine WA ?_
  refine aw_if rfl (fun hlt2 => ?_) (fun hge2 => ?_)
  ·have hki : k < i := by omega
   have rT := hgT k hki
   have pT := ptA_in hp (i := k) (by omega)
   have pU := ptA_in hp (i := (k + 1) % r.length) (Nat.mod_lt _ (by omega))
   have hck := hcf k
   have hst : cfB r i k = false → ∀ k', k' < k + 1 → cfB r i k' = false := fun h k' h2 => by
    by_cases e : k' = k
    ·subst e; exact h
    ·exact hnk k' (by omega)
   generalize ptA r k = ta at rT pT hck
   generalize ptA r ((k + 1) % r.length) = tb at rT pU hck
   obtain ⟨tax, tay⟩ := ta
   obtain ⟨tbx, tby⟩ := tb
   simp only at rT
   refine WA ?_
   refine WA ?_
   by_cases hk1 : k + 1 = i
   ·rw [if_pos hk1] at hck
    refine aw_if rfl (fun _ => ?_) (fun h => absurd (by omega) h)
    refine ZZ ?_
    refine aw_cut (fun F H => F = [(6, .c (.r qs (s4R (sd4 r)))), (7, .c (I i)), (8, .p 0 0 0), (9, .c (I k)), (10, .p 1 0 0), (39, .c (.r qs (s4R (sd4 r)))), (40, .c (I (s4R (sd4 r)).length)), (41, .c (I i)), (48, .c (.r q0 (s4R ((sd4 r).take i)))), (49, .c (I (s4R ((sd4 r).take i)).length)), (50, .c (I k)), (75, .c (B (onB ⟨tax, tay⟩ ⟨sax, say⟩ ⟨sbx, sby⟩ || onB ⟨sbx, sby⟩ ⟨tax, tay⟩ ⟨tbx, tby⟩)))] ∧ H = [.box [.c (I sax), .c (I say), .c (I sbx), .c (I sby)], .box [.c (I tax), .c (I tay), .c (I tbx), .c (I tby)]]) ?_ ?_ wk_aw
    ·obtain ⟨o2, ho2⟩ : ∃ t, onB ⟨sbx, sby⟩ ⟨tax, tay⟩ ⟨tbx, tby⟩ = t := ⟨_, rfl⟩
     rw [ho2]
     cases ho1 : onB ⟨tax, tay⟩ ⟨sax, say⟩ ⟨sbx, sby⟩ with
     | true =>
      refine WR ?_
      refine al_ef rfl (ef_call0 false (fun _ => ron_v ⟨tax, tay⟩ ⟨sax, say⟩ ⟨sbx, sby⟩ pT pA pB) rfl .fn rfl (by decide) (by kernel_rfl) rfl (fun _g => .cons (.aL (C0 rfl)) (.cons (.aL (C0 rfl)) (.cons (.aL (C0 rfl)) .nil))) (by simp)) ?_
      rintro _ _ ⟨_, _, _, ⟨hu, rfl⟩, hF, hH⟩
      rw [ho1] at hu; subst hu
      (refine NST hF hH ?_; clear hF hH; rintro rfl rfl)
      refine WO ?_
      first | refine ZS ?_ | (refine G1 rfl ?_; refine al_ef rfl (ef_call0 false (fun _ => ron_v ⟨sbx, sby⟩ ⟨tax, tay⟩ ⟨tbx, tby⟩ pB pT pU) rfl .fn rfl (by decide) (by kernel_rfl) rfl (fun _g => .cons (.aL (C0 rfl)) (.cons (.aL (C0 rfl)) (.cons (.aL (C0 rfl)) .nil))) (by simp)) ?_; rintro _ _ ⟨_, _, _, ⟨hu, rfl⟩, hF, hH⟩; rw [ho2] at hu; subst hu; (refine NST hF hH ?_; clear hF hH; rintro rfl rfl)) | skip
      refine WE ?_
      exact wk_of [some 0, some 1] (fun _ => [(6, .c (.r qs (s4R (sd4 r)))), (7, .c (I i)), (8, .p 0 0 0), (9, .c (I k)), (10, .p 1 0 0), (39, .c (.r qs (s4R (sd4 r)))), (40, .c (I (s4R (sd4 r)).length)), (41, .c (I i)), (48, .c (.r q0 (s4R ((sd4 r).take i)))), (49, .c (I (s4R ((sd4 r).take i)).length)), (50, .c (I k)), (75, .c (B true))]) (fun _ => _) (by decide) (ZNL hE) ZCF ZCH (fun _ => ⟨rfl, rfl⟩)
     | false =>
      refine WR ?_
      refine al_ef rfl (ef_call0 false (fun _ => ron_v ⟨tax, tay⟩ ⟨sax, say⟩ ⟨sbx, sby⟩ pT pA pB) rfl .fn rfl (by decide) (by kernel_rfl) rfl (fun _g => .cons (.aL (C0 rfl)) (.cons (.aL (C0 rfl)) (.cons (.aL (C0 rfl)) .nil))) (by simp)) ?_
      rintro _ _ ⟨_, _, _, ⟨hu, rfl⟩, hF, hH⟩
      rw [ho1] at hu; subst hu
      (refine NST hF hH ?_; clear hF hH; rintro rfl rfl)
      refine WO ?_
      first | refine ZS ?_ | (refine G1 rfl ?_; refine al_ef rfl (ef_call0 false (fun _ => ron_v ⟨sbx, sby⟩ ⟨tax, tay⟩ ⟨tbx, tby⟩ pB pT pU) rfl .fn rfl (by decide) (by kernel_rfl) rfl (fun _g => .cons (.aL (C0 rfl)) (.cons (.aL (C0 rfl)) (.cons (.aL (C0 rfl)) .nil))) (by simp)) ?_; rintro _ _ ⟨_, _, _, ⟨hu, rfl⟩, hF, hH⟩; rw [ho2] at hu; subst hu; (refine NST hF hH ?_; clear hF hH; rintro rfl rfl)) | skip
      refine WE ?_
      exact wk_of [some 0, some 1] (fun _ => [(6, .c (.r qs (s4R (sd4 r)))), (7, .c (I i)), (8, .p 0 0 0), (9, .c (I k)), (10, .p 1 0 0), (39, .c (.r qs (s4R (sd4 r)))), (40, .c (I (s4R (sd4 r)).length)), (41, .c (I i)), (48, .c (.r q0 (s4R ((sd4 r).take i)))), (49, .c (I (s4R ((sd4 r).take i)).length)), (50, .c (I k)), (75, .c (B o2))]) (fun _ => _) (by decide) (ZNL hE) ZCF ZCH (fun _ => ⟨rfl, rfl⟩)
    rintro F H ⟨rfl, rfl⟩
    refine ZZ ?_
    cases hv : (onB ⟨tax, tay⟩ ⟨sax, say⟩ ⟨sbx, sby⟩ || onB ⟨sbx, sby⟩ ⟨tax, tay⟩ ⟨tbx, tby⟩) with
    | true =>
     refine aw_cond_t rfl ?_
     refine WA ?_
     exact aret_1 [] _ rfl rfl rfl (by decide) (ZNK rfl) (fun _ => .nil) ⟨by rw [if_pos (hrf i k hil hki (by rw [hck, hv]))], rfl⟩
    | false =>
     refine aw_cond_f rfl ?_
     refine ZZ ?_
     refine WA ?_
     refine wk_of [some 0] (fun _ => [(6, .c (.r qs (s4R (sd4 r)))), (7, .c (I i)), (8, .p 0 0 0), (39, .c (.r qs (s4R (sd4 r)))), (40, .c (I (s4R (sd4 r)).length)), (41, .c (I i)), (48, .c (.r q0 (s4R ((sd4 r).take i)))), (49, .c (I (s4R ((sd4 r).take i)).length)), (50, .c (I (k + 1 : Nat)))]) (fun _ => _) (by decide) (ZNL hE) ZCF ZCH (fun _ => ?_)
     exact ⟨m2 - 1, by omega, k + 1, by omega, hst (by rw [hck, hv]), rfl, rfl⟩
   ·rw [if_neg hk1] at hck
    refine aw_if rfl (fun h => absurd h (by omega)) (fun _ => ?_)
    refine ZZ ?_
    refine aw_cut (fun F H => F = [(6, .c (.r qs (s4R (sd4 r)))), (7, .c (I i)), (8, .p 0 0 0), (9, .c (I k)), (10, .p 1 0 0), (39, .c (.r qs (s4R (sd4 r)))), (40, .c (I (s4R (sd4 r)).length)), (41, .c (I i)), (48, .c (.r q0 (s4R ((sd4 r).take i)))), (49, .c (I (s4R ((sd4 r).take i)).length)), (50, .c (I k)), (76, .c (B (decide (k = 0 ∧ i + 1 = r.length))))] ∧ H = [.box [.c (I sax), .c (I say), .c (I sbx), .c (I sby)], .box [.c (I tax), .c (I tay), .c (I tbx), .c (I tby)]]) ?_ ?_ wk_aw
    ·by_cases hk0 : k = 0
     ·by_cases hin : i + 1 = r.length
      ·have ed : decide (k = 0 ∧ i + 1 = r.length) = true := by simp [hk0, hin]
       rw [ed]
       refine WA ?_
       exact wk_of [some 0, some 1] (fun _ => [(6, .c (.r qs (s4R (sd4 r)))), (7, .c (I i)), (8, .p 0 0 0), (9, .c (I k)), (10, .p 1 0 0), (39, .c (.r qs (s4R (sd4 r)))), (40, .c (I (s4R (sd4 r)).length)), (41, .c (I i)), (48, .c (.r q0 (s4R ((sd4 r).take i)))), (49, .c (I (s4R ((sd4 r).take i)).length)), (50, .c (I k)), (76, .c (B true))]) (fun _ => _) (by decide) (ZNL hE) ZCF ZCH (fun _ => ⟨rfl, rfl⟩)
      ·have ed : decide (k = 0 ∧ i + 1 = r.length) = false := by simp [hin]
       rw [ed]
       refine WA ?_
       exact wk_of [some 0, some 1] (fun _ => [(6, .c (.r qs (s4R (sd4 r)))), (7, .c (I i)), (8, .p 0 0 0), (9, .c (I k)), (10, .p 1 0 0), (39, .c (.r qs (s4R (sd4 r)))), (40, .c (I (s4R (sd4 r)).length)), (41, .c (I i)), (48, .c (.r q0 (s4R ((sd4 r).take i)))), (49, .c (I (s4R ((sd4 r).take i)).length)), (50, .c (I k)), (76, .c (B false))]) (fun _ => _) (by decide) (ZNL hE) ZCF ZCH (fun _ => ⟨rfl, rfl⟩)
     ·have ed : decide (k = 0 ∧ i + 1 = r.length) = false := by simp [hk0]
      rw [ed]
      refine WA ?_
      exact wk_of [some 0, some 1] (fun _ => [(6, .c (.r qs (s4R (sd4 r)))), (7, .c (I i)), (8, .p 0 0 0), (9, .c (I k)), (10, .p 1 0 0), (39, .c (.r qs (s4R (sd4 r)))), (40, .c (I (s4R (sd4 r)).length)), (41, .c (I i)), (48, .c (.r q0 (s4R ((sd4 r).take i)))), (49, .c (I (s4R ((sd4 r).take i)).length)), (50, .c (I k)), (76, .c (B false))]) (fun _ => _) (by decide) (ZNL hE) ZCF ZCH (fun _ => ⟨rfl, rfl⟩)
    rintro F H ⟨rfl, rfl⟩
    refine ZZ ?_
    by_cases hlast : k = 0 ∧ i + 1 = r.length
    ·rw [if_pos hlast] at hck
     refine aw_if rfl (fun _ => ?_) (fun h => absurd hlast h)
     refine ZZ ?_
     refine aw_cut (fun F H => F = [(6, .c (.r qs (s4R (sd4 r)))), (7, .c (I i)), (8, .p 0 0 0), (9, .c (I k)), (10, .p 1 0 0), (39, .c (.r qs (s4R (sd4 r)))), (40, .c (I (s4R (sd4 r)).length)), (41, .c (I i)), (48, .c (.r q0 (s4R ((sd4 r).take i)))), (49, .c (I (s4R ((sd4 r).take i)).length)), (50, .c (I k)), (101, .c (B (onB ⟨sax, say⟩ ⟨tax, tay⟩ ⟨tbx, tby⟩ || onB ⟨tbx, tby⟩ ⟨sax, say⟩ ⟨sbx, sby⟩)))] ∧ H = [.box [.c (I sax), .c (I say), .c (I sbx), .c (I sby)], .box [.c (I tax), .c (I tay), .c (I tbx), .c (I tby)]]) ?_ ?_ wk_aw
     ·obtain ⟨o2, ho2⟩ : ∃ t, onB ⟨tbx, tby⟩ ⟨sax, say⟩ ⟨sbx, sby⟩ = t := ⟨_, rfl⟩
      rw [ho2]
      cases ho1 : onB ⟨sax, say⟩ ⟨tax, tay⟩ ⟨tbx, tby⟩ with
      | true =>
       refine WR ?_
       refine al_ef rfl (ef_call0 false (fun _ => ron_v ⟨sax, say⟩ ⟨tax, tay⟩ ⟨tbx, tby⟩ pA pT pU) rfl .fn rfl (by decide) (by kernel_rfl) rfl (fun _g => .cons (.aL (C0 rfl)) (.cons (.aL (C0 rfl)) (.cons (.aL (C0 rfl)) .nil))) (by simp)) ?_
       rintro _ _ ⟨_, _, _, ⟨hu, rfl⟩, hF, hH⟩
       rw [ho1] at hu; subst hu
       (refine NST hF hH ?_; clear hF hH; rintro rfl rfl)
       refine WO ?_
       first | refine ZS ?_ | (refine G1 rfl ?_; refine al_ef rfl (ef_call0 false (fun _ => ron_v ⟨tbx, tby⟩ ⟨sax, say⟩ ⟨sbx, sby⟩ pU pA pB) rfl .fn rfl (by decide) (by kernel_rfl) rfl (fun _g => .cons (.aL (C0 rfl)) (.cons (.aL (C0 rfl)) (.cons (.aL (C0 rfl)) .nil))) (by simp)) ?_; rintro _ _ ⟨_, _, _, ⟨hu, rfl⟩, hF, hH⟩; rw [ho2] at hu; subst hu; (refine NST hF hH ?_; clear hF hH; rintro rfl rfl)) | skip
       refine WE ?_
       exact wk_of [some 0, some 1] (fun _ => [(6, .c (.r qs (s4R (sd4 r)))), (7, .c (I i)), (8, .p 0 0 0), (9, .c (I k)), (10, .p 1 0 0), (39, .c (.r qs (s4R (sd4 r)))), (40, .c (I (s4R (sd4 r)).length)), (41, .c (I i)), (48, .c (.r q0 (s4R ((sd4 r).take i)))), (49, .c (I (s4R ((sd4 r).take i)).length)), (50, .c (I k)), (101, .c (B true))]) (fun _ => _) (by decide) (ZNL hE) ZCF ZCH (fun _ => ⟨rfl, rfl⟩)
      | false =>
       refine WR ?_
       refine al_ef rfl (ef_call0 false (fun _ => ron_v ⟨sax, say⟩ ⟨tax, tay⟩ ⟨tbx, tby⟩ pA pT pU) rfl .fn rfl (by decide) (by kernel_rfl) rfl (fun _g => .cons (.aL (C0 rfl)) (.cons (.aL (C0 rfl)) (.cons (.aL (C0 rfl)) .nil))) (by simp)) ?_
       rintro _ _ ⟨_, _, _, ⟨hu, rfl⟩, hF, hH⟩
       rw [ho1] at hu; subst hu
       (refine NST hF hH ?_; clear hF hH; rintro rfl rfl)
       refine WO ?_
       first | refine ZS ?_ | (refine G1 rfl ?_; refine al_ef rfl (ef_call0 false (fun _ => ron_v ⟨tbx, tby⟩ ⟨sax, say⟩ ⟨sbx, sby⟩ pU pA pB) rfl .fn rfl (by decide) (by kernel_rfl) rfl (fun _g => .cons (.aL (C0 rfl)) (.cons (.aL (C0 rfl)) (.cons (.aL (C0 rfl)) .nil))) (by simp)) ?_; rintro _ _ ⟨_, _, _, ⟨hu, rfl⟩, hF, hH⟩; rw [ho2] at hu; subst hu; (refine NST hF hH ?_; clear hF hH; rintro rfl rfl)) | skip
       refine WE ?_
       exact wk_of [some 0, some 1] (fun _ => [(6, .c (.r qs (s4R (sd4 r)))), (7, .c (I i)), (8, .p 0 0 0), (9, .c (I k)), (10, .p 1 0 0), (39, .c (.r qs (s4R (sd4 r)))), (40, .c (I (s4R (sd4 r)).length)), (41, .c (I i)), (48, .c (.r q0 (s4R ((sd4 r).take i)))), (49, .c (I (s4R ((sd4 r).take i)).length)), (50, .c (I k)), (101, .c (B o2))]) (fun _ => _) (by decide) (ZNL hE) ZCF ZCH (fun _ => ⟨rfl, rfl⟩)
     rintro F H ⟨rfl, rfl⟩
     refine ZZ ?_
     cases hv : (onB ⟨sax, say⟩ ⟨tax, tay⟩ ⟨tbx, tby⟩ || onB ⟨tbx, tby⟩ ⟨sax, say⟩ ⟨sbx, sby⟩) with
     | true =>
      refine aw_cond_t rfl ?_
      refine WA ?_
      exact aret_1 [] _ rfl rfl rfl (by decide) (ZNK rfl) (fun _ => .nil) ⟨by rw [if_pos (hrf i k hil hki (by rw [hck, hv]))], rfl⟩
     | false =>
      refine aw_cond_f rfl ?_
      refine ZZ ?_
      refine WA ?_
      refine wk_of [some 0] (fun _ => [(6, .c (.r qs (s4R (sd4 r)))), (7, .c (I i)), (8, .p 0 0 0), (39, .c (.r qs (s4R (sd4 r)))), (40, .c (I (s4R (sd4 r)).length)), (41, .c (I i)), (48, .c (.r q0 (s4R ((sd4 r).take i)))), (49, .c (I (s4R ((sd4 r).take i)).length)), (50, .c (I (k + 1 : Nat)))]) (fun _ => _) (by decide) (ZNL hE) ZCF ZCH (fun _ => ?_)
      exact ⟨m2 - 1, by omega, k + 1, by omega, hst (by rw [hck, hv]), rfl, rfl⟩
    ·rw [if_neg hlast] at hck
     refine aw_if rfl (fun h => absurd h hlast) (fun _ => ?_)
     refine ZZ ?_
     refine aw_cut (fun F H => F = [(6, .c (.r qs (s4R (sd4 r)))), (7, .c (I i)), (8, .p 0 0 0), (9, .c (I k)), (10, .p 1 0 0), (39, .c (.r qs (s4R (sd4 r)))), (40, .c (I (s4R (sd4 r)).length)), (41, .c (I i)), (48, .c (.r q0 (s4R ((sd4 r).take i)))), (49, .c (I (s4R ((sd4 r).take i)).length)), (50, .c (I k)), (102, .c (B (metB ⟨sax, say⟩ ⟨sbx, sby⟩ ⟨tax, tay⟩ ⟨tbx, tby⟩)))] ∧ H = [.box [.c (I sax), .c (I say), .c (I sbx), .c (I sby)], .box [.c (I tax), .c (I tay), .c (I tbx), .c (I tby)]]) ?_ ?_ wk_aw
     ·refine WR ?_
      refine al_ef rfl (ef_call0 false (fun _ => rmeet_v ⟨sax, say⟩ ⟨sbx, sby⟩ ⟨tax, tay⟩ ⟨tbx, tby⟩ pA pB pT pU) rfl .fn rfl (by decide) (by kernel_rfl) rfl (fun _g => .cons (.aL (C0 rfl)) (.cons (.aL (C0 rfl)) (.cons (.aL (C0 rfl)) (.cons (.aL (C0 rfl)) .nil)))) (by simp)) ?_
      rintro _ _ ⟨_, _, _, ⟨rfl, rfl⟩, hF, hH⟩
      (refine NST hF hH ?_; clear hF hH; rintro rfl rfl)
      refine WE ?_
      exact wk_of [some 0, some 1] (fun _ => [(6, .c (.r qs (s4R (sd4 r)))), (7, .c (I i)), (8, .p 0 0 0), (9, .c (I k)), (10, .p 1 0 0), (39, .c (.r qs (s4R (sd4 r)))), (40, .c (I (s4R (sd4 r)).length)), (41, .c (I i)), (48, .c (.r q0 (s4R ((sd4 r).take i)))), (49, .c (I (s4R ((sd4 r).take i)).length)), (50, .c (I k)), (102, .c (B (metB ⟨sax, say⟩ ⟨sbx, sby⟩ ⟨tax, tay⟩ ⟨tbx, tby⟩)))]) (fun _ => _) (by decide) (ZNL hE) ZCF ZCH (fun _ => ⟨rfl, rfl⟩)
     rintro F H ⟨rfl, rfl⟩
     refine ZZ ?_
     cases hv : (metB ⟨sax, say⟩ ⟨sbx, sby⟩ ⟨tax, tay⟩ ⟨tbx, tby⟩) with
     | true =>
      refine aw_cond_t rfl ?_
      refine WA ?_
      exact aret_1 [] _ rfl rfl rfl (by decide) (ZNK rfl) (fun _ => .nil) ⟨by rw [if_pos (hrf i k hil hki (by rw [hck, hv]))], rfl⟩
     | false =>
      refine aw_cond_f rfl ?_
      refine ZZ ?_
      refine WA ?_
      refine wk_of [some 0] (fun _ => [(6, .c (.r qs (s4R (sd4 r)))), (7, .c (I i)), (8, .p 0 0 0), (39, .c (.r qs (s4R (sd4 r)))), (40, .c (I (s4R (sd4 r)).length)), (41, .c (I i)), (48, .c (.r q0 (s4R ((sd4 r).take i)))), (49, .c (I (s4R ((sd4 r).take i)).length)), (50, .c (I (k + 1 : Nat)))]) (fun _ => _) (by decide) (ZNL hE) ZCF ZCH (fun _ => ?_)
      exact ⟨m2 - 1, by omega, k + 1, by omega, hst (by rw [hck, hv]), rfl, rfl⟩
  obtain rfl : k = i := by omega
  refine ZZ ?_
  refine WA ?_
  refine wk_of [] (fun _ => [(6, .c (.r qs (s4R (sd4 r)))), (39, .c (.r qs (s4R (sd4 r)))), (40, .c (I (s4R (sd4 r)).length)), (41, .c (I (k + 1 : Nat)))]) (fun _ => []) (by decide) (ZNL hE) ZCF (fun _ => .nil) (fun _ => ?_)
  refine ⟨m - 1, by omega, k + 1, by omega, fun i' k' h1 h2 => ?_, rfl, rfl⟩
  by_cases e : i' = k
  ·subst e; exact hnk k' h2
  ·exact hno i' k' (by omega) h2
 have h5 := hrn fun i' k h1 h2 => hno i' k (by omega) h2
 rw [h5]
 refine ZZ ?_
 refine WA ?_
 exact aret_1 [] _ rfl rfl rfl (by decide) (ZNK rfl) (fun _ => .nil) ⟨rfl, rfl⟩
end Go.Proofs.YtlblimbelfenaaaGreat

/- A side that meets one of a ring's, by value. -/
-- NEWM
namespace Go.Proofs.YtlblimbelfenaaaGreat
open Go Go.RowKit
set_option maxRecDepth 100000
abbrev b4 (s : P2 × P2) : OB := .box [.c (I s.1.x), .c (I s.1.y), .c (I s.2.x), .c (I s.2.y)]
theorem rfc_v (s t : P2 × P2) (pA : s.1.in) (pB : s.2.in) (pT : t.1.in) (pU : t.2.in) : ACalls Tryz.prog 124 [.a [.c (I t.1.x), .c (I t.1.y), .c (I t.2.x), .c (I t.2.y)], .p 0 0 0] [b4 s] fun u H => u = .c (B (metB s.1 s.2 t.1 t.2)) ∧ H = [b4 s] := by
 obtain ⟨⟨sax, say⟩, ⟨sbx, sby⟩⟩ := s
 obtain ⟨⟨tax, tay⟩, ⟨tbx, tby⟩⟩ := t
 simp only at pA pB pT pU
 refine acalls_of (N := 13) Tryz.func124 rfl rfl (by simp) fun E hE => ?_
 refine WA ?_
 refine WR ?_
 refine al_ef rfl (ef_call0 false (fun _ => rmeet_v ⟨sax, say⟩ ⟨sbx, sby⟩ ⟨tax, tay⟩ ⟨tbx, tby⟩ pA pB pT pU) rfl .fn rfl (by decide) (by kernel_rfl) rfl (fun _g => .cons (.aL (C0 rfl)) (.cons (.aL (C0 rfl)) (.cons (.aL (C0 rfl)) (.cons (.aL (C0 rfl)) .nil)))) (by simp)) ?_
 rintro _ _ ⟨_, _, _, ⟨rfl, rfl⟩, hF, hH⟩
 (refine NST hF hH ?_; clear hF hH; rintro rfl rfl)
 refine WE ?_
 exact aret_1 [some 0] _ rfl rfl rfl (by decide) (ZNK rfl) ZCH ⟨rfl, rfl⟩
set_option maxHeartbeats 2000000 in
theorem idxR_v (s : P2 × P2) (L : List (P2 × P2)) (v : Value) (hl : L.length ≤ 1000000) (pA : s.1.in) (pB : s.2.in) (hL : ∀ t ∈ L, t.1.in ∧ t.2.in) : ACalls Tryz.prog 163 [.c (.r v (s4R L)), .f (.func 124) [.p 0 0 0]] [b4 s] fun u H => ∃ r : Int, u = .c (I r) ∧ H = [b4 s] ∧ (0 ≤ r ↔ (L.any fun t => metB s.1 s.2 t.1 t.2) = true) := by
 have e1 : (s4R L).length = L.length := by simp
 refine acalls_of (N := 19) Tryz.func163 rfl rfl (by simp) fun E hE => ?_
 refine WA ?_
 refine WA ?_
 refine aw_loopw (fun m F H => ∃ (k : Nat), m + k = L.length ∧ ((L.drop k).any fun t => metB s.1 s.2 t.1 t.2) = (L.any fun t => metB s.1 s.2 t.1 t.2) ∧ F = [(0, .c (.r v (s4R L))), (1, .f (.func 124) [.p 0 0 0]), (7, .c (I (s4R L).length)), (8, .c (I k))] ∧ H = [b4 s]) ?_ ?_
 ·refine wk_of [some 0] (fun _ => [(0, .c (.r v (s4R L))), (1, .f (.func 124) [.p 0 0 0]), (7, .c (I (s4R L).length)), (8, .c (I (0 : Nat)))]) (fun _ => [b4 s]) (by decide) (ZNL hE) ZCF ZCH (fun _ => ?_)
  exact ⟨L.length, 0, by omega, rfl, rfl, rfl⟩
 rintro m F H ⟨k, hk, hf, rfl, rfl⟩
 refine WA ?_
 refine aw_if rfl (fun hlt => ?_) (fun hge => ?_)
 ·obtain ⟨t, ht⟩ : ∃ e, L[k]? = some e := ⟨_, List.getElem?_eq_getElem (by omega)⟩
  obtain ⟨pT, pU⟩ := hL t (List.mem_of_getElem? ht)
  have hd := anyG_drop (fun t => metB s.1 s.2 t.1 t.2) ht
  obtain ⟨⟨tax, tay⟩, ⟨tbx, tby⟩⟩ := t
  simp only at pT pU hd
  have hrow : (s4R L)[k]? = some [I tax, I tay, I tbx, I tby] := by rw [List.getElem?_map, ht]; rfl
  refine WA ?_
  refine WR ?_
  refine al_ef rfl (ef_call [0] (fun _ => [b4 s]) false (fun _ => rfc_v s ⟨⟨tax, tay⟩, ⟨tbx, tby⟩⟩ pA pB pT pU) rfl (.clo rfl) rfl (by decide) (by kernel_rfl) rfl (fun _ => .cons (.aL (C0 rfl)) (.cons (.p rfl) .nil)) (by decide) ZCH (by simp)) ?_
  rintro F1 H1 ⟨_, _, _, _, ⟨rfl, rfl⟩, hF, hH⟩
  (refine NSU hF hH ?_; clear hF hH; rintro rfl rfl)
  refine WE ?_
  refine aw_cond rfl (fun hv => ?_) (fun hv => ?_)
  ·refine WA ?_
   refine aret_1 [some 0] _ rfl rfl rfl (by decide) (ZNK rfl) ZCH ⟨_, rfl, rfl, ?_⟩
   rw [← hf, hd, hv]; simp
  ·refine ZZ ?_
   refine WA ?_
   refine wk_of [some 0] (fun _ => [(0, .c (.r v (s4R L))), (1, .f (.func 124) [.p 0 0 0]), (7, .c (I (s4R L).length)), (8, .c (I (k + 1 : Nat)))]) (fun _ => [b4 s]) (by decide) (ZNL hE) ZCF ZCH (fun _ => ?_)
   exact ⟨m - 1, by omega, k + 1, by omega, by rw [← hf, hd, hv, Bool.false_or], rfl, rfl⟩
 refine WA ?_
 refine aret_1 [some 0] _ rfl rfl rfl (by decide) (ZNK rfl) ZCH ⟨_, rfl, rfl, ?_⟩
 rw [← hf, List.drop_eq_nil_of_le (by omega)]; simp
theorem hasR_v (s : P2 × P2) (L : List (P2 × P2)) (v : Value) (hl : L.length ≤ 1000000) (pA : s.1.in) (pB : s.2.in) (hL : ∀ t ∈ L, t.1.in ∧ t.2.in) : ACalls Tryz.prog 123 [.c (.r v (s4R L)), .f (.func 124) [.p 0 0 0]] [b4 s] fun u H => u = .c (B (L.any fun t => metB s.1 s.2 t.1 t.2)) ∧ H = [b4 s] := by
 refine acalls_of (N := 9) Tryz.func123 rfl rfl (by simp) fun E hE => ?_
 refine WA ?_
 refine WR ?_
 refine al_ef rfl (ef_call [0] (fun _ => [b4 s]) false (fun _ => idxR_v s L v hl pA pB hL) rfl .fn rfl (by decide) (by kernel_rfl) rfl (fun _ => .cons (.c rfl) (.cons (.fL (.cons (.p rfl) .nil)) .nil)) (by decide) ZCH (by simp)) ?_
 rintro F1 H1 ⟨_, _, _, _, ⟨r, rfl, rfl, hr⟩, hF, hH⟩
 (refine NSU hF hH ?_; clear hF hH; rintro rfl rfl)
 refine WE ?_
 refine aret_1 [some 0] _ rfl rfl rfl (by decide) (ZNK rfl) ZCH ⟨congrArg (fun z => AV.c (B z)) ?_, rfl⟩
 cases h : L.any fun t => metB s.1 s.2 t.1 t.2
 ·rw [h] at hr; simp at hr ⊢; omega
 ·rw [h] at hr; simp at hr ⊢; omega
end Go.Proofs.YtlblimbelfenaaaGreat

/- Plain law: the reference's conflicts of regions are the program's. -/
namespace Go.Proofs.YtlblimbelfenaaaGreat
def rgA (rs : List (List P2)) (i : Nat) : List P2 := rs.getD i []
def mtS (rs : List (List P2)) (i k : Nat) : Bool := (sd4 (rgA rs i)).any fun s => (sd4 (rgA rs k)).any fun t => metB s.1 s.2 t.1 t.2
def cfR (rs : List (List P2)) : Bool := (List.range rs.length).any fun i => (List.range i).any fun k => mtS rs i k
theorem sds5_sd4 (r : List P2) (i : Int) : sds5 r i = (sd4 r).map fun s => ⟨i, s.1, s.2⟩ := by
 unfold sds5 sd4
 rw [List.map_map]; rfl
theorem allS_mem {rs : List (List P2)} {x : Sd5} : ∀ {n : Nat}, x ∈ allS rs n ↔ ∃ i : Nat, i < n ∧ ∃ s ∈ sd4 (rgA rs i), x = ⟨i, s.1, s.2⟩
 | 0 => by simp [allS]
 | n + 1 => by
  unfold allS
  rw [List.mem_append, allS_mem, sds5_sd4, List.mem_map]
  constructor
  ·rintro (⟨i, hi, h⟩ | ⟨s, hs, e⟩)
   ·exact ⟨i, by omega, h⟩
   ·exact ⟨n, by omega, s, hs, e.symm⟩
  ·rintro ⟨i, hi, s, hs, e⟩
   by_cases h : i < n
   ·exact .inl ⟨i, h, s, hs, e⟩
   ·obtain rfl : i = n := by omega
    exact .inr ⟨s, hs, e.symm⟩
theorem mtS_iff {rs : List (List P2)} {i k : Nat} : mtS rs i k = true ↔ ∃ s ∈ sd4 (rgA rs i), ∃ t ∈ sd4 (rgA rs k), metB s.1 s.2 t.1 t.2 = true := by
 unfold mtS
 simp only [List.any_eq_true]
theorem cfR_eq (rs : List (List P2)) : cfR rs = cnf (allS rs rs.length) := by
 rw [Bool.eq_iff_iff, cnf_iff]
 unfold cfR
 simp only [List.any_eq_true, List.mem_range]
 constructor
 ·rintro ⟨i, hi, k, hk, h⟩
  obtain ⟨s, hs, t, ht, hm⟩ := mtS_iff.1 h
  refine ⟨⟨i, s.1, s.2⟩, allS_mem.2 ⟨i, hi, s, hs, rfl⟩, ⟨k, t.1, t.2⟩, allS_mem.2 ⟨k, by omega, t, ht, rfl⟩, ?_⟩
  unfold hitB
  simp only [Bool.and_eq_true, decide_eq_true_eq]
  exact ⟨by omega, hm⟩
 ·rintro ⟨x, hx, y, hy, h⟩
  obtain ⟨i, hi, s, hs, rfl⟩ := allS_mem.1 hx
  obtain ⟨k, hk, t, ht, rfl⟩ := allS_mem.1 hy
  unfold hitB at h
  simp only [Bool.and_eq_true, decide_eq_true_eq] at h
  obtain ⟨h1, hm⟩ := h
  rcases Nat.lt_trichotomy i k with h2 | h2 | h2
  ·exact ⟨k, hk, i, h2, mtS_iff.2 ⟨t, ht, s, hs, by rw [metB_comm]; exact hm⟩⟩
  ·exact absurd (by rw [h2]) h1
  ·exact ⟨i, hi, k, h2, mtS_iff.2 ⟨s, hs, t, ht, hm⟩⟩
end Go.Proofs.YtlblimbelfenaaaGreat

/- copy into an array of the call's own. -/
namespace Go.Proofs.YtlblimbelfenaaaGreat
open Go Go.RowKit
section
variable {P : Program} {N : Nat} {E : Env} {F : Fm} {H : List OB} {o : Oper} {S : Nat → Prop} {ρ : List (Option Nat)} {a : Act} {w : World}
end
end Go.Proofs.YtlblimbelfenaaaGreat
