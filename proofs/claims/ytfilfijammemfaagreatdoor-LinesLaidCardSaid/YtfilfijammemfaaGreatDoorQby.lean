/- The law LinesLaid, walked. -/
import Derived.Test.YtfilfijammemfaaGreatDoorQbn
import Derived.Test.YtfilfijammemfaaGreatDoorQbp
import Derived.Test.YtfilfijammemfaaGreatDoorQbw
import Derived.Test.YtfilfijammemfaaGreatDoorQbx
import Derived.Test.YtfilfijammemfaaGreatDoorQbb
import Derived.Test.YtfilfijammemfaaGreatDoorQbh
set_option linter.unusedSimpArgs false
set_option linter.unusedVariables false
/- The law LinesLaid, walked. -/
-- NEWM
namespace Go.Proofs.YtfilfijammemfaaGreatDoor
open Go Go.RowKit
set_option maxRecDepth 100000
def lfF (q ev ph : Int) : Int := if outB q 0 1 = true then 4 else if (outB ev 1 200 || outB ph (-1000) 1000) = true then 1 else 0
theorem not_in {n lo hi : Int} : (!inQ n lo hi) = outB n lo hi := by
 unfold inQ outB
 rw [Bool.eq_iff_iff]
 simp
set_option maxHeartbeats 2000000 in
theorem rlinf_v (q ev ph : Int) : ACalls Tryz.prog 13 [.c (I q), .c (I ev), .c (I ph)] [] fun u H => u = .c (I (lfF q ev ph)) ∧ H = [] := by
 obtain ⟨b1, h1⟩ : ∃ z, inQ q 0 1 = z := ⟨_, rfl⟩
 obtain ⟨b2, h2⟩ : ∃ z, inQ ev 1 200 = z := ⟨_, rfl⟩
 obtain ⟨b3, h3⟩ : ∃ z, inQ ph (-1000) 1000 = z := ⟨_, rfl⟩
 have e : lfF q ev ph = if (!b1) = true then 4 else if ((!b2) || (!b3)) = true then 1 else 0 := by rw [← h1, ← h2, ← h3, not_in, not_in, not_in]; rfl
 rw [e]
 refine acalls_of (N := 20) Tryz.func13 rfl rfl (by simp) fun E hE => ?_
 refine WA ?_
 refine WR ?_
 refine al_ef rfl (ef_call0 false (fun _ => qin_v _ _ _) rfl .fn rfl (by decide) (by kernel_rfl) rfl (fun _ => C0 rfl) (by simp)) ?_
 rintro _ _ ⟨_, _, _, ⟨rfl, rfl⟩, hF, hH⟩
 rw [h1] at hF
 (refine NST hF hH ?_; clear hF hH; rintro rfl rfl)
 refine WE ?_
 cases b1 with
 | false =>
  refine aw_cond_t rfl ?_
  refine WA ?_
  exact aret_1 [] _ rfl rfl rfl (by decide) (ZNK rfl) (fun _ => .nil) ⟨rfl, rfl⟩
 | true =>
  refine aw_cond_f rfl ?_
  refine ZZ ?_
  cases b2 with
  | false =>
   refine WR ?_
   refine al_ef rfl (ef_call0 false (fun _ => qin_v _ _ _) rfl .fn rfl (by decide) (by kernel_rfl) rfl (fun _ => C0 rfl) (by simp)) ?_
   rintro _ _ ⟨_, _, _, ⟨rfl, rfl⟩, hF, hH⟩
   rw [h2] at hF
   refine NST hF hH ?_; clear hF hH; rintro rfl rfl
   refine WE ?_
   refine aw_cond_t rfl ?_
   refine WA ?_
   exact aret_1 [] _ rfl rfl rfl (by decide) (ZNK rfl) (fun _ => .nil) ⟨rfl, rfl⟩
  | true =>
   refine WR ?_
   refine al_ef rfl (ef_call0 false (fun _ => qin_v _ _ _) rfl .fn rfl (by decide) (by kernel_rfl) rfl (fun _ => C0 rfl) (by simp)) ?_
   rintro _ _ ⟨_, _, _, ⟨rfl, rfl⟩, hF, hH⟩
   rw [h2] at hF
   refine NST hF hH ?_; clear hF hH; rintro rfl rfl
   refine WO ?_
   refine G1 rfl ?_
   refine al_ef rfl (ef_call0 false (fun _ => qin_v _ _ _) rfl .fn rfl (by decide) (by kernel_rfl) rfl (fun _ => C0 rfl) (by simp)) ?_
   rintro _ _ ⟨_, _, _, ⟨rfl, rfl⟩, hF, hH⟩
   rw [h3] at hF
   refine NST hF hH ?_; clear hF hH; rintro rfl rfl
   refine WE ?_
   cases b3 with
   | false =>
    refine aw_cond_t rfl ?_
    refine WA ?_
    exact aret_1 [] _ rfl rfl rfl (by decide) (ZNK rfl) (fun _ => .nil) ⟨rfl, rfl⟩
   | true =>
    refine aw_cond_f rfl ?_
    refine ZZ ?_
    refine WA ?_
    exact aret_1 [] _ rfl rfl rfl (by decide) (ZNK rfl) (fun _ => .nil) ⟨rfl, rfl⟩
theorem lone_eq (c : Cel) (q ev ph : Int) : fstN [celF c, lfF q ev ph] = lnF c q ev ph := by
 unfold lnF lfF
 by_cases h : celF c = 0
 ·by_cases h2 : outB q 0 1 = true <;> by_cases h3 : (outB ev 1 200 || outB ph (-1000) 1000) = true <;> simp [fstN, h, h2, h3]
 ·simp [fstN, h]
theorem ltwo_eq (c : Cel) (q most x y : Int) (hx : x = if outB q 0 1 = true then 4 else 0) (hy : y = if outB most 1 200 = true then 1 else 0) : fstN [celF c, x, y] = (leaF c q most).2 := by
 subst hx; subst hy
 unfold leaF
 by_cases h : celF c = 0
 ·by_cases h2 : outB q 0 1 = true <;> by_cases h3 : outB most 1 200 = true <;> simp [fstN, h, h2, h3]
 ·simp [fstN, h]
theorem le_right {c : Cel} {q most : Int} (h : (leaF c q most).2 = 0) : RCel c ∧ ∃ k : Nat, most = (k : Int) ∧ k ≤ 200 ∧ (leaF c q most).1 = lstF c q k := by
 by_cases hcf : celF c = 0
 ·unfold leaF at h ⊢
  rw [if_neg (by simpa using hcf)] at h ⊢
  split at h
  ·cases h
  ·rename_i h1
   rw [if_neg h1]
   split at h
   ·cases h
   ·rename_i h2
    rw [if_neg h2]
    unfold outB at h2
    simp at h2
    exact ⟨celF_0.1 hcf, most.toNat, by omega, by omega, rfl⟩
 ·unfold leaF at h
  rw [if_pos hcf] at h
  exact absurd h hcf
theorem le_wrong {c : Cel} {q most : Int} (h : (leaF c q most).2 ≠ 0) : (leaF c q most).1 = 0 := by
 unfold leaF at h ⊢
 split
 ·rfl
 ·split
  ·rfl
  ·split
   ·rfl
   ·rename_i h1 h2 h3; rw [if_neg h1, if_neg h2, if_neg h3] at h; exact absurd rfl h
set_option maxHeartbeats 8000000 in
theorem law_lines (v : Value) (zs : List Int) (hs : StrOk zs) : ACalls Tryz.prog 3 [.c (.r v (zs.map fun z => [I z]))] [] fun u H => u = .c (B true) := by
 refine acalls_of (N := 135) Tryz.func3 rfl rfl (by simp) fun E hE => ?_
 refine WA ?_
 refine WA ?_
 refine WR ?_
 refine al_ef rfl (ef_callm true (fun _ => pick_a [2, 10] _ _ _ _ hs (by omega) (by omega) (by simp) (by simp)) rfl .fn rfl (by decide) (by kernel_rfl) rfl rfl (fun _g => .cons (.p rfl) (.cons (.frz rfl rfl rfl rfl rfl) .nil)) (fun _g => .cons (.c rfl) (.cons (.c rfl) .nil)) (fun _ _ _ _ ⟨_, hu, hH, _⟩ => by rw [hu, hH]; exact ⟨.c (.inl trivial), strm_flat (.inr ⟨0, _, rfl, by simp⟩)⟩)) ?_
 rintro F1 H1 ⟨_, _, _, _, ⟨st0, rfl, hq, hrm⟩, hF, hH⟩
 injection hq with hq1 hq2; subst hq1; subst hq2
 (refine NST hF hH ?_; clear hF hH; rintro rfl rfl)
 simp only [List.mem_cons, List.not_mem_nil, or_false] at hrm
 refine al_ef rfl (ef_callm false (fun _ => acells_v st0 (by omega) _ _ _ hs (by omega) (by omega)) rfl .fn rfl (by decide) (by kernel_rfl) rfl rfl (fun _g => .cons (.p rfl) (.cons (.c rfl) .nil)) (fun _g => .cons (.c rfl) (.cons (.c rfl) .nil)) (by simp)) ?_
 rintro F1 H1 ⟨_, _, _, _, ⟨vc, c, ac, rfl, hq, hac1c, hac2c, hsc⟩, hF, hH⟩
 injection hq with hq1 hq2; subst hq1; subst hq2
 (refine NST hF hH ?_; clear hF hH; rintro rfl rfl)
 refine WE ?_
 refine WR ?_
 refine al_ef rfl (ef_callm false (fun _ => linestyle_v _ _ _ hs (by omega) (by omega)) rfl .fn rfl (by decide) (by kernel_rfl) rfl rfl (fun _g => .cons (.p rfl) .nil) (fun _g => .cons (.c rfl) (.cons (.c rfl) .nil)) (by simp)) ?_
 rintro F1 H1 ⟨_, _, _, _, ⟨q, ev, ph, aq, rfl, hq, haq1, haq2, hbq, hbe, hbp⟩, hF, hH⟩
 injection hq with hq1 hq2; subst hq1; subst hq2
 (refine NST hF hH ?_; clear hF hH; rintro rfl rfl)
 refine WE ?_
 refine WR ?_
 refine al_ef rfl (ef_callm true (fun _ => pick_a [1, 3, 5, 0, 200, 201] _ _ _ _ hs (by omega) (by omega) (by simp) (by simp)) rfl .fn rfl (by decide) (by kernel_rfl) rfl rfl (fun _g => .cons (.p rfl) (.cons (.frz rfl rfl rfl rfl rfl) .nil)) (fun _g => .cons (.c rfl) (.cons (.c rfl) .nil)) (fun _ _ _ _ ⟨_, hu, hH, _⟩ => by rw [hu, hH]; exact ⟨.c (.inl trivial), strm_flat (.inr ⟨0, _, rfl, by simp⟩)⟩)) ?_
 rintro F1 H1 ⟨_, _, _, _, ⟨most, rfl, hq, hrm⟩, hF, hH⟩
 injection hq with hq1 hq2; subst hq1; subst hq2
 (refine NST hF hH ?_; clear hF hH; rintro rfl rfl)
 simp only [List.mem_cons, List.not_mem_nil, or_false] at hrm
 refine WE ?_
 refine aw_wk (wk_of (K := fun F H => F = [(4, .p 0 0 0), (5, .c (I q)), (6, .c (I ev)), (7, .c (I ph)), (8, .c (I most))] ∧ H = [celB vc c]) [some 2] (fun _ => [(4, .p 0 0 0), (5, .c (I q)), (6, .c (I ev)), (7, .c (I ph)), (8, .c (I most))]) (fun _ => [celB vc c]) (by decide) (ZNL hE) ZCF ZCH (fun _ => ⟨rfl, rfl⟩)) ?_
 rintro F H ⟨rfl, rfl⟩
 clear hs hac1c hac2c haq1 haq2
 have hl1 := lines_v vc c q ev ph hsc.sz.1 hsc.sz.2
 have hl2 := zigzag_v vc c q ev ph hsc.sz.1 hsc.sz.2
 have hl3 := least_g vc c q most hsc.sz hsc.near
 have hck := rcheck_v vc c hsc.sz.1 hsc.sz.2
 have hone := lone_eq c q ev ph
 have htwo := ltwo_eq c q most _ _ rfl rfl
 have hri := @ln_right c q ev ph
 have hlr := @le_right c q most
 have hlw := @le_wrong c q most
 have hb1 := fun pl => @ln_bd c q ev ph pl
 have hb2 := fun pl => @zg_bd c q ev ph pl
 generalize hpf : lnF c q ev ph = pf at *
 generalize leaF c q most = lf at *
 obtain ⟨n, g⟩ := lf
 simp only at hl3 htwo hlr hlw
 refine WR ?_
 refine al_ef rfl (ef_call0 false (fun _ => hl1) rfl .fn rfl (by decide) (by kernel_rfl) rfl (fun _ => C0 rfl) (by simp)) ?_
 rintro _ _ ⟨_, _, _, ⟨v1, l1, rfl, hz1, hy1, rfl⟩, hF, hH⟩
 (refine NST hF hH ?_; clear hF hH; rintro rfl rfl)
 refine WE ?_
 refine WR ?_
 refine al_ef rfl (ef_call0 false (fun _ => hl2) rfl .fn rfl (by decide) (by kernel_rfl) rfl (fun _ => C0 rfl) (by simp)) ?_
 rintro _ _ ⟨_, _, _, ⟨v2, l2, rfl, hz2, hy2, rfl⟩, hF, hH⟩
 (refine NST hF hH ?_; clear hF hH; rintro rfl rfl)
 refine WE ?_
 refine WR ?_
 refine al_ef rfl (ef_call0 false (fun _ => hl3) rfl .fn rfl (by decide) (by kernel_rfl) rfl (fun _ => C0 rfl) (by simp)) ?_
 rintro _ _ ⟨_, _, _, ⟨rfl, rfl⟩, hF, hH⟩
 (refine NST hF hH ?_; clear hF hH; rintro rfl rfl)
 refine WE ?_
 refine WR ?_
 refine al_ef rfl (ef_call0 false (fun _ => hck) rfl .fn rfl (by decide) (by kernel_rfl) rfl (fun _ => C0 rfl) (by simp)) ?_
 rintro _ _ ⟨_, _, _, ⟨rfl, rfl⟩, hF, hH⟩
 (refine NST hF hH ?_; clear hF hH; rintro rfl rfl)
 refine WO ?_
 refine al_ef rfl (ef_call0 false (fun _ => (rlinf_v q ev ph)) rfl .fn rfl (by decide) (by kernel_rfl) rfl (fun _ => C0 rfl) (by simp)) ?_
 rintro _ _ ⟨_, _, _, ⟨rfl, rfl⟩, hF, hH⟩
 (refine NST hF hH ?_; clear hF hH; rintro rfl rfl)
 refine WO ?_
 refine al_ef rfl (ef_call0 true (fun g => lerrs_v [celF c, lfF q ev ph] (g (.o 1 0 2 2)) (by simp)) rfl .fn rfl (by decide) (by kernel_rfl) rfl (fun _ => .cons (.frz rfl rfl rfl rfl rfl) .nil) (fun _ _ _ _ ⟨hu, hH⟩ => by rw [hu, hH]; exact ⟨.c (.inl trivial), by simp⟩)) ?_
 rintro _ _ ⟨_, _, _, ⟨rfl, rfl⟩, hF, hH⟩
 (refine NST hF hH ?_; clear hF hH; rintro rfl rfl)
 refine WE ?_
 rw [hone]
 refine aw_cut (fun F H => F = [(4, .p 0 0 0), (5, .c (I q)), (6, .c (I ev)), (7, .c (I ph)), (8, .c (I most)), (9, .c (.r v1 (paR l1))), (10, .c (I pf)), (11, .c (.r v2 (paR l2))), (12, .c (I pf)), (13, .c (I n)), (14, .c (I g)), (15, .c (I pf)), (16, .c (I g))] ∧ H = [celB vc c]) ?_ ?_ wk_aw
 ·by_cases h1 : q < 0
  ·by_cases h3 : most < 1
   ·have hx : (4 : Int) = if outB q 0 1 = true then 4 else 0 := by simp [outB, h1]
    have hy : (1 : Int) = if outB most 1 200 = true then 1 else 0 := by simp [outB, h3]
    rw [← hx, ← hy] at htwo
    refine WR ?_
    refine al_ef rfl (ef_call0 false (fun _ => hck) rfl .fn rfl (by decide) (by kernel_rfl) rfl (fun _ => C0 rfl) (by simp)) ?_
    rintro _ _ ⟨_, _, _, ⟨rfl, rfl⟩, hF, hH⟩
    (refine NST hF hH ?_; clear hF hH; rintro rfl rfl)
    refine WO ?_
    refine al_ef rfl (ef_call0 false (fun _ => lwhen_v _ _) rfl .fn rfl (by decide) (by kernel_rfl) rfl (fun _ => C0 rfl) (by simp)) ?_
    rintro _ _ ⟨_, _, _, ⟨rfl, rfl⟩, hF, hH⟩
    rw [if_pos rfl] at hF
    (refine NST hF hH ?_; clear hF hH; rintro rfl rfl)
    refine WO ?_
    refine al_ef rfl (ef_call0 false (fun _ => lwhen_v _ _) rfl .fn rfl (by decide) (by kernel_rfl) rfl (fun _ => C0 rfl) (by simp)) ?_
    rintro _ _ ⟨_, _, _, ⟨rfl, rfl⟩, hF, hH⟩
    rw [if_pos rfl] at hF
    (refine NST hF hH ?_; clear hF hH; rintro rfl rfl)
    refine WO ?_
    refine al_ef rfl (ef_call0 true (fun g => lerrs_v [celF c, 4, 1] (g (.o 2 0 3 3)) (by simp)) rfl .fn rfl (by decide) (by kernel_rfl) rfl (fun _ => .cons (.frz rfl rfl rfl rfl rfl) .nil) (fun _ _ _ _ ⟨hu, hH⟩ => by rw [hu, hH]; exact ⟨.c (.inl trivial), by simp⟩)) ?_
    rintro _ _ ⟨_, _, _, ⟨rfl, rfl⟩, hF, hH⟩
    (refine NST hF hH ?_; clear hF hH; rintro rfl rfl)
    refine WE ?_
    rw [htwo]
    exact wk_of [some 0] (fun _ => [(4, .p 0 0 0), (5, .c (I q)), (6, .c (I ev)), (7, .c (I ph)), (8, .c (I most)), (9, .c (.r v1 (paR l1))), (10, .c (I pf)), (11, .c (.r v2 (paR l2))), (12, .c (I pf)), (13, .c (I n)), (14, .c (I g)), (15, .c (I pf)), (16, .c (I g))]) (fun _ => [celB vc c]) (by decide) (ZNL hE) ZCF ZCH (fun _ => ⟨rfl, rfl⟩)
   ·by_cases h4 : 200 < most
    ·have hx : (4 : Int) = if outB q 0 1 = true then 4 else 0 := by simp [outB, h1]
     have hy : (1 : Int) = if outB most 1 200 = true then 1 else 0 := by simp [outB, h4]
     rw [← hx, ← hy] at htwo
     refine WR ?_
     refine al_ef rfl (ef_call0 false (fun _ => hck) rfl .fn rfl (by decide) (by kernel_rfl) rfl (fun _ => C0 rfl) (by simp)) ?_
     rintro _ _ ⟨_, _, _, ⟨rfl, rfl⟩, hF, hH⟩
     (refine NST hF hH ?_; clear hF hH; rintro rfl rfl)
     refine WO ?_
     refine al_ef rfl (ef_call0 false (fun _ => lwhen_v _ _) rfl .fn rfl (by decide) (by kernel_rfl) rfl (fun _ => C0 rfl) (by simp)) ?_
     rintro _ _ ⟨_, _, _, ⟨rfl, rfl⟩, hF, hH⟩
     rw [if_pos rfl] at hF
     (refine NST hF hH ?_; clear hF hH; rintro rfl rfl)
     refine WO ?_
     refine al_ef rfl (ef_call0 false (fun _ => lwhen_v _ _) rfl .fn rfl (by decide) (by kernel_rfl) rfl (fun _ => C0 rfl) (by simp)) ?_
     rintro _ _ ⟨_, _, _, ⟨rfl, rfl⟩, hF, hH⟩
     rw [if_pos rfl] at hF
     (refine NST hF hH ?_; clear hF hH; rintro rfl rfl)
     refine WO ?_
     refine al_ef rfl (ef_call0 true (fun g => lerrs_v [celF c, 4, 1] (g (.o 2 0 3 3)) (by simp)) rfl .fn rfl (by decide) (by kernel_rfl) rfl (fun _ => .cons (.frz rfl rfl rfl rfl rfl) .nil) (fun _ _ _ _ ⟨hu, hH⟩ => by rw [hu, hH]; exact ⟨.c (.inl trivial), by simp⟩)) ?_
     rintro _ _ ⟨_, _, _, ⟨rfl, rfl⟩, hF, hH⟩
     (refine NST hF hH ?_; clear hF hH; rintro rfl rfl)
     refine WE ?_
     rw [htwo]
     exact wk_of [some 0] (fun _ => [(4, .p 0 0 0), (5, .c (I q)), (6, .c (I ev)), (7, .c (I ph)), (8, .c (I most)), (9, .c (.r v1 (paR l1))), (10, .c (I pf)), (11, .c (.r v2 (paR l2))), (12, .c (I pf)), (13, .c (I n)), (14, .c (I g)), (15, .c (I pf)), (16, .c (I g))]) (fun _ => [celB vc c]) (by decide) (ZNL hE) ZCF ZCH (fun _ => ⟨rfl, rfl⟩)
    ·have hx : (4 : Int) = if outB q 0 1 = true then 4 else 0 := by simp [outB, h1]
     have hy : (0 : Int) = if outB most 1 200 = true then 1 else 0 := by simp [outB, h3, h4]
     rw [← hx, ← hy] at htwo
     refine WR ?_
     refine al_ef rfl (ef_call0 false (fun _ => hck) rfl .fn rfl (by decide) (by kernel_rfl) rfl (fun _ => C0 rfl) (by simp)) ?_
     rintro _ _ ⟨_, _, _, ⟨rfl, rfl⟩, hF, hH⟩
     (refine NST hF hH ?_; clear hF hH; rintro rfl rfl)
     refine WO ?_
     refine al_ef rfl (ef_call0 false (fun _ => lwhen_v _ _) rfl .fn rfl (by decide) (by kernel_rfl) rfl (fun _ => C0 rfl) (by simp)) ?_
     rintro _ _ ⟨_, _, _, ⟨rfl, rfl⟩, hF, hH⟩
     rw [if_pos rfl] at hF
     (refine NST hF hH ?_; clear hF hH; rintro rfl rfl)
     refine WO ?_
     refine al_ef rfl (ef_call0 false (fun _ => lwhen_v _ _) rfl .fn rfl (by decide) (by kernel_rfl) rfl (fun _ => C0 rfl) (by simp)) ?_
     rintro _ _ ⟨_, _, _, ⟨rfl, rfl⟩, hF, hH⟩
     rw [if_neg Bool.false_ne_true] at hF
     (refine NST hF hH ?_; clear hF hH; rintro rfl rfl)
     refine WO ?_
     refine al_ef rfl (ef_call0 true (fun g => lerrs_v [celF c, 4, 0] (g (.o 2 0 3 3)) (by simp)) rfl .fn rfl (by decide) (by kernel_rfl) rfl (fun _ => .cons (.frz rfl rfl rfl rfl rfl) .nil) (fun _ _ _ _ ⟨hu, hH⟩ => by rw [hu, hH]; exact ⟨.c (.inl trivial), by simp⟩)) ?_
     rintro _ _ ⟨_, _, _, ⟨rfl, rfl⟩, hF, hH⟩
     (refine NST hF hH ?_; clear hF hH; rintro rfl rfl)
     refine WE ?_
     rw [htwo]
     exact wk_of [some 0] (fun _ => [(4, .p 0 0 0), (5, .c (I q)), (6, .c (I ev)), (7, .c (I ph)), (8, .c (I most)), (9, .c (.r v1 (paR l1))), (10, .c (I pf)), (11, .c (.r v2 (paR l2))), (12, .c (I pf)), (13, .c (I n)), (14, .c (I g)), (15, .c (I pf)), (16, .c (I g))]) (fun _ => [celB vc c]) (by decide) (ZNL hE) ZCF ZCH (fun _ => ⟨rfl, rfl⟩)
  ·by_cases h2 : 1 < q
   ·by_cases h3 : most < 1
    ·have hx : (4 : Int) = if outB q 0 1 = true then 4 else 0 := by simp [outB, h2]
     have hy : (1 : Int) = if outB most 1 200 = true then 1 else 0 := by simp [outB, h3]
     rw [← hx, ← hy] at htwo
     refine WR ?_
     refine al_ef rfl (ef_call0 false (fun _ => hck) rfl .fn rfl (by decide) (by kernel_rfl) rfl (fun _ => C0 rfl) (by simp)) ?_
     rintro _ _ ⟨_, _, _, ⟨rfl, rfl⟩, hF, hH⟩
     (refine NST hF hH ?_; clear hF hH; rintro rfl rfl)
     refine WO ?_
     refine al_ef rfl (ef_call0 false (fun _ => lwhen_v _ _) rfl .fn rfl (by decide) (by kernel_rfl) rfl (fun _ => C0 rfl) (by simp)) ?_
     rintro _ _ ⟨_, _, _, ⟨rfl, rfl⟩, hF, hH⟩
     rw [if_pos rfl] at hF
     (refine NST hF hH ?_; clear hF hH; rintro rfl rfl)
     refine WO ?_
     refine al_ef rfl (ef_call0 false (fun _ => lwhen_v _ _) rfl .fn rfl (by decide) (by kernel_rfl) rfl (fun _ => C0 rfl) (by simp)) ?_
     rintro _ _ ⟨_, _, _, ⟨rfl, rfl⟩, hF, hH⟩
     rw [if_pos rfl] at hF
     (refine NST hF hH ?_; clear hF hH; rintro rfl rfl)
     refine WO ?_
     refine al_ef rfl (ef_call0 true (fun g => lerrs_v [celF c, 4, 1] (g (.o 2 0 3 3)) (by simp)) rfl .fn rfl (by decide) (by kernel_rfl) rfl (fun _ => .cons (.frz rfl rfl rfl rfl rfl) .nil) (fun _ _ _ _ ⟨hu, hH⟩ => by rw [hu, hH]; exact ⟨.c (.inl trivial), by simp⟩)) ?_
     rintro _ _ ⟨_, _, _, ⟨rfl, rfl⟩, hF, hH⟩
     (refine NST hF hH ?_; clear hF hH; rintro rfl rfl)
     refine WE ?_
     rw [htwo]
     exact wk_of [some 0] (fun _ => [(4, .p 0 0 0), (5, .c (I q)), (6, .c (I ev)), (7, .c (I ph)), (8, .c (I most)), (9, .c (.r v1 (paR l1))), (10, .c (I pf)), (11, .c (.r v2 (paR l2))), (12, .c (I pf)), (13, .c (I n)), (14, .c (I g)), (15, .c (I pf)), (16, .c (I g))]) (fun _ => [celB vc c]) (by decide) (ZNL hE) ZCF ZCH (fun _ => ⟨rfl, rfl⟩)
    ·by_cases h4 : 200 < most
     ·have hx : (4 : Int) = if outB q 0 1 = true then 4 else 0 := by simp [outB, h2]
      have hy : (1 : Int) = if outB most 1 200 = true then 1 else 0 := by simp [outB, h4]
      rw [← hx, ← hy] at htwo
      refine WR ?_
      refine al_ef rfl (ef_call0 false (fun _ => hck) rfl .fn rfl (by decide) (by kernel_rfl) rfl (fun _ => C0 rfl) (by simp)) ?_
      rintro _ _ ⟨_, _, _, ⟨rfl, rfl⟩, hF, hH⟩
      (refine NST hF hH ?_; clear hF hH; rintro rfl rfl)
      refine WO ?_
      refine al_ef rfl (ef_call0 false (fun _ => lwhen_v _ _) rfl .fn rfl (by decide) (by kernel_rfl) rfl (fun _ => C0 rfl) (by simp)) ?_
      rintro _ _ ⟨_, _, _, ⟨rfl, rfl⟩, hF, hH⟩
      rw [if_pos rfl] at hF
      (refine NST hF hH ?_; clear hF hH; rintro rfl rfl)
      refine WO ?_
      refine al_ef rfl (ef_call0 false (fun _ => lwhen_v _ _) rfl .fn rfl (by decide) (by kernel_rfl) rfl (fun _ => C0 rfl) (by simp)) ?_
      rintro _ _ ⟨_, _, _, ⟨rfl, rfl⟩, hF, hH⟩
      rw [if_pos rfl] at hF
      (refine NST hF hH ?_; clear hF hH; rintro rfl rfl)
      refine WO ?_
      refine al_ef rfl (ef_call0 true (fun g => lerrs_v [celF c, 4, 1] (g (.o 2 0 3 3)) (by simp)) rfl .fn rfl (by decide) (by kernel_rfl) rfl (fun _ => .cons (.frz rfl rfl rfl rfl rfl) .nil) (fun _ _ _ _ ⟨hu, hH⟩ => by rw [hu, hH]; exact ⟨.c (.inl trivial), by simp⟩)) ?_
      rintro _ _ ⟨_, _, _, ⟨rfl, rfl⟩, hF, hH⟩
      (refine NST hF hH ?_; clear hF hH; rintro rfl rfl)
      refine WE ?_
      rw [htwo]
      exact wk_of [some 0] (fun _ => [(4, .p 0 0 0), (5, .c (I q)), (6, .c (I ev)), (7, .c (I ph)), (8, .c (I most)), (9, .c (.r v1 (paR l1))), (10, .c (I pf)), (11, .c (.r v2 (paR l2))), (12, .c (I pf)), (13, .c (I n)), (14, .c (I g)), (15, .c (I pf)), (16, .c (I g))]) (fun _ => [celB vc c]) (by decide) (ZNL hE) ZCF ZCH (fun _ => ⟨rfl, rfl⟩)
     ·have hx : (4 : Int) = if outB q 0 1 = true then 4 else 0 := by simp [outB, h2]
      have hy : (0 : Int) = if outB most 1 200 = true then 1 else 0 := by simp [outB, h3, h4]
      rw [← hx, ← hy] at htwo
      refine WR ?_
      refine al_ef rfl (ef_call0 false (fun _ => hck) rfl .fn rfl (by decide) (by kernel_rfl) rfl (fun _ => C0 rfl) (by simp)) ?_
      rintro _ _ ⟨_, _, _, ⟨rfl, rfl⟩, hF, hH⟩
      (refine NST hF hH ?_; clear hF hH; rintro rfl rfl)
      refine WO ?_
      refine al_ef rfl (ef_call0 false (fun _ => lwhen_v _ _) rfl .fn rfl (by decide) (by kernel_rfl) rfl (fun _ => C0 rfl) (by simp)) ?_
      rintro _ _ ⟨_, _, _, ⟨rfl, rfl⟩, hF, hH⟩
      rw [if_pos rfl] at hF
      (refine NST hF hH ?_; clear hF hH; rintro rfl rfl)
      refine WO ?_
      refine al_ef rfl (ef_call0 false (fun _ => lwhen_v _ _) rfl .fn rfl (by decide) (by kernel_rfl) rfl (fun _ => C0 rfl) (by simp)) ?_
      rintro _ _ ⟨_, _, _, ⟨rfl, rfl⟩, hF, hH⟩
      rw [if_neg Bool.false_ne_true] at hF
      (refine NST hF hH ?_; clear hF hH; rintro rfl rfl)
      refine WO ?_
      refine al_ef rfl (ef_call0 true (fun g => lerrs_v [celF c, 4, 0] (g (.o 2 0 3 3)) (by simp)) rfl .fn rfl (by decide) (by kernel_rfl) rfl (fun _ => .cons (.frz rfl rfl rfl rfl rfl) .nil) (fun _ _ _ _ ⟨hu, hH⟩ => by rw [hu, hH]; exact ⟨.c (.inl trivial), by simp⟩)) ?_
      rintro _ _ ⟨_, _, _, ⟨rfl, rfl⟩, hF, hH⟩
      (refine NST hF hH ?_; clear hF hH; rintro rfl rfl)
      refine WE ?_
      rw [htwo]
      exact wk_of [some 0] (fun _ => [(4, .p 0 0 0), (5, .c (I q)), (6, .c (I ev)), (7, .c (I ph)), (8, .c (I most)), (9, .c (.r v1 (paR l1))), (10, .c (I pf)), (11, .c (.r v2 (paR l2))), (12, .c (I pf)), (13, .c (I n)), (14, .c (I g)), (15, .c (I pf)), (16, .c (I g))]) (fun _ => [celB vc c]) (by decide) (ZNL hE) ZCF ZCH (fun _ => ⟨rfl, rfl⟩)
   ·by_cases h3 : most < 1
    ·have hx : (0 : Int) = if outB q 0 1 = true then 4 else 0 := by simp [outB, h1, h2]
     have hy : (1 : Int) = if outB most 1 200 = true then 1 else 0 := by simp [outB, h3]
     rw [← hx, ← hy] at htwo
     refine WR ?_
     refine al_ef rfl (ef_call0 false (fun _ => hck) rfl .fn rfl (by decide) (by kernel_rfl) rfl (fun _ => C0 rfl) (by simp)) ?_
     rintro _ _ ⟨_, _, _, ⟨rfl, rfl⟩, hF, hH⟩
     (refine NST hF hH ?_; clear hF hH; rintro rfl rfl)
     refine WO ?_
     refine al_ef rfl (ef_call0 false (fun _ => lwhen_v _ _) rfl .fn rfl (by decide) (by kernel_rfl) rfl (fun _ => C0 rfl) (by simp)) ?_
     rintro _ _ ⟨_, _, _, ⟨rfl, rfl⟩, hF, hH⟩
     rw [if_neg Bool.false_ne_true] at hF
     (refine NST hF hH ?_; clear hF hH; rintro rfl rfl)
     refine WO ?_
     refine al_ef rfl (ef_call0 false (fun _ => lwhen_v _ _) rfl .fn rfl (by decide) (by kernel_rfl) rfl (fun _ => C0 rfl) (by simp)) ?_
     rintro _ _ ⟨_, _, _, ⟨rfl, rfl⟩, hF, hH⟩
     rw [if_pos rfl] at hF
     (refine NST hF hH ?_; clear hF hH; rintro rfl rfl)
     refine WO ?_
     refine al_ef rfl (ef_call0 true (fun g => lerrs_v [celF c, 0, 1] (g (.o 2 0 3 3)) (by simp)) rfl .fn rfl (by decide) (by kernel_rfl) rfl (fun _ => .cons (.frz rfl rfl rfl rfl rfl) .nil) (fun _ _ _ _ ⟨hu, hH⟩ => by rw [hu, hH]; exact ⟨.c (.inl trivial), by simp⟩)) ?_
     rintro _ _ ⟨_, _, _, ⟨rfl, rfl⟩, hF, hH⟩
     (refine NST hF hH ?_; clear hF hH; rintro rfl rfl)
     refine WE ?_
     rw [htwo]
     exact wk_of [some 0] (fun _ => [(4, .p 0 0 0), (5, .c (I q)), (6, .c (I ev)), (7, .c (I ph)), (8, .c (I most)), (9, .c (.r v1 (paR l1))), (10, .c (I pf)), (11, .c (.r v2 (paR l2))), (12, .c (I pf)), (13, .c (I n)), (14, .c (I g)), (15, .c (I pf)), (16, .c (I g))]) (fun _ => [celB vc c]) (by decide) (ZNL hE) ZCF ZCH (fun _ => ⟨rfl, rfl⟩)
    ·by_cases h4 : 200 < most
     ·have hx : (0 : Int) = if outB q 0 1 = true then 4 else 0 := by simp [outB, h1, h2]
      have hy : (1 : Int) = if outB most 1 200 = true then 1 else 0 := by simp [outB, h4]
      rw [← hx, ← hy] at htwo
      refine WR ?_
      refine al_ef rfl (ef_call0 false (fun _ => hck) rfl .fn rfl (by decide) (by kernel_rfl) rfl (fun _ => C0 rfl) (by simp)) ?_
      rintro _ _ ⟨_, _, _, ⟨rfl, rfl⟩, hF, hH⟩
      (refine NST hF hH ?_; clear hF hH; rintro rfl rfl)
      refine WO ?_
      refine al_ef rfl (ef_call0 false (fun _ => lwhen_v _ _) rfl .fn rfl (by decide) (by kernel_rfl) rfl (fun _ => C0 rfl) (by simp)) ?_
      rintro _ _ ⟨_, _, _, ⟨rfl, rfl⟩, hF, hH⟩
      rw [if_neg Bool.false_ne_true] at hF
      (refine NST hF hH ?_; clear hF hH; rintro rfl rfl)
      refine WO ?_
      refine al_ef rfl (ef_call0 false (fun _ => lwhen_v _ _) rfl .fn rfl (by decide) (by kernel_rfl) rfl (fun _ => C0 rfl) (by simp)) ?_
      rintro _ _ ⟨_, _, _, ⟨rfl, rfl⟩, hF, hH⟩
      rw [if_pos rfl] at hF
      (refine NST hF hH ?_; clear hF hH; rintro rfl rfl)
      refine WO ?_
      refine al_ef rfl (ef_call0 true (fun g => lerrs_v [celF c, 0, 1] (g (.o 2 0 3 3)) (by simp)) rfl .fn rfl (by decide) (by kernel_rfl) rfl (fun _ => .cons (.frz rfl rfl rfl rfl rfl) .nil) (fun _ _ _ _ ⟨hu, hH⟩ => by rw [hu, hH]; exact ⟨.c (.inl trivial), by simp⟩)) ?_
      rintro _ _ ⟨_, _, _, ⟨rfl, rfl⟩, hF, hH⟩
      (refine NST hF hH ?_; clear hF hH; rintro rfl rfl)
      refine WE ?_
      rw [htwo]
      exact wk_of [some 0] (fun _ => [(4, .p 0 0 0), (5, .c (I q)), (6, .c (I ev)), (7, .c (I ph)), (8, .c (I most)), (9, .c (.r v1 (paR l1))), (10, .c (I pf)), (11, .c (.r v2 (paR l2))), (12, .c (I pf)), (13, .c (I n)), (14, .c (I g)), (15, .c (I pf)), (16, .c (I g))]) (fun _ => [celB vc c]) (by decide) (ZNL hE) ZCF ZCH (fun _ => ⟨rfl, rfl⟩)
     ·have hx : (0 : Int) = if outB q 0 1 = true then 4 else 0 := by simp [outB, h1, h2]
      have hy : (0 : Int) = if outB most 1 200 = true then 1 else 0 := by simp [outB, h3, h4]
      rw [← hx, ← hy] at htwo
      refine WR ?_
      refine al_ef rfl (ef_call0 false (fun _ => hck) rfl .fn rfl (by decide) (by kernel_rfl) rfl (fun _ => C0 rfl) (by simp)) ?_
      rintro _ _ ⟨_, _, _, ⟨rfl, rfl⟩, hF, hH⟩
      (refine NST hF hH ?_; clear hF hH; rintro rfl rfl)
      refine WO ?_
      refine al_ef rfl (ef_call0 false (fun _ => lwhen_v _ _) rfl .fn rfl (by decide) (by kernel_rfl) rfl (fun _ => C0 rfl) (by simp)) ?_
      rintro _ _ ⟨_, _, _, ⟨rfl, rfl⟩, hF, hH⟩
      rw [if_neg Bool.false_ne_true] at hF
      (refine NST hF hH ?_; clear hF hH; rintro rfl rfl)
      refine WO ?_
      refine al_ef rfl (ef_call0 false (fun _ => lwhen_v _ _) rfl .fn rfl (by decide) (by kernel_rfl) rfl (fun _ => C0 rfl) (by simp)) ?_
      rintro _ _ ⟨_, _, _, ⟨rfl, rfl⟩, hF, hH⟩
      rw [if_neg Bool.false_ne_true] at hF
      (refine NST hF hH ?_; clear hF hH; rintro rfl rfl)
      refine WO ?_
      refine al_ef rfl (ef_call0 true (fun g => lerrs_v [celF c, 0, 0] (g (.o 2 0 3 3)) (by simp)) rfl .fn rfl (by decide) (by kernel_rfl) rfl (fun _ => .cons (.frz rfl rfl rfl rfl rfl) .nil) (fun _ _ _ _ ⟨hu, hH⟩ => by rw [hu, hH]; exact ⟨.c (.inl trivial), by simp⟩)) ?_
      rintro _ _ ⟨_, _, _, ⟨rfl, rfl⟩, hF, hH⟩
      (refine NST hF hH ?_; clear hF hH; rintro rfl rfl)
      refine WE ?_
      rw [htwo]
      exact wk_of [some 0] (fun _ => [(4, .p 0 0 0), (5, .c (I q)), (6, .c (I ev)), (7, .c (I ph)), (8, .c (I most)), (9, .c (.r v1 (paR l1))), (10, .c (I pf)), (11, .c (.r v2 (paR l2))), (12, .c (I pf)), (13, .c (I n)), (14, .c (I g)), (15, .c (I pf)), (16, .c (I g))]) (fun _ => [celB vc c]) (by decide) (ZNL hE) ZCF ZCH (fun _ => ⟨rfl, rfl⟩)
 rintro F H ⟨rfl, rfl⟩
 refine ZZ ?_
 obtain ⟨hb11, hb12⟩ := hb1 l1 hz1 hy1
 obtain ⟨hb21, hb22⟩ := hb2 l2 hz2 hy2
 clear hl1 hl2 hl3 hone htwo hb1 hb2
 refine WA ?_
 refine WA ?_
 refine aw_cut (fun F H => ∃ (x1 x2 : Value) (k1 k2 : List Pth), l1.map Prod.snd = k1.map Prod.snd ∧ l2.map Prod.snd = k2.map Prod.snd ∧ F = [(4, .p 0 0 0), (5, .c (I q)), (6, .c (I ev)), (7, .c (I ph)), (8, .c (I most)), (9, .c (.r v1 (paR l1))), (10, .c (I pf)), (11, .c (.r v2 (paR l2))), (12, .c (I pf)), (13, .c (I n)), (14, .c (I g)), (15, .c (I pf)), (16, .c (I g)), (17, .c (.r x1 (paR k1))), (18, .c (.r x2 (paR k2)))] ∧ H = [celB vc c]) ?_ ?_ wk_aw
 ·refine aw_if rfl (fun h0 => ?_) (fun h0 => ?_)
  ·obtain ⟨hcr, hev, hph⟩ := hri h0
   have hlo := linesof_v vc c q ev ph hcr hev hph
   have hzo := zigzagof_v vc c q ev ph hcr hev hph
   refine ZZ ?_
   refine aw_regionT [(0, none), (1, none), (2, none), (3, none), (5, none), (6, none), (7, none), (8, none), (4, some [5, 6, 7, 8]), (9, some []), (10, none), (11, none)] hMixed (by kernel_rfl) ?_
   refine WP ?_
   refine at_ef rfl rfl (ef_call0 false (fun _ => hlo) rfl .fn rfl (by decide) (by kernel_rfl) rfl (fun _ => C0 rfl) (by simp)) ?_
   rintro _ _ ⟨_, _, _, ⟨v3, l3, rfl, hy3, rfl⟩, hF, hH⟩
   (refine NST hF hH ?_; clear hF hH; rintro rfl rfl)
   refine ⟨ag_cons (by first | exact ag_rd rfl rfl rfl (ZK (KK (t := 28) rfl)) rfl) (ag_cons (by first | exact ag_rd rfl rfl rfl (rd_move rfl rfl) rfl) (ag_cons (by first | exact ag_rd rfl rfl rfl (rd_move rfl rfl) rfl) (ag_cons (by first | exact ag_rd rfl rfl rfl (rd_move rfl rfl) rfl) (ag_none)))), ?_⟩
   refine at_ef rfl rfl (ef_call0 false (fun _ => hzo) rfl .fn rfl (by decide) (by kernel_rfl) rfl (fun _ => C0 rfl) (by simp)) ?_
   rintro _ _ ⟨_, _, _, ⟨v4, l4, rfl, hy4, rfl⟩, hF, hH⟩
   (refine NST hF hH ?_; clear hF hH; rintro rfl rfl)
   refine ⟨ag_none, ?_⟩
   refine WQ ?_
   exact wk_of [some 0] (fun _ => [(4, .p 0 0 0), (5, .c (I q)), (6, .c (I ev)), (7, .c (I ph)), (8, .c (I most)), (9, .c (.r v1 (paR l1))), (10, .c (I pf)), (11, .c (.r v2 (paR l2))), (12, .c (I pf)), (13, .c (I n)), (14, .c (I g)), (15, .c (I pf)), (16, .c (I g)), (17, .c (.r v3 (paR l3))), (18, .c (.r v4 (paR l4)))]) (fun _ => [celB vc c]) (by decide) (ZNL hE) ZCF ZCH (fun _ => ⟨_, _, l3, l4, by rw [hy3, hy1 h0], by rw [hy4, hy2 h0], rfl, rfl⟩)
  ·refine ZZ ?_
   exact wk_of [some 0] (fun _ => [(4, .p 0 0 0), (5, .c (I q)), (6, .c (I ev)), (7, .c (I ph)), (8, .c (I most)), (9, .c (.r v1 (paR l1))), (10, .c (I pf)), (11, .c (.r v2 (paR l2))), (12, .c (I pf)), (13, .c (I n)), (14, .c (I g)), (15, .c (I pf)), (16, .c (I g)), (17, .c (.r (.slice none 0 0) [])), (18, .c (.r (.slice none 0 0) []))]) (fun _ => [celB vc c]) (by decide) (ZNL hE) ZCF ZCH (fun _ => ⟨_, _, [], [], by rw [hz1 h0], by rw [hz2 h0], rfl, rfl⟩)
 rintro F H ⟨x1, x2, k1, k2, hk1, hk2, rfl, rfl⟩
 refine ZZ ?_
 refine WA ?_
 refine WA ?_
 refine aw_cut (fun F H => F = [(4, .p 0 0 0), (5, .c (I q)), (6, .c (I ev)), (7, .c (I ph)), (8, .c (I most)), (9, .c (.r v1 (paR l1))), (10, .c (I pf)), (11, .c (.r v2 (paR l2))), (12, .c (I pf)), (13, .c (I n)), (14, .c (I g)), (15, .c (I pf)), (16, .c (I g)), (17, .c (.r x1 (paR k1))), (18, .c (.r x2 (paR k2))), (19, .c (I n))] ∧ H = [celB vc c]) ?_ ?_ wk_aw
 ·refine aw_if rfl (fun h0 => ?_) (fun h0 => ?_)
  ·obtain ⟨hcr, k, rfl, hk, hn⟩ := hlr h0
   have hlo := leastof_v vc c q k (hsc.near hcr) hk
   rw [← hn] at hlo
   refine WR ?_
   refine al_ef rfl (ef_call0 false (fun _ => hlo) rfl .fn rfl (by decide) (by kernel_rfl) rfl (fun _ => C0 rfl) (by simp)) ?_
   rintro _ _ ⟨_, _, _, ⟨rfl, rfl⟩, hF, hH⟩
   (refine NST hF hH ?_; clear hF hH; rintro rfl rfl)
   refine WE ?_
   exact wk_of [some 0] (fun _ => [(4, .p 0 0 0), (5, .c (I q)), (6, .c (I ev)), (7, .c (I ph)), (8, .c (I (k : Nat))), (9, .c (.r v1 (paR l1))), (10, .c (I pf)), (11, .c (.r v2 (paR l2))), (12, .c (I pf)), (13, .c (I n)), (14, .c (I g)), (15, .c (I pf)), (16, .c (I g)), (17, .c (.r x1 (paR k1))), (18, .c (.r x2 (paR k2))), (19, .c (I n))]) (fun _ => [celB vc c]) (by decide) (ZNL hE) ZCF ZCH (fun _ => ⟨rfl, rfl⟩)
  ·obtain rfl := hlw h0
   refine ZZ ?_
   exact wk_of [some 0] (fun _ => [(4, .p 0 0 0), (5, .c (I q)), (6, .c (I ev)), (7, .c (I ph)), (8, .c (I most)), (9, .c (.r v1 (paR l1))), (10, .c (I pf)), (11, .c (.r v2 (paR l2))), (12, .c (I pf)), (13, .c (I 0)), (14, .c (I g)), (15, .c (I pf)), (16, .c (I g)), (17, .c (.r x1 (paR k1))), (18, .c (.r x2 (paR k2))), (19, .c (I 0))]) (fun _ => [celB vc c]) (by decide) (ZNL hE) ZCF ZCH (fun _ => ⟨rfl, rfl⟩)
 rintro F H ⟨rfl, rfl⟩
 refine ZZ ?_
 have z1 : pf = pf := rfl
 have z2 : g = g := rfl
 have z3 : n = n := rfl
 refine WR ?_
 refine G1 rfl ?_
 refine al_ef rfl (ef_call0 false (fun _ => samepaths_v v1 x1 l1 k1 hk1 hb11 hb12) rfl .fn rfl (by decide) (by kernel_rfl) rfl (fun _ => C0 rfl) (by simp)) ?_
 rintro _ _ ⟨_, _, _, ⟨rfl, rfl⟩, hF, hH⟩
 (refine NST hF hH ?_; clear hF hH; rintro rfl rfl)
 refine WO ?_
 refine G1 rfl ?_
 refine al_ef rfl (ef_call0 false (fun _ => samepaths_v v2 x2 l2 k2 hk2 hb21 hb22) rfl .fn rfl (by decide) (by kernel_rfl) rfl (fun _ => C0 rfl) (by simp)) ?_
 rintro _ _ ⟨_, _, _, ⟨rfl, rfl⟩, hF, hH⟩
 (refine NST hF hH ?_; clear hF hH; rintro rfl rfl)
 refine WO ?_
 refine G1 rfl ?_
 refine al_ef rfl (ef_call0 false (fun _ => filled_v) rfl .fn rfl (by decide) (by kernel_rfl) rfl (fun _ => C0 rfl) (by simp)) ?_
 rintro _ _ ⟨_, _, _, ⟨rfl, rfl⟩, hF, hH⟩
 (refine NST hF hH ?_; clear hF hH; rintro rfl rfl)
 refine WE ?_
 exact aret_1 [] [] rfl rfl rfl (by decide) (ZNK rfl) (fun _ => .nil) rfl
end Go.Proofs.YtfilfijammemfaaGreatDoor
