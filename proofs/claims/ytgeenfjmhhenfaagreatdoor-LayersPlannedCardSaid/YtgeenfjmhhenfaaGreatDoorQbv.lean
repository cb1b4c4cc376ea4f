/- The law LayersPlanned, walked. -/
import Derived.Test.YtgeenfjmhhenfaaGreatDoorQbu
set_option linter.unusedSimpArgs false
set_option linter.unusedVariables false
/- The law LayersPlanned, walked. -/
-- NEWM
namespace Go.Proofs.YtgeenfjmhhenfaaGreatDoor
open Go Go.RowKit
set_option maxRecDepth 100000
theorem one_eq (c : Cel) (n x : Int) (hx : x = if outB n 0 10 = true then 1 else 0) : fstN [celF c, x] = walF c n := by
 rw [walF, hx]
 generalize celF c = q
 generalize outB n 0 10 = b
 by_cases h : q = 0 <;> cases b <;> simp [fstN, h]
theorem two_eq (l : List Cel) (ly tp bo x : Int) (hx : x = if ly < 0 ∨ (l.length : Int) ≤ ly then 8 else 0) : fstN [layF l, x, shlF tp bo] = solF l ly tp bo := by
 rw [solF, hx, shlF, spnG, spnG]
 generalize layF l = q
 generalize outB tp 0 50 = b1
 generalize outB bo 0 50 = b2
 by_cases h2 : ly < 0 ∨ (l.length : Int) ≤ ly
 ·rw [if_pos h2, if_pos h2]
  by_cases h : q = 0 <;> simp [fstN, h]
 ·rw [if_neg h2, if_neg h2]
  by_cases h : q = 0 <;> cases b1 <;> cases b2 <;> simp [fstN, h]
theorem three_eq (l : List Cel) (w t b e : Int) : fstN [layF l, styF w t b e] = plnF l w t b e := by
 rw [plnF]
 generalize layF l = q
 generalize styF w t b e = r
 by_cases h : q = 0 <;> by_cases h2 : r = 0 <;> simp [fstN, h, h2]
theorem strC_len {l : List (Value × Cel)} (h : ∀ p ∈ l, StrC p.2) : ∀ p ∈ l, p.2.rows.length ≤ 1000000000 ∧ ∀ r ∈ p.2.rows, r.length ≤ 1000000000 := fun p hp => ⟨by have := (h p hp).h; omega, fun r hr => by have := (h p hp).r r hr; omega⟩
set_option maxHeartbeats 8000000 in
theorem law_layers (v : Value) (zs : List Int) (hs : StrOk zs) : ACalls Tryz.prog 3 [.c (.r v (zs.map fun z => [I z]))] [] fun u H => u = .c (B true) := by
 refine acalls_of (N := 156) Tryz.func3 rfl rfl (by simp) fun E hE => ?_
 refine WA ?_
 refine WA ?_
 refine WR ?_
 refine al_ef rfl (ef_callm false (fun _ => acells_v 10 (by decide) _ _ _ hs (by omega) (by omega)) rfl .fn rfl (by decide) (by kernel_rfl) rfl rfl (fun _g => .cons (.p rfl) (.cons (.c rfl) .nil)) (fun _g => .cons (.c rfl) (.cons (.c rfl) .nil)) (by simp)) ?_
 rintro F1 H1 ⟨_, _, _, _, ⟨vc, c, ac, rfl, hq, hac1, hac2, hcs⟩, hF, hH⟩
 injection hq with hq1 hq2; subst hq1; subst hq2
 (refine NST hF hH ?_; clear hF hH; rintro rfl rfl)
 refine WO ?_
 refine al_ef rfl (ef_callm true (fun _ => pick_a [0, 1, 2, 3, -1, 10, 11] _ _ _ _ hs (by omega) (by omega) (by simp) (by simp)) rfl .fn rfl (by decide) (by kernel_rfl) rfl rfl (fun _g => .cons (.p rfl) (.cons (.frz rfl rfl rfl rfl rfl) .nil)) (fun _g => .cons (.c rfl) (.cons (.c rfl) .nil)) (fun _ _ _ _ ⟨_, hu, hH, _⟩ => by rw [hu, hH]; exact ⟨.c (.inl trivial), strm_flat (.inr ⟨0, _, rfl, by simp⟩)⟩)) ?_
 rintro F1 H1 ⟨_, _, _, _, ⟨n, rfl, hq, hrm⟩, hF, hH⟩
 injection hq with hq1 hq2; subst hq1; subst hq2
 (refine NST hF hH ?_; clear hF hH; rintro rfl rfl)
 simp only [List.mem_cons, List.not_mem_nil, or_false] at hrm
 refine WE ?_
 clear hrm
 refine WR ?_
 refine al_ef rfl (ef_callm false (fun _ => stack_v 4 (by decide) _ _ _ hs (by omega) (by omega)) rfl .fn rfl (by decide) (by kernel_rfl) rfl rfl (fun _g => .cons (.p rfl) (.cons (.c rfl) .nil)) (fun _g => .cons (.c rfl) (.cons (.c rfl) .nil)) (by simp)) ?_
 rintro F1 H1 ⟨_, _, _, _, ⟨vk, l, ak, rfl, hq, hak1, hak2, hl10, hlc⟩, hF, hH⟩
 injection hq with hq1 hq2; subst hq1; subst hq2
 (refine NST hF hH ?_; clear hF hH; rintro rfl rfl)
 refine WO ?_
 refine al_ef rfl (ef_callm true (fun _ => pick_a [0, 0, 1, 2, -1, 9] _ _ _ _ hs (by omega) (by omega) (by simp) (by simp)) rfl .fn rfl (by decide) (by kernel_rfl) rfl rfl (fun _g => .cons (.p rfl) (.cons (.frz rfl rfl rfl rfl rfl) .nil)) (fun _g => .cons (.c rfl) (.cons (.c rfl) .nil)) (fun _ _ _ _ ⟨_, hu, hH, _⟩ => by rw [hu, hH]; exact ⟨.c (.inl trivial), strm_flat (.inr ⟨0, _, rfl, by simp⟩)⟩)) ?_
 rintro F1 H1 ⟨_, _, _, _, ⟨ly, rfl, hq, hrm⟩, hF, hH⟩
 injection hq with hq1 hq2; subst hq1; subst hq2
 (refine NST hF hH ?_; clear hF hH; rintro rfl rfl)
 simp only [List.mem_cons, List.not_mem_nil, or_false] at hrm
 refine WO ?_
 refine al_ef rfl (ef_callm true (fun _ => pick_a [0, 1, 2, -1] _ _ _ _ hs (by omega) (by omega) (by simp) (by simp)) rfl .fn rfl (by decide) (by kernel_rfl) rfl rfl (fun _g => .cons (.p rfl) (.cons (.frz rfl rfl rfl rfl rfl) .nil)) (fun _g => .cons (.c rfl) (.cons (.c rfl) .nil)) (fun _ _ _ _ ⟨_, hu, hH, _⟩ => by rw [hu, hH]; exact ⟨.c (.inl trivial), strm_flat (.inr ⟨0, _, rfl, by simp⟩)⟩)) ?_
 rintro F1 H1 ⟨_, _, _, _, ⟨tp, rfl, hq, hrm⟩, hF, hH⟩
 injection hq with hq1 hq2; subst hq1; subst hq2
 (refine NST hF hH ?_; clear hF hH; rintro rfl rfl)
 simp only [List.mem_cons, List.not_mem_nil, or_false] at hrm
 refine WO ?_
 refine al_ef rfl (ef_callm true (fun _ => pick_a [0, 1, 2, 51] _ _ _ _ hs (by omega) (by omega) (by simp) (by simp)) rfl .fn rfl (by decide) (by kernel_rfl) rfl rfl (fun _g => .cons (.p rfl) (.cons (.frz rfl rfl rfl rfl rfl) .nil)) (fun _g => .cons (.c rfl) (.cons (.c rfl) .nil)) (fun _ _ _ _ ⟨_, hu, hH, _⟩ => by rw [hu, hH]; exact ⟨.c (.inl trivial), strm_flat (.inr ⟨0, _, rfl, by simp⟩)⟩)) ?_
 rintro F1 H1 ⟨_, _, _, _, ⟨bo, rfl, hq, hrm⟩, hF, hH⟩
 injection hq with hq1 hq2; subst hq1; subst hq2
 (refine NST hF hH ?_; clear hF hH; rintro rfl rfl)
 simp only [List.mem_cons, List.not_mem_nil, or_false] at hrm
 refine WO ?_
 refine al_ef rfl (ef_callm false (fun _ => astyle_v _ _ _ hs (by omega) (by omega)) rfl .fn rfl (by decide) (by kernel_rfl) rfl rfl (fun _g => .cons (.p rfl) .nil) (fun _g => .cons (.c rfl) (.cons (.c rfl) .nil)) (by simp)) ?_
 rintro F1 H1 ⟨_, _, _, _, ⟨sw, st', sb, se, asx, rfl, hq, has1, has2⟩, hF, hH⟩
 injection hq with hq1 hq2; subst hq1; subst hq2
 (refine NST hF hH ?_; clear hF hH; rintro rfl rfl)
 refine WE ?_
 refine aw_wk (wk_of (K := fun F H => F = [(4, .p 0 0 0), (5, .c (I n)), (6, .c (.r vk (cR l))), (7, .c (I ly)), (8, .c (I tp)), (9, .c (I bo)), (10, .p 1 0 0)] ∧ H = [celB vc c, .box [.c (I sw), .c (I st'), .c (I sb), .c (I se)]]) [some 2, some 6] (fun _ => [(4, .p 0 0 0), (5, .c (I n)), (6, .c (.r vk (cR l))), (7, .c (I ly)), (8, .c (I tp)), (9, .c (I bo)), (10, .p 1 0 0)]) (fun _ => [celB vc c, .box [.c (I sw), .c (I st'), .c (I sb), .c (I se)]]) (by decide) (ZNL hE) ZCF ZCH (fun _ => ⟨rfl, rfl⟩)) ?_
 rintro F H ⟨rfl, rfl⟩
 have hc1 : c.rows.length ≤ 1000000000 := by have := hcs.h; omega
 have hc2 : ∀ r ∈ c.rows, r.length ≤ 1000000000 := fun r hr => by have := hcs.r r hr; omega
 have hl1 := strC_len hlc
 have hl2 : l.length ≤ 1000000 := by omega
 have hwal := wallsT_v vc c n hc1 hc2 hcs.near
 have hsol := solidT_v vk l ly tp bo hl1 hl2 (fun p hp => (hlc p hp).near)
 have hpln := planT_v vk l sw st' sb se hl1 hl2 (fun p hp => (hlc p hp).near)
 clear hlc hrm
 have hone := fun x hx => one_eq c n x hx
 have htwo := fun x hx => two_eq (l.map Prod.snd) ly tp bo x hx
 have hthree := three_eq (l.map Prod.snd) sw st' sb se
 rw [List.length_map] at htwo
 have hsty : plnF (l.map Prod.snd) sw st' sb se = 0 → (0 ≤ sw ∧ sw ≤ 10) ∧ (0 ≤ st' ∧ st' ≤ 50) ∧ (0 ≤ sb ∧ sb ≤ 50) ∧ l.length ≤ 50 := fun h => by
  unfold plnF at h
  split at h
  ·rename_i hx; exact absurd h hx
  rename_i hx
  have h5 := (layF_ok (by simpa using hx)).1
  unfold styF at h
  split at h
  ·cases h
  ·rename_i hy; simp [outB] at hy; omega
 have hsld : solF (l.map Prod.snd) ly tp bo = 0 → (0 ≤ tp ∧ tp ≤ 50) ∧ (0 ≤ bo ∧ bo ≤ 50) ∧ l.length ≤ 50 := fun h => by
  unfold solF at h
  split at h
  ·rename_i hx; exact absurd h hx
  rename_i hx
  have h5 := (layF_ok (by simpa using hx)).1
  split at h
  ·cases h
  split at h
  ·cases h
  ·rename_i hy; simp [outB] at hy; omega
 generalize walF c n = one at *
 generalize solF (l.map Prod.snd) ly tp bo = two at *
 generalize plnF (l.map Prod.snd) sw st' sb se = three at *
 refine WR ?_
 refine al_ef rfl (ef_call0 false (fun _ => hwal) rfl .fn rfl (by decide) (by kernel_rfl) rfl (fun _ => C0 rfl) (by simp)) ?_
 rintro _ _ ⟨_, _, _, ⟨vS, vw, lv, S, rfl, hw1, hw2, rfl⟩, hF, hH⟩
 (refine NST hF hH ?_; clear hF hH; rintro rfl rfl)
 refine WE ?_
 refine WR ?_
 refine al_ef rfl (ef_call0 false (fun _ => hsol) rfl .fn rfl (by decide) (by kernel_rfl) rfl (fun _ => C0 rfl) (by simp)) ?_
 rintro _ _ ⟨_, _, _, ⟨vD, D, rfl, hs1, hs2, rfl⟩, hF, hH⟩
 (refine NST hF hH ?_; clear hF hH; rintro rfl rfl)
 refine WE ?_
 refine WR ?_
 refine al_ef rfl (ef_call0 false (fun _ => hpln) rfl .fn rfl (by decide) (by kernel_rfl) rfl (fun _ => C0 rfl) (by simp)) ?_
 rintro _ _ ⟨_, _, _, ⟨vf, fl, rfl, hp1, hp2, rfl⟩, hF, hH⟩
 (refine NST hF hH ?_; clear hF hH; rintro rfl rfl)
 refine WE ?_
 refine aw_cut (fun F H => F = [(4, .p 0 0 0), (5, .c (I n)), (6, .c (.r vk (cR l))), (7, .c (I ly)), (8, .c (I tp)), (9, .c (I bo)), (10, .p 1 0 0), (11, .c (.r vw (cR lv))), (12, .p 2 0 0), (13, .c (I one)), (14, .p 3 0 0), (15, .c (I two)), (16, .c (.r vf (fR fl))), (17, .c (I three)), (18, .c (I one))] ∧ H = [celB vc c, .box [.c (I sw), .c (I st'), .c (I sb), .c (I se)], celB vS S, celB vD D]) ?_ ?_ wk_aw
 ·by_cases h1 : n < 0
  ·have ho := hone 1 (by simp [outB, h1])
   refine WR ?_
   refine al_ef rfl (ef_call0 false (fun _ => rcheck_v vc c hc1 hc2) rfl .fn rfl (by decide) (by kernel_rfl) rfl (fun _ => C0 rfl) (by simp)) ?_
   rintro _ _ ⟨_, _, _, ⟨rfl, rfl⟩, hF, hH⟩
   (refine NST hF hH ?_; clear hF hH; rintro rfl rfl)
   refine WO ?_
   refine al_ef rfl (ef_call0 false (fun _ => lwhen_v _ _) rfl .fn rfl (by decide) (by kernel_rfl) rfl (fun _ => C0 rfl) (by simp)) ?_
   rintro _ _ ⟨_, _, _, ⟨rfl, rfl⟩, hF, hH⟩
   rw [if_pos rfl] at hF
   (refine NST hF hH ?_; clear hF hH; rintro rfl rfl)
   refine WO ?_
   refine al_ef rfl (ef_call0 true (fun g => lerrs_v [celF c, 1] (g (.o 4 0 2 2)) (by simp)) rfl .fn rfl (by decide) (by kernel_rfl) rfl (fun _ => .cons (.frz rfl rfl rfl rfl rfl) .nil) (fun _ _ _ _ ⟨hu, hH⟩ => by rw [hu, hH]; exact ⟨.c (.inl trivial), by simp⟩)) ?_
   rintro _ _ ⟨_, _, _, ⟨rfl, rfl⟩, hF, hH⟩
   (refine NST hF hH ?_; clear hF hH; rintro rfl rfl)
   refine WE ?_
   rw [ho]
   refine wk_of [some 0, some 1, some 2, some 3] (fun _ => [(4, .p 0 0 0), (5, .c (I n)), (6, .c (.r vk (cR l))), (7, .c (I ly)), (8, .c (I tp)), (9, .c (I bo)), (10, .p 1 0 0), (11, .c (.r vw (cR lv))), (12, .p 2 0 0), (13, .c (I one)), (14, .p 3 0 0), (15, .c (I two)), (16, .c (.r vf (fR fl))), (17, .c (I three)), (18, .c (I one))]) (fun _ => [celB vc c, .box [.c (I sw), .c (I st'), .c (I sb), .c (I se)], celB vS S, celB vD D]) (by decide) (ZNL hE) ZCF ZCH (fun _ => ?_)
   exact ⟨rfl, rfl⟩
  ·by_cases h2 : 10 < n
   ·have ho := hone 1 (by simp [outB, h2])
    refine WR ?_
    refine al_ef rfl (ef_call0 false (fun _ => rcheck_v vc c hc1 hc2) rfl .fn rfl (by decide) (by kernel_rfl) rfl (fun _ => C0 rfl) (by simp)) ?_
    rintro _ _ ⟨_, _, _, ⟨rfl, rfl⟩, hF, hH⟩
    (refine NST hF hH ?_; clear hF hH; rintro rfl rfl)
    refine WO ?_
    refine al_ef rfl (ef_call0 false (fun _ => lwhen_v _ _) rfl .fn rfl (by decide) (by kernel_rfl) rfl (fun _ => C0 rfl) (by simp)) ?_
    rintro _ _ ⟨_, _, _, ⟨rfl, rfl⟩, hF, hH⟩
    rw [if_pos rfl] at hF
    (refine NST hF hH ?_; clear hF hH; rintro rfl rfl)
    refine WO ?_
    refine al_ef rfl (ef_call0 true (fun g => lerrs_v [celF c, 1] (g (.o 4 0 2 2)) (by simp)) rfl .fn rfl (by decide) (by kernel_rfl) rfl (fun _ => .cons (.frz rfl rfl rfl rfl rfl) .nil) (fun _ _ _ _ ⟨hu, hH⟩ => by rw [hu, hH]; exact ⟨.c (.inl trivial), by simp⟩)) ?_
    rintro _ _ ⟨_, _, _, ⟨rfl, rfl⟩, hF, hH⟩
    (refine NST hF hH ?_; clear hF hH; rintro rfl rfl)
    refine WE ?_
    rw [ho]
    refine wk_of [some 0, some 1, some 2, some 3] (fun _ => [(4, .p 0 0 0), (5, .c (I n)), (6, .c (.r vk (cR l))), (7, .c (I ly)), (8, .c (I tp)), (9, .c (I bo)), (10, .p 1 0 0), (11, .c (.r vw (cR lv))), (12, .p 2 0 0), (13, .c (I one)), (14, .p 3 0 0), (15, .c (I two)), (16, .c (.r vf (fR fl))), (17, .c (I three)), (18, .c (I one))]) (fun _ => [celB vc c, .box [.c (I sw), .c (I st'), .c (I sb), .c (I se)], celB vS S, celB vD D]) (by decide) (ZNL hE) ZCF ZCH (fun _ => ?_)
    exact ⟨rfl, rfl⟩
   ·have ho := hone 0 (by simp [outB, h1, h2])
    refine WR ?_
    refine al_ef rfl (ef_call0 false (fun _ => rcheck_v vc c hc1 hc2) rfl .fn rfl (by decide) (by kernel_rfl) rfl (fun _ => C0 rfl) (by simp)) ?_
    rintro _ _ ⟨_, _, _, ⟨rfl, rfl⟩, hF, hH⟩
    (refine NST hF hH ?_; clear hF hH; rintro rfl rfl)
    refine WO ?_
    refine al_ef rfl (ef_call0 false (fun _ => lwhen_v _ _) rfl .fn rfl (by decide) (by kernel_rfl) rfl (fun _ => C0 rfl) (by simp)) ?_
    rintro _ _ ⟨_, _, _, ⟨rfl, rfl⟩, hF, hH⟩
    rw [if_neg Bool.false_ne_true] at hF
    (refine NST hF hH ?_; clear hF hH; rintro rfl rfl)
    refine WO ?_
    refine al_ef rfl (ef_call0 true (fun g => lerrs_v [celF c, 0] (g (.o 4 0 2 2)) (by simp)) rfl .fn rfl (by decide) (by kernel_rfl) rfl (fun _ => .cons (.frz rfl rfl rfl rfl rfl) .nil) (fun _ _ _ _ ⟨hu, hH⟩ => by rw [hu, hH]; exact ⟨.c (.inl trivial), by simp⟩)) ?_
    rintro _ _ ⟨_, _, _, ⟨rfl, rfl⟩, hF, hH⟩
    (refine NST hF hH ?_; clear hF hH; rintro rfl rfl)
    refine WE ?_
    rw [ho]
    refine wk_of [some 0, some 1, some 2, some 3] (fun _ => [(4, .p 0 0 0), (5, .c (I n)), (6, .c (.r vk (cR l))), (7, .c (I ly)), (8, .c (I tp)), (9, .c (I bo)), (10, .p 1 0 0), (11, .c (.r vw (cR lv))), (12, .p 2 0 0), (13, .c (I one)), (14, .p 3 0 0), (15, .c (I two)), (16, .c (.r vf (fR fl))), (17, .c (I three)), (18, .c (I one))]) (fun _ => [celB vc c, .box [.c (I sw), .c (I st'), .c (I sb), .c (I se)], celB vS S, celB vD D]) (by decide) (ZNL hE) ZCF ZCH (fun _ => ?_)
    exact ⟨rfl, rfl⟩
 rintro F H ⟨rfl, rfl⟩
 refine ZZ ?_
 have e1 : (cR l).length = l.length := by simp
 refine aw_cut (fun F H => F = [(4, .p 0 0 0), (5, .c (I n)), (6, .c (.r vk (cR l))), (7, .c (I ly)), (8, .c (I tp)), (9, .c (I bo)), (10, .p 1 0 0), (11, .c (.r vw (cR lv))), (12, .p 2 0 0), (13, .c (I one)), (14, .p 3 0 0), (15, .c (I two)), (16, .c (.r vf (fR fl))), (17, .c (I three)), (18, .c (I one)), (19, .c (I two)), (20, .c (I three))] ∧ H = [celB vc c, .box [.c (I sw), .c (I st'), .c (I sb), .c (I se)], celB vS S, celB vD D]) ?_ ?_ wk_aw
 ·by_cases h1 : ly < 0
  ·have ho := htwo 8 (by rw [if_pos (.inl h1)])
   refine ZZ ?_
   refine aw_regionT [(0, none), (2, none), (3, none), (11, none), (12, none), (16, none), (18, none), (1, some [2, 3, 11, 12, 16, 18]), (4, none), (5, none), (6, none), (7, none), (8, none), (9, none), (10, some [11, 12, 16, 18]), (13, some [16, 18]), (14, some [16, 18]), (15, some [16, 18]), (17, some [18]), (19, some []), (20, some []), (21, some []), (22, none), (23, none)] hMixed (by kernel_rfl) ?_
   refine WP ?_
   refine at_ef rfl rfl (ef_call0 false (fun _ => rstack_v vk l hl1 hl2) rfl .fn rfl (by decide) (by kernel_rfl) rfl (fun _ => C0 rfl) (by simp)) ?_
   rintro _ _ ⟨_, _, _, ⟨rfl, rfl⟩, hF, hH⟩
   (refine NST hF hH ?_; clear hF hH; rintro rfl rfl)
   refine ⟨ag_cons (by first | exact ag_rd rfl rfl rfl (rd_move rfl rfl) rfl) (ag_cons (by first | exact ag_rd rfl rfl rfl (Zlss) rfl) (ag_cons (by first | exact ag_rd rfl rfl rfl (rd_move rfl rfl) rfl) (ag_cons (by first | exact ag_rd rfl rfl rfl (rd_move rfl rfl) rfl) (ag_cons (by first | exact ag_rd rfl rfl rfl (rd_move rfl rfl) rfl) (ag_cons (by first | exact ag_rd rfl rfl rfl (ZK (KK (t := 34) rfl)) rfl) (ag_none)))))), ?_⟩
   refine WP ?_
   refine at_ef rfl rfl (ef_call0 false (fun _ => lwhen_v _ _) rfl .fn rfl (by decide) (by kernel_rfl) rfl (fun _ => C0 rfl) (by simp)) ?_
   rintro _ _ ⟨_, _, _, ⟨rfl, rfl⟩, hF, hH⟩
   rw [if_pos rfl] at hF
   (refine NST hF hH ?_; clear hF hH; rintro rfl rfl)
   refine ⟨ag_cons (by first | exact ag_rd rfl rfl rfl (rd_move rfl rfl) rfl) (ag_cons (by first | exact ag_rd rfl rfl rfl (rd_move rfl rfl) rfl) (ag_cons (by first | exact ag_rd rfl rfl rfl (rd_move rfl rfl) rfl) (ag_cons (by first | exact ag_rd rfl rfl rfl (ZK (KK (t := 34) rfl)) rfl) (ag_none)))), ?_⟩
   refine at_ef rfl rfl (ef_call0 false (fun _ => rshell_v _ _) rfl .fn rfl (by decide) (by kernel_rfl) rfl (fun _ => C0 rfl) (by simp)) ?_
   rintro _ _ ⟨_, _, _, ⟨rfl, rfl⟩, hF, hH⟩
   (refine NST hF hH ?_; clear hF hH; rintro rfl rfl)
   refine ⟨ag_cons (by first | exact ag_rd rfl rfl rfl (rd_move rfl rfl) rfl) (ag_cons (by first | exact ag_rd rfl rfl rfl (ZK (KK (t := 34) rfl)) rfl) (ag_none)), ?_⟩
   refine WP ?_
   refine at_ef rfl rfl (ef_call0 true (fun g => lerrs_v [layF (l.map Prod.snd), 8, shlF tp bo] (g (.o 4 0 3 3)) (by simp)) rfl .fn rfl (by decide) (by kernel_rfl) rfl (fun _ => .cons (.frz rfl rfl rfl rfl rfl) .nil) (fun _ _ _ _ ⟨hu, hH⟩ => by rw [hu, hH]; exact ⟨.c (.inl trivial), by simp⟩)) ?_
   rintro _ _ ⟨_, _, _, ⟨rfl, rfl⟩, hF, hH⟩
   (refine NST hF hH ?_; clear hF hH; rintro rfl rfl)
   refine ⟨ag_cons (by first | exact ag_rd rfl rfl rfl (rd_move rfl rfl) rfl) (ag_cons (by first | exact ag_rd rfl rfl rfl (ZK (KK (t := 34) rfl)) rfl) (ag_none)), ?_⟩
   refine at_ef rfl rfl (ef_call0 false (fun _ => rstack_v vk l hl1 hl2) rfl .fn rfl (by decide) (by kernel_rfl) rfl (fun _ => C0 rfl) (by simp)) ?_
   rintro _ _ ⟨_, _, _, ⟨rfl, rfl⟩, hF, hH⟩
   (refine NST hF hH ?_; clear hF hH; rintro rfl rfl)
   refine ⟨ag_cons (by first | exact ag_rd rfl rfl rfl (ZK (KK (t := 34) rfl)) rfl) (ag_none), ?_⟩
   refine at_ef rfl rfl (ef_call0 false (fun _ => rstyle_v _ _ _ _) rfl .fn rfl (by decide) (by kernel_rfl) rfl (fun _ => C0 rfl) (by simp)) ?_
   rintro _ _ ⟨_, _, _, ⟨rfl, rfl⟩, hF, hH⟩
   (refine NST hF hH ?_; clear hF hH; rintro rfl rfl)
   refine ⟨ag_none, ?_⟩
   refine WP ?_
   refine at_ef rfl rfl (ef_call0 true (fun g => lerrs_v [layF (l.map Prod.snd), styF sw st' sb se] (g (.o 5 0 2 2)) (by simp)) rfl .fn rfl (by decide) (by kernel_rfl) rfl (fun _ => .cons (.frz rfl rfl rfl rfl rfl) .nil) (fun _ _ _ _ ⟨hu, hH⟩ => by rw [hu, hH]; exact ⟨.c (.inl trivial), by simp⟩)) ?_
   rintro _ _ ⟨_, _, _, ⟨rfl, rfl⟩, hF, hH⟩
   (refine NST hF hH ?_; clear hF hH; rintro rfl rfl)
   refine ⟨ag_none, ?_⟩
   refine WQ ?_
   rw [ho, hthree]
   refine wk_of [some 0, some 1, some 2, some 3] (fun _ => [(4, .p 0 0 0), (5, .c (I n)), (6, .c (.r vk (cR l))), (7, .c (I ly)), (8, .c (I tp)), (9, .c (I bo)), (10, .p 1 0 0), (11, .c (.r vw (cR lv))), (12, .p 2 0 0), (13, .c (I one)), (14, .p 3 0 0), (15, .c (I two)), (16, .c (.r vf (fR fl))), (17, .c (I three)), (18, .c (I one)), (19, .c (I two)), (20, .c (I three))]) (fun _ => [celB vc c, .box [.c (I sw), .c (I st'), .c (I sb), .c (I se)], celB vS S, celB vD D]) (by decide) (ZNL hE) ZCF ZCH (fun _ => ?_)
   exact ⟨rfl, rfl⟩
  ·by_cases h2 : (l.length : Int) ≤ ly
   ·have ho := htwo 8 (by rw [if_pos (.inr h2)])
    refine ZZ ?_
    refine aw_regionT [(0, none), (2, none), (3, none), (11, none), (12, none), (16, none), (18, none), (1, some [2, 3, 11, 12, 16, 18]), (4, none), (5, none), (6, none), (7, none), (8, none), (9, none), (10, some [11, 12, 16, 18]), (13, some [16, 18]), (14, some [16, 18]), (15, some [16, 18]), (17, some [18]), (19, some []), (20, some []), (21, some []), (22, none), (23, none)] hMixed (by kernel_rfl) ?_
    refine WP ?_
    refine at_ef rfl rfl (ef_call0 false (fun _ => rstack_v vk l hl1 hl2) rfl .fn rfl (by decide) (by kernel_rfl) rfl (fun _ => C0 rfl) (by simp)) ?_
    rintro _ _ ⟨_, _, _, ⟨rfl, rfl⟩, hF, hH⟩
    (refine NST hF hH ?_; clear hF hH; rintro rfl rfl)
    refine ⟨ag_cons (by first | exact ag_rd rfl rfl rfl (rd_move rfl rfl) rfl) (ag_cons (by first | exact ag_rd rfl rfl rfl (Zlss) rfl) (ag_cons (by first | exact ag_rd rfl rfl rfl (rd_move rfl rfl) rfl) (ag_cons (by first | exact ag_rd rfl rfl rfl (rd_move rfl rfl) rfl) (ag_cons (by first | exact ag_rd rfl rfl rfl (rd_move rfl rfl) rfl) (ag_cons (by first | exact ag_rd rfl rfl rfl (ZK (KK (t := 34) rfl)) rfl) (ag_none)))))), ?_⟩
    refine WP ?_
    refine at_ef rfl rfl (ef_call0 false (fun _ => lwhen_v _ _) rfl .fn rfl (by decide) (by kernel_rfl) rfl (fun _ => C0 rfl) (by simp)) ?_
    rintro _ _ ⟨_, _, _, ⟨rfl, rfl⟩, hF, hH⟩
    rw [if_pos rfl] at hF
    (refine NST hF hH ?_; clear hF hH; rintro rfl rfl)
    refine ⟨ag_cons (by first | exact ag_rd rfl rfl rfl (rd_move rfl rfl) rfl) (ag_cons (by first | exact ag_rd rfl rfl rfl (rd_move rfl rfl) rfl) (ag_cons (by first | exact ag_rd rfl rfl rfl (rd_move rfl rfl) rfl) (ag_cons (by first | exact ag_rd rfl rfl rfl (ZK (KK (t := 34) rfl)) rfl) (ag_none)))), ?_⟩
    refine at_ef rfl rfl (ef_call0 false (fun _ => rshell_v _ _) rfl .fn rfl (by decide) (by kernel_rfl) rfl (fun _ => C0 rfl) (by simp)) ?_
    rintro _ _ ⟨_, _, _, ⟨rfl, rfl⟩, hF, hH⟩
    (refine NST hF hH ?_; clear hF hH; rintro rfl rfl)
    refine ⟨ag_cons (by first | exact ag_rd rfl rfl rfl (rd_move rfl rfl) rfl) (ag_cons (by first | exact ag_rd rfl rfl rfl (ZK (KK (t := 34) rfl)) rfl) (ag_none)), ?_⟩
    refine WP ?_
    refine at_ef rfl rfl (ef_call0 true (fun g => lerrs_v [layF (l.map Prod.snd), 8, shlF tp bo] (g (.o 4 0 3 3)) (by simp)) rfl .fn rfl (by decide) (by kernel_rfl) rfl (fun _ => .cons (.frz rfl rfl rfl rfl rfl) .nil) (fun _ _ _ _ ⟨hu, hH⟩ => by rw [hu, hH]; exact ⟨.c (.inl trivial), by simp⟩)) ?_
    rintro _ _ ⟨_, _, _, ⟨rfl, rfl⟩, hF, hH⟩
    (refine NST hF hH ?_; clear hF hH; rintro rfl rfl)
    refine ⟨ag_cons (by first | exact ag_rd rfl rfl rfl (rd_move rfl rfl) rfl) (ag_cons (by first | exact ag_rd rfl rfl rfl (ZK (KK (t := 34) rfl)) rfl) (ag_none)), ?_⟩
    refine at_ef rfl rfl (ef_call0 false (fun _ => rstack_v vk l hl1 hl2) rfl .fn rfl (by decide) (by kernel_rfl) rfl (fun _ => C0 rfl) (by simp)) ?_
    rintro _ _ ⟨_, _, _, ⟨rfl, rfl⟩, hF, hH⟩
    (refine NST hF hH ?_; clear hF hH; rintro rfl rfl)
    refine ⟨ag_cons (by first | exact ag_rd rfl rfl rfl (ZK (KK (t := 34) rfl)) rfl) (ag_none), ?_⟩
    refine at_ef rfl rfl (ef_call0 false (fun _ => rstyle_v _ _ _ _) rfl .fn rfl (by decide) (by kernel_rfl) rfl (fun _ => C0 rfl) (by simp)) ?_
    rintro _ _ ⟨_, _, _, ⟨rfl, rfl⟩, hF, hH⟩
    (refine NST hF hH ?_; clear hF hH; rintro rfl rfl)
    refine ⟨ag_none, ?_⟩
    refine WP ?_
    refine at_ef rfl rfl (ef_call0 true (fun g => lerrs_v [layF (l.map Prod.snd), styF sw st' sb se] (g (.o 5 0 2 2)) (by simp)) rfl .fn rfl (by decide) (by kernel_rfl) rfl (fun _ => .cons (.frz rfl rfl rfl rfl rfl) .nil) (fun _ _ _ _ ⟨hu, hH⟩ => by rw [hu, hH]; exact ⟨.c (.inl trivial), by simp⟩)) ?_
    rintro _ _ ⟨_, _, _, ⟨rfl, rfl⟩, hF, hH⟩
    (refine NST hF hH ?_; clear hF hH; rintro rfl rfl)
    refine ⟨ag_none, ?_⟩
    refine WQ ?_
    rw [ho, hthree]
    refine wk_of [some 0, some 1, some 2, some 3] (fun _ => [(4, .p 0 0 0), (5, .c (I n)), (6, .c (.r vk (cR l))), (7, .c (I ly)), (8, .c (I tp)), (9, .c (I bo)), (10, .p 1 0 0), (11, .c (.r vw (cR lv))), (12, .p 2 0 0), (13, .c (I one)), (14, .p 3 0 0), (15, .c (I two)), (16, .c (.r vf (fR fl))), (17, .c (I three)), (18, .c (I one)), (19, .c (I two)), (20, .c (I three))]) (fun _ => [celB vc c, .box [.c (I sw), .c (I st'), .c (I sb), .c (I se)], celB vS S, celB vD D]) (by decide) (ZNL hE) ZCF ZCH (fun _ => ?_)
    exact ⟨rfl, rfl⟩
   ·have ho := htwo 0 (by rw [if_neg (by omega)])
    refine ZZ ?_
    refine aw_regionT [(0, none), (2, none), (3, none), (11, none), (12, none), (16, none), (18, none), (1, some [2, 3, 11, 12, 16, 18]), (4, none), (5, none), (6, none), (7, none), (8, none), (9, none), (10, some [11, 12, 16, 18]), (13, some [16, 18]), (14, some [16, 18]), (15, some [16, 18]), (17, some [18]), (19, some []), (20, some []), (21, some []), (22, none), (23, none)] hMixed (by kernel_rfl) ?_
    refine WP ?_
    refine at_ef rfl rfl (ef_call0 false (fun _ => rstack_v vk l hl1 hl2) rfl .fn rfl (by decide) (by kernel_rfl) rfl (fun _ => C0 rfl) (by simp)) ?_
    rintro _ _ ⟨_, _, _, ⟨rfl, rfl⟩, hF, hH⟩
    (refine NST hF hH ?_; clear hF hH; rintro rfl rfl)
    refine ⟨ag_cons (by first | exact ag_rd rfl rfl rfl (rd_move rfl rfl) rfl) (ag_cons (by first | exact ag_rd rfl rfl rfl (Zlss) rfl) (ag_cons (by first | exact ag_rd rfl rfl rfl (rd_move rfl rfl) rfl) (ag_cons (by first | exact ag_rd rfl rfl rfl (rd_move rfl rfl) rfl) (ag_cons (by first | exact ag_rd rfl rfl rfl (rd_move rfl rfl) rfl) (ag_cons (by first | exact ag_rd rfl rfl rfl (ZK (KK (t := 34) rfl)) rfl) (ag_none)))))), ?_⟩
    refine WP ?_
    refine at_ef rfl rfl (ef_call0 false (fun _ => lwhen_v _ _) rfl .fn rfl (by decide) (by kernel_rfl) rfl (fun _ => C0 rfl) (by simp)) ?_
    rintro _ _ ⟨_, _, _, ⟨rfl, rfl⟩, hF, hH⟩
    rw [if_neg Bool.false_ne_true] at hF
    (refine NST hF hH ?_; clear hF hH; rintro rfl rfl)
    refine ⟨ag_cons (by first | exact ag_rd rfl rfl rfl (rd_move rfl rfl) rfl) (ag_cons (by first | exact ag_rd rfl rfl rfl (rd_move rfl rfl) rfl) (ag_cons (by first | exact ag_rd rfl rfl rfl (rd_move rfl rfl) rfl) (ag_cons (by first | exact ag_rd rfl rfl rfl (ZK (KK (t := 34) rfl)) rfl) (ag_none)))), ?_⟩
    refine at_ef rfl rfl (ef_call0 false (fun _ => rshell_v _ _) rfl .fn rfl (by decide) (by kernel_rfl) rfl (fun _ => C0 rfl) (by simp)) ?_
    rintro _ _ ⟨_, _, _, ⟨rfl, rfl⟩, hF, hH⟩
    (refine NST hF hH ?_; clear hF hH; rintro rfl rfl)
    refine ⟨ag_cons (by first | exact ag_rd rfl rfl rfl (rd_move rfl rfl) rfl) (ag_cons (by first | exact ag_rd rfl rfl rfl (ZK (KK (t := 34) rfl)) rfl) (ag_none)), ?_⟩
    refine WP ?_
    refine at_ef rfl rfl (ef_call0 true (fun g => lerrs_v [layF (l.map Prod.snd), 0, shlF tp bo] (g (.o 4 0 3 3)) (by simp)) rfl .fn rfl (by decide) (by kernel_rfl) rfl (fun _ => .cons (.frz rfl rfl rfl rfl rfl) .nil) (fun _ _ _ _ ⟨hu, hH⟩ => by rw [hu, hH]; exact ⟨.c (.inl trivial), by simp⟩)) ?_
    rintro _ _ ⟨_, _, _, ⟨rfl, rfl⟩, hF, hH⟩
    (refine NST hF hH ?_; clear hF hH; rintro rfl rfl)
    refine ⟨ag_cons (by first | exact ag_rd rfl rfl rfl (rd_move rfl rfl) rfl) (ag_cons (by first | exact ag_rd rfl rfl rfl (ZK (KK (t := 34) rfl)) rfl) (ag_none)), ?_⟩
    refine at_ef rfl rfl (ef_call0 false (fun _ => rstack_v vk l hl1 hl2) rfl .fn rfl (by decide) (by kernel_rfl) rfl (fun _ => C0 rfl) (by simp)) ?_
    rintro _ _ ⟨_, _, _, ⟨rfl, rfl⟩, hF, hH⟩
    (refine NST hF hH ?_; clear hF hH; rintro rfl rfl)
    refine ⟨ag_cons (by first | exact ag_rd rfl rfl rfl (ZK (KK (t := 34) rfl)) rfl) (ag_none), ?_⟩
    refine at_ef rfl rfl (ef_call0 false (fun _ => rstyle_v _ _ _ _) rfl .fn rfl (by decide) (by kernel_rfl) rfl (fun _ => C0 rfl) (by simp)) ?_
    rintro _ _ ⟨_, _, _, ⟨rfl, rfl⟩, hF, hH⟩
    (refine NST hF hH ?_; clear hF hH; rintro rfl rfl)
    refine ⟨ag_none, ?_⟩
    refine WP ?_
    refine at_ef rfl rfl (ef_call0 true (fun g => lerrs_v [layF (l.map Prod.snd), styF sw st' sb se] (g (.o 5 0 2 2)) (by simp)) rfl .fn rfl (by decide) (by kernel_rfl) rfl (fun _ => .cons (.frz rfl rfl rfl rfl rfl) .nil) (fun _ _ _ _ ⟨hu, hH⟩ => by rw [hu, hH]; exact ⟨.c (.inl trivial), by simp⟩)) ?_
    rintro _ _ ⟨_, _, _, ⟨rfl, rfl⟩, hF, hH⟩
    (refine NST hF hH ?_; clear hF hH; rintro rfl rfl)
    refine ⟨ag_none, ?_⟩
    refine WQ ?_
    rw [ho, hthree]
    refine wk_of [some 0, some 1, some 2, some 3] (fun _ => [(4, .p 0 0 0), (5, .c (I n)), (6, .c (.r vk (cR l))), (7, .c (I ly)), (8, .c (I tp)), (9, .c (I bo)), (10, .p 1 0 0), (11, .c (.r vw (cR lv))), (12, .p 2 0 0), (13, .c (I one)), (14, .p 3 0 0), (15, .c (I two)), (16, .c (.r vf (fR fl))), (17, .c (I three)), (18, .c (I one)), (19, .c (I two)), (20, .c (I three))]) (fun _ => [celB vc c, .box [.c (I sw), .c (I st'), .c (I sb), .c (I se)], celB vS S, celB vD D]) (by decide) (ZNL hE) ZCF ZCH (fun _ => ?_)
    exact ⟨rfl, rfl⟩
 rintro F H ⟨rfl, rfl⟩
 refine ZZ ?_
 clear hone htwo hthree hwal hsol hpln
 refine WA ?_
 refine WA ?_
 refine WA ?_
 have hSl : S.rows.length ≤ 1000000000 := by
  by_cases h : one = 0
  ·obtain ⟨hnc, kn, _, _, _, hSS⟩ := hw2 h
   rw [hSS]
   have := (normC_ok hnc (L := shrL kn (covL c)) shr_sub).2.h
   omega
  ·rw [(hw1 h).2]; simp
 have hDl : D.rows.length ≤ 1000000000 := by
  by_cases h : two = 0
  ·obtain ⟨hnn, i, c', hi, hic, hDD⟩ := hs2 h
   obtain ⟨p, hp, rfl⟩ := List.mem_map.1 (List.mem_of_getElem? hic)
   rw [hDD]
   have := (normC_ok (hnn p hp) (sol_sub (t := tp) (b := bo) hic)).2.h
   omega
  ·rw [hs1 h]; simp
 have hll : lv.length ≤ 1000000000 ∧ ∀ p ∈ lv, p.2.rows.length ≤ 1000000000 := by
  by_cases h : one = 0
  ·obtain ⟨hnc, kn, _, hk10, hlv, _⟩ := hw2 h
   refine ⟨by have := congrArg List.length hlv; simp at this; omega, fun p hp => ?_⟩
   have hm : p.2 ∈ (List.range kn).map (walC c) := by rw [← hlv]; exact List.mem_map_of_mem hp
   obtain ⟨k, _, hk⟩ := List.mem_map.1 hm
   rw [← hk]
   have : (walC c k).rows.length ≤ 200 := (normC_ok hnc (L := minL (shrL k (covL c)) (shrL (k + 1) (covL c))) fun q hq => (List.mem_filter.1 (List.mem_filter.1 hq).1).1).2.h
   omega
  ·rw [(hw1 h).1]; simp
 have hfll : fl.length ≤ 1000000000 ∧ ∀ f ∈ fl, FilOk f := by
  by_cases h : three = 0
  ·obtain ⟨_, hf1, hf2⟩ := hp2 h
   exact ⟨by have := congrArg List.length hf1; simp [plnL] at this; omega, hf2⟩
  ·rw [hp1 h]; simp
 refine aw_cut (fun F H => ∃ vw2 lv2 vS2, lv.map Prod.snd = lv2.map Prod.snd ∧ F = [(4, .p 0 0 0), (5, .c (I n)), (6, .c (.r vk (cR l))), (7, .c (I ly)), (8, .c (I tp)), (9, .c (I bo)), (10, .p 1 0 0), (11, .c (.r vw (cR lv))), (12, .p 2 0 0), (13, .c (I one)), (14, .p 3 0 0), (15, .c (I two)), (16, .c (.r vf (fR fl))), (17, .c (I three)), (18, .c (I one)), (19, .c (I two)), (20, .c (I three)), (21, .c (.r vw2 (cR lv2))), (22, .p 4 0 0), (23, .p 5 0 0)] ∧ H = [celB vc c, .box [.c (I sw), .c (I st'), .c (I sb), .c (I se)], celB vS S, celB vD D, celB vS2 S, .box [.c (I 0), .c (I 0), .c (I 0), .c (.r (.slice none 0 0) [])]]) ?_ ?_ wk_aw
 ·refine aw_if rfl (fun h => ?_) (fun h => ?_)
  ·obtain ⟨hnc, kn, rfl, hk10, hlv, hSS⟩ := hw2 h
   refine WR ?_
   refine al_ef rfl (ef_call0 false (fun _ => wallsof_v vc c hnc kn hk10) rfl .fn rfl (by decide) (by kernel_rfl) rfl (fun _ => C0 rfl) (by simp)) ?_
   rintro _ _ ⟨_, _, _, ⟨vS2, vw2, lv2, rfl, hlv2, rfl⟩, hF, hH⟩
   rw [← hSS] at hF
   (refine NST hF hH ?_; clear hF hH; rintro rfl rfl)
   refine WE ?_
   refine wk_of [some 0, some 1, some 2, some 3, some 4, some 5] (fun _ => [(4, .p 0 0 0), (5, .c (I kn)), (6, .c (.r vk (cR l))), (7, .c (I ly)), (8, .c (I tp)), (9, .c (I bo)), (10, .p 1 0 0), (11, .c (.r vw (cR lv))), (12, .p 2 0 0), (13, .c (I one)), (14, .p 3 0 0), (15, .c (I two)), (16, .c (.r vf (fR fl))), (17, .c (I three)), (18, .c (I one)), (19, .c (I two)), (20, .c (I three)), (21, .c (.r vw2 (cR lv2))), (22, .p 4 0 0), (23, .p 5 0 0)]) (fun _ => [celB vc c, .box [.c (I sw), .c (I st'), .c (I sb), .c (I se)], celB vS S, celB vD D, celB vS2 S, .box [.c (I 0), .c (I 0), .c (I 0), .c (.r (.slice none 0 0) [])]]) (by decide) (ZNL hE) ZCF ZCH (fun _ => ?_)
   exact ⟨vw2, lv2, vS2, by rw [hlv, hlv2], rfl, rfl⟩
  ·obtain ⟨rfl, rfl⟩ := hw1 h
   refine ZZ ?_
   refine wk_of [some 0, some 1, some 2, some 3, some 4, some 5] (fun _ => [(4, .p 0 0 0), (5, .c (I n)), (6, .c (.r vk (cR l))), (7, .c (I ly)), (8, .c (I tp)), (9, .c (I bo)), (10, .p 1 0 0), (11, .c (.r vw (cR []))), (12, .p 2 0 0), (13, .c (I one)), (14, .p 3 0 0), (15, .c (I two)), (16, .c (.r vf (fR fl))), (17, .c (I three)), (18, .c (I one)), (19, .c (I two)), (20, .c (I three)), (21, .c (.r (.slice none 0 0) (cR []))), (22, .p 4 0 0), (23, .p 5 0 0)]) (fun _ => [celB vc c, .box [.c (I sw), .c (I st'), .c (I sb), .c (I se)], celB vS ⟨0, 0, 0, []⟩, celB vD D, celB (.slice none 0 0) ⟨0, 0, 0, []⟩, .box [.c (I 0), .c (I 0), .c (I 0), .c (.r (.slice none 0 0) [])]]) (by decide) (ZNL hE) ZCF ZCH (fun _ => ?_)
   exact ⟨_, [], .slice none 0 0, rfl, rfl, rfl⟩
 rintro F H ⟨vw2, lv2, vS2, hlv2, rfl, rfl⟩
 clear hw1 hw2
 refine WA ?_
 refine aw_cut (fun F H => ∃ vD2, F = [(4, .p 0 0 0), (5, .c (I n)), (6, .c (.r vk (cR l))), (7, .c (I ly)), (8, .c (I tp)), (9, .c (I bo)), (10, .p 1 0 0), (11, .c (.r vw (cR lv))), (12, .p 2 0 0), (13, .c (I one)), (14, .p 3 0 0), (15, .c (I two)), (16, .c (.r vf (fR fl))), (17, .c (I three)), (18, .c (I one)), (19, .c (I two)), (20, .c (I three)), (21, .c (.r vw2 (cR lv2))), (22, .p 4 0 0), (23, .p 5 0 0)] ∧ H = [celB vc c, .box [.c (I sw), .c (I st'), .c (I sb), .c (I se)], celB vS S, celB vD D, celB vS2 S, celB vD2 D]) ?_ ?_ wk_aw
 ·refine aw_if rfl (fun h => ?_) (fun h => ?_)
  ·obtain ⟨hnn, i, c', rfl, hic, hDD⟩ := hs2 h
   obtain ⟨htp, hbo, hl50⟩ := hsld h
   obtain ⟨⟨vc', c''⟩, hi2⟩ : ∃ p, l[i]? = some p := by
    cases hh : l[i]? with
    | none => rw [List.getElem?_map, hh] at hic; cases hic
    | some p => exact ⟨p, rfl⟩
   obtain rfl : c'' = c' := by rw [List.getElem?_map, hi2] at hic; exact Option.some.inj hic
   have hsf := solidof_v vk l i tp bo htp hbo hl50 hnn c'' vc' hi2
   rw [← hDD] at hsf
   refine WR ?_
   refine al_ef rfl (ef_call0 false (fun _ => hsf) rfl .fn rfl (by decide) (by kernel_rfl) rfl (fun _ => C0 rfl) (by simp)) ?_
   rintro _ _ ⟨_, _, _, ⟨vD2, rfl, rfl⟩, hF, hH⟩
   (refine NST hF hH ?_; clear hF hH; rintro rfl rfl)
   refine WE ?_
   refine wk_of [some 0, some 1, some 2, some 3, some 4, some 5] (fun _ => [(4, .p 0 0 0), (5, .c (I n)), (6, .c (.r vk (cR l))), (7, .c (I i)), (8, .c (I tp)), (9, .c (I bo)), (10, .p 1 0 0), (11, .c (.r vw (cR lv))), (12, .p 2 0 0), (13, .c (I one)), (14, .p 3 0 0), (15, .c (I two)), (16, .c (.r vf (fR fl))), (17, .c (I three)), (18, .c (I one)), (19, .c (I two)), (20, .c (I three)), (21, .c (.r vw2 (cR lv2))), (22, .p 4 0 0), (23, .p 5 0 0)]) (fun _ => [celB vc c, .box [.c (I sw), .c (I st'), .c (I sb), .c (I se)], celB vS S, celB vD D, celB vS2 S, celB vD2 D]) (by decide) (ZNL hE) ZCF ZCH (fun _ => ?_)
   exact ⟨vD2, rfl, rfl⟩
  ·obtain rfl := hs1 h
   refine ZZ ?_
   refine wk_of [some 0, some 1, some 2, some 3, some 4, some 5] (fun _ => [(4, .p 0 0 0), (5, .c (I n)), (6, .c (.r vk (cR l))), (7, .c (I ly)), (8, .c (I tp)), (9, .c (I bo)), (10, .p 1 0 0), (11, .c (.r vw (cR lv))), (12, .p 2 0 0), (13, .c (I one)), (14, .p 3 0 0), (15, .c (I two)), (16, .c (.r vf (fR fl))), (17, .c (I three)), (18, .c (I one)), (19, .c (I two)), (20, .c (I three)), (21, .c (.r vw2 (cR lv2))), (22, .p 4 0 0), (23, .p 5 0 0)]) (fun _ => [celB vc c, .box [.c (I sw), .c (I st'), .c (I sb), .c (I se)], celB vS S, celB vD ⟨0, 0, 0, []⟩, celB vS2 S, celB (.slice none 0 0) ⟨0, 0, 0, []⟩]) (by decide) (ZNL hE) ZCF ZCH (fun _ => ?_)
   exact ⟨.slice none 0 0, rfl, rfl⟩
 rintro F H ⟨vD2, rfl, rfl⟩
 clear hs1 hs2 hsld
 refine ZZ ?_
 refine WA ?_
 refine WA ?_
 refine aw_cut (fun F H => ∃ vg gl, fl.map filC = gl.map filC ∧ F = [(4, .p 0 0 0), (5, .c (I n)), (6, .c (.r vk (cR l))), (7, .c (I ly)), (8, .c (I tp)), (9, .c (I bo)), (10, .p 1 0 0), (11, .c (.r vw (cR lv))), (12, .p 2 0 0), (13, .c (I one)), (14, .p 3 0 0), (15, .c (I two)), (16, .c (.r vf (fR fl))), (17, .c (I three)), (18, .c (I one)), (19, .c (I two)), (20, .c (I three)), (21, .c (.r vw2 (cR lv2))), (22, .p 4 0 0), (23, .p 5 0 0), (24, .c (.r vg (fR gl)))] ∧ H = [celB vc c, .box [.c (I sw), .c (I st'), .c (I sb), .c (I se)], celB vS S, celB vD D, celB vS2 S, celB vD2 D]) ?_ ?_ wk_aw
 ·refine aw_if rfl (fun h => ?_) (fun h => ?_)
  ·obtain ⟨hnn, hf1, hf2⟩ := hp2 h
   obtain ⟨h10, ht50, hb50, hl50⟩ := hsty h
   obtain ⟨wn, rfl⟩ : ∃ wn : Nat, sw = wn := ⟨sw.toNat, by omega⟩
   rw [Int.toNat_natCast] at hf1
   refine WR ?_
   refine al_ef rfl (ef_call0 false (fun _ => planof_v vk l wn st' sb se (by omega) ht50 hb50 hl50 hnn) rfl .fn rfl (by decide) (by kernel_rfl) rfl (fun _ => C0 rfl) (by simp)) ?_
   rintro _ _ ⟨_, _, _, ⟨vg, gl, rfl, hgl, rfl⟩, hF, hH⟩
   (refine NST hF hH ?_; clear hF hH; rintro rfl rfl)
   refine WE ?_
   refine wk_of [some 0, some 1, some 2, some 3, some 4, some 5] (fun _ => [(4, .p 0 0 0), (5, .c (I n)), (6, .c (.r vk (cR l))), (7, .c (I ly)), (8, .c (I tp)), (9, .c (I bo)), (10, .p 1 0 0), (11, .c (.r vw (cR lv))), (12, .p 2 0 0), (13, .c (I one)), (14, .p 3 0 0), (15, .c (I two)), (16, .c (.r vf (fR fl))), (17, .c (I three)), (18, .c (I one)), (19, .c (I two)), (20, .c (I three)), (21, .c (.r vw2 (cR lv2))), (22, .p 4 0 0), (23, .p 5 0 0), (24, .c (.r vg (fR gl)))]) (fun _ => [celB vc c, .box [.c (I wn), .c (I st'), .c (I sb), .c (I se)], celB vS S, celB vD D, celB vS2 S, celB vD2 D]) (by decide) (ZNL hE) ZCF ZCH (fun _ => ?_)
   exact ⟨vg, gl, by rw [hf1, hgl], rfl, rfl⟩
  ·obtain rfl := hp1 h
   refine ZZ ?_
   refine wk_of [some 0, some 1, some 2, some 3, some 4, some 5] (fun _ => [(4, .p 0 0 0), (5, .c (I n)), (6, .c (.r vk (cR l))), (7, .c (I ly)), (8, .c (I tp)), (9, .c (I bo)), (10, .p 1 0 0), (11, .c (.r vw (cR lv))), (12, .p 2 0 0), (13, .c (I one)), (14, .p 3 0 0), (15, .c (I two)), (16, .c (.r vf (fR []))), (17, .c (I three)), (18, .c (I one)), (19, .c (I two)), (20, .c (I three)), (21, .c (.r vw2 (cR lv2))), (22, .p 4 0 0), (23, .p 5 0 0), (24, .c (.r (.slice none 0 0) (fR [])))]) (fun _ => [celB vc c, .box [.c (I sw), .c (I st'), .c (I sb), .c (I se)], celB vS S, celB vD D, celB vS2 S, celB vD2 D]) (by decide) (ZNL hE) ZCF ZCH (fun _ => ?_)
   exact ⟨_, [], rfl, rfl, rfl⟩
 rintro F H ⟨vg, gl, hgl, rfl, rfl⟩
 refine ZZ ?_
 have z1 : one = one := rfl
 have z2 : two = two := rfl
 have z3 : three = three := rfl
 have hc5 := samecs_v vw vw2 lv lv2 hlv2 hll.1 hll.2
 have hc6 := samefs_v vf vg fl gl hgl hfll.1 hfll.2
 refine WR ?_
 first | refine ZS ?_ | (refine G1 rfl ?_; refine al_ef rfl (ef_call0 false (fun _ => hc5) rfl .fn rfl (by decide) (by kernel_rfl) rfl (fun _ => C0 rfl) (by simp)) ?_; rintro _ _ ⟨_, _, _, ⟨rfl, rfl⟩, hF, hH⟩; (refine NST hF hH ?_; clear hF hH; rintro rfl rfl)) | skip
 refine WO ?_
 first | refine ZS ?_ | (refine G1 rfl ?_; refine al_ef rfl (ef_call0 false (fun _ => (samec_v vS vS2 S hSl)) rfl .fn rfl (by decide) (by kernel_rfl) rfl (fun _ => C0 rfl) (by simp)) ?_; rintro _ _ ⟨_, _, _, ⟨rfl, rfl⟩, hF, hH⟩; (refine NST hF hH ?_; clear hF hH; rintro rfl rfl)) | skip
 refine WO ?_
 first | refine ZS ?_ | (refine G1 rfl ?_; refine al_ef rfl (ef_call0 false (fun _ => (samec_v vD vD2 D hDl)) rfl .fn rfl (by decide) (by kernel_rfl) rfl (fun _ => C0 rfl) (by simp)) ?_; rintro _ _ ⟨_, _, _, ⟨rfl, rfl⟩, hF, hH⟩; (refine NST hF hH ?_; clear hF hH; rintro rfl rfl)) | skip
 refine WO ?_
 first | refine ZS ?_ | (refine G1 rfl ?_; refine al_ef rfl (ef_call0 false (fun _ => hc6) rfl .fn rfl (by decide) (by kernel_rfl) rfl (fun _ => C0 rfl) (by simp)) ?_; rintro _ _ ⟨_, _, _, ⟨rfl, rfl⟩, hF, hH⟩; (refine NST hF hH ?_; clear hF hH; rintro rfl rfl)) | skip
 refine WO ?_
 first | refine ZS ?_ | (refine G1 rfl ?_; refine al_ef rfl (ef_call0 false (fun _ => filled_v) rfl .fn rfl (by decide) (by kernel_rfl) rfl (fun _ => C0 rfl) (by simp)) ?_; rintro _ _ ⟨_, _, _, ⟨rfl, rfl⟩, hF, hH⟩; (refine NST hF hH ?_; clear hF hH; rintro rfl rfl)) | skip
 refine WE ?_
 exact aret_1 [] _ rfl rfl rfl (by decide) (ZNK rfl) (fun _ => .nil) rfl
end Go.Proofs.YtgeenfjmhhenfaaGreatDoor
