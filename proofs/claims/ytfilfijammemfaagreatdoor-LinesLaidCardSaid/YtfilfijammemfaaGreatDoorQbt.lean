/- The program's Parts, by value. -/
import Derived.Test.YtfilfijammemfaaGreatDoorQbs
set_option linter.unusedSimpArgs false
set_option linter.unusedVariables false
/- The program's Parts, by value. -/
-- NEWM
-- NILC
namespace Go.Proofs.YtfilfijammemfaaGreatDoor
open Go Go.RowKit
set_option maxRecDepth 100000
def prtC (st : Int) (p : List Spot) : Cel := (normC st p).1
noncomputable def prtN (C : List Spot) (s : List Spot × List (List Spot)) (p : Spot) : List Spot × List (List Spot) := @ite _ (p ∈ s.1) (Classical.propDecidable _) s (s.1 ++ gangL C p, s.2 ++ [gangL C p])
theorem prtS_E {C A : List Spot} {p : Spot} : prtS C (A ++ [p]) = prtN C (prtS C A) p := by
 rw [prtS_snoc, prtN]
 by_cases h : p ∈ (prtS C A).1
 ·rw [if_pos h, if_pos h]
 ·rw [if_neg h, if_neg h]
theorem prtN_y {C : List Spot} {s : List Spot × List (List Spot)} {p : Spot} (h : p ∈ s.1) : prtN C s p = s := if_pos h
theorem prtN_n {C : List Spot} {s : List Spot × List (List Spot)} {p : Spot} (h : p ∉ s.1) : prtN C s p = (s.1 ++ gangL C p, s.2 ++ [gangL C p]) := if_neg h
abbrev ptH (g : Grd) (onS : List Bool) (lv : List (Value × Cel)) (cp : Nat) : List OB := [.box [.p 1 0 0], gB g.st g.x g.y g.w g.h 2 (g.w * g.h), gArr (g.w * g.h) onS, .box [.o 4 0 lv.length cp], .arr 28 4 cp (cR lv)]
structure PtO (g : Grd) (onS : List Bool) (lv : List (Value × Cel)) (s : List Spot × List (List Spot)) : Prop where
 n : onS.length = g.w * g.h
 e : ∀ q, q ∈ covG { g with on := onS } ↔ q ∈ s.1
 c : Clo (covG g) s.1
 v : lv.map Prod.snd = s.2.map (prtC g.st)
set_option maxHeartbeats 4000000 in
theorem parts1_v (g : Grd) (pg vg p3 : Value) (hg : GOk g) (hst : 0 ≤ g.st ∧ g.st ≤ 10000) (onS : List Bool) (lv : List (Value × Cel)) (cp : Nat) (s : List Spot × List (List Spot)) (hO : PtO g onS lv s) (hlen : lv.length ≤ 1000000) (a b : Int) (hab : (a, b) ∈ covG g) :
    ACalls Tryz.prog 87 [.c (I a), .c (I b), .p 0 0 0, .c (.p p3 [.p pg (gRow g vg)]), .p 3 0 0] (ptH g onS lv cp) fun u H => ∃ (on2 : List Bool) (lv2 : List (Value × Cel)) (cp2 : Nat), u = .t [] ∧ PtO g on2 lv2 (prtN (covG g) s (a, b)) ∧ H = ptH g on2 lv2 cp2 := by
 have hS := hO.n
 have hSe := hO.e
 have hclo := hO.c
 have hgS : GOk { g with on := onS } := ⟨hS, hg.w, hg.h, hg.x, hg.y⟩
 have habd := spt_bd hg hab
 simp only at habd
 have hbx : ∀ q ∈ covG g, inBox g.x g.y g.w g.h q := fun q hq => covG_box hg.len hq
 have e1 : (cR lv).length = lv.length := by simp
 obtain ⟨b1, hb1⟩ : ∃ z, atG { g with on := onS } a b = z := ⟨_, rfl⟩
 have hm := (atG_iff hgS.len (a := a) (b := b)).trans (hSe (a, b))
 rw [hb1] at hm
 refine acallsx_of false (N := 51) Tryz.func87 rfl rfl (by simp) fun E hE hP => ?_
 cases b1 with
 | true =>
  rw [prtN_y (hm.1 rfl)]
  refine WR ?_
  refine al_ef rfl (ef_callp [1, 2] (fun _ => [gB g.st g.x g.y g.w g.h 1 (g.w * g.h), gArr (g.w * g.h) onS]) false (fun _ => at_o { g with on := onS } a b hgS (by omega) (by omega)) rfl .fn rfl (by decide) (by kernel_rfl) rfl (fun _ => .cons (.p rfl) (.cons (.c rfl) (.cons (.c rfl) .nil))) (by decide) ZCH (by simp)) ?_
  rintro F1 H1 ⟨_, _, _, _, ⟨rfl, rfl⟩, hF, hH⟩
  rw [hb1] at hF
  rw [killF_nil] at hF; (refine NSU hF hH ?_; clear hF hH; rintro rfl rfl)
  refine WE ?_
  refine aw_cond_t rfl ?_
  refine ZZ ?_
  exact aret_0 [some 0, some 1, some 2, some 3, some 4] (fun _ => ptH g onS lv cp) (.inl rfl) rfl (by decide) (ZNL (n := 5) rfl) ZCH (fun _ => ⟨onS, lv, cp, rfl, hO, rfl⟩)
 | false =>
  have hin : (a, b) ∉ s.1 := fun h => by have := hm.2 h; cases this
  rw [prtN_n hin]
  refine WR ?_
  refine al_ef rfl (ef_callp [1, 2] (fun _ => [gB g.st g.x g.y g.w g.h 1 (g.w * g.h), gArr (g.w * g.h) onS]) false (fun _ => at_o { g with on := onS } a b hgS (by omega) (by omega)) rfl .fn rfl (by decide) (by kernel_rfl) rfl (fun _ => .cons (.p rfl) (.cons (.c rfl) (.cons (.c rfl) .nil))) (by decide) ZCH (by simp)) ?_
  rintro F1 H1 ⟨_, _, _, _, ⟨rfl, rfl⟩, hF, hH⟩
  rw [hb1] at hF
  rw [killF_nil] at hF; (refine NSU hF hH ?_; clear hF hH; rintro rfl rfl)
  refine WE ?_
  refine aw_cond_f rfl ?_
  refine ZZ ?_
  refine aw_cut (fun F H => F = [(0, .c (I a)), (1, .c (I b)), (2, .p 0 0 0), (3, .c (.p p3 [.p pg (gRow g vg)])), (4, .p 3 0 0), (7, .p 5 0 0)] ∧ H = [.box [.p 1 0 0], gB g.st g.x g.y g.w g.h 2 (g.w * g.h), gArr (g.w * g.h) onS, .box [.o 4 0 lv.length cp], .arr 28 4 cp (cR lv), gB g.st g.x g.y g.w g.h 6 (g.w * g.h), gArr (g.w * g.h) (List.replicate (g.w * g.h) false)]) ?_ ?_ wk_aw
  ·refine ZZ ?_
   refine aw_regionT [(0, none), (1, none), (2, none), (3, none), (4, none), (5, none), (6, none), (7, none), (8, none), (9, none), (10, none), (11, none), (12, none), (13, none), (14, none), (15, none), (16, none), (17, none), (18, none), (19, none), (20, some []), (21, none)] hMixed (by kernel_rfl) ?_
   refine ZT rfl (rd_ldcp rfl (by kernel_rfl) rfl rfl) ?_
   iterate 3 refine WX2 ?_
   refine ZT rfl (rd_ldcp rfl (by kernel_rfl) rfl rfl) ?_
   iterate 3 refine WX2 ?_
   refine ZT rfl (rd_ldcp rfl (by kernel_rfl) rfl rfl) ?_
   iterate 3 refine WX2 ?_
   refine ZT rfl (rd_ldcp rfl (by kernel_rfl) rfl rfl) ?_
   iterate 3 refine WX2 ?_
   refine ZT rfl (rd_ldcp rfl (by kernel_rfl) rfl rfl) ?_
   refine WP ?_
   refine at_ef rfl rfl (ef_call0 false (fun _ => newgrid_v g.st g.x g.y g.w g.h hg.w hg.h) rfl .fn rfl (by decide) (by kernel_rfl) rfl (fun _ => C0 rfl) (by simp)) ?_
   rintro _ _ ⟨_, _, _, ⟨rfl, rfl⟩, hF, hH⟩
   (refine NST hF hH ?_; clear hF hH; rintro rfl rfl)
   refine ⟨ag_none, ?_⟩
   refine WQ ?_
   all_goals exact wk_of [some 0, some 1, some 2, some 3, some 4, some 5, some 6] (fun _ => [(0, .c (I a)), (1, .c (I b)), (2, .p 0 0 0), (3, .c (.p p3 [.p pg (gRow g vg)])), (4, .p 3 0 0), (7, .p 5 0 0)]) (fun _ => [.box [.p 1 0 0], gB g.st g.x g.y g.w g.h 2 (g.w * g.h), gArr (g.w * g.h) onS, .box [.o 4 0 lv.length cp], .arr 28 4 cp (cR lv), gB g.st g.x g.y g.w g.h 6 (g.w * g.h), gArr (g.w * g.h) (List.replicate (g.w * g.h) false)]) (by decide) (ZNL hE) ZCF ZCH (fun _ => ⟨rfl, rfl⟩)
  rintro F H ⟨rfl, rfl⟩
  refine ZZ ?_
  refine ZR ?_
  refine ZA (rd_ldcp rfl (by kernel_rfl) rfl rfl) ?_
  iterate 4 refine WX1 ?_
  refine ZA (rd_bound rfl rfl) ?_
  refine al_ef rfl (ef_callp [1, 2, 5, 6] (fun _ => [gB g.st g.x g.y g.w g.h 1 (g.w * g.h), gArr (g.w * g.h) onS, gB g.st g.x g.y g.w g.h 3 (g.w * g.h), gArr (g.w * g.h) (List.replicate (g.w * g.h) false)]) false (fun _ => flood_v g pg vg hg onS _ hS (by simp) (a, b) hab s.1 hSe hclo hin) rfl .fn rfl (by decide) (by kernel_rfl) rfl ZCH (by decide) ZCH (by simp)) ?_
  rintro F1 H1 ⟨_, _, _, _, ⟨L, rfl, hL, rfl⟩, hF, hH⟩
  rw [killF_nil] at hF; (refine NSU hF hH ?_; clear hF hH; rintro rfl rfl)
  refine WE ?_
  have hpl : (putG g.x g.y g.w (List.replicate (g.w * g.h) false) L).length = g.w * g.h := by rw [putG_len]; simp
  refine aw_wk (wk_of (K := fun F H => ∃ pv1 v1, F = [(4, .p 3 0 0), (7, gV pv1 v1 { g with on := putG g.x g.y g.w (List.replicate (g.w * g.h) false) L })] ∧ H = ptH g (putG g.x g.y g.w onS L) lv cp) [some 0, some 1, some 2, some 3, some 4] (fun f => [(4, .p 3 0 0), (7, gV (f (.p 5 0 0)) (f (.o 6 0 (g.w * g.h) (g.w * g.h))) { g with on := putG g.x g.y g.w (List.replicate (g.w * g.h) false) L })]) (fun _ => ptH g (putG g.x g.y g.w onS L) lv cp) (by decide) (ZNL hE) (fun _ => .cons rfl (.p rfl) (.cons rfl (frzG (g := { g with on := putG g.x g.y g.w (List.replicate (g.w * g.h) false) L }) rfl rfl hpl rfl rfl) .nil)) ZCH (fun _ => ⟨_, _, rfl, rfl⟩)) ?_
  rintro F H ⟨pv1, v1, rfl, rfl⟩
  have hLb : ∀ p ∈ L, inBox g.x g.y g.w g.h p := fun p hp => hbx p ((hL p).1 hp).mem
  have hgP : GOk { g with on := putG g.x g.y g.w (List.replicate (g.w * g.h) false) L } := ⟨hpl, hg.w, hg.h, hg.x, hg.y⟩
  have hcl : normC g.st (covG { g with on := putG g.x g.y g.w (List.replicate (g.w * g.h) false) L }) = normC g.st (gangL (covG g) (a, b)) := normC_mem fun q => by
   have := put_cov (L := L) (g := { g with on := List.replicate (g.w * g.h) false }) (by simp) hLb (q := q)
   simp only at this
   rw [this, hL, gangL_mem]
   exact ⟨fun h => h.elim (fun h => absurd h cov_none) id, .inr⟩
  have hO2 : ∀ v2 : Value, PtO g (putG g.x g.y g.w onS L) (lv ++ [(v2, (normC g.st (gangL (covG g) (a, b))).1)]) (s.1 ++ gangL (covG g) (a, b), s.2 ++ [gangL (covG g) (a, b)]) := fun v2 => by
   refine ⟨by rw [putG_len, hS], fun q => ?_, ?_, ?_⟩
   ·have := put_cov (L := L) (g := { g with on := onS }) hS hLb (q := q)
    simp only at this
    rw [this, hSe, hL, List.mem_append, gangL_mem]
   ·intro p hp q hq hC
    rcases List.mem_append.1 hp with hp | hp
    ·exact List.mem_append_left _ (hclo p hp q hq hC)
    ·exact List.mem_append_right _ (gangL_clo p hp q hq hC)
   ·rw [List.map_append, List.map_append, hO.v]; rfl
  generalize normC g.st (gangL (covG g) (a, b)) = R at *
  obtain ⟨R1, R2⟩ := R
  refine WR ?_
  refine al_ef rfl (ef_call0 false (fun _ => cells_v { g with on := putG g.x g.y g.w (List.replicate (g.w * g.h) false) L } pv1 v1 hgP hst) rfl .fn rfl (by decide) (by kernel_rfl) rfl (fun _ => C0 rfl) (by simp)) ?_
  rintro _ _ ⟨_, _, _, ⟨v2, rfl, rfl⟩, hF, hH⟩
  rw [hcl] at hF
  (refine NST hF hH ?_; clear hF hH; rintro rfl rfl)
  refine WE ?_
  refine WR ?_
  refine al_ef rfl (Zapp (KA (t := 76) rfl)) ?_
  rintro _ _ ⟨_, cc, hcc, rfl, rfl⟩
  refine WE ?_
  all_goals exact aret_0 [some 0, some 1, some 2, some 3, some 4] (fun _ => ptH g (putG g.x g.y g.w onS L) (lv ++ [(v2, R1)]) cc) (.inr rfl) rfl (by decide) (ZNL (n := 5) rfl) ZCH (fun _ => ⟨_, _, cc, rfl, hO2 v2, rfl⟩)
set_option maxHeartbeats 4000000 in
theorem each_parts (g : Grd) (pg vg p3 : Value) (hg : GOk g) (hst : 0 ≤ g.st ∧ g.st ≤ 10000) : ACalls Tryz.prog 78 [gV pg vg g, .f (.func 87) [.p 0 0 0, .c (.p p3 [.p pg (gRow g vg)]), .p 3 0 0]] (ptH g (List.replicate (g.w * g.h) false) [] 0) fun u H => ∃ (on2 : List Bool) (lv2 : List (Value × Cel)) (cp2 : Nat), u = .t [] ∧ PtO g on2 lv2 (prtS (covG g) (covG g)) ∧ H = ptH g on2 lv2 cp2 := by
 have hn := hg.n
 have hgx := hg.x
 have hgy := hg.y
 have eo : (oR g.on).length = g.on.length := by simp
 have hlc : (covG g).length ≤ 1000000 := by
  have := (cnt_le (g := g) (h := g) g.on.length).1
  have h2 : cntG g g.on.length = (covG g).length := rfl
  omega
 refine acallsx_of false (N := 42) Tryz.func78 rfl rfl (by simp) fun E hE hP => ?_
 refine WA ?_
 refine aw_loopw (fun m F H => ∃ (k : Nat) (onS : List Bool) (lv : List (Value × Cel)) (cp : Nat), m + k = g.on.length ∧ PtO g onS lv (prtS (covG g) (covK g k)) ∧ F = [(0, gV pg vg g), (1, .f (.func 87) [.p 0 0 0, .c (.p p3 [.p pg (gRow g vg)]), .p 3 0 0]), (9, .c (.r vg (oR g.on))), (10, .c (I (oR g.on).length)), (11, .c (I k))] ∧ H = ptH g onS lv cp) ?_ ?_
 ·refine wk_of [some 0, some 1, some 2, some 3, some 4] (fun _ => [(0, gV pg vg g), (1, .f (.func 87) [.p 0 0 0, .c (.p p3 [.p pg (gRow g vg)]), .p 3 0 0]), (9, .c (.r vg (oR g.on))), (10, .c (I (oR g.on).length)), (11, .c (I (0 : Nat)))]) (fun _ => ptH g (List.replicate (g.w * g.h) false) [] 0) (by decide) (ZNL hE) ZCF ZCH (fun _ => ?_)
  exact ⟨g.on.length, 0, _, [], 0, by omega, ⟨by simp, fun q => ⟨fun h => absurd h cov_none, fun h => by simp [prtS, covK] at h⟩, fun p hp => by simp [prtS, covK] at hp, rfl⟩, rfl, rfl⟩
 rintro m F H ⟨k, onS, lv, cp, hk, hO, rfl, rfl⟩
 refine WA ?_
 refine aw_if rfl (fun hlt => ?_) (fun hge => ?_)
 ·have hkn : k < g.on.length := by omega
  obtain ⟨b, hb⟩ : ∃ b, g.on[k]? = some b := ⟨_, List.getElem?_eq_getElem hkn⟩
  have hrow : (oR g.on)[k]? = some [B b] := by rw [List.getElem?_map, hb]; rfl
  obtain ⟨w1, ⟨w2, w3⟩, w4, w5⟩ := each_at hg hkn
  have hnx := covK_next hb
  have hlv : lv.length ≤ 1000000 := by
   have h1 := congrArg List.length hO.v
   rw [List.length_map, List.length_map] at h1
   have h2 := (prtS_ok (L := covG g) (A := covK g k) rfl fun q hq => covK_in hq (by omega)).len
   have h3 := (cnt_le (g := g) (h := g) k).1
   have h4 : cntG g k = (covK g k).length := rfl
   omega
  refine WA ?_
  refine WA ?_
  cases b with
  | true =>
   rw [if_pos rfl] at hnx
   have hsp : spt g k ∈ covG g := covG_mem.2 ⟨k, hb, rfl⟩
   rw [← spt_eq] at hnx hsp
   refine aw_cond_t rfl ?_
   refine ZZ ?_
   refine aw_regionT [(0, none), (1, none), (2, none), (3, none), (4, none), (5, none), (6, none), (7, none), (8, none), (9, none), (10, none), (11, none), (12, none), (13, none), (14, none), (15, none), (16, none), (17, none), (18, none), (19, none), (20, none), (21, none), (22, none), (23, some [])] hMixed (by kernel_rfl) ?_
   refine WP ?_
   refine at_ef rfl rfl (ef_call [0, 1, 2, 3, 4] (fun _ => ptH g onS lv cp) false (fun _ => parts1_v g pg vg p3 hg hst onS lv cp _ hO hlv _ _ hsp) rfl (.clo rfl) rfl (by decide) (by kernel_rfl) rfl ZCH (by decide) ZCH (by simp)) ?_
   rintro F1 H1 ⟨_, _, _, _, ⟨on2, lv2, cp2, rfl, hO2, rfl⟩, hF, hH⟩
   (refine NSU hF hH ?_; clear hF hH; rintro rfl rfl)
   refine ⟨ag_none, ?_⟩
   refine WQ ?_
   rw [← prtS_E, ← hnx] at hO2
   refine WA ?_
   refine wk_of [some 0, some 1, some 2, some 3, some 4] (fun _ => [(0, gV pg vg g), (1, .f (.func 87) [.p 0 0 0, .c (.p p3 [.p pg (gRow g vg)]), .p 3 0 0]), (9, .c (.r vg (oR g.on))), (10, .c (I (oR g.on).length)), (11, .c (I (k + 1 : Nat)))]) (fun _ => ptH g on2 lv2 cp2) (by decide) (ZNL hE) ZCF ZCH (fun _ => ?_)
   exact ⟨m - 1, by omega, k + 1, on2, lv2, cp2, by omega, hO2, rfl, rfl⟩
  | false =>
   rw [if_neg (by simp), List.append_nil] at hnx
   refine aw_cond_f rfl ?_
   refine ZZ ?_
   refine WA ?_
   refine wk_of [some 0, some 1, some 2, some 3, some 4] (fun _ => [(0, gV pg vg g), (1, .f (.func 87) [.p 0 0 0, .c (.p p3 [.p pg (gRow g vg)]), .p 3 0 0]), (9, .c (.r vg (oR g.on))), (10, .c (I (oR g.on).length)), (11, .c (I (k + 1 : Nat)))]) (fun _ => ptH g onS lv cp) (by decide) (ZNL hE) ZCF ZCH (fun _ => ?_)
   exact ⟨m - 1, by omega, k + 1, onS, lv, cp, by omega, by rw [hnx]; exact hO, rfl, rfl⟩
 obtain rfl : k = g.on.length := by omega
 refine ZZ ?_
 exact aret_0 [some 0, some 1, some 2, some 3, some 4] (fun _ => ptH g onS lv cp) (.inr rfl) rfl (by decide) (ZNL (n := 5) rfl) ZCH (fun _ => ⟨onS, lv, cp, rfl, hO, rfl⟩)
noncomputable def partF (c : Cel) : List Cel := (partL (covL c)).map (prtC c.st)
set_option maxHeartbeats 4000000 in
theorem parts_v (va : Value) (c : Cel) (hc : RCel c) : ACalls Tryz.prog 41 [celA va c] [] fun u H => ∃ (v : Value) (lv : List (Value × Cel)), u = .t [.c (.r v (cR lv)), .c (I 0)] ∧ lv.map Prod.snd = partF c ∧ H = [] := by
 have hst : 0 ≤ (grdOf c).st ∧ (grdOf c).st ≤ 10000 := by rw [grdOf_st]; have := hc.st; omega
 have hg := grdOf_ok hc
 have hpf : (partL (covG (grdOf c))).map (prtC (grdOf c).st) = partF c := by rw [covG_is hc, grdOf_st]; rfl
 refine acalls_of (N := 40) Tryz.func41 rfl rfl (by simp) fun E hE => ?_
 refine WA ?_
 refine WR ?_
 refine al_ef rfl (ef_call0 false (fun _ => check_r va c hc) rfl .fn rfl (by decide) (by kernel_rfl) rfl (fun _ => C0 rfl) (by simp)) ?_
 rintro _ _ ⟨_, _, _, ⟨rfl, rfl⟩, hF, hH⟩
 (refine NST hF hH ?_; clear hF hH; rintro rfl rfl)
 refine WE ?_
 refine WA ?_
 refine aw_cond_f rfl ?_
 refine ZZ ?_
 refine WR ?_
 refine al_ef rfl (ef_call0 false (fun _ => gridof_v va c hc) rfl .fn rfl (by decide) (by kernel_rfl) rfl (fun _ => C0 rfl) (by simp)) ?_
 rintro _ _ ⟨_, _, _, ⟨pg, vg, rfl, rfl⟩, hF, hH⟩
 (refine NST hF hH ?_; clear hF hH; rintro rfl rfl)
 refine WE ?_
 generalize grdOf c = g at *
 refine aw_cut (fun F H => F = [(5, .p 0 0 0), (6, .p 1 0 0)] ∧ H = [.box [gV pg vg g], .box [.p 2 0 0], gB g.st g.x g.y g.w g.h 3 (g.w * g.h), gArr (g.w * g.h) (List.replicate (g.w * g.h) false)]) ?_ ?_ wk_aw
 ·refine ZZ ?_
  refine aw_regionM [[(0, none), (1, none), (2, none), (3, none), (4, none), (5, none), (6, none), (7, none), (8, none), (9, none), (10, none), (11, none), (12, none), (13, none), (14, none), (15, none), (16, none), (17, none), (18, none), (19, none), (20, some []), (21, some [0, 1, 2, 3, 4, 5, 6, 7, 8, 9, 10, 11, 12, 13, 14, 15, 16, 17, 18, 19]), (22, some [])], [(0, none), (1, none), (2, none), (3, none), (4, none), (5, none), (6, none), (7, none), (8, none), (9, none), (10, none), (11, none), (12, none), (13, none), (14, none), (15, none), (16, none), (17, none), (18, none), (19, none), (21, some [0, 1, 2, 3, 4, 5, 6, 7, 8, 9, 10, 11, 12, 13, 14, 15, 16, 17, 18, 19]), (20, some []), (22, some [])]] hMixed (by kernel_rfl) ?_
  focus
   refine WM ?_
   refine am_two (by rfl) (by rfl) (by rfl) ?_ ?_
   rotate_left
   refine WM ?_
   refine am_ef (i := 20) (by rfl) (by rfl) rfl rfl (ef_call0 false (fun _ => newgrid_v g.st g.x g.y g.w g.h hg.w hg.h) rfl .fn rfl (by decide) (by kernel_rfl) rfl (fun _ => C0 rfl) (by simp)) ?_
   rintro _ _ ⟨_, _, _, ⟨rfl, rfl⟩, hF, hH⟩
   (refine NST hF hH ?_; clear hF hH; rintro rfl rfl)
   refine ⟨AGX, ?_⟩
   refine WN ?_
   rotate_right
   refine am_ef (i := 20) (by rfl) (by rfl) rfl rfl (ef_call0 false (fun _ => newgrid_v g.st g.x g.y g.w g.h hg.w hg.h) rfl .fn rfl (by decide) (by kernel_rfl) rfl (fun _ => C0 rfl) (by simp)) ?_
   rintro _ _ ⟨_, _, _, ⟨rfl, rfl⟩, hF, hH⟩
   (refine NST hF hH ?_; clear hF hH; rintro rfl rfl)
   refine ⟨AGX, ?_⟩
   refine WN ?_
  all_goals (first | exact wk_of [some 1, some 2, some 3, some 4] (fun _ => [(5, .p 0 0 0), (6, .p 1 0 0)]) (fun _ => [.box [gV pg vg g], .box [.p 2 0 0], gB g.st g.x g.y g.w g.h 3 (g.w * g.h), gArr (g.w * g.h) (List.replicate (g.w * g.h) false)]) (by decide) (ZNL hE) ZCF ZCH (fun _ => ⟨rfl, rfl⟩) | exact wk_of [some 1, some 4, some 2, some 3] (fun _ => [(5, .p 0 0 0), (6, .p 1 0 0)]) (fun _ => [.box [gV pg vg g], .box [.p 2 0 0], gB g.st g.x g.y g.w g.h 3 (g.w * g.h), gArr (g.w * g.h) (List.replicate (g.w * g.h) false)]) (by decide) (ZNL hE) ZCF ZCH (fun _ => ⟨rfl, rfl⟩))
 rintro F H ⟨rfl, rfl⟩
 refine ZZ ?_
 refine WA ?_
 refine aw_wk (wk_of (K := fun F H => ∃ p3, F = [(5, .c (.p p3 [.p pg (gRow g vg)])), (6, .p 0 0 0), (7, .p 3 0 0)] ∧ H = ptH g (List.replicate (g.w * g.h) false) [] 0) [some 1, some 2, some 3, some 4, none] (fun f => [(5, .c (.p (f (.p 0 0 0)) [.p pg (gRow g vg)])), (6, .p 0 0 0), (7, .p 3 0 0)]) (fun _ => ptH g (List.replicate (g.w * g.h) false) [] 0) (by decide) (ZNL hE) (fun _ => .cons rfl (frzpL rfl rfl (.cons (.c rfl) .nil)) (.cons rfl (.p rfl) (.cons rfl (.p rfl) .nil))) ZCH (fun _ => ⟨_, rfl, rfl⟩)) ?_
 rintro F H ⟨p3, rfl, rfl⟩
 refine ZR ?_
 refine ZA (rd_ldcp rfl (by kernel_rfl) rfl rfl) ?_
 refine WO ?_
 refine al_ef rfl (ef_call [0, 1, 2, 3, 4] (fun _ => ptH g (List.replicate (g.w * g.h) false) [] 0) false (fun _ => each_parts g pg vg p3 hg hst) rfl .fn rfl (by decide) (by kernel_rfl) rfl ZCH (by decide) ZCH (by simp)) ?_
 rintro F1 H1 ⟨_, _, _, _, ⟨on2, lv2, cp2, rfl, hO2, rfl⟩, hF, hH⟩
 (refine NSU hF hH ?_; clear hF hH; rintro rfl rfl)
 refine WE ?_
 refine WA ?_
 exact aret_f2 [] _ rfl rfl rfl rfl rfl rfl (by rw [List.drop_zero, List.take_of_length_le (by simp)]) (by simp) rfl (by decide) (ZNK rfl) (fun _ => .nil) (fun q => ⟨q, lv2, rfl, by rw [hO2.v]; exact hpf, rfl⟩)
end Go.Proofs.YtfilfijammemfaaGreatDoor
