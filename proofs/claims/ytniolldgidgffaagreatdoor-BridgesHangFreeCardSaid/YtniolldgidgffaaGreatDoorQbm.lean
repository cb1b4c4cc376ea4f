/- Lists turned round; rows of lists: plain. -/
import Derived.Test.YtniolldgidgffaaGreatDoorQbl
import Derived.Test.YtniolldgidgffaaGreatDoorQbj
import Derived.Test.YtniolldgidgffaaGreatDoorQbk
import Derived.Test.YtniolldgidgffaaGreatDoorQaq
import Derived.Test.YtniolldgidgffaaGreatDoorQat
import Derived.Shelf.SlSortCmp.NoneTotal
import Derived.Shelf.SortM.Plain
import Derived.Shelf.SortM.SortNone
import Derived.Test.YtniolldgidgffaaGreatDoorQbh
set_option linter.unusedSimpArgs false
set_option linter.unusedVariables false
/- The program's Parts, by value. -/
-- NEWM
-- NILC
namespace Go.Proofs.YtniolldgidgffaaGreatDoor
open Go Go.RowKit
set_option maxRecDepth 100000
def prtC (st : Int) (p : List Spot) : Cel := (normC st p).1
noncomputable def prtN (C : List Spot) (s : List Spot × List (List Spot)) (p : Spot) : List Spot × List (List Spot) := @ite _ (p ∈ s.1) (Classical.propDecidable _) s (s.1 ++ gangL C p, s.2 ++ [gangL C p])
theorem prtS_E {C A : List Spot} {p : Spot} : prtS C (A ++ [p]) = prtN C (prtS C A) p := by
 rw [prtS_snoc, prtN]
 by_cases h : p ∈ (prtS C A).1
 ·rw [if_pos h, if_pos h]
 ·rw [if_neg h, if_neg h]
theorem prtN_y {C : List Spot} {s : List Spot × List (List Spot)} {p : Spot} (h : p ∈ s.1) : prtN C s p = s := if_pos h
theorem prtN_n {C : List Spot} {s : List Spot × List (List Spot)} {p : Spot} (h : p ∉ s.1) : prtN C s p = (s.1 ++ gangL C p, s.2 ++ [gangL C p]) := if_neg h
abbrev ptH (g : Grd) (onS : List Bool) (lv : List (Value × Cel)) (cp : Nat) : List OB := [.box [.p 1 0 0], gB g.st g.x g.y g.w g.h 2 (g.w * g.h), gArr (g.w * g.h) onS, .box [.o 4 0 lv.length cp], .arr 28 4 cp (cR lv)]
structure PtO (g : Grd) (onS : List Bool) (lv : List (Value × Cel)) (s : List Spot × List (List Spot)) : Prop where
 n : onS.length = g.w * g.h
 e : ∀ q, q ∈ covG { g with on := onS } ↔ q ∈ s.1
 c : Clo (covG g) s.1
 v : lv.map Prod.snd = s.2.map (prtC g.st)
set_option maxHeartbeats 4000000 in
theorem parts1_v (g : Grd) (pg vg p3 : Value) (hg : GOk g) (hst : 0 ≤ g.st ∧ g.st ≤ 10000) (onS : List Bool) (lv : List (Value × Cel)) (cp : Nat) (s : List Spot × List (List Spot)) (hO : PtO g onS lv s) (hlen : lv.length ≤ 1000000) (a b : Int) (hab : (a, b) ∈ covG g) :
    ACalls Tryz.prog 142 [.c (I a), .c (I b), .p 0 0 0, .c (.p p3 [.p pg (gRow g vg)]), .p 3 0 0] (ptH g onS lv cp) fun u H => ∃ (on2 : List Bool) (lv2 : List (Value × Cel)) (cp2 : Nat), u = .t [] ∧ PtO g on2 lv2 (prtN (covG g) s (a, b)) ∧ H = ptH g on2 lv2 cp2 := by
 have hS := hO.n
 have hSe := hO.e
 have hclo := hO.c
 have hgS : GOk { g with on := onS } := ⟨hS, hg.w, hg.h, hg.x, hg.y⟩
 have habd := spt_bd hg hab
 simp only at habd
 have hbx : ∀ q ∈ covG g, inBox g.x g.y g.w g.h q := fun q hq => covG_box hg.len hq
 have e1 : (cR lv).length = lv.length := by simp
 obtain ⟨b1, hb1⟩ : ∃ z, atG { g with on := onS } a b = z := ⟨_, rfl⟩
 have hm := (atG_iff hgS.len (a := a) (b := b)).trans (hSe (a, b))
 rw [hb1] at hm
 refine acallsx_of false (N := 51) Tryz.func142 rfl rfl (by simp) fun E hE hP => ?_
 cases b1 with
 | true =>
  rw [prtN_y (hm.1 rfl)]
  refine WR ?_
  refine al_ef rfl (ef_callp [1, 2] (fun _ => [gB g.st g.x g.y g.w g.h 1 (g.w * g.h), gArr (g.w * g.h) onS]) false (fun _ => at_o { g with on := onS } a b hgS (by omega) (by omega)) rfl .fn rfl (by decide) (by kernel_rfl) rfl (fun _ => .cons (.p rfl) (.cons (.c rfl) (.cons (.c rfl) .nil))) (by decide) ZCH (by simp)) ?_
  rintro F1 H1 ⟨_, _, _, _, ⟨rfl, rfl⟩, hF, hH⟩
  rw [hb1] at hF
  rw [killF_nil] at hF; (refine NSU hF hH ?_; clear hF hH; rintro rfl rfl)
  refine WE ?_
  refine aw_cond_t rfl ?_
  refine ZZ ?_
  exact aret_0 [some 0, some 1, some 2, some 3, some 4] (fun _ => ptH g onS lv cp) (.inl rfl) rfl (by decide) (ZNL (n := 5) rfl) ZCH (fun _ => ⟨onS, lv, cp, rfl, hO, rfl⟩)
 | false =>
  have hin : (a, b) ∉ s.1 := fun h => by have := hm.2 h; cases this
  rw [prtN_n hin]
  refine WR ?_
  refine al_ef rfl (ef_callp [1, 2] (fun _ => [gB g.st g.x g.y g.w g.h 1 (g.w * g.h), gArr (g.w * g.h) onS]) false (fun _ => at_o { g with on := onS } a b hgS (by omega) (by omega)) rfl .fn rfl (by decide) (by kernel_rfl) rfl (fun _ => .cons (.p rfl) (.cons (.c rfl) (.cons (.c rfl) .nil))) (by decide) ZCH (by simp)) ?_
  rintro F1 H1 ⟨_, _, _, _, ⟨rfl, rfl⟩, hF, hH⟩
  rw [hb1] at hF
  rw [killF_nil] at hF; (refine NSU hF hH ?_; clear hF hH; rintro rfl rfl)
  refine WE ?_
  refine aw_cond_f rfl ?_
  refine ZZ ?_
  refine aw_cut (fun F H => F = [(0, .c (I a)), (1, .c (I b)), (2, .p 0 0 0), (3, .c (.p p3 [.p pg (gRow g vg)])), (4, .p 3 0 0), (7, .p 5 0 0)] ∧ H = [.box [.p 1 0 0], gB g.st g.x g.y g.w g.h 2 (g.w * g.h), gArr (g.w * g.h) onS, .box [.o 4 0 lv.length cp], .arr 28 4 cp (cR lv), gB g.st g.x g.y g.w g.h 6 (g.w * g.h), gArr (g.w * g.h) (List.replicate (g.w * g.h) false)]) ?_ ?_ wk_aw
  ·refine ZZ ?_
   refine aw_regionT [(0, none), (1, none), (2, none), (3, none), (4, none), (5, none), (6, none), (7, none), (8, none), (9, none), (10, none), (11, none), (12, none), (13, none), (14, none), (15, none), (16, none), (17, none), (18, none), (19, none), (20, some []), (21, none)] hMixed (by kernel_rfl) ?_
   refine ZT rfl (rd_ldcp rfl (by kernel_rfl) rfl rfl) ?_
   iterate 3 refine WX2 ?_
   refine ZT rfl (rd_ldcp rfl (by kernel_rfl) rfl rfl) ?_
   iterate 3 refine WX2 ?_
   refine ZT rfl (rd_ldcp rfl (by kernel_rfl) rfl rfl) ?_
   iterate 3 refine WX2 ?_
   refine ZT rfl (rd_ldcp rfl (by kernel_rfl) rfl rfl) ?_
   iterate 3 refine WX2 ?_
   refine ZT rfl (rd_ldcp rfl (by kernel_rfl) rfl rfl) ?_
   refine WP ?_
   refine at_ef rfl rfl (ef_call0 false (fun _ => newgrid_v g.st g.x g.y g.w g.h hg.w hg.h) rfl .fn rfl (by decide) (by kernel_rfl) rfl (fun _ => C0 rfl) (by simp)) ?_
   rintro _ _ ⟨_, _, _, ⟨rfl, rfl⟩, hF, hH⟩
   (refine NST hF hH ?_; clear hF hH; rintro rfl rfl)
   refine ⟨ag_none, ?_⟩
   refine WQ ?_
   all_goals exact wk_of [some 0, some 1, some 2, some 3, some 4, some 5, some 6] (fun _ => [(0, .c (I a)), (1, .c (I b)), (2, .p 0 0 0), (3, .c (.p p3 [.p pg (gRow g vg)])), (4, .p 3 0 0), (7, .p 5 0 0)]) (fun _ => [.box [.p 1 0 0], gB g.st g.x g.y g.w g.h 2 (g.w * g.h), gArr (g.w * g.h) onS, .box [.o 4 0 lv.length cp], .arr 28 4 cp (cR lv), gB g.st g.x g.y g.w g.h 6 (g.w * g.h), gArr (g.w * g.h) (List.replicate (g.w * g.h) false)]) (by decide) (ZNL hE) ZCF ZCH (fun _ => ⟨rfl, rfl⟩)
  rintro F H ⟨rfl, rfl⟩
  refine ZZ ?_
  refine ZR ?_
  refine ZA (rd_ldcp rfl (by kernel_rfl) rfl rfl) ?_
  iterate 4 refine WX1 ?_
  refine ZA (rd_bound rfl rfl) ?_
  refine al_ef rfl (ef_callp [1, 2, 5, 6] (fun _ => [gB g.st g.x g.y g.w g.h 1 (g.w * g.h), gArr (g.w * g.h) onS, gB g.st g.x g.y g.w g.h 3 (g.w * g.h), gArr (g.w * g.h) (List.replicate (g.w * g.h) false)]) false (fun _ => flood_v g pg vg hg onS _ hS (by simp) (a, b) hab s.1 hSe hclo hin) rfl .fn rfl (by decide) (by kernel_rfl) rfl ZCH (by decide) ZCH (by simp)) ?_
  rintro F1 H1 ⟨_, _, _, _, ⟨L, rfl, hL, rfl⟩, hF, hH⟩
  rw [killF_nil] at hF; (refine NSU hF hH ?_; clear hF hH; rintro rfl rfl)
  refine WE ?_
  have hpl : (putG g.x g.y g.w (List.replicate (g.w * g.h) false) L).length = g.w * g.h := by rw [putG_len]; simp
  refine aw_wk (wk_of (K := fun F H => ∃ pv1 v1, F = [(4, .p 3 0 0), (7, gV pv1 v1 { g with on := putG g.x g.y g.w (List.replicate (g.w * g.h) false) L })] ∧ H = ptH g (putG g.x g.y g.w onS L) lv cp) [some 0, some 1, some 2, some 3, some 4] (fun f => [(4, .p 3 0 0), (7, gV (f (.p 5 0 0)) (f (.o 6 0 (g.w * g.h) (g.w * g.h))) { g with on := putG g.x g.y g.w (List.replicate (g.w * g.h) false) L })]) (fun _ => ptH g (putG g.x g.y g.w onS L) lv cp) (by decide) (ZNL hE) (fun _ => .cons rfl (.p rfl) (.cons rfl (frzG (g := { g with on := putG g.x g.y g.w (List.replicate (g.w * g.h) false) L }) rfl rfl hpl rfl rfl) .nil)) ZCH (fun _ => ⟨_, _, rfl, rfl⟩)) ?_
  rintro F H ⟨pv1, v1, rfl, rfl⟩
  have hLb : ∀ p ∈ L, inBox g.x g.y g.w g.h p := fun p hp => hbx p ((hL p).1 hp).mem
  have hgP : GOk { g with on := putG g.x g.y g.w (List.replicate (g.w * g.h) false) L } := ⟨hpl, hg.w, hg.h, hg.x, hg.y⟩
  have hcl : normC g.st (covG { g with on := putG g.x g.y g.w (List.replicate (g.w * g.h) false) L }) = normC g.st (gangL (covG g) (a, b)) := normC_mem fun q => by
   have := put_cov (L := L) (g := { g with on := List.replicate (g.w * g.h) false }) (by simp) hLb (q := q)
   simp only at this
   rw [this, hL, gangL_mem]
   exact ⟨fun h => h.elim (fun h => absurd h cov_none) id, .inr⟩
  have hO2 : ∀ v2 : Value, PtO g (putG g.x g.y g.w onS L) (lv ++ [(v2, (normC g.st (gangL (covG g) (a, b))).1)]) (s.1 ++ gangL (covG g) (a, b), s.2 ++ [gangL (covG g) (a, b)]) := fun v2 => by
   refine ⟨by rw [putG_len, hS], fun q => ?_, ?_, ?_⟩
   ·have := put_cov (L := L) (g := { g with on := onS }) hS hLb (q := q)
    simp only at this
    rw [this, hSe, hL, List.mem_append, gangL_mem]
   ·intro p hp q hq hC
    rcases List.mem_append.1 hp with hp | hp
    ·exact List.mem_append_left _ (hclo p hp q hq hC)
    ·exact List.mem_append_right _ (gangL_clo p hp q hq hC)
   ·rw [List.map_append, List.map_append, hO.v]; rfl
  generalize normC g.st (gangL (covG g) (a, b)) = R at *
  obtain ⟨R1, R2⟩ := R
  refine WR ?_
  refine al_ef rfl (ef_call0 false (fun _ => cells_v { g with on := putG g.x g.y g.w (List.replicate (g.w * g.h) false) L } pv1 v1 hgP hst) rfl .fn rfl (by decide) (by kernel_rfl) rfl (fun _ => C0 rfl) (by simp)) ?_
  rintro _ _ ⟨_, _, _, ⟨v2, rfl, rfl⟩, hF, hH⟩
  rw [hcl] at hF
  (refine NST hF hH ?_; clear hF hH; rintro rfl rfl)
  refine WE ?_
  refine WR ?_
  refine al_ef rfl (Zapp (KA (t := 58) rfl)) ?_
  rintro _ _ ⟨_, cc, hcc, rfl, rfl⟩
  refine WE ?_
  all_goals exact aret_0 [some 0, some 1, some 2, some 3, some 4] (fun _ => ptH g (putG g.x g.y g.w onS L) (lv ++ [(v2, R1)]) cc) (.inr rfl) rfl (by decide) (ZNL (n := 5) rfl) ZCH (fun _ => ⟨_, _, cc, rfl, hO2 v2, rfl⟩)
set_option maxHeartbeats 4000000 in
theorem each_parts (g : Grd) (pg vg p3 : Value) (hg : GOk g) (hst : 0 ≤ g.st ∧ g.st ≤ 10000) : ACalls Tryz.prog 95 [gV pg vg g, .f (.func 142) [.p 0 0 0, .c (.p p3 [.p pg (gRow g vg)]), .p 3 0 0]] (ptH g (List.replicate (g.w * g.h) false) [] 0) fun u H => ∃ (on2 : List Bool) (lv2 : List (Value × Cel)) (cp2 : Nat), u = .t [] ∧ PtO g on2 lv2 (prtS (covG g) (covG g)) ∧ H = ptH g on2 lv2 cp2 := by
 have hn := hg.n
 have hgx := hg.x
 have hgy := hg.y
 have eo : (oR g.on).length = g.on.length := by simp
 have hlc : (covG g).length ≤ 1000000 := by
  have := (cnt_le (g := g) (h := g) g.on.length).1
  have h2 : cntG g g.on.length = (covG g).length := rfl
  omega
 refine acallsx_of false (N := 42) Tryz.func95 rfl rfl (by simp) fun E hE hP => ?_
 refine WA ?_
 refine aw_loopw (fun m F H => ∃ (k : Nat) (onS : List Bool) (lv : List (Value × Cel)) (cp : Nat), m + k = g.on.length ∧ PtO g onS lv (prtS (covG g) (covK g k)) ∧ F = [(0, gV pg vg g), (1, .f (.func 142) [.p 0 0 0, .c (.p p3 [.p pg (gRow g vg)]), .p 3 0 0]), (9, .c (.r vg (oR g.on))), (10, .c (I (oR g.on).length)), (11, .c (I k))] ∧ H = ptH g onS lv cp) ?_ ?_
 ·refine wk_of [some 0, some 1, some 2, some 3, some 4] (fun _ => [(0, gV pg vg g), (1, .f (.func 142) [.p 0 0 0, .c (.p p3 [.p pg (gRow g vg)]), .p 3 0 0]), (9, .c (.r vg (oR g.on))), (10, .c (I (oR g.on).length)), (11, .c (I (0 : Nat)))]) (fun _ => ptH g (List.replicate (g.w * g.h) false) [] 0) (by decide) (ZNL hE) ZCF ZCH (fun _ => ?_)
  exact ⟨g.on.length, 0, _, [], 0, by omega, ⟨by simp, fun q => ⟨fun h => absurd h cov_none, fun h => by simp [prtS, covK] at h⟩, fun p hp => by simp [prtS, covK] at hp, rfl⟩, rfl, rfl⟩
 rintro m F H ⟨k, onS, lv, cp, hk, hO, rfl, rfl⟩
 refine WA ?_
 refine aw_if rfl (fun hlt => ?_) (fun hge => ?_)
 ·have hkn : k < g.on.length := by omega
  obtain ⟨b, hb⟩ : ∃ b, g.on[k]? = some b := ⟨_, List.getElem?_eq_getElem hkn⟩
  have hrow : (oR g.on)[k]? = some [B b] := by rw [List.getElem?_map, hb]; rfl
  obtain ⟨w1, ⟨w2, w3⟩, w4, w5⟩ := each_at hg hkn
  have hnx := covK_next hb
  have hlv : lv.length ≤ 1000000 := by
   have h1 := congrArg List.length hO.v
   rw [List.length_map, List.length_map] at h1
   have h2 := (prtS_ok (L := covG g) (A := covK g k) rfl fun q hq => covK_in hq (by omega)).len
   have h3 := (cnt_le (g := g) (h := g) k).1
   have h4 : cntG g k = (covK g k).length := rfl
   omega
  refine WA ?_
  refine WA ?_
  cases b with
  | true =>
   rw [if_pos rfl] at hnx
   have hsp : spt g k ∈ covG g := covG_mem.2 ⟨k, hb, rfl⟩
   rw [← spt_eq] at hnx hsp
   refine aw_cond_t rfl ?_
   refine ZZ ?_
   refine aw_regionT [(0, none), (1, none), (2, none), (3, none), (4, none), (5, none), (6, none), (7, none), (8, none), (9, none), (10, none), (11, none), (12, none), (13, none), (14, none), (15, none), (16, none), (17, none), (18, none), (19, none), (20, none), (21, none), (22, none), (23, some [])] hMixed (by kernel_rfl) ?_
   refine WP ?_
   refine at_ef rfl rfl (ef_call [0, 1, 2, 3, 4] (fun _ => ptH g onS lv cp) false (fun _ => parts1_v g pg vg p3 hg hst onS lv cp _ hO hlv _ _ hsp) rfl (.clo rfl) rfl (by decide) (by kernel_rfl) rfl ZCH (by decide) ZCH (by simp)) ?_
   rintro F1 H1 ⟨_, _, _, _, ⟨on2, lv2, cp2, rfl, hO2, rfl⟩, hF, hH⟩
   (refine NSU hF hH ?_; clear hF hH; rintro rfl rfl)
   refine ⟨ag_none, ?_⟩
   refine WQ ?_
   rw [← prtS_E, ← hnx] at hO2
   refine WA ?_
   refine wk_of [some 0, some 1, some 2, some 3, some 4] (fun _ => [(0, gV pg vg g), (1, .f (.func 142) [.p 0 0 0, .c (.p p3 [.p pg (gRow g vg)]), .p 3 0 0]), (9, .c (.r vg (oR g.on))), (10, .c (I (oR g.on).length)), (11, .c (I (k + 1 : Nat)))]) (fun _ => ptH g on2 lv2 cp2) (by decide) (ZNL hE) ZCF ZCH (fun _ => ?_)
   exact ⟨m - 1, by omega, k + 1, on2, lv2, cp2, by omega, hO2, rfl, rfl⟩
  | false =>
   rw [if_neg (by simp), List.append_nil] at hnx
   refine aw_cond_f rfl ?_
   refine ZZ ?_
   refine WA ?_
   refine wk_of [some 0, some 1, some 2, some 3, some 4] (fun _ => [(0, gV pg vg g), (1, .f (.func 142) [.p 0 0 0, .c (.p p3 [.p pg (gRow g vg)]), .p 3 0 0]), (9, .c (.r vg (oR g.on))), (10, .c (I (oR g.on).length)), (11, .c (I (k + 1 : Nat)))]) (fun _ => ptH g onS lv cp) (by decide) (ZNL hE) ZCF ZCH (fun _ => ?_)
   exact ⟨m - 1, by omega, k + 1, onS, lv, cp, by omega, by rw [hnx]; exact hO, rfl, rfl⟩
 obtain rfl : k = g.on.length := by omega
 refine ZZ ?_
 exact aret_0 [some 0, some 1, some 2, some 3, some 4] (fun _ => ptH g onS lv cp) (.inr rfl) rfl (by decide) (ZNL (n := 5) rfl) ZCH (fun _ => ⟨onS, lv, cp, rfl, hO, rfl⟩)
noncomputable def partF (c : Cel) : List Cel := (partL (covL c)).map (prtC c.st)
set_option maxHeartbeats 4000000 in
theorem parts_v (va : Value) (c : Cel) (hc : RCel c) : ACalls Tryz.prog 67 [celA va c] [] fun u H => ∃ (v : Value) (lv : List (Value × Cel)), u = .t [.c (.r v (cR lv)), .c (I 0)] ∧ lv.map Prod.snd = partF c ∧ H = [] := by
 have hst : 0 ≤ (grdOf c).st ∧ (grdOf c).st ≤ 10000 := by rw [grdOf_st]; have := hc.st; omega
 have hg := grdOf_ok hc
 have hpf : (partL (covG (grdOf c))).map (prtC (grdOf c).st) = partF c := by rw [covG_is hc, grdOf_st]; rfl
 refine acalls_of (N := 40) Tryz.func67 rfl rfl (by simp) fun E hE => ?_
 refine WA ?_
 refine WR ?_
 refine al_ef rfl (ef_call0 false (fun _ => check_r va c hc) rfl .fn rfl (by decide) (by kernel_rfl) rfl (fun _ => C0 rfl) (by simp)) ?_
 rintro _ _ ⟨_, _, _, ⟨rfl, rfl⟩, hF, hH⟩
 (refine NST hF hH ?_; clear hF hH; rintro rfl rfl)
 refine WE ?_
 refine WA ?_
 refine aw_cond_f rfl ?_
 refine ZZ ?_
 refine WR ?_
 refine al_ef rfl (ef_call0 false (fun _ => gridof_v va c hc) rfl .fn rfl (by decide) (by kernel_rfl) rfl (fun _ => C0 rfl) (by simp)) ?_
 rintro _ _ ⟨_, _, _, ⟨pg, vg, rfl, rfl⟩, hF, hH⟩
 (refine NST hF hH ?_; clear hF hH; rintro rfl rfl)
 refine WE ?_
 generalize grdOf c = g at *
 refine aw_cut (fun F H => F = [(5, .p 0 0 0), (6, .p 1 0 0)] ∧ H = [.box [gV pg vg g], .box [.p 2 0 0], gB g.st g.x g.y g.w g.h 3 (g.w * g.h), gArr (g.w * g.h) (List.replicate (g.w * g.h) false)]) ?_ ?_ wk_aw
 ·refine ZZ ?_
  refine aw_regionM [[(0, none), (1, none), (2, none), (3, none), (4, none), (5, none), (6, none), (7, none), (8, none), (9, none), (10, none), (11, none), (12, none), (13, none), (14, none), (15, none), (16, none), (17, none), (18, none), (19, none), (20, some []), (21, some [0, 1, 2, 3, 4, 5, 6, 7, 8, 9, 10, 11, 12, 13, 14, 15, 16, 17, 18, 19]), (22, some [])], [(0, none), (1, none), (2, none), (3, none), (4, none), (5, none), (6, none), (7, none), (8, none), (9, none), (10, none), (11, none), (12, none), (13, none), (14, none), (15, none), (16, none), (17, none), (18, none), (19, none), (21, some [0, 1, 2, 3, 4, 5, 6, 7, 8, 9, 10, 11, 12, 13, 14, 15, 16, 17, 18, 19]), (20, some []), (22, some [])]] hMixed (by kernel_rfl) ?_
  focus
   refine WM ?_
   refine am_two (by rfl) (by rfl) (by rfl) ?_ ?_
   rotate_left
   refine WM ?_
   refine am_ef (i := 20) (by rfl) (by rfl) rfl rfl (ef_call0 false (fun _ => newgrid_v g.st g.x g.y g.w g.h hg.w hg.h) rfl .fn rfl (by decide) (by kernel_rfl) rfl (fun _ => C0 rfl) (by simp)) ?_
   rintro _ _ ⟨_, _, _, ⟨rfl, rfl⟩, hF, hH⟩
   (refine NST hF hH ?_; clear hF hH; rintro rfl rfl)
   refine ⟨AGX, ?_⟩
   refine WN ?_
   rotate_right
   refine am_ef (i := 20) (by rfl) (by rfl) rfl rfl (ef_call0 false (fun _ => newgrid_v g.st g.x g.y g.w g.h hg.w hg.h) rfl .fn rfl (by decide) (by kernel_rfl) rfl (fun _ => C0 rfl) (by simp)) ?_
   rintro _ _ ⟨_, _, _, ⟨rfl, rfl⟩, hF, hH⟩
   (refine NST hF hH ?_; clear hF hH; rintro rfl rfl)
   refine ⟨AGX, ?_⟩
   refine WN ?_
  all_goals (first | exact wk_of [some 1, some 2, some 3, some 4] (fun _ => [(5, .p 0 0 0), (6, .p 1 0 0)]) (fun _ => [.box [gV pg vg g], .box [.p 2 0 0], gB g.st g.x g.y g.w g.h 3 (g.w * g.h), gArr (g.w * g.h) (List.replicate (g.w * g.h) false)]) (by decide) (ZNL hE) ZCF ZCH (fun _ => ⟨rfl, rfl⟩) | exact wk_of [some 1, some 4, some 2, some 3] (fun _ => [(5, .p 0 0 0), (6, .p 1 0 0)]) (fun _ => [.box [gV pg vg g], .box [.p 2 0 0], gB g.st g.x g.y g.w g.h 3 (g.w * g.h), gArr (g.w * g.h) (List.replicate (g.w * g.h) false)]) (by decide) (ZNL hE) ZCF ZCH (fun _ => ⟨rfl, rfl⟩))
 rintro F H ⟨rfl, rfl⟩
 refine ZZ ?_
 refine WA ?_
 refine aw_wk (wk_of (K := fun F H => ∃ p3, F = [(5, .c (.p p3 [.p pg (gRow g vg)])), (6, .p 0 0 0), (7, .p 3 0 0)] ∧ H = ptH g (List.replicate (g.w * g.h) false) [] 0) [some 1, some 2, some 3, some 4, none] (fun f => [(5, .c (.p (f (.p 0 0 0)) [.p pg (gRow g vg)])), (6, .p 0 0 0), (7, .p 3 0 0)]) (fun _ => ptH g (List.replicate (g.w * g.h) false) [] 0) (by decide) (ZNL hE) (fun _ => .cons rfl (frzpL rfl rfl (.cons (.c rfl) .nil)) (.cons rfl (.p rfl) (.cons rfl (.p rfl) .nil))) ZCH (fun _ => ⟨_, rfl, rfl⟩)) ?_
 rintro F H ⟨p3, rfl, rfl⟩
 refine ZR ?_
 refine ZA (rd_ldcp rfl (by kernel_rfl) rfl rfl) ?_
 refine WO ?_
 refine al_ef rfl (ef_call [0, 1, 2, 3, 4] (fun _ => ptH g (List.replicate (g.w * g.h) false) [] 0) false (fun _ => each_parts g pg vg p3 hg hst) rfl .fn rfl (by decide) (by kernel_rfl) rfl ZCH (by decide) ZCH (by simp)) ?_
 rintro F1 H1 ⟨_, _, _, _, ⟨on2, lv2, cp2, rfl, hO2, rfl⟩, hF, hH⟩
 (refine NSU hF hH ?_; clear hF hH; rintro rfl rfl)
 refine WE ?_
 refine WA ?_
 exact aret_f2 [] _ rfl rfl rfl rfl rfl rfl (by rw [List.drop_zero, List.take_of_length_le (by simp)]) (by simp) rfl (by decide) (ZNK rfl) (fun _ => .nil) (fun q => ⟨q, lv2, rfl, by rw [hO2.v]; exact hpf, rfl⟩)
end Go.Proofs.YtniolldgidgffaaGreatDoor

/- Lines in the document's form and of a grid are alike: plain. -/
namespace Go.Proofs.YtniolldgidgffaaGreatDoor
theorem rE_eq {f : Int → Bool} {x : Int} (hx : ∀ j, x ≤ j → f j = false) : ∀ {n m : Nat} {c : Int}, x ≤ c + n + 1 → x ≤ c + m + 1 → rE f n c = rE f m c
 | 0, 0, _, _, _ => rfl
 | 0, m + 1, c, h, _ => by rw [rE, rE, if_neg (by rw [hx (c + 1) (by omega)]; simp)]
 | n + 1, 0, c, _, h => by rw [rE, rE, if_neg (by rw [hx (c + 1) (by omega)]; simp)]
 | n + 1, m + 1, c, h1, h2 => by
  rw [rE, rE]
  split
  ·exact rE_eq hx (by omega) (by omega)
  ·rfl
theorem lnC_mem {f : Int → Bool} {r c0 : Int} {W n : Nat} {t : Lin} : t ∈ lnC f r c0 W n ↔ ∃ k : Nat, k < n ∧ f (c0 + (k : Nat)) = true ∧ f (c0 + (k : Nat) - 1) = false ∧ t = (r, c0 + (k : Nat), rE f (W - 1 - k) (c0 + (k : Nat))) := by
 unfold lnC
 simp only [List.mem_map, List.mem_filter, List.mem_range, Bool.and_eq_true, Bool.not_eq_true']
 constructor
 ·rintro ⟨k, ⟨h1, h2, h3⟩, rfl⟩
  exact ⟨k, h1, h2, h3, rfl⟩
 ·rintro ⟨k, h1, h2, h3, rfl⟩
  exact ⟨k, ⟨h1, h2, h3⟩, rfl⟩
theorem lnS_mem {f : Int → Int → Bool} {y x : Int} {W : Nat} {ev ph : Int} {n : Nat} {t : Lin} : t ∈ lnS f y x W ev ph n ↔ ∃ i : Nat, i < n ∧ ((y + (i : Nat)) - ph).tmod ev = 0 ∧ t ∈ lnC (f (y + (i : Nat))) (y + (i : Nat)) x W W := by
 unfold lnS
 simp only [List.mem_flatMap, List.mem_range]
 constructor
 ·rintro ⟨i, h1, h2⟩
  split at h2
  ·cases h2
  ·rename_i h3
   exact ⟨i, h1, Classical.not_not.1 h3, h2⟩
 ·rintro ⟨i, h1, h2, h3⟩
  exact ⟨i, h1, by rw [if_neg (by simpa using h2)]; exact h3⟩
def trQ (q : Int) (p : Spot) : Spot := if q = 1 then (p.2, p.1) else p
theorem trQ_tr {q : Int} {p : Spot} : trQ q (trQ q p) = p := by unfold trQ; split <;> rfl
theorem atQ_iff {g : Grd} (hl : g.on.length = g.w * g.h) {q r c : Int} : atQ g q r c = true ↔ trQ q (c, r) ∈ covG g := by
 unfold atQ trQ
 split
 ·exact atG_iff hl
 ·exact atG_iff hl
abbrev hasL (L : List Spot) (r c : Int) : Bool := decide ((c, r) ∈ L)
def begL (L : List Spot) (ev ph : Int) (p : Spot) : Bool := decide ((p.2 - ph).tmod ev = 0) && !hasL L p.2 (p.1 - 1)
def linL (A L : List Spot) (ev ph : Int) : List Lin := (L.filter (begL A ev ph)).map fun p => (p.2, p.1, rE (hasL A p.2) 1000 p.1)
theorem linL_mem {A L : List Spot} {ev ph : Int} {t : Lin} : t ∈ linL A L ev ph ↔ ∃ p ∈ L, begL A ev ph p = true ∧ t = (p.2, p.1, rE (hasL A p.2) 1000 p.1) := by
 unfold linL
 simp only [List.mem_map, List.mem_filter]
 constructor
 ·rintro ⟨p, ⟨h1, h2⟩, rfl⟩; exact ⟨p, h1, h2, rfl⟩
 ·rintro ⟨p, h1, h2, rfl⟩; exact ⟨p, ⟨h1, h2⟩, rfl⟩
theorem linG_mem {g : Grd} (hl : g.on.length = g.w * g.h) {q : Int} (hw : wQ g q ≤ 999) {L : List Spot} {ev ph : Int} (hL : ∀ p, p ∈ L ↔ trQ q p ∈ covG g) {t : Lin} : t ∈ linG g q ev ph ↔ t ∈ linL L L ev ph := by
 have hat : ∀ r c, atQ g q r c = hasL L r c := fun r c => by
  rw [Bool.eq_iff_iff, atQ_iff hl, ← hL, decide_eq_true_iff]
 have hin : ∀ p, p ∈ L → xQ g q ≤ p.1 ∧ p.1 < xQ g q + (wQ g q : Nat) ∧ yQ g q ≤ p.2 ∧ p.2 < yQ g q + (hQ g q : Nat) := fun p hp => by
  have h1 : atQ g q p.2 p.1 = true := by rw [hat]; simpa using hp
  have h2 := atQ_in h1
  refine ⟨h2.1, h2.2, ?_⟩
  unfold atQ atG at h1
  unfold yQ hQ
  split at h1
  ·rename_i e
   simp only [Bool.and_eq_true, decide_eq_true_iff] at h1
   rw [if_pos e, if_pos e]; omega
  ·rename_i e
   simp only [Bool.and_eq_true, decide_eq_true_iff] at h1
   rw [if_neg e, if_neg e]; omega
 unfold linG
 rw [lnS_mem, linL_mem]
 constructor
 ·rintro ⟨i, h1, h2, h3⟩
  obtain ⟨k, k1, k2, k3, rfl⟩ := lnC_mem.1 h3
  rw [hat] at k2 k3
  have hm : (xQ g q + (k : Nat), yQ g q + (i : Nat)) ∈ L := by simpa using k2
  refine ⟨_, hm, ?_, ?_⟩
  ·unfold begL
   simp only [h2, decide_true, Bool.true_and, k3, Bool.not_false]
  ·simp only
   have e : atQ g q (yQ g q + (i : Nat)) = hasL L (yQ g q + (i : Nat)) := funext fun c => hat _ _
   rw [e]
   rw [rE_eq (f := hasL L (yQ g q + (i : Nat))) (x := xQ g q + (wQ g q : Nat)) (n := wQ g q - 1 - k) (m := 1000) (c := xQ g q + (k : Nat))]
   ·intro j hj
    rw [← hat]
    exact atQ_out (.inr hj)
   ·omega
   ·omega
 ·rintro ⟨p, h1, h2, rfl⟩
  unfold begL at h2
  simp only [Bool.and_eq_true, decide_eq_true_iff, Bool.not_eq_true'] at h2
  obtain ⟨h2, h3⟩ := h2
  obtain ⟨b1, b2, b3, b4⟩ := hin p h1
  obtain ⟨i, hi⟩ : ∃ i : Nat, p.2 = yQ g q + i := ⟨(p.2 - yQ g q).toNat, by omega⟩
  obtain ⟨k, hk⟩ : ∃ k : Nat, p.1 = xQ g q + k := ⟨(p.1 - xQ g q).toNat, by omega⟩
  obtain ⟨a, b⟩ := p
  simp only at hi hk h1 h2 h3 b1 b2 b3 b4
  subst hi; subst hk
  refine ⟨i, by omega, h2, lnC_mem.2 ⟨k, by omega, ?_, ?_, ?_⟩⟩
  ·rw [hat]; simpa using h1
  ·rw [hat]; exact h3
  ·simp only
   have e : atQ g q (yQ g q + (i : Nat)) = hasL L (yQ g q + (i : Nat)) := funext fun c => hat _ _
   rw [e]
   rw [rE_eq (f := hasL L (yQ g q + (i : Nat))) (x := xQ g q + (wQ g q : Nat)) (n := wQ g q - 1 - k) (m := 1000) (c := xQ g q + (k : Nat))]
   ·intro j hj
    rw [← hat]
    exact atQ_out (.inr hj)
   ·omega
   ·omega
end Go.Proofs.YtniolldgidgffaaGreatDoor

/- cmp.Compare of numbers, by value. -/
namespace Go.Proofs.YtniolldgidgffaaGreatDoor
open Go Go.RowKit
set_option maxRecDepth 100000
def cmpI (m n : Int) : Int := if m < n then -1 else if n < m then 1 else 0
theorem nanI_v (n : Int) : ACalls Tryz.prog 220 [.c (I n)] [] fun u H => u = .c (B false) ∧ H = [] := by
 have hn : ¬ n ≠ n := fun h => h rfl
 refine acalls_of (N := 6) Tryz.func220 rfl rfl (by simp) fun E hE => ?_
 repeat' (first
  | (with_reducible refine aw_seq ?_) | (with_reducible refine aseq_n ?_) | (with_reducible refine aseq_r ?_) | (with_reducible refine ablk_n ?_) | (with_reducible refine ablk_r ?_) | (with_reducible refine ablk_e ?_) | (with_reducible refine ablk_o rfl ?_) | (with_reducible refine aseq_e ?_) | (with_reducible refine aw_skip ?_) | (with_reducible refine aw_block ?_) | (with_reducible refine aw_ret ?_) | (with_reducible refine aw_exit ?_)
  | refine aw_cond_t rfl ?_ | refine aw_cond_f rfl ?_ | refine aw_if_t rfl (by assumption) ?_ | refine aw_if_f rfl (by assumption) ?_ | refine aw_if rfl (fun _ => ?_) (fun _ => ?_) | refine aw_cond rfl (fun _ => ?_) (fun _ => ?_)
  | (refine aw_region ?_; refine WE ?_))
 exact aret_1 [] _ rfl rfl rfl (by decide) (ZNK rfl) (fun _ => .nil) ⟨by simp, rfl⟩
theorem cmpI_v (m n : Int) : ACalls Tryz.prog 173 [.c (I m), .c (I n)] [] fun u H => u = .c (I (cmpI m n)) ∧ H = [] := by
 refine acalls_of (N := 20) Tryz.func173 rfl rfl (by simp) fun E hE => ?_
 repeat' (first
  | (with_reducible refine aw_seq ?_) | (with_reducible refine aseq_n ?_) | (with_reducible refine aseq_r ?_) | (with_reducible refine ablk_n ?_) | (with_reducible refine ablk_r ?_) | (with_reducible refine ablk_e ?_) | (with_reducible refine ablk_o rfl ?_) | (with_reducible refine aseq_e ?_) | (with_reducible refine aw_skip ?_) | (with_reducible refine aw_block ?_) | (with_reducible refine aw_ret ?_) | (with_reducible refine aw_exit ?_)
  | refine aw_cond_t rfl ?_ | refine aw_cond_f rfl ?_ | refine aw_if_t rfl (by assumption) ?_ | refine aw_if_f rfl (by assumption) ?_ | refine aw_if rfl (fun _ => ?_) (fun _ => ?_) | refine aw_cond rfl (fun _ => ?_) (fun _ => ?_)
  | (refine aw_region (id := 1) ?_
     refine WO ?_
     refine al_ef rfl (ef_call0 false (fun _ => nanI_v _) rfl .fn rfl (by decide) (by kernel_rfl) rfl (fun _g => .cons (.c rfl) .nil) (by simp)) ?_
     rintro _ _ ⟨_, _, _, ⟨rfl, rfl⟩, hF, hH⟩
     (refine NST hF hH ?_; clear hF hH; rintro rfl rfl)
     refine WE ?_)
  | (refine aw_region (id := 2) ?_
     refine WO ?_
     refine al_ef rfl (ef_call0 false (fun _ => nanI_v _) rfl .fn rfl (by decide) (by kernel_rfl) rfl (fun _g => .cons (.c rfl) .nil) (by simp)) ?_
     rintro _ _ ⟨_, _, _, ⟨rfl, rfl⟩, hF, hH⟩
     (refine NST hF hH ?_; clear hF hH; rintro rfl rfl)
     refine WE ?_)
  | (refine aw_region ?_; refine WE ?_))
 all_goals (refine aret_1 [] _ rfl rfl rfl (by decide) (ZNK rfl) (fun _ => .nil) ⟨?_, rfl⟩)
 all_goals (unfold cmpI; first | rw [if_pos (by omega)] | rw [if_neg (by omega), if_pos (by omega)] | rw [if_neg (by omega), if_neg (by omega)])
end Go.Proofs.YtniolldgidgffaaGreatDoor

/- slices.SortFunc and slices.Sort over values, from the library's contracts. Conditions: none. -/
namespace Go.Proofs.YtniolldgidgffaaGreatDoor
open Go Go.RowKit Go.Shelf Go.Sort

section
variable {w : World} {S : Nat → Prop} {ρ : List (Option Nat)} {e : TypeId} {k cap B n : Nat} {rows rows' : List (List CV)} {cs : Array Value} {os : Array Obj} {f : Array Value → Array Value}
end

end Go.Proofs.YtniolldgidgffaaGreatDoor

/- The order of the reference's lines, by value: turned, has, slices.Compare of numbers, slices.SortFunc of lines. -/
-- NEWM
namespace Go.Proofs.YtniolldgidgffaaGreatDoor
open Go Go.RowKit Go.Shelf
set_option maxRecDepth 100000
theorem cmpN_lt {m n : Int} : cmpI m n < 0 ↔ m < n := by unfold cmpI; split <;> (try split) <;> omega
end Go.Proofs.YtniolldgidgffaaGreatDoor

/- The reference's lines in rows, by value: as those of the grid. -/
-- NEWM
namespace Go.Proofs.YtniolldgidgffaaGreatDoor
open Go Go.RowKit
set_option maxRecDepth 100000
abbrev trL (q : Int) (l : List Spot) : List Spot := l.map (trQ q)
theorem trL_in {q : Int} {l : List Spot} {p : Spot} : p ∈ trL q l ↔ trQ q p ∈ l := by
 rw [List.mem_map]
 constructor
 ·rintro ⟨a, h, rfl⟩; rw [trQ_tr]; exact h
 ·intro h; exact ⟨_, h, trQ_tr⟩
end Go.Proofs.YtniolldgidgffaaGreatDoor

/- Lists turned round; rows of lists: plain. -/
namespace Go.Proofs.YtniolldgidgffaaGreatDoor
open Go Go.RowKit
def SwK {α : Type} (l : List α) (k : Nat) (l' : List α) : Prop := l'.length = l.length ∧ ∀ m, m < l.length → l'[m]? = if m < k ∨ l.length - 1 - m < k then l[l.length - 1 - m]? else l[m]?
theorem SwK.zero {α : Type} (l : List α) : SwK l 0 l := ⟨rfl, fun m hm => by rw [if_neg (by omega)]⟩
theorem SwK.next {α : Type} {l l' : List α} {k j : Nat} {x y : α} (h : SwK l k l') (hj : k + j + 1 = l.length) (hkj : k < j) (hx : l'[k]? = some x) (hy : l'[j]? = some y) : SwK l (k + 1) ((l'.set k y).set j x) := by
 obtain ⟨h1, h2⟩ := h
 have ek := h2 k (by omega)
 have ej := h2 j (by omega)
 rw [if_neg (by omega), hx] at ek
 rw [if_neg (by omega), hy] at ej
 refine ⟨by simp [h1], fun m hm => ?_⟩
 rw [List.getElem?_set, List.getElem?_set]
 by_cases hmj : j = m
 ·subst hmj
  rw [if_pos rfl, if_pos (by simp; omega), if_pos (by omega), show l.length - 1 - j = k from by omega, ← ek]
 ·rw [if_neg hmj]
  by_cases hmk : k = m
  ·subst hmk
   rw [if_pos rfl, if_pos (by omega), if_pos (by omega), show l.length - 1 - k = j from by omega, ← ej]
  ·rw [if_neg hmk, h2 m hm]
   by_cases hc : m < k ∨ l.length - 1 - m < k
   ·rw [if_pos hc, if_pos (by omega)]
   ·rw [if_neg hc, if_neg (by omega)]
theorem SwK.fin {α : Type} {l l' : List α} {k : Nat} (h : SwK l k l') (hkj : l.length ≤ 2 * k + 1) : l' = l.reverse := by
 obtain ⟨h1, h2⟩ := h
 refine List.ext_getElem? fun m => ?_
 rcases Nat.lt_or_ge m l.length with hm | hm
 ·rw [List.getElem?_reverse hm, h2 m hm]
  by_cases hc : m < k ∨ l.length - 1 - m < k
  ·rw [if_pos hc]
  ·rw [if_neg hc, show l.length - 1 - m = m from by omega]
 ·rw [List.getElem?_eq_none (by omega), List.getElem?_eq_none (by simp; omega)]
end Go.Proofs.YtniolldgidgffaaGreatDoor
