/- The law PathsCover, walked. -/
import Derived.Test.YtniolldgidgffaaGreatDoorQbs
import Derived.Test.YtniolldgidgffaaGreatDoorQbn
import Derived.Test.YtniolldgidgffaaGreatDoorQbx
set_option linter.unusedSimpArgs false
set_option linter.unusedVariables false
/- The reference's DensityOf, by value. -/
-- NEWM
namespace Go.Proofs.YtniolldgidgffaaGreatDoor
open Go Go.RowKit
set_option maxRecDepth 100000
def denQ (c : Cel) (l : List Wy) : List CV × Int := if denA c = 0 then ([I 0, I 0], 8) else (lowR (denS c l : Nat) (denA c : Nat), 0)
set_option maxHeartbeats 2000000 in
theorem densof_v (va v : Value) (c : Cel) (h : NCel c) (l : List Wy) (hl : l.length ≤ 1000000) (hpb : ∀ w ∈ l, w.pts.length ≤ 1000 ∧ ∀ q ∈ w.pts, (-100000 ≤ q.1 ∧ q.1 ≤ 100000) ∧ (-100000 ≤ q.2 ∧ q.2 ≤ 100000)) : ACalls Tryz.prog 33 [celA va c, .c (.r v (wyR l))] [] fun u H => u = .t [.a ((denQ c l).1.map .c), .c (I (denQ c l).2)] ∧ H = [] := by
 have hr := h.r
 have hpr : ∀ w (d : Cel), RCel d → ACalls Tryz.prog 105 [celA w d] [] fun u H => ∃ v, u = .c (.r v (sR (covL d))) ∧ H = [] := fun w d hd => by
  have h1 := hd.st
  have h2 := hd.far
  have h3 := hd.h
  have h4 := hd.w
  exact places_v w d (by omega) (by omega) (by omega) (by omega) (fun r hr => by rw [(hd.row r hr).1]; omega)
 have hpl := hpr va c hr
 have hsub : ∀ p ∈ covT l c, p ∈ covL c := fun _ hp => (List.mem_filter.1 hp).1
 have hno := normC_ok h hsub
 have hco := covof_v va v c hr l hl hpb
 rw [hno.1] at hco
 have hp2 := fun w => hpr w _ hno.2
 have eA := denA_eq hr
 have eS := denS_eq hr l
 have eT := covT_len h l
 have hle : (covT l c).length ≤ (covL c).length := List.length_filter_le _ _
 have hbig : (covL c).length ≤ 1000000 := by
  rw [← eA]
  have h1 := (cnt_le (g := grdOf c) (h := grdOf c) (grdOf c).on.length).1
  exact Nat.le_trans h1 (grdOf_ok hr).n
 simp only at hco hp2
 generalize hD : celN c.st (covT l c) = D at *
 have e1 : (sR (covL c)).length = denA c := by rw [eA]; simp
 have e2 : (sR (covL D)).length = denS c l := by rw [eS, ← eT]; simp
 have hdv0 : denQ c l = if denA c = 0 then ([I 0, I 0], 8) else (lowR (denS c l : Nat) (denA c : Nat), 0) := rfl
 have hSA : denS c l ≤ denA c ∧ denA c ≤ 1000000 := by omega
 refine acalls_of (N := 20) Tryz.func33 rfl rfl (by simp) fun E hE => ?_
 refine WA ?_
 refine WR ?_
 refine al_ef rfl (ef_call0 false (fun _ => hpl) rfl .fn rfl (by decide) (by kernel_rfl) rfl (fun _ => C0 rfl) (by simp)) ?_
 rintro _ _ ⟨_, _, _, ⟨v1, rfl, rfl⟩, hF, hH⟩
 (refine NST hF hH ?_; clear hF hH; rintro rfl rfl)
 refine WE ?_
 refine WA ?_
 refine aw_if rfl (fun ha => ?_) (fun ha => ?_)
 ·have hdv : denQ c l = ([I 0, I 0], 8) := by rw [hdv0, if_pos (by omega)]
  refine WA ?_
  exact aret_of (us := [.a [.c (I 0), .c (I 0)], .c (I (8))]) [] (fun g' => .t [.a [.c (I 0), .c (I 0)], .c (I (8))]) (fun _ => []) (.cella (n := 2) rfl (by kernel_rfl) (Cells.box rfl) (by simp) (by (try simp only [nm, putL, Nat.reduceAdd, cellsOf, cvOf]) <;> rfl) (.tmp rfl .nil)) (by decide) (fun i hi => absurd hi (Nat.not_lt_zero i)) (fun g' => .tL (.cons (.aL (.cons (.c rfl) (.cons (.c rfl) .nil))) (.cons (.c rfl) .nil))) (fun _ => .nil) (fun g' => ⟨by rw [hdv]; rfl, rfl⟩)
 ·have hlw := low2_a ((sR (covL D)).length : Nat) ((sR (covL c)).length : Nat) (by omega) (by omega) (by omega) (by omega)
  have hdv : denQ c l = (lowR ((sR (covL D)).length : Nat) ((sR (covL c)).length : Nat), 0) := by rw [hdv0, if_neg (by omega), e1, e2]
  refine ZZ ?_
  refine WR ?_
  refine al_ef rfl (ef_call0 false (fun _ => hco) rfl .fn rfl (by decide) (by kernel_rfl) rfl (fun _ => C0 rfl) (by simp)) ?_
  rintro _ _ ⟨_, _, _, ⟨v2, rfl, rfl⟩, hF, hH⟩
  (refine NST hF hH ?_; clear hF hH; rintro rfl rfl)
  refine al_ef rfl (ef_call0 false (fun _ => hp2 v2) rfl .fn rfl (by decide) (by kernel_rfl) rfl (fun _ => C0 rfl) (by simp)) ?_
  rintro _ _ ⟨_, _, _, ⟨v3, rfl, rfl⟩, hF, hH⟩
  (refine NST hF hH ?_; clear hF hH; rintro rfl rfl)
  refine WO ?_
  refine al_ef rfl (ef_call0 false (fun _ => hlw) rfl .fn rfl (by decide) (by kernel_rfl) rfl (fun _ => C0 rfl) (by simp)) ?_
  rintro _ _ ⟨_, _, _, ⟨rfl, rfl⟩, hF, hH⟩
  (refine NST hF hH ?_; clear hF hH; rintro rfl rfl)
  refine WE ?_
  exact aret_of (us := [.a ((lowR ((sR (covL D)).length : Nat) ((sR (covL c)).length : Nat)).map .c), .c (I 0)]) [] (fun g' => .t [.a ((lowR ((sR (covL D)).length : Nat) ((sR (covL c)).length : Nat)).map .c), .c (I 0)]) (fun _ => []) (.cella (n := 2) rfl (by kernel_rfl) (Cells.box rfl) (by simp) (by (try simp only [nm, putL, Nat.reduceAdd, cellsOf, cvOf]) <;> rfl) (.tmp rfl .nil)) (by decide) (fun i hi => absurd hi (Nat.not_lt_zero i)) (fun g' => .tL (.cons (.aL (.cons (.c rfl) (.cons (.c rfl) .nil))) (.cons (.c rfl) .nil))) (fun _ => .nil) (fun g' => ⟨by rw [hdv], rfl⟩)
end Go.Proofs.YtniolldgidgffaaGreatDoor

/- The law PathsCover, walked. -/
-- NEWM
namespace Go.Proofs.YtniolldgidgffaaGreatDoor
open Go Go.RowKit
set_option maxRecDepth 100000
theorem pa_wy (pl : List Pth) : ∃ wl : List Wy, paR pl = wyR wl ∧ wl.length = pl.length ∧ ∀ w ∈ wl, ∃ p ∈ pl, w.pts = p.2.1 := by
 refine ⟨pl.map fun p => ⟨p.1, p.2.1, p.2.2⟩, ?_, by simp, fun w hw => ?_⟩
 ·rw [wyR, List.map_map]; rfl
 ·obtain ⟨p, hp, rfl⟩ := List.mem_map.1 hw
  exact ⟨p, hp, rfl⟩
theorem den_fr (c : Cel) (l : List Wy) : ∃ n m : Int, (denF c l).1 = [I n, I m] := by
 unfold denF
 split
 ·exact ⟨_, _, rfl⟩
 split
 ·exact ⟨_, _, rfl⟩
 ·exact ⟨_, _, rfl⟩
theorem pass_fst (c : Cel) (l : List Wy) : fstN [celF c, wyF (l.map (·.pts))] = passF c l := by
 unfold passF
 by_cases h : celF c = 0 <;> by_cases h2 : wyF (l.map (·.pts)) = 0 <;> simp [fstN, h, h2]
theorem cover_ok {c : Cel} (hn : RCel c → NCel c) (l : List Wy) : ∃ (X Y : Cel) (n m d : Int), covF c l = (X, passF c l) ∧ lefF c l = (Y, passF c l) ∧ denF c l = ([I n, I m], d) ∧ X.rows.length ≤ 1000 ∧ Y.rows.length ≤ 1000 ∧ (passF c l ≠ 0 → X = ⟨0, 0, 0, []⟩ ∧ Y = ⟨0, 0, 0, []⟩ ∧ n = 0 ∧ m = 0 ∧ d = passF c l) ∧ (passF c l = 0 → NCel c ∧ (∀ w ∈ l, w.pts.length ≤ 1000 ∧ ∀ q ∈ w.pts, (-100000 ≤ q.1 ∧ q.1 ≤ 100000) ∧ (-100000 ≤ q.2 ∧ q.2 ≤ 100000)) ∧ (normC c.st (covT l c)).1 = X ∧ (normC c.st (lefT l c)).1 = Y ∧ denQ c l = ([I n, I m], d)) := by
 by_cases h : passF c l = 0
 ·obtain ⟨hr, hw⟩ := passF_r h
  have hc := hn hr
  have s1 : ∀ p ∈ covT l c, p ∈ covL c := fun _ hp => (List.mem_filter.1 hp).1
  have s2 : ∀ p ∈ lefT l c, p ∈ covL c := fun _ hp => (List.mem_filter.1 hp).1
  have n1 := normC_ok hc s1
  have n2 := normC_ok hc s2
  obtain ⟨n, m, hnm⟩ := den_fr c l
  have hd : denF c l = denQ c l := by unfold denF denQ; rw [if_neg (by simp [h])]
  refine ⟨celN c.st (covT l c), celN c.st (lefT l c), n, m, (denF c l).2, ?_, ?_, ?_, ?_, ?_, fun e => absurd h e, fun _ => ⟨hc, fun w hw' => ?_, by rw [n1.1], by rw [n2.1], ?_⟩⟩
  ·unfold covF; rw [if_neg (by simp [h]), n1.1, h]
  ·unfold lefF; rw [if_neg (by simp [h]), n2.1, h]
  ·rw [← hnm]
  ·have := n1.2.h; omega
  ·have := n2.2.h; omega
  ·unfold wyF at hw
   split at hw
   ·cases hw
   have := wyG_0 hw w.pts (List.mem_map_of_mem hw')
   exact ⟨by omega, this.2⟩
  ·rw [← hd, ← hnm]
 ·refine ⟨⟨0, 0, 0, []⟩, ⟨0, 0, 0, []⟩, 0, 0, passF c l, ?_, ?_, ?_, by simp, by simp, fun _ => ⟨rfl, rfl, rfl, rfl, rfl⟩, fun e => absurd e h⟩
  ·unfold covF; rw [if_pos h]
  ·unfold lefF; rw [if_pos h]
  ·unfold denF; rw [if_pos h]
set_option maxHeartbeats 8000000 in
theorem law_cover (v : Value) (zs : List Int) (hs : StrOk zs) : ACalls Tryz.prog 4 [.c (.r v (zs.map fun z => [I z]))] [] fun u H => u = .c (B true) := by
 refine acalls_of (N := 96) Tryz.func4 rfl rfl (by simp) fun E hE => ?_
 refine WA ?_
 refine WA ?_
 refine WR ?_
 refine al_ef rfl (ef_callm false (fun _ => acells_v 10 (by decide) _ _ _ hs (by omega) (by omega)) rfl .fn rfl (by decide) (by kernel_rfl) rfl rfl (fun _g => .cons (.p rfl) (.cons (.c rfl) .nil)) (fun _g => .cons (.c rfl) (.cons (.c rfl) .nil)) (by simp)) ?_
 rintro F1 H1 ⟨_, _, _, _, ⟨vc, c, ac, rfl, hq, hac1, hac2, hcs⟩, hF, hH⟩
 injection hq with hq1 hq2; subst hq1; subst hq2
 (refine NST hF hH ?_; clear hF hH; rintro rfl rfl)
 refine WE ?_
 have hcl : c.rows.length ≤ 1000000000 := by have := hcs.h; omega
 have hcr : ∀ r ∈ c.rows, r.length ≤ 1000000000 := fun r hr => by have := hcs.r r hr; omega
 refine WR ?_
 refine al_ef rfl (ef_callm false (fun _ => ways_v vc c hcl hcr _ _ _ hs (by omega) (by omega)) rfl .fn rfl (by decide) (by kernel_rfl) rfl rfl (fun _g => .cons (.p rfl) (.cons (.aL (C0 rfl)) .nil)) (fun _g => .cons (.c rfl) (.cons (.c rfl) .nil)) (by simp)) ?_
 rintro F1 H1 ⟨_, _, _, _, ⟨vw, pl, aw, rfl, hq, haw1, haw2, hpl, hpp⟩, hF, hH⟩
 injection hq with hq1 hq2; subst hq1; subst hq2
 (refine NST hF hH ?_; clear hF hH; rintro rfl rfl)
 refine WE ?_
 obtain ⟨wl, hwl, hwn, hwp⟩ := pa_wy pl
 rw [hwl]
 have hln : wl.length ≤ 1000000 := by omega
 have hlp : ∀ w ∈ wl, w.pts.length ≤ 1000000 := fun w hw => by
  obtain ⟨p, hp, e⟩ := hwp w hw
  have := hpp p hp
  rw [e]; omega
 refine aw_wk (wk_of (K := fun F H => F = [(4, .p 0 0 0), (5, .c (.r vw (wyR wl)))] ∧ H = [celB vc c]) [some 1] (fun _ => [(4, .p 0 0 0), (5, .c (.r vw (wyR wl)))]) (fun _ => [celB vc c]) (by decide) (ZNL hE) ZCF ZCH (fun _ => ⟨rfl, rfl⟩)) ?_
 rintro F H ⟨rfl, rfl⟩
 have hcv := covered_v vc vw c wl hcl hcr hln hlp
 have hlf := left_v vc vw c wl hcl hcr hln hlp
 have hdn := density_v vc vw c wl hcl hcr hln hlp
 have hwf := waysf_v vw wl hln hlp
 have hck := rcheck_v vc c hcl hcr
 have hone := pass_fst c wl
 obtain ⟨X, Y, n, m, d, h1, h2, h3, h4, h5, h6, h7⟩ := cover_ok hcs.near wl
 rw [h1] at hcv
 rw [h2] at hlf
 rw [h3] at hdn
 clear h1 h2 h3 hwl hwn hwp hpp hpl haw1 haw2 hs hac1 hac2
 (try simp only at hcv)
 (try simp only at hlf)
 (try simp only [List.map_cons, List.map_nil] at hdn)
 generalize hpf : passF c wl = pf at *
 generalize wyF (wl.map (·.pts)) = wf at *
 refine WR ?_
 refine al_ef rfl (ef_call0 false (fun _ => hcv) rfl .fn rfl (by decide) (by kernel_rfl) rfl (fun _ => C0 rfl) (by simp)) ?_
 rintro _ _ ⟨_, _, _, ⟨v1, rfl, rfl⟩, hF, hH⟩
 (refine NST hF hH ?_; clear hF hH; rintro rfl rfl)
 refine WE ?_
 refine WR ?_
 refine al_ef rfl (ef_call0 false (fun _ => hlf) rfl .fn rfl (by decide) (by kernel_rfl) rfl (fun _ => C0 rfl) (by simp)) ?_
 rintro _ _ ⟨_, _, _, ⟨v2, rfl, rfl⟩, hF, hH⟩
 (refine NST hF hH ?_; clear hF hH; rintro rfl rfl)
 refine WE ?_
 refine WR ?_
 refine al_ef rfl (ef_call0 false (fun _ => hdn) rfl .fn rfl (by decide) (by kernel_rfl) rfl (fun _ => C0 rfl) (by simp)) ?_
 rintro _ _ ⟨_, _, _, ⟨rfl, rfl⟩, hF, hH⟩
 (refine NST hF hH ?_; clear hF hH; rintro rfl rfl)
 refine WE ?_
 refine WR ?_
 refine al_ef rfl (ef_call0 false (fun _ => hck) rfl .fn rfl (by decide) (by kernel_rfl) rfl (fun _ => C0 rfl) (by simp)) ?_
 rintro _ _ ⟨_, _, _, ⟨rfl, rfl⟩, hF, hH⟩
 (refine NST hF hH ?_; clear hF hH; rintro rfl rfl)
 refine WO ?_
 refine al_ef rfl (ef_call0 false (fun _ => hwf) rfl .fn rfl (by decide) (by kernel_rfl) rfl (fun _ => C0 rfl) (by simp)) ?_
 rintro _ _ ⟨_, _, _, ⟨rfl, rfl⟩, hF, hH⟩
 (refine NST hF hH ?_; clear hF hH; rintro rfl rfl)
 refine WO ?_
 refine al_ef rfl (ef_call0 true (fun g => lerrs_v [celF c, wf] (g (.o _ 0 2 2)) (by simp)) rfl .fn rfl (by decide) (by kernel_rfl) rfl (fun _ => .cons (.frz rfl rfl rfl rfl rfl) .nil) (fun _ _ _ _ ⟨hu, hH⟩ => by rw [hu, hH]; exact ⟨.c (.inl trivial), by simp⟩)) ?_
 rintro _ _ ⟨_, _, _, ⟨rfl, rfl⟩, hF, hH⟩
 (refine NST hF hH ?_; clear hF hH; rintro rfl rfl)
 refine WE ?_
 rw [hone]
 refine WA ?_
 refine WA ?_
 refine WA ?_
 refine WA ?_
 refine aw_cut (fun F H => ∃ x1 x2, F = [(6, .p 0 0 0), (7, .c (I pf)), (8, .p 1 0 0), (9, .c (I pf)), (10, .p 2 0 0), (11, .c (I d)), (12, .c (I pf)), (13, .c (I d)), (14, .p 3 0 0), (15, .p 4 0 0), (16, .p 5 0 0)] ∧ H = [celB v1 X, celB v2 Y, .box [.c (I n), .c (I m)], celB x1 X, celB x2 Y, .box [.c (I n), .c (I m)]]) ?_ ?_ wk_aw
 ·refine aw_if rfl (fun h0 => ?_) (fun h0 => ?_)
  ·obtain ⟨hnc, hpb, e1, e2, e3⟩ := h7 h0
   have hco := covof_v vc vw c hnc.r wl hln hpb
   have hlo := lefof_v vc vw c hnc.r wl hln hpb
   have hdo := densof_v vc vw c hnc wl hln hpb
   rw [e1] at hco
   rw [e2] at hlo
   rw [e3] at hdo
   (try simp only [List.map_cons, List.map_nil] at hdo)
   refine ZZ ?_
   refine aw_regionT [(0, none), (1, none), (3, none), (4, none), (2, some [3, 4]), (5, some []), (6, some []), (7, some [])] hMixed (by kernel_rfl) ?_
   refine WP ?_
   refine at_ef rfl rfl (ef_call0 false (fun _ => hco) rfl .fn rfl (by decide) (by kernel_rfl) rfl (fun _ => C0 rfl) (by simp)) ?_
   rintro _ _ ⟨_, _, _, ⟨x1, rfl, rfl⟩, hF, hH⟩
   (refine NST hF hH ?_; clear hF hH; rintro rfl rfl)
   refine ⟨ag_cons (by first | exact ag_rd rfl rfl rfl (ZK (KK (t := 28) rfl)) rfl) (ag_cons (by first | exact ag_rd rfl rfl rfl (rd_move rfl rfl) rfl) (ag_none)), ?_⟩
   refine at_ef rfl rfl (ef_call0 false (fun _ => hlo) rfl .fn rfl (by decide) (by kernel_rfl) rfl (fun _ => C0 rfl) (by simp)) ?_
   rintro _ _ ⟨_, _, _, ⟨x2, rfl, rfl⟩, hF, hH⟩
   (refine NST hF hH ?_; clear hF hH; rintro rfl rfl)
   refine ⟨ag_none, ?_⟩
   refine WQ ?_
   refine WR ?_
   refine al_ef rfl (ef_call0 false (fun _ => hdo) rfl .fn rfl (by decide) (by kernel_rfl) rfl (fun _ => C0 rfl) (by simp)) ?_
   rintro _ _ ⟨_, _, _, ⟨rfl, rfl⟩, hF, hH⟩
   (refine NST hF hH ?_; clear hF hH; rintro rfl rfl)
   refine WE ?_
   exact wk_of [some 1, some 2, some 3, some 5, some 6, some 7] (fun _ => [(6, .p 0 0 0), (7, .c (I pf)), (8, .p 1 0 0), (9, .c (I pf)), (10, .p 2 0 0), (11, .c (I d)), (12, .c (I pf)), (13, .c (I d)), (14, .p 3 0 0), (15, .p 4 0 0), (16, .p 5 0 0)]) (fun _ => [celB v1 X, celB v2 Y, .box [.c (I n), .c (I m)], celB x1 X, celB x2 Y, .box [.c (I n), .c (I m)]]) (by decide) (ZNL hE) ZCF ZCH (fun _ => ⟨_, _, rfl, rfl⟩)
  ·obtain ⟨rfl, rfl, rfl, rfl, rfl⟩ := h6 h0
   refine ZZ ?_
   exact wk_of [some 1, some 2, some 3, some 5, some 6, some 7] (fun _ => [(6, .p 0 0 0), (7, .c (I d)), (8, .p 1 0 0), (9, .c (I d)), (10, .p 2 0 0), (11, .c (I d)), (12, .c (I d)), (13, .c (I d)), (14, .p 3 0 0), (15, .p 4 0 0), (16, .p 5 0 0)]) (fun _ => [celB v1 ⟨0, 0, 0, []⟩, celB v2 ⟨0, 0, 0, []⟩, .box [.c (I 0), .c (I 0)], celB (.slice none 0 0) ⟨0, 0, 0, []⟩, celB (.slice none 0 0) ⟨0, 0, 0, []⟩, .box [.c (I 0), .c (I 0)]]) (by decide) (ZNL hE) ZCF ZCH (fun _ => ⟨_, _, rfl, rfl⟩)
 rintro F H ⟨x1, x2, rfl, rfl⟩
 refine ZZ ?_
 have hX : X.rows.length ≤ 1000000000 := by omega
 have hY : Y.rows.length ≤ 1000000000 := by omega
 have z1 : pf = pf := rfl
 have z2 : d = d := rfl
 refine WR ?_
 refine G1 rfl ?_
 refine al_ef rfl (ef_call0 false (fun _ => samec_v v1 x1 X hX) rfl .fn rfl (by decide) (by kernel_rfl) rfl (fun _ => C0 rfl) (by simp)) ?_
 rintro _ _ ⟨_, _, _, ⟨rfl, rfl⟩, hF, hH⟩
 (refine NST hF hH ?_; clear hF hH; rintro rfl rfl)
 refine WO ?_
 refine G1 rfl ?_
 refine al_ef rfl (ef_call0 false (fun _ => samec_v v2 x2 Y hY) rfl .fn rfl (by decide) (by kernel_rfl) rfl (fun _ => C0 rfl) (by simp)) ?_
 rintro _ _ ⟨_, _, _, ⟨rfl, rfl⟩, hF, hH⟩
 (refine NST hF hH ?_; clear hF hH; rintro rfl rfl)
 refine WO ?_
 have hdc : decide (n = n ∧ m = m) = true := by simp
 rw [hdc]
 refine G1 rfl ?_
 refine al_ef rfl (ef_call0 false (fun _ => filled_v) rfl .fn rfl (by decide) (by kernel_rfl) rfl (fun _ => C0 rfl) (by simp)) ?_
 rintro _ _ ⟨_, _, _, ⟨rfl, rfl⟩, hF, hH⟩
 (refine NST hF hH ?_; clear hF hH; rintro rfl rfl)
 refine WE ?_
 exact aret_1 [] [] rfl rfl rfl (by decide) (ZNK rfl) (fun _ => .nil) rfl
end Go.Proofs.YtniolldgidgffaaGreatDoor
