/- Walks through strings; sets of spots in the logic. -/
import Derived.Test.YtniolldgidgffaaGreatDoorQbg
import Derived.Test.YtniolldgidgffaaGreatDoorQba
import Derived.Test.YtniolldgidgffaaGreatDoorQbc
import Derived.Test.YtniolldgidgffaaGreatDoorQap
set_option linter.unusedSimpArgs false
set_option linter.unusedVariables false
/- Density, by value. -/
-- NEWM
-- NILC
namespace Go.Proofs.YtniolldgidgffaaGreatDoor
open Go Go.RowKit
set_option maxRecDepth 100000
def cntG (g : Grd) (k : Nat) : Nat := (covK g k).length
def cntH (g h : Grd) (k : Nat) : Nat := ((covK g k).filter fun q => decide (q ∈ covG h)).length
theorem cnt_next {g : Grd} (h : Grd) {k : Nat} (hb : g.on[k]? = some true) : cntG g (k + 1) = cntG g k + 1 ∧ cntH g h (k + 1) = cntH g h k + (if spt g k ∈ covG h then 1 else 0) := by
 unfold cntG cntH
 rw [covK_next hb, if_pos rfl, List.length_append, List.filter_append, List.length_append]
 refine ⟨rfl, ?_⟩
 congr 1
 by_cases e : spt g k ∈ covG h <;> simp [e]
theorem cnt_same {g : Grd} (h : Grd) {k : Nat} (hb : g.on[k]? = some false) : cntG g (k + 1) = cntG g k ∧ cntH g h (k + 1) = cntH g h k := by
 unfold cntG cntH
 rw [covK_next hb, if_neg (by simp), List.append_nil]
 exact ⟨rfl, rfl⟩
theorem cnt_le {g h : Grd} : ∀ k : Nat, cntG g k ≤ k ∧ cntH g h k ≤ k
 | 0 => ⟨Nat.le_refl _, Nat.le_refl _⟩
 | k + 1 => by
  obtain ⟨h1, h2⟩ := cnt_le (g := g) (h := h) k
  unfold cntG cntH at *
  rw [covK_snoc]
  split
  ·rw [List.length_append, List.filter_append, List.length_append]
   have : ([spt g k].filter fun q => decide (q ∈ covG h)).length ≤ 1 := List.length_filter_le _ _
   simp only [List.length_cons, List.length_nil] at *
   omega
  ·rw [List.append_nil]; omega
set_option maxHeartbeats 1000000 in
theorem dens1_v (h : Grd) (hh : GOk h) (p2 o2 p3 : Value) (n m : Nat) (hn : n ≤ 1000000000) (hm : m ≤ 1000000000) (a b : Int) (ha : -100000000 ≤ a ∧ a ≤ 100000000) (hb : -100000000 ≤ b ∧ b ≤ 100000000) : ACalls Tryz.prog 96 [.c (I a), .c (I b), .p 0 0 0, .c (.p p3 [.p p2 (gRow h o2)]), .p 1 0 0] [.box [.c (I n)], .box [.c (I m)]] fun u H => u = .t [] ∧ H = [.box [.c (I (n + 1 : Nat))], .box [.c (I (m + (if (a, b) ∈ covG h then 1 else 0) : Nat))]] := by
 obtain ⟨q, hq⟩ : ∃ q, decide ((a, b) ∈ covG h) = q := ⟨_, rfl⟩
 refine acallsx_of false (N := 15) Tryz.func96 rfl rfl (by simp) fun E hE hP => ?_
 refine WA ?_
 cases q with
 | true =>
  rw [if_pos (by simpa using hq)]
  refine ZR ?_
  refine ZA (rd_ldcp rfl (by kernel_rfl) rfl rfl) ?_
  refine WO ?_
  refine al_ef rfl (ef_call0 false (fun _ => at_v h p2 o2 a b hh (by omega) (by omega)) rfl .fn rfl (by decide) (by kernel_rfl) rfl (fun _ => C0 rfl) (by simp)) ?_
  rintro _ _ ⟨_, _, _, ⟨rfl, rfl⟩, hF, hH⟩
  rw [atG_eq hh.len, hq] at hF
  (refine NST hF hH ?_; clear hF hH; rintro rfl rfl)
  refine WE ?_
  refine aw_cond_t rfl ?_
  refine WA ?_
  exact aret_0 [some 0, some 1] (fun _ => [.box [.c (I (n + 1 : Nat))], .box [.c (I (m + 1 : Nat))]]) (.inr rfl) rfl (by decide) (ZNK rfl) ZCH (fun _ => ⟨rfl, rfl⟩)
 | false =>
  rw [if_neg (by simpa using hq)]
  refine ZR ?_
  refine ZA (rd_ldcp rfl (by kernel_rfl) rfl rfl) ?_
  refine WO ?_
  refine al_ef rfl (ef_call0 false (fun _ => at_v h p2 o2 a b hh (by omega) (by omega)) rfl .fn rfl (by decide) (by kernel_rfl) rfl (fun _ => C0 rfl) (by simp)) ?_
  rintro _ _ ⟨_, _, _, ⟨rfl, rfl⟩, hF, hH⟩
  rw [atG_eq hh.len, hq] at hF
  (refine NST hF hH ?_; clear hF hH; rintro rfl rfl)
  refine WE ?_
  refine aw_cond_f rfl ?_
  refine ZZ ?_
  exact aret_0 [some 0, some 1] (fun _ => [.box [.c (I (n + 1 : Nat))], .box [.c (I (m + 0 : Nat))]]) (.inr rfl) rfl (by decide) (ZNK rfl) ZCH (fun _ => ⟨rfl, rfl⟩)
set_option maxHeartbeats 1000000 in
theorem each_dens (g : Grd) (pv v : Value) (h : Grd) (hh : GOk h) (p2 o2 p3 : Value) (hg : GOk g)  : ACalls Tryz.prog 95 [gV pv v g, .f (.func 96) [.p 0 0 0, .c (.p p3 [.p p2 (gRow h o2)]), .p 1 0 0]] [.box [.c (I (cntG g 0))], .box [.c (I (cntH g h 0))]] fun u H => u = .t [] ∧ H = [.box [.c (I (cntG g g.on.length))], .box [.c (I (cntH g h g.on.length))]] := by
 have hn := hg.n
 have hgx := hg.x
 have hgy := hg.y
 have eo : (oR g.on).length = g.on.length := by simp
 refine acallsx_of false (N := 42) Tryz.func95 rfl rfl (by simp) fun E hE hP => ?_
 refine WA ?_
 refine aw_loopw (fun m F H => ∃ k : Nat, m + k = g.on.length ∧ F = [(0, gV pv v g), (1, .f (.func 96) [.p 0 0 0, .c (.p p3 [.p p2 (gRow h o2)]), .p 1 0 0]), (9, .c (.r v (oR g.on))), (10, .c (I (oR g.on).length)), (11, .c (I k))] ∧ H = [.box [.c (I (cntG g k))], .box [.c (I (cntH g h k))]]) ?_ ?_
 ·refine wk_of [some 0, some 1] (fun _ => [(0, gV pv v g), (1, .f (.func 96) [.p 0 0 0, .c (.p p3 [.p p2 (gRow h o2)]), .p 1 0 0]), (9, .c (.r v (oR g.on))), (10, .c (I (oR g.on).length)), (11, .c (I (0 : Nat)))]) (fun _ => [.box [.c (I (cntG g 0))], .box [.c (I (cntH g h 0))]]) (by decide) (ZNL hE) ZCF ZCH (fun _ => ?_)
  exact ⟨g.on.length, 0, by omega, rfl, rfl⟩
 rintro m F H ⟨k, hk, rfl, rfl⟩
 refine WA ?_
 refine aw_if rfl (fun hlt => ?_) (fun hge => ?_)
 ·have hkn : k < g.on.length := by omega
  obtain ⟨b, hb⟩ : ∃ b, g.on[k]? = some b := ⟨_, List.getElem?_eq_getElem hkn⟩
  have hrow : (oR g.on)[k]? = some [B b] := by rw [List.getElem?_map, hb]; rfl
  obtain ⟨w1, ⟨w2, w3⟩, w4, w5⟩ := each_at hg hkn
  refine WA ?_
  refine WA ?_
  cases b with
  | true =>
   refine aw_cond_t rfl ?_
   have hnx := cnt_next h hb
   refine ZZ ?_
   refine aw_regionT [(0, none), (1, none), (2, none), (3, none), (4, none), (5, none), (6, none), (7, none), (8, none), (9, none), (10, none), (11, none), (12, none), (13, none), (14, none), (15, none), (16, none), (17, none), (18, none), (19, none), (20, none), (21, none), (22, none), (23, some [])] hMixed (by kernel_rfl) ?_
   refine WP ?_
   refine at_ef rfl rfl (ef_call [0, 1] (fun _ => [.box [.c (I (cntG g k))], .box [.c (I (cntH g h k))]]) false (fun _ => dens1_v h hh p2 o2 p3 (cntG g k) (cntH g h k) (by have := (cnt_le (g := g) (h := h) k).1; omega) (by have := (cnt_le (g := g) (h := h) k).2; omega) (g.x + (k : Int) % (g.w : Int)) (g.y + (k : Int) / (g.w : Int)) (by omega) (by omega)) rfl (.clo rfl) rfl (by decide) (by kernel_rfl) rfl ZCH (by decide) ZCH (by simp)) ?_
   rintro F1 H1 ⟨_, _, _, _, ⟨rfl, rfl⟩, hF, hH⟩
   rw [spt_eq, ← hnx.1, ← hnx.2] at hH
   (refine NSU hF hH ?_; clear hF hH; rintro rfl rfl)
   refine ⟨ag_none, ?_⟩
   refine WQ ?_
   refine WA ?_
   refine wk_of [some 0, some 1] (fun _ => [(0, gV pv v g), (1, .f (.func 96) [.p 0 0 0, .c (.p p3 [.p p2 (gRow h o2)]), .p 1 0 0]), (9, .c (.r v (oR g.on))), (10, .c (I (oR g.on).length)), (11, .c (I (k + 1 : Nat)))]) (fun _ => [.box [.c (I (cntG g (k + 1)))], .box [.c (I (cntH g h (k + 1)))]]) (by decide) (ZNL hE) ZCF ZCH (fun _ => ?_)
   exact ⟨m - 1, by omega, k + 1, by omega, rfl, rfl⟩
  | false =>
   refine aw_cond_f rfl ?_
   refine ZZ ?_
   refine WA ?_
   refine wk_of [some 0, some 1] (fun _ => [(0, gV pv v g), (1, .f (.func 96) [.p 0 0 0, .c (.p p3 [.p p2 (gRow h o2)]), .p 1 0 0]), (9, .c (.r v (oR g.on))), (10, .c (I (oR g.on).length)), (11, .c (I (k + 1 : Nat)))]) (fun _ => [.box [.c (I (cntG g (k + 1)))], .box [.c (I (cntH g h (k + 1)))]]) (by decide) (ZNL hE) ZCF (by rw [(cnt_same h hb).1, (cnt_same h hb).2]; exact ZCH) (fun _ => ?_)
   exact ⟨m - 1, by omega, k + 1, by omega, rfl, rfl⟩
 obtain rfl : k = g.on.length := by omega
 refine ZZ ?_
 skip
 exact aret_0 [some 0, some 1] (fun _ => [.box [.c (I (cntG g g.on.length))], .box [.c (I (cntH g h g.on.length))]]) (.inr rfl) rfl (by decide) (ZNK rfl) ZCH (fun _ => ⟨rfl, rfl⟩)
def denA (c : Cel) : Nat := (covG (grdOf c)).length
def denS (c : Cel) (l : List Wy) : Nat := ((covG (grdOf c)).filter fun q => ledB l (ctrS c.st q)).length
def denF (c : Cel) (l : List Wy) : List CV × Int := if passF c l ≠ 0 then ([I 0, I 0], passF c l) else if denA c = 0 then ([I 0, I 0], 8) else (lowR (denS c l : Nat) (denA c : Nat), 0)
theorem den_cnt {c : Cel} {l : List Wy} {on : List Bool} (h : InvP (grdOf c) (ledL l) on) : cntG (grdOf c) (grdOf c).on.length = denA c ∧ cntH (grdOf c) { (grdOf c) with on := on } (grdOf c).on.length = denS c l := by
 refine ⟨rfl, ?_⟩
 unfold cntH denS
 rw [show covK (grdOf c) (grdOf c).on.length = covG (grdOf c) from rfl]
 congr 1
 refine List.filter_congr fun q hq => ?_
 rw [Bool.eq_iff_iff, decide_eq_true_iff, h q, ledB_iff, grdOf_st]
 exact ⟨fun h => h.2, fun h => ⟨hq, h⟩⟩
set_option maxHeartbeats 2000000 in
theorem density_v (va v : Value) (c : Cel) (l : List Wy) (hcl : c.rows.length ≤ 1000000000) (hcr : ∀ r ∈ c.rows, r.length ≤ 1000000000) (hl : l.length ≤ 1000000) (hp : ∀ p ∈ l, p.pts.length ≤ 1000000) : ACalls Tryz.prog 29 [celA va c, .c (.r v (wyR l))] [] fun u H => u = .t [.a ((denF c l).1.map .c), .c (I (denF c l).2)] ∧ H = [] := by
 obtain ⟨e, he⟩ : ∃ e, passF c l = e := ⟨_, rfl⟩
 by_cases h0 : e ≠ 0
 ·have hdv : denF c l = ([I 0, I 0], e) := by unfold denF; rw [he, if_pos h0]
  refine acalls_of (N := 31) Tryz.func29 rfl rfl (by simp) fun E hE => ?_
  refine WA ?_
  refine WR ?_
  refine al_ef rfl (ef_call0 false (fun _ => passed_no va v c l hcl hcr hl hp e he h0) rfl .fn rfl (by decide) (by kernel_rfl) rfl (fun _ => C0 rfl) (by simp)) ?_
  rintro _ _ ⟨_, _, _, ⟨rfl, rfl⟩, hF, hH⟩
  (refine NST hF hH ?_; clear hF hH; rintro rfl rfl)
  refine WE ?_
  refine WA ?_
  refine aw_cond_t rfl ?_
  refine WA ?_
  exact aret_of (us := [.a [.c (I 0), .c (I 0)], .c (I (e))]) [] (fun g' => .t [.a [.c (I 0), .c (I 0)], .c (I (e))]) (fun _ => []) (.cella (n := 2) rfl (by kernel_rfl) (Cells.box rfl) (by simp) (by (try simp only [nm, putL, Nat.reduceAdd, cellsOf, cvOf]) <;> rfl) (.tmp rfl .nil)) (by decide) (fun i hi => absurd hi (Nat.not_lt_zero i)) (fun g' => .tL (.cons (.aL (.cons (.c rfl) (.cons (.c rfl) .nil))) (.cons (.c rfl) .nil))) (fun _ => .nil) (fun g' => ⟨by rw [hdv]; rfl, rfl⟩)
 obtain rfl : e = 0 := by omega
 obtain ⟨hc, _⟩ := passF_r he
 have hcn := fun on h => den_cnt (on := on) (c := c) (l := l) h
 have hg := grdOf_ok hc
 have hgn := hg.n
 have hsa : denS c l ≤ denA c := List.length_filter_le _ _
 have hda : denA c ≤ 1000000 := by
  have := (cnt_le (g := grdOf c) (h := grdOf c) (grdOf c).on.length).1
  exact Nat.le_trans this hgn
 have hdv0 : denF c l = if denA c = 0 then ([I 0, I 0], 8) else (lowR (denS c l : Nat) (denA c : Nat), 0) := by unfold denF; rw [he, if_neg (by omega)]
 generalize hnS : denS c l = nS at *
 generalize hnA : denA c = nA at *
 refine acalls_of (N := 31) Tryz.func29 rfl rfl (by simp) fun E hE => ?_
 refine WA ?_
 refine WR ?_
 refine al_ef rfl (ef_call0 false (fun _ => passed_ok va v c l hcl hcr hl hp he) rfl .fn rfl (by decide) (by kernel_rfl) rfl (fun _ => C0 rfl) (by simp)) ?_
 rintro _ _ ⟨_, _, _, ⟨pg, og, on, rfl, rfl, hlo, hinv⟩, hF, hH⟩
 (refine NST hF hH ?_; clear hF hH; rintro rfl rfl)
 refine WE ?_
 obtain ⟨hcA, hcS⟩ := hcn on hinv
 have hed := fun p3 p2 o2 h (hh : GOk h) => each_dens (grdOf c) pg og h hh p2 o2 p3 hg
 generalize grdOf c = g at *
 have hgu : GOk { g with on := on } := ⟨hlo, hg.w, hg.h, hg.x, hg.y⟩
 replace hed := fun p3 p2 o2 => hed p3 p2 o2 { g with on := on } hgu
 have hcS2 : cntH g { g with on := on } g.on.length = nS := hcS
 rw [hcA, hcS2] at hed
 simp only [show ∀ h : Grd, cntH g h 0 = 0 from fun _ => rfl, show cntG g 0 = 0 from rfl] at hed
 refine WA ?_
 refine aw_cond_f rfl ?_
 refine ZZ ?_
 refine aw_wk (wk_of (K := fun F H => ∃ p7 pv1 v1, F = [(4, .p 0 0 0), (6, gV pg og g), (7, .c (.p p7 [.p pv1 (gRow { g with on := on } v1)]))] ∧ H = [.box [.c (I 0), .c (I 0)]]) [some 1] (fun f => [(4, .p 0 0 0), (6, gV pg og g), (7, .c (.p (f (.p 4 0 0)) [.p (f (.p 2 0 0)) (gRow { g with on := on } (f (.o 3 0 (g.w * g.h) (g.w * g.h))))]))]) (fun _ => [.box [.c (I 0), .c (I 0)]]) (by decide) (ZNL hE) (fun _ => .cons rfl (.p rfl) (.cons rfl (.c rfl) (.cons rfl (frzpL rfl rfl (.cons (frzG (g := { g with on := on }) rfl rfl hlo rfl rfl) .nil)) .nil))) ZCH (fun _ => ⟨_, _, _, rfl, rfl⟩)) ?_
 rintro F H ⟨p7, pv1, v1, rfl, rfl⟩
 refine WA ?_
 refine WR ?_
 refine al_ef rfl (ef_call [2, 1] (fun _ => [.box [.c (I (0 : Nat))], .box [.c (I (0 : Nat))]]) false (fun _ => hed p7 pv1 v1) rfl .fn rfl (by decide) (by kernel_rfl) rfl ZCH (by decide) ZCH (by simp)) ?_
 rintro F1 H1 ⟨_, _, _, _, ⟨rfl, rfl⟩, hF, hH⟩
 (refine NSU hF hH ?_; clear hF hH; rintro rfl rfl)
 refine WE ?_
 refine WA ?_
 refine aw_if rfl (fun ha => ?_) (fun ha => ?_)
 ·have hdv : denF c l = ([I 0, I 0], 8) := by rw [hdv0, if_pos (by omega)]
  refine WA ?_
  exact aret_of (us := [.a [.c (I 0), .c (I 0)], .c (I (8))]) [] (fun g' => .t [.a [.c (I 0), .c (I 0)], .c (I (8))]) (fun _ => []) (.cella (n := 2) rfl (by kernel_rfl) (Cells.box rfl) (by simp) (by (try simp only [nm, putL, Nat.reduceAdd, cellsOf, cvOf]) <;> rfl) (.tmp rfl .nil)) (by decide) (fun i hi => absurd hi (Nat.not_lt_zero i)) (fun g' => .tL (.cons (.aL (.cons (.c rfl) (.cons (.c rfl) .nil))) (.cons (.c rfl) .nil))) (fun _ => .nil) (fun g' => ⟨by rw [hdv]; rfl, rfl⟩)
 ·have hdv : denF c l = (lowR (nS : Nat) (nA : Nat), 0) := by rw [hdv0, if_neg (by omega)]
  refine ZZ ?_
  refine WR ?_
  refine al_ef rfl (ef_call0 false (fun _ => low1_a (nS : Nat) (nA : Nat) (by omega) (by omega) (by omega) (by omega)) rfl .fn rfl (by decide) (by kernel_rfl) rfl (fun _ => C0 rfl) (by simp)) ?_
  rintro _ _ ⟨_, _, _, ⟨rfl, rfl⟩, hF, hH⟩
  (refine NST hF hH ?_; clear hF hH; rintro rfl rfl)
  refine WE ?_
  exact aret_of (us := [.a [.c (I ((nS : Int) / gcdI nS nA)), .c (I ((nA : Int) / gcdI nS nA))], .c (I (0))]) [] (fun g' => .t [.a [.c (I ((nS : Int) / gcdI nS nA)), .c (I ((nA : Int) / gcdI nS nA))], .c (I (0))]) (fun _ => []) (.cella (n := 2) rfl (by kernel_rfl) (Cells.box rfl) (by simp) (by (try simp only [nm, putL, Nat.reduceAdd, cellsOf, cvOf]) <;> rfl) (.tmp rfl .nil)) (by decide) (fun i hi => absurd hi (Nat.not_lt_zero i)) (fun g' => .tL (.cons (.aL (.cons (.c rfl) (.cons (.c rfl) .nil))) (.cons (.c rfl) .nil))) (fun _ => .nil) (fun g' => ⟨by rw [hdv]; rfl, rfl⟩)
end Go.Proofs.YtniolldgidgffaaGreatDoor

/- Shrinking: what is near, the closures, by value. -/
-- NEWM
namespace Go.Proofs.YtniolldgidgffaaGreatDoor
open Go Go.RowKit
set_option maxRecDepth 100000
end Go.Proofs.YtniolldgidgffaaGreatDoor

/- The cells of a grid that a function chooses: one that holds two values. -/
-- NEWM
namespace Go.Proofs.YtniolldgidgffaaGreatDoor
open Go Go.RowKit
set_option maxRecDepth 100000
end Go.Proofs.YtniolldgidgffaaGreatDoor

/- Shrinking, by value: the second closure; Each with the first one. -/
-- NEWM
namespace Go.Proofs.YtniolldgidgffaaGreatDoor
open Go Go.RowKit
set_option maxRecDepth 100000
end Go.Proofs.YtniolldgidgffaaGreatDoor

/- Shrinking, by value. -/
-- NEWM
namespace Go.Proofs.YtniolldgidgffaaGreatDoor
open Go Go.RowKit
set_option maxRecDepth 100000
end Go.Proofs.YtniolldgidgffaaGreatDoor

/- Walls of near cells: shrinking and minus without faults, by value. -/
-- NEWM
namespace Go.Proofs.YtniolldgidgffaaGreatDoor
open Go Go.RowKit
set_option maxRecDepth 100000
end Go.Proofs.YtniolldgidgffaaGreatDoor

/- Walls of near cells, by value. -/
-- NEWM
namespace Go.Proofs.YtniolldgidgffaaGreatDoor
open Go Go.RowKit
set_option maxRecDepth 100000
end Go.Proofs.YtniolldgidgffaaGreatDoor

/- Walls, by value. -/
-- NEWM
namespace Go.Proofs.YtniolldgidgffaaGreatDoor
open Go Go.RowKit
set_option maxRecDepth 100000
end Go.Proofs.YtniolldgidgffaaGreatDoor

/- Grids of layers; what is wrong with layers, by value. -/
-- NEWM
namespace Go.Proofs.YtniolldgidgffaaGreatDoor
open Go Go.RowKit
set_option maxRecDepth 100000
end Go.Proofs.YtniolldgidgffaaGreatDoor

/- What is wrong with layers and styles, by value. -/
-- NEWM
namespace Go.Proofs.YtniolldgidgffaaGreatDoor
open Go Go.RowKit
set_option maxRecDepth 100000
end Go.Proofs.YtniolldgidgffaaGreatDoor

/- Solid cells, by value: the closure. -/
-- NEWM
namespace Go.Proofs.YtniolldgidgffaaGreatDoor
open Go Go.RowKit
set_option maxRecDepth 100000
end Go.Proofs.YtniolldgidgffaaGreatDoor

/- Solid cells, by value. -/
-- NEWM
namespace Go.Proofs.YtniolldgidgffaaGreatDoor
open Go Go.RowKit
set_option maxRecDepth 100000
end Go.Proofs.YtniolldgidgffaaGreatDoor

/- Solid, by value. -/
-- NEWM
namespace Go.Proofs.YtniolldgidgffaaGreatDoor
open Go Go.RowKit
set_option maxRecDepth 100000
end Go.Proofs.YtniolldgidgffaaGreatDoor

/- Walks through strings; sets of spots in the logic. -/
namespace Go.Proofs.YtniolldgidgffaaGreatDoor
open Go Go.RowKit
section
variable {P : Program} {N : Nat} {E : Env} {F : Fm} {H : List OB} {o : Oper} {S : Nat → Prop} {ρ : List (Option Nat)} {a : Act} {w : World} {t : TypeId} {x y : Operand}
theorem ef_ranges {d : Nat} {l : List UInt8} (ho : o.op = .range t x) (hd : o.dst = some d) (hN : d < N) (ht : P.underlying t = some .string) (hx : ev F x = some (.c (T l))) :
    Ef P N E o F H fun F' H' => F' = (d, .p H.length 0 0) :: F ∧ H' = H ++ [.sit (bst l) 0] :=
 ef_of hd hN ⟨rfl, rfl⟩ fun S ρ a w hR => by
  have h1 := (hR.ev hx).1
  simp only [AV.den, CV.den] at h1
  refine ⟨S, ρ ++ [some w.heap.size], w.alloc (.stringIter (bst l) 0), ?_, ?_, wf_snoc_p hR.hp _⟩
  ·rw [den_snoc_p hR.hp]
   simp only [execOp, ho, h1, Instr.range, Sem.run_bind, st_under ht, Result.andThen_ok, Sem.run_pure, run_newObj, World.alloc_eq]
  ·exact hR.newO _ (.sit (bst l) 0) ⟨_, rfl, by rw [heap_new]⟩
theorem decode_bst {l : List UInt8} {k : Nat} {b : UInt8} (hb : l[k]? = some b) (h : b < 128) : Utf8.decode (bst l) k = (b.toNat, 1) := by
 have hk := (List.getElem?_eq_some_iff.1 hb).1
 have h0 : ((bst l).get! (k + 0)).toNat = b.toNat := by
  congr 1
  show (l.toArray)[k + 0]! = b
  simp [getElem!_def, hb]
 unfold Utf8.decode
 simp only [h0]
 have : b.toNat < 128 := h
 rw [if_pos this]
theorem ef_nexts {bi d k : Nat} {l : List UInt8} {b : UInt8} (ho : o.op = .next x true) (hd : o.dst = some d) (hN : d < N) (hx : ev F x = some (.p bi 0 0)) (hi : H[bi]? = some (.sit (bst l) k)) (hb : l[k]? = some b) (h8 : b < 128) :
    Ef P N E o F H fun F' H' => F' = (d, .t [.c (.s (.bool true)), .c (.s (.int .i64 k)), .c (.s (.int .i32 b.toNat))]) :: F ∧ H' = H.set bi (.sit (bst l) (k + 1)) := fun S ρ a w hR => by
 obtain ⟨h1, _⟩ := hR.ev hx
 obtain ⟨Bi, i1, i2⟩ := hR.hp.blk bi _ hi
 have hz : szAt H bi = 0 := by unfold szAt; rw [hi]; rfl
 simp only [AV.den, i1, hz, Option.map_some, Nat.mul_zero, Nat.add_zero, Nat.zero_add] at h1
 have hk := (List.getElem?_eq_some_iff.1 hb).1
 have hg : (getObj Bi).run P w = .ok (.stringIter (bst l) k) w := by unfold getObj; simp [Sem.run, i2]
 have hs : (setObj Bi (.stringIter (bst l) (k + 1))).run P w = .ok () (putBlk w Bi (.stringIter (bst l) (k + 1))) := by unfold setObj; simp [Sem.run, i2, putBlk]
 unfold effO
 have hex : (execOp a.eval o).run P w = .ok (.value (.tuple #[.bool true, .int .i64 k, .int .i32 b.toNat])) (putBlk w Bi (.stringIter (bst l) (k + 1))) := by
  simp only [execOp, ho, h1, Instr.next, Sem.run_bind, hg, Result.andThen_ok]
  rw [if_pos (by rw [bst_size]; exact hk), decode_bst hb h8]
  simp only [Sem.run_bind, hs, Result.andThen_ok, Sem.run_pure]
  rfl
 rw [hex]
 refine ⟨S, ρ, _, _, ⟨rfl, rfl⟩, ?_⟩
 rw [hd]
 have hset := R.set (ob := .sit (bst l) k) (ob' := .sit (bst l) (k + 1)) (cob := .stringIter (bst l) (k + 1)) hR hi i1 rfl rfl (fun h => absurd rfl h) (putBlk_size _ _) ⟨Bi, rfl, putBlk_at i2⟩
 have := hset.put (d := d) (x := .t [.c (.s (.bool true)), .c (.s (.int .i64 k)), .c (.s (.int .i32 b.toNat))]) hN (.t fun y hy => by
  simp only [List.mem_cons, List.not_mem_nil, or_false] at hy
  rcases hy with rfl | rfl | rfl <;> exact .c (.s _))
 simpa [AV.den, AV.denL, CV.den] using this
theorem ef_nexte {bi d k : Nat} {l : List UInt8} (ho : o.op = .next x true) (hd : o.dst = some d) (hN : d < N) (hx : ev F x = some (.p bi 0 0)) (hi : H[bi]? = some (.sit (bst l) k)) (hk : l.length ≤ k) :
    Ef P N E o F H fun F' H' => F' = (d, .t [.c (.s (.bool false))]) :: F ∧ H' = H := fun S ρ a w hR => by
 obtain ⟨h1, _⟩ := hR.ev hx
 obtain ⟨Bi, i1, i2⟩ := hR.hp.blk bi _ hi
 have hz : szAt H bi = 0 := by unfold szAt; rw [hi]; rfl
 simp only [AV.den, i1, hz, Option.map_some, Nat.mul_zero, Nat.add_zero, Nat.zero_add] at h1
 have hg : (getObj Bi).run P w = .ok (.stringIter (bst l) k) w := by unfold getObj; simp [Sem.run, i2]
 unfold effO
 have hex : (execOp a.eval o).run P w = .ok (.value (.tuple #[.bool false])) w := by
  simp only [execOp, ho, h1, Instr.next, Sem.run_bind, hg, Result.andThen_ok]
  rw [if_neg (by rw [bst_size]; omega)]
  rfl
 rw [hex]
 refine ⟨S, ρ, _, _, ⟨rfl, rfl⟩, ?_⟩
 rw [hd]
 exact hR.put (x := .t [.c (.s (.bool false))]) hN (.t fun y hy => by rw [List.mem_singleton.1 hy]; exact .c (.s _))
theorem ef_nextP {bi b ck d : Nat} {seen : List Nat} {l : SE} {L : List Spot} (hok : SetOk l ck L) (ho : o.op = .next x false) (hd : o.dst = some d) (hN : d < N) (hx : ev F x = some (.p bi 0 0)) (hi : H[bi]? = some (.itr b ck seen ck)) (hH : H[b]? = some (mpO encP encT l ck)) :
    Ef P N E o F H fun F' H' => (∃ eb ex ey, (eb, (ex, ey), true) ∈ l ∧ eb ∉ seen ∧ F' = (d, .t [.c (.s (.bool true)), .a [.c (.s (.int .i64 ex)), .c (.s (.int .i64 ey))], .c (.s (.bool true))]) :: F ∧ H' = H.set bi (.itr b ck (seen ++ [eb]) ck)) ∨ ((∀ e ∈ l, e.1 ∈ seen) ∧ F' = (d, .t [.c (.s (.bool false))]) :: F ∧ H' = H) := fun S ρ a w hR => by
 refine effO_mono (fun a' w' hh => ?_) (ef_next (ke := encP) (ve := encT) ho hd hN hx hi hH hok.hb (Nat.le_refl _) S ρ a w hR)
 obtain ⟨S', ρ', F', H', hk, hR'⟩ := hh
 refine ⟨S', ρ', F', H', ?_, hR'⟩
 rcases hk with ⟨⟨eb, ⟨ex, ey⟩, v⟩, h1, h2, h3, h4⟩ | h
 ·obtain rfl : v = true := hok.hv _ h1
  exact .inl ⟨eb, ex, ey, h1, h2, h3, h4⟩
 ·exact .inr h
theorem rd_entryP {bi b ck eb : Nat} {ex ey : Int} {seen : List Nat} {l : SE} {L : List Spot} (hok : SetOk l ck L) (ho : o.op = .entry x) (hx : ev F x = some (.p bi 0 0)) (hi : H[bi]? = some (.itr b ck (seen ++ [eb]) ck)) (hH : H[b]? = some (mpO encP encT l ck)) (he : (eb, (ex, ey), true) ∈ l) :
    Rd P N E o F H (.t [.a [.c (.s (.int .i64 ex)), .c (.s (.int .i64 ey))], .c (.s (.bool true))]) :=
 rd_entry (ke := encP) (ve := encT) (e := (eb, (ex, ey), true)) ho hx hi hH he hok.nb
theorem rd_lookP {t kt et : TypeId} {ix : Operand} {b ck : Nat} {l : SE} {L : List Spot} {p q : Int} (hok : SetOk l ck L) (hk : KeyOk P kt encP) (ho : o.op = .lookup t x ix false) (ht : P.underlying t = some (.map kt et)) (hz : (P.info? et).bind (·.zero) = some (.bool false))
    (hx : ev F x = some (.mp b)) (hH : H[b]? = some (mpO encP encT l ck)) (hi : ev F ix = some (.a [.c (.s (.int .i64 p)), .c (.s (.int .i64 q))])) : Rd P N E o F H (.c (.s (.bool (decide ((p, q) ∈ L))))) := by
 have := rd_lookup (N := N) (E := E) (ke := encP) (ve := encT) (k := (p, q)) (z := false) hk ho ht hz hx hH hi (fun ρ H => by simp [AV.den, AV.denL, CV.den, encP])
 rw [hok.get] at this
 exact this
end
end Go.Proofs.YtniolldgidgffaaGreatDoor
