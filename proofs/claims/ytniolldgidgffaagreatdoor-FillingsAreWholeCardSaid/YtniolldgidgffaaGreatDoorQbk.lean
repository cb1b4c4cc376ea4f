/- Cells that are the same, fillings that are the same, by value. -/
import Derived.Test.YtniolldgidgffaaGreatDoorQaz
import Derived.Test.YtniolldgidgffaaGreatDoorQbd
import Derived.Test.YtniolldgidgffaaGreatDoorQbj
set_option linter.unusedSimpArgs false
set_option linter.unusedVariables false
/- The union of cells, by value: Union. -/
-- NEWM
namespace Go.Proofs.YtniolldgidgffaaGreatDoor
open Go Go.RowKit
set_option maxRecDepth 100000
set_option maxHeartbeats 2000000 in
theorem each_set (g : Grd) (pv v : Value) (hg : GOk g) (st x y : Int) (w h : Nat) (on : List Bool) (hon : on.length = w * h) (hw : w ≤ 1000) (hh : h ≤ 1000) (hx : -10000000 ≤ x ∧ x ≤ 10000000) (hy : -10000000 ≤ y ∧ y ≤ 10000000) (hin : ∀ p ∈ covG g, inBox x y w h p) : ACallsX true Tryz.prog 95 [gV pv v g, .f (.via 0 #[] 122 false) [.p 0 0 0]] [gB st x y w h 1 (w * h), gArr (w * h) on] fun u H => u = .t [] ∧ H = [gB st x y w h 1 (w * h), gArr (w * h) (putG x y w on (covG g))] := by
 have hn := hg.n
 have hgx := hg.x
 have hgy := hg.y
 have hnb : w * h ≤ 1000000 := Nat.le_trans (Nat.mul_le_mul hw hh) (by decide)
 have eo : (oR g.on).length = g.on.length := by simp
 refine acallsx_of true (N := 42) Tryz.func95 rfl rfl (by simp) fun E hE hP => ?_
 refine WA ?_
 refine aw_loopw (fun m F H => ∃ k : Nat, m + k = g.on.length ∧ F = [(0, gV pv v g), (1, .f (.via 0 #[] 122 false) [.p 0 0 0]), (9, .c (.r v (oR g.on))), (10, .c (I (oR g.on).length)), (11, .c (I k))] ∧ H = [gB st x y w h 1 (w * h), gArr (w * h) (putG x y w on (covK g k))]) ?_ ?_
 ·refine wk_of [some 0, some 1] (fun _ => [(0, gV pv v g), (1, .f (.via 0 #[] 122 false) [.p 0 0 0]), (9, .c (.r v (oR g.on))), (10, .c (I (oR g.on).length)), (11, .c (I (0 : Nat)))]) (fun _ => [gB st x y w h 1 (w * h), gArr (w * h) on]) (by decide) (ZNL hE) ZCF ZCH (fun _ => ?_)
  exact ⟨g.on.length, 0, by omega, rfl, rfl⟩
 rintro m F H ⟨k, hk, rfl, rfl⟩
 refine WA ?_
 refine aw_if rfl (fun hlt => ?_) (fun hge => ?_)
 ·have hkn : k < g.on.length := by omega
  obtain ⟨b, hb⟩ : ∃ b, g.on[k]? = some b := ⟨_, List.getElem?_eq_getElem hkn⟩
  have hrow : (oR g.on)[k]? = some [B b] := by rw [List.getElem?_map, hb]; rfl
  obtain ⟨w1, ⟨w2, w3⟩, w4, w5⟩ := each_at hg hkn
  have hnx := covK_next hb
  have hol : (putG x y w on (covK g k)).length = w * h := by rw [putG_len, hon]
  have hnext : putG x y w on (covK g (k + 1)) = if b = true then (putG x y w on (covK g k)).set (ixG x y w (spt g k)) true else putG x y w on (covK g k) := by
   rw [hnx]
   cases b with
   | true => rw [if_pos rfl, if_pos rfl, putG_snoc]
   | false => rw [if_neg (by simp), if_neg (by simp), List.append_nil]
  generalize hon1e : putG x y w on (covK g k) = on1 at *
  refine WA ?_
  refine WA ?_
  cases b with
  | true =>
   rw [if_pos rfl] at hnext
   have hsp : spt g k ∈ covG g := covG_mem.2 ⟨k, hb, rfl⟩
   have hbx := hin _ hsp
   rw [← spt_eq] at hnext hbx
   obtain ⟨i1, i2, _⟩ := ix_box hbx
   have hbx2 := hbx
   unfold inBox at hbx2
   simp only at hbx2 i1
   refine aw_cond_t rfl ?_
   refine ZZ ?_
   refine aw_regionT [(0, none), (1, none), (2, none), (3, none), (4, none), (5, none), (6, none), (7, none), (8, none), (9, none), (10, none), (11, none), (12, none), (13, none), (14, none), (15, none), (16, none), (17, none), (18, none), (19, none), (20, none), (21, none), (22, none), (23, some [])] hMixed (by kernel_rfl) ?_
   refine WP ?_
   refine at_ef rfl rfl (ef_callp [0, 1] (fun _ => [gB st x y w h 1 (w * h), gArr (w * h) on1]) false (fun _ => set_v st x y w h on1 (w * h) (g.x + (k : Int) % (g.w : Int)) (g.y + (k : Int) / (g.w : Int)) _ hol i1 i2 hnb (by omega) (by omega) hx hy) rfl (.bnd rfl) rfl (by decide) (by kernel_rfl) rfl (fun _ => .cons (.p rfl) (.cons (.c rfl) (.cons (.c rfl) .nil))) (by decide) ZCH (by simp)) ?_
   rintro F1 H1 ⟨_, _, _, _, ⟨rfl, rfl⟩, hF, hH⟩
   rw [killF_nil] at hF; (refine NSU hF hH ?_; clear hF hH; rintro rfl rfl)
   refine ⟨ag_none, ?_⟩
   refine WQ ?_
   refine WA ?_
   refine wk_of [some 0, some 1] (fun _ => [(0, gV pv v g), (1, .f (.via 0 #[] 122 false) [.p 0 0 0]), (9, .c (.r v (oR g.on))), (10, .c (I (oR g.on).length)), (11, .c (I (k + 1 : Nat)))]) (fun _ => [gB st x y w h 1 (w * h), gArr (w * h) (on1.set (ixG x y w (g.x + (k : Int) % (g.w : Int), g.y + (k : Int) / (g.w : Int))) true)]) (by decide) (ZNL hE) ZCF ZCH (fun _ => ?_)
   exact ⟨m - 1, by omega, k + 1, by omega, rfl, by rw [hnext]⟩
  | false =>
   rw [if_neg (by simp)] at hnext
   refine aw_cond_f rfl ?_
   refine ZZ ?_
   refine WA ?_
   refine wk_of [some 0, some 1] (fun _ => [(0, gV pv v g), (1, .f (.via 0 #[] 122 false) [.p 0 0 0]), (9, .c (.r v (oR g.on))), (10, .c (I (oR g.on).length)), (11, .c (I (k + 1 : Nat)))]) (fun _ => [gB st x y w h 1 (w * h), gArr (w * h) on1]) (by decide) (ZNL hE) ZCF ZCH (fun _ => ?_)
   exact ⟨m - 1, by omega, k + 1, by omega, rfl, by rw [hnext]⟩
 obtain rfl : k = g.on.length := by omega
 rw [show covK g g.on.length = covG g from rfl]
 refine ZZ ?_
 exact aret_0 [some 0, some 1] (fun _ => [gB st x y w h 1 (w * h), gArr (w * h) (putG x y w on (covG g))]) (.inr rfl) rfl (by decide) (ZNK rfl) ZCH (fun _ => ⟨rfl, rfl⟩)
theorem grd_bd {c : Cel} (h : RCel c) : (grdOf c).w ≤ 200 ∧ (grdOf c).h ≤ 200 ∧ ((grdOf c).w ≠ 0 → 0 < (grdOf c).h) := by
 have h1 := h.w
 have h2 := h.h
 unfold grdOf
 split
 ·simp
 ·rename_i e
  refine ⟨h1, h2, fun _ => ?_⟩
  cases hr : c.rows with
  | nil => exact absurd hr e
  | cons => simp
theorem box_in {c : Cel} (h : RCel c) (hw : (grdOf c).w ≠ 0) {p : Spot} (hp : p ∈ covG (grdOf c)) : (grdOf c).x ≤ p.1 ∧ p.1 < (grdOf c).x + (grdOf c).w ∧ (grdOf c).y ≤ p.2 ∧ p.2 < (grdOf c).y + (grdOf c).h := by
 obtain ⟨_, e1, e2, e3, e4⟩ := grd_tight h hw
 obtain ⟨b1, b2, b3, b4⟩ := x0_le hp
 omega
theorem un_l {ca cb : Cel} (ha : RCel ca) (hb : RCel cb) (hs : ca.st = cb.st) (hw : (grdOf ca).w = 0) : normC (grdOf cb).st (covG (grdOf cb)) = normC ca.st (covL ca ++ covL cb) := by
 rw [grdOf_st, hs]
 have e := grd_nil ha hw
 refine normC_mem fun q => ?_
 rw [List.mem_append, ← grdOf_cov ha, ← grdOf_cov hb, e]
 simp
theorem un_r {ca cb : Cel} (ha : RCel ca) (hb : RCel cb) (hw : (grdOf cb).w = 0) : normC (grdOf ca).st (covG (grdOf ca)) = normC ca.st (covL ca ++ covL cb) := by
 rw [grdOf_st]
 have e := grd_nil hb hw
 refine normC_mem fun q => ?_
 rw [List.mem_append, ← grdOf_cov ha, ← grdOf_cov hb, e]
 simp
theorem un_x {ca cb : Cel} (ha : RCel ca) (hb : RCel cb) (h1 : (grdOf ca).w ≠ 0) (h2 : (grdOf cb).w ≠ 0) : covL ca ++ covL cb ≠ [] ∧ x0 (covL ca ++ covL cb) = min (grdOf ca).x (grdOf cb).x ∧ x1 (covL ca ++ covL cb) = max ((grdOf ca).x + ((grdOf ca).w : Int)) ((grdOf cb).x + ((grdOf cb).w : Int)) - 1 ∧ y0 (covL ca ++ covL cb) = min (grdOf ca).y (grdOf cb).y ∧ y1 (covL ca ++ covL cb) = max ((grdOf ca).y + ((grdOf ca).h : Int)) ((grdOf cb).y + ((grdOf cb).h : Int)) - 1 := by
 obtain ⟨a0, a1, a2, a3, a4⟩ := grd_tight ha h1
 obtain ⟨b0, b1, b2, b3, b4⟩ := grd_tight hb h2
 have hm : ∀ p, p ∈ covL ca ++ covL cb ↔ p ∈ covG (grdOf ca) ++ covG (grdOf cb) := fun p => by rw [List.mem_append, List.mem_append, grdOf_cov ha, grdOf_cov hb]
 obtain ⟨c1, c2, c3, c4⟩ := x0_mem hm
 obtain ⟨d1, d2, d3, d4⟩ := x0_app a0 b0
 refine ⟨fun e => ?_, by rw [c1, d1, a1, b1], by rw [c2, d2, a2, b2]; omega, by rw [c3, d3, a3, b3], by rw [c4, d4, a4, b4]; omega⟩
 obtain ⟨p, hp⟩ : ∃ p, p ∈ covG (grdOf ca) := List.exists_mem_of_ne_nil _ a0
 have := (hm p).2 (List.mem_append_left _ hp)
 rw [e] at this; cases this
theorem un_e {st : Int} {L : List Spot} (h0 : L ≠ []) (h : 199 < x1 L - x0 L ∨ 199 < y1 L - y0 L) : normC st L = (⟨0, 0, 0, []⟩, 12) := by rw [normC, if_neg h0, if_pos h]
theorem un_g {ca cb : Cel} (ha : RCel ca) (hb : RCel cb) {X Y : Int} {W T : Nat} (h1 : ∀ p ∈ covG (grdOf ca), inBox X Y W T p) (h2 : ∀ p ∈ covG (grdOf cb), inBox X Y W T p) : normC (unG ca.st X Y W T (covG (grdOf ca)) (covG (grdOf cb))).st (covG (unG ca.st X Y W T (covG (grdOf ca)) (covG (grdOf cb)))) = normC ca.st (covL ca ++ covL cb) :=
 normC_mem fun q => by rw [unG_cov h1 h2, List.mem_append, List.mem_append, grdOf_cov ha, grdOf_cov hb]
set_option maxHeartbeats 2000000 in
theorem union_v (va vb : Value) (ca cb : Cel) (ha : RCel ca) (hb : RCel cb) (hs : ca.st = cb.st) : ACalls Tryz.prog 49 [celA va ca, celA vb cb] [] fun u H => ∃ v', u = .t [celA v' (normC ca.st (covL ca ++ covL cb)).1, .c (I (normC ca.st (covL ca ++ covL cb)).2)] ∧ H = [] := by
 have hst := ha.st
 have hsg : 0 ≤ (grdOf ca).st ∧ (grdOf ca).st ≤ 10000 := by rw [grdOf_st]; omega
 have hsk : 0 ≤ (grdOf cb).st ∧ (grdOf cb).st ≤ 10000 := by rw [grdOf_st, ← hs]; omega
 have hga := grdOf_ok ha
 have hgb := grdOf_ok hb
 refine acalls_of (N := 131) Tryz.func49 rfl rfl (by simp) fun E hE => ?_
 refine WA ?_
 refine WR ?_
 refine al_ef rfl (ef_call0 false (fun _ => pair_v va vb ca cb ha hb hs) rfl .fn rfl (by decide) (by kernel_rfl) rfl (fun _ => C0 rfl) (by simp)) ?_
 rintro _ _ ⟨_, _, _, ⟨p1, o1, p2, o2, rfl, rfl⟩, hF, hH⟩
 (refine NST hF hH ?_; clear hF hH; rintro rfl rfl)
 refine WE ?_
 refine WA ?_
 refine aw_cond_f rfl ?_
 refine ZZ ?_
 refine WA ?_
 refine aw_if rfl (fun hg0 => ?_) (fun hg0 => ?_)
 ·have hnf := un_l ha hb hs (by omega)
  generalize normC ca.st (covL ca ++ covL cb) = R at *
  refine WR ?_
  refine al_ef rfl (ef_call0 false (fun _ => cells_v (grdOf cb) p2 o2 hgb hsk) rfl .fn rfl (by decide) (by kernel_rfl) rfl (fun _ => C0 rfl) (by simp)) ?_
  rintro _ _ ⟨_, _, _, ⟨v2, rfl, rfl⟩, hF, hH⟩
  rw [hnf] at hF
  (refine NST hF hH ?_; clear hF hH; rintro rfl rfl)
  refine WE ?_
  exact aret_of (us := [celA v2 R.1, .c (I R.2)]) [] (fun _ => .t [celA v2 R.1, .c (I R.2)]) (fun _ => []) (.cella (n := 4) rfl (by kernel_rfl) (Cells.box rfl) (by simp) (by (try simp only [nm, putL, Nat.reduceAdd, cellsOf, cvOf]) <;> rfl) (.tmp rfl .nil)) (by decide) (fun i hi => absurd hi (Nat.not_lt_zero i)) (fun g' => .tL (.cons (.aL (.cons (.c rfl) (.cons (.c rfl) (.cons (.c rfl) (.cons (.c rfl) .nil))))) (.cons (.c rfl) .nil))) (fun _ => .nil) (fun g' => ⟨v2, rfl, rfl⟩)
 refine WA ?_
 refine aw_if rfl (fun hk0 => ?_) (fun hk0 => ?_)
 ·have hnf := un_r ha hb (by omega)
  generalize normC ca.st (covL ca ++ covL cb) = R at *
  refine WR ?_
  refine al_ef rfl (ef_call0 false (fun _ => cells_v (grdOf ca) p1 o1 hga hsg) rfl .fn rfl (by decide) (by kernel_rfl) rfl (fun _ => C0 rfl) (by simp)) ?_
  rintro _ _ ⟨_, _, _, ⟨v2, rfl, rfl⟩, hF, hH⟩
  rw [hnf] at hF
  (refine NST hF hH ?_; clear hF hH; rintro rfl rfl)
  refine WE ?_
  exact aret_of (us := [celA v2 R.1, .c (I R.2)]) [] (fun _ => .t [celA v2 R.1, .c (I R.2)]) (fun _ => []) (.cella (n := 4) rfl (by kernel_rfl) (Cells.box rfl) (by simp) (by (try simp only [nm, putL, Nat.reduceAdd, cellsOf, cvOf]) <;> rfl) (.tmp rfl .nil)) (by decide) (fun i hi => absurd hi (Nat.not_lt_zero i)) (fun g' => .tL (.cons (.aL (.cons (.c rfl) (.cons (.c rfl) (.cons (.c rfl) (.cons (.c rfl) .nil))))) (.cons (.c rfl) .nil))) (fun _ => .nil) (fun g' => ⟨v2, rfl, rfl⟩)
 have hbg := fun p => box_in (p := p) ha (by omega)
 have hbk := fun p => box_in (p := p) hb (by omega)
 obtain ⟨u0, u1, u2, u3, u4⟩ := un_x ha hb (by omega) (by omega)
 obtain ⟨e1, e2, e3⟩ := grd_bd ha
 obtain ⟨e4, e5, e6⟩ := grd_bd hb
 have e7 := e3 (by omega)
 have e8 := e6 (by omega)
 have hgx := hga.x
 have hgy := hga.y
 have hkx := hgb.x
 have hky := hgb.y
 clear e3 e6
 refine ZZ ?_
 refine aw_wk (wk_of (K := fun F H => F = [(2, .p 0 0 0), (4, .p 1 0 0), (6, gV p1 o1 (grdOf ca)), (7, gV p2 o2 (grdOf cb))] ∧ H = [celB va ca, .box [.c (I 0), .c (I 0), .c (I 0), .c (.r (.slice none 0 0) [])]]) [some 0, some 2] (fun _ => [(2, .p 0 0 0), (4, .p 1 0 0), (6, gV p1 o1 (grdOf ca)), (7, gV p2 o2 (grdOf cb))]) (fun _ => [celB va ca, .box [.c (I 0), .c (I 0), .c (I 0), .c (.r (.slice none 0 0) [])]]) (by decide) (ZNL hE) ZCF ZCH (fun _ => ⟨rfl, rfl⟩)) ?_
 rintro F H ⟨rfl, rfl⟩
 refine ZZ ?_
 refine aw_regionT [(0, none), (1, none), (2, none), (3, none), (4, none), (5, none), (6, none), (7, none), (8, none), (9, none), (10, none), (11, none), (12, none), (13, none), (14, none), (15, none), (16, none), (17, none), (18, none), (19, none)] hMixed (by kernel_rfl) ?_
 refine WQ ?_
 refine ZZ ?_
 refine aw_regionT [(0, none), (1, none), (2, none), (3, none), (4, none), (5, none), (6, none), (7, none), (8, none), (9, none), (10, none), (11, none), (12, none), (13, none), (14, none), (15, none), (16, none), (17, none), (18, none), (19, none), (20, none), (21, none), (22, none), (23, none), (24, none), (25, none), (26, none), (27, none), (28, none), (29, none), (30, none), (31, none), (32, none), (33, none), (34, none), (35, none), (36, none), (37, none), (38, none), (39, none), (40, none), (41, none), (42, none), (43, none)] hMixed (by kernel_rfl) ?_
 refine WQ ?_
 refine aw_wk (wk_of (K := fun F H => F = [(2, .p 0 0 0), (4, .p 1 0 0), (6, gV p1 o1 (grdOf ca)), (7, gV p2 o2 (grdOf cb)), (9, .c (I (min (grdOf ca).x (grdOf cb).x))), (10, .c (I (min (grdOf ca).y (grdOf cb).y))), (11, .c (I (max ((grdOf ca).x + ((grdOf ca).w : Int)) ((grdOf cb).x + ((grdOf cb).w : Int)) - min (grdOf ca).x (grdOf cb).x))), (12, .c (I (max ((grdOf ca).y + ((grdOf ca).h : Int)) ((grdOf cb).y + ((grdOf cb).h : Int)) - min (grdOf ca).y (grdOf cb).y)))] ∧ H = [celB va ca, .box [.c (I 0), .c (I 0), .c (I 0), .c (.r (.slice none 0 0) [])]]) [some 0, some 1] (fun _ => [(2, .p 0 0 0), (4, .p 1 0 0), (6, gV p1 o1 (grdOf ca)), (7, gV p2 o2 (grdOf cb)), (9, .c (I (min (grdOf ca).x (grdOf cb).x))), (10, .c (I (min (grdOf ca).y (grdOf cb).y))), (11, .c (I (max ((grdOf ca).x + ((grdOf ca).w : Int)) ((grdOf cb).x + ((grdOf cb).w : Int)) - min (grdOf ca).x (grdOf cb).x))), (12, .c (I (max ((grdOf ca).y + ((grdOf ca).h : Int)) ((grdOf cb).y + ((grdOf cb).h : Int)) - min (grdOf ca).y (grdOf cb).y)))]) (fun _ => [celB va ca, .box [.c (I 0), .c (I 0), .c (I 0), .c (.r (.slice none 0 0) [])]]) (by decide) (ZNL hE) ZCF ZCH (fun _ => ⟨rfl, rfl⟩)) ?_
 rintro F H ⟨rfl, rfl⟩
 have hng := fun X Y W T h1 h2 => un_g (X := X) (Y := Y) (W := W) (T := T) ha hb h1 h2
 have her := fun h => un_e (st := ca.st) u0 h
 rw [u1, u2, u3, u4] at her
 obtain ⟨W, hWe⟩ : ∃ W : Nat, max ((grdOf ca).x + ((grdOf ca).w : Int)) ((grdOf cb).x + ((grdOf cb).w : Int)) - min (grdOf ca).x (grdOf cb).x = W := ⟨(max ((grdOf ca).x + ((grdOf ca).w : Int)) ((grdOf cb).x + ((grdOf cb).w : Int)) - min (grdOf ca).x (grdOf cb).x).toNat, by omega⟩
 obtain ⟨T, hTe⟩ : ∃ T : Nat, max ((grdOf ca).y + ((grdOf ca).h : Int)) ((grdOf cb).y + ((grdOf cb).h : Int)) - min (grdOf ca).y (grdOf cb).y = T := ⟨(max ((grdOf ca).y + ((grdOf ca).h : Int)) ((grdOf cb).y + ((grdOf cb).h : Int)) - min (grdOf ca).y (grdOf cb).y).toNat, by omega⟩
 rw [hWe, hTe]
 have hW0 : W ≤ 20000300 := by omega
 have hT0 : T ≤ 20000300 := by omega
 have her2 : 200 < W ∨ 200 < T → normC ca.st (covL ca ++ covL cb) = (⟨0, 0, 0, []⟩, 12) := fun h => her (by omega)
 have hi1 : ∀ p ∈ covG (grdOf ca), inBox (min (grdOf ca).x (grdOf cb).x) (min (grdOf ca).y (grdOf cb).y) W T p := fun p hp => by have := hbg p hp; unfold inBox; omega
 have hi2 : ∀ p ∈ covG (grdOf cb), inBox (min (grdOf ca).x (grdOf cb).x) (min (grdOf ca).y (grdOf cb).y) W T p := fun p hp => by have := hbk p hp; unfold inBox; omega
 have hnf := hng _ _ _ _ hi1 hi2
 have hX1 : -10000000 ≤ min (grdOf ca).x (grdOf cb).x ∧ min (grdOf ca).x (grdOf cb).x ≤ 10000000 := by omega
 have hY1 : -10000000 ≤ min (grdOf ca).y (grdOf cb).y ∧ min (grdOf ca).y (grdOf cb).y ≤ 10000000 := by omega
 clear hng her hWe hTe u0 u1 u2 u3 u4 hbg hbk e1 e2 e4 e5 e7 e8 hgx hgy hkx hky
 generalize hG : grdOf ca = G at *
 generalize hK : grdOf cb = K at *
 generalize min G.x K.x = X at *
 generalize min G.y K.y = Y at *
 generalize normC ca.st (covL ca ++ covL cb) = R at *
 by_cases hw2 : 200 < W
 ·obtain rfl := her2 (.inl hw2)
  refine WA ?_
  refine aw_cond_t rfl ?_
  refine WA ?_
  exact aret_of (us := [.a [.c (I 0), .c (I 0), .c (I 0), .c (.r (.slice none 0 0) [])], .c (I 12)]) [] (fun g' => .t [.a [.c (I 0), .c (I 0), .c (I 0), .c (.r (.slice none 0 0) [])], .c (I 12)]) (fun _ => []) (.cella (n := 4) rfl (by kernel_rfl) (Cells.box rfl) (by simp) (by (try simp only [nm, putL, Nat.reduceAdd, cellsOf, cvOf]) <;> rfl) (.tmp rfl .nil)) (by decide) (fun i hi => absurd hi (Nat.not_lt_zero i)) (fun g' => .tL (.cons (.aL (.cons (.c rfl) (.cons (.c rfl) (.cons (.c rfl) (.cons (.c rfl) .nil))))) (.cons (.c rfl) .nil))) (fun _ => .nil) (fun g' => ⟨.slice none 0 0, rfl, rfl⟩)
 by_cases ht2 : 200 < T
 ·obtain rfl := her2 (.inr ht2)
  refine WA ?_
  refine aw_cond_t rfl ?_
  refine WA ?_
  exact aret_of (us := [.a [.c (I 0), .c (I 0), .c (I 0), .c (.r (.slice none 0 0) [])], .c (I 12)]) [] (fun g' => .t [.a [.c (I 0), .c (I 0), .c (I 0), .c (.r (.slice none 0 0) [])], .c (I 12)]) (fun _ => []) (.cella (n := 4) rfl (by kernel_rfl) (Cells.box rfl) (by simp) (by (try simp only [nm, putL, Nat.reduceAdd, cellsOf, cvOf]) <;> rfl) (.tmp rfl .nil)) (by decide) (fun i hi => absurd hi (Nat.not_lt_zero i)) (fun g' => .tL (.cons (.aL (.cons (.c rfl) (.cons (.c rfl) (.cons (.c rfl) (.cons (.c rfl) .nil))))) (.cons (.c rfl) .nil))) (fun _ => .nil) (fun g' => ⟨.slice none 0 0, rfl, rfl⟩)
 clear her2
 have hW1 : W ≤ 1000 := by omega
 have hT1 : T ≤ 1000 := by omega
 refine WA ?_
 refine aw_cond_f rfl ?_
 refine ZZ ?_
 refine WR ?_
 refine al_ef rfl (ef_call0 false (fun _ => newgrid_v ca.st X Y W T hW1 hT1) rfl .fn rfl (by decide) (by kernel_rfl) rfl (fun _ => C0 rfl) (by simp)) ?_
 rintro _ _ ⟨_, _, _, ⟨rfl, rfl⟩, hF, hH⟩
 (refine NST hF hH ?_; clear hF hH; rintro rfl rfl)
 refine WE ?_
 refine aw_wk (wk_of (K := fun F H => F = [(4, .p 0 0 0), (6, gV p1 o1 G), (7, gV p2 o2 K), (13, .p 1 0 0)] ∧ H = [.box [.c (I 0), .c (I 0), .c (I 0), .c (.r (.slice none 0 0) [])], gB ca.st X Y W T 2 (W * T), gArr (W * T) (List.replicate (W * T) false)]) [some 1, some 2, some 3] (fun _ => [(4, .p 0 0 0), (6, gV p1 o1 G), (7, gV p2 o2 K), (13, .p 1 0 0)]) (fun _ => [.box [.c (I 0), .c (I 0), .c (I 0), .c (.r (.slice none 0 0) [])], gB ca.st X Y W T 2 (W * T), gArr (W * T) (List.replicate (W * T) false)]) (by decide) (ZNL hE) ZCF ZCH (fun _ => ⟨rfl, rfl⟩)) ?_
 rintro F H ⟨rfl, rfl⟩
 refine ZR ?_
 iterate 2 refine WX1 ?_
 refine ZA (rd_bound rfl rfl) ?_
 refine al_ef rfl (ef_callp [1, 2] (fun _ => [gB ca.st X Y W T 1 (W * T), gArr (W * T) (List.replicate (W * T) false)]) false (fun _ => each_set G p1 o1 hga ca.st X Y W T (List.replicate (W * T) false) ((by simp)) hW1 hT1 hX1 hY1 hi1) rfl .fn rfl (by decide) (by kernel_rfl) rfl ZCH (by decide) ZCH (by simp)) ?_
 rintro F1 H1 ⟨_, _, _, _, ⟨rfl, rfl⟩, hF, hH⟩
 rw [killF_nil] at hF; (refine NSU hF hH ?_; clear hF hH; rintro rfl rfl)
 refine WE ?_
 refine ZR ?_
 iterate 2 refine WX1 ?_
 refine ZA (rd_bound rfl rfl) ?_
 refine al_ef rfl (ef_callp [1, 2] (fun _ => [gB ca.st X Y W T 1 (W * T), gArr (W * T) (putG X Y W (List.replicate (W * T) false) (covG G))]) false (fun _ => each_set K p2 o2 hgb ca.st X Y W T (putG X Y W (List.replicate (W * T) false) (covG G)) ((by simp [putG_len])) hW1 hT1 hX1 hY1 hi2) rfl .fn rfl (by decide) (by kernel_rfl) rfl ZCH (by decide) ZCH (by simp)) ?_
 rintro F1 H1 ⟨_, _, _, _, ⟨rfl, rfl⟩, hF, hH⟩
 rw [killF_nil] at hF; (refine NSU hF hH ?_; clear hF hH; rintro rfl rfl)
 refine WE ?_
 have hgu : GOk (unG ca.st X Y W T (covG G) (covG K)) := ⟨unG_len, hW1, hT1, hX1, hY1⟩
 refine aw_wk (wk_of (K := fun F H => ∃ pv1 v1, F = [(4, .p 0 0 0), (13, gV pv1 v1 (unG ca.st X Y W T (covG G) (covG K)))] ∧ H = [.box [.c (I 0), .c (I 0), .c (I 0), .c (.r (.slice none 0 0) [])]]) [some 0] (fun f => [(4, .p 0 0 0), (13, gV (f (.p 1 0 0)) (f (.o 2 0 (W * T) (W * T))) (unG ca.st X Y W T (covG G) (covG K)))]) (fun _ => [.box [.c (I 0), .c (I 0), .c (I 0), .c (.r (.slice none 0 0) [])]]) (by decide) (ZNL hE) (fun _ => .cons rfl (.p rfl) (.cons rfl (frzG (g := (unG ca.st X Y W T (covG G) (covG K))) rfl rfl unG_len rfl rfl) .nil)) ZCH (fun _ => ⟨_, _, rfl, rfl⟩)) ?_
 rintro F H ⟨pv1, v1, rfl, rfl⟩
 refine WR ?_
 refine al_ef rfl (ef_call0 false (fun _ => cells_v (unG ca.st X Y W T (covG G) (covG K)) pv1 v1 hgu (by simp only [unG]; omega)) rfl .fn rfl (by decide) (by kernel_rfl) rfl (fun _ => C0 rfl) (by simp)) ?_
 rintro _ _ ⟨_, _, _, ⟨v2, rfl, rfl⟩, hF, hH⟩
 rw [hnf] at hF
 (refine NST hF hH ?_; clear hF hH; rintro rfl rfl)
 refine WE ?_
 exact aret_of (us := [celA v2 R.1, .c (I R.2)]) [] (fun _ => .t [celA v2 R.1, .c (I R.2)]) (fun _ => []) (.cella (n := 4) rfl (by kernel_rfl) (Cells.box rfl) (by simp) (by (try simp only [nm, putL, Nat.reduceAdd, cellsOf, cvOf]) <;> rfl) (.tmp rfl .nil)) (by decide) (fun i hi => absurd hi (Nat.not_lt_zero i)) (fun g' => .tL (.cons (.aL (.cons (.c rfl) (.cons (.c rfl) (.cons (.c rfl) (.cons (.c rfl) .nil))))) (.cons (.c rfl) .nil))) (fun _ => .nil) (fun g' => ⟨v2, rfl, rfl⟩)
end Go.Proofs.YtniolldgidgffaaGreatDoor

/- The reference's places, and a place among places, by value. -/
-- NEWM
namespace Go.Proofs.YtniolldgidgffaaGreatDoor
open Go Go.RowKit
set_option maxRecDepth 100000
end Go.Proofs.YtniolldgidgffaaGreatDoor

/- The reference's cells that are so, by value: these. -/
-- NEWM
namespace Go.Proofs.YtniolldgidgffaaGreatDoor
open Go Go.RowKit
set_option maxRecDepth 100000
end Go.Proofs.YtniolldgidgffaaGreatDoor

/- The reference's walls, by value: WallsOf. -/
-- NEWM
namespace Go.Proofs.YtniolldgidgffaaGreatDoor
open Go Go.RowKit
set_option maxRecDepth 100000
end Go.Proofs.YtniolldgidgffaaGreatDoor

/- The reference's solid cells, by value: SolidOf. -/
-- NEWM
namespace Go.Proofs.YtniolldgidgffaaGreatDoor
open Go Go.RowKit
set_option maxRecDepth 100000
end Go.Proofs.YtniolldgidgffaaGreatDoor

/- The reference's faults of layers and styles; first, errs, when, by value. -/
-- NEWM
namespace Go.Proofs.YtniolldgidgffaaGreatDoor
open Go Go.RowKit
set_option maxRecDepth 100000
def fstN : List Int → Int
 | [] => 0
 | a :: l => if a = 0 then fstN l else a
theorem fstN_drop {l : List Int} {k : Nat} {n : Int} (h : l[k]? = some n) : fstN (l.drop k) = if n = 0 then fstN (l.drop (k + 1)) else n := by
 obtain ⟨h1, h2⟩ := List.getElem?_eq_some_iff.1 h
 rw [List.drop_eq_getElem_cons h1, h2]; rfl
abbrev nR (l : List Int) : List (List CV) := l.map fun n => [I n]
end Go.Proofs.YtniolldgidgffaaGreatDoor

/- Cells that are the same, fillings that are the same, by value. -/
-- NEWM
namespace Go.Proofs.YtniolldgidgffaaGreatDoor
open Go Go.RowKit
set_option maxRecDepth 100000
theorem rd_neqsqs {P : Program} {N : Nat} {E : Env} {F : Fm} {H : List OB} {o : Oper} {t yt : TypeId} {x y : Operand} {a b : List UInt8} {q : Bool} (h : decide (a ≠ b) = q) (ho : o.op = .binOp .neq t x y yt) (ht : P.underlying t = some .string) (hx : ev F x = some (.c (T a))) (hy : ev F y = some (.c (T b))) : Rd P N E o F H (.c (B q)) := h ▸ rd_neqs ho ht hx hy
theorem eqstr_v (va vb : Value) (rows : List (List UInt8)) (hl : rows.length ≤ 1000000000) : ACalls Tryz.prog 107 [.c (.r va (tR rows)), .c (.r vb (tR rows))] [] fun u H => u = .c (B true) ∧ H = [] := by
 have e1 : (tR rows).length = rows.length := by simp
 refine acalls_of (N := 26) Tryz.func107 rfl rfl (by simp) fun E hE => ?_
 refine WA ?_
 refine WA ?_
 refine aw_cond_f rfl ?_
 refine ZZ ?_
 refine WA ?_
 refine aw_loopw (fun m F H => ∃ k : Nat, m + k = rows.length ∧ F = [(0, .c (.r va (tR rows))), (1, .c (.r vb (tR rows))), (12, .c (I (tR rows).length)), (13, .c (I k))] ∧ H = []) ?_ ?_
 ·refine wk_of [] (fun _ => [(0, .c (.r va (tR rows))), (1, .c (.r vb (tR rows))), (12, .c (I (tR rows).length)), (13, .c (I (0 : Nat)))]) (fun _ => _) (by decide) (ZNL hE) ZCF (fun _ => .nil) (fun _ => ?_)
  exact ⟨rows.length, 0, by omega, rfl, rfl⟩
 rintro m F H ⟨k, hk, rfl, rfl⟩
 refine WA ?_
 refine aw_if rfl (fun hlt => ?_) (fun hge => ?_)
 ·obtain ⟨r, hri⟩ : ∃ r, rows[k]? = some r := ⟨_, List.getElem?_eq_getElem (by omega)⟩
  have hrow : (tR rows)[k]? = some [T r] := by rw [List.getElem?_map, hri]; rfl
  refine WA ?_
  refine ZZ ?_
  refine aw_regionT [(0, none), (1, none), (2, none), (3, none), (4, none), (5, none), (6, none), (7, none), (8, none)] hMixed (by kernel_rfl) ?_
  iterate 8 refine WX2 ?_
  refine ZT rfl (rd_neqsqs (decide_eq_false (fun h => h rfl)) rfl Tryz.underlying9 rfl rfl) ?_
  refine WQ ?_
  refine aw_cond_f rfl ?_
  refine ZZ ?_
  refine WA ?_
  refine wk_of [] (fun _ => [(0, .c (.r va (tR rows))), (1, .c (.r vb (tR rows))), (12, .c (I (tR rows).length)), (13, .c (I (k + 1 : Nat)))]) (fun _ => _) (by decide) (ZNL hE) ZCF (fun _ => .nil) (fun _ => ?_)
  exact ⟨m - 1, by omega, k + 1, by omega, rfl, rfl⟩
 refine ZZ ?_
 refine WA ?_
 exact aret_1 [] _ rfl rfl rfl (by decide) (ZNK rfl) (fun _ => .nil) ⟨rfl, rfl⟩
theorem samec_v (va vb : Value) (c : Cel) (hl : c.rows.length ≤ 1000000000) : ACalls Tryz.prog 34 [celA va c, celA vb c] [] fun u H => u = .c (B true) ∧ H = [] := by
 obtain ⟨st, x, y, rows⟩ := c
 simp only at hl
 have h1 : st = st := rfl
 have h2 : x = x := rfl
 have h3 : y = y := rfl
 refine acalls_of (N := 31) Tryz.func34 rfl rfl (by simp) fun E hE => ?_
 refine WA ?_
 refine WR ?_
 first | refine ZS ?_ | (refine G1 rfl ?_; refine al_ef rfl (ef_call0 false (fun _ => eqstr_v va vb rows hl) rfl .fn rfl (by decide) (by kernel_rfl) rfl (fun _ => C0 rfl) (by simp)) ?_; rintro _ _ ⟨_, _, _, ⟨rfl, rfl⟩, hF, hH⟩; (refine NST hF hH ?_; clear hF hH; rintro rfl rfl)) | skip
 refine WE ?_
 exact aret_1 [] _ rfl rfl rfl (by decide) (ZNK rfl) (fun _ => .nil) ⟨rfl, rfl⟩
structure Fil where
 w : Value
 lv : List (Value × Cel)
 s : Value × Cel
 p : Value × Cel
abbrev filR (f : Fil) : List CV := [.r f.w (cR f.lv), I f.s.2.st, I f.s.2.x, I f.s.2.y, .r f.s.1 (tR f.s.2.rows), I f.p.2.st, I f.p.2.x, I f.p.2.y, .r f.p.1 (tR f.p.2.rows)]
def filC (f : Fil) : List Cel × Cel × Cel := (f.lv.map Prod.snd, f.s.2, f.p.2)
structure FilOk (f : Fil) : Prop where
 n : f.lv.length ≤ 1000000
 r : ∀ p ∈ f.lv, RCel p.2
 s : RCel f.s.2
 p : RCel f.p.2
abbrev fR (l : List Fil) : List (List CV) := l.map filR
end Go.Proofs.YtniolldgidgffaaGreatDoor
