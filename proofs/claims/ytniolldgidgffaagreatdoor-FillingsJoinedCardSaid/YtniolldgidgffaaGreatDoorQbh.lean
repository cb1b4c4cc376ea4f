/- The reference's solid cells, by value: SolidOf. -/
import Derived.Test.YtniolldgidgffaaGreatDoorQax
import Derived.Test.YtniolldgidgffaaGreatDoorQbg
import Derived.Test.YtniolldgidgffaaGreatDoorQbf
set_option linter.unusedSimpArgs false
set_option linter.unusedVariables false
/- The union of cells, by value: Union. -/
-- NEWM
namespace Go.Proofs.YtniolldgidgffaaGreatDoor
open Go Go.RowKit
set_option maxRecDepth 100000
theorem covK_in {g : Grd} {k : Nat} {p : Spot} (h : p ∈ covK g k) (hk : k ≤ g.on.length) : p ∈ covG g := by
 unfold covG covK at *
 obtain ⟨i, hi, rfl⟩ := List.mem_map.1 h
 rw [List.mem_filter, List.mem_range] at hi
 exact List.mem_map.2 ⟨i, List.mem_filter.2 ⟨List.mem_range.2 (by omega), hi.2⟩, rfl⟩
set_option maxHeartbeats 2000000 in
theorem each_set (g : Grd) (pv v : Value) (hg : GOk g) (st x y : Int) (w h : Nat) (on : List Bool) (hon : on.length = w * h) (hw : w ≤ 1000) (hh : h ≤ 1000) (hx : -10000000 ≤ x ∧ x ≤ 10000000) (hy : -10000000 ≤ y ∧ y ≤ 10000000) (hin : ∀ p ∈ covG g, inBox x y w h p) : ACallsX true Tryz.prog 95 [gV pv v g, .f (.via 0 #[] 122 false) [.p 0 0 0]] [gB st x y w h 1 (w * h), gArr (w * h) on] fun u H => u = .t [] ∧ H = [gB st x y w h 1 (w * h), gArr (w * h) (putG x y w on (covG g))] := by
 have hn := hg.n
 have hgx := hg.x
 have hgy := hg.y
 have hnb : w * h ≤ 1000000 := Nat.le_trans (Nat.mul_le_mul hw hh) (by decide)
 have eo : (oR g.on).length = g.on.length := by simp
 refine acallsx_of true (N := 42) Tryz.func95 rfl rfl (by simp) fun E hE hP => ?_
 refine WA ?_
 refine aw_loopw (fun m F H => ∃ k : Nat, m + k = g.on.length ∧ F = [(0, gV pv v g), (1, .f (.via 0 #[] 122 false) [.p 0 0 0]), (9, .c (.r v (oR g.on))), (10, .c (I (oR g.on).length)), (11, .c (I k))] ∧ H = [gB st x y w h 1 (w * h), gArr (w * h) (putG x y w on (covK g k))]) ?_ ?_
 ·refine wk_of [some 0, some 1] (fun _ => [(0, gV pv v g), (1, .f (.via 0 #[] 122 false) [.p 0 0 0]), (9, .c (.r v (oR g.on))), (10, .c (I (oR g.on).length)), (11, .c (I (0 : Nat)))]) (fun _ => [gB st x y w h 1 (w * h), gArr (w * h) on]) (by decide) (ZNL hE) ZCF ZCH (fun _ => ?_)
  exact ⟨g.on.length, 0, by omega, rfl, rfl⟩
 rintro m F H ⟨k, hk, rfl, rfl⟩
 refine WA ?_
 refine aw_if rfl (fun hlt => ?_) (fun hge => ?_)
 ·have hkn : k < g.on.length := by omega
  obtain ⟨b, hb⟩ : ∃ b, g.on[k]? = some b := ⟨_, List.getElem?_eq_getElem hkn⟩
  have hrow : (oR g.on)[k]? = some [B b] := by rw [List.getElem?_map, hb]; rfl
  obtain ⟨w1, ⟨w2, w3⟩, w4, w5⟩ := each_at hg hkn
  have hnx := covK_next hb
  have hol : (putG x y w on (covK g k)).length = w * h := by rw [putG_len, hon]
  have hnext : putG x y w on (covK g (k + 1)) = if b = true then (putG x y w on (covK g k)).set (ixG x y w (spt g k)) true else putG x y w on (covK g k) := by
   rw [hnx]
   cases b with
   | true => rw [if_pos rfl, if_pos rfl, putG_snoc]
   | false => rw [if_neg (by simp), if_neg (by simp), List.append_nil]
  generalize hon1e : putG x y w on (covK g k) = on1 at *
  refine WA ?_
  refine WA ?_
  cases b with
  | true =>
   rw [if_pos rfl] at hnext
   have hsp : spt g k ∈ covG g := covG_mem.2 ⟨k, hb, rfl⟩
   have hbx := hin _ hsp
   rw [← spt_eq] at hnext hbx
   obtain ⟨i1, i2, _⟩ := ix_box hbx
   have hbx2 := hbx
   unfold inBox at hbx2
   simp only at hbx2 i1
   refine aw_cond_t rfl ?_
   refine ZZ ?_
   refine aw_regionT [(0, none), (1, none), (2, none), (3, none), (4, none), (5, none), (6, none), (7, none), (8, none), (9, none), (10, none), (11, none), (12, none), (13, none), (14, none), (15, none), (16, none), (17, none), (18, none), (19, none), (20, none), (21, none), (22, none), (23, some [])] hMixed (by kernel_rfl) ?_
   refine WP ?_
   refine at_ef rfl rfl (ef_callp [0, 1] (fun _ => [gB st x y w h 1 (w * h), gArr (w * h) on1]) false (fun _ => set_v st x y w h on1 (w * h) (g.x + (k : Int) % (g.w : Int)) (g.y + (k : Int) / (g.w : Int)) _ hol i1 i2 hnb (by omega) (by omega) hx hy) rfl (.bnd rfl) rfl (by decide) (by kernel_rfl) rfl (fun _ => .cons (.p rfl) (.cons (.c rfl) (.cons (.c rfl) .nil))) (by decide) ZCH (by simp)) ?_
   rintro F1 H1 ⟨_, _, _, _, ⟨rfl, rfl⟩, hF, hH⟩
   rw [killF_nil] at hF; (refine NSU hF hH ?_; clear hF hH; rintro rfl rfl)
   refine ⟨ag_none, ?_⟩
   refine WQ ?_
   refine WA ?_
   refine wk_of [some 0, some 1] (fun _ => [(0, gV pv v g), (1, .f (.via 0 #[] 122 false) [.p 0 0 0]), (9, .c (.r v (oR g.on))), (10, .c (I (oR g.on).length)), (11, .c (I (k + 1 : Nat)))]) (fun _ => [gB st x y w h 1 (w * h), gArr (w * h) (on1.set (ixG x y w (g.x + (k : Int) % (g.w : Int), g.y + (k : Int) / (g.w : Int))) true)]) (by decide) (ZNL hE) ZCF ZCH (fun _ => ?_)
   exact ⟨m - 1, by omega, k + 1, by omega, rfl, by rw [hnext]⟩
  | false =>
   rw [if_neg (by simp)] at hnext
   refine aw_cond_f rfl ?_
   refine ZZ ?_
   refine WA ?_
   refine wk_of [some 0, some 1] (fun _ => [(0, gV pv v g), (1, .f (.via 0 #[] 122 false) [.p 0 0 0]), (9, .c (.r v (oR g.on))), (10, .c (I (oR g.on).length)), (11, .c (I (k + 1 : Nat)))]) (fun _ => [gB st x y w h 1 (w * h), gArr (w * h) on1]) (by decide) (ZNL hE) ZCF ZCH (fun _ => ?_)
   exact ⟨m - 1, by omega, k + 1, by omega, rfl, by rw [hnext]⟩
 obtain rfl : k = g.on.length := by omega
 rw [show covK g g.on.length = covG g from rfl]
 refine ZZ ?_
 exact aret_0 [some 0, some 1] (fun _ => [gB st x y w h 1 (w * h), gArr (w * h) (putG x y w on (covG g))]) (.inr rfl) rfl (by decide) (ZNK rfl) ZCH (fun _ => ⟨rfl, rfl⟩)
theorem grd_bd {c : Cel} (h : RCel c) : (grdOf c).w ≤ 200 ∧ (grdOf c).h ≤ 200 ∧ ((grdOf c).w ≠ 0 → 0 < (grdOf c).h) := by
 have h1 := h.w
 have h2 := h.h
 unfold grdOf
 split
 ·simp
 ·rename_i e
  refine ⟨h1, h2, fun _ => ?_⟩
  cases hr : c.rows with
  | nil => exact absurd hr e
  | cons => simp
theorem box_in {c : Cel} (h : RCel c) (hw : (grdOf c).w ≠ 0) {p : Spot} (hp : p ∈ covG (grdOf c)) : (grdOf c).x ≤ p.1 ∧ p.1 < (grdOf c).x + (grdOf c).w ∧ (grdOf c).y ≤ p.2 ∧ p.2 < (grdOf c).y + (grdOf c).h := by
 obtain ⟨_, e1, e2, e3, e4⟩ := grd_tight h hw
 obtain ⟨b1, b2, b3, b4⟩ := x0_le hp
 omega
theorem un_l {ca cb : Cel} (ha : RCel ca) (hb : RCel cb) (hs : ca.st = cb.st) (hw : (grdOf ca).w = 0) : normC (grdOf cb).st (covG (grdOf cb)) = normC ca.st (covL ca ++ covL cb) := by
 rw [grdOf_st, hs]
 have e := grd_nil ha hw
 refine normC_mem fun q => ?_
 rw [List.mem_append, ← grdOf_cov ha, ← grdOf_cov hb, e]
 simp
theorem un_r {ca cb : Cel} (ha : RCel ca) (hb : RCel cb) (hw : (grdOf cb).w = 0) : normC (grdOf ca).st (covG (grdOf ca)) = normC ca.st (covL ca ++ covL cb) := by
 rw [grdOf_st]
 have e := grd_nil hb hw
 refine normC_mem fun q => ?_
 rw [List.mem_append, ← grdOf_cov ha, ← grdOf_cov hb, e]
 simp
theorem un_x {ca cb : Cel} (ha : RCel ca) (hb : RCel cb) (h1 : (grdOf ca).w ≠ 0) (h2 : (grdOf cb).w ≠ 0) : covL ca ++ covL cb ≠ [] ∧ x0 (covL ca ++ covL cb) = min (grdOf ca).x (grdOf cb).x ∧ x1 (covL ca ++ covL cb) = max ((grdOf ca).x + ((grdOf ca).w : Int)) ((grdOf cb).x + ((grdOf cb).w : Int)) - 1 ∧ y0 (covL ca ++ covL cb) = min (grdOf ca).y (grdOf cb).y ∧ y1 (covL ca ++ covL cb) = max ((grdOf ca).y + ((grdOf ca).h : Int)) ((grdOf cb).y + ((grdOf cb).h : Int)) - 1 := by
 obtain ⟨a0, a1, a2, a3, a4⟩ := grd_tight ha h1
 obtain ⟨b0, b1, b2, b3, b4⟩ := grd_tight hb h2
 have hm : ∀ p, p ∈ covL ca ++ covL cb ↔ p ∈ covG (grdOf ca) ++ covG (grdOf cb) := fun p => by rw [List.mem_append, List.mem_append, grdOf_cov ha, grdOf_cov hb]
 obtain ⟨c1, c2, c3, c4⟩ := x0_mem hm
 obtain ⟨d1, d2, d3, d4⟩ := x0_app a0 b0
 refine ⟨fun e => ?_, by rw [c1, d1, a1, b1], by rw [c2, d2, a2, b2]; omega, by rw [c3, d3, a3, b3], by rw [c4, d4, a4, b4]; omega⟩
 obtain ⟨p, hp⟩ : ∃ p, p ∈ covG (grdOf ca) := List.exists_mem_of_ne_nil _ a0
 have := (hm p).2 (List.mem_append_left _ hp)
 rw [e] at this; cases this
theorem un_e {st : Int} {L : List Spot} (h0 : L ≠ []) (h : 199 < x1 L - x0 L ∨ 199 < y1 L - y0 L) : normC st L = (⟨0, 0, 0, []⟩, 12) := by rw [normC, if_neg h0, if_pos h]
theorem un_g {ca cb : Cel} (ha : RCel ca) (hb : RCel cb) {X Y : Int} {W T : Nat} (h1 : ∀ p ∈ covG (grdOf ca), inBox X Y W T p) (h2 : ∀ p ∈ covG (grdOf cb), inBox X Y W T p) : normC (unG ca.st X Y W T (covG (grdOf ca)) (covG (grdOf cb))).st (covG (unG ca.st X Y W T (covG (grdOf ca)) (covG (grdOf cb)))) = normC ca.st (covL ca ++ covL cb) :=
 normC_mem fun q => by rw [unG_cov h1 h2, List.mem_append, List.mem_append, grdOf_cov ha, grdOf_cov hb]
set_option maxHeartbeats 2000000 in
theorem union_v (va vb : Value) (ca cb : Cel) (ha : RCel ca) (hb : RCel cb) (hs : ca.st = cb.st) : ACalls Tryz.prog 49 [celA va ca, celA vb cb] [] fun u H => ∃ v', u = .t [celA v' (normC ca.st (covL ca ++ covL cb)).1, .c (I (normC ca.st (covL ca ++ covL cb)).2)] ∧ H = [] := by
 have hst := ha.st
 have hsg : 0 ≤ (grdOf ca).st ∧ (grdOf ca).st ≤ 10000 := by rw [grdOf_st]; omega
 have hsk : 0 ≤ (grdOf cb).st ∧ (grdOf cb).st ≤ 10000 := by rw [grdOf_st, ← hs]; omega
 have hga := grdOf_ok ha
 have hgb := grdOf_ok hb
 refine acalls_of (N := 131) Tryz.func49 rfl rfl (by simp) fun E hE => ?_
 refine WA ?_
 refine WR ?_
 refine al_ef rfl (ef_call0 false (fun _ => pair_v va vb ca cb ha hb hs) rfl .fn rfl (by decide) (by kernel_rfl) rfl (fun _ => C0 rfl) (by simp)) ?_
 rintro _ _ ⟨_, _, _, ⟨p1, o1, p2, o2, rfl, rfl⟩, hF, hH⟩
 (refine NST hF hH ?_; clear hF hH; rintro rfl rfl)
 refine WE ?_
 refine WA ?_
 refine aw_cond_f rfl ?_
 refine ZZ ?_
 refine WA ?_
 refine aw_if rfl (fun hg0 => ?_) (fun hg0 => ?_)
 ·have hnf := un_l ha hb hs (by omega)
  generalize normC ca.st (covL ca ++ covL cb) = R at *
  refine WR ?_
  refine al_ef rfl (ef_call0 false (fun _ => cells_v (grdOf cb) p2 o2 hgb hsk) rfl .fn rfl (by decide) (by kernel_rfl) rfl (fun _ => C0 rfl) (by simp)) ?_
  rintro _ _ ⟨_, _, _, ⟨v2, rfl, rfl⟩, hF, hH⟩
  rw [hnf] at hF
  (refine NST hF hH ?_; clear hF hH; rintro rfl rfl)
  refine WE ?_
  exact aret_of (us := [celA v2 R.1, .c (I R.2)]) [] (fun _ => .t [celA v2 R.1, .c (I R.2)]) (fun _ => []) (.cella (n := 4) rfl (by kernel_rfl) (Cells.box rfl) (by simp) (by (try simp only [nm, putL, Nat.reduceAdd, cellsOf, cvOf]) <;> rfl) (.tmp rfl .nil)) (by decide) (fun i hi => absurd hi (Nat.not_lt_zero i)) (fun g' => .tL (.cons (.aL (.cons (.c rfl) (.cons (.c rfl) (.cons (.c rfl) (.cons (.c rfl) .nil))))) (.cons (.c rfl) .nil))) (fun _ => .nil) (fun g' => ⟨v2, rfl, rfl⟩)
 refine WA ?_
 refine aw_if rfl (fun hk0 => ?_) (fun hk0 => ?_)
 ·have hnf := un_r ha hb (by omega)
  generalize normC ca.st (covL ca ++ covL cb) = R at *
  refine WR ?_
  refine al_ef rfl (ef_call0 false (fun _ => cells_v (grdOf ca) p1 o1 hga hsg) rfl .fn rfl (by decide) (by kernel_rfl) rfl (fun _ => C0 rfl) (by simp)) ?_
  rintro _ _ ⟨_, _, _, ⟨v2, rfl, rfl⟩, hF, hH⟩
  rw [hnf] at hF
  (refine NST hF hH ?_; clear hF hH; rintro rfl rfl)
  refine WE ?_
  exact aret_of (us := [celA v2 R.1, .c (I R.2)]) [] (fun _ => .t [celA v2 R.1, .c (I R.2)]) (fun _ => []) (.cella (n := 4) rfl (by kernel_rfl) (Cells.box rfl) (by simp) (by (try simp only [nm, putL, Nat.reduceAdd, cellsOf, cvOf]) <;> rfl) (.tmp rfl .nil)) (by decide) (fun i hi => absurd hi (Nat.not_lt_zero i)) (fun g' => .tL (.cons (.aL (.cons (.c rfl) (.cons (.c rfl) (.cons (.c rfl) (.cons (.c rfl) .nil))))) (.cons (.c rfl) .nil))) (fun _ => .nil) (fun g' => ⟨v2, rfl, rfl⟩)
 have hbg := fun p => box_in (p := p) ha (by omega)
 have hbk := fun p => box_in (p := p) hb (by omega)
 obtain ⟨u0, u1, u2, u3, u4⟩ := un_x ha hb (by omega) (by omega)
 obtain ⟨e1, e2, e3⟩ := grd_bd ha
 obtain ⟨e4, e5, e6⟩ := grd_bd hb
 have e7 := e3 (by omega)
 have e8 := e6 (by omega)
 have hgx := hga.x
 have hgy := hga.y
 have hkx := hgb.x
 have hky := hgb.y
 clear e3 e6
 refine ZZ ?_
 refine aw_wk (wk_of (K := fun F H => F = [(2, .p 0 0 0), (4, .p 1 0 0), (6, gV p1 o1 (grdOf ca)), (7, gV p2 o2 (grdOf cb))] ∧ H = [celB va ca, .box [.c (I 0), .c (I 0), .c (I 0), .c (.r (.slice none 0 0) [])]]) [some 0, some 2] (fun _ => [(2, .p 0 0 0), (4, .p 1 0 0), (6, gV p1 o1 (grdOf ca)), (7, gV p2 o2 (grdOf cb))]) (fun _ => [celB va ca, .box [.c (I 0), .c (I 0), .c (I 0), .c (.r (.slice none 0 0) [])]]) (by decide) (ZNL hE) ZCF ZCH (fun _ => ⟨rfl, rfl⟩)) ?_
 rintro F H ⟨rfl, rfl⟩
 refine ZZ ?_
 refine aw_regionT [(0, none), (1, none), (2, none), (3, none), (4, none), (5, none), (6, none), (7, none), (8, none), (9, none), (10, none), (11, none), (12, none), (13, none), (14, none), (15, none), (16, none), (17, none), (18, none), (19, none)] hMixed (by kernel_rfl) ?_
 refine WQ ?_
 refine ZZ ?_
 refine aw_regionT [(0, none), (1, none), (2, none), (3, none), (4, none), (5, none), (6, none), (7, none), (8, none), (9, none), (10, none), (11, none), (12, none), (13, none), (14, none), (15, none), (16, none), (17, none), (18, none), (19, none), (20, none), (21, none), (22, none), (23, none), (24, none), (25, none), (26, none), (27, none), (28, none), (29, none), (30, none), (31, none), (32, none), (33, none), (34, none), (35, none), (36, none), (37, none), (38, none), (39, none), (40, none), (41, none), (42, none), (43, none)] hMixed (by kernel_rfl) ?_
 refine WQ ?_
 refine aw_wk (wk_of (K := fun F H => F = [(2, .p 0 0 0), (4, .p 1 0 0), (6, gV p1 o1 (grdOf ca)), (7, gV p2 o2 (grdOf cb)), (9, .c (I (min (grdOf ca).x (grdOf cb).x))), (10, .c (I (min (grdOf ca).y (grdOf cb).y))), (11, .c (I (max ((grdOf ca).x + ((grdOf ca).w : Int)) ((grdOf cb).x + ((grdOf cb).w : Int)) - min (grdOf ca).x (grdOf cb).x))), (12, .c (I (max ((grdOf ca).y + ((grdOf ca).h : Int)) ((grdOf cb).y + ((grdOf cb).h : Int)) - min (grdOf ca).y (grdOf cb).y)))] ∧ H = [celB va ca, .box [.c (I 0), .c (I 0), .c (I 0), .c (.r (.slice none 0 0) [])]]) [some 0, some 1] (fun _ => [(2, .p 0 0 0), (4, .p 1 0 0), (6, gV p1 o1 (grdOf ca)), (7, gV p2 o2 (grdOf cb)), (9, .c (I (min (grdOf ca).x (grdOf cb).x))), (10, .c (I (min (grdOf ca).y (grdOf cb).y))), (11, .c (I (max ((grdOf ca).x + ((grdOf ca).w : Int)) ((grdOf cb).x + ((grdOf cb).w : Int)) - min (grdOf ca).x (grdOf cb).x))), (12, .c (I (max ((grdOf ca).y + ((grdOf ca).h : Int)) ((grdOf cb).y + ((grdOf cb).h : Int)) - min (grdOf ca).y (grdOf cb).y)))]) (fun _ => [celB va ca, .box [.c (I 0), .c (I 0), .c (I 0), .c (.r (.slice none 0 0) [])]]) (by decide) (ZNL hE) ZCF ZCH (fun _ => ⟨rfl, rfl⟩)) ?_
 rintro F H ⟨rfl, rfl⟩
 have hng := fun X Y W T h1 h2 => un_g (X := X) (Y := Y) (W := W) (T := T) ha hb h1 h2
 have her := fun h => un_e (st := ca.st) u0 h
 rw [u1, u2, u3, u4] at her
 obtain ⟨W, hWe⟩ : ∃ W : Nat, max ((grdOf ca).x + ((grdOf ca).w : Int)) ((grdOf cb).x + ((grdOf cb).w : Int)) - min (grdOf ca).x (grdOf cb).x = W := ⟨(max ((grdOf ca).x + ((grdOf ca).w : Int)) ((grdOf cb).x + ((grdOf cb).w : Int)) - min (grdOf ca).x (grdOf cb).x).toNat, by omega⟩
 obtain ⟨T, hTe⟩ : ∃ T : Nat, max ((grdOf ca).y + ((grdOf ca).h : Int)) ((grdOf cb).y + ((grdOf cb).h : Int)) - min (grdOf ca).y (grdOf cb).y = T := ⟨(max ((grdOf ca).y + ((grdOf ca).h : Int)) ((grdOf cb).y + ((grdOf cb).h : Int)) - min (grdOf ca).y (grdOf cb).y).toNat, by omega⟩
 rw [hWe, hTe]
 have hW0 : W ≤ 20000300 := by omega
 have hT0 : T ≤ 20000300 := by omega
 have her2 : 200 < W ∨ 200 < T → normC ca.st (covL ca ++ covL cb) = (⟨0, 0, 0, []⟩, 12) := fun h => her (by omega)
 have hi1 : ∀ p ∈ covG (grdOf ca), inBox (min (grdOf ca).x (grdOf cb).x) (min (grdOf ca).y (grdOf cb).y) W T p := fun p hp => by have := hbg p hp; unfold inBox; omega
 have hi2 : ∀ p ∈ covG (grdOf cb), inBox (min (grdOf ca).x (grdOf cb).x) (min (grdOf ca).y (grdOf cb).y) W T p := fun p hp => by have := hbk p hp; unfold inBox; omega
 have hnf := hng _ _ _ _ hi1 hi2
 have hX1 : -10000000 ≤ min (grdOf ca).x (grdOf cb).x ∧ min (grdOf ca).x (grdOf cb).x ≤ 10000000 := by omega
 have hY1 : -10000000 ≤ min (grdOf ca).y (grdOf cb).y ∧ min (grdOf ca).y (grdOf cb).y ≤ 10000000 := by omega
 clear hng her hWe hTe u0 u1 u2 u3 u4 hbg hbk e1 e2 e4 e5 e7 e8 hgx hgy hkx hky
 generalize hG : grdOf ca = G at *
 generalize hK : grdOf cb = K at *
 generalize min G.x K.x = X at *
 generalize min G.y K.y = Y at *
 generalize normC ca.st (covL ca ++ covL cb) = R at *
 by_cases hw2 : 200 < W
 ·obtain rfl := her2 (.inl hw2)
  refine WA ?_
  refine aw_cond_t rfl ?_
  refine WA ?_
  exact aret_of (us := [.a [.c (I 0), .c (I 0), .c (I 0), .c (.r (.slice none 0 0) [])], .c (I 12)]) [] (fun g' => .t [.a [.c (I 0), .c (I 0), .c (I 0), .c (.r (.slice none 0 0) [])], .c (I 12)]) (fun _ => []) (.cella (n := 4) rfl (by kernel_rfl) (Cells.box rfl) (by simp) (by (try simp only [nm, putL, Nat.reduceAdd, cellsOf, cvOf]) <;> rfl) (.tmp rfl .nil)) (by decide) (fun i hi => absurd hi (Nat.not_lt_zero i)) (fun g' => .tL (.cons (.aL (.cons (.c rfl) (.cons (.c rfl) (.cons (.c rfl) (.cons (.c rfl) .nil))))) (.cons (.c rfl) .nil))) (fun _ => .nil) (fun g' => ⟨.slice none 0 0, rfl, rfl⟩)
 by_cases ht2 : 200 < T
 ·obtain rfl := her2 (.inr ht2)
  refine WA ?_
  refine aw_cond_t rfl ?_
  refine WA ?_
  exact aret_of (us := [.a [.c (I 0), .c (I 0), .c (I 0), .c (.r (.slice none 0 0) [])], .c (I 12)]) [] (fun g' => .t [.a [.c (I 0), .c (I 0), .c (I 0), .c (.r (.slice none 0 0) [])], .c (I 12)]) (fun _ => []) (.cella (n := 4) rfl (by kernel_rfl) (Cells.box rfl) (by simp) (by (try simp only [nm, putL, Nat.reduceAdd, cellsOf, cvOf]) <;> rfl) (.tmp rfl .nil)) (by decide) (fun i hi => absurd hi (Nat.not_lt_zero i)) (fun g' => .tL (.cons (.aL (.cons (.c rfl) (.cons (.c rfl) (.cons (.c rfl) (.cons (.c rfl) .nil))))) (.cons (.c rfl) .nil))) (fun _ => .nil) (fun g' => ⟨.slice none 0 0, rfl, rfl⟩)
 clear her2
 have hW1 : W ≤ 1000 := by omega
 have hT1 : T ≤ 1000 := by omega
 refine WA ?_
 refine aw_cond_f rfl ?_
 refine ZZ ?_
 refine WR ?_
 refine al_ef rfl (ef_call0 false (fun _ => newgrid_v ca.st X Y W T hW1 hT1) rfl .fn rfl (by decide) (by kernel_rfl) rfl (fun _ => C0 rfl) (by simp)) ?_
 rintro _ _ ⟨_, _, _, ⟨rfl, rfl⟩, hF, hH⟩
 (refine NST hF hH ?_; clear hF hH; rintro rfl rfl)
 refine WE ?_
 refine aw_wk (wk_of (K := fun F H => F = [(4, .p 0 0 0), (6, gV p1 o1 G), (7, gV p2 o2 K), (13, .p 1 0 0)] ∧ H = [.box [.c (I 0), .c (I 0), .c (I 0), .c (.r (.slice none 0 0) [])], gB ca.st X Y W T 2 (W * T), gArr (W * T) (List.replicate (W * T) false)]) [some 1, some 2, some 3] (fun _ => [(4, .p 0 0 0), (6, gV p1 o1 G), (7, gV p2 o2 K), (13, .p 1 0 0)]) (fun _ => [.box [.c (I 0), .c (I 0), .c (I 0), .c (.r (.slice none 0 0) [])], gB ca.st X Y W T 2 (W * T), gArr (W * T) (List.replicate (W * T) false)]) (by decide) (ZNL hE) ZCF ZCH (fun _ => ⟨rfl, rfl⟩)) ?_
 rintro F H ⟨rfl, rfl⟩
 refine ZR ?_
 iterate 2 refine WX1 ?_
 refine ZA (rd_bound rfl rfl) ?_
 refine al_ef rfl (ef_callp [1, 2] (fun _ => [gB ca.st X Y W T 1 (W * T), gArr (W * T) (List.replicate (W * T) false)]) false (fun _ => each_set G p1 o1 hga ca.st X Y W T (List.replicate (W * T) false) ((by simp)) hW1 hT1 hX1 hY1 hi1) rfl .fn rfl (by decide) (by kernel_rfl) rfl ZCH (by decide) ZCH (by simp)) ?_
 rintro F1 H1 ⟨_, _, _, _, ⟨rfl, rfl⟩, hF, hH⟩
 rw [killF_nil] at hF; (refine NSU hF hH ?_; clear hF hH; rintro rfl rfl)
 refine WE ?_
 refine ZR ?_
 iterate 2 refine WX1 ?_
 refine ZA (rd_bound rfl rfl) ?_
 refine al_ef rfl (ef_callp [1, 2] (fun _ => [gB ca.st X Y W T 1 (W * T), gArr (W * T) (putG X Y W (List.replicate (W * T) false) (covG G))]) false (fun _ => each_set K p2 o2 hgb ca.st X Y W T (putG X Y W (List.replicate (W * T) false) (covG G)) ((by simp [putG_len])) hW1 hT1 hX1 hY1 hi2) rfl .fn rfl (by decide) (by kernel_rfl) rfl ZCH (by decide) ZCH (by simp)) ?_
 rintro F1 H1 ⟨_, _, _, _, ⟨rfl, rfl⟩, hF, hH⟩
 rw [killF_nil] at hF; (refine NSU hF hH ?_; clear hF hH; rintro rfl rfl)
 refine WE ?_
 have hgu : GOk (unG ca.st X Y W T (covG G) (covG K)) := ⟨unG_len, hW1, hT1, hX1, hY1⟩
 refine aw_wk (wk_of (K := fun F H => ∃ pv1 v1, F = [(4, .p 0 0 0), (13, gV pv1 v1 (unG ca.st X Y W T (covG G) (covG K)))] ∧ H = [.box [.c (I 0), .c (I 0), .c (I 0), .c (.r (.slice none 0 0) [])]]) [some 0] (fun f => [(4, .p 0 0 0), (13, gV (f (.p 1 0 0)) (f (.o 2 0 (W * T) (W * T))) (unG ca.st X Y W T (covG G) (covG K)))]) (fun _ => [.box [.c (I 0), .c (I 0), .c (I 0), .c (.r (.slice none 0 0) [])]]) (by decide) (ZNL hE) (fun _ => .cons rfl (.p rfl) (.cons rfl (frzG (g := (unG ca.st X Y W T (covG G) (covG K))) rfl rfl unG_len rfl rfl) .nil)) ZCH (fun _ => ⟨_, _, rfl, rfl⟩)) ?_
 rintro F H ⟨pv1, v1, rfl, rfl⟩
 refine WR ?_
 refine al_ef rfl (ef_call0 false (fun _ => cells_v (unG ca.st X Y W T (covG G) (covG K)) pv1 v1 hgu (by simp only [unG]; omega)) rfl .fn rfl (by decide) (by kernel_rfl) rfl (fun _ => C0 rfl) (by simp)) ?_
 rintro _ _ ⟨_, _, _, ⟨v2, rfl, rfl⟩, hF, hH⟩
 rw [hnf] at hF
 (refine NST hF hH ?_; clear hF hH; rintro rfl rfl)
 refine WE ?_
 exact aret_of (us := [celA v2 R.1, .c (I R.2)]) [] (fun _ => .t [celA v2 R.1, .c (I R.2)]) (fun _ => []) (.cella (n := 4) rfl (by kernel_rfl) (Cells.box rfl) (by simp) (by (try simp only [nm, putL, Nat.reduceAdd, cellsOf, cvOf]) <;> rfl) (.tmp rfl .nil)) (by decide) (fun i hi => absurd hi (Nat.not_lt_zero i)) (fun g' => .tL (.cons (.aL (.cons (.c rfl) (.cons (.c rfl) (.cons (.c rfl) (.cons (.c rfl) .nil))))) (.cons (.c rfl) .nil))) (fun _ => .nil) (fun g' => ⟨v2, rfl, rfl⟩)
end Go.Proofs.YtniolldgidgffaaGreatDoor

/- The reference's solid cells, by value: SolidOf. -/
-- NEWM
namespace Go.Proofs.YtniolldgidgffaaGreatDoor
open Go Go.RowKit
set_option maxRecDepth 100000
set_option maxHeartbeats 2000000 in
theorem solof1_v (p1 p2 p3 p4 w : Value) (l : List (Value × Cel)) (ly tp bo : Int) (hly : 0 ≤ ly ∧ ly < 100) (htp : 0 ≤ tp ∧ tp ≤ 50) (hbo : 0 ≤ bo ∧ bo ≤ 50) (hl : l.length ≤ 1000) (hok : ∀ p ∈ l, RCel p.2) (a b : Int) : ACalls Tryz.prog 219 [.a [.c (I a), .c (I b)], .c (.p p1 [I bo]), .c (.p p2 [I tp]), .c (.p p3 [I ly]), .c (.p p4 [.r w (cR l)])] [] fun u H => u = .c (B (!nearL (l.map fun p => covL p.2) ly tp bo (a, b))) ∧ H = [] := by
 have e1 : (cR l).length = l.length := by simp
 have hPP : nearL (l.map fun p => covL p.2) ly tp bo (a, b) = allU (okL (l.map fun p => covL p.2) (a, b)) (tp + bo + 1).toNat (ly - bo) := rfl
 generalize nearL (l.map fun p => covL p.2) ly tp bo (a, b) = P at *
 refine acalls_of (N := 37) Tryz.func219 rfl rfl (by simp) fun E hE => ?_
 refine WA ?_
 refine ZR ?_
 refine ZA (rd_ldcp rfl (by kernel_rfl) rfl rfl) ?_
 refine WE ?_
 refine aw_loopw (fun m F H => ∃ d : Int, d + m = tp + 1 ∧ -bo ≤ d ∧ allU (okL (l.map fun p => covL p.2) (a, b)) m (ly + d) = P ∧ F = [(1, .c (.p p1 [I bo])), (2, .c (.p p2 [I tp])), (3, .c (.p p3 [I ly])), (4, .c (.p p4 [.r w (cR l)])), (5, .p 0 0 0), (7, .c (I d))] ∧ H = [.box [.c (I a), .c (I b)]]) ?_ ?_
 ·refine wk_of [some 0] (fun _ => [(1, .c (.p p1 [I bo])), (2, .c (.p p2 [I tp])), (3, .c (.p p3 [I ly])), (4, .c (.p p4 [.r w (cR l)])), (5, .p 0 0 0), (7, .c (I (-bo)))]) (fun _ => [.box [.c (I a), .c (I b)]]) (by decide) (ZNL hE) ZCF ZCH (fun _ => ?_)
  exact ⟨(tp + bo + 1).toNat, -bo, by omega, by omega, hPP.symm, rfl, rfl⟩
 rintro m F H ⟨d, hd, hdn, hal, rfl, rfl⟩
 refine ZR ?_
 refine WX1 ?_
 refine ZA (rd_ldcp rfl (by kernel_rfl) rfl rfl) ?_
 refine WE ?_
 refine aw_if rfl (fun hlt => ?_) (fun hge => ?_)
 ·obtain ⟨m, rfl⟩ : ∃ m', m = m' + 1 := ⟨m - 1, by omega⟩
  rw [allU] at hal
  refine ZR ?_
  refine ZA (rd_ldcp rfl (by kernel_rfl) rfl rfl) ?_
  refine WE ?_
  by_cases hk0 : ly + d < 0
  ·have hz : okL (l.map fun p => covL p.2) (a, b) (ly + d) = false := by rw [okL, decide_eq_false (by omega)]; rfl
   rw [hz] at hal
   obtain rfl : P = false := by simpa using hal.symm
   refine ZZ ?_
   refine aw_regionT [(0, none), (1, none), (2, none), (3, none), (4, none), (5, none), (6, none), (7, none), (8, none), (9, none), (10, none), (11, none), (12, none), (14, none), (13, some [14]), (15, some []), (16, none), (17, none)] hMixed (by kernel_rfl) ?_
   iterate 4 refine WX2 ?_
   first | refine ZU rfl (rd_ldcp rfl (by kernel_rfl) rfl rfl) ?_ | refine ZV ?_
   iterate 4 refine WX2 ?_
   first | refine ZU rfl (rd_ldcp rfl (by kernel_rfl) rfl rfl) ?_ | refine ZV ?_
   refine WP ?_
   first | refine at_efN rfl rfl rfl (by decide) ⟨ag_cons (by first | exact ag_un rfl rfl rfl rfl | exact ag_rdK rfl rfl rfl (ZK (KK (t := 151) rfl)) rfl) (ag_none), ?_⟩ | (refine at_efK rfl (ef_call0 false (fun _ => places_r vi ci hci) rfl .fn rfl (by decide) (by kernel_rfl) rfl (fun _ => C0 rfl) (by simp)) ?_; rintro _ _ ⟨_, _, _, ⟨vp, rfl, rfl⟩, hF, hH⟩; (refine NST hF hH ?_; clear hF hH; rintro rfl rfl); refine ⟨ag_cons (by first | exact ag_un rfl rfl rfl rfl | exact ag_rdK rfl rfl rfl (ZK (KK (t := 151) rfl)) rfl) (ag_none), ?_⟩)
   first | refine at_efN rfl rfl rfl (by decide) ⟨ag_none, ?_⟩ | (refine at_efK rfl (ef_call0 false (fun _ => haspl_v a b (covL ci) vp (covL_len hci)) rfl .fn rfl (by decide) (by kernel_rfl) rfl (fun _ => C0 rfl) (by simp)) ?_; rintro _ _ ⟨_, _, _, ⟨rfl, rfl⟩, hF, hH⟩; rw [hq] at hF; (refine NST hF hH ?_; clear hF hH; rintro rfl rfl); refine ⟨ag_none, ?_⟩)
   refine WQ ?_
   refine aw_cond_t rfl ?_
   refine WA ?_
   exact aret_1 [] _ rfl rfl rfl (by decide) (ZNK rfl) (fun _ => .nil) ⟨rfl, rfl⟩
  obtain ⟨i, hi⟩ : ∃ i : Nat, ly + d = i := ⟨(ly + d).toNat, by omega⟩
  rw [show ly + d + 1 = ly + (d + 1) by omega] at hal
  have hok0 : okL (l.map fun p => covL p.2) (a, b) (ly + d) = decide ((a, b) ∈ (l.map fun p => covL p.2).getD i []) := by rw [okL, decide_eq_true (by omega), hi]; simp
  by_cases hkl : l.length ≤ i
  ·have hz : okL (l.map fun p => covL p.2) (a, b) (ly + d) = false := by rw [hok0, List.getD_eq_getElem?_getD, List.getElem?_eq_none (by simp; omega)]; simp
   rw [hz] at hal
   obtain rfl : P = false := by simpa using hal.symm
   refine ZZ ?_
   refine aw_regionT [(0, none), (1, none), (2, none), (3, none), (4, none), (5, none), (6, none), (7, none), (8, none), (9, none), (10, none), (11, none), (12, none), (14, none), (13, some [14]), (15, some []), (16, none), (17, none)] hMixed (by kernel_rfl) ?_
   iterate 4 refine WX2 ?_
   first | refine ZU rfl (rd_ldcp rfl (by kernel_rfl) rfl rfl) ?_ | refine ZV ?_
   iterate 4 refine WX2 ?_
   first | refine ZU rfl (rd_ldcp rfl (by kernel_rfl) rfl rfl) ?_ | refine ZV ?_
   refine WP ?_
   first | refine at_efN rfl rfl rfl (by decide) ⟨ag_cons (by first | exact ag_un rfl rfl rfl rfl | exact ag_rdK rfl rfl rfl (ZK (KK (t := 151) rfl)) rfl) (ag_none), ?_⟩ | (refine at_efK rfl (ef_call0 false (fun _ => places_r vi ci hci) rfl .fn rfl (by decide) (by kernel_rfl) rfl (fun _ => C0 rfl) (by simp)) ?_; rintro _ _ ⟨_, _, _, ⟨vp, rfl, rfl⟩, hF, hH⟩; (refine NST hF hH ?_; clear hF hH; rintro rfl rfl); refine ⟨ag_cons (by first | exact ag_un rfl rfl rfl rfl | exact ag_rdK rfl rfl rfl (ZK (KK (t := 151) rfl)) rfl) (ag_none), ?_⟩)
   first | refine at_efN rfl rfl rfl (by decide) ⟨ag_none, ?_⟩ | (refine at_efK rfl (ef_call0 false (fun _ => haspl_v a b (covL ci) vp (covL_len hci)) rfl .fn rfl (by decide) (by kernel_rfl) rfl (fun _ => C0 rfl) (by simp)) ?_; rintro _ _ ⟨_, _, _, ⟨rfl, rfl⟩, hF, hH⟩; rw [hq] at hF; (refine NST hF hH ?_; clear hF hH; rintro rfl rfl); refine ⟨ag_none, ?_⟩)
   refine WQ ?_
   refine aw_cond_t rfl ?_
   refine WA ?_
   exact aret_1 [] _ rfl rfl rfl (by decide) (ZNK rfl) (fun _ => .nil) ⟨rfl, rfl⟩
  obtain ⟨⟨vi, ci⟩, hz⟩ : ∃ e, l[i]? = some e := ⟨_, List.getElem?_eq_getElem (by omega)⟩
  have hci := hok _ (List.mem_of_getElem? hz)
  simp only at hci
  have hrow : (cR l)[i]? = some (celR vi ci) := by rw [List.getElem?_map, hz]; rfl
  have hget : (l.map fun p => covL p.2).getD i [] = covL ci := by rw [List.getD_eq_getElem?_getD, List.getElem?_map, hz]; rfl
  rw [hget] at hok0
  obtain ⟨q, hq⟩ : ∃ q, decide ((a, b) ∈ covL ci) = q := ⟨_, rfl⟩
  rw [hok0, hq] at hal
  refine ZZ ?_
  refine aw_regionT [(0, none), (1, none), (2, none), (3, none), (4, none), (5, none), (6, none), (7, none), (8, none), (9, none), (10, none), (11, none), (12, none), (14, none), (13, some [14]), (15, some []), (16, none), (17, none)] hMixed (by kernel_rfl) ?_
  iterate 4 refine WX2 ?_
  first | refine ZU rfl (rd_ldcp rfl (by kernel_rfl) rfl rfl) ?_ | refine ZV ?_
  iterate 4 refine WX2 ?_
  first | refine ZU rfl (rd_ldcp rfl (by kernel_rfl) rfl rfl) ?_ | refine ZV ?_
  refine WP ?_
  first | refine at_efN rfl rfl rfl (by decide) ⟨ag_cons (by first | exact ag_un rfl rfl rfl rfl | exact ag_rdK rfl rfl rfl (ZK (KK (t := 151) rfl)) rfl) (ag_none), ?_⟩ | (refine at_efK rfl (ef_call0 false (fun _ => places_r vi ci hci) rfl .fn rfl (by decide) (by kernel_rfl) rfl (fun _ => C0 rfl) (by simp)) ?_; rintro _ _ ⟨_, _, _, ⟨vp, rfl, rfl⟩, hF, hH⟩; (refine NST hF hH ?_; clear hF hH; rintro rfl rfl); refine ⟨ag_cons (by first | exact ag_un rfl rfl rfl rfl | exact ag_rdK rfl rfl rfl (ZK (KK (t := 151) rfl)) rfl) (ag_none), ?_⟩)
  first | refine at_efN rfl rfl rfl (by decide) ⟨ag_none, ?_⟩ | (refine at_efK rfl (ef_call0 false (fun _ => haspl_v a b (covL ci) vp (covL_len hci)) rfl .fn rfl (by decide) (by kernel_rfl) rfl (fun _ => C0 rfl) (by simp)) ?_; rintro _ _ ⟨_, _, _, ⟨rfl, rfl⟩, hF, hH⟩; rw [hq] at hF; (refine NST hF hH ?_; clear hF hH; rintro rfl rfl); refine ⟨ag_none, ?_⟩)
  refine WQ ?_
  cases q with
  | false =>
   obtain rfl : P = false := by simpa using hal.symm
   refine aw_cond_t rfl ?_
   refine WA ?_
   exact aret_1 [] _ rfl rfl rfl (by decide) (ZNK rfl) (fun _ => .nil) ⟨rfl, rfl⟩
  | true =>
   refine aw_cond_f rfl ?_
   refine ZZ ?_
   refine WA ?_
   refine wk_of [some 0] (fun _ => [(1, .c (.p p1 [I bo])), (2, .c (.p p2 [I tp])), (3, .c (.p p3 [I ly])), (4, .c (.p p4 [.r w (cR l)])), (5, .p 0 0 0), (7, .c (I (d + 1)))]) (fun _ => [.box [.c (I a), .c (I b)]]) (by decide) (ZNL hE) ZCF ZCH (fun _ => ?_)
   exact ⟨m, by omega, d + 1, by omega, by omega, by simpa using hal, rfl, rfl⟩
 obtain rfl : m = 0 := by omega
 rw [allU] at hal
 subst hal
 refine ZZ ?_
 refine WA ?_
 exact aret_1 [] _ rfl rfl rfl (by decide) (ZNK rfl) (fun _ => .nil) ⟨rfl, rfl⟩
set_option maxHeartbeats 1000000 in
theorem solidof_v (w : Value) (l : List (Value × Cel)) (i : Nat) (tp bo : Int) (htp : 0 ≤ tp ∧ tp ≤ 50) (hbo : 0 ≤ bo ∧ bo ≤ 50) (hl : l.length ≤ 50) (hok : ∀ p ∈ l, NCel p.2) (c : Cel) (vc : Value) (hi : l[i]? = some (vc, c)) : ACalls Tryz.prog 167 [.c (.r w (cR l)), .c (I i), .c (I tp), .c (I bo)] [] fun u H => ∃ v, u = celA v (celN c.st (solL (l.map Prod.snd) i tp bo)) ∧ H = [] := by
 have hil := (List.getElem?_eq_some_iff.1 hi).1
 have hrow : (cR l)[i]? = some (celR vc c) := by rw [List.getElem?_map, hi]; rfl
 have hn := hok _ (List.mem_of_getElem? hi)
 simp only at hn
 have e1 : (cR l).length = l.length := by simp
 have hmm : (l.map Prod.snd).map covL = l.map fun p => covL p.2 := by rw [List.map_map]; rfl
 have hget : (l.map fun p => covL p.2).getD i [] = covL c := by rw [List.getD_eq_getElem?_getD, List.getElem?_map, hi]; rfl
 have hsol : solL (l.map Prod.snd) i tp bo = (covL c).filter fun q => !nearL (l.map fun p => covL p.2) i tp bo q := by rw [solL, hmm, hget]
 have hth : ∀ p1 p2 p3 p4, ACalls Tryz.prog 100 [celA vc c, .f (.func 219) [.c (.p p1 [I bo]), .c (.p p2 [I tp]), .c (.p p3 [I i]), .c (.p p4 [.r w (cR l)])]] [] fun u H => ∃ v', u = celA v' (celN c.st (solL (l.map Prod.snd) i tp bo)) ∧ H = [] := fun p1 p2 p3 p4 => by
  have := these_v 219 [.c (.p p1 [I bo]), .c (.p p2 [I tp]), .c (.p p3 [I i]), .c (.p p4 [.r w (cR l)])] rfl (by kernel_rfl) (fun q => !nearL (l.map fun (p : Value × Cel) => covL p.2) i tp bo q) vc c hn.r (fun x y _ => solof1_v p1 p2 p3 p4 w l i tp bo (by omega) htp hbo (by omega) (fun p hp => (hok p hp).r) x y)
  rw [← hsol, (normC_ok hn (fun p hp => by rw [hsol] at hp; exact (List.mem_filter.1 hp).1)).1] at this
  exact this
 generalize hS : celN c.st (solL (l.map Prod.snd) i tp bo) = S at *
 refine acalls_of (N := 15) Tryz.func167 rfl rfl (by simp) fun E hE => ?_
 refine WA ?_
 refine aw_wk (wk_of (K := fun F H => ∃ p1 p2 p3 p4, F = [(4, .c (.p p4 [.r w (cR l)])), (5, .c (.p p3 [I i])), (6, .c (.p p2 [I tp])), (7, .c (.p p1 [I bo])), (8, .p 0 0 0)] ∧ H = [.box [.c (I 0), .c (I 0), .c (I 0), .c (.r (.slice none 0 0) [])]]) [some 4] (fun g => [(4, .c (.p (g (.p 0 0 0)) [.r w (cR l)])), (5, .c (.p (g (.p 1 0 0)) [I i])), (6, .c (.p (g (.p 2 0 0)) [I tp])), (7, .c (.p (g (.p 3 0 0)) [I bo])), (8, .p 0 0 0)]) (fun _ => [.box [.c (I 0), .c (I 0), .c (I 0), .c (.r (.slice none 0 0) [])]]) (by decide) (ZNL hE) (fun g => .cons rfl (frzpL rfl rfl (.cons (.c rfl) .nil)) (.cons rfl (frzpL rfl rfl (.cons (.c rfl) .nil)) (.cons rfl (frzpL rfl rfl (.cons (.c rfl) .nil)) (.cons rfl (frzpL rfl rfl (.cons (.c rfl) .nil)) (.cons rfl (.p rfl) .nil))))) ZCH (fun _ => ⟨_, _, _, _, rfl, rfl⟩)) ?_
 rintro F H ⟨p1, p2, p3, p4, rfl, rfl⟩
 refine ZR ?_
 refine ZA (rd_ldcp rfl (by kernel_rfl) rfl rfl) ?_
 refine ZA (rd_ldcp rfl (by kernel_rfl) rfl rfl) ?_
 refine WO ?_
 refine al_ef rfl (ef_call0 false (fun _ => hth p1 p2 p3 p4) rfl .fn rfl (by decide) (by kernel_rfl) rfl (fun _ => C0 rfl) (by simp)) ?_
 rintro _ _ ⟨_, _, _, ⟨v3, rfl, rfl⟩, hF, hH⟩
 (refine NST hF hH ?_; clear hF hH; rintro rfl rfl)
 refine WE ?_
 exact aret_a [] _ rfl (KK (t := 28) rfl) rfl (Cells.box rfl) (by first | (simp; done) | exact Nat.le_refl 4) (by (try simp only [nm, putL, Nat.reduceAdd, cellsOf, cvOf]) <;> rfl) (by decide) (ZNK rfl) (fun _ => C0 rfl) (fun _ => .nil) ⟨v3, rfl, rfl⟩
end Go.Proofs.YtniolldgidgffaaGreatDoor
