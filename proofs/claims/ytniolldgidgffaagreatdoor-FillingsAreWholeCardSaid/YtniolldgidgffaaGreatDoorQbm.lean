/- Right cells and right stacks of the stream, by value. -/
import Derived.Test.YtniolldgidgffaaGreatDoorQbk
import Derived.Test.YtniolldgidgffaaGreatDoorQau
import Derived.Test.YtniolldgidgffaaGreatDoorQbl
set_option linter.unusedSimpArgs false
set_option linter.unusedVariables false
/- Plans of layers, by value: the program's and the reference's. -/
-- NEWM
namespace Go.Proofs.YtniolldgidgffaaGreatDoor
open Go Go.RowKit
set_option maxRecDepth 100000
theorem both_eq {c : Cel} (h : NCel c) {A B' : List Spot} (hA : ∀ p ∈ A, p ∈ covL c) : normC (celN c.st A).st (botL (covL (celN c.st A)) (covL (celN c.st B'))) = (celN c.st (botL A B'), 0) ∧ RCel (celN c.st (botL A B')) := by
 have hst : 0 < c.st := by have := h.r.st; omega
 have hm : ∀ q, q ∈ botL (covL (celN c.st A)) (covL (celN c.st B')) ↔ q ∈ botL A B' := fun q => by
  unfold botL
  rw [List.mem_filter, List.mem_filter, covL_celN hst]
  simp only [decide_eq_true_iff, covL_celN hst]
 obtain ⟨h1, h2⟩ := normC_ok h (L := botL A B') fun p hp => hA p (List.mem_filter.1 hp).1
 rw [celN_st, normC_mem hm]
 exact ⟨h1, h2⟩
theorem min_eq {c : Cel} (h : NCel c) {A B' : List Spot} (hA : ∀ p ∈ A, p ∈ covL c) : normC (celN c.st A).st (minL (covL (celN c.st A)) (covL (celN c.st B'))) = (celN c.st (minL A B'), 0) ∧ RCel (celN c.st (minL A B')) := by
 have hst : 0 < c.st := by have := h.r.st; omega
 have hm : ∀ q, q ∈ minL (covL (celN c.st A)) (covL (celN c.st B')) ↔ q ∈ minL A B' := fun q => by
  unfold minL
  rw [List.mem_filter, List.mem_filter, covL_celN hst]
  simp only [Bool.not_eq_true', decide_eq_false_iff_not, covL_celN hst]
 obtain ⟨h1, h2⟩ := normC_ok h (L := minL A B') fun p hp => hA p (List.mem_filter.1 hp).1
 rw [celN_st, normC_mem hm]
 exact ⟨h1, h2⟩
def plnC (l : List Cel) (w : Nat) (t b : Int) (i : Nat) (c : Cel) : List Cel × Cel × Cel := ((List.range w).map (walC c), celN c.st (botL (shrL w (covL c)) (solL l i t b)), celN c.st (minL (shrL w (covL c)) (solL l i t b)))
def plnL (l : List Cel) (w : Nat) (t b : Int) (n : Nat) : List (List Cel × Cel × Cel) := (List.range n).map fun i => plnC l w t b i (l.getD i ⟨0, 0, 0, []⟩)
theorem plnL_succ {l : List Cel} {w : Nat} {t b : Int} {n : Nat} {c : Cel} (h : l[n]? = some c) : plnL l w t b (n + 1) = plnL l w t b n ++ [plnC l w t b n c] := by
 unfold plnL; rw [List.range_succ, List.map_append, List.map_singleton, List.getD_eq_getElem?_getD, h]; rfl
theorem shr_sub {n : Nat} {L : List Spot} : ∀ p ∈ shrL n L, p ∈ L := fun p hp => (List.mem_filter.1 hp).1
theorem sol_sub {l : List Cel} {i : Nat} {c : Cel} {t b : Int} (h : l[i]? = some c) : ∀ p ∈ solL l i t b, p ∈ covL c := fun p hp => by
 unfold solL at hp
 have := (List.mem_filter.1 hp).1
 rw [List.getD_eq_getElem?_getD, List.getElem?_map, h] at this
 exact this
theorem pln_ok {l : List Cel} {w : Nat} {t b : Int} {i : Nat} {c : Cel} (hc : NCel c) (f : Fil) (h : filC f = plnC l w t b i c) (hw : w ≤ 10) : FilOk f := by
 obtain ⟨h1, h2⟩ := Prod.mk.inj h
 obtain ⟨h3, h4⟩ := Prod.mk.inj h2
 refine ⟨?_, fun p hp => ?_, ?_, ?_⟩
 ·have := congrArg List.length h1
  simp only [List.length_map, List.length_range] at this
  omega
 ·have hm : p.2 ∈ (List.range w).map (walC c) := by rw [← h1]; exact List.mem_map_of_mem hp
  obtain ⟨k, _, hk⟩ := List.mem_map.1 hm
  rw [← hk]
  exact (normC_ok hc fun q hq => (List.mem_filter.1 (List.mem_filter.1 hq).1).1).2
 ·rw [h3]; exact (both_eq hc shr_sub).2
 ·rw [h4]; exact (min_eq hc shr_sub).2
theorem solid_g (l : List (Value × Cel)) (i : Nat) (tp bo : Int) (htp : 0 ≤ tp ∧ tp ≤ 50) (hbo : 0 ≤ bo ∧ bo ≤ 50) (hl : l.length ≤ 50) (hn : ∀ p ∈ l, NCel p.2) (c : Cel) (vc : Value) (hic : l[i]? = some (vc, c)) (w : Value) (gs : List (Value × Value × Grd)) (hgs : gs.map (fun p => p.2.2) = l.map (fun p => grdOf p.2)) : ∃ g, (GOk g ∧ (0 ≤ g.st ∧ g.st ≤ 10000) ∧ normC g.st (covG g) = (celN c.st (solL (l.map Prod.snd) i tp bo), 0)) ∧ ACalls Tryz.prog 135 [.c (.r w (gR gs)), .c (I i), .c (I tp), .c (I bo)] [] fun u H => ∃ pv1 v1, u = gV pv1 v1 g ∧ H = [] := by
 have hok : ∀ p ∈ l, RCel p.2 := fun p hp => (hn p hp).r
 have hnc : NCel c := hn _ (List.mem_of_getElem? hic)
 have hmm : (l.map Prod.snd).map covL = l.map fun p => covL p.2 := by rw [List.map_map]; rfl
 have hil := (List.getElem?_eq_some_iff.1 hic).1
 have hgl : gs.length = l.length := by have := congrArg List.length hgs; simpa using this
 obtain ⟨⟨pv, ov, g⟩, hz⟩ : ∃ e, gs[i]? = some e := ⟨_, List.getElem?_eq_getElem (by omega)⟩
 obtain ⟨va', c', h2, h3, h4, h5⟩ := grids_at hok hgs i _ hz
 rw [hic] at h2
 obtain ⟨rfl, rfl⟩ := Prod.mk.inj (Option.some.inj h2)
 obtain rfl : g = grdOf c := h4
 have hst := h3.st
 refine ⟨filG (grdOf c) _, ⟨filG_ok (grdOf_ok h3) _, by show 0 ≤ (grdOf c).st ∧ (grdOf c).st ≤ 10000; rw [grdOf_st]; omega, ?_⟩, solid_v w gs (l.map fun p => covL p.2) i tp bo (by omega) htp hbo (by omega) (by simp [hgl]) (fun k p hp => ?_) pv ov (grdOf c) hz⟩
 ·have hL : ∀ q, q ∈ solL (l.map Prod.snd) i tp bo ↔ q ∈ covL c ∧ (fun q => !nearL (l.map fun p => covL p.2) (i : Int) tp bo q) q = true := fun q => by rw [solL, hmm, h5, List.mem_filter]
  rw [show (filG (grdOf c) (fun q => !nearL (l.map fun p => covL p.2) (i : Int) tp bo q)).st = (grdOf c).st from rfl, normC_fil h3 hL]
  exact (normC_ok hnc fun p hp => ((hL p).1 hp).1).1
 ·obtain ⟨va', c', q2, q3, q4, q5⟩ := grids_at hok hgs k _ hp
  rw [q4]
  exact ⟨grdOf_ok q3, fun a b => by rw [at_cov q3, q5]⟩
def plnF (l : List Cel) (w t b e : Int) : Int := if layF l ≠ 0 then layF l else styF w t b e
set_option maxHeartbeats 4000000 in
theorem planT_v (va : Value) (l : List (Value × Cel)) (w t b e : Int) (hsz : ∀ p ∈ l, p.2.rows.length ≤ 1000000000 ∧ ∀ r ∈ p.2.rows, r.length ≤ 1000000000) (hl : l.length ≤ 1000000) (hnr : ∀ p ∈ l, RCel p.2 → NCel p.2) : ACalls Tryz.prog 54 [.c (.r va (cR l)), .a [.c (I w), .c (I t), .c (I b), .c (I e)]] [] fun u H => ∃ (v : Value) (fl : List Fil), u = .t [.c (.r v (fR fl)), .c (I (plnF (l.map Prod.snd) w t b e))] ∧ (plnF (l.map Prod.snd) w t b e ≠ 0 → fl = []) ∧ (plnF (l.map Prod.snd) w t b e = 0 → (∀ p ∈ l, NCel p.2) ∧ fl.map filC = plnL (l.map Prod.snd) w.toNat t b l.length ∧ ∀ f ∈ fl, FilOk f) ∧ H = [] := by
 have e1 : (cR l).length = l.length := by simp
 obtain ⟨q, hq⟩ : ∃ q, layF (l.map Prod.snd) = q := ⟨_, rfl⟩
 obtain ⟨sq, hsq⟩ : ∃ q, styF w t b e = q := ⟨_, rfl⟩
 have hsf : plnF (l.map Prod.snd) w t b e = if q ≠ 0 then q else sq := by rw [plnF, hq, hsq]
 rw [hsf]
 refine acalls_of (N := 71) Tryz.func54 rfl rfl (by simp) fun E hE => ?_
 refine WA ?_
 refine WR ?_
 refine al_ef rfl (ef_call0 false (fun _ => layersfault_v va l hsz (by omega)) rfl .fn rfl (by decide) (by kernel_rfl) rfl (fun _ => C0 rfl) (by simp)) ?_
 rintro _ _ ⟨_, _, _, ⟨rfl, rfl⟩, hF, hH⟩
 rw [hq] at hF
 (refine NST hF hH ?_; clear hF hH; rintro rfl rfl)
 refine WE ?_
 refine WA ?_
 refine aw_if rfl (fun h1 => ?_) (fun h1 => ?_)
 ·rw [if_pos h1]
  refine WA ?_
  exact aret_2 [] _ rfl rfl rfl rfl rfl (by decide) (ZNK rfl) (fun _ => .nil) ⟨.slice none 0 0, [], rfl, fun _ => rfl, fun e => absurd e (h1), rfl⟩
 rw [if_neg h1]
 obtain rfl : q = 0 := by omega
 obtain ⟨hl5, hlk⟩ := layF_ok hq
 have hok : ∀ p ∈ l, RCel p.2 := fun p hp => (hlk p hp).1
 have hnn : ∀ p ∈ l, NCel p.2 := fun p hp => hnr p hp (hok p hp)
 refine ZZ ?_
 refine WR ?_
 refine al_ef rfl (ef_call0 false (fun _ => style_v w t b e) rfl .fn rfl (by decide) (by kernel_rfl) rfl (fun _ => C0 rfl) (by simp)) ?_
 rintro _ _ ⟨_, _, _, ⟨rfl, rfl⟩, hF, hH⟩
 rw [hsq] at hF
 (refine NST hF hH ?_; clear hF hH; rintro rfl rfl)
 refine WE ?_
 refine WA ?_
 refine aw_if rfl (fun h2 => ?_) (fun h2 => ?_)
 ·refine WA ?_
  exact aret_2 [] _ rfl rfl rfl rfl rfl (by decide) (ZNK rfl) (fun _ => .nil) ⟨.slice none 0 0, [], rfl, fun _ => rfl, fun e => absurd e (h2), rfl⟩
 obtain rfl : sq = 0 := by omega
 obtain ⟨hw10, ht50, hb50⟩ : (0 ≤ w ∧ w ≤ 10) ∧ (0 ≤ t ∧ t ≤ 50) ∧ (0 ≤ b ∧ b ≤ 50) := by
  unfold styF at hsq
  split at hsq
  ·cases hsq
  ·rename_i h; simp [outB] at h; omega
 obtain ⟨wn, rfl⟩ : ∃ wn : Nat, w = wn := ⟨w.toNat, by omega⟩
 rw [Int.toNat_natCast]
 refine ZZ ?_
 refine WR ?_
 refine al_ef rfl (ef_call0 false (fun _ => grids_v va l hok (by omega)) rfl .fn rfl (by decide) (by kernel_rfl) rfl (fun _ => C0 rfl) (by simp)) ?_
 rintro _ _ ⟨_, _, _, ⟨gw, gs, rfl, hgs, rfl⟩, hF, hH⟩
 (refine NST hF hH ?_; clear hF hH; rintro rfl rfl)
 refine WE ?_
 refine WA ?_
 refine WA ?_
 refine aw_loopw (fun m F H => ∃ (i cp : Nat) (fl : List Fil), m + i = l.length ∧ fl.map filC = plnL (l.map Prod.snd) wn t b i ∧ (∀ f ∈ fl, FilOk f) ∧ F = [(3, .p 0 0 0), (8, .c (.r gw (gR gs))), (9, .o 1 0 fl.length cp), (28, .c (.r va (cR l))), (29, .c (I (cR l).length)), (30, .c (I i))] ∧ H = [.box [.c (I wn), .c (I t), .c (I b), .c (I e)], .arr 60 9 cp (fR fl)]) ?_ ?_
 ·refine wk_of [some 0, none] (fun _ => [(3, .p 0 0 0), (8, .c (.r gw (gR gs))), (9, .o 1 0 0 0), (28, .c (.r va (cR l))), (29, .c (I (cR l).length)), (30, .c (I (0 : Nat)))]) (fun _ => [.box [.c (I wn), .c (I t), .c (I b), .c (I e)], .arr 60 9 0 (fR [])]) (by decide) (ZNL hE) ZCF ZCH (fun _ => ?_)
  exact ⟨l.length, 0, 0, [], by omega, rfl, fun f hf => (by cases hf), rfl, rfl⟩
 rintro m F H ⟨i, cp, fl, hi, hfl, hfo, rfl, rfl⟩
 have hfll : fl.length = i := by have := congrArg List.length hfl; simpa [plnL] using this
 refine WA ?_
 refine aw_if rfl (fun hlt => ?_) (fun hge => ?_)
 ·obtain ⟨⟨vc, c⟩, hic⟩ : ∃ e, l[i]? = some e := ⟨_, List.getElem?_eq_getElem (by omega)⟩
  have hrow : (cR l)[i]? = some (celR vc c) := by rw [List.getElem?_map, hic]; rfl
  have hnc : NCel c := hnn _ (List.mem_of_getElem? hic)
  have hicc : (l.map Prod.snd)[i]? = some c := by rw [List.getElem?_map, hic]; rfl
  have hwal := walls_v vc c hnc wn (by omega)
  obtain ⟨g, hgl, hsol⟩ := solid_g l i t b ht50 hb50 hl5 hnn c vc hic gw gs hgs
  have hrS : RCel (celN c.st (solL (l.map Prod.snd) i t b)) := (normC_ok hnc (sol_sub hicc)).2
  have hrR : RCel (celN c.st (shrL wn (covL c))) := (normC_ok hnc shr_sub).2
  obtain ⟨hb1, _⟩ := both_eq hnc (A := shrL wn (covL c)) (B' := solL (l.map Prod.snd) i t b) shr_sub
  obtain ⟨hm1, _⟩ := min_eq hnc (A := shrL wn (covL c)) (B' := solL (l.map Prod.snd) i t b) shr_sub
  have hbo2 : ∀ v1 v2, ACalls Tryz.prog 50 [celA v1 (celN c.st (shrL wn (covL c))), celA v2 (celN c.st (solL (l.map Prod.snd) i t b))] [] fun u H => ∃ v', u = .t [celA v' (celN c.st (botL (shrL wn (covL c)) (solL (l.map Prod.snd) i t b))), .c (I 0)] ∧ H = [] := fun v1 v2 => by
   have := both_v v1 v2 _ _ hrR hrS (by rw [celN_st, celN_st])
   rw [hb1] at this
   exact this
  have hmi2 : ∀ v1 v2, ACalls Tryz.prog 112 [celA v1 (celN c.st (shrL wn (covL c))), celA v2 (celN c.st (solL (l.map Prod.snd) i t b))] [] fun u H => ∃ v', u = celA v' (celN c.st (minL (shrL wn (covL c)) (solL (l.map Prod.snd) i t b))) ∧ H = [] := fun v1 v2 => by
   have h5 := hm1
   have h6 : celN (celN c.st (shrL wn (covL c))).st (minL (covL (celN c.st (shrL wn (covL c)))) (covL (celN c.st (solL (l.map Prod.snd) i t b)))) = celN c.st (minL (shrL wn (covL c)) (solL (l.map Prod.snd) i t b)) := by
    have hst : 0 < c.st := by have := hnc.r.st; omega
    rw [celN_st]
    refine celN_mem fun q => ?_
    unfold minL
    rw [List.mem_filter, List.mem_filter, covL_celN hst]
    simp only [Bool.not_eq_true', decide_eq_false_iff_not, covL_celN hst]
   have := fmin_v v1 v2 _ _ hrR hrS (by rw [celN_st, celN_st]) (by rw [h5, h6])
   rw [h6] at this
   exact this
  have hnx : plnL (l.map Prod.snd) wn t b (i + 1) = plnL (l.map Prod.snd) wn t b i ++ [((List.range wn).map (walC c), celN c.st (botL (shrL wn (covL c)) (solL (l.map Prod.snd) i t b)), celN c.st (minL (shrL wn (covL c)) (solL (l.map Prod.snd) i t b)))] := plnL_succ hicc
  have hpo : ∀ f : Fil, filC f = ((List.range wn).map (walC c), celN c.st (botL (shrL wn (covL c)) (solL (l.map Prod.snd) i t b)), celN c.st (minL (shrL wn (covL c)) (solL (l.map Prod.snd) i t b))) → FilOk f := fun f h => pln_ok (l := l.map Prod.snd) (i := i) (t := t) (b := b) hnc f h (by omega)
  clear hrS hrR hb1 hm1
  generalize celN c.st (botL (shrL wn (covL c)) (solL (l.map Prod.snd) i t b)) = SB at *
  generalize celN c.st (minL (shrL wn (covL c)) (solL (l.map Prod.snd) i t b)) = SM at *
  generalize celN c.st (solL (l.map Prod.snd) i t b) = SS at *
  generalize celN c.st (shrL wn (covL c)) = SR at *
  generalize (List.range wn).map (walC c) = WW at *
  refine WA ?_
  refine WA ?_
  refine WA ?_
  refine WR ?_
  refine al_ef rfl (ef_call0 false (fun _ => hwal) rfl .fn rfl (by decide) (by kernel_rfl) rfl (fun _ => C0 rfl) (by simp)) ?_
  rintro _ _ ⟨_, _, _, ⟨vr, vw, lw, rfl, hlw, rfl⟩, hF, hH⟩
  (refine NST hF hH ?_; clear hF hH; rintro rfl rfl)
  refine WE ?_
  refine WR ?_
  refine al_ef rfl (ef_call0 false (fun _ => hsol) rfl .fn rfl (by decide) (by kernel_rfl) rfl (fun _ => C0 rfl) (by simp)) ?_
  rintro _ _ ⟨_, _, _, ⟨pv1, v1, rfl, rfl⟩, hF, hH⟩
  (refine NST hF hH ?_; clear hF hH; rintro rfl rfl)
  refine al_ef rfl (ef_call0 false (fun _ => cells_v g pv1 v1 hgl.1 hgl.2.1) rfl .fn rfl (by decide) (by kernel_rfl) rfl (fun _ => C0 rfl) (by simp)) ?_
  rintro _ _ ⟨_, _, _, ⟨vf, rfl, rfl⟩, hF, hH⟩
  rw [hgl.2.2] at hF
  (refine NST hF hH ?_; clear hF hH; rintro rfl rfl)
  refine WE ?_
  refine WR ?_
  refine al_ef rfl (ef_call0 false (fun _ => hbo2 vr vf) rfl .fn rfl (by decide) (by kernel_rfl) rfl (fun _ => C0 rfl) (by simp)) ?_
  rintro _ _ ⟨_, _, _, ⟨vs, rfl, rfl⟩, hF, hH⟩
  (refine NST hF hH ?_; clear hF hH; rintro rfl rfl)
  refine WE ?_
  refine WR ?_
  refine al_ef rfl (ef_call0 false (fun _ => hmi2 vr vf) rfl .fn rfl (by decide) (by kernel_rfl) rfl (fun _ => C0 rfl) (by simp)) ?_
  rintro _ _ ⟨_, _, _, ⟨vp, rfl, rfl⟩, hF, hH⟩
  (refine NST hF hH ?_; clear hF hH; rintro rfl rfl)
  refine WE ?_
  refine WR ?_
  refine al_ef rfl (Zapp (KA (t := 86) rfl)) ?_
  rintro _ _ ⟨_, cc, hcc, rfl, rfl⟩
  refine WE ?_
  refine WA ?_
  refine wk_of [some 0, some 1] (fun _ => [(3, .p 0 0 0), (8, .c (.r gw (gR gs))), (9, .o 1 0 (fl ++ [(Fil.mk vw lw (vs, SB) (vp, SM))]).length cc), (28, .c (.r va (cR l))), (29, .c (I (cR l).length)), (30, .c (I (i + 1 : Nat)))]) (fun _ => [.box [.c (I wn), .c (I t), .c (I b), .c (I e)], .arr 60 9 cc (fR (fl ++ [(Fil.mk vw lw (vs, SB) (vp, SM))]))]) (by decide) (ZNL hE) ZCF ZCH (fun _ => ?_)
  have hfc : filC (Fil.mk vw lw (vs, SB) (vp, SM)) = (WW, SB, SM) := by rw [filC, hlw]
  exact ⟨m - 1, by omega, i + 1, cc, fl ++ [(Fil.mk vw lw (vs, SB) (vp, SM))], by omega, by rw [List.map_append, hfl, hnx, List.map_singleton, hfc], fun f hf => by
   rcases List.mem_append.1 hf with hf | hf
   ·exact hfo f hf
   ·rw [List.mem_singleton.1 hf]; exact hpo _ hfc, rfl, rfl⟩
 obtain rfl : i = l.length := by omega
 refine ZZ ?_
 refine WA ?_
 exact aret_f2 [] _ rfl rfl rfl rfl rfl rfl (by rw [List.drop_zero, List.take_of_length_le (by simp)]) (by simp) rfl (by decide) (ZNK rfl) (fun _ => .nil) (fun q => ⟨q, fl, rfl, fun e => absurd rfl e, fun _ => ⟨hnn, hfl, hfo⟩, rfl⟩)
end Go.Proofs.YtniolldgidgffaaGreatDoor

/- Lines of a grid: plain. -/
namespace Go.Proofs.YtniolldgidgffaaGreatDoor
def hQ (g : Grd) (q : Int) : Nat := if q = 1 then g.w else g.h
end Go.Proofs.YtniolldgidgffaaGreatDoor

/- Lines of a grid, by value. -/
-- NEWM
namespace Go.Proofs.YtniolldgidgffaaGreatDoor
open Go Go.RowKit
set_option maxRecDepth 100000
end Go.Proofs.YtniolldgidgffaaGreatDoor

/- The program's Lines, filled, by value. -/
-- NEWM
namespace Go.Proofs.YtniolldgidgffaaGreatDoor
open Go Go.RowKit
set_option maxRecDepth 100000
end Go.Proofs.YtniolldgidgffaaGreatDoor

/- The reference's plan, by value: PlanOf. -/
namespace Go.Proofs.YtniolldgidgffaaGreatDoor
open Go Go.RowKit
set_option maxRecDepth 100000
end Go.Proofs.YtniolldgidgffaaGreatDoor

/- Stacks and styles of the stream, by value. -/
-- NEWM
namespace Go.Proofs.YtniolldgidgffaaGreatDoor
open Go Go.RowKit
set_option maxRecDepth 100000
end Go.Proofs.YtniolldgidgffaaGreatDoor

/- Right cells and right stacks of the stream, by value. -/
-- NEWM
namespace Go.Proofs.YtniolldgidgffaaGreatDoor
open Go Go.RowKit
set_option maxRecDepth 100000
theorem ncel_nil {st : Int} (hst : 2 ≤ st ∧ st ≤ 100 ∧ st.tmod 2 = 0) : NCel ⟨st, 0, 0, []⟩ := by
 have h := celN_ok (st := st) (L := []) ⟨hst.1, by omega, hst.2.2⟩ (by decide) (by decide) (by simp [x0, mnL, cols]) (by simp [y0, mnL, rws])
 exact ⟨h, ⟨(by decide : -10000 ≤ (0 : Int)), (by decide : (0 : Int) ≤ 10000)⟩, ⟨(by decide : -10000 ≤ (0 : Int)), (by decide : (0 : Int) ≤ 10000)⟩⟩
set_option maxHeartbeats 2000000 in
theorem rightcells_v (st : Int) (hst : 2 ≤ st ∧ st ≤ 100 ∧ st.tmod 2 = 0) (v : Value) (zs : List Int) (a : Int) (hs : StrOk zs) (h0 : 0 ≤ a) (h1 : a ≤ 700000000) : ACalls Tryz.prog 44 [.p 0 0 0, .c (I st)] [strm v zs a] fun u H => ∃ (v' : Value) (c : Cel) (a' : Int), u = celA v' c ∧ H = [strm v zs a'] ∧ a ≤ a' ∧ a' ≤ a + 1200 ∧ NCel c ∧ c.st = st := by
 have hst1 : 1 ≤ st ∧ st ≤ 100 := by omega
 refine acalls_of (N := 18) Tryz.func44 rfl rfl (by simp) fun E hE => ?_
 refine WA ?_
 refine WA ?_
 refine aw_loopw (fun m F H => ∃ (k : Nat) (a' : Int), m + k = 6 ∧ a ≤ a' ∧ a' ≤ a + 200 * k ∧ F = [(0, .p 0 0 0), (1, .c (I st)), (4, .p 1 0 0), (6, .c (I k))] ∧ H = [strm v zs a', .box [.c (I 0), .c (I 0), .c (I 0), .c (.r (.slice none 0 0) [])]]) ?_ ?_
 ·refine wk_of [some 0, some 1] (fun _ => [(0, .p 0 0 0), (1, .c (I st)), (4, .p 1 0 0), (6, .c (I (0 : Nat)))]) (fun _ => [strm v zs a, .box [.c (I 0), .c (I 0), .c (I 0), .c (.r (.slice none 0 0) [])]]) (by decide) (ZNL hE) ZCF ZCH (fun _ => ?_)
  exact ⟨6, 0, a, by omega, by omega, by omega, rfl, rfl⟩
 rintro m F H ⟨k, a', hk, ha1, ha2, rfl, rfl⟩
 refine WA ?_
 refine aw_if rfl (fun hlt => ?_) (fun hge => ?_)
 ·refine WR ?_
  refine al_ef rfl (ef_callm false (fun _ => acells_w st hst1 _ _ _ hs (by omega) (by omega)) rfl .fn rfl (by decide) (by kernel_rfl) rfl rfl (fun _g => .cons (.p rfl) (.cons (.c rfl) .nil)) (fun _g => .cons (.c rfl) (.cons (.c rfl) .nil)) (by simp)) ?_
  rintro F1 H1 ⟨_, _, _, _, ⟨vc, c, ac, rfl, hq, hac1, hac2, hcs, hcst⟩, hF, hH⟩
  injection hq with hq1 hq2; subst hq1; subst hq2
  (refine NST hF hH ?_; clear hF hH; rintro rfl rfl)
  refine WE ?_
  refine WR ?_
  refine al_ef rfl (ef_call0 false (fun _ => rcheck_v vc c (by have := hcs.h; omega) (fun r hr => by have := hcs.r r hr; omega)) rfl .fn rfl (by decide) (by kernel_rfl) rfl (fun _ => C0 rfl) (by simp)) ?_
  rintro _ _ ⟨_, _, _, ⟨rfl, rfl⟩, hF, hH⟩
  (refine NST hF hH ?_; clear hF hH; rintro rfl rfl)
  refine WE ?_
  refine aw_if rfl (fun hz => ?_) (fun hz => ?_)
  ·have hr := celF_0.1 hz
   have hn := hcs.near hr
   have hcs2 := hcst hr
   refine WA ?_
   exact aret_a [some 0] _ rfl (KK (t := 28) rfl) rfl (Cells.box rfl) (by first | (simp; done) | exact Nat.le_refl 4) (by (try simp only [nm, putL, Nat.reduceAdd, cellsOf, cvOf]) <;> rfl) (by decide) (ZNK rfl) (fun _ => C0 rfl) ZCH ⟨vc, c, ac, rfl, rfl, by omega, by omega, hn, hcs2⟩
  ·refine ZZ ?_
   refine WA ?_
   refine wk_of [some 0, some 1] (fun _ => [(0, .p 0 0 0), (1, .c (I st)), (4, .p 1 0 0), (6, .c (I (k + 1 : Nat)))]) (fun _ => [strm v zs ac, .box [.c (I 0), .c (I 0), .c (I 0), .c (.r (.slice none 0 0) [])]]) (by decide) (ZNL hE) ZCF ZCH (fun _ => ?_)
   exact ⟨m - 1, by omega, k + 1, ac, by omega, by omega, by omega, rfl, rfl⟩
 refine ZZ ?_
 refine WA ?_
 exact aret_a [some 0] _ rfl (KK (t := 28) rfl) rfl (Cells.box rfl) (by first | (simp; done) | exact Nat.le_refl 4) (by (try simp only [nm, putL, Nat.reduceAdd, cellsOf, cvOf]) <;> rfl) (by decide) (ZNK rfl) (fun _ => C0 rfl) ZCH ⟨.slice none 0 0, ⟨st, 0, 0, []⟩, a', rfl, rfl, by omega, by omega, ncel_nil hst, rfl⟩
theorem stk1_v (v pv : Value) (c : Cel) : ACalls Tryz.prog 131 [celA v c, .c (.p pv [I c.st])] [] fun u H => u = .c (B false) ∧ H = [] := by
 obtain ⟨st, x, y, rows⟩ := c
 refine acalls_of (N := 8) Tryz.func131 rfl rfl (by simp) fun E hE => ?_
 repeat' (first
  | (with_reducible refine aw_seq ?_) | (with_reducible refine aseq_n ?_) | (with_reducible refine aseq_r ?_) | (with_reducible refine ablk_n ?_) | (with_reducible refine ablk_r ?_) | (with_reducible refine ablk_e ?_) | (with_reducible refine ablk_o rfl ?_) | (with_reducible refine aseq_e ?_) | (with_reducible refine aw_skip ?_) | (with_reducible refine aw_block ?_) | (with_reducible refine aw_ret ?_) | (with_reducible refine aw_exit ?_)
  | refine aw_cond_t rfl ?_ | refine aw_cond_f rfl ?_ | refine aw_if_t rfl (by assumption) ?_ | refine aw_if_f rfl (by assumption) ?_ | refine aw_if rfl (fun _ => ?_) (fun _ => ?_) | refine aw_cond rfl (fun _ => ?_) (fun _ => ?_)
  | (refine aw_region (id := 1) ?_
     iterate 2 refine WX1 ?_
     refine ZA (rd_ldcp rfl (by kernel_rfl) rfl rfl) ?_
     refine WE ?_)
  | (refine aw_region ?_; refine WE ?_))
 exact aret_1 [] _ rfl rfl rfl (by decide) (ZNK rfl) (fun _ => .nil) ⟨congrArg (fun z => AV.c (B z)) (by simp), rfl⟩
set_option maxHeartbeats 1000000 in
theorem idxst_v (v pv : Value) (st : Int) (l : List (Value × Cel)) (hl : l.length ≤ 1000000) (hst : ∀ p ∈ l, p.2.st = st) : ACalls Tryz.prog 144 [.c (.r v (cR l)), .f (.func 131) [.c (.p pv [I st])]] [] fun u H => u = .c (I (-1)) ∧ H = [] := by
 have e1 : (cR l).length = l.length := by simp
 refine acalls_of (N := 19) Tryz.func144 rfl rfl (by simp) fun E hE => ?_
 refine WA ?_
 refine WA ?_
 refine aw_loopw (fun m F H => ∃ (k : Nat), m + k = l.length ∧ F = [(0, .c (.r v (cR l))), (1, .f (.func 131) [.c (.p pv [I st])]), (7, .c (I (cR l).length)), (8, .c (I k))] ∧ H = []) ?_ ?_
 ·refine wk_of [] (fun _ => [(0, .c (.r v (cR l))), (1, .f (.func 131) [.c (.p pv [I st])]), (7, .c (I (cR l).length)), (8, .c (I (0 : Nat)))]) (fun _ => []) (by decide) (ZNL hE) ZCF (fun _ => .nil) (fun _ => ?_)
  exact ⟨l.length, 0, by omega, rfl, rfl⟩
 rintro m F H ⟨k, hk, rfl, rfl⟩
 refine WA ?_
 refine aw_if rfl (fun hlt => ?_) (fun hge => ?_)
 ·obtain ⟨⟨w, c⟩, hz⟩ : ∃ e, l[k]? = some e := ⟨_, List.getElem?_eq_getElem (by omega)⟩
  have hrow : (cR l)[k]? = some (celR w c) := by rw [List.getElem?_map, hz]; rfl
  obtain rfl : c.st = st := hst _ (List.mem_of_getElem? hz)
  refine WA ?_
  refine WR ?_
  refine al_ef rfl (ef_call0 false (fun _ => stk1_v w pv c) rfl (.clo rfl) rfl (by decide) (by kernel_rfl) rfl (fun _ => C0 rfl) (by simp)) ?_
  rintro _ _ ⟨_, _, _, ⟨rfl, rfl⟩, hF, hH⟩
  (refine NST hF hH ?_; clear hF hH; rintro rfl rfl)
  refine WE ?_
  refine aw_cond_f rfl ?_
  refine ZZ ?_
  refine WA ?_
  refine wk_of [] (fun _ => [(0, .c (.r v (cR l))), (1, .f (.func 131) [.c (.p pv [I c.st])]), (7, .c (I (cR l).length)), (8, .c (I (k + 1 : Nat)))]) (fun _ => []) (by decide) (ZNL hE) ZCF (fun _ => .nil) (fun _ => ?_)
  exact ⟨m - 1, by omega, k + 1, by omega, rfl, rfl⟩
 refine ZZ ?_
 refine WA ?_
 exact aret_1 [] _ rfl rfl rfl (by decide) (ZNK rfl) (fun _ => .nil) ⟨rfl, rfl⟩
theorem delst_v (v pv : Value) (st : Int) (l : List (Value × Cel)) (hl : l.length ≤ 1000000) (hst : ∀ p ∈ l, p.2.st = st) : ACalls Tryz.prog 130 [.c (.r v (cR l)), .f (.func 131) [.c (.p pv [I st])]] [] fun u H => u = .c (.r v (cR l)) ∧ H = [] := by
 refine acalls_of (N := 42) Tryz.func130 rfl rfl (by simp) fun E hE => ?_
 refine WA ?_
 refine WR ?_
 refine al_ef rfl (ef_call0 false (fun _ => idxst_v v pv st l hl hst) rfl .fn rfl (by decide) (by kernel_rfl) rfl (fun _ => C0 rfl) (by simp)) ?_
 rintro _ _ ⟨_, _, _, ⟨rfl, rfl⟩, hF, hH⟩
 (refine NST hF hH ?_; clear hF hH; rintro rfl rfl)
 refine WE ?_
 refine WA ?_
 refine aw_cond_t rfl ?_
 refine WA ?_
 exact aret_1 [] _ rfl rfl rfl (by decide) (ZNK rfl) (fun _ => .nil) ⟨rfl, rfl⟩
set_option maxHeartbeats 2000000 in
theorem rightstack_v (most : Int) (hm : 1 ≤ most ∧ most ≤ 10) (v : Value) (zs : List Int) (a : Int) (hs : StrOk zs) (h0 : 0 ≤ a) (h1 : a ≤ 600000000) : ACalls Tryz.prog 53 [.p 0 0 0, .c (I most)] [strm v zs a] fun u H => ∃ (v' : Value) (l : List (Value × Cel)) (st a' : Int), u = .c (.r v' (cR l)) ∧ H = [strm v zs a'] ∧ a ≤ a' ∧ a' ≤ a + 20000 ∧ (l.length : Int) ≤ most ∧ 1 ≤ l.length ∧ ∀ p ∈ l, NCel p.2 ∧ p.2.st = st := by
 refine acalls_of (N := 25) Tryz.func53 rfl rfl (by simp) fun E hE => ?_
 refine WA ?_
 refine WA ?_
 refine aw_cut (fun F H => ∃ stp : Int, (2 ≤ stp ∧ stp ≤ 100 ∧ stp.tmod 2 = 0) ∧ F = [(0, .p 0 0 0), (1, .c (I most)), (5, .c (.r (.slice none 0 0) [])), (6, .p 1 0 0)] ∧ H = [strm v zs (a + 1), .box [.c (I stp)]]) ?_ ?_ wk_aw
 ·refine WR ?_
  refine al_ef rfl (ef_callm true (fun _ => pick_a [2, 10] _ _ _ _ hs (by omega) (by omega) (by simp) (by simp)) rfl .fn rfl (by decide) (by kernel_rfl) rfl rfl (fun _g => .cons (.p rfl) (.cons (.frz rfl rfl rfl rfl rfl) .nil)) (fun _g => .cons (.c rfl) (.cons (.c rfl) .nil)) (fun _ _ _ _ ⟨_, hu, hH, _⟩ => by rw [hu, hH]; exact ⟨.c (.inl trivial), strm_flat (.inr ⟨0, _, rfl, by simp⟩)⟩)) ?_
  rintro F1 H1 ⟨_, _, _, _, ⟨stp, rfl, hq, hrm⟩, hF, hH⟩
  injection hq with hq1 hq2; subst hq1; subst hq2
  (refine NST hF hH ?_; clear hF hH; rintro rfl rfl)
  simp only [List.mem_cons, List.not_mem_nil, or_false] at hrm
  refine WE ?_
  all_goals (
   have hst : 2 ≤ stp ∧ stp ≤ 100 ∧ stp.tmod 2 = 0 := by rcases hrm with rfl | rfl <;> decide
   clear hrm
   first
   | exact wk_of [some 0, some 1] (fun _ => [(0, .p 0 0 0), (1, .c (I most)), (5, .c (.r (.slice none 0 0) [])), (6, .p 1 0 0)]) (fun _ => [strm v zs (a + 1), .box [.c (I stp)]]) (by decide) (ZNL hE) ZCF ZCH (fun _ => ⟨stp, hst, rfl, rfl⟩)
   | exact wk_of [some 0, some 2] (fun _ => [(0, .p 0 0 0), (1, .c (I most)), (5, .c (.r (.slice none 0 0) [])), (6, .p 1 0 0)]) (fun _ => [strm v zs (a + 1), .box [.c (I stp)]]) (by decide) (ZNL hE) ZCF ZCH (fun _ => ⟨stp, hst, rfl, rfl⟩))
 rintro F H ⟨stp, hst, rfl, rfl⟩
 refine WR ?_
 refine al_ef rfl (ef_callm false (fun _ => range_a 1 _ _ _ _ hs (by omega) (by omega) (by omega) (by omega) (by omega) (by omega)) rfl .fn rfl (by decide) (by kernel_rfl) rfl rfl (fun _g => .cons (.p rfl) (.cons (.c rfl) (.cons (.c rfl) .nil))) (fun _g => .cons (.c rfl) (.cons (.c rfl) .nil)) (by simp)) ?_
 rintro F1 H1 ⟨_, _, _, _, ⟨rr, ar, rfl, hq, hr3, hr4, hr1, hr2, _⟩, hF, hH⟩
 injection hq with hq1 hq2; subst hq1; subst hq2
 (refine NST hF hH ?_; clear hF hH; rintro rfl rfl)
 have h64r : in64 rr := by simp only [in64]; omega
 refine WE ?_
 obtain ⟨nr, rfl⟩ : ∃ nr : Nat, rr = nr := ⟨rr.toNat, by omega⟩
 have hnr : 1 ≤ nr ∧ (nr : Int) ≤ most := by omega
 have haa : a ≤ ar ∧ ar ≤ a + 4 := by omega
 generalize har : ar = a1 at *
 refine aw_loopw (fun m F H => ∃ (i cp : Nat) (l : List (Value × Cel)) (a' : Int), m + i = nr ∧ l.length = i ∧ (∀ p ∈ l, NCel p.2 ∧ p.2.st = stp) ∧ a1 ≤ a' ∧ a' ≤ a1 + 1200 * i ∧ F = [(0, .p 0 0 0), (5, .o 2 0 l.length cp), (6, .p 1 0 0), (12, .c (I nr)), (13, .c (I i))] ∧ H = [strm v zs a', .box [.c (I stp)], .arr 28 4 cp (cR l)]) ?_ ?_
 ·refine wk_of [some 0, some 1, none] (fun _ => [(0, .p 0 0 0), (5, .o 2 0 0 0), (6, .p 1 0 0), (12, .c (I nr)), (13, .c (I (0 : Nat)))]) (fun _ => [strm v zs a1, .box [.c (I stp)], .arr 28 4 0 (cR [])]) (by decide) (ZNL hE) ZCF ZCH (fun _ => ?_)
  exact ⟨nr, 0, 0, [], a1, by omega, rfl, fun r h => (by cases h), by omega, by omega, rfl, rfl⟩
 rintro m F H ⟨i, cp, l, a', hi, hli, hlc, ha1, ha2, rfl, rfl⟩
 refine WA ?_
 refine aw_if rfl (fun hlt => ?_) (fun hge => ?_)
 ·refine WR ?_
  refine al_ef rfl (ef_callm false (fun _ => rightcells_v stp hst _ _ _ hs (by omega) (by omega)) rfl .fn rfl (by decide) (by kernel_rfl) rfl rfl (fun _g => .cons (.p rfl) (.cons (.c rfl) .nil)) (fun _g => .cons (.c rfl) (.cons (.c rfl) .nil)) (by simp)) ?_
  rintro F1 H1 ⟨_, _, _, _, ⟨vc, c, ac, rfl, hq, hac1, hac2, hcn, hcst⟩, hF, hH⟩
  injection hq with hq1 hq2; subst hq1; subst hq2
  (refine NST hF hH ?_; clear hF hH; rintro rfl rfl)
  refine WO ?_
  refine al_ef rfl (Zapp (KA (t := 58) rfl)) ?_
  rintro _ _ ⟨_, cc, hcc, rfl, rfl⟩
  refine WE ?_
  refine WA ?_
  refine wk_of [some 0, some 1, some 2] (fun _ => [(0, .p 0 0 0), (5, .o 2 0 (l ++ [(vc, c)]).length cc), (6, .p 1 0 0), (12, .c (I nr)), (13, .c (I (i + 1 : Nat)))]) (fun _ => [strm v zs ac, .box [.c (I stp)], .arr 28 4 cc (cR (l ++ [(vc, c)]))]) (by decide) (ZNL hE) ZCF ZCH (fun _ => ?_)
  exact ⟨m - 1, by omega, i + 1, cc, l ++ [(vc, c)], ac, by omega, by rw [List.length_append]; simp; omega, fun q hq => by
   rcases List.mem_append.1 hq with hq | hq
   ·exact hlc q hq
   ·rw [List.mem_singleton.1 hq]; exact ⟨hcn, hcst⟩, by omega, by omega, rfl, rfl⟩
 obtain rfl : i = nr := by omega
 have hl1 : l.length ≤ 1000000 := by omega
 have hlc1 : ∀ p ∈ l, p.2.st = stp := fun p hp => (hlc p hp).2
 refine ZZ ?_
 refine aw_wk (wk_of (K := fun F H => ∃ vo po, F = [(5, .c (.r vo (cR l))), (6, .c (.p po [I stp]))] ∧ H = [strm v zs a']) [some 0] (fun g => [(5, .c (.r (g (.o 2 0 l.length cp)) (cR l))), (6, .c (.p (g (.p 1 0 0)) [I stp]))]) (fun _ => [strm v zs a']) (by decide) (ZNL hE) (fun _ => .cons rfl (.frz (b := 2) rfl rfl (by rw [List.drop_zero, List.take_of_length_le (by simp)]) (by simp) rfl) (.cons rfl (frzpL rfl rfl (.cons (.c rfl) .nil)) .nil)) ZCH (fun _ => ⟨_, _, rfl, rfl⟩)) ?_
 rintro F H ⟨vo, po, rfl, rfl⟩
 refine WR ?_
 refine al_ef rfl (ef_call0 false (fun _ => delst_v vo po stp l hl1 hlc1) rfl .fn rfl (by decide) (by kernel_rfl) rfl (fun _ => C0 rfl) (by simp)) ?_
 rintro _ _ ⟨_, _, _, ⟨rfl, rfl⟩, hF, hH⟩
 (refine NST hF hH ?_; clear hF hH; rintro rfl rfl)
 refine WE ?_
 exact aret_1 [some 0] _ rfl rfl rfl (by decide) (ZNK rfl) ZCH ⟨vo, l, stp, a', rfl, rfl, by omega, by omega, by omega, by omega, hlc⟩
end Go.Proofs.YtniolldgidgffaaGreatDoor
