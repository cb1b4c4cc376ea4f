/- Lines of a grid: plain. -/
import Derived.Test.YtgeenfjmhhenfaaGreatDoorQbp
import Derived.Test.YtgeenfjmhhenfaaGreatDoorQav
set_option linter.unusedSimpArgs false
set_option linter.unusedVariables false
/- Plans of layers, by value: the program's and the reference's. -/
-- NEWM
namespace Go.Proofs.YtgeenfjmhhenfaaGreatDoor
open Go Go.RowKit
set_option maxRecDepth 100000
theorem both_eq {c : Cel} (h : NCel c) {A B' : List Spot} (hA : ∀ p ∈ A, p ∈ covL c) : normC (celN c.st A).st (botL (covL (celN c.st A)) (covL (celN c.st B'))) = (celN c.st (botL A B'), 0) ∧ RCel (celN c.st (botL A B')) := by
 have hst : 0 < c.st := by have := h.r.st; omega
 have hm : ∀ q, q ∈ botL (covL (celN c.st A)) (covL (celN c.st B')) ↔ q ∈ botL A B' := fun q => by
  unfold botL
  rw [List.mem_filter, List.mem_filter, covL_celN hst]
  simp only [decide_eq_true_iff, covL_celN hst]
 obtain ⟨h1, h2⟩ := normC_ok h (L := botL A B') fun p hp => hA p (List.mem_filter.1 hp).1
 rw [celN_st, normC_mem hm]
 exact ⟨h1, h2⟩
theorem min_eq {c : Cel} (h : NCel c) {A B' : List Spot} (hA : ∀ p ∈ A, p ∈ covL c) : normC (celN c.st A).st (minL (covL (celN c.st A)) (covL (celN c.st B'))) = (celN c.st (minL A B'), 0) ∧ RCel (celN c.st (minL A B')) := by
 have hst : 0 < c.st := by have := h.r.st; omega
 have hm : ∀ q, q ∈ minL (covL (celN c.st A)) (covL (celN c.st B')) ↔ q ∈ minL A B' := fun q => by
  unfold minL
  rw [List.mem_filter, List.mem_filter, covL_celN hst]
  simp only [Bool.not_eq_true', decide_eq_false_iff_not, covL_celN hst]
 obtain ⟨h1, h2⟩ := normC_ok h (L := minL A B') fun p hp => hA p (List.mem_filter.1 hp).1
 rw [celN_st, normC_mem hm]
 exact ⟨h1, h2⟩
def plnC (l : List Cel) (w : Nat) (t b : Int) (i : Nat) (c : Cel) : List Cel × Cel × Cel := ((List.range w).map (walC c), celN c.st (botL (shrL w (covL c)) (solL l i t b)), celN c.st (minL (shrL w (covL c)) (solL l i t b)))
def plnL (l : List Cel) (w : Nat) (t b : Int) (n : Nat) : List (List Cel × Cel × Cel) := (List.range n).map fun i => plnC l w t b i (l.getD i ⟨0, 0, 0, []⟩)
theorem plnL_succ {l : List Cel} {w : Nat} {t b : Int} {n : Nat} {c : Cel} (h : l[n]? = some c) : plnL l w t b (n + 1) = plnL l w t b n ++ [plnC l w t b n c] := by
 unfold plnL; rw [List.range_succ, List.map_append, List.map_singleton, List.getD_eq_getElem?_getD, h]; rfl
theorem shr_sub {n : Nat} {L : List Spot} : ∀ p ∈ shrL n L, p ∈ L := fun p hp => (List.mem_filter.1 hp).1
theorem sol_sub {l : List Cel} {i : Nat} {c : Cel} {t b : Int} (h : l[i]? = some c) : ∀ p ∈ solL l i t b, p ∈ covL c := fun p hp => by
 unfold solL at hp
 have := (List.mem_filter.1 hp).1
 rw [List.getD_eq_getElem?_getD, List.getElem?_map, h] at this
 exact this
theorem pln_ok {l : List Cel} {w : Nat} {t b : Int} {i : Nat} {c : Cel} (hc : NCel c) (f : Fil) (h : filC f = plnC l w t b i c) (hw : w ≤ 10) : FilOk f := by
 obtain ⟨h1, h2⟩ := Prod.mk.inj h
 obtain ⟨h3, h4⟩ := Prod.mk.inj h2
 refine ⟨?_, fun p hp => ?_, ?_, ?_⟩
 ·have := congrArg List.length h1
  simp only [List.length_map, List.length_range] at this
  omega
 ·have hm : p.2 ∈ (List.range w).map (walC c) := by rw [← h1]; exact List.mem_map_of_mem hp
  obtain ⟨k, _, hk⟩ := List.mem_map.1 hm
  rw [← hk]
  exact (normC_ok hc fun q hq => (List.mem_filter.1 (List.mem_filter.1 hq).1).1).2
 ·rw [h3]; exact (both_eq hc shr_sub).2
 ·rw [h4]; exact (min_eq hc shr_sub).2
theorem solid_g (l : List (Value × Cel)) (i : Nat) (tp bo : Int) (htp : 0 ≤ tp ∧ tp ≤ 50) (hbo : 0 ≤ bo ∧ bo ≤ 50) (hl : l.length ≤ 50) (hn : ∀ p ∈ l, NCel p.2) (c : Cel) (vc : Value) (hic : l[i]? = some (vc, c)) (w : Value) (gs : List (Value × Value × Grd)) (hgs : gs.map (fun p => p.2.2) = l.map (fun p => grdOf p.2)) : ∃ g, (GOk g ∧ (0 ≤ g.st ∧ g.st ≤ 10000) ∧ normC g.st (covG g) = (celN c.st (solL (l.map Prod.snd) i tp bo), 0)) ∧ ACalls Tryz.prog 64 [.c (.r w (gR gs)), .c (I i), .c (I tp), .c (I bo)] [] fun u H => ∃ pv1 v1, u = gV pv1 v1 g ∧ H = [] := by
 have hok : ∀ p ∈ l, RCel p.2 := fun p hp => (hn p hp).r
 have hnc : NCel c := hn _ (List.mem_of_getElem? hic)
 have hmm : (l.map Prod.snd).map covL = l.map fun p => covL p.2 := by rw [List.map_map]; rfl
 have hil := (List.getElem?_eq_some_iff.1 hic).1
 have hgl : gs.length = l.length := by have := congrArg List.length hgs; simpa using this
 obtain ⟨⟨pv, ov, g⟩, hz⟩ : ∃ e, gs[i]? = some e := ⟨_, List.getElem?_eq_getElem (by omega)⟩
 obtain ⟨va', c', h2, h3, h4, h5⟩ := grids_at hok hgs i _ hz
 rw [hic] at h2
 obtain ⟨rfl, rfl⟩ := Prod.mk.inj (Option.some.inj h2)
 obtain rfl : g = grdOf c := h4
 have hst := h3.st
 refine ⟨filG (grdOf c) _, ⟨filG_ok (grdOf_ok h3) _, by show 0 ≤ (grdOf c).st ∧ (grdOf c).st ≤ 10000; rw [grdOf_st]; omega, ?_⟩, solid_v w gs (l.map fun p => covL p.2) i tp bo (by omega) htp hbo (by omega) (by simp [hgl]) (fun k p hp => ?_) pv ov (grdOf c) hz⟩
 ·have hL : ∀ q, q ∈ solL (l.map Prod.snd) i tp bo ↔ q ∈ covL c ∧ (fun q => !nearL (l.map fun p => covL p.2) (i : Int) tp bo q) q = true := fun q => by rw [solL, hmm, h5, List.mem_filter]
  rw [show (filG (grdOf c) (fun q => !nearL (l.map fun p => covL p.2) (i : Int) tp bo q)).st = (grdOf c).st from rfl, normC_fil h3 hL]
  exact (normC_ok hnc fun p hp => ((hL p).1 hp).1).1
 ·obtain ⟨va', c', q2, q3, q4, q5⟩ := grids_at hok hgs k _ hp
  rw [q4]
  exact ⟨grdOf_ok q3, fun a b => by rw [at_cov q3, q5]⟩
def plnF (l : List Cel) (w t b e : Int) : Int := if layF l ≠ 0 then layF l else styF w t b e
set_option maxHeartbeats 4000000 in
theorem planT_v (va : Value) (l : List (Value × Cel)) (w t b e : Int) (hsz : ∀ p ∈ l, p.2.rows.length ≤ 1000000000 ∧ ∀ r ∈ p.2.rows, r.length ≤ 1000000000) (hl : l.length ≤ 1000000) (hnr : ∀ p ∈ l, RCel p.2 → NCel p.2) : ACalls Tryz.prog 13 [.c (.r va (cR l)), .a [.c (I w), .c (I t), .c (I b), .c (I e)]] [] fun u H => ∃ (v : Value) (fl : List Fil), u = .t [.c (.r v (fR fl)), .c (I (plnF (l.map Prod.snd) w t b e))] ∧ (plnF (l.map Prod.snd) w t b e ≠ 0 → fl = []) ∧ (plnF (l.map Prod.snd) w t b e = 0 → (∀ p ∈ l, NCel p.2) ∧ fl.map filC = plnL (l.map Prod.snd) w.toNat t b l.length ∧ ∀ f ∈ fl, FilOk f) ∧ H = [] := by
 have e1 : (cR l).length = l.length := by simp
 obtain ⟨q, hq⟩ : ∃ q, layF (l.map Prod.snd) = q := ⟨_, rfl⟩
 obtain ⟨sq, hsq⟩ : ∃ q, styF w t b e = q := ⟨_, rfl⟩
 have hsf : plnF (l.map Prod.snd) w t b e = if q ≠ 0 then q else sq := by rw [plnF, hq, hsq]
 rw [hsf]
 refine acalls_of (N := 71) Tryz.func13 rfl rfl (by simp) fun E hE => ?_
 refine WA ?_
 refine WR ?_
 refine al_ef rfl (ef_call0 false (fun _ => layersfault_v va l hsz (by omega)) rfl .fn rfl (by decide) (by kernel_rfl) rfl (fun _ => C0 rfl) (by simp)) ?_
 rintro _ _ ⟨_, _, _, ⟨rfl, rfl⟩, hF, hH⟩
 rw [hq] at hF
 (refine NST hF hH ?_; clear hF hH; rintro rfl rfl)
 refine WE ?_
 refine WA ?_
 refine aw_if rfl (fun h1 => ?_) (fun h1 => ?_)
 ·rw [if_pos h1]
  refine WA ?_
  exact aret_2 [] _ rfl rfl rfl rfl rfl (by decide) (ZNK rfl) (fun _ => .nil) ⟨.slice none 0 0, [], rfl, fun _ => rfl, fun e => absurd e (h1), rfl⟩
 rw [if_neg h1]
 obtain rfl : q = 0 := by omega
 obtain ⟨hl5, hlk⟩ := layF_ok hq
 have hok : ∀ p ∈ l, RCel p.2 := fun p hp => (hlk p hp).1
 have hnn : ∀ p ∈ l, NCel p.2 := fun p hp => hnr p hp (hok p hp)
 refine ZZ ?_
 refine WR ?_
 refine al_ef rfl (ef_call0 false (fun _ => style_v w t b e) rfl .fn rfl (by decide) (by kernel_rfl) rfl (fun _ => C0 rfl) (by simp)) ?_
 rintro _ _ ⟨_, _, _, ⟨rfl, rfl⟩, hF, hH⟩
 rw [hsq] at hF
 (refine NST hF hH ?_; clear hF hH; rintro rfl rfl)
 refine WE ?_
 refine WA ?_
 refine aw_if rfl (fun h2 => ?_) (fun h2 => ?_)
 ·refine WA ?_
  exact aret_2 [] _ rfl rfl rfl rfl rfl (by decide) (ZNK rfl) (fun _ => .nil) ⟨.slice none 0 0, [], rfl, fun _ => rfl, fun e => absurd e (h2), rfl⟩
 obtain rfl : sq = 0 := by omega
 obtain ⟨hw10, ht50, hb50⟩ : (0 ≤ w ∧ w ≤ 10) ∧ (0 ≤ t ∧ t ≤ 50) ∧ (0 ≤ b ∧ b ≤ 50) := by
  unfold styF at hsq
  split at hsq
  ·cases hsq
  ·rename_i h; simp [outB] at h; omega
 obtain ⟨wn, rfl⟩ : ∃ wn : Nat, w = wn := ⟨w.toNat, by omega⟩
 rw [Int.toNat_natCast]
 refine ZZ ?_
 refine WR ?_
 refine al_ef rfl (ef_call0 false (fun _ => grids_v va l hok (by omega)) rfl .fn rfl (by decide) (by kernel_rfl) rfl (fun _ => C0 rfl) (by simp)) ?_
 rintro _ _ ⟨_, _, _, ⟨gw, gs, rfl, hgs, rfl⟩, hF, hH⟩
 (refine NST hF hH ?_; clear hF hH; rintro rfl rfl)
 refine WE ?_
 refine WA ?_
 refine WA ?_
 refine aw_loopw (fun m F H => ∃ (i cp : Nat) (fl : List Fil), m + i = l.length ∧ fl.map filC = plnL (l.map Prod.snd) wn t b i ∧ (∀ f ∈ fl, FilOk f) ∧ F = [(3, .p 0 0 0), (8, .c (.r gw (gR gs))), (9, .o 1 0 fl.length cp), (28, .c (.r va (cR l))), (29, .c (I (cR l).length)), (30, .c (I i))] ∧ H = [.box [.c (I wn), .c (I t), .c (I b), .c (I e)], .arr 58 9 cp (fR fl)]) ?_ ?_
 ·refine wk_of [some 0, none] (fun _ => [(3, .p 0 0 0), (8, .c (.r gw (gR gs))), (9, .o 1 0 0 0), (28, .c (.r va (cR l))), (29, .c (I (cR l).length)), (30, .c (I (0 : Nat)))]) (fun _ => [.box [.c (I wn), .c (I t), .c (I b), .c (I e)], .arr 58 9 0 (fR [])]) (by decide) (ZNL hE) ZCF ZCH (fun _ => ?_)
  exact ⟨l.length, 0, 0, [], by omega, rfl, fun f hf => (by cases hf), rfl, rfl⟩
 rintro m F H ⟨i, cp, fl, hi, hfl, hfo, rfl, rfl⟩
 have hfll : fl.length = i := by have := congrArg List.length hfl; simpa [plnL] using this
 refine WA ?_
 refine aw_if rfl (fun hlt => ?_) (fun hge => ?_)
 ·obtain ⟨⟨vc, c⟩, hic⟩ : ∃ e, l[i]? = some e := ⟨_, List.getElem?_eq_getElem (by omega)⟩
  have hrow : (cR l)[i]? = some (celR vc c) := by rw [List.getElem?_map, hic]; rfl
  have hnc : NCel c := hnn _ (List.mem_of_getElem? hic)
  have hicc : (l.map Prod.snd)[i]? = some c := by rw [List.getElem?_map, hic]; rfl
  have hwal := walls_v vc c hnc wn (by omega)
  obtain ⟨g, hgl, hsol⟩ := solid_g l i t b ht50 hb50 hl5 hnn c vc hic gw gs hgs
  have hrS : RCel (celN c.st (solL (l.map Prod.snd) i t b)) := (normC_ok hnc (sol_sub hicc)).2
  have hrR : RCel (celN c.st (shrL wn (covL c))) := (normC_ok hnc shr_sub).2
  obtain ⟨hb1, _⟩ := both_eq hnc (A := shrL wn (covL c)) (B' := solL (l.map Prod.snd) i t b) shr_sub
  obtain ⟨hm1, _⟩ := min_eq hnc (A := shrL wn (covL c)) (B' := solL (l.map Prod.snd) i t b) shr_sub
  have hbo2 : ∀ v1 v2, ACalls Tryz.prog 68 [celA v1 (celN c.st (shrL wn (covL c))), celA v2 (celN c.st (solL (l.map Prod.snd) i t b))] [] fun u H => ∃ v', u = .t [celA v' (celN c.st (botL (shrL wn (covL c)) (solL (l.map Prod.snd) i t b))), .c (I 0)] ∧ H = [] := fun v1 v2 => by
   have := both_v v1 v2 _ _ hrR hrS (by rw [celN_st, celN_st])
   rw [hb1] at this
   exact this
  have hmi2 : ∀ v1 v2, ACalls Tryz.prog 69 [celA v1 (celN c.st (shrL wn (covL c))), celA v2 (celN c.st (solL (l.map Prod.snd) i t b))] [] fun u H => ∃ v', u = celA v' (celN c.st (minL (shrL wn (covL c)) (solL (l.map Prod.snd) i t b))) ∧ H = [] := fun v1 v2 => by
   have h5 := hm1
   have h6 : celN (celN c.st (shrL wn (covL c))).st (minL (covL (celN c.st (shrL wn (covL c)))) (covL (celN c.st (solL (l.map Prod.snd) i t b)))) = celN c.st (minL (shrL wn (covL c)) (solL (l.map Prod.snd) i t b)) := by
    have hst : 0 < c.st := by have := hnc.r.st; omega
    rw [celN_st]
    refine celN_mem fun q => ?_
    unfold minL
    rw [List.mem_filter, List.mem_filter, covL_celN hst]
    simp only [Bool.not_eq_true', decide_eq_false_iff_not, covL_celN hst]
   have := fmin_v v1 v2 _ _ hrR hrS (by rw [celN_st, celN_st]) (by rw [h5, h6])
   rw [h6] at this
   exact this
  have hnx : plnL (l.map Prod.snd) wn t b (i + 1) = plnL (l.map Prod.snd) wn t b i ++ [((List.range wn).map (walC c), celN c.st (botL (shrL wn (covL c)) (solL (l.map Prod.snd) i t b)), celN c.st (minL (shrL wn (covL c)) (solL (l.map Prod.snd) i t b)))] := plnL_succ hicc
  have hpo : ∀ f : Fil, filC f = ((List.range wn).map (walC c), celN c.st (botL (shrL wn (covL c)) (solL (l.map Prod.snd) i t b)), celN c.st (minL (shrL wn (covL c)) (solL (l.map Prod.snd) i t b))) → FilOk f := fun f h => pln_ok (l := l.map Prod.snd) (i := i) (t := t) (b := b) hnc f h (by omega)
  clear hrS hrR hb1 hm1
  generalize celN c.st (botL (shrL wn (covL c)) (solL (l.map Prod.snd) i t b)) = SB at *
  generalize celN c.st (minL (shrL wn (covL c)) (solL (l.map Prod.snd) i t b)) = SM at *
  generalize celN c.st (solL (l.map Prod.snd) i t b) = SS at *
  generalize celN c.st (shrL wn (covL c)) = SR at *
  generalize (List.range wn).map (walC c) = WW at *
  refine WA ?_
  refine WA ?_
  refine WA ?_
  refine WR ?_
  refine al_ef rfl (ef_call0 false (fun _ => hwal) rfl .fn rfl (by decide) (by kernel_rfl) rfl (fun _ => C0 rfl) (by simp)) ?_
  rintro _ _ ⟨_, _, _, ⟨vr, vw, lw, rfl, hlw, rfl⟩, hF, hH⟩
  (refine NST hF hH ?_; clear hF hH; rintro rfl rfl)
  refine WE ?_
  refine WR ?_
  refine al_ef rfl (ef_call0 false (fun _ => hsol) rfl .fn rfl (by decide) (by kernel_rfl) rfl (fun _ => C0 rfl) (by simp)) ?_
  rintro _ _ ⟨_, _, _, ⟨pv1, v1, rfl, rfl⟩, hF, hH⟩
  (refine NST hF hH ?_; clear hF hH; rintro rfl rfl)
  refine al_ef rfl (ef_call0 false (fun _ => cells_v g pv1 v1 hgl.1 hgl.2.1) rfl .fn rfl (by decide) (by kernel_rfl) rfl (fun _ => C0 rfl) (by simp)) ?_
  rintro _ _ ⟨_, _, _, ⟨vf, rfl, rfl⟩, hF, hH⟩
  rw [hgl.2.2] at hF
  (refine NST hF hH ?_; clear hF hH; rintro rfl rfl)
  refine WE ?_
  refine WR ?_
  refine al_ef rfl (ef_call0 false (fun _ => hbo2 vr vf) rfl .fn rfl (by decide) (by kernel_rfl) rfl (fun _ => C0 rfl) (by simp)) ?_
  rintro _ _ ⟨_, _, _, ⟨vs, rfl, rfl⟩, hF, hH⟩
  (refine NST hF hH ?_; clear hF hH; rintro rfl rfl)
  refine WE ?_
  refine WR ?_
  refine al_ef rfl (ef_call0 false (fun _ => hmi2 vr vf) rfl .fn rfl (by decide) (by kernel_rfl) rfl (fun _ => C0 rfl) (by simp)) ?_
  rintro _ _ ⟨_, _, _, ⟨vp, rfl, rfl⟩, hF, hH⟩
  (refine NST hF hH ?_; clear hF hH; rintro rfl rfl)
  refine WE ?_
  refine WR ?_
  refine al_ef rfl (Zapp (KA (t := 41) rfl)) ?_
  rintro _ _ ⟨_, cc, hcc, rfl, rfl⟩
  refine WE ?_
  refine WA ?_
  refine wk_of [some 0, some 1] (fun _ => [(3, .p 0 0 0), (8, .c (.r gw (gR gs))), (9, .o 1 0 (fl ++ [(Fil.mk vw lw (vs, SB) (vp, SM))]).length cc), (28, .c (.r va (cR l))), (29, .c (I (cR l).length)), (30, .c (I (i + 1 : Nat)))]) (fun _ => [.box [.c (I wn), .c (I t), .c (I b), .c (I e)], .arr 58 9 cc (fR (fl ++ [(Fil.mk vw lw (vs, SB) (vp, SM))]))]) (by decide) (ZNL hE) ZCF ZCH (fun _ => ?_)
  have hfc : filC (Fil.mk vw lw (vs, SB) (vp, SM)) = (WW, SB, SM) := by rw [filC, hlw]
  exact ⟨m - 1, by omega, i + 1, cc, fl ++ [(Fil.mk vw lw (vs, SB) (vp, SM))], by omega, by rw [List.map_append, hfl, hnx, List.map_singleton, hfc], fun f hf => by
   rcases List.mem_append.1 hf with hf | hf
   ·exact hfo f hf
   ·rw [List.mem_singleton.1 hf]; exact hpo _ hfc, rfl, rfl⟩
 obtain rfl : i = l.length := by omega
 refine ZZ ?_
 refine WA ?_
 exact aret_f2 [] _ rfl rfl rfl rfl rfl rfl (by rw [List.drop_zero, List.take_of_length_le (by simp)]) (by simp) rfl (by decide) (ZNK rfl) (fun _ => .nil) (fun q => ⟨q, fl, rfl, fun e => absurd rfl e, fun _ => ⟨hnn, hfl, hfo⟩, rfl⟩)
end Go.Proofs.YtgeenfjmhhenfaaGreatDoor

/- Lines of a grid: plain. -/
namespace Go.Proofs.YtgeenfjmhhenfaaGreatDoor
def rE (f : Int → Bool) : Nat → Int → Int
 | 0, c => c
 | n + 1, c => if f (c + 1) = true then rE f n (c + 1) else c
theorem rE_spec {f : Int → Bool} : ∀ {n : Nat} {c : Int}, c ≤ rE f n c ∧ rE f n c ≤ c + n ∧ (∀ j, c < j → j ≤ rE f n c → f j = true) ∧ (rE f n c < c + n → f (rE f n c + 1) = false)
 | 0, c => ⟨Int.le_refl _, by simp [rE], fun j h1 h2 => by simp only [rE] at h2; omega, fun h => by simp only [rE] at h; omega⟩
 | n + 1, c => by
  obtain ⟨h1, h2, h3, h4⟩ := rE_spec (f := f) (n := n) (c := c + 1)
  rw [rE]
  split
  ·rename_i hf
   refine ⟨by omega, by omega, fun j h5 h6 => ?_, fun h => h4 (by omega)⟩
   by_cases e : j = c + 1
   ·rw [e]; exact hf
   ·exact h3 j (by omega) h6
  ·rename_i hf
   exact ⟨by omega, by omega, fun j h5 h6 => by omega, fun _ => by simpa using hf⟩
abbrev Lin := Int × Int × Int
def lnC (f : Int → Bool) (r c0 : Int) (W n : Nat) : List Lin := ((List.range n).filter fun k => f (c0 + (k : Nat)) && !f (c0 + (k : Nat) - 1)).map fun k => (r, c0 + (k : Nat), rE f (W - 1 - k) (c0 + (k : Nat)))
theorem lnC_0 (f : Int → Bool) (r c0 : Int) (W : Nat) : lnC f r c0 W 0 = [] := by simp [lnC]
theorem lnC_no {f : Int → Bool} {r c0 : Int} {W n : Nat} (h : (f (c0 + (n : Nat)) && !f (c0 + (n : Nat) - 1)) = false) : lnC f r c0 W (n + 1) = lnC f r c0 W n := by
 unfold lnC
 rw [List.range_succ, List.filter_append, List.map_append]
 simp only [List.filter_cons, List.filter_nil, h]
 simp
theorem lnC_yes {f : Int → Bool} {r c0 : Int} {W n : Nat} (h : (f (c0 + (n : Nat)) && !f (c0 + (n : Nat) - 1)) = true) : lnC f r c0 W (n + 1) = lnC f r c0 W n ++ [(r, c0 + (n : Nat), rE f (W - 1 - n) (c0 + (n : Nat)))] := by
 unfold lnC
 rw [List.range_succ, List.filter_append, List.map_append]
 simp only [List.filter_cons, List.filter_nil, h]
 simp
theorem lnC_skip {f : Int → Bool} {r c0 : Int} {W k : Nat} : ∀ {e : Nat}, k ≤ e → (∀ j : Nat, k < j → j ≤ e → f (c0 + (j : Nat) - 1) = true) → lnC f r c0 W (e + 1) = lnC f r c0 W (k + 1)
 | 0, h, _ => by obtain rfl : k = 0 := by omega
                 rfl
 | e + 1, h, hj => by
  by_cases ek : k = e + 1
  ·rw [ek]
  ·rw [lnC_no (by rw [hj (e + 1) (by omega) (by omega)]; simp), lnC_skip (e := e) (by omega) (fun j h1 h2 => hj j h1 (by omega))]
theorem lnC_len (f : Int → Bool) (r c0 : Int) (W n : Nat) : (lnC f r c0 W n).length ≤ n := by
 unfold lnC
 rw [List.length_map]
 have := List.length_filter_le (fun k : Nat => f (c0 + (k : Nat)) && !f (c0 + (k : Nat) - 1)) (List.range n)
 simpa using this
def lnS (f : Int → Int → Bool) (y x : Int) (W : Nat) (ev ph : Int) (n : Nat) : List Lin := (List.range n).flatMap fun i => if ((y + (i : Nat)) - ph).tmod ev ≠ 0 then [] else lnC (f (y + (i : Nat))) (y + (i : Nat)) x W W
theorem lnS_succ (f : Int → Int → Bool) (y x : Int) (W : Nat) (ev ph : Int) (n : Nat) : lnS f y x W ev ph (n + 1) = lnS f y x W ev ph n ++ (if ((y + (n : Nat)) - ph).tmod ev ≠ 0 then [] else lnC (f (y + (n : Nat))) (y + (n : Nat)) x W W) := by
 unfold lnS
 rw [List.range_succ, List.flatMap_append]
 simp
theorem lnS_len (f : Int → Int → Bool) (y x : Int) (W : Nat) (ev ph : Int) : ∀ n, (lnS f y x W ev ph n).length ≤ n * W
 | 0 => by simp [lnS]
 | n + 1 => by
  rw [lnS_succ, List.length_append, Nat.succ_mul]
  have h1 := lnS_len f y x W ev ph n
  have h2 := lnC_len (f (y + (n : Nat))) (y + (n : Nat)) x W W
  split
  ·simp; omega
  ·omega
def atQ (g : Grd) (q r c : Int) : Bool := if q = 1 then atG g r c else atG g c r
def yQ (g : Grd) (q : Int) : Int := if q = 1 then g.x else g.y
def xQ (g : Grd) (q : Int) : Int := if q = 1 then g.y else g.x
def hQ (g : Grd) (q : Int) : Nat := if q = 1 then g.w else g.h
def wQ (g : Grd) (q : Int) : Nat := if q = 1 then g.h else g.w
def linG (g : Grd) (q ev ph : Int) : List Lin := lnS (atQ g q) (yQ g q) (xQ g q) (wQ g q) ev ph (hQ g q)
theorem atQ_out {g : Grd} {q r c : Int} (h : c < xQ g q ∨ xQ g q + (wQ g q : Nat) ≤ c) : atQ g q r c = false := by
 unfold atQ xQ wQ at *
 split
 ·rename_i e
  rw [if_pos e, if_pos e] at h
  unfold atG
  simp only [Bool.and_eq_false_iff, decide_eq_false_iff_not]
  left
  rcases h with h | h
  ·left; right; omega
  ·right; omega
 ·rename_i e
  rw [if_neg e, if_neg e] at h
  unfold atG
  simp only [Bool.and_eq_false_iff, decide_eq_false_iff_not]
  left; left; left
  rcases h with h | h
  ·left; omega
  ·right; omega
theorem atQ_in {g : Grd} {q r c : Int} (h : atQ g q r c = true) : xQ g q ≤ c ∧ c < xQ g q + (wQ g q : Nat) := by
 refine ⟨?_, ?_⟩ <;> apply Classical.byContradiction <;> intro e
 ·rw [atQ_out (.inl (by omega))] at h; cases h
 ·rw [atQ_out (.inr (by omega))] at h; cases h
def ctr (st q r c : Int) : Spot := if q = 1 then (r * st + st / 2, c * st + st / 2) else (c * st + st / 2, r * st + st / 2)
def ptsL (st q : Int) (l : Lin) : List Spot := if l.2.2 ≠ l.2.1 then [ctr st q l.1 l.2.1, ctr st q l.1 l.2.2] else [ctr st q l.1 l.2.1]
end Go.Proofs.YtgeenfjmhhenfaaGreatDoor
