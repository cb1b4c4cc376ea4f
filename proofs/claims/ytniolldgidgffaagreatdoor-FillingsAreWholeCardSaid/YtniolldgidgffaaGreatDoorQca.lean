/- The law FillingsAreWhole, walked. -/
import Derived.Test.YtniolldgidgffaaGreatDoorQbz
import Derived.Test.YtniolldgidgffaaGreatDoorQat
set_option linter.unusedSimpArgs false
set_option linter.unusedVariables false
/- The law FillingsAreWhole, walked. -/
-- NEWM
namespace Go.Proofs.YtniolldgidgffaaGreatDoor
open Go Go.RowKit
set_option maxRecDepth 100000
theorem fil_rows {f : Fil} (h : FilOk f) : ∀ q ∈ f.lv ++ [f.s, f.p], q.2.rows.length ≤ 1000000000 ∧ ∀ r ∈ q.2.rows, r.length ≤ 1000000000 := fun q hq => by
 have hr : RCel q.2 := by
  rcases List.mem_append.1 hq with hq | hq
  ·exact h.r q hq
  ·simp only [List.mem_cons, List.not_mem_nil, or_false] at hq
   rcases hq with rfl | rfl
   ·exact h.s
   ·exact h.p
 have h1 := hr.h
 have h2 := hr.w
 exact ⟨by omega, fun r hq => by rw [(hr.row r hq).1]; omega⟩
set_option maxHeartbeats 8000000 in
theorem law_fillwhole (v : Value) (zs : List Int) (hs : StrOk zs) : ACalls Tryz.prog 8 [.c (.r v (zs.map fun z => [I z]))] [] fun u H => u = .c (B true) := by
 refine acalls_of (N := 120) Tryz.func8 rfl rfl (by simp) fun E hE => ?_
 refine WA ?_
 refine WA ?_
 refine WR ?_
 refine al_ef rfl (ef_callm false (fun _ => rightstack_v 4 (by decide) _ _ _ hs (by omega) (by omega)) rfl .fn rfl (by decide) (by kernel_rfl) rfl rfl (fun _g => .cons (.p rfl) (.cons (.c rfl) .nil)) (fun _g => .cons (.c rfl) (.cons (.c rfl) .nil)) (by simp)) ?_
 rintro F1 H1 ⟨_, _, _, _, ⟨vk, l, st0, ak, rfl, hq, hak1, hak2, hl1, hl2, hlc⟩, hF, hH⟩
 injection hq with hq1 hq2; subst hq1; subst hq2
 (refine NST hF hH ?_; clear hF hH; rintro rfl rfl)
 refine WE ?_
 refine WR ?_
 refine al_ef rfl (ef_callm false (fun _ => range_a 0 2 _ _ _ hs (by omega) (by omega) (by omega) (by omega) (by omega) (by omega)) rfl .fn rfl (by decide) (by kernel_rfl) rfl rfl (fun _g => .cons (.p rfl) (.cons (.c rfl) (.cons (.c rfl) .nil))) (fun _g => .cons (.c rfl) (.cons (.c rfl) .nil)) (by simp)) ?_
 rintro F1 H1 ⟨_, _, _, _, ⟨sw, a1, rfl, hq, hr3sw, hr4sw, hr1sw, hr2sw, _⟩, hF, hH⟩
 injection hq with hq1 hq2; subst hq1; subst hq2
 (refine NST hF hH ?_; clear hF hH; rintro rfl rfl)
 refine WO ?_
 refine al_ef rfl (ef_callm false (fun _ => range_a 0 2 _ _ _ hs (by omega) (by omega) (by omega) (by omega) (by omega) (by omega)) rfl .fn rfl (by decide) (by kernel_rfl) rfl rfl (fun _g => .cons (.p rfl) (.cons (.c rfl) (.cons (.c rfl) .nil))) (fun _g => .cons (.c rfl) (.cons (.c rfl) .nil)) (by simp)) ?_
 rintro F1 H1 ⟨_, _, _, _, ⟨tp, a2, rfl, hq, hr3tp, hr4tp, hr1tp, hr2tp, _⟩, hF, hH⟩
 injection hq with hq1 hq2; subst hq1; subst hq2
 (refine NST hF hH ?_; clear hF hH; rintro rfl rfl)
 refine WO ?_
 refine al_ef rfl (ef_callm false (fun _ => range_a 0 2 _ _ _ hs (by omega) (by omega) (by omega) (by omega) (by omega) (by omega)) rfl .fn rfl (by decide) (by kernel_rfl) rfl rfl (fun _g => .cons (.p rfl) (.cons (.c rfl) (.cons (.c rfl) .nil))) (fun _g => .cons (.c rfl) (.cons (.c rfl) .nil)) (by simp)) ?_
 rintro F1 H1 ⟨_, _, _, _, ⟨bo, a3, rfl, hq, hr3bo, hr4bo, hr1bo, hr2bo, _⟩, hF, hH⟩
 injection hq with hq1 hq2; subst hq1; subst hq2
 (refine NST hF hH ?_; clear hF hH; rintro rfl rfl)
 refine WO ?_
 refine al_ef rfl (ef_callm false (fun _ => range_a 1 3 _ _ _ hs (by omega) (by omega) (by omega) (by omega) (by omega) (by omega)) rfl .fn rfl (by decide) (by kernel_rfl) rfl rfl (fun _g => .cons (.p rfl) (.cons (.c rfl) (.cons (.c rfl) .nil))) (fun _g => .cons (.c rfl) (.cons (.c rfl) .nil)) (by simp)) ?_
 rintro F1 H1 ⟨_, _, _, _, ⟨se, a4, rfl, hq, hr3se, hr4se, hr1se, hr2se, _⟩, hF, hH⟩
 injection hq with hq1 hq2; subst hq1; subst hq2
 (refine NST hF hH ?_; clear hF hH; rintro rfl rfl)
 refine WE ?_
 refine aw_wk (wk_of (K := fun F H => F = [(4, .c (.r vk (cR l))), (5, .p 0 0 0)] ∧ H = [.box [.c (I sw), .c (I tp), .c (I bo), .c (I se)]]) [some 1] (fun _ => [(4, .c (.r vk (cR l))), (5, .p 0 0 0)]) (fun _ => [.box [.c (I sw), .c (I tp), .c (I bo), .c (I se)]]) (by decide) (ZNL hE) ZCF ZCH (fun _ => ⟨rfl, rfl⟩)) ?_
 rintro F H ⟨rfl, rfl⟩
 obtain ⟨w, rfl⟩ : ∃ w : Nat, sw = (w : Int) := ⟨sw.toNat, by omega⟩
 have hw : w ≤ 2 := by omega
 have ht : 0 ≤ tp ∧ tp ≤ 50 := by omega
 have hb : 0 ≤ bo ∧ bo ≤ 50 := by omega
 have he : 1 ≤ se ∧ se ≤ 200 := by omega
 clear hs hak1 hak2 hr1sw hr2sw hr3sw hr4sw hr1tp hr2tp hr3tp hr4tp hr1bo hr2bo hr3bo hr4bo hr1se hr2se hr3se hr4se
 have hsz : ∀ p ∈ l, p.2.rows.length ≤ 1000000000 ∧ ∀ r ∈ p.2.rows, r.length ≤ 1000000000 := fun p hp => by
  have hr := (hlc p hp).1.r
  have h1 := hr.h
  have h2 := hr.w
  exact ⟨by omega, fun r hq => by rw [(hr.row r hq).1]; omega⟩
 have hln : l.length ≤ 4 := by omega
 have hrl : ∀ c ∈ l.map Prod.snd, RCel c ∧ c.st = st0 := fun c hc => by
  obtain ⟨p, hp, rfl⟩ := List.mem_map.1 hc
  exact ⟨(hlc p hp).1.r, (hlc p hp).2⟩
 have hll : (l.map Prod.snd).length ≤ 50 := by simp; omega
 have hp0 := plnF_0 (w := w) (t := tp) (b := bo) (e := se) hll hrl (by omega) ht hb he
 have hpln : ACalls Tryz.prog 54 [.c (.r vk (cR l)), .a [.c (I w), .c (I tp), .c (I bo), .c (I se)]] [] fun u H => ∃ (v : Value) (fl : List Fil), u = .t [.c (.r v (fR fl)), .c (I 0)] ∧ (fl.map filC = plnL (l.map Prod.snd) w tp bo l.length ∧ ∀ f ∈ fl, FilOk f) ∧ H = [] := by
  refine (planT_v vk l w tp bo se hsz (by omega) (fun p hp _ => (hlc p hp).1)).mono fun u H hq => ?_
  obtain ⟨v, fl, h1, _, h3, h4⟩ := hq
  obtain ⟨_, h5, h6⟩ := h3 hp0
  exact ⟨v, fl, by rw [h1, hp0], ⟨h5, h6⟩, h4⟩
 have hsol : ∀ i : Nat, i < l.length → ACalls Tryz.prog 55 [.c (.r vk (cR l)), .c (I i), .c (I tp), .c (I bo)] [] fun u H => ∃ (v : Value) , (∃ c, (l.map Prod.snd)[i]? = some c ∧ u = .t [celA v (celN c.st (solL (l.map Prod.snd) i tp bo)), .c (I 0)]) ∧ H = [] := fun i hi => by
  have hs0 := solF_0 (t := tp) (b := bo) (i := i) hll hrl (by simp; omega) ht hb
  refine (solidT_v vk l i tp bo hsz (by omega) (fun p hp _ => (hlc p hp).1)).mono fun u H hq => ?_
  obtain ⟨v, S, h1, _, h3, h4⟩ := hq
  obtain ⟨_, i', c, h5, h6, h7⟩ := h3 hs0
  obtain rfl : i = i' := by omega
  exact ⟨v, ⟨c, h6, by rw [h1, h7, hs0]⟩, h4⟩
 have e1 : (cR l).length = l.length := by simp
 refine WR ?_
 refine al_ef rfl (ef_call0 false (fun _ => hpln) rfl .fn rfl (by decide) (by kernel_rfl) rfl (fun _ => C0 rfl) (by simp)) ?_
 rintro _ _ ⟨_, _, _, ⟨vf, fl, rfl, hfl, rfl⟩, hF, hH⟩
 (refine NST hF hH ?_; clear hF hH; rintro rfl rfl)
 refine WE ?_
 obtain ⟨hf1, hf2⟩ := hfl
 have nf : fl.length = l.length := by have := congrArg List.length hf1; simpa [plnL] using this
 have e2 : (fR fl).length = l.length := by simp [nf]
 refine WA ?_
 refine aw_cond_f rfl ?_
 refine ZZ ?_
 refine WA ?_
 refine aw_loopw (fun m F H => ∃ (i : Nat), m + i = l.length ∧ F = [(4, .c (.r vk (cR l))), (5, .p 0 0 0), (48, .c (.r vf (fR fl))), (49, .c (I (fR fl).length)), (50, .c (I i))] ∧ H = [.box [.c (I w), .c (I tp), .c (I bo), .c (I se)]]) ?_ ?_
 ·refine wk_of [some 0] (fun _ => [(4, .c (.r vk (cR l))), (5, .p 0 0 0), (48, .c (.r vf (fR fl))), (49, .c (I (fR fl).length)), (50, .c (I (0 : Nat)))]) (fun _ => [.box [.c (I w), .c (I tp), .c (I bo), .c (I se)]]) (by decide) (ZNL hE) ZCF ZCH (fun _ => ?_)
  exact ⟨l.length, 0, by omega, rfl, rfl⟩
 rintro m F H ⟨i, hi, rfl, rfl⟩
 refine WA ?_
 refine aw_if rfl (fun hlt => ?_) (fun hge => ?_)
 ·obtain ⟨f, hf⟩ : ∃ e, fl[i]? = some e := ⟨_, List.getElem?_eq_getElem (by omega)⟩
  obtain ⟨⟨vc, c⟩, hc⟩ : ∃ e, l[i]? = some e := ⟨_, List.getElem?_eq_getElem (by omega)⟩
  have hrowf : (fR fl)[i]? = some (filR f) := by rw [List.getElem?_map, hf]; rfl
  have hrowc : (cR l)[i]? = some (celR vc c) := by rw [List.getElem?_map, hc]; rfl
  have hcc : (l.map Prod.snd)[i]? = some c := by rw [List.getElem?_map, hc]; rfl
  have hfok := hf2 f (List.mem_of_getElem? hf)
  have hcn := (hlc _ (List.mem_of_getElem? hc)).1
  simp only at hcn
  have hfc : filC f = plnC (l.map Prod.snd) w tp bo i c := by
   have h1 : (fl.map filC)[i]? = some (filC f) := by rw [List.getElem?_map, hf]; rfl
   rw [hf1] at h1
   unfold plnL at h1
   rw [List.getElem?_map, List.getElem?_range (by omega)] at h1
   simp only [Option.map_some, Option.some.injEq] at h1
   rw [← h1, List.getD_eq_getElem?_getD, hcc]; rfl
  have hwh := fil_whole hcn hfc
  have hso := fil_solid hcn hcc hfc
  have hlvn : f.lv.length = w := by have := congrArg (fun z => z.1.length) hfc; simpa [filC, plnC] using this
  have hwc := whole_v f (by omega) (fil_rows hfok)
  rw [hwh] at hwc
  have hsc : ACalls Tryz.prog 55 [.c (.r vk (cR l)), .c (I i), .c (I tp), .c (I bo)] [] fun u H => ∃ (v : Value) , u = .t [celA v (celN c.st (solL (l.map Prod.snd) i tp bo)), .c (I 0)] ∧ H = [] := (hsol i (by omega)).mono fun u H hq => by
   obtain ⟨v, ⟨c', h1, h2⟩, h3⟩ := hq
   rw [hcc] at h1
   injection h1 with h1
   subst h1
   exact ⟨v, h2, h3⟩
  have hwl := wallsr_v vc c hcn w (by omega)
  have hrs := celN_r hcn (S := solL (l.map Prod.snd) i tp bo) (sol_sub hcc)
  have hri := shq_r hcn w
  have hbt := fun va vb => bothr_v va vb (celN c.st (solL (l.map Prod.snd) i tp bo)) (celN c.st (shrL w (covL c))) f.s.2 hrs hri (by rw [celN_st, celN_st]) hso
  have hcl : c.rows.length ≤ 1000000000 := by have := hcn.r.h; omega
  have hsl : f.s.2.rows.length ≤ 1000000000 := by have := hfok.s.h; omega
  clear hsol hwh hso hfc hrs hri
  generalize celN c.st (solL (l.map Prod.snd) i tp bo) = D1 at *
  generalize celN c.st (shrL w (covL c)) = D2 at *
  have h00 : fstN [0, 0, 0, 0] = 0 := rfl
  obtain ⟨fw, flv, ⟨fsv, fs⟩, ⟨fpv, fp⟩⟩ := f
  simp only at hlvn hsl hbt
  have e3 : (cR flv).length = w := by simp [hlvn]
  refine WA ?_
  refine WR ?_
  refine al_ef rfl (ef_call0 false (fun _ => hwc) rfl .fn rfl (by decide) (by kernel_rfl) rfl (fun _ => C0 rfl) (by simp)) ?_
  rintro _ _ ⟨_, _, _, ⟨v3, rfl, rfl⟩, hF, hH⟩
  (refine NST hF hH ?_; clear hF hH; rintro rfl rfl)
  refine WE ?_
  refine WR ?_
  refine al_ef rfl (ef_call0 false (fun _ => hsc) rfl .fn rfl (by decide) (by kernel_rfl) rfl (fun _ => C0 rfl) (by simp)) ?_
  rintro _ _ ⟨_, _, _, ⟨v4, rfl, rfl⟩, hF, hH⟩
  (refine NST hF hH ?_; clear hF hH; rintro rfl rfl)
  refine WE ?_
  refine aw_cut (fun F H => ∃ v5, F = [(4, .c (.r vk (cR l))), (5, .p 0 0 0), (8, .c (I i)), (9, .p 1 0 0), (10, .p 2 0 0), (11, .c (I 0)), (12, .p 3 0 0), (13, .c (I 0)), (15, .p 4 0 0), (16, .c (I 0)), (48, .c (.r vf (fR fl))), (49, .c (I (fR fl).length)), (50, .c (I i))] ∧ H = [.box [.c (I w), .c (I tp), .c (I bo), .c (I se)], .box ((filR ⟨fw, flv, (fsv, fs), (fpv, fp)⟩).map .c), celB v3 c, celB v4 D1, celB v5 D2]) ?_ ?_ wk_aw
  ·refine ZZ ?_
   refine aw_regionM [[(0, none), (1, none), (2, none), (3, none), (4, none), (5, none), (6, some []), (7, none), (8, none), (9, none), (10, none), (11, some [0, 1, 2, 3, 4, 5, 7, 8, 9, 10]), (12, none), (13, some [10]), (14, none)], [(0, none), (1, none), (2, none), (3, none), (4, none), (5, none), (11, some [0, 1, 2, 3, 4, 5]), (6, some []), (7, none), (8, none), (9, none), (10, none), (12, none), (13, some [10]), (14, none)]] hMixed (by kernel_rfl) ?_
   focus
    refine WM ?_
    refine am_two (by rfl) (by rfl) (by rfl) ?_ ?_
    rotate_left
    refine WM ?_
    refine am_ef (i := 6) (by rfl) (by rfl) rfl rfl (ef_call0 false (fun _ => hwl) rfl .fn rfl (by decide) (by kernel_rfl) rfl (fun _ => C0 rfl) (by simp)) ?_
    rintro _ _ ⟨_, _, _, ⟨v5, w5, l5, rfl, hl5, rfl⟩, hF, hH⟩
    (refine NST hF hH ?_; clear hF hH; rintro rfl rfl)
    refine ⟨AGX, ?_⟩
    refine WN ?_
    rotate_right
    refine am_ef (i := 6) (by rfl) (by rfl) rfl rfl (ef_call0 false (fun _ => hwl) rfl .fn rfl (by decide) (by kernel_rfl) rfl (fun _ => C0 rfl) (by simp)) ?_
    rintro _ _ ⟨_, _, _, ⟨v5, w5, l5, rfl, hl5, rfl⟩, hF, hH⟩
    (refine NST hF hH ?_; clear hF hH; rintro rfl rfl)
    refine ⟨AGX, ?_⟩
    refine WN ?_
   all_goals exact wk_of [some 0, some 1, some 2, some 3, some 4] (fun _ => [(4, .c (.r vk (cR l))), (5, .p 0 0 0), (8, .c (I i)), (9, .p 1 0 0), (10, .p 2 0 0), (11, .c (I 0)), (12, .p 3 0 0), (13, .c (I 0)), (15, .p 4 0 0), (16, .c (I 0)), (48, .c (.r vf (fR fl))), (49, .c (I (fR fl).length)), (50, .c (I i))]) (fun _ => [.box [.c (I w), .c (I tp), .c (I bo), .c (I se)], .box ((filR ⟨fw, flv, (fsv, fs), (fpv, fp)⟩).map .c), celB v3 c, celB v4 D1, celB v5 D2]) (by decide) (ZNL hE) ZCF ZCH (fun _ => ⟨_, rfl, rfl⟩)
  rintro F H ⟨v5, rfl, rfl⟩
  refine ZZ ?_
  refine WR ?_
  refine al_ef rfl (ef_call0 false (fun _ => hbt _ _) rfl .fn rfl (by decide) (by kernel_rfl) rfl (fun _ => C0 rfl) (by simp)) ?_
  rintro _ _ ⟨_, _, _, ⟨v6, rfl, rfl⟩, hF, hH⟩
  (refine NST hF hH ?_; clear hF hH; rintro rfl rfl)
  refine WE ?_
  refine ZZ ?_
  refine aw_regionT [(0, none), (1, none), (2, none), (3, none), (4, some []), (5, some []), (6, none), (7, none), (8, none), (9, none), (10, none), (11, none), (12, none), (13, some []), (14, none), (15, none), (16, none), (17, none), (18, none), (19, none), (20, none), (21, none), (22, none), (23, none), (24, none), (25, none), (26, none), (27, none), (28, some []), (29, none), (30, none)] hMixed (by kernel_rfl) ?_
  refine WP ?_
  refine at_ef rfl rfl (ef_call0 true (fun g => kerrs_v [0, 0, 0, 0] (g (.o _ 0 4 4)) (by simp)) rfl .fn rfl (by decide) (by kernel_rfl) rfl (fun _ => .cons (.frz rfl rfl rfl rfl rfl) .nil) (fun _ _ _ _ ⟨hu, hH⟩ => by rw [hu, hH]; exact ⟨.c (.inl trivial), by simp⟩)) ?_
  rintro _ _ ⟨_, _, _, ⟨rfl, rfl⟩, hF, hH⟩
  rw [h00] at hF
  (refine NST hF hH ?_; clear hF hH; rintro rfl rfl)
  refine ⟨ag_none, ?_⟩
  refine WP ?_
  first | refine at_efN rfl rfl rfl (by decide) ⟨ag_none, ?_⟩ | (refine at_efK rfl (ef_call0 false (fun _ => samec_v v3 vc c hcl) rfl .fn rfl (by decide) (by kernel_rfl) rfl (fun _ => C0 rfl) (by simp)) ?_; rintro _ _ ⟨_, _, _, ⟨rfl, rfl⟩, hF, hH⟩; (refine NST hF hH ?_; clear hF hH; rintro rfl rfl); refine ⟨ag_none, ?_⟩)
  refine WP ?_
  first | refine at_efN rfl rfl rfl (by decide) ⟨ag_none, ?_⟩ | (refine at_efK rfl (ef_call0 false (fun _ => samec_v v6 fsv fs hsl) rfl .fn rfl (by decide) (by kernel_rfl) rfl (fun _ => C0 rfl) (by simp)) ?_; rintro _ _ ⟨_, _, _, ⟨rfl, rfl⟩, hF, hH⟩; (refine NST hF hH ?_; clear hF hH; rintro rfl rfl); refine ⟨ag_none, ?_⟩)
  refine WQ ?_
  refine aw_cond_f rfl ?_
  refine ZZ ?_
  refine WA ?_
  refine wk_of [some 0] (fun _ => [(4, .c (.r vk (cR l))), (5, .p 0 0 0), (48, .c (.r vf (fR fl))), (49, .c (I (fR fl).length)), (50, .c (I (i + 1 : Nat)))]) (fun _ => [.box [.c (I w), .c (I tp), .c (I bo), .c (I se)]]) (by decide) (ZNL hE) ZCF ZCH (fun _ => ?_)
  exact ⟨m - 1, by omega, i + 1, by omega, rfl, rfl⟩
 refine ZZ ?_
 refine ZR ?_
 refine al_ef rfl (ef_call0 false (fun _ => ready_a) rfl .fn rfl (by decide) (by kernel_rfl) rfl (fun _ => C0 rfl) (by simp)) ?_
 rintro _ _ ⟨_, _, _, ⟨rfl, rfl⟩, hF, hH⟩
 (refine NST hF hH ?_; clear hF hH; rintro rfl rfl)
 refine WE ?_
 exact aret_1 [] [] rfl rfl rfl (by decide) (ZNK rfl) (fun _ => .nil) rfl
end Go.Proofs.YtniolldgidgffaaGreatDoor
