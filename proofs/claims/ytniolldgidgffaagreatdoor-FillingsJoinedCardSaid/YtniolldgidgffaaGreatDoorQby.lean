/- The law FillingsJoined, walked. -/
import Derived.Test.YtniolldgidgffaaGreatDoorQbn
import Derived.Test.YtniolldgidgffaaGreatDoorQbv
import Derived.Test.YtniolldgidgffaaGreatDoorQbx
import Derived.Test.YtniolldgidgffaaGreatDoorQbk
set_option linter.unusedSimpArgs false
set_option linter.unusedVariables false
/- The law FillingsJoined, walked. -/
-- NEWM
namespace Go.Proofs.YtniolldgidgffaaGreatDoor
open Go Go.RowKit
set_option maxRecDepth 100000
def brgE (a b : Cel) : Int := fstN [celF a, celF b, if a.st ≠ b.st then 3 else 0]
theorem brgE_0 {a b : Cel} : brgE a b = 0 ↔ celF a = 0 ∧ celF b = 0 ∧ a.st = b.st := by
 unfold brgE
 by_cases h1 : celF a = 0 <;> by_cases h2 : celF b = 0 <;> by_cases h3 : a.st = b.st <;> simp [fstN, h1, h2, h3]
theorem brg_rows {a b : Cel} (h : RCel a ∧ NCel b ∧ a.st = b.st) : (brgL a b).length ≤ 100000 ∧ ∀ x ∈ brgL a b, RCel x.1 := by
 obtain ⟨ha, hb, hs⟩ := h
 have hsub : ∀ p ∈ minL (covL b) (covL a), p ∈ covL b := fun p hp => (List.mem_filter.1 hp).1
 have hpr := prt_r hb (normC_ok hb hsub).2 (celN_st _ _) fun p hp => hsub p ((covL_celN (by have := hb.r.st; omega)).1 hp)
 unfold brgL
 refine ⟨by rw [List.length_map]; exact hpr.n, fun x hx => ?_⟩
 obtain ⟨c, hc, rfl⟩ := List.mem_map.1 hx
 exact (hpr.r c hc).1
set_option maxHeartbeats 4000000 in
theorem bridges_g (va vb : Value) (a b : Cel) (hsa : SzC a) (hsb : SzC b) (hnb : RCel b → NCel b) : ACalls Tryz.prog 38 [celA va a, celA vb b] [] fun u H => ∃ (v : Value) (l : List Brg), u = .t [.c (.r v (brgR l)), .c (I (brgE a b))] ∧ (l.map fun x => (x.1.2, x.2)) = (if brgE a b = 0 then brgL a b else []) ∧ H = [] := by
 by_cases h : celF a = 0 ∧ celF b = 0 ∧ a.st = b.st
 ·have e := brgE_0.2 h
  refine (bridges_v va vb a b (celF_0.1 h.1) (hnb (celF_0.1 h.2.1)) h.2.2).mono fun u H hq => ?_
  obtain ⟨v, l, h1, h2, h3⟩ := hq
  exact ⟨v, l, by rw [e]; exact h1, by rw [if_pos e]; exact h2, h3⟩
 have hE1 : celF a ≠ 0 → brgE a b = celF a := fun h1 => by unfold brgE; simp [fstN, h1]
 have hE2 : celF a = 0 → celF b ≠ 0 → brgE a b = celF b := fun h1 h2 => by unfold brgE; simp [fstN, h1, h2]
 have hE3 : celF a = 0 → celF b = 0 → brgE a b = 3 := fun h1 h2 => by
  have h3 : a.st ≠ b.st := fun e => h ⟨h1, h2, e⟩
  unfold brgE; simp [fstN, h1, h2, h3]
 refine acalls_of (N := 62) Tryz.func38 rfl rfl (by simp) fun E hE => ?_
 refine WA ?_
 refine WA ?_
 refine aw_loopw (fun m F H => ∃ k : Nat, m + k = 2 ∧ (1 ≤ k → celF a = 0) ∧ (2 ≤ k → celF b = 0) ∧ F = [(2, .p 0 0 0), (3, .p 1 0 0), (18, .o 2 0 2 2), (19, .c (I 2)), (20, .c (I k))] ∧ H = [celB va a, celB vb b, .arr 28 4 2 [celR va a, celR vb b]]) ?_ ?_
 ·refine wk_of [some 0, some 1, some 2] (fun _ => [(2, .p 0 0 0), (3, .p 1 0 0), (18, .o 2 0 2 2), (19, .c (I 2)), (20, .c (I (0 : Nat)))]) (fun _ => [celB va a, celB vb b, .arr 28 4 2 [celR va a, celR vb b]]) (by decide) (ZNL hE) ZCF ZCH (fun _ => ?_)
  exact ⟨2, 0, by omega, fun e => by omega, fun e => by omega, rfl, rfl⟩
 rintro m F H ⟨k, hk, hk1, hk2, rfl, rfl⟩
 refine WA ?_
 refine aw_if rfl (fun hlt => ?_) (fun hge => ?_)
 ·obtain ⟨w, c, hrow, hcz, hfe, hfn⟩ : ∃ w c, [celR va a, celR vb b][k]? = some (celR w c) ∧ SzC c ∧ (celF c ≠ 0 → brgE a b = celF c) ∧ (celF c = 0 → (1 ≤ k + 1 → celF a = 0) ∧ (2 ≤ k + 1 → celF b = 0)) := by
   obtain rfl | rfl : k = 0 ∨ k = 1 := by omega
   ·exact ⟨va, a, rfl, hsa, hE1, fun e => ⟨fun _ => e, fun e2 => by omega⟩⟩
   ·exact ⟨vb, b, rfl, hsb, hE2 (hk1 (by omega)), fun e => ⟨fun _ => hk1 (by omega), fun _ => e⟩⟩
  refine WA ?_
  refine WR ?_
  refine al_ef rfl (ef_call0 false (fun _ => check_v w c hcz.1 hcz.2) rfl .fn rfl (by decide) (by kernel_rfl) rfl (fun _ => C0 rfl) (by simp)) ?_
  rintro _ _ ⟨_, _, _, ⟨rfl, rfl⟩, hF, hH⟩
  (refine NST hF hH ?_; clear hF hH; rintro rfl rfl)
  refine WE ?_
  generalize celF c = q at *
  refine WA ?_
  refine aw_if rfl (fun hq0 => ?_) (fun hq0 => ?_)
  ·have hqe := hfe (by omega)
   refine WA ?_
   exact aret_of (us := [.c (.r (.slice none 0 0) []), .c (I q)]) [] (fun _ => .t [.c (.r (.slice none 0 0) []), .c (I q)]) (fun _ => []) (.tmp rfl (.tmp rfl .nil)) (by decide) (fun i hi => absurd hi (Nat.not_lt_zero i)) (fun g' => .tL (.cons (.c rfl) (.cons (.c rfl) .nil))) (fun _ => .nil) (fun g' => ⟨.slice none 0 0, [], by rw [hqe]; rfl, by rw [if_neg (by rw [hqe]; omega)]; rfl, rfl⟩)
  ·obtain ⟨h1, h2⟩ := hfn (by omega)
   refine ZZ ?_
   refine WA ?_
   refine wk_of [some 0, some 1, some 2] (fun _ => [(2, .p 0 0 0), (3, .p 1 0 0), (18, .o 2 0 2 2), (19, .c (I 2)), (20, .c (I (k + 1 : Nat)))]) (fun _ => [celB va a, celB vb b, .arr 28 4 2 [celR va a, celR vb b]]) (by decide) (ZNL hE) ZCF ZCH (fun _ => ?_)
   exact ⟨m - 1, by omega, k + 1, by omega, h1, h2, rfl, rfl⟩
 have f1 := hk1 (by omega)
 have f2 := hk2 (by omega)
 have hne : a.st ≠ b.st := fun e => h ⟨f1, f2, e⟩
 have hqe := hE3 f1 f2
 refine ZZ ?_
 refine WA ?_
 refine aw_cond_t rfl ?_
 refine WA ?_
 exact aret_of (us := [.c (.r (.slice none 0 0) []), .c (I 3)]) [] (fun _ => .t [.c (.r (.slice none 0 0) []), .c (I 3)]) (fun _ => []) (.tmp rfl (.tmp rfl .nil)) (by decide) (fun i hi => absurd hi (Nat.not_lt_zero i)) (fun g' => .tL (.cons (.c rfl) (.cons (.c rfl) .nil))) (fun _ => .nil) (fun g' => ⟨.slice none 0 0, [], by rw [hqe]; rfl, by rw [if_neg (by rw [hqe]; omega)]; rfl, rfl⟩)
theorem foldU_rows : ∀ {l : List Cel} {o : Cel}, RCel o → (foldU o l).1.rows.length ≤ 200
 | [], o, h => h.h
 | c :: l, o, h => by
  unfold foldU
  by_cases e : (normC o.st (covL o ++ covL c)).2 = 0
  ·rw [if_neg (by simp [e])]
   exact foldU_rows (normC_2 h.st e).1
  ·rw [if_pos e]; simp [zc]
theorem whole_rows (l : List Cel) : (wholeF l).1.rows.length ≤ 1000000000 := by
 unfold wholeF
 by_cases h1 : fstF l = 0
 ·rw [if_neg (by simp [h1])]
  split
  ·simp [zc]
  split
  ·simp [zc]
  cases l with
  | nil => simp [foldU, zc]
  | cons c l =>
   have := foldU_rows (l := l) (fstF_0 h1 c List.mem_cons_self)
   simp only [List.headD_cons, List.tail_cons]
   omega
 ·rw [if_pos h1]; simp [zc]
theorem qua_eq {b : Cel} (h : celF b = 0) : quaR b = quaF b := by
 have hr := celF_0.1 h
 unfold quaR quaF
 rw [if_neg (by simp [h] : ¬ celF b ≠ 0)]
 by_cases e : b.rows = []
 ·rw [if_pos e, if_pos (cov_e e)]
 ·rw [if_neg e, if_neg (cov_ne hr e)]
set_option maxHeartbeats 8000000 in
theorem law_joined (v : Value) (zs : List Int) (hs : StrOk zs) : ACalls Tryz.prog 5 [.c (.r v (zs.map fun z => [I z]))] [] fun u H => u = .c (B true) := by
 refine acalls_of (N := 118) Tryz.func5 rfl rfl (by simp) fun E hE => ?_
 refine WA ?_
 refine WA ?_
 refine aw_cut (fun F H => ∃ (fw : Value) (flv : List (Value × Cel)) (fvs : Value) (fs : Cel) (fvp : Value) (fp : Cel) (va : Value) (a : Cel) (vb : Value) (b : Cel), flv.length ≤ 100 ∧ (∀ q ∈ flv ++ [(fvs, fs), (fvp, fp)], SzC q.2) ∧ StrC a ∧ StrC b ∧ F = [(4, .p 0 0 0), (5, .p 1 0 0), (6, .p 2 0 0)] ∧ H = [.box [.c (.r fw (cR flv)), .c (I fs.st), .c (I fs.x), .c (I fs.y), .c (.r fvs (tR fs.rows)), .c (I fp.st), .c (I fp.x), .c (I fp.y), .c (.r fvp (tR fp.rows))], celB va a, celB vb b]) ?_ ?_ wk_aw
 ·refine WR ?_
  refine al_ef rfl (ef_callm false (fun _ => afilling_v _ _ _ hs (by omega) (by omega)) rfl .fn rfl (by decide) (by kernel_rfl) rfl rfl (fun _g => .cons (.p rfl) .nil) (fun _g => .cons (.c rfl) (.cons (.c rfl) .nil)) (by simp)) ?_
  rintro F1 H1 ⟨_, _, _, _, ⟨⟨fw, flv, ⟨fvs, fs⟩, ⟨fvp, fp⟩⟩, af, rfl, hq, haf1, haf2, hfl, hfz⟩, hF, hH⟩
  injection hq with hq1 hq2; subst hq1; subst hq2
  simp only [List.map_cons, List.map_nil] at hF
  (refine NST hF hH ?_; clear hF hH; rintro rfl rfl)
  refine WO ?_
  refine al_ef rfl (ef_callm true (fun _ => pick_a [10, 10, 4] _ _ _ _ hs (by omega) (by omega) (by simp) (by simp)) rfl .fn rfl (by decide) (by kernel_rfl) rfl rfl (fun _g => .cons (.p rfl) (.cons (.frz rfl rfl rfl rfl rfl) .nil)) (fun _g => .cons (.c rfl) (.cons (.c rfl) .nil)) (fun _ _ _ _ ⟨_, hu, hH, _⟩ => by rw [hu, hH]; exact ⟨.c (.inl trivial), strm_flat (.inr ⟨0, _, rfl, by simp⟩)⟩)) ?_
  rintro F1 H1 ⟨_, _, _, _, ⟨st0, rfl, hq, hrm⟩, hF, hH⟩
  injection hq with hq1 hq2; subst hq1; subst hq2
  (refine NST hF hH ?_; clear hF hH; rintro rfl rfl)
  simp only [List.mem_cons, List.not_mem_nil, or_false] at hrm
  refine al_ef rfl (ef_callm false (fun _ => acells_v st0 (by omega) _ _ _ hs (by omega) (by omega)) rfl .fn rfl (by decide) (by kernel_rfl) rfl rfl (fun _g => .cons (.p rfl) (.cons (.c rfl) .nil)) (fun _g => .cons (.c rfl) (.cons (.c rfl) .nil)) (by simp)) ?_
  rintro F1 H1 ⟨_, _, _, _, ⟨va, a, aa, rfl, hq, hac1a, hac2a, hsa⟩, hF, hH⟩
  injection hq with hq1 hq2; subst hq1; subst hq2
  (refine NST hF hH ?_; clear hF hH; rintro rfl rfl)
  refine WO ?_
  refine al_ef rfl (ef_callm false (fun _ => acells_v 10 (by decide) _ _ _ hs (by omega) (by omega)) rfl .fn rfl (by decide) (by kernel_rfl) rfl rfl (fun _g => .cons (.p rfl) (.cons (.c rfl) .nil)) (fun _g => .cons (.c rfl) (.cons (.c rfl) .nil)) (by simp)) ?_
  rintro F1 H1 ⟨_, _, _, _, ⟨vb, b, ab, rfl, hq, hac1b, hac2b, hsb⟩, hF, hH⟩
  injection hq with hq1 hq2; subst hq1; subst hq2
  (refine NST hF hH ?_; clear hF hH; rintro rfl rfl)
  refine WE ?_
  all_goals (first
   | exact wk_of [some 2, some 3, some 4] (fun _ => [(4, .p 0 0 0), (5, .p 1 0 0), (6, .p 2 0 0)]) (fun _ => [.box [.c (.r fw (cR flv)), .c (I fs.st), .c (I fs.x), .c (I fs.y), .c (.r fvs (tR fs.rows)), .c (I fp.st), .c (I fp.x), .c (I fp.y), .c (.r fvp (tR fp.rows))], celB va a, celB vb b]) (by decide) (ZNL hE) ZCF ZCH (fun _ => ⟨fw, flv, fvs, fs, fvp, fp, va, a, vb, b, hfl, hfz, hsa, hsb, rfl, rfl⟩)
   | exact wk_of [some 1, some 2, some 3] (fun _ => [(4, .p 0 0 0), (5, .p 1 0 0), (6, .p 2 0 0)]) (fun _ => [.box [.c (.r fw (cR flv)), .c (I fs.st), .c (I fs.x), .c (I fs.y), .c (.r fvs (tR fs.rows)), .c (I fp.st), .c (I fp.x), .c (I fp.y), .c (.r fvp (tR fp.rows))], celB va a, celB vb b]) (by decide) (ZNL hE) ZCF ZCH (fun _ => ⟨fw, flv, fvs, fs, fvp, fp, va, a, vb, b, hfl, hfz, hsa, hsb, rfl, rfl⟩))
 rintro F H ⟨fw, flv, fvs, fs, fvp, fp, va, a, vb, b, hfl, hfz, hsa, hsb, rfl, rfl⟩
 refine ZZ ?_
 clear hs
 have hwh := whole_v (Fil.mk fw flv (fvs, fs) (fvp, fp)) (by simp only; omega) hfz
 have hwo := wholeof_v (Fil.mk fw flv (fvs, fs) (fvp, fp)) (by simp only; omega) hfz
 have hX := whole_rows ((flv ++ [(fvs, fs), (fvp, fp)]).map Prod.snd)
 simp only [filR, List.map_cons, List.map_nil] at hwh hwo
 generalize wholeF ((flv ++ [(fvs, fs), (fvp, fp)]).map Prod.snd) = WF at *
 obtain ⟨X, e⟩ := WF
 simp only at hwh hwo hX
 clear hfl hfz
 have hqu := quarter_v vb b hsb.sz.1 hsb.sz.2
 have hbg := bridges_g va vb a b hsa.sz hsb.sz hsb.near
 have hca := rcheck_v va a hsa.sz.1 hsa.sz.2
 have hcb := rcheck_v vb b hsb.sz.1 hsb.sz.2
 obtain ⟨⟨q, n, g⟩, hq3⟩ : ∃ t, quaF b = t := ⟨_, rfl⟩
 rw [hq3] at hqu
 simp only at hqu
 refine WR ?_
 refine al_ef rfl (ef_call0 false (fun _ => hwh) rfl .fn rfl (by decide) (by kernel_rfl) rfl (fun _ => C0 rfl) (by simp)) ?_
 rintro _ _ ⟨_, _, _, ⟨x1, rfl, rfl⟩, hF, hH⟩
 (refine NST hF hH ?_; clear hF hH; rintro rfl rfl)
 refine WE ?_
 refine WR ?_
 refine al_ef rfl (ef_call0 false (fun _ => hqu) rfl .fn rfl (by decide) (by kernel_rfl) rfl (fun _ => C0 rfl) (by simp)) ?_
 rintro _ _ ⟨_, _, _, ⟨rfl, rfl⟩, hF, hH⟩
 (refine NST hF hH ?_; clear hF hH; rintro rfl rfl)
 refine WE ?_
 refine WR ?_
 refine al_ef rfl (ef_call0 false (fun _ => hbg) rfl .fn rfl (by decide) (by kernel_rfl) rfl (fun _ => C0 rfl) (by simp)) ?_
 rintro _ _ ⟨_, _, _, ⟨v1, l1, rfl, hl1, rfl⟩, hF, hH⟩
 (refine NST hF hH ?_; clear hF hH; rintro rfl rfl)
 refine WE ?_
 refine WR ?_
 refine al_ef rfl (ef_call0 false (fun _ => hwo) rfl .fn rfl (by decide) (by kernel_rfl) rfl (fun _ => C0 rfl) (by simp)) ?_
 rintro _ _ ⟨_, _, _, ⟨x2, rfl, rfl⟩, hF, hH⟩
 (refine NST hF hH ?_; clear hF hH; rintro rfl rfl)
 refine WE ?_
 refine WR ?_
 refine al_ef rfl (ef_call0 false (fun _ => hcb) rfl .fn rfl (by decide) (by kernel_rfl) rfl (fun _ => C0 rfl) (by simp)) ?_
 rintro _ _ ⟨_, _, _, ⟨rfl, rfl⟩, hF, hH⟩
 (refine NST hF hH ?_; clear hF hH; rintro rfl rfl)
 refine WE ?_
 refine WA ?_
 refine aw_wk (wk_of (K := fun F H => F = [(5, .p 0 0 0), (6, .p 1 0 0), (7, .p 2 0 0), (8, .c (I e)), (9, .c (I q)), (10, .c (I n)), (11, .c (I g)), (12, .c (.r v1 (brgR l1))), (13, .c (I (brgE a b))), (14, .p 3 0 0), (15, .c (I e)), (16, .c (I (celF b))), (17, .c (I 0)), (18, .c (I 0))] ∧ H = [celB va a, celB vb b, celB x1 X, celB x2 X]) [some 1, some 2, some 3, some 4] (fun _ => [(5, .p 0 0 0), (6, .p 1 0 0), (7, .p 2 0 0), (8, .c (I e)), (9, .c (I q)), (10, .c (I n)), (11, .c (I g)), (12, .c (.r v1 (brgR l1))), (13, .c (I (brgE a b))), (14, .p 3 0 0), (15, .c (I e)), (16, .c (I (celF b))), (17, .c (I 0)), (18, .c (I 0))]) (fun _ => [celB va a, celB vb b, celB x1 X, celB x2 X]) (by decide) (ZNL hE) ZCF ZCH (fun _ => ⟨rfl, rfl⟩)) ?_
 rintro F H ⟨rfl, rfl⟩
 refine WA ?_
 refine aw_cut (fun F H => F = [(5, .p 0 0 0), (6, .p 1 0 0), (7, .p 2 0 0), (8, .c (I e)), (9, .c (I q)), (10, .c (I n)), (11, .c (I g)), (12, .c (.r v1 (brgR l1))), (13, .c (I (brgE a b))), (14, .p 3 0 0), (15, .c (I e)), (16, .c (I g)), (17, .c (I q)), (18, .c (I n))] ∧ H = [celB va a, celB vb b, celB x1 X, celB x2 X]) ?_ ?_ wk_aw
 ·refine aw_if rfl (fun h0 => ?_) (fun h0 => ?_)
  ·have hb0 : celF b = 0 := by omega
   have hqo := quarterof_v vb b (celF_0.1 hb0)
   rw [qua_eq hb0, hq3] at hqo
   simp only at hqo
   refine WR ?_
   refine al_ef rfl (ef_call0 false (fun _ => hqo) rfl .fn rfl (by decide) (by kernel_rfl) rfl (fun _ => C0 rfl) (by simp)) ?_
   rintro _ _ ⟨_, _, _, ⟨rfl, rfl⟩, hF, hH⟩
   (refine NST hF hH ?_; clear hF hH; rintro rfl rfl)
   refine WE ?_
   exact wk_of [some 0, some 1, some 2, some 3] (fun _ => [(5, .p 0 0 0), (6, .p 1 0 0), (7, .p 2 0 0), (8, .c (I e)), (9, .c (I q)), (10, .c (I n)), (11, .c (I g)), (12, .c (.r v1 (brgR l1))), (13, .c (I (brgE a b))), (14, .p 3 0 0), (15, .c (I e)), (16, .c (I g)), (17, .c (I q)), (18, .c (I n))]) (fun _ => [celB va a, celB vb b, celB x1 X, celB x2 X]) (by decide) (ZNL hE) ZCF ZCH (fun _ => ⟨rfl, rfl⟩)
  ·have hq4 : quaF b = (0, 0, celF b) := by unfold quaF; rw [if_pos (by omega)]
   rw [hq4] at hq3
   simp only [Prod.mk.injEq] at hq3
   obtain ⟨rfl, rfl, hg⟩ := hq3
   rw [hg]
   refine ZZ ?_
   exact wk_of [some 0, some 1, some 2, some 3] (fun _ => [(5, .p 0 0 0), (6, .p 1 0 0), (7, .p 2 0 0), (8, .c (I e)), (9, .c (I 0)), (10, .c (I 0)), (11, .c (I g)), (12, .c (.r v1 (brgR l1))), (13, .c (I (brgE a b))), (14, .p 3 0 0), (15, .c (I e)), (16, .c (I g)), (17, .c (I 0)), (18, .c (I 0))]) (fun _ => [celB va a, celB vb b, celB x1 X, celB x2 X]) (by decide) (ZNL hE) ZCF ZCH (fun _ => ⟨rfl, rfl⟩)
 rintro F H ⟨rfl, rfl⟩
 refine ZZ ?_
 clear hqu hwh hwo hq3
 refine aw_cut (fun F H => F = [(5, .p 0 0 0), (6, .p 1 0 0), (7, .p 2 0 0), (8, .c (I e)), (9, .c (I q)), (10, .c (I n)), (11, .c (I g)), (12, .c (.r v1 (brgR l1))), (13, .c (I (brgE a b))), (14, .p 3 0 0), (15, .c (I e)), (16, .c (I g)), (17, .c (I q)), (18, .c (I n)), (19, .c (I (brgE a b)))] ∧ H = [celB va a, celB vb b, celB x1 X, celB x2 X]) ?_ ?_ wk_aw
 ·by_cases hst : a.st = b.st
  ·have hbe : fstN [celF a, celF b, 0] = brgE a b := by unfold brgE; rw [if_neg (by simp [hst])]
   refine ZZ ?_
   refine aw_regionT [(0, none), (2, none), (4, none), (5, none), (6, none), (7, none), (8, none), (1, some [2, 4, 5, 6, 7, 8]), (3, some [4, 5, 6, 7, 8]), (9, some []), (10, some []), (11, some []), (12, none)] hMixed (by kernel_rfl) ?_
   refine WP ?_
   refine at_ef rfl rfl (ef_call0 false (fun _ => hca) rfl .fn rfl (by decide) (by kernel_rfl) rfl (fun _ => C0 rfl) (by simp)) ?_
   rintro _ _ ⟨_, _, _, ⟨rfl, rfl⟩, hF, hH⟩
   (refine NST hF hH ?_; clear hF hH; rintro rfl rfl)
   refine ⟨ag_cons (by first | exact ag_rd rfl rfl rfl (ZK (KK (t := 28) rfl)) rfl) (ag_cons (by first | exact ag_rd rfl rfl rfl (ZX (KF (t := 28) (f := 0) rfl rfl)) rfl) (ag_cons (by first | exact ag_rd rfl rfl rfl (ZL (KK (t := 3) rfl)) rfl) (ag_cons (by first | exact ag_rd rfl rfl rfl (ZX (KF (t := 28) (f := 0) rfl rfl)) rfl) (ag_cons (by first | exact ag_rd rfl rfl rfl (ZL (KK (t := 3) rfl)) rfl) (ag_cons (by first | exact ag_rd rfl rfl rfl (Zneq) rfl) (ag_none)))))), ?_⟩
   refine at_ef rfl rfl (ef_call0 false (fun _ => hcb) rfl .fn rfl (by decide) (by kernel_rfl) rfl (fun _ => C0 rfl) (by simp)) ?_
   rintro _ _ ⟨_, _, _, ⟨rfl, rfl⟩, hF, hH⟩
   (refine NST hF hH ?_; clear hF hH; rintro rfl rfl)
   refine ⟨ag_cons (by first | exact ag_rd rfl rfl rfl (ZX (KF (t := 28) (f := 0) rfl rfl)) rfl) (ag_cons (by first | exact ag_rd rfl rfl rfl (ZL (KK (t := 3) rfl)) rfl) (ag_cons (by first | exact ag_rd rfl rfl rfl (ZX (KF (t := 28) (f := 0) rfl rfl)) rfl) (ag_cons (by first | exact ag_rd rfl rfl rfl (ZL (KK (t := 3) rfl)) rfl) (ag_cons (by first | exact ag_rd rfl rfl rfl (Zneq) rfl) (ag_none))))), ?_⟩
   refine at_ef rfl rfl (ef_call0 false (fun _ => lwhen_v _ _) rfl .fn rfl (by decide) (by kernel_rfl) rfl (fun _ => C0 rfl) (by simp)) ?_
   rintro _ _ ⟨_, _, _, ⟨rfl, rfl⟩, hF, hH⟩
   rw [if_neg Bool.false_ne_true] at hF
   (refine NST hF hH ?_; clear hF hH; rintro rfl rfl)
   refine ⟨ag_none, ?_⟩
   refine WP ?_
   refine at_ef rfl rfl (ef_call0 true (fun g => lerrs_v [celF a, celF b, 0] (g (.o _ 0 3 3)) (by simp)) rfl .fn rfl (by decide) (by kernel_rfl) rfl (fun _ => .cons (.frz rfl rfl rfl rfl rfl) .nil) (fun _ _ _ _ ⟨hu, hH⟩ => by rw [hu, hH]; exact ⟨.c (.inl trivial), by simp⟩)) ?_
   rintro _ _ ⟨_, _, _, ⟨rfl, rfl⟩, hF, hH⟩
   (refine NST hF hH ?_; clear hF hH; rintro rfl rfl)
   refine ⟨ag_none, ?_⟩
   refine WQ ?_
   all_goals (
    rw [hbe]
    exact wk_of [some 0, some 1, some 2, some 3] (fun _ => [(5, .p 0 0 0), (6, .p 1 0 0), (7, .p 2 0 0), (8, .c (I e)), (9, .c (I q)), (10, .c (I n)), (11, .c (I g)), (12, .c (.r v1 (brgR l1))), (13, .c (I (brgE a b))), (14, .p 3 0 0), (15, .c (I e)), (16, .c (I g)), (17, .c (I q)), (18, .c (I n)), (19, .c (I (brgE a b)))]) (fun _ => [celB va a, celB vb b, celB x1 X, celB x2 X]) (by decide) (ZNL hE) ZCF ZCH (fun _ => ⟨rfl, rfl⟩))
  ·have hbe : fstN [celF a, celF b, 3] = brgE a b := by unfold brgE; rw [if_pos hst]
   refine ZZ ?_
   refine aw_regionT [(0, none), (2, none), (4, none), (5, none), (6, none), (7, none), (8, none), (1, some [2, 4, 5, 6, 7, 8]), (3, some [4, 5, 6, 7, 8]), (9, some []), (10, some []), (11, some []), (12, none)] hMixed (by kernel_rfl) ?_
   refine WP ?_
   refine at_ef rfl rfl (ef_call0 false (fun _ => hca) rfl .fn rfl (by decide) (by kernel_rfl) rfl (fun _ => C0 rfl) (by simp)) ?_
   rintro _ _ ⟨_, _, _, ⟨rfl, rfl⟩, hF, hH⟩
   (refine NST hF hH ?_; clear hF hH; rintro rfl rfl)
   refine ⟨ag_cons (by first | exact ag_rd rfl rfl rfl (ZK (KK (t := 28) rfl)) rfl) (ag_cons (by first | exact ag_rd rfl rfl rfl (ZX (KF (t := 28) (f := 0) rfl rfl)) rfl) (ag_cons (by first | exact ag_rd rfl rfl rfl (ZL (KK (t := 3) rfl)) rfl) (ag_cons (by first | exact ag_rd rfl rfl rfl (ZX (KF (t := 28) (f := 0) rfl rfl)) rfl) (ag_cons (by first | exact ag_rd rfl rfl rfl (ZL (KK (t := 3) rfl)) rfl) (ag_cons (by first | exact ag_rd rfl rfl rfl (Zneq) rfl) (ag_none)))))), ?_⟩
   refine at_ef rfl rfl (ef_call0 false (fun _ => hcb) rfl .fn rfl (by decide) (by kernel_rfl) rfl (fun _ => C0 rfl) (by simp)) ?_
   rintro _ _ ⟨_, _, _, ⟨rfl, rfl⟩, hF, hH⟩
   (refine NST hF hH ?_; clear hF hH; rintro rfl rfl)
   refine ⟨ag_cons (by first | exact ag_rd rfl rfl rfl (ZX (KF (t := 28) (f := 0) rfl rfl)) rfl) (ag_cons (by first | exact ag_rd rfl rfl rfl (ZL (KK (t := 3) rfl)) rfl) (ag_cons (by first | exact ag_rd rfl rfl rfl (ZX (KF (t := 28) (f := 0) rfl rfl)) rfl) (ag_cons (by first | exact ag_rd rfl rfl rfl (ZL (KK (t := 3) rfl)) rfl) (ag_cons (by first | exact ag_rd rfl rfl rfl (Zneq) rfl) (ag_none))))), ?_⟩
   refine at_ef rfl rfl (ef_call0 false (fun _ => lwhen_v _ _) rfl .fn rfl (by decide) (by kernel_rfl) rfl (fun _ => C0 rfl) (by simp)) ?_
   rintro _ _ ⟨_, _, _, ⟨rfl, rfl⟩, hF, hH⟩
   rw [if_pos rfl] at hF
   (refine NST hF hH ?_; clear hF hH; rintro rfl rfl)
   refine ⟨ag_none, ?_⟩
   refine WP ?_
   refine at_ef rfl rfl (ef_call0 true (fun g => lerrs_v [celF a, celF b, 3] (g (.o _ 0 3 3)) (by simp)) rfl .fn rfl (by decide) (by kernel_rfl) rfl (fun _ => .cons (.frz rfl rfl rfl rfl rfl) .nil) (fun _ _ _ _ ⟨hu, hH⟩ => by rw [hu, hH]; exact ⟨.c (.inl trivial), by simp⟩)) ?_
   rintro _ _ ⟨_, _, _, ⟨rfl, rfl⟩, hF, hH⟩
   (refine NST hF hH ?_; clear hF hH; rintro rfl rfl)
   refine ⟨ag_none, ?_⟩
   refine WQ ?_
   all_goals (
    rw [hbe]
    exact wk_of [some 0, some 1, some 2, some 3] (fun _ => [(5, .p 0 0 0), (6, .p 1 0 0), (7, .p 2 0 0), (8, .c (I e)), (9, .c (I q)), (10, .c (I n)), (11, .c (I g)), (12, .c (.r v1 (brgR l1))), (13, .c (I (brgE a b))), (14, .p 3 0 0), (15, .c (I e)), (16, .c (I g)), (17, .c (I q)), (18, .c (I n)), (19, .c (I (brgE a b)))]) (fun _ => [celB va a, celB vb b, celB x1 X, celB x2 X]) (by decide) (ZNL hE) ZCF ZCH (fun _ => ⟨rfl, rfl⟩))
 rintro F H ⟨rfl, rfl⟩
 refine ZZ ?_
 have hbok : brgE a b = 0 → RCel a ∧ NCel b ∧ a.st = b.st := fun h => by
  obtain ⟨h1, h2, h3⟩ := brgE_0.1 h
  exact ⟨celF_0.1 h1, hsb.near (celF_0.1 h2), h3⟩
 have hbr := fun h => brg_rows (hbok h)
 have hll : l1.length ≤ 1000000000 ∧ ∀ x ∈ l1, x.1.2.rows.length ≤ 1000000000 := by
  have e1 : (l1.map fun x => (x.1.2, x.2)).length = l1.length := by simp
  by_cases h : brgE a b = 0
  ·rw [if_pos h] at hl1
   rw [hl1] at e1
   refine ⟨by have := (hbr h).1; omega, fun x hx => ?_⟩
   have := (hbr h).2 (x.1.2, x.2) (by rw [← hl1]; exact List.mem_map_of_mem (f := fun x : Brg => (x.1.2, x.2)) hx)
   have := this.h
   simp only at this
   omega
  ·rw [if_neg h] at hl1
   have : l1 = [] := by simpa using hl1
   subst this
   exact ⟨by simp, fun x hx => by cases hx⟩
 clear hbr hca hcb hbg
 refine WA ?_
 refine WA ?_
 refine aw_cut (fun F H => ∃ (v2 : Value) (l2 : List Brg), (l2.map fun x => (x.1.2, x.2)) = (if brgE a b = 0 then brgL a b else []) ∧ F = [(7, .p 0 0 0), (8, .c (I e)), (9, .c (I q)), (10, .c (I n)), (11, .c (I g)), (12, .c (.r v1 (brgR l1))), (13, .c (I (brgE a b))), (14, .p 1 0 0), (15, .c (I e)), (16, .c (I g)), (17, .c (I q)), (18, .c (I n)), (19, .c (I (brgE a b))), (20, .c (.r v2 (brgR l2)))] ∧ H = [celB x1 X, celB x2 X]) ?_ ?_ wk_aw
 ·refine aw_if rfl (fun h0 => ?_) (fun h0 => ?_)
  ·have hb0 : brgE a b = 0 := by omega
   obtain ⟨hra, hnb, _⟩ := hbok hb0
   have hbo := bridgesof_v va vb a b hra hnb
   refine WR ?_
   refine al_ef rfl (ef_call0 false (fun _ => hbo) rfl .fn rfl (by decide) (by kernel_rfl) rfl (fun _ => C0 rfl) (by simp)) ?_
   rintro _ _ ⟨_, _, _, ⟨v2, l2, rfl, hl2, rfl⟩, hF, hH⟩
   (refine NST hF hH ?_; clear hF hH; rintro rfl rfl)
   refine WE ?_
   exact wk_of [some 2, some 3] (fun _ => [(7, .p 0 0 0), (8, .c (I e)), (9, .c (I q)), (10, .c (I n)), (11, .c (I g)), (12, .c (.r v1 (brgR l1))), (13, .c (I (brgE a b))), (14, .p 1 0 0), (15, .c (I e)), (16, .c (I g)), (17, .c (I q)), (18, .c (I n)), (19, .c (I (brgE a b))), (20, .c (.r v2 (brgR l2)))]) (fun _ => [celB x1 X, celB x2 X]) (by decide) (ZNL hE) ZCF ZCH (fun _ => ⟨v2, l2, by rw [if_pos hb0]; exact hl2, rfl, rfl⟩)
  ·have hb0 : ¬ brgE a b = 0 := by omega
   refine ZZ ?_
   exact wk_of [some 2, some 3] (fun _ => [(7, .p 0 0 0), (8, .c (I e)), (9, .c (I q)), (10, .c (I n)), (11, .c (I g)), (12, .c (.r v1 (brgR l1))), (13, .c (I (brgE a b))), (14, .p 1 0 0), (15, .c (I e)), (16, .c (I g)), (17, .c (I q)), (18, .c (I n)), (19, .c (I (brgE a b))), (20, .c (.r (.slice none 0 0) (brgR [])))]) (fun _ => [celB x1 X, celB x2 X]) (by decide) (ZNL hE) ZCF ZCH (fun _ => ⟨.slice none 0 0, [], by rw [if_neg hb0]; rfl, rfl, rfl⟩)
 rintro F H ⟨v2, l2, hl2, rfl, rfl⟩
 refine ZZ ?_
 have hsb2 := samebrs_v v1 v2 l1 l2 (hl1.trans hl2.symm) hll.1 hll.2
 generalize brgE a b = th at *
 have z1 : e = e := rfl
 have z2 : g = g := rfl
 have z3 : q = q := rfl
 have z4 : n = n := rfl
 have z5 : th = th := rfl
 refine WR ?_
 refine G1 rfl ?_
 refine al_ef rfl (ef_call0 false (fun _ => samec_v x1 x2 X hX) rfl .fn rfl (by decide) (by kernel_rfl) rfl (fun _ => C0 rfl) (by simp)) ?_
 rintro _ _ ⟨_, _, _, ⟨rfl, rfl⟩, hF, hH⟩
 (refine NST hF hH ?_; clear hF hH; rintro rfl rfl)
 refine WO ?_
 refine G1 rfl ?_
 refine al_ef rfl (ef_call0 false (fun _ => hsb2) rfl .fn rfl (by decide) (by kernel_rfl) rfl (fun _ => C0 rfl) (by simp)) ?_
 rintro _ _ ⟨_, _, _, ⟨rfl, rfl⟩, hF, hH⟩
 (refine NST hF hH ?_; clear hF hH; rintro rfl rfl)
 refine WO ?_
 refine G1 rfl ?_
 refine al_ef rfl (ef_call0 false (fun _ => filled_v) rfl .fn rfl (by decide) (by kernel_rfl) rfl (fun _ => C0 rfl) (by simp)) ?_
 rintro _ _ ⟨_, _, _, ⟨rfl, rfl⟩, hF, hH⟩
 (refine NST hF hH ?_; clear hF hH; rintro rfl rfl)
 refine WE ?_
 exact aret_1 [] [] rfl rfl rfl (by decide) (ZNK rfl) (fun _ => .nil) rfl
end Go.Proofs.YtniolldgidgffaaGreatDoor
