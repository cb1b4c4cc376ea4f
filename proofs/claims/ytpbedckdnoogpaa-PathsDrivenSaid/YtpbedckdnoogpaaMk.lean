/- The law TimesComputed, walked. -/
import Derived.Test.YtpbedckdnoogpaaMa
import Derived.Test.YtpbedckdnoogpaaMj
set_option linter.unusedSimpArgs false
set_option linter.unusedVariables false
namespace Go.Proofs.Ytpbedckdnoogpaa
open Go Go.RowKit
set_option maxRecDepth 100000
theorem rd_dec_tk {P : Program} {N : Nat} {E : Env} {o : Oper} {F : Fm} {H : List OB} {p : Prop} {_ : Decidable p} (hp : p) (h : Rd P N E o F H (.c (.s (.bool (decide p))))) : Rd P N E o F H (.c (.s (.bool true))) := by
  rwa [decide_eq_true hp] at h
theorem moved_right : Right [⟨200, 100⟩] [] := ⟨by decide, by decide, fun x hx => by rw [List.mem_singleton.1 hx]; unfold Leg.good; decide, rfl, fun z hz => by cases hz⟩
theorem moved_fault : faultL [⟨200, 100⟩] [] 50 = 0 := by decide
theorem moved_peaks : peaksS [⟨200, 100⟩] [] 50 = [100] := by
  have h0 := spdL_zero moved_right 50
  have h1 : spdL [⟨200, 100⟩] [] 50 1 = 0 := spdL_last moved_right 50
  have h2 : rootI 10000 = 100 := (rootI_uniq (by decide) (by decide) (by decide)).symm
  show [peakF (spdL [⟨200, 100⟩] [] 50 0) (spdL [⟨200, 100⟩] [] 50 1) ⟨200, 100⟩ 50] = [100]
  rw [h0, h1]
  show [min 100 (rootI 10000)] = [100]
  rw [h2]; rfl
theorem moved_a : ACalls Try.prog 40 [] [] fun u H => u = .c (B true) ∧ H = [] := by
  have e1 : ([[I 100]] : List (List CV)).length = 1 := rfl
  have r1 : ([[I 100]] : List (List CV))[0]? = some [I 100] := rfl
  refine acalls_of (N := 22) Try.func40 rfl rfl (by simp) fun E hE => ?_
  refine WA ?_
  refine WR ?_
  refine al_wk (wk_of (K := fun F H => ∃ vv, F = [(5, .c (legs_r vv [⟨200, 100⟩]))] ∧ H = []) [] (fun g => [(5, .c (legs_r (g (.o 0 0 1 1)) [⟨200, 100⟩]))]) (fun _ => _) (by decide) (ZNL hE) (fun _g => .cons rfl (.frz rfl rfl rfl rfl rfl) .nil) ZCH (fun g => ⟨_, rfl, rfl⟩)) ?_
  rintro F H ⟨vv, rfl, rfl⟩
  refine al_ef rfl (ef_call0 false (fun _ => peaks_a [⟨200, 100⟩] [] 50 vv (.slice none 0 0) (by simp) (by simp)) rfl .fn rfl (by decide) (by kernel_rfl) rfl (fun _ => C0 rfl) (by simp)) ?_
  rintro _ _ ⟨_, _, _, ⟨vp, rfl, rfl⟩, hF, hH⟩
  rw [moved_fault, if_pos rfl, moved_peaks] at hF
  (try simp only [nsl, Nat.reduceAdd, Nat.reduceLT, Nat.reduceSub] at hF); (try simp only [nsl, Nat.reduceAdd, Nat.reduceLT, Nat.reduceSub] at hH); subst hF; subst hH
  refine WE ?_
  refine WA ?_
  exact aret_1 [] _ rfl rfl rfl (by decide) (ZNK rfl) (fun _ => .nil) ⟨rfl, rfl⟩
theorem exactV_ok {f t : Int} {x : Leg} {ch : Int} (h : exactV f t x ch = 0) : x.good ∧ (1 ≤ ch ∧ ch ≤ 10000000) ∧ (0 ≤ f ∧ f ≤ 100000) ∧ (0 ≤ t ∧ t ≤ 100000) := by
  unfold exactV at h
  split at h
  · omega
  · obtain ⟨hx, hc⟩ := oneF_ok (x := x) (ch := ch) (by omega)
    have := hx.2.2.2
    split at h
    · exact ⟨hx, hc, by omega, by omega⟩
    · omega
theorem law_times (v : Value) (zs : List Int) (hs : StrOk zs) : ACalls Try.prog 4 [.c (.r v (zs.map fun z => [I z]))] [] fun u H => u = .c (B true) := by
  refine acalls_of (N := 167) Try.func4 rfl rfl (by simp) fun E hE => ?_
  refine WA ?_
  refine WA ?_
  refine WR ?_
  refine al_ef rfl (ef_callm false (fun _ => leglist_a 8 v zs _ hs (by omega) (by omega) (by omega) (by omega)) rfl .fn rfl (by decide) (by kernel_rfl) rfl rfl (fun _g => .cons (.p rfl) (.cons (.c rfl) .nil)) (fun _g => .cons (.c rfl) (.cons (.c rfl) .nil)) (by simp)) ?_
  rintro F1 H1 ⟨_, _, _, _, ⟨vl, l, al, rfl, hq, hl1, hl2, hl3⟩, hF, hH⟩
  injection hq with hq1 hq2; subst hq1; subst hq2
  (try simp only [nsl, Nat.reduceAdd, Nat.reduceLT, Nat.reduceSub] at hF); (try simp only [nsl, Nat.reduceAdd, Nat.reduceLT, Nat.reduceSub] at hH); subst hF; subst hH
  have e1 : (l.map Leg.row).length = l.length := by simp
  refine WE ?_
  refine WR ?_
  refine al_ef rfl (ef_callm false (fun _ => cornerlist_a (l.map Leg.row).length v zs _ hs (by omega) (by omega) (by omega) (by omega)) rfl .fn rfl (by decide) (by kernel_rfl) rfl rfl (fun _g => .cons (.p rfl) (.cons (.c rfl) .nil)) (fun _g => .cons (.c rfl) (.cons (.c rfl) .nil)) (by simp)) ?_
  rintro F1 H1 ⟨_, _, _, _, ⟨vc, cs, ac, rfl, hq, hc1, hc2, hc3⟩, hF, hH⟩
  injection hq with hq1 hq2; subst hq1; subst hq2
  (try simp only [nsl, Nat.reduceAdd, Nat.reduceLT, Nat.reduceSub] at hF); (try simp only [nsl, Nat.reduceAdd, Nat.reduceLT, Nat.reduceSub] at hH); subst hF; subst hH
  refine WO ?_
  refine al_ef rfl (ef_callm false (fun _ => change_a v zs _ hs (by omega) (by omega)) rfl .fn rfl (by decide) (by kernel_rfl) rfl rfl (fun _g => .cons (.p rfl) .nil) (fun _g => .cons (.c rfl) (.cons (.c rfl) .nil)) (by simp)) ?_
  rintro F1 H1 ⟨_, _, _, _, ⟨ch, rfl, hq, hch⟩, hF, hH⟩
  injection hq with hq1 hq2; subst hq1; subst hq2
  (try simp only [nsl, Nat.reduceAdd, Nat.reduceLT, Nat.reduceSub] at hF); (try simp only [nsl, Nat.reduceAdd, Nat.reduceLT, Nat.reduceSub] at hH); subst hF; subst hH
  refine WE ?_
  obtain ⟨Pa, hPa⟩ : ∃ W, W = (if faultL l cs ch = 0 then peaksS l cs ch else []) := ⟨_, rfl⟩
  obtain ⟨Ta, hTa⟩ : ∃ W, W = (if faultL l cs ch = 0 then timesS l cs ch else []) := ⟨_, rfl⟩
  obtain ⟨p1, hp1⟩ : ∃ p, p = faultL l cs ch := ⟨_, rfl⟩
  have hWl : Pa.length ≤ 1000 ∧ Ta.length ≤ 1000 := by
    rw [hPa, hTa]
    split
    · rw [peaksS, timesS, upto_len, upto_len]; omega
    · simp
  refine WR ?_
  refine al_ef rfl (ef_call0 false (fun _ => peaks_a l cs ch vl vc (by omega) (by omega)) rfl .fn rfl (by decide) (by kernel_rfl) rfl (fun _ => C0 rfl) (by simp)) ?_
  rintro _ _ ⟨_, _, _, ⟨va, rfl, rfl⟩, hF, hH⟩
  rw [← hPa, ← hp1] at hF
  (try simp only [nsl, Nat.reduceAdd, Nat.reduceLT, Nat.reduceSub] at hF); (try simp only [nsl, Nat.reduceAdd, Nat.reduceLT, Nat.reduceSub] at hH); subst hF; subst hH
  refine WE ?_
  refine WR ?_
  refine al_ef rfl (ef_call0 false (fun _ => times_a l cs ch vl vc (by omega) (by omega)) rfl .fn rfl (by decide) (by kernel_rfl) rfl (fun _ => C0 rfl) (by simp)) ?_
  rintro _ _ ⟨_, _, _, ⟨vt, rfl, rfl⟩, hF, hH⟩
  rw [← hTa, ← hp1] at hF
  (try simp only [nsl, Nat.reduceAdd, Nat.reduceLT, Nat.reduceSub] at hF); (try simp only [nsl, Nat.reduceAdd, Nat.reduceLT, Nat.reduceSub] at hH); subst hF; subst hH
  refine WE ?_
  refine WR ?_
  refine al_ef rfl (ef_call0 false (fun _ => total_a l cs ch vl vc (by omega) (by omega)) rfl .fn rfl (by decide) (by kernel_rfl) rfl (fun _ => C0 rfl) (by simp)) ?_
  rintro _ _ ⟨_, _, _, ⟨rfl, rfl⟩, hF, hH⟩
  rw [← hTa, ← hp1] at hF
  (try simp only [nsl, Nat.reduceAdd, Nat.reduceLT, Nat.reduceSub] at hF); (try simp only [nsl, Nat.reduceAdd, Nat.reduceLT, Nat.reduceSub] at hH); subst hF; subst hH
  refine WE ?_
  refine WR ?_
  refine al_ef rfl (ef_callm true (fun _ => pick_a [1, 20, 100, 0] _ _ _ _ hs (by omega) (by omega) (by simp) (by simp)) rfl .fn rfl (by decide) (by kernel_rfl) rfl rfl (fun _g => .cons (.p rfl) (.cons (.frz rfl rfl rfl rfl rfl) .nil)) (fun _g => .cons (.c rfl) (.cons (.c rfl) .nil)) (fun _ _ _ _ ⟨_, hu, hH, _⟩ => by rw [hu, hH]; exact ⟨.c (.inl trivial), strm_flat (.inr ⟨0, _, rfl, by simp⟩)⟩)) ?_
  rintro F1 H1 ⟨_, _, _, _, ⟨x1, rfl, hq, hrmx1⟩, hF, hH⟩
  injection hq with hq1 hq2; subst hq1; subst hq2
  (try simp only [nsl, Nat.reduceAdd, Nat.reduceLT, Nat.reduceSub] at hF); (try simp only [nsl, Nat.reduceAdd, Nat.reduceLT, Nat.reduceSub] at hH); subst hF; subst hH
  refine WO ?_
  refine al_ef rfl (ef_callm true (fun _ => pick_a [50, 100, 500] _ _ _ _ hs (by omega) (by omega) (by simp) (by simp)) rfl .fn rfl (by decide) (by kernel_rfl) rfl rfl (fun _g => .cons (.p rfl) (.cons (.frz rfl rfl rfl rfl rfl) .nil)) (fun _g => .cons (.c rfl) (.cons (.c rfl) .nil)) (fun _ _ _ _ ⟨_, hu, hH, _⟩ => by rw [hu, hH]; exact ⟨.c (.inl trivial), strm_flat (.inr ⟨0, _, rfl, by simp⟩)⟩)) ?_
  rintro F1 H1 ⟨_, _, _, _, ⟨x2, rfl, hq, hrmx2⟩, hF, hH⟩
  injection hq with hq1 hq2; subst hq1; subst hq2
  (try simp only [nsl, Nat.reduceAdd, Nat.reduceLT, Nat.reduceSub] at hF); (try simp only [nsl, Nat.reduceAdd, Nat.reduceLT, Nat.reduceSub] at hH); subst hF; subst hH
  refine WO ?_
  refine al_ef rfl (ef_callm true (fun _ => pick_a [0, 0, 10, 50, 100, -1] _ _ _ _ hs (by omega) (by omega) (by simp) (by simp)) rfl .fn rfl (by decide) (by kernel_rfl) rfl rfl (fun _g => .cons (.p rfl) (.cons (.frz rfl rfl rfl rfl rfl) .nil)) (fun _g => .cons (.c rfl) (.cons (.c rfl) .nil)) (fun _ _ _ _ ⟨_, hu, hH, _⟩ => by rw [hu, hH]; exact ⟨.c (.inl trivial), strm_flat (.inr ⟨0, _, rfl, by simp⟩)⟩)) ?_
  rintro F1 H1 ⟨_, _, _, _, ⟨f, rfl, hq, hrmf⟩, hF, hH⟩
  injection hq with hq1 hq2; subst hq1; subst hq2
  (try simp only [nsl, Nat.reduceAdd, Nat.reduceLT, Nat.reduceSub] at hF); (try simp only [nsl, Nat.reduceAdd, Nat.reduceLT, Nat.reduceSub] at hH); subst hF; subst hH
  refine WO ?_
  refine al_ef rfl (ef_callm true (fun _ => pick_a [0, 10, 30, 501] _ _ _ _ hs (by omega) (by omega) (by simp) (by simp)) rfl .fn rfl (by decide) (by kernel_rfl) rfl rfl (fun _g => .cons (.p rfl) (.cons (.frz rfl rfl rfl rfl rfl) .nil)) (fun _g => .cons (.c rfl) (.cons (.c rfl) .nil)) (fun _ _ _ _ ⟨_, hu, hH, _⟩ => by rw [hu, hH]; exact ⟨.c (.inl trivial), strm_flat (.inr ⟨0, _, rfl, by simp⟩)⟩)) ?_
  rintro F1 H1 ⟨_, _, _, _, ⟨t, rfl, hq, hrmt⟩, hF, hH⟩
  injection hq with hq1 hq2; subst hq1; subst hq2
  (try simp only [nsl, Nat.reduceAdd, Nat.reduceLT, Nat.reduceSub] at hF); (try simp only [nsl, Nat.reduceAdd, Nat.reduceLT, Nat.reduceSub] at hH); subst hF; subst hH
  refine WE ?_
  refine WR ?_
  refine al_nil ?_
  refine aseq_n ?_
  refine aw_cut (fun F H => ∃ leg : Leg, F = [(4, .c (legs_r vl l)), (5, .c (ints_r vc cs)), (6, .c (I ch)), (7, .c (ints_r va Pa)), (8, .c (I p1)), (9, .c (ints_r vt Ta)), (10, .c (I p1)), (11, .c (I (sumW Ta))), (12, .c (I p1)), (13, .p 0 0 0), (14, .c (I f)), (15, .c (I t))] ∧ H = [.box [.c (I leg.long), .c (I leg.limit)]]) ?_ ?_ wk_aw
  · refine aw_if rfl (fun hgt => ?_) (fun hle => ?_)
    · refine WR ?_
      refine al_ef rfl (ef_callm false (fun _ => next_a _ _ _ _ hs (by omega) (by omega) (by simp only [in64]; omega)) rfl .fn rfl (by decide) (by kernel_rfl) rfl rfl (fun _g => .cons (.p rfl) (.cons (.c rfl) .nil)) (fun _g => .cons (.c rfl) (.cons (.c rfl) .nil)) (by simp)) ?_
      rintro F1 H1 ⟨_, _, _, _, ⟨r, rfl, hq, hr1, hr2⟩, hF, hH⟩
      injection hq with hq1 hq2; subst hq1; subst hq2
      (try simp only [nsl, Nat.reduceAdd, Nat.reduceLT, Nat.reduceSub] at hF); (try simp only [nsl, Nat.reduceAdd, Nat.reduceLT, Nat.reduceSub] at hH); subst hF; subst hH
      obtain ⟨i, rfl⟩ : ∃ i : Nat, r = i := ⟨r.toNat, by omega⟩
      have hk : i < l.length := by have := hr2 (by omega); omega
      obtain ⟨x, hx⟩ : ∃ x, l[i]? = some x := ⟨_, List.getElem?_eq_getElem hk⟩
      have hrow : (l.map Leg.row)[i]? = some [I x.long, I x.limit] := by rw [List.getElem?_map, hx]; rfl
      refine WE ?_
      refine wk_of [some 5] (fun _ => [(4, .c (legs_r vl l)), (5, .c (ints_r vc cs)), (6, .c (I ch)), (7, .c (ints_r va Pa)), (8, .c (I p1)), (9, .c (ints_r vt Ta)), (10, .c (I p1)), (11, .c (I (sumW Ta))), (12, .c (I p1)), (13, .p 0 0 0), (14, .c (I f)), (15, .c (I t))]) (fun _ => _) (by decide) (ZNL hE) ZCF ZCH (fun _ => ⟨x, rfl, rfl⟩)
    · refine ZZ ?_
      refine wk_of [some 5] (fun _ => [(4, .c (legs_r vl l)), (5, .c (ints_r vc cs)), (6, .c (I ch)), (7, .c (ints_r va Pa)), (8, .c (I p1)), (9, .c (ints_r vt Ta)), (10, .c (I p1)), (11, .c (I (sumW Ta))), (12, .c (I p1)), (13, .p 0 0 0), (14, .c (I f)), (15, .c (I t))]) (fun _ => _) (by decide) (ZNL hE) ZCF ZCH (fun _ => ⟨⟨x1, x2⟩, rfl, rfl⟩)
  rintro F H ⟨leg, rfl, rfl⟩
  obtain ⟨X, hX⟩ : ∃ X, exactV f t leg ch = X := ⟨_, rfl⟩
  obtain ⟨r1, r2, hR⟩ : ∃ r1 r2, (if exactV f t leg ch = 0 then exactR f t leg ch else [I 0, I 0]) = [I r1, I r2] := by
    split <;> exact ⟨_, _, rfl⟩
  refine WR ?_
  refine al_ef rfl (ef_call0 false (fun _ => exact_a f t leg ch) rfl .fn rfl (by decide) (by kernel_rfl) rfl (fun _ => C0 rfl) (by simp)) ?_
  rintro _ _ ⟨_, _, _, ⟨rfl, rfl⟩, hF, hH⟩
  rw [hR, hX] at hF
  (try simp only [nsl, Nat.reduceAdd, Nat.reduceLT, Nat.reduceSub] at hF); (try simp only [nsl, Nat.reduceAdd, Nat.reduceLT, Nat.reduceSub] at hH); subst hF; subst hH
  refine WE ?_
  refine ZZ ?_
  refine aw_regionT [(0, none), (1, none), (2, none), (4, none), (5, none), (6, none), (7, none), (3, some [4, 5, 6, 7]), (8, some []), (9, none), (10, none)] hMixed (by kernel_rfl) ?_
  refine WP ?_
  refine at_ef rfl rfl (ef_call0 false (fun _ => legsfaultlaw_a l cs ch vl vc (by omega) (by omega)) rfl .fn rfl (by decide) (by kernel_rfl) rfl (fun _ => C0 rfl) (by simp)) ?_
  rintro _ _ ⟨_, _, _, ⟨rfl, rfl⟩, hF, hH⟩
  rw [← hp1] at hF
  (try simp only [nsl, Nat.reduceAdd, Nat.reduceLT, Nat.reduceSub] at hF); (try simp only [nsl, Nat.reduceAdd, Nat.reduceLT, Nat.reduceSub] at hH); subst hF; subst hH
  refine ⟨ag_cons (by first | exact ag_rd rfl rfl rfl (rd_move rfl rfl) rfl) (ag_cons (by first | exact ag_rd rfl rfl rfl (rd_move rfl rfl) rfl) (ag_cons (by first | exact ag_rd rfl rfl rfl (ZK (KK (t := 64) rfl)) rfl) (ag_cons (by first | exact ag_rd rfl rfl rfl (rd_move rfl rfl) rfl) (ag_none)))), ?_⟩
  refine at_ef rfl rfl (ef_call0 false (fun _ => exactfault_a f t leg ch) rfl .fn rfl (by decide) (by kernel_rfl) rfl (fun _ => C0 rfl) (by simp)) ?_
  rintro _ _ ⟨_, _, _, ⟨rfl, rfl⟩, hF, hH⟩
  rw [hX] at hF
  (try simp only [nsl, Nat.reduceAdd, Nat.reduceLT, Nat.reduceSub] at hF); (try simp only [nsl, Nat.reduceAdd, Nat.reduceLT, Nat.reduceSub] at hH); subst hF; subst hH
  refine ⟨ag_none, ?_⟩
  refine WQ ?_
  refine WA ?_
  refine WA ?_
  refine WR ?_
  refine al_nil ?_
  refine aseq_n ?_
  refine aw_cut (fun F H => ∃ vx vy, F = [(6, .c (I ch)), (7, .c (ints_r va Pa)), (8, .c (I p1)), (9, .c (ints_r vt Ta)), (10, .c (I p1)), (11, .c (I (sumW Ta))), (12, .c (I p1)), (13, .p 0 0 0), (14, .c (I f)), (15, .c (I t)), (16, .p 1 0 0), (17, .c (I X)), (18, .c (I p1)), (19, .c (I X)), (20, .c (ints_r vx Pa)), (21, .c (ints_r vy Ta)), (22, .c (I (sumW Ta)))] ∧ H = [.box [.c (I leg.long), .c (I leg.limit)], .box [.c (I r1), .c (I r2)]]) ?_ ?_ wk_aw
  · refine aw_if rfl (fun h0 => ?_) (fun h0 => ?_)
    · obtain ⟨hr, hch'⟩ := faultL_ok (l := l) (cs := cs) (ch := ch) (by omega)
      rw [if_pos (by omega)] at hPa hTa
      refine WR ?_
      refine al_ef rfl (ef_call0 false (fun _ => peaksof_a l cs ch vl vc hr hch') rfl .fn rfl (by decide) (by kernel_rfl) rfl (fun _ => C0 rfl) (by simp)) ?_
      rintro _ _ ⟨_, _, _, ⟨vx, rfl, rfl⟩, hF, hH⟩
      rw [← hPa] at hF
      (try simp only [nsl, Nat.reduceAdd, Nat.reduceLT, Nat.reduceSub] at hF); (try simp only [nsl, Nat.reduceAdd, Nat.reduceLT, Nat.reduceSub] at hH); subst hF; subst hH
      refine WO ?_
      refine al_ef rfl (ef_call0 false (fun _ => timesof_a l cs ch vl vc hr hch') rfl .fn rfl (by decide) (by kernel_rfl) rfl (fun _ => C0 rfl) (by simp)) ?_
      rintro _ _ ⟨_, _, _, ⟨vy, rfl, rfl⟩, hF, hH⟩
      rw [← hTa] at hF
      (try simp only [nsl, Nat.reduceAdd, Nat.reduceLT, Nat.reduceSub] at hF); (try simp only [nsl, Nat.reduceAdd, Nat.reduceLT, Nat.reduceSub] at hH); subst hF; subst hH
      refine WE ?_
      have e2 : (Ta.map fun z => [I z]).length = Ta.length := by simp
      refine WA ?_
      refine aw_loopw (fun m F H => ∃ (k : Nat), m + k = Ta.length ∧ F = [(6, .c (I ch)), (7, .c (ints_r va Pa)), (8, .c (I p1)), (9, .c (ints_r vt Ta)), (10, .c (I p1)), (11, .c (I (sumW Ta))), (12, .c (I p1)), (13, .p 0 0 0), (14, .c (I f)), (15, .c (I t)), (16, .p 1 0 0), (17, .c (I X)), (18, .c (I p1)), (19, .c (I X)), (20, .c (ints_r vx Pa)), (21, .c (ints_r vy Ta)), (22, .c (I (sumW (Ta.take k)))), (108, .c (ints_r vy Ta)), (109, .c (I (Ta.map fun z => [I z]).length)), (110, .c (I k))] ∧ H = [.box [.c (I leg.long), .c (I leg.limit)], .box [.c (I r1), .c (I r2)]]) ?_ ?_
      · refine wk_of [some 0, some 1] (fun _ => [(6, .c (I ch)), (7, .c (ints_r va Pa)), (8, .c (I p1)), (9, .c (ints_r vt Ta)), (10, .c (I p1)), (11, .c (I (sumW Ta))), (12, .c (I p1)), (13, .p 0 0 0), (14, .c (I f)), (15, .c (I t)), (16, .p 1 0 0), (17, .c (I X)), (18, .c (I p1)), (19, .c (I X)), (20, .c (ints_r vx Pa)), (21, .c (ints_r vy Ta)), (22, .c (I 0)), (108, .c (ints_r vy Ta)), (109, .c (I (Ta.map fun z => [I z]).length)), (110, .c (I (0 : Nat)))]) (fun _ => _) (by decide) (ZNL hE) ZCF ZCH (fun _ => ?_)
        exact ⟨Ta.length, 0, by omega, rfl, rfl⟩
      rintro m F H ⟨k, hk, rfl, rfl⟩
      refine WA ?_
      refine aw_if rfl (fun hlt => ?_) (fun hge => ?_)
      · obtain ⟨x, hx⟩ : ∃ x, Ta[k]? = some x := ⟨_, List.getElem?_eq_getElem (by omega)⟩
        have hrw : (Ta.map fun z => [I z])[k]? = some [I x] := by rw [List.getElem?_map, hx]; rfl
        refine WA ?_
        refine ZR ?_
        iterate 2 refine WX1 ?_
        refine ZA (rd_add rfl rfl rfl) ?_
        refine WE ?_
        refine WA ?_
        refine wk_of [some 0, some 1] (fun _ => [(6, .c (I ch)), (7, .c (ints_r va Pa)), (8, .c (I p1)), (9, .c (ints_r vt Ta)), (10, .c (I p1)), (11, .c (I (sumW Ta))), (12, .c (I p1)), (13, .p 0 0 0), (14, .c (I f)), (15, .c (I t)), (16, .p 1 0 0), (17, .c (I X)), (18, .c (I p1)), (19, .c (I X)), (20, .c (ints_r vx Pa)), (21, .c (ints_r vy Ta)), (22, .c (I (wrap64 (sumW (Ta.take k) + x)))), (108, .c (ints_r vy Ta)), (109, .c (I (Ta.map fun z => [I z]).length)), (110, .c (I (k + 1 : Nat)))]) (fun _ => _) (by decide) (ZNL hE) ZCF ZCH (fun _ => ?_)
        exact ⟨m - 1, by omega, k + 1, by omega, by rw [sumW_next hx], rfl⟩
      obtain rfl : k = Ta.length := by omega
      refine ZZ ?_
      refine wk_of [some 0, some 1] (fun _ => [(6, .c (I ch)), (7, .c (ints_r va Pa)), (8, .c (I p1)), (9, .c (ints_r vt Ta)), (10, .c (I p1)), (11, .c (I (sumW Ta))), (12, .c (I p1)), (13, .p 0 0 0), (14, .c (I f)), (15, .c (I t)), (16, .p 1 0 0), (17, .c (I X)), (18, .c (I p1)), (19, .c (I X)), (20, .c (ints_r vx Pa)), (21, .c (ints_r vy Ta)), (22, .c (I (sumW (Ta.take Ta.length))))]) (fun _ => _) (by decide) (ZNL hE) ZCF ZCH (fun _ => ?_)
      exact ⟨vx, vy, by rw [List.take_length], rfl⟩
    · obtain rfl : Pa = [] := by rw [hPa, if_neg (by omega)]
      obtain rfl : Ta = [] := by rw [hTa, if_neg (by omega)]
      refine ZZ ?_
      refine wk_of [some 0, some 1] (fun _ => [(6, .c (I ch)), (7, .c (ints_r va [])), (8, .c (I p1)), (9, .c (ints_r vt [])), (10, .c (I p1)), (11, .c (I (sumW []))), (12, .c (I p1)), (13, .p 0 0 0), (14, .c (I f)), (15, .c (I t)), (16, .p 1 0 0), (17, .c (I X)), (18, .c (I p1)), (19, .c (I X)), (20, .c (ints_r (.slice none 0 0) [])), (21, .c (ints_r (.slice none 0 0) [])), (22, .c (I 0))]) (fun _ => _) (by decide) (ZNL hE) ZCF ZCH (fun _ => ?_)
      exact ⟨_, _, rfl, rfl⟩
  rintro F H ⟨vx, vy, rfl, rfl⟩
  refine WA ?_
  refine WR ?_
  refine al_nil ?_
  refine aseq_n ?_
  refine aw_cut (fun F H => F = [(7, .c (ints_r va Pa)), (8, .c (I p1)), (9, .c (ints_r vt Ta)), (10, .c (I p1)), (11, .c (I (sumW Ta))), (12, .c (I p1)), (16, .p 0 0 0), (17, .c (I X)), (18, .c (I p1)), (19, .c (I X)), (20, .c (ints_r vx Pa)), (21, .c (ints_r vy Ta)), (22, .c (I (sumW Ta))), (25, .p 1 0 0)] ∧ H = [.box [.c (I r1), .c (I r2)], .box [.c (I r1), .c (I r2)]]) ?_ ?_ wk_aw
  · refine aw_if rfl (fun h0 => ?_) (fun h0 => ?_)
    · have hX0 : exactV f t leg ch = 0 := by rw [hX]; exact h0
      obtain ⟨q1, q2, q3, q4⟩ := exactV_ok hX0
      have hR0 : exactR f t leg ch = [I r1, I r2] := by rw [← hR, if_pos hX0]
      refine WR ?_
      refine al_ef rfl (ef_call0 false (fun _ => exactof_a f t leg ch q3 q4 q1 q2) rfl .fn rfl (by decide) (by kernel_rfl) rfl (fun _ => C0 rfl) (by simp)) ?_
      rintro _ _ ⟨_, _, _, ⟨rfl, rfl⟩, hF, hH⟩
      rw [hR0] at hF
      (try simp only [nsl, Nat.reduceAdd, Nat.reduceLT, Nat.reduceSub] at hF); (try simp only [nsl, Nat.reduceAdd, Nat.reduceLT, Nat.reduceSub] at hH); subst hF; subst hH
      refine WE ?_
      refine wk_of [some 1, some 2] (fun _ => [(7, .c (ints_r va Pa)), (8, .c (I p1)), (9, .c (ints_r vt Ta)), (10, .c (I p1)), (11, .c (I (sumW Ta))), (12, .c (I p1)), (16, .p 0 0 0), (17, .c (I X)), (18, .c (I p1)), (19, .c (I X)), (20, .c (ints_r vx Pa)), (21, .c (ints_r vy Ta)), (22, .c (I (sumW Ta))), (25, .p 1 0 0)]) (fun _ => _) (by decide) (ZNL hE) ZCF ZCH (fun _ => ?_)
      exact ⟨rfl, rfl⟩
    · have hR1 : [I 0, I 0] = [I r1, I r2] := by rw [← hR, if_neg (by omega)]
      injection hR1 with g1 g2
      injection g2 with g2 _
      injection g1 with g1; injection g1 with _ g1
      injection g2 with g2; injection g2 with _ g2
      subst g1; subst g2
      refine ZZ ?_
      refine wk_of [some 1, some 2] (fun _ => [(7, .c (ints_r va Pa)), (8, .c (I p1)), (9, .c (ints_r vt Ta)), (10, .c (I p1)), (11, .c (I (sumW Ta))), (12, .c (I p1)), (16, .p 0 0 0), (17, .c (I X)), (18, .c (I p1)), (19, .c (I X)), (20, .c (ints_r vx Pa)), (21, .c (ints_r vy Ta)), (22, .c (I (sumW Ta))), (25, .p 1 0 0)]) (fun _ => _) (by decide) (ZNL hE) ZCF ZCH (fun _ => ?_)
      exact ⟨rfl, rfl⟩
  rintro F H ⟨rfl, rfl⟩
  refine WR ?_
  first | refine ZS ?_ | (refine G1 rfl ?_; refine al_ef rfl (ef_call0 false (fun _ => eqI_a Pa Pa va vx (by omega) (by omega)) rfl .fn rfl (by decide) (by kernel_rfl) rfl (fun _ => C0 rfl) (by simp)) ?_; rintro _ _ ⟨_, _, _, ⟨bm, rfl, rfl, hbm⟩, hF, hH⟩; obtain rfl : bm = true := hbm.2 rfl; (try simp only [nsl, Nat.reduceAdd, Nat.reduceLT, Nat.reduceSub] at hF); (try simp only [nsl, Nat.reduceAdd, Nat.reduceLT, Nat.reduceSub] at hH); subst hF; subst hH) | skip
  refine WO ?_
  first | refine ZS ?_ | (refine G1 rfl ?_; refine al_ef rfl (ef_call0 false (fun _ => eqI_a Ta Ta vt vy (by omega) (by omega)) rfl .fn rfl (by decide) (by kernel_rfl) rfl (fun _ => C0 rfl) (by simp)) ?_; rintro _ _ ⟨_, _, _, ⟨bm, rfl, rfl, hbm⟩, hF, hH⟩; obtain rfl : bm = true := hbm.2 rfl; (try simp only [nsl, Nat.reduceAdd, Nat.reduceLT, Nat.reduceSub] at hF); (try simp only [nsl, Nat.reduceAdd, Nat.reduceLT, Nat.reduceSub] at hH); subst hF; subst hH) | skip
  iterate 19 refine WX1 ?_
  first | refine ZP (rd_dec_tk (by simp) (rd_eqla66 rfl rfl rfl)) ?_ | refine ZS ?_
  refine WO ?_
  first | refine ZS ?_ | (refine G1 rfl ?_; refine al_ef rfl (ef_call0 false (fun _ => moved_a) rfl .fn rfl (by decide) (by kernel_rfl) rfl (fun _ => C0 rfl) (by simp)) ?_; rintro _ _ ⟨_, _, _, ⟨rfl, rfl⟩, hF, hH⟩; (try simp only [nsl, Nat.reduceAdd, Nat.reduceLT, Nat.reduceSub] at hF); (try simp only [nsl, Nat.reduceAdd, Nat.reduceLT, Nat.reduceSub] at hH); subst hF; subst hH) | skip
  refine WE ?_
  exact aret_1 [] _ rfl rfl rfl (by decide) (ZNK rfl) (fun _ => .nil) rfl
end Go.Proofs.Ytpbedckdnoogpaa
