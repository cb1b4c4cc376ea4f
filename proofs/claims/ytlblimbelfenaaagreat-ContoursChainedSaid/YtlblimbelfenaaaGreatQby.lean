/- The law ContoursChained, walked. -/
import Derived.Test.YtlblimbelfenaaaGreatQbj
import Derived.Test.YtlblimbelfenaaaGreatQbk
import Derived.Test.YtlblimbelfenaaaGreatQbm
import Derived.Test.YtlblimbelfenaaaGreatQbx
set_option linter.unusedSimpArgs false
set_option linter.unusedVariables false
/- The law ContoursChained, walked. -/
-- NEWM
namespace Go.Proofs.YtlblimbelfenaaaGreat
open Go Go.RowKit
set_option maxRecDepth 100000
theorem pltF_fst0 (V : List Vec3) (Fs : List Fac3) (l : List Int) : fst0 [mshF V Fs, plnF l] = pltF V Fs l := by
  rw [fst0_two]; unfold pltF
  by_cases h : mshF V Fs = 0 <;> simp [h]
set_option maxHeartbeats 16000000 in
theorem law_contours (v : Value) (zs : List Int) (hs : StrOk zs) : ACalls Tryz.prog 4 [.c (.r v (zs.map fun z => [I z]))] [] fun u H => u = .c (B true) := by
  refine acalls_of (N := 165) Tryz.func4 rfl rfl (by simp) fun E hE => ?_
  refine WA ?_
  refine WA ?_
  refine WR ?_
  refine al_ef rfl (ef_callm false (fun _ => amesh_v _ _ _ hs (by omega) (by omega)) rfl .fn rfl (by decide) (by kernel_rfl) rfl rfl (fun _g => .cons (.p rfl) .nil) (fun _g => .cons (.c rfl) (.cons (.c rfl) .nil)) (by simp)) ?_
  rintro F1 H1 ⟨_, _, _, _, ⟨a2, q, w, V, Fs, rfl, hq, ha3, ha4, hV, hFl⟩, hF, hH⟩
  injection hq with hq1 hq2; subst hq1; subst hq2
  (try simp only [nsl, Nat.reduceAdd, Nat.reduceLT, Nat.reduceSub] at hF); (try simp only [nsl, Nat.reduceAdd, Nat.reduceLT, Nat.reduceSub] at hH); subst hF; subst hH
  refine WE ?_
  refine ZZ ?_
  refine aw_regionT [(0, none), (1, none), (3, none), (4, none), (2, some [3, 4]), (5, some []), (6, none), (7, none)] hMixed (by kernel_rfl) ?_
  refine WP ?_
  refine at_ef rfl rfl (ef_callm false (fun _ => aplane_v _ _ _ q w V Fs hs (by omega) (by omega) (by omega)) rfl .fn rfl (by decide) (by kernel_rfl) rfl rfl (fun _g => .cons (.p rfl) (.cons (.aL (C0 rfl)) .nil)) (fun _g => .cons (.c rfl) (.cons (.c rfl) .nil)) (by simp)) ?_
  rintro F1 H1 ⟨_, _, _, _, ⟨z, az, rfl, hq, hbz, hcz⟩, hF, hH⟩
  injection hq with hq1 hq2; subst hq1; subst hq2
  (try simp only [nsl, Nat.reduceAdd, Nat.reduceLT, Nat.reduceSub] at hF); (try simp only [nsl, Nat.reduceAdd, Nat.reduceLT, Nat.reduceSub] at hH); subst hF; subst hH
  refine ⟨ag_cons (by first | exact ag_rd rfl rfl rfl (rd_move rfl rfl) rfl) (ag_cons (by first | exact ag_rd rfl rfl rfl (ZK (KK (t := 29) rfl)) rfl) (ag_none)), ?_⟩
  refine at_ef rfl rfl (ef_callm false (fun _ => aplane_v _ _ _ q w V Fs hs (by omega) (by omega) (by omega)) rfl .fn rfl (by decide) (by kernel_rfl) rfl rfl (fun _g => .cons (.p rfl) (.cons (.aL (C0 rfl)) .nil)) (fun _g => .cons (.c rfl) (.cons (.c rfl) .nil)) (by simp)) ?_
  rintro F1 H1 ⟨_, _, _, _, ⟨y, ay, rfl, hq, hby, hcy⟩, hF, hH⟩
  injection hq with hq1 hq2; subst hq1; subst hq2
  (try simp only [nsl, Nat.reduceAdd, Nat.reduceLT, Nat.reduceSub] at hF); (try simp only [nsl, Nat.reduceAdd, Nat.reduceLT, Nat.reduceSub] at hH); subst hF; subst hH
  refine ⟨ag_none, ?_⟩
  refine WQ ?_
  refine WR ?_
  refine al_ef rfl (ef_call0 false (fun _ => cuts_p q w V Fs z (by omega) (by omega)) rfl .fn rfl (by decide) (by kernel_rfl) rfl (fun _ => C0 rfl) (by simp)) ?_
  rintro _ _ ⟨_, _, _, ⟨qc, rfl, rfl⟩, hF, hH⟩
  (try simp only [nsl, Nat.reduceAdd, Nat.reduceLT, Nat.reduceSub] at hF); (try simp only [nsl, Nat.reduceAdd, Nat.reduceLT, Nat.reduceSub] at hH); subst hF; subst hH
  refine WE ?_
  refine WR ?_
  refine al_ef rfl (ef_call0 false (fun _ => segs_p q w V Fs z (by omega) (by omega)) rfl .fn rfl (by decide) (by kernel_rfl) rfl (fun _ => C0 rfl) (by simp)) ?_
  rintro _ _ ⟨_, _, _, ⟨qg, rfl, rfl⟩, hF, hH⟩
  (try simp only [nsl, Nat.reduceAdd, Nat.reduceLT, Nat.reduceSub] at hF); (try simp only [nsl, Nat.reduceAdd, Nat.reduceLT, Nat.reduceSub] at hH); subst hF; subst hH
  refine WE ?_
  refine WR ?_
  refine al_ef rfl (ef_call0 false (fun _ => contoursP_v q w V Fs z (by omega) (by omega)) rfl .fn rfl (by decide) (by kernel_rfl) rfl (fun _ => C0 rfl) (by simp)) ?_
  rintro _ _ ⟨_, _, _, ⟨q1, q2, l, rfl, rfl, hcon⟩, hF, hH⟩
  (try simp only [nsl, Nat.reduceAdd, Nat.reduceLT, Nat.reduceSub] at hF); (try simp only [nsl, Nat.reduceAdd, Nat.reduceLT, Nat.reduceSub] at hH); subst hF; subst hH
  refine WE ?_
  refine WR ?_
  refine al_ef rfl (ef_call0 false (fun _ => ends_p q w V Fs z (by omega) (by omega)) rfl .fn rfl (by decide) (by kernel_rfl) rfl (fun _ => C0 rfl) (by simp)) ?_
  rintro _ _ ⟨_, _, _, ⟨qe, L, rfl, rfl, hend⟩, hF, hH⟩
  (try simp only [nsl, Nat.reduceAdd, Nat.reduceLT, Nat.reduceSub] at hF); (try simp only [nsl, Nat.reduceAdd, Nat.reduceLT, Nat.reduceSub] at hH); subst hF; subst hH
  refine WE ?_
  refine WR ?_
  refine al_ef rfl (ef_call0 false (fun _ => alike_p q w V Fs z y (by omega) (by omega)) rfl .fn rfl (by decide) (by kernel_rfl) rfl (fun _ => C0 rfl) (by simp)) ?_
  rintro _ _ ⟨_, _, _, ⟨bal, rfl, rfl, halk⟩, hF, hH⟩
  (try simp only [nsl, Nat.reduceAdd, Nat.reduceLT, Nat.reduceSub] at hF); (try simp only [nsl, Nat.reduceAdd, Nat.reduceLT, Nat.reduceSub] at hH); subst hF; subst hH
  refine WE ?_
  have ec : cutP V Fs z = if pltF V Fs [z] ≠ 0 then ([], pltF V Fs [z]) else (cutL V Fs z, 0) := rfl
  have eg : sgsP V Fs z = if pltF V Fs [z] ≠ 0 then ([], pltF V Fs [z]) else (sgL V Fs z, 0) := rfl
  generalize cutP V Fs z = cp at ec ⊢
  generalize sgsP V Fs z = gp at eg ⊢
  obtain ⟨cl, ce⟩ := cp
  obtain ⟨gl, ge⟩ := gp
  refine aw_wk (wk_of (K := fun F H => F = [(4, .p 0 0 0), (5, .c (I z)), (6, .c (I y)), (7, .c (.r qc (cl.map Cut6.row))), (8, .c (I ce)), (9, .c (.r qg (gl.map Seg5.row))), (10, .c (I ge)), (11, .c (.r q1 (sidR l))), (12, .c (.r q2 (cloR l))), (13, .c (I (pltF V Fs [z]))), (14, .c (.r qe (sR L))), (15, .c (I (pltF V Fs [z]))), (16, .c (B bal)), (17, .c (I (pltF V Fs [z, y])))] ∧ H = [mBox q w V (fR Fs)]) [some 1] (fun _ => [(4, .p 0 0 0), (5, .c (I z)), (6, .c (I y)), (7, .c (.r qc (cl.map Cut6.row))), (8, .c (I ce)), (9, .c (.r qg (gl.map Seg5.row))), (10, .c (I ge)), (11, .c (.r q1 (sidR l))), (12, .c (.r q2 (cloR l))), (13, .c (I (pltF V Fs [z]))), (14, .c (.r qe (sR L))), (15, .c (I (pltF V Fs [z]))), (16, .c (B bal)), (17, .c (I (pltF V Fs [z, y])))]) (fun _ => [mBox q w V (fR Fs)]) (by decide) (ZNL hE) ZCF ZCH (fun _ => ⟨rfl, rfl⟩)) ?_
  rintro F H ⟨rfl, rfl⟩
  refine aw_cut (fun F H => F = [(4, .p 0 0 0), (5, .c (I z)), (6, .c (I y)), (7, .c (.r qc (cl.map Cut6.row))), (8, .c (I ce)), (9, .c (.r qg (gl.map Seg5.row))), (10, .c (I ge)), (11, .c (.r q1 (sidR l))), (12, .c (.r q2 (cloR l))), (13, .c (I (pltF V Fs [z]))), (14, .c (.r qe (sR L))), (15, .c (I (pltF V Fs [z]))), (16, .c (B bal)), (17, .c (I (pltF V Fs [z, y]))), (18, .c (I (pltF V Fs [z]))), (19, .c (I (pltF V Fs [z, y])))] ∧ H = [mBox q w V (fR Fs)]) ?_ ?_ wk_aw
  · refine ZZ ?_
    refine aw_regionM [[(0, none), (2, none), (7, none), (9, none), (10, none), (1, some [2, 7, 9, 10]), (3, some [0, 7, 9, 10]), (4, some [7, 9, 10]), (5, some [7, 9, 10]), (6, some [7, 9, 10]), (8, some [9, 10]), (11, some [0, 2, 7]), (12, some []), (13, some []), (14, some []), (15, none), (16, none)], [(0, none), (2, none), (7, none), (9, none), (10, none), (1, some [2, 7, 9, 10]), (3, some [0, 7, 9, 10]), (4, some [7, 9, 10]), (5, some [7, 9, 10]), (6, some [7, 9, 10]), (11, some [0, 2, 7]), (8, some [9, 10]), (12, some []), (13, some []), (14, some []), (15, none), (16, none)], [(0, none), (2, none), (7, none), (9, none), (10, none), (1, some [2, 7, 9, 10]), (3, some [0, 7, 9, 10]), (4, some [7, 9, 10]), (5, some [7, 9, 10]), (11, some [0, 2, 7]), (6, some [7, 9, 10]), (8, some [9, 10]), (12, some []), (13, some []), (14, some []), (15, none), (16, none)], [(0, none), (2, none), (7, none), (9, none), (10, none), (1, some [2, 7, 9, 10]), (3, some [0, 7, 9, 10]), (4, some [7, 9, 10]), (11, some [0, 2, 7]), (5, some [7, 9, 10]), (6, some [7, 9, 10]), (8, some [9, 10]), (12, some []), (13, some []), (14, some []), (15, none), (16, none)], [(0, none), (2, none), (7, none), (9, none), (10, none), (1, some [2, 7, 9, 10]), (3, some [0, 7, 9, 10]), (11, some [0, 2, 7]), (4, some [7, 9, 10]), (5, some [7, 9, 10]), (6, some [7, 9, 10]), (8, some [9, 10]), (12, some []), (13, some []), (14, some []), (15, none), (16, none)], [(0, none), (2, none), (7, none), (9, none), (10, none), (1, some [2, 7, 9, 10]), (11, some [0, 2, 7]), (3, some [0, 7, 9, 10]), (4, some [7, 9, 10]), (5, some [7, 9, 10]), (6, some [7, 9, 10]), (8, some [9, 10]), (12, some []), (13, some []), (14, some []), (15, none), (16, none)], [(0, none), (2, none), (7, none), (9, none), (10, none), (3, some [0, 7, 9, 10]), (1, some [2, 7, 9, 10]), (4, some [7, 9, 10]), (5, some [7, 9, 10]), (6, some [7, 9, 10]), (8, some [9, 10]), (11, some [0, 2, 7]), (12, some []), (13, some []), (14, some []), (15, none), (16, none)], [(0, none), (2, none), (7, none), (9, none), (10, none), (3, some [0, 7, 9, 10]), (1, some [2, 7, 9, 10]), (4, some [7, 9, 10]), (5, some [7, 9, 10]), (6, some [7, 9, 10]), (11, some [0, 2, 7]), (8, some [9, 10]), (12, some []), (13, some []), (14, some []), (15, none), (16, none)], [(0, none), (2, none), (7, none), (9, none), (10, none), (3, some [0, 7, 9, 10]), (1, some [2, 7, 9, 10]), (4, some [7, 9, 10]), (5, some [7, 9, 10]), (11, some [0, 2, 7]), (6, some [7, 9, 10]), (8, some [9, 10]), (12, some []), (13, some []), (14, some []), (15, none), (16, none)], [(0, none), (2, none), (7, none), (9, none), (10, none), (3, some [0, 7, 9, 10]), (1, some [2, 7, 9, 10]), (4, some [7, 9, 10]), (11, some [0, 2, 7]), (5, some [7, 9, 10]), (6, some [7, 9, 10]), (8, some [9, 10]), (12, some []), (13, some []), (14, some []), (15, none), (16, none)], [(0, none), (2, none), (7, none), (9, none), (10, none), (3, some [0, 7, 9, 10]), (1, some [2, 7, 9, 10]), (11, some [0, 2, 7]), (4, some [7, 9, 10]), (5, some [7, 9, 10]), (6, some [7, 9, 10]), (8, some [9, 10]), (12, some []), (13, some []), (14, some []), (15, none), (16, none)], [(0, none), (2, none), (7, none), (9, none), (10, none), (3, some [0, 7, 9, 10]), (11, some [0, 2, 7]), (1, some [2, 7, 9, 10]), (4, some [7, 9, 10]), (5, some [7, 9, 10]), (6, some [7, 9, 10]), (8, some [9, 10]), (12, some []), (13, some []), (14, some []), (15, none), (16, none)], [(0, none), (2, none), (7, none), (9, none), (10, none), (11, some [0, 2, 7]), (1, some [2, 7, 9, 10]), (3, some [0, 7, 9, 10]), (4, some [7, 9, 10]), (5, some [7, 9, 10]), (6, some [7, 9, 10]), (8, some [9, 10]), (12, some []), (13, some []), (14, some []), (15, none), (16, none)], [(0, none), (2, none), (7, none), (9, none), (10, none), (11, some [0, 2, 7]), (3, some [0, 7, 9, 10]), (1, some [2, 7, 9, 10]), (4, some [7, 9, 10]), (5, some [7, 9, 10]), (6, some [7, 9, 10]), (8, some [9, 10]), (12, some []), (13, some []), (14, some []), (15, none), (16, none)]] hMixed (by kernel_rfl) ?_
    focus
      refine WM ?_
      refine am_three (by rfl) (by rfl) (by rfl) (by rfl) ?_ ?_ ?_
      rotate_left 2
      refine WM ?_
      refine am_two (by rfl) (by rfl) (by rfl) ?_ ?_
      rotate_left
      refine WM ?_
      refine am_ef (i := 1) (by rfl) (by rfl) rfl rfl (ef_call0 false (fun _ => rmshF_v q w V Fs (by omega) (by omega)) rfl .fn rfl (by decide) (by kernel_rfl) rfl (fun _ => C0 rfl) (by simp)) ?_
      rintro _ _ ⟨_, _, _, ⟨rfl, rfl⟩, hF, hH⟩
      (try simp only [nsl, Nat.reduceAdd, Nat.reduceLT, Nat.reduceSub] at hF); (try simp only [nsl, Nat.reduceAdd, Nat.reduceLT, Nat.reduceSub] at hH); subst hF; subst hH
      refine ⟨AGX, ?_⟩
      refine am_ef (i := 4) (by rfl) (by rfl) rfl rfl (ef_call0 true (fun g => planef_v [z] (g (.o _ 0 1 1)) (by simp)) rfl .fn rfl (by decide) (by kernel_rfl) rfl (fun _ => .cons (.frz rfl rfl rfl rfl rfl) .nil) (fun _ _ _ _ ⟨hu, hH⟩ => by rw [hu, hH]; exact ⟨.c (.inl trivial), by simp⟩)) ?_
      rintro _ _ ⟨_, _, _, ⟨rfl, rfl⟩, hF, hH⟩
      (try simp only [nsl, Nat.reduceAdd, Nat.reduceLT, Nat.reduceSub] at hF); (try simp only [nsl, Nat.reduceAdd, Nat.reduceLT, Nat.reduceSub] at hH); subst hF; subst hH
      refine ⟨AGX, ?_⟩
      refine WM ?_
      refine am_ef (i := 6) (by rfl) (by rfl) rfl rfl (ef_call0 true (fun g => errs_v [mshF V Fs, plnF [z]] (g (.o _ 0 2 2)) (by simp)) rfl .fn rfl (by decide) (by kernel_rfl) rfl (fun _ => .cons (.frz rfl rfl rfl rfl rfl) .nil) (fun _ _ _ _ ⟨hu, hH⟩ => by rw [hu, hH]; exact ⟨.c (.inl trivial), by simp⟩)) ?_
      rintro _ _ ⟨_, _, _, ⟨rfl, rfl⟩, hF, hH⟩
      (try simp only [nsl, Nat.reduceAdd, Nat.reduceLT, Nat.reduceSub] at hF); (try simp only [nsl, Nat.reduceAdd, Nat.reduceLT, Nat.reduceSub] at hH); subst hF; subst hH
      refine ⟨AGX, ?_⟩
      refine am_ef (i := 8) (by rfl) (by rfl) rfl rfl (ef_call0 false (fun _ => rmshF_v q w V Fs (by omega) (by omega)) rfl .fn rfl (by decide) (by kernel_rfl) rfl (fun _ => C0 rfl) (by simp)) ?_
      rintro _ _ ⟨_, _, _, ⟨rfl, rfl⟩, hF, hH⟩
      (try simp only [nsl, Nat.reduceAdd, Nat.reduceLT, Nat.reduceSub] at hF); (try simp only [nsl, Nat.reduceAdd, Nat.reduceLT, Nat.reduceSub] at hH); subst hF; subst hH
      refine ⟨AGX, ?_⟩
      refine am_ef (i := 12) (by rfl) (by rfl) rfl rfl (ef_call0 true (fun g => planef_v [z, y] (g (.o _ 0 2 2)) (by simp)) rfl .fn rfl (by decide) (by kernel_rfl) rfl (fun _ => .cons (.frz rfl rfl rfl rfl rfl) .nil) (fun _ _ _ _ ⟨hu, hH⟩ => by rw [hu, hH]; exact ⟨.c (.inl trivial), by simp⟩)) ?_
      rintro _ _ ⟨_, _, _, ⟨rfl, rfl⟩, hF, hH⟩
      (try simp only [nsl, Nat.reduceAdd, Nat.reduceLT, Nat.reduceSub] at hF); (try simp only [nsl, Nat.reduceAdd, Nat.reduceLT, Nat.reduceSub] at hH); subst hF; subst hH
      refine ⟨AGX, ?_⟩
      refine WM ?_
      refine am_ef (i := 14) (by rfl) (by rfl) rfl rfl (ef_call0 true (fun g => errs_v [mshF V Fs, plnF [z, y]] (g (.o _ 0 2 2)) (by simp)) rfl .fn rfl (by decide) (by kernel_rfl) rfl (fun _ => .cons (.frz rfl rfl rfl rfl rfl) .nil) (fun _ _ _ _ ⟨hu, hH⟩ => by rw [hu, hH]; exact ⟨.c (.inl trivial), by simp⟩)) ?_
      rintro _ _ ⟨_, _, _, ⟨rfl, rfl⟩, hF, hH⟩
      (try simp only [nsl, Nat.reduceAdd, Nat.reduceLT, Nat.reduceSub] at hF); (try simp only [nsl, Nat.reduceAdd, Nat.reduceLT, Nat.reduceSub] at hH); subst hF; subst hH
      refine ⟨AGX, ?_⟩
      refine WN ?_
      rotate_right
      refine am_ef (i := 1) (by rfl) (by rfl) rfl rfl (ef_call0 false (fun _ => rmshF_v q w V Fs (by omega) (by omega)) rfl .fn rfl (by decide) (by kernel_rfl) rfl (fun _ => C0 rfl) (by simp)) ?_
      rintro _ _ ⟨_, _, _, ⟨rfl, rfl⟩, hF, hH⟩
      (try simp only [nsl, Nat.reduceAdd, Nat.reduceLT, Nat.reduceSub] at hF); (try simp only [nsl, Nat.reduceAdd, Nat.reduceLT, Nat.reduceSub] at hH); subst hF; subst hH
      refine ⟨AGX, ?_⟩
      refine WM ?_
      refine am_ef (i := 4) (by rfl) (by rfl) rfl rfl (ef_call0 true (fun g => planef_v [z] (g (.o _ 0 1 1)) (by simp)) rfl .fn rfl (by decide) (by kernel_rfl) rfl (fun _ => .cons (.frz rfl rfl rfl rfl rfl) .nil) (fun _ _ _ _ ⟨hu, hH⟩ => by rw [hu, hH]; exact ⟨.c (.inl trivial), by simp⟩)) ?_
      rintro _ _ ⟨_, _, _, ⟨rfl, rfl⟩, hF, hH⟩
      (try simp only [nsl, Nat.reduceAdd, Nat.reduceLT, Nat.reduceSub] at hF); (try simp only [nsl, Nat.reduceAdd, Nat.reduceLT, Nat.reduceSub] at hH); subst hF; subst hH
      refine ⟨AGX, ?_⟩
      refine WM ?_
      refine am_ef (i := 6) (by rfl) (by rfl) rfl rfl (ef_call0 true (fun g => errs_v [mshF V Fs, plnF [z]] (g (.o _ 0 2 2)) (by simp)) rfl .fn rfl (by decide) (by kernel_rfl) rfl (fun _ => .cons (.frz rfl rfl rfl rfl rfl) .nil) (fun _ _ _ _ ⟨hu, hH⟩ => by rw [hu, hH]; exact ⟨.c (.inl trivial), by simp⟩)) ?_
      rintro _ _ ⟨_, _, _, ⟨rfl, rfl⟩, hF, hH⟩
      (try simp only [nsl, Nat.reduceAdd, Nat.reduceLT, Nat.reduceSub] at hF); (try simp only [nsl, Nat.reduceAdd, Nat.reduceLT, Nat.reduceSub] at hH); subst hF; subst hH
      refine ⟨AGX, ?_⟩
      refine am_ef (i := 8) (by rfl) (by rfl) rfl rfl (ef_call0 false (fun _ => rmshF_v q w V Fs (by omega) (by omega)) rfl .fn rfl (by decide) (by kernel_rfl) rfl (fun _ => C0 rfl) (by simp)) ?_
      rintro _ _ ⟨_, _, _, ⟨rfl, rfl⟩, hF, hH⟩
      (try simp only [nsl, Nat.reduceAdd, Nat.reduceLT, Nat.reduceSub] at hF); (try simp only [nsl, Nat.reduceAdd, Nat.reduceLT, Nat.reduceSub] at hH); subst hF; subst hH
      refine ⟨AGX, ?_⟩
      refine am_ef (i := 12) (by rfl) (by rfl) rfl rfl (ef_call0 true (fun g => planef_v [z, y] (g (.o _ 0 2 2)) (by simp)) rfl .fn rfl (by decide) (by kernel_rfl) rfl (fun _ => .cons (.frz rfl rfl rfl rfl rfl) .nil) (fun _ _ _ _ ⟨hu, hH⟩ => by rw [hu, hH]; exact ⟨.c (.inl trivial), by simp⟩)) ?_
      rintro _ _ ⟨_, _, _, ⟨rfl, rfl⟩, hF, hH⟩
      (try simp only [nsl, Nat.reduceAdd, Nat.reduceLT, Nat.reduceSub] at hF); (try simp only [nsl, Nat.reduceAdd, Nat.reduceLT, Nat.reduceSub] at hH); subst hF; subst hH
      refine ⟨AGX, ?_⟩
      refine WM ?_
      refine am_ef (i := 14) (by rfl) (by rfl) rfl rfl (ef_call0 true (fun g => errs_v [mshF V Fs, plnF [z, y]] (g (.o _ 0 2 2)) (by simp)) rfl .fn rfl (by decide) (by kernel_rfl) rfl (fun _ => .cons (.frz rfl rfl rfl rfl rfl) .nil) (fun _ _ _ _ ⟨hu, hH⟩ => by rw [hu, hH]; exact ⟨.c (.inl trivial), by simp⟩)) ?_
      rintro _ _ ⟨_, _, _, ⟨rfl, rfl⟩, hF, hH⟩
      (try simp only [nsl, Nat.reduceAdd, Nat.reduceLT, Nat.reduceSub] at hF); (try simp only [nsl, Nat.reduceAdd, Nat.reduceLT, Nat.reduceSub] at hH); subst hF; subst hH
      refine ⟨AGX, ?_⟩
      refine WN ?_
      rotate_right
      refine WM ?_
      refine am_two (by rfl) (by rfl) (by rfl) ?_ ?_
      rotate_left
      refine WM ?_
      refine am_ef (i := 1) (by rfl) (by rfl) rfl rfl (ef_call0 false (fun _ => rmshF_v q w V Fs (by omega) (by omega)) rfl .fn rfl (by decide) (by kernel_rfl) rfl (fun _ => C0 rfl) (by simp)) ?_
      rintro _ _ ⟨_, _, _, ⟨rfl, rfl⟩, hF, hH⟩
      (try simp only [nsl, Nat.reduceAdd, Nat.reduceLT, Nat.reduceSub] at hF); (try simp only [nsl, Nat.reduceAdd, Nat.reduceLT, Nat.reduceSub] at hH); subst hF; subst hH
      refine ⟨AGX, ?_⟩
      refine am_ef (i := 4) (by rfl) (by rfl) rfl rfl (ef_call0 true (fun g => planef_v [z] (g (.o _ 0 1 1)) (by simp)) rfl .fn rfl (by decide) (by kernel_rfl) rfl (fun _ => .cons (.frz rfl rfl rfl rfl rfl) .nil) (fun _ _ _ _ ⟨hu, hH⟩ => by rw [hu, hH]; exact ⟨.c (.inl trivial), by simp⟩)) ?_
      rintro _ _ ⟨_, _, _, ⟨rfl, rfl⟩, hF, hH⟩
      (try simp only [nsl, Nat.reduceAdd, Nat.reduceLT, Nat.reduceSub] at hF); (try simp only [nsl, Nat.reduceAdd, Nat.reduceLT, Nat.reduceSub] at hH); subst hF; subst hH
      refine ⟨AGX, ?_⟩
      refine WM ?_
      refine am_ef (i := 6) (by rfl) (by rfl) rfl rfl (ef_call0 true (fun g => errs_v [mshF V Fs, plnF [z]] (g (.o _ 0 2 2)) (by simp)) rfl .fn rfl (by decide) (by kernel_rfl) rfl (fun _ => .cons (.frz rfl rfl rfl rfl rfl) .nil) (fun _ _ _ _ ⟨hu, hH⟩ => by rw [hu, hH]; exact ⟨.c (.inl trivial), by simp⟩)) ?_
      rintro _ _ ⟨_, _, _, ⟨rfl, rfl⟩, hF, hH⟩
      (try simp only [nsl, Nat.reduceAdd, Nat.reduceLT, Nat.reduceSub] at hF); (try simp only [nsl, Nat.reduceAdd, Nat.reduceLT, Nat.reduceSub] at hH); subst hF; subst hH
      refine ⟨AGX, ?_⟩
      refine am_ef (i := 8) (by rfl) (by rfl) rfl rfl (ef_call0 false (fun _ => rmshF_v q w V Fs (by omega) (by omega)) rfl .fn rfl (by decide) (by kernel_rfl) rfl (fun _ => C0 rfl) (by simp)) ?_
      rintro _ _ ⟨_, _, _, ⟨rfl, rfl⟩, hF, hH⟩
      (try simp only [nsl, Nat.reduceAdd, Nat.reduceLT, Nat.reduceSub] at hF); (try simp only [nsl, Nat.reduceAdd, Nat.reduceLT, Nat.reduceSub] at hH); subst hF; subst hH
      refine ⟨AGX, ?_⟩
      refine am_ef (i := 12) (by rfl) (by rfl) rfl rfl (ef_call0 true (fun g => planef_v [z, y] (g (.o _ 0 2 2)) (by simp)) rfl .fn rfl (by decide) (by kernel_rfl) rfl (fun _ => .cons (.frz rfl rfl rfl rfl rfl) .nil) (fun _ _ _ _ ⟨hu, hH⟩ => by rw [hu, hH]; exact ⟨.c (.inl trivial), by simp⟩)) ?_
      rintro _ _ ⟨_, _, _, ⟨rfl, rfl⟩, hF, hH⟩
      (try simp only [nsl, Nat.reduceAdd, Nat.reduceLT, Nat.reduceSub] at hF); (try simp only [nsl, Nat.reduceAdd, Nat.reduceLT, Nat.reduceSub] at hH); subst hF; subst hH
      refine ⟨AGX, ?_⟩
      refine WM ?_
      refine am_ef (i := 14) (by rfl) (by rfl) rfl rfl (ef_call0 true (fun g => errs_v [mshF V Fs, plnF [z, y]] (g (.o _ 0 2 2)) (by simp)) rfl .fn rfl (by decide) (by kernel_rfl) rfl (fun _ => .cons (.frz rfl rfl rfl rfl rfl) .nil) (fun _ _ _ _ ⟨hu, hH⟩ => by rw [hu, hH]; exact ⟨.c (.inl trivial), by simp⟩)) ?_
      rintro _ _ ⟨_, _, _, ⟨rfl, rfl⟩, hF, hH⟩
      (try simp only [nsl, Nat.reduceAdd, Nat.reduceLT, Nat.reduceSub] at hF); (try simp only [nsl, Nat.reduceAdd, Nat.reduceLT, Nat.reduceSub] at hH); subst hF; subst hH
      refine ⟨AGX, ?_⟩
      refine WN ?_
      rotate_right
      refine am_ef (i := 1) (by rfl) (by rfl) rfl rfl (ef_call0 false (fun _ => rmshF_v q w V Fs (by omega) (by omega)) rfl .fn rfl (by decide) (by kernel_rfl) rfl (fun _ => C0 rfl) (by simp)) ?_
      rintro _ _ ⟨_, _, _, ⟨rfl, rfl⟩, hF, hH⟩
      (try simp only [nsl, Nat.reduceAdd, Nat.reduceLT, Nat.reduceSub] at hF); (try simp only [nsl, Nat.reduceAdd, Nat.reduceLT, Nat.reduceSub] at hH); subst hF; subst hH
      refine ⟨AGX, ?_⟩
      refine am_two (by rfl) (by rfl) (by rfl) ?_ ?_
      rotate_left
      refine WM ?_
      refine am_ef (i := 4) (by rfl) (by rfl) rfl rfl (ef_call0 true (fun g => planef_v [z] (g (.o _ 0 1 1)) (by simp)) rfl .fn rfl (by decide) (by kernel_rfl) rfl (fun _ => .cons (.frz rfl rfl rfl rfl rfl) .nil) (fun _ _ _ _ ⟨hu, hH⟩ => by rw [hu, hH]; exact ⟨.c (.inl trivial), by simp⟩)) ?_
      rintro _ _ ⟨_, _, _, ⟨rfl, rfl⟩, hF, hH⟩
      (try simp only [nsl, Nat.reduceAdd, Nat.reduceLT, Nat.reduceSub] at hF); (try simp only [nsl, Nat.reduceAdd, Nat.reduceLT, Nat.reduceSub] at hH); subst hF; subst hH
      refine ⟨AGX, ?_⟩
      refine WM ?_
      refine am_ef (i := 6) (by rfl) (by rfl) rfl rfl (ef_call0 true (fun g => errs_v [mshF V Fs, plnF [z]] (g (.o _ 0 2 2)) (by simp)) rfl .fn rfl (by decide) (by kernel_rfl) rfl (fun _ => .cons (.frz rfl rfl rfl rfl rfl) .nil) (fun _ _ _ _ ⟨hu, hH⟩ => by rw [hu, hH]; exact ⟨.c (.inl trivial), by simp⟩)) ?_
      rintro _ _ ⟨_, _, _, ⟨rfl, rfl⟩, hF, hH⟩
      (try simp only [nsl, Nat.reduceAdd, Nat.reduceLT, Nat.reduceSub] at hF); (try simp only [nsl, Nat.reduceAdd, Nat.reduceLT, Nat.reduceSub] at hH); subst hF; subst hH
      refine ⟨AGX, ?_⟩
      refine am_ef (i := 8) (by rfl) (by rfl) rfl rfl (ef_call0 false (fun _ => rmshF_v q w V Fs (by omega) (by omega)) rfl .fn rfl (by decide) (by kernel_rfl) rfl (fun _ => C0 rfl) (by simp)) ?_
      rintro _ _ ⟨_, _, _, ⟨rfl, rfl⟩, hF, hH⟩
      (try simp only [nsl, Nat.reduceAdd, Nat.reduceLT, Nat.reduceSub] at hF); (try simp only [nsl, Nat.reduceAdd, Nat.reduceLT, Nat.reduceSub] at hH); subst hF; subst hH
      refine ⟨AGX, ?_⟩
      refine am_ef (i := 12) (by rfl) (by rfl) rfl rfl (ef_call0 true (fun g => planef_v [z, y] (g (.o _ 0 2 2)) (by simp)) rfl .fn rfl (by decide) (by kernel_rfl) rfl (fun _ => .cons (.frz rfl rfl rfl rfl rfl) .nil) (fun _ _ _ _ ⟨hu, hH⟩ => by rw [hu, hH]; exact ⟨.c (.inl trivial), by simp⟩)) ?_
      rintro _ _ ⟨_, _, _, ⟨rfl, rfl⟩, hF, hH⟩
      (try simp only [nsl, Nat.reduceAdd, Nat.reduceLT, Nat.reduceSub] at hF); (try simp only [nsl, Nat.reduceAdd, Nat.reduceLT, Nat.reduceSub] at hH); subst hF; subst hH
      refine ⟨AGX, ?_⟩
      refine WM ?_
      refine am_ef (i := 14) (by rfl) (by rfl) rfl rfl (ef_call0 true (fun g => errs_v [mshF V Fs, plnF [z, y]] (g (.o _ 0 2 2)) (by simp)) rfl .fn rfl (by decide) (by kernel_rfl) rfl (fun _ => .cons (.frz rfl rfl rfl rfl rfl) .nil) (fun _ _ _ _ ⟨hu, hH⟩ => by rw [hu, hH]; exact ⟨.c (.inl trivial), by simp⟩)) ?_
      rintro _ _ ⟨_, _, _, ⟨rfl, rfl⟩, hF, hH⟩
      (try simp only [nsl, Nat.reduceAdd, Nat.reduceLT, Nat.reduceSub] at hF); (try simp only [nsl, Nat.reduceAdd, Nat.reduceLT, Nat.reduceSub] at hH); subst hF; subst hH
      refine ⟨AGX, ?_⟩
      refine WN ?_
      rotate_right
      refine am_ef (i := 4) (by rfl) (by rfl) rfl rfl (ef_call0 true (fun g => planef_v [z] (g (.o _ 0 1 1)) (by simp)) rfl .fn rfl (by decide) (by kernel_rfl) rfl (fun _ => .cons (.frz rfl rfl rfl rfl rfl) .nil) (fun _ _ _ _ ⟨hu, hH⟩ => by rw [hu, hH]; exact ⟨.c (.inl trivial), by simp⟩)) ?_
      rintro _ _ ⟨_, _, _, ⟨rfl, rfl⟩, hF, hH⟩
      (try simp only [nsl, Nat.reduceAdd, Nat.reduceLT, Nat.reduceSub] at hF); (try simp only [nsl, Nat.reduceAdd, Nat.reduceLT, Nat.reduceSub] at hH); subst hF; subst hH
      refine ⟨AGX, ?_⟩
      refine am_two (by rfl) (by rfl) (by rfl) ?_ ?_
      rotate_left
      refine WM ?_
      refine am_ef (i := 6) (by rfl) (by rfl) rfl rfl (ef_call0 true (fun g => errs_v [mshF V Fs, plnF [z]] (g (.o _ 0 2 2)) (by simp)) rfl .fn rfl (by decide) (by kernel_rfl) rfl (fun _ => .cons (.frz rfl rfl rfl rfl rfl) .nil) (fun _ _ _ _ ⟨hu, hH⟩ => by rw [hu, hH]; exact ⟨.c (.inl trivial), by simp⟩)) ?_
      rintro _ _ ⟨_, _, _, ⟨rfl, rfl⟩, hF, hH⟩
      (try simp only [nsl, Nat.reduceAdd, Nat.reduceLT, Nat.reduceSub] at hF); (try simp only [nsl, Nat.reduceAdd, Nat.reduceLT, Nat.reduceSub] at hH); subst hF; subst hH
      refine ⟨AGX, ?_⟩
      refine am_ef (i := 8) (by rfl) (by rfl) rfl rfl (ef_call0 false (fun _ => rmshF_v q w V Fs (by omega) (by omega)) rfl .fn rfl (by decide) (by kernel_rfl) rfl (fun _ => C0 rfl) (by simp)) ?_
      rintro _ _ ⟨_, _, _, ⟨rfl, rfl⟩, hF, hH⟩
      (try simp only [nsl, Nat.reduceAdd, Nat.reduceLT, Nat.reduceSub] at hF); (try simp only [nsl, Nat.reduceAdd, Nat.reduceLT, Nat.reduceSub] at hH); subst hF; subst hH
      refine ⟨AGX, ?_⟩
      refine am_ef (i := 12) (by rfl) (by rfl) rfl rfl (ef_call0 true (fun g => planef_v [z, y] (g (.o _ 0 2 2)) (by simp)) rfl .fn rfl (by decide) (by kernel_rfl) rfl (fun _ => .cons (.frz rfl rfl rfl rfl rfl) .nil) (fun _ _ _ _ ⟨hu, hH⟩ => by rw [hu, hH]; exact ⟨.c (.inl trivial), by simp⟩)) ?_
      rintro _ _ ⟨_, _, _, ⟨rfl, rfl⟩, hF, hH⟩
      (try simp only [nsl, Nat.reduceAdd, Nat.reduceLT, Nat.reduceSub] at hF); (try simp only [nsl, Nat.reduceAdd, Nat.reduceLT, Nat.reduceSub] at hH); subst hF; subst hH
      refine ⟨AGX, ?_⟩
      refine WM ?_
      refine am_ef (i := 14) (by rfl) (by rfl) rfl rfl (ef_call0 true (fun g => errs_v [mshF V Fs, plnF [z, y]] (g (.o _ 0 2 2)) (by simp)) rfl .fn rfl (by decide) (by kernel_rfl) rfl (fun _ => .cons (.frz rfl rfl rfl rfl rfl) .nil) (fun _ _ _ _ ⟨hu, hH⟩ => by rw [hu, hH]; exact ⟨.c (.inl trivial), by simp⟩)) ?_
      rintro _ _ ⟨_, _, _, ⟨rfl, rfl⟩, hF, hH⟩
      (try simp only [nsl, Nat.reduceAdd, Nat.reduceLT, Nat.reduceSub] at hF); (try simp only [nsl, Nat.reduceAdd, Nat.reduceLT, Nat.reduceSub] at hH); subst hF; subst hH
      refine ⟨AGX, ?_⟩
      refine WN ?_
      rotate_right
      refine WM ?_
      refine am_two (by rfl) (by rfl) (by rfl) ?_ ?_
      rotate_left
      refine WM ?_
      refine am_ef (i := 6) (by rfl) (by rfl) rfl rfl (ef_call0 true (fun g => errs_v [mshF V Fs, plnF [z]] (g (.o _ 0 2 2)) (by simp)) rfl .fn rfl (by decide) (by kernel_rfl) rfl (fun _ => .cons (.frz rfl rfl rfl rfl rfl) .nil) (fun _ _ _ _ ⟨hu, hH⟩ => by rw [hu, hH]; exact ⟨.c (.inl trivial), by simp⟩)) ?_
      rintro _ _ ⟨_, _, _, ⟨rfl, rfl⟩, hF, hH⟩
      (try simp only [nsl, Nat.reduceAdd, Nat.reduceLT, Nat.reduceSub] at hF); (try simp only [nsl, Nat.reduceAdd, Nat.reduceLT, Nat.reduceSub] at hH); subst hF; subst hH
      refine ⟨AGX, ?_⟩
      refine am_ef (i := 8) (by rfl) (by rfl) rfl rfl (ef_call0 false (fun _ => rmshF_v q w V Fs (by omega) (by omega)) rfl .fn rfl (by decide) (by kernel_rfl) rfl (fun _ => C0 rfl) (by simp)) ?_
      rintro _ _ ⟨_, _, _, ⟨rfl, rfl⟩, hF, hH⟩
      (try simp only [nsl, Nat.reduceAdd, Nat.reduceLT, Nat.reduceSub] at hF); (try simp only [nsl, Nat.reduceAdd, Nat.reduceLT, Nat.reduceSub] at hH); subst hF; subst hH
      refine ⟨AGX, ?_⟩
      refine am_ef (i := 12) (by rfl) (by rfl) rfl rfl (ef_call0 true (fun g => planef_v [z, y] (g (.o _ 0 2 2)) (by simp)) rfl .fn rfl (by decide) (by kernel_rfl) rfl (fun _ => .cons (.frz rfl rfl rfl rfl rfl) .nil) (fun _ _ _ _ ⟨hu, hH⟩ => by rw [hu, hH]; exact ⟨.c (.inl trivial), by simp⟩)) ?_
      rintro _ _ ⟨_, _, _, ⟨rfl, rfl⟩, hF, hH⟩
      (try simp only [nsl, Nat.reduceAdd, Nat.reduceLT, Nat.reduceSub] at hF); (try simp only [nsl, Nat.reduceAdd, Nat.reduceLT, Nat.reduceSub] at hH); subst hF; subst hH
      refine ⟨AGX, ?_⟩
      refine WM ?_
      refine am_ef (i := 14) (by rfl) (by rfl) rfl rfl (ef_call0 true (fun g => errs_v [mshF V Fs, plnF [z, y]] (g (.o _ 0 2 2)) (by simp)) rfl .fn rfl (by decide) (by kernel_rfl) rfl (fun _ => .cons (.frz rfl rfl rfl rfl rfl) .nil) (fun _ _ _ _ ⟨hu, hH⟩ => by rw [hu, hH]; exact ⟨.c (.inl trivial), by simp⟩)) ?_
      rintro _ _ ⟨_, _, _, ⟨rfl, rfl⟩, hF, hH⟩
      (try simp only [nsl, Nat.reduceAdd, Nat.reduceLT, Nat.reduceSub] at hF); (try simp only [nsl, Nat.reduceAdd, Nat.reduceLT, Nat.reduceSub] at hH); subst hF; subst hH
      refine ⟨AGX, ?_⟩
      refine WN ?_
      rotate_right
      refine am_ef (i := 6) (by rfl) (by rfl) rfl rfl (ef_call0 true (fun g => errs_v [mshF V Fs, plnF [z]] (g (.o _ 0 2 2)) (by simp)) rfl .fn rfl (by decide) (by kernel_rfl) rfl (fun _ => .cons (.frz rfl rfl rfl rfl rfl) .nil) (fun _ _ _ _ ⟨hu, hH⟩ => by rw [hu, hH]; exact ⟨.c (.inl trivial), by simp⟩)) ?_
      rintro _ _ ⟨_, _, _, ⟨rfl, rfl⟩, hF, hH⟩
      (try simp only [nsl, Nat.reduceAdd, Nat.reduceLT, Nat.reduceSub] at hF); (try simp only [nsl, Nat.reduceAdd, Nat.reduceLT, Nat.reduceSub] at hH); subst hF; subst hH
      refine ⟨AGX, ?_⟩
      refine am_two (by rfl) (by rfl) (by rfl) ?_ ?_
      rotate_left
      refine WM ?_
      refine am_ef (i := 8) (by rfl) (by rfl) rfl rfl (ef_call0 false (fun _ => rmshF_v q w V Fs (by omega) (by omega)) rfl .fn rfl (by decide) (by kernel_rfl) rfl (fun _ => C0 rfl) (by simp)) ?_
      rintro _ _ ⟨_, _, _, ⟨rfl, rfl⟩, hF, hH⟩
      (try simp only [nsl, Nat.reduceAdd, Nat.reduceLT, Nat.reduceSub] at hF); (try simp only [nsl, Nat.reduceAdd, Nat.reduceLT, Nat.reduceSub] at hH); subst hF; subst hH
      refine ⟨AGX, ?_⟩
      refine am_ef (i := 12) (by rfl) (by rfl) rfl rfl (ef_call0 true (fun g => planef_v [z, y] (g (.o _ 0 2 2)) (by simp)) rfl .fn rfl (by decide) (by kernel_rfl) rfl (fun _ => .cons (.frz rfl rfl rfl rfl rfl) .nil) (fun _ _ _ _ ⟨hu, hH⟩ => by rw [hu, hH]; exact ⟨.c (.inl trivial), by simp⟩)) ?_
      rintro _ _ ⟨_, _, _, ⟨rfl, rfl⟩, hF, hH⟩
      (try simp only [nsl, Nat.reduceAdd, Nat.reduceLT, Nat.reduceSub] at hF); (try simp only [nsl, Nat.reduceAdd, Nat.reduceLT, Nat.reduceSub] at hH); subst hF; subst hH
      refine ⟨AGX, ?_⟩
      refine WM ?_
      refine am_ef (i := 14) (by rfl) (by rfl) rfl rfl (ef_call0 true (fun g => errs_v [mshF V Fs, plnF [z, y]] (g (.o _ 0 2 2)) (by simp)) rfl .fn rfl (by decide) (by kernel_rfl) rfl (fun _ => .cons (.frz rfl rfl rfl rfl rfl) .nil) (fun _ _ _ _ ⟨hu, hH⟩ => by rw [hu, hH]; exact ⟨.c (.inl trivial), by simp⟩)) ?_
      rintro _ _ ⟨_, _, _, ⟨rfl, rfl⟩, hF, hH⟩
      (try simp only [nsl, Nat.reduceAdd, Nat.reduceLT, Nat.reduceSub] at hF); (try simp only [nsl, Nat.reduceAdd, Nat.reduceLT, Nat.reduceSub] at hH); subst hF; subst hH
      refine ⟨AGX, ?_⟩
      refine WN ?_
      rotate_right
      refine am_ef (i := 8) (by rfl) (by rfl) rfl rfl (ef_call0 false (fun _ => rmshF_v q w V Fs (by omega) (by omega)) rfl .fn rfl (by decide) (by kernel_rfl) rfl (fun _ => C0 rfl) (by simp)) ?_
      rintro _ _ ⟨_, _, _, ⟨rfl, rfl⟩, hF, hH⟩
      (try simp only [nsl, Nat.reduceAdd, Nat.reduceLT, Nat.reduceSub] at hF); (try simp only [nsl, Nat.reduceAdd, Nat.reduceLT, Nat.reduceSub] at hH); subst hF; subst hH
      refine ⟨AGX, ?_⟩
      refine WM ?_
      refine am_ef (i := 12) (by rfl) (by rfl) rfl rfl (ef_call0 true (fun g => planef_v [z, y] (g (.o _ 0 2 2)) (by simp)) rfl .fn rfl (by decide) (by kernel_rfl) rfl (fun _ => .cons (.frz rfl rfl rfl rfl rfl) .nil) (fun _ _ _ _ ⟨hu, hH⟩ => by rw [hu, hH]; exact ⟨.c (.inl trivial), by simp⟩)) ?_
      rintro _ _ ⟨_, _, _, ⟨rfl, rfl⟩, hF, hH⟩
      (try simp only [nsl, Nat.reduceAdd, Nat.reduceLT, Nat.reduceSub] at hF); (try simp only [nsl, Nat.reduceAdd, Nat.reduceLT, Nat.reduceSub] at hH); subst hF; subst hH
      refine ⟨AGX, ?_⟩
      refine WM ?_
      refine am_ef (i := 14) (by rfl) (by rfl) rfl rfl (ef_call0 true (fun g => errs_v [mshF V Fs, plnF [z, y]] (g (.o _ 0 2 2)) (by simp)) rfl .fn rfl (by decide) (by kernel_rfl) rfl (fun _ => .cons (.frz rfl rfl rfl rfl rfl) .nil) (fun _ _ _ _ ⟨hu, hH⟩ => by rw [hu, hH]; exact ⟨.c (.inl trivial), by simp⟩)) ?_
      rintro _ _ ⟨_, _, _, ⟨rfl, rfl⟩, hF, hH⟩
      (try simp only [nsl, Nat.reduceAdd, Nat.reduceLT, Nat.reduceSub] at hF); (try simp only [nsl, Nat.reduceAdd, Nat.reduceLT, Nat.reduceSub] at hH); subst hF; subst hH
      refine ⟨AGX, ?_⟩
      refine WN ?_
      rotate_right
      refine am_ef (i := 1) (by rfl) (by rfl) rfl rfl (ef_call0 false (fun _ => rmshF_v q w V Fs (by omega) (by omega)) rfl .fn rfl (by decide) (by kernel_rfl) rfl (fun _ => C0 rfl) (by simp)) ?_
      rintro _ _ ⟨_, _, _, ⟨rfl, rfl⟩, hF, hH⟩
      (try simp only [nsl, Nat.reduceAdd, Nat.reduceLT, Nat.reduceSub] at hF); (try simp only [nsl, Nat.reduceAdd, Nat.reduceLT, Nat.reduceSub] at hH); subst hF; subst hH
      refine ⟨AGX, ?_⟩
      refine am_two (by rfl) (by rfl) (by rfl) ?_ ?_
      rotate_left
      refine WM ?_
      refine am_ef (i := 4) (by rfl) (by rfl) rfl rfl (ef_call0 true (fun g => planef_v [z] (g (.o _ 0 1 1)) (by simp)) rfl .fn rfl (by decide) (by kernel_rfl) rfl (fun _ => .cons (.frz rfl rfl rfl rfl rfl) .nil) (fun _ _ _ _ ⟨hu, hH⟩ => by rw [hu, hH]; exact ⟨.c (.inl trivial), by simp⟩)) ?_
      rintro _ _ ⟨_, _, _, ⟨rfl, rfl⟩, hF, hH⟩
      (try simp only [nsl, Nat.reduceAdd, Nat.reduceLT, Nat.reduceSub] at hF); (try simp only [nsl, Nat.reduceAdd, Nat.reduceLT, Nat.reduceSub] at hH); subst hF; subst hH
      refine ⟨AGX, ?_⟩
      refine WM ?_
      refine am_ef (i := 6) (by rfl) (by rfl) rfl rfl (ef_call0 true (fun g => errs_v [mshF V Fs, plnF [z]] (g (.o _ 0 2 2)) (by simp)) rfl .fn rfl (by decide) (by kernel_rfl) rfl (fun _ => .cons (.frz rfl rfl rfl rfl rfl) .nil) (fun _ _ _ _ ⟨hu, hH⟩ => by rw [hu, hH]; exact ⟨.c (.inl trivial), by simp⟩)) ?_
      rintro _ _ ⟨_, _, _, ⟨rfl, rfl⟩, hF, hH⟩
      (try simp only [nsl, Nat.reduceAdd, Nat.reduceLT, Nat.reduceSub] at hF); (try simp only [nsl, Nat.reduceAdd, Nat.reduceLT, Nat.reduceSub] at hH); subst hF; subst hH
      refine ⟨AGX, ?_⟩
      refine am_ef (i := 8) (by rfl) (by rfl) rfl rfl (ef_call0 false (fun _ => rmshF_v q w V Fs (by omega) (by omega)) rfl .fn rfl (by decide) (by kernel_rfl) rfl (fun _ => C0 rfl) (by simp)) ?_
      rintro _ _ ⟨_, _, _, ⟨rfl, rfl⟩, hF, hH⟩
      (try simp only [nsl, Nat.reduceAdd, Nat.reduceLT, Nat.reduceSub] at hF); (try simp only [nsl, Nat.reduceAdd, Nat.reduceLT, Nat.reduceSub] at hH); subst hF; subst hH
      refine ⟨AGX, ?_⟩
      refine am_ef (i := 12) (by rfl) (by rfl) rfl rfl (ef_call0 true (fun g => planef_v [z, y] (g (.o _ 0 2 2)) (by simp)) rfl .fn rfl (by decide) (by kernel_rfl) rfl (fun _ => .cons (.frz rfl rfl rfl rfl rfl) .nil) (fun _ _ _ _ ⟨hu, hH⟩ => by rw [hu, hH]; exact ⟨.c (.inl trivial), by simp⟩)) ?_
      rintro _ _ ⟨_, _, _, ⟨rfl, rfl⟩, hF, hH⟩
      (try simp only [nsl, Nat.reduceAdd, Nat.reduceLT, Nat.reduceSub] at hF); (try simp only [nsl, Nat.reduceAdd, Nat.reduceLT, Nat.reduceSub] at hH); subst hF; subst hH
      refine ⟨AGX, ?_⟩
      refine WM ?_
      refine am_ef (i := 14) (by rfl) (by rfl) rfl rfl (ef_call0 true (fun g => errs_v [mshF V Fs, plnF [z, y]] (g (.o _ 0 2 2)) (by simp)) rfl .fn rfl (by decide) (by kernel_rfl) rfl (fun _ => .cons (.frz rfl rfl rfl rfl rfl) .nil) (fun _ _ _ _ ⟨hu, hH⟩ => by rw [hu, hH]; exact ⟨.c (.inl trivial), by simp⟩)) ?_
      rintro _ _ ⟨_, _, _, ⟨rfl, rfl⟩, hF, hH⟩
      (try simp only [nsl, Nat.reduceAdd, Nat.reduceLT, Nat.reduceSub] at hF); (try simp only [nsl, Nat.reduceAdd, Nat.reduceLT, Nat.reduceSub] at hH); subst hF; subst hH
      refine ⟨AGX, ?_⟩
      refine WN ?_
      rotate_right
      refine WM ?_
      refine am_two (by rfl) (by rfl) (by rfl) ?_ ?_
      rotate_left
      refine WM ?_
      refine am_ef (i := 4) (by rfl) (by rfl) rfl rfl (ef_call0 true (fun g => planef_v [z] (g (.o _ 0 1 1)) (by simp)) rfl .fn rfl (by decide) (by kernel_rfl) rfl (fun _ => .cons (.frz rfl rfl rfl rfl rfl) .nil) (fun _ _ _ _ ⟨hu, hH⟩ => by rw [hu, hH]; exact ⟨.c (.inl trivial), by simp⟩)) ?_
      rintro _ _ ⟨_, _, _, ⟨rfl, rfl⟩, hF, hH⟩
      (try simp only [nsl, Nat.reduceAdd, Nat.reduceLT, Nat.reduceSub] at hF); (try simp only [nsl, Nat.reduceAdd, Nat.reduceLT, Nat.reduceSub] at hH); subst hF; subst hH
      refine ⟨AGX, ?_⟩
      refine WM ?_
      refine am_ef (i := 6) (by rfl) (by rfl) rfl rfl (ef_call0 true (fun g => errs_v [mshF V Fs, plnF [z]] (g (.o _ 0 2 2)) (by simp)) rfl .fn rfl (by decide) (by kernel_rfl) rfl (fun _ => .cons (.frz rfl rfl rfl rfl rfl) .nil) (fun _ _ _ _ ⟨hu, hH⟩ => by rw [hu, hH]; exact ⟨.c (.inl trivial), by simp⟩)) ?_
      rintro _ _ ⟨_, _, _, ⟨rfl, rfl⟩, hF, hH⟩
      (try simp only [nsl, Nat.reduceAdd, Nat.reduceLT, Nat.reduceSub] at hF); (try simp only [nsl, Nat.reduceAdd, Nat.reduceLT, Nat.reduceSub] at hH); subst hF; subst hH
      refine ⟨AGX, ?_⟩
      refine am_ef (i := 8) (by rfl) (by rfl) rfl rfl (ef_call0 false (fun _ => rmshF_v q w V Fs (by omega) (by omega)) rfl .fn rfl (by decide) (by kernel_rfl) rfl (fun _ => C0 rfl) (by simp)) ?_
      rintro _ _ ⟨_, _, _, ⟨rfl, rfl⟩, hF, hH⟩
      (try simp only [nsl, Nat.reduceAdd, Nat.reduceLT, Nat.reduceSub] at hF); (try simp only [nsl, Nat.reduceAdd, Nat.reduceLT, Nat.reduceSub] at hH); subst hF; subst hH
      refine ⟨AGX, ?_⟩
      refine am_ef (i := 12) (by rfl) (by rfl) rfl rfl (ef_call0 true (fun g => planef_v [z, y] (g (.o _ 0 2 2)) (by simp)) rfl .fn rfl (by decide) (by kernel_rfl) rfl (fun _ => .cons (.frz rfl rfl rfl rfl rfl) .nil) (fun _ _ _ _ ⟨hu, hH⟩ => by rw [hu, hH]; exact ⟨.c (.inl trivial), by simp⟩)) ?_
      rintro _ _ ⟨_, _, _, ⟨rfl, rfl⟩, hF, hH⟩
      (try simp only [nsl, Nat.reduceAdd, Nat.reduceLT, Nat.reduceSub] at hF); (try simp only [nsl, Nat.reduceAdd, Nat.reduceLT, Nat.reduceSub] at hH); subst hF; subst hH
      refine ⟨AGX, ?_⟩
      refine WM ?_
      refine am_ef (i := 14) (by rfl) (by rfl) rfl rfl (ef_call0 true (fun g => errs_v [mshF V Fs, plnF [z, y]] (g (.o _ 0 2 2)) (by simp)) rfl .fn rfl (by decide) (by kernel_rfl) rfl (fun _ => .cons (.frz rfl rfl rfl rfl rfl) .nil) (fun _ _ _ _ ⟨hu, hH⟩ => by rw [hu, hH]; exact ⟨.c (.inl trivial), by simp⟩)) ?_
      rintro _ _ ⟨_, _, _, ⟨rfl, rfl⟩, hF, hH⟩
      (try simp only [nsl, Nat.reduceAdd, Nat.reduceLT, Nat.reduceSub] at hF); (try simp only [nsl, Nat.reduceAdd, Nat.reduceLT, Nat.reduceSub] at hH); subst hF; subst hH
      refine ⟨AGX, ?_⟩
      refine WN ?_
      rotate_right
      refine am_ef (i := 4) (by rfl) (by rfl) rfl rfl (ef_call0 true (fun g => planef_v [z] (g (.o _ 0 1 1)) (by simp)) rfl .fn rfl (by decide) (by kernel_rfl) rfl (fun _ => .cons (.frz rfl rfl rfl rfl rfl) .nil) (fun _ _ _ _ ⟨hu, hH⟩ => by rw [hu, hH]; exact ⟨.c (.inl trivial), by simp⟩)) ?_
      rintro _ _ ⟨_, _, _, ⟨rfl, rfl⟩, hF, hH⟩
      (try simp only [nsl, Nat.reduceAdd, Nat.reduceLT, Nat.reduceSub] at hF); (try simp only [nsl, Nat.reduceAdd, Nat.reduceLT, Nat.reduceSub] at hH); subst hF; subst hH
      refine ⟨AGX, ?_⟩
      refine am_two (by rfl) (by rfl) (by rfl) ?_ ?_
      rotate_left
      refine WM ?_
      refine am_ef (i := 6) (by rfl) (by rfl) rfl rfl (ef_call0 true (fun g => errs_v [mshF V Fs, plnF [z]] (g (.o _ 0 2 2)) (by simp)) rfl .fn rfl (by decide) (by kernel_rfl) rfl (fun _ => .cons (.frz rfl rfl rfl rfl rfl) .nil) (fun _ _ _ _ ⟨hu, hH⟩ => by rw [hu, hH]; exact ⟨.c (.inl trivial), by simp⟩)) ?_
      rintro _ _ ⟨_, _, _, ⟨rfl, rfl⟩, hF, hH⟩
      (try simp only [nsl, Nat.reduceAdd, Nat.reduceLT, Nat.reduceSub] at hF); (try simp only [nsl, Nat.reduceAdd, Nat.reduceLT, Nat.reduceSub] at hH); subst hF; subst hH
      refine ⟨AGX, ?_⟩
      refine am_ef (i := 8) (by rfl) (by rfl) rfl rfl (ef_call0 false (fun _ => rmshF_v q w V Fs (by omega) (by omega)) rfl .fn rfl (by decide) (by kernel_rfl) rfl (fun _ => C0 rfl) (by simp)) ?_
      rintro _ _ ⟨_, _, _, ⟨rfl, rfl⟩, hF, hH⟩
      (try simp only [nsl, Nat.reduceAdd, Nat.reduceLT, Nat.reduceSub] at hF); (try simp only [nsl, Nat.reduceAdd, Nat.reduceLT, Nat.reduceSub] at hH); subst hF; subst hH
      refine ⟨AGX, ?_⟩
      refine am_ef (i := 12) (by rfl) (by rfl) rfl rfl (ef_call0 true (fun g => planef_v [z, y] (g (.o _ 0 2 2)) (by simp)) rfl .fn rfl (by decide) (by kernel_rfl) rfl (fun _ => .cons (.frz rfl rfl rfl rfl rfl) .nil) (fun _ _ _ _ ⟨hu, hH⟩ => by rw [hu, hH]; exact ⟨.c (.inl trivial), by simp⟩)) ?_
      rintro _ _ ⟨_, _, _, ⟨rfl, rfl⟩, hF, hH⟩
      (try simp only [nsl, Nat.reduceAdd, Nat.reduceLT, Nat.reduceSub] at hF); (try simp only [nsl, Nat.reduceAdd, Nat.reduceLT, Nat.reduceSub] at hH); subst hF; subst hH
      refine ⟨AGX, ?_⟩
      refine WM ?_
      refine am_ef (i := 14) (by rfl) (by rfl) rfl rfl (ef_call0 true (fun g => errs_v [mshF V Fs, plnF [z, y]] (g (.o _ 0 2 2)) (by simp)) rfl .fn rfl (by decide) (by kernel_rfl) rfl (fun _ => .cons (.frz rfl rfl rfl rfl rfl) .nil) (fun _ _ _ _ ⟨hu, hH⟩ => by rw [hu, hH]; exact ⟨.c (.inl trivial), by simp⟩)) ?_
      rintro _ _ ⟨_, _, _, ⟨rfl, rfl⟩, hF, hH⟩
      (try simp only [nsl, Nat.reduceAdd, Nat.reduceLT, Nat.reduceSub] at hF); (try simp only [nsl, Nat.reduceAdd, Nat.reduceLT, Nat.reduceSub] at hH); subst hF; subst hH
      refine ⟨AGX, ?_⟩
      refine WN ?_
      rotate_right
      refine WM ?_
      refine am_two (by rfl) (by rfl) (by rfl) ?_ ?_
      rotate_left
      refine WM ?_
      refine am_ef (i := 6) (by rfl) (by rfl) rfl rfl (ef_call0 true (fun g => errs_v [mshF V Fs, plnF [z]] (g (.o _ 0 2 2)) (by simp)) rfl .fn rfl (by decide) (by kernel_rfl) rfl (fun _ => .cons (.frz rfl rfl rfl rfl rfl) .nil) (fun _ _ _ _ ⟨hu, hH⟩ => by rw [hu, hH]; exact ⟨.c (.inl trivial), by simp⟩)) ?_
      rintro _ _ ⟨_, _, _, ⟨rfl, rfl⟩, hF, hH⟩
      (try simp only [nsl, Nat.reduceAdd, Nat.reduceLT, Nat.reduceSub] at hF); (try simp only [nsl, Nat.reduceAdd, Nat.reduceLT, Nat.reduceSub] at hH); subst hF; subst hH
      refine ⟨AGX, ?_⟩
      refine am_ef (i := 8) (by rfl) (by rfl) rfl rfl (ef_call0 false (fun _ => rmshF_v q w V Fs (by omega) (by omega)) rfl .fn rfl (by decide) (by kernel_rfl) rfl (fun _ => C0 rfl) (by simp)) ?_
      rintro _ _ ⟨_, _, _, ⟨rfl, rfl⟩, hF, hH⟩
      (try simp only [nsl, Nat.reduceAdd, Nat.reduceLT, Nat.reduceSub] at hF); (try simp only [nsl, Nat.reduceAdd, Nat.reduceLT, Nat.reduceSub] at hH); subst hF; subst hH
      refine ⟨AGX, ?_⟩
      refine am_ef (i := 12) (by rfl) (by rfl) rfl rfl (ef_call0 true (fun g => planef_v [z, y] (g (.o _ 0 2 2)) (by simp)) rfl .fn rfl (by decide) (by kernel_rfl) rfl (fun _ => .cons (.frz rfl rfl rfl rfl rfl) .nil) (fun _ _ _ _ ⟨hu, hH⟩ => by rw [hu, hH]; exact ⟨.c (.inl trivial), by simp⟩)) ?_
      rintro _ _ ⟨_, _, _, ⟨rfl, rfl⟩, hF, hH⟩
      (try simp only [nsl, Nat.reduceAdd, Nat.reduceLT, Nat.reduceSub] at hF); (try simp only [nsl, Nat.reduceAdd, Nat.reduceLT, Nat.reduceSub] at hH); subst hF; subst hH
      refine ⟨AGX, ?_⟩
      refine WM ?_
      refine am_ef (i := 14) (by rfl) (by rfl) rfl rfl (ef_call0 true (fun g => errs_v [mshF V Fs, plnF [z, y]] (g (.o _ 0 2 2)) (by simp)) rfl .fn rfl (by decide) (by kernel_rfl) rfl (fun _ => .cons (.frz rfl rfl rfl rfl rfl) .nil) (fun _ _ _ _ ⟨hu, hH⟩ => by rw [hu, hH]; exact ⟨.c (.inl trivial), by simp⟩)) ?_
      rintro _ _ ⟨_, _, _, ⟨rfl, rfl⟩, hF, hH⟩
      (try simp only [nsl, Nat.reduceAdd, Nat.reduceLT, Nat.reduceSub] at hF); (try simp only [nsl, Nat.reduceAdd, Nat.reduceLT, Nat.reduceSub] at hH); subst hF; subst hH
      refine ⟨AGX, ?_⟩
      refine WN ?_
      rotate_right
      refine am_ef (i := 6) (by rfl) (by rfl) rfl rfl (ef_call0 true (fun g => errs_v [mshF V Fs, plnF [z]] (g (.o _ 0 2 2)) (by simp)) rfl .fn rfl (by decide) (by kernel_rfl) rfl (fun _ => .cons (.frz rfl rfl rfl rfl rfl) .nil) (fun _ _ _ _ ⟨hu, hH⟩ => by rw [hu, hH]; exact ⟨.c (.inl trivial), by simp⟩)) ?_
      rintro _ _ ⟨_, _, _, ⟨rfl, rfl⟩, hF, hH⟩
      (try simp only [nsl, Nat.reduceAdd, Nat.reduceLT, Nat.reduceSub] at hF); (try simp only [nsl, Nat.reduceAdd, Nat.reduceLT, Nat.reduceSub] at hH); subst hF; subst hH
      refine ⟨AGX, ?_⟩
      refine am_two (by rfl) (by rfl) (by rfl) ?_ ?_
      rotate_left
      refine WM ?_
      refine am_ef (i := 8) (by rfl) (by rfl) rfl rfl (ef_call0 false (fun _ => rmshF_v q w V Fs (by omega) (by omega)) rfl .fn rfl (by decide) (by kernel_rfl) rfl (fun _ => C0 rfl) (by simp)) ?_
      rintro _ _ ⟨_, _, _, ⟨rfl, rfl⟩, hF, hH⟩
      (try simp only [nsl, Nat.reduceAdd, Nat.reduceLT, Nat.reduceSub] at hF); (try simp only [nsl, Nat.reduceAdd, Nat.reduceLT, Nat.reduceSub] at hH); subst hF; subst hH
      refine ⟨AGX, ?_⟩
      refine am_ef (i := 12) (by rfl) (by rfl) rfl rfl (ef_call0 true (fun g => planef_v [z, y] (g (.o _ 0 2 2)) (by simp)) rfl .fn rfl (by decide) (by kernel_rfl) rfl (fun _ => .cons (.frz rfl rfl rfl rfl rfl) .nil) (fun _ _ _ _ ⟨hu, hH⟩ => by rw [hu, hH]; exact ⟨.c (.inl trivial), by simp⟩)) ?_
      rintro _ _ ⟨_, _, _, ⟨rfl, rfl⟩, hF, hH⟩
      (try simp only [nsl, Nat.reduceAdd, Nat.reduceLT, Nat.reduceSub] at hF); (try simp only [nsl, Nat.reduceAdd, Nat.reduceLT, Nat.reduceSub] at hH); subst hF; subst hH
      refine ⟨AGX, ?_⟩
      refine WM ?_
      refine am_ef (i := 14) (by rfl) (by rfl) rfl rfl (ef_call0 true (fun g => errs_v [mshF V Fs, plnF [z, y]] (g (.o _ 0 2 2)) (by simp)) rfl .fn rfl (by decide) (by kernel_rfl) rfl (fun _ => .cons (.frz rfl rfl rfl rfl rfl) .nil) (fun _ _ _ _ ⟨hu, hH⟩ => by rw [hu, hH]; exact ⟨.c (.inl trivial), by simp⟩)) ?_
      rintro _ _ ⟨_, _, _, ⟨rfl, rfl⟩, hF, hH⟩
      (try simp only [nsl, Nat.reduceAdd, Nat.reduceLT, Nat.reduceSub] at hF); (try simp only [nsl, Nat.reduceAdd, Nat.reduceLT, Nat.reduceSub] at hH); subst hF; subst hH
      refine ⟨AGX, ?_⟩
      refine WN ?_
      rotate_right
      refine am_ef (i := 8) (by rfl) (by rfl) rfl rfl (ef_call0 false (fun _ => rmshF_v q w V Fs (by omega) (by omega)) rfl .fn rfl (by decide) (by kernel_rfl) rfl (fun _ => C0 rfl) (by simp)) ?_
      rintro _ _ ⟨_, _, _, ⟨rfl, rfl⟩, hF, hH⟩
      (try simp only [nsl, Nat.reduceAdd, Nat.reduceLT, Nat.reduceSub] at hF); (try simp only [nsl, Nat.reduceAdd, Nat.reduceLT, Nat.reduceSub] at hH); subst hF; subst hH
      refine ⟨AGX, ?_⟩
      refine WM ?_
      refine am_ef (i := 12) (by rfl) (by rfl) rfl rfl (ef_call0 true (fun g => planef_v [z, y] (g (.o _ 0 2 2)) (by simp)) rfl .fn rfl (by decide) (by kernel_rfl) rfl (fun _ => .cons (.frz rfl rfl rfl rfl rfl) .nil) (fun _ _ _ _ ⟨hu, hH⟩ => by rw [hu, hH]; exact ⟨.c (.inl trivial), by simp⟩)) ?_
      rintro _ _ ⟨_, _, _, ⟨rfl, rfl⟩, hF, hH⟩
      (try simp only [nsl, Nat.reduceAdd, Nat.reduceLT, Nat.reduceSub] at hF); (try simp only [nsl, Nat.reduceAdd, Nat.reduceLT, Nat.reduceSub] at hH); subst hF; subst hH
      refine ⟨AGX, ?_⟩
      refine WM ?_
      refine am_ef (i := 14) (by rfl) (by rfl) rfl rfl (ef_call0 true (fun g => errs_v [mshF V Fs, plnF [z, y]] (g (.o _ 0 2 2)) (by simp)) rfl .fn rfl (by decide) (by kernel_rfl) rfl (fun _ => .cons (.frz rfl rfl rfl rfl rfl) .nil) (fun _ _ _ _ ⟨hu, hH⟩ => by rw [hu, hH]; exact ⟨.c (.inl trivial), by simp⟩)) ?_
      rintro _ _ ⟨_, _, _, ⟨rfl, rfl⟩, hF, hH⟩
      (try simp only [nsl, Nat.reduceAdd, Nat.reduceLT, Nat.reduceSub] at hF); (try simp only [nsl, Nat.reduceAdd, Nat.reduceLT, Nat.reduceSub] at hH); subst hF; subst hH
      refine ⟨AGX, ?_⟩
      refine WN ?_
    all_goals (rw [pltF_fst0, pltF_fst0])
    all_goals (exact wk_of [some 0] (fun _ => [(4, .p 0 0 0), (5, .c (I z)), (6, .c (I y)), (7, .c (.r qc (cl.map Cut6.row))), (8, .c (I ce)), (9, .c (.r qg (gl.map Seg5.row))), (10, .c (I ge)), (11, .c (.r q1 (sidR l))), (12, .c (.r q2 (cloR l))), (13, .c (I (pltF V Fs [z]))), (14, .c (.r qe (sR L))), (15, .c (I (pltF V Fs [z]))), (16, .c (B bal)), (17, .c (I (pltF V Fs [z, y]))), (18, .c (I (pltF V Fs [z]))), (19, .c (I (pltF V Fs [z, y])))]) (fun _ => [mBox q w V (fR Fs)]) (by decide) (ZNL hE) ZCF ZCH (fun _ => ⟨rfl, rfl⟩))
  rintro F H ⟨rfl, rfl⟩
  have hce : ce = pltF V Fs [z] := by
    by_cases h : pltF V Fs [z] = 0
    · rw [if_neg (by omega)] at ec; injection ec with e1 e2; omega
    · rw [if_pos h] at ec; injection ec with e1 e2
  have hge : ge = pltF V Fs [z] := by
    by_cases h : pltF V Fs [z] = 0
    · rw [if_neg (by omega)] at eg; injection eg with e1 e2; omega
    · rw [if_pos h] at eg; injection eg with e1 e2
  subst hce; subst hge
  have hok1 : pltF V Fs [z] = 0 → MOk V Fs ∧ (-100000 ≤ z ∧ z ≤ 100000) := pltF_ok
  have hok2 : pltF V Fs [z, y] = 0 → MOk V Fs ∧ (-100000 ≤ z ∧ z ≤ 100000) ∧ (-100000 ≤ y ∧ y ≤ 100000) := pltF_ok2
  generalize pltF V Fs [z] = one at ec eg hcon hend hok1 ⊢
  generalize pltF V Fs [z, y] = two at halk hok2 ⊢
  refine WA ?_
  refine WA ?_
  refine WA ?_
  refine WA ?_
  refine WA ?_
  refine WA ?_
  refine aw_cut (fun F H => ∃ (qc2 qg2 q3 q4 qe2 : Value) (l2 : List (Value × Con)), l2.map Prod.snd = l.map Prod.snd ∧ l.length ≤ 1000 ∧ l2.length ≤ 1000 ∧ (∀ p ∈ l, p.2.1.length ≤ 1000000) ∧ (∀ p ∈ l2, p.2.1.length ≤ 1000000) ∧ cl.length ≤ 100000 ∧ gl.length ≤ 100000 ∧ L.length ≤ 100000 ∧ F = [(4, .p 0 0 0), (5, .c (I z)), (6, .c (I y)), (7, .c (.r qc (cl.map Cut6.row))), (8, .c (I one)), (9, .c (.r qg (gl.map Seg5.row))), (10, .c (I one)), (11, .c (.r q1 (sidR l))), (12, .c (.r q2 (cloR l))), (13, .c (I one)), (14, .c (.r qe (sR L))), (15, .c (I one)), (16, .c (B bal)), (17, .c (I two)), (18, .c (I one)), (19, .c (I two)), (20, .c (.r qc2 (cl.map Cut6.row))), (21, .c (.r qg2 (gl.map Seg5.row))), (22, .c (.r q3 (sidR l2))), (23, .c (.r q4 (cloR l2))), (24, .c (.r qe2 (sR L)))] ∧ H = [mBox q w V (fR Fs)]) ?_ ?_ wk_aw
  · refine aw_if rfl (fun h => ?_) (fun h => ?_)
    · obtain ⟨hM, hz⟩ := hok1 h
      rw [if_neg (by omega)] at ec eg
      injection ec with ec1 ec2
      injection eg with eg1 eg2
      subst ec1; subst eg1
      have hok := sgL_ok (z := z) hM
      have hSl := sgL_len V Fs z
      have hcon' := hcon.2 h
      obtain ⟨cs, hcs, hL⟩ := hend.2 h
      subst hL
      have s1 := con_small hok (by omega) hcon'
      have s1l := (hcon'.small hok).1
      rw [List.length_map] at s1l
      have s3 : (cutL V Fs z).length ≤ 100000 := by
        have h1 := compG_len (srtS (sdL V Fs z))
        have h2 := srtS_len (sdL V Fs z)
        have h3 := sdL_len V Fs z
        rw [cutL, List.length_map]; omega
      have s4 : (endL cs).length ≤ 100000 := by
        have h1 := compG_len (srtS (endT cs))
        have h2 := srtS_len (endT cs)
        have h3 := endT_len cs
        have h4 := (hcs.small hok).1
        rw [endL]; omega
      refine ZZ ?_
      refine aw_regionT [(0, none), (1, none), (3, none), (4, none), (6, none), (7, none), (2, some [3, 4, 6, 7]), (5, some [6, 7]), (8, some []), (9, none), (10, none), (11, none)] hMixed (by kernel_rfl) ?_
      refine WP ?_
      refine at_ef rfl rfl (ef_call0 false (fun _ => cuts_r q w V Fs z hM hz) rfl .fn rfl (by decide) (by kernel_rfl) rfl (fun _ => C0 rfl) (by simp)) ?_
      rintro _ _ ⟨_, _, _, ⟨qc2, rfl, rfl⟩, hF, hH⟩
      (try simp only [nsl, Nat.reduceAdd, Nat.reduceLT, Nat.reduceSub] at hF); (try simp only [nsl, Nat.reduceAdd, Nat.reduceLT, Nat.reduceSub] at hH); subst hF; subst hH
      refine ⟨ag_cons (by first | exact ag_rd rfl rfl rfl (ZK (KK (t := 29) rfl)) rfl) (ag_cons (by first | exact ag_rd rfl rfl rfl (rd_move rfl rfl) rfl) (ag_cons (by first | exact ag_rd rfl rfl rfl (ZK (KK (t := 29) rfl)) rfl) (ag_cons (by first | exact ag_rd rfl rfl rfl (rd_move rfl rfl) rfl) (ag_none)))), ?_⟩
      refine at_ef rfl rfl (ef_call0 false (fun _ => segments_r q w V Fs z hM) rfl .fn rfl (by decide) (by kernel_rfl) rfl (fun _ => C0 rfl) (by simp)) ?_
      rintro _ _ ⟨_, _, _, ⟨qg2, rfl, rfl⟩, hF, hH⟩
      (try simp only [nsl, Nat.reduceAdd, Nat.reduceLT, Nat.reduceSub] at hF); (try simp only [nsl, Nat.reduceAdd, Nat.reduceLT, Nat.reduceSub] at hH); subst hF; subst hH
      refine ⟨ag_cons (by first | exact ag_rd rfl rfl rfl (ZK (KK (t := 29) rfl)) rfl) (ag_cons (by first | exact ag_rd rfl rfl rfl (rd_move rfl rfl) rfl) (ag_none)), ?_⟩
      refine at_ef rfl rfl (ef_call0 false (fun _ => ends_r q w V Fs z hM) rfl .fn rfl (by decide) (by kernel_rfl) rfl (fun _ => C0 rfl) (by simp)) ?_
      rintro _ _ ⟨_, _, _, ⟨qe2, cs2, rfl, rfl, hcs2⟩, hF, hH⟩
      (try simp only [nsl, Nat.reduceAdd, Nat.reduceLT, Nat.reduceSub] at hF); (try simp only [nsl, Nat.reduceAdd, Nat.reduceLT, Nat.reduceSub] at hH); subst hF; subst hH
      refine ⟨ag_none, ?_⟩
      refine WQ ?_
      obtain rfl : cs2 = cs := hcs2.det hcs
      refine WR ?_
      refine al_ef rfl (ef_call0 false (fun _ => contours_r q w V Fs z hM) rfl .fn rfl (by decide) (by kernel_rfl) rfl (fun _ => C0 rfl) (by simp)) ?_
      rintro _ _ ⟨_, _, _, ⟨q3, q4, l2, rfl, rfl, hcon2⟩, hF, hH⟩
      (try simp only [nsl, Nat.reduceAdd, Nat.reduceLT, Nat.reduceSub] at hF); (try simp only [nsl, Nat.reduceAdd, Nat.reduceLT, Nat.reduceSub] at hH); subst hF; subst hH
      refine WE ?_
      have s2 := con_small hok (by omega) hcon2
      have s2l := (hcon2.small hok).1
      rw [List.length_map] at s2l
      refine wk_of [some 0] (fun _ => [(4, .p 0 0 0), (5, .c (I z)), (6, .c (I y)), (7, .c (.r qc ((cutL V Fs z).map Cut6.row))), (8, .c (I one)), (9, .c (.r qg ((sgL V Fs z).map Seg5.row))), (10, .c (I one)), (11, .c (.r q1 (sidR l))), (12, .c (.r q2 (cloR l))), (13, .c (I one)), (14, .c (.r qe (sR (endL cs2)))), (15, .c (I one)), (16, .c (B bal)), (17, .c (I two)), (18, .c (I one)), (19, .c (I two)), (20, .c (.r qc2 ((cutL V Fs z).map Cut6.row))), (21, .c (.r qg2 ((sgL V Fs z).map Seg5.row))), (22, .c (.r q3 (sidR l2))), (23, .c (.r q4 (cloR l2))), (24, .c (.r qe2 (sR (endL cs2))))]) (fun _ => [mBox q w V (fR Fs)]) (by decide) (ZNL hE) ZCF ZCH (fun _ => ?_)
      exact ⟨qc2, qg2, q3, q4, qe2, l2, hcon2.det hcon', by omega, by omega, s1.2, s2.2, s3, by omega, s4, rfl, rfl⟩
    · rw [if_pos h] at ec eg
      injection ec with ec1 ec2
      injection eg with eg1 eg2
      have hl : l = [] := List.map_eq_nil_iff.1 (hcon.1 h)
      have hL := hend.1 h
      subst ec1; subst eg1; subst hl; subst hL
      refine ZZ ?_
      refine wk_of [some 0] (fun _ => [(4, .p 0 0 0), (5, .c (I z)), (6, .c (I y)), (7, .c (.r qc ([]))), (8, .c (I one)), (9, .c (.r qg ([]))), (10, .c (I one)), (11, .c (.r q1 ([]))), (12, .c (.r q2 ([]))), (13, .c (I one)), (14, .c (.r qe ([]))), (15, .c (I one)), (16, .c (B bal)), (17, .c (I two)), (18, .c (I one)), (19, .c (I two)), (20, .c (.r (.slice none 0 0) [])), (21, .c (.r (.slice none 0 0) [])), (22, .c (.r (.slice none 0 0) [])), (23, .c (.r (.slice none 0 0) [])), (24, .c (.r (.slice none 0 0) []))]) (fun _ => [mBox q w V (fR Fs)]) (by decide) (ZNL hE) ZCF ZCH (fun _ => ?_)
      exact ⟨_, _, _, _, _, [], rfl, by simp, by simp, by simp, by simp, by simp, by simp, by simp, rfl, rfl⟩
  clear ec eg
  rintro F H ⟨qc2, qg2, q3, q4, qe2, l2, hll, s1, s2, s3, s4, s5, s6, s7, rfl, rfl⟩
  refine ZZ ?_
  refine aw_cut (fun F H => F = [(4, .p 0 0 0), (5, .c (I z)), (6, .c (I y)), (7, .c (.r qc (cl.map Cut6.row))), (8, .c (I one)), (9, .c (.r qg (gl.map Seg5.row))), (10, .c (I one)), (11, .c (.r q1 (sidR l))), (12, .c (.r q2 (cloR l))), (13, .c (I one)), (14, .c (.r qe (sR L))), (15, .c (I one)), (16, .c (B bal)), (17, .c (I two)), (18, .c (I one)), (19, .c (I two)), (20, .c (.r qc2 (cl.map Cut6.row))), (21, .c (.r qg2 (gl.map Seg5.row))), (22, .c (.r q3 (sidR l2))), (23, .c (.r q4 (cloR l2))), (24, .c (.r qe2 (sR L))), (25, .c (B bal))] ∧ H = [mBox q w V (fR Fs)]) ?_ ?_ wk_aw
  · by_cases h : two = 0
    · obtain ⟨hM, hz, hy⟩ := hok2 h
      obtain ⟨cs1, cs2, hc1, hc2, hbi⟩ := halk.2 h
      refine WR ?_
      refine G1 rfl ?_
      refine al_ef rfl (ef_call0 false (fun _ => alike_r q w V Fs z y hM) rfl .fn rfl (by decide) (by kernel_rfl) rfl (fun _ => C0 rfl) (by simp)) ?_
      rintro _ _ ⟨_, _, _, ⟨b2, d1, d2, rfl, rfl, hd1, hd2, hb2⟩, hF, hH⟩
      (try simp only [nsl, Nat.reduceAdd, Nat.reduceLT, Nat.reduceSub] at hF); (try simp only [nsl, Nat.reduceAdd, Nat.reduceLT, Nat.reduceSub] at hH); subst hF; subst hH
      obtain rfl := hd1.det hc1
      obtain rfl := hd2.det hc2
      obtain rfl : b2 = bal := by
        rw [Bool.eq_iff_iff, hb2, hbi]
      refine WE ?_
      refine wk_of [some 0] (fun _ => [(4, .p 0 0 0), (5, .c (I z)), (6, .c (I y)), (7, .c (.r qc (cl.map Cut6.row))), (8, .c (I one)), (9, .c (.r qg (gl.map Seg5.row))), (10, .c (I one)), (11, .c (.r q1 (sidR l))), (12, .c (.r q2 (cloR l))), (13, .c (I one)), (14, .c (.r qe (sR L))), (15, .c (I one)), (16, .c (B b2)), (17, .c (I two)), (18, .c (I one)), (19, .c (I two)), (20, .c (.r qc2 (cl.map Cut6.row))), (21, .c (.r qg2 (gl.map Seg5.row))), (22, .c (.r q3 (sidR l2))), (23, .c (.r q4 (cloR l2))), (24, .c (.r qe2 (sR L))), (25, .c (B b2))]) (fun _ => [mBox q w V (fR Fs)]) (by decide) (ZNL hE) ZCF ZCH (fun _ => ⟨rfl, rfl⟩)
    · obtain rfl := halk.1 h
      refine WR ?_
      refine WE ?_
      refine wk_of [some 0] (fun _ => [(4, .p 0 0 0), (5, .c (I z)), (6, .c (I y)), (7, .c (.r qc (cl.map Cut6.row))), (8, .c (I one)), (9, .c (.r qg (gl.map Seg5.row))), (10, .c (I one)), (11, .c (.r q1 (sidR l))), (12, .c (.r q2 (cloR l))), (13, .c (I one)), (14, .c (.r qe (sR L))), (15, .c (I one)), (16, .c (B false)), (17, .c (I two)), (18, .c (I one)), (19, .c (I two)), (20, .c (.r qc2 (cl.map Cut6.row))), (21, .c (.r qg2 (gl.map Seg5.row))), (22, .c (.r q3 (sidR l2))), (23, .c (.r q4 (cloR l2))), (24, .c (.r qe2 (sR L))), (25, .c (B false))]) (fun _ => [mBox q w V (fR Fs)]) (by decide) (ZNL hE) ZCF ZCH (fun _ => ⟨rfl, rfl⟩)
  rintro F H ⟨rfl, rfl⟩
  have hsid : l.map (fun p => p.2.1) = l2.map (fun p => p.2.1) := (pair_iff.2 hll.symm).1
  have hclo : l.map (fun p => p.2.2) = l2.map (fun p => p.2.2) := (pair_iff.2 hll.symm).2
  have hmz : cloR l = bR (l.map fun p => p.2.2) := by simp [cloR, bR]
  have hmy : cloR l2 = bR (l2.map fun p => p.2.2) := by simp [cloR, bR]
  cases bal
  all_goals (refine WR ?_)
  · refine G1 rfl ?_
    refine al_ef rfl (ef_call0 false (fun _ => eqCt_a cl cl qc qc2 (by omega) (by omega)) rfl .fn rfl (by decide) (by kernel_rfl) rfl (fun _ => C0 rfl) (by simp)) ?_
    rintro _ _ ⟨_, _, _, ⟨bb, rfl, rfl, hb⟩, hF, hH⟩
    obtain rfl : bb = true := hb.2 rfl
    (try simp only [nsl, Nat.reduceAdd, Nat.reduceLT, Nat.reduceSub] at hF); (try simp only [nsl, Nat.reduceAdd, Nat.reduceLT, Nat.reduceSub] at hH); subst hF; subst hH
    refine WO ?_
    refine G1 rfl ?_
    refine al_ef rfl (ef_call0 false (fun _ => eqSg_a gl gl qg qg2 (by omega) (by omega)) rfl .fn rfl (by decide) (by kernel_rfl) rfl (fun _ => C0 rfl) (by simp)) ?_
    rintro _ _ ⟨_, _, _, ⟨bb, rfl, rfl, hb⟩, hF, hH⟩
    obtain rfl : bb = true := hb.2 rfl
    (try simp only [nsl, Nat.reduceAdd, Nat.reduceLT, Nat.reduceSub] at hF); (try simp only [nsl, Nat.reduceAdd, Nat.reduceLT, Nat.reduceSub] at hH); subst hF; subst hH
    refine WO ?_
    refine G1 rfl ?_
    refine al_ef rfl (ef_call0 false (fun _ => same_v l l2 q1 q3 (by omega) (by omega) s3 s4) rfl .fn rfl (by decide) (by kernel_rfl) rfl (fun _ => C0 rfl) (by simp)) ?_
    rintro _ _ ⟨_, _, _, ⟨bb, rfl, rfl, hb⟩, hF, hH⟩
    obtain rfl : bb = true := hb.2 hsid
    (try simp only [nsl, Nat.reduceAdd, Nat.reduceLT, Nat.reduceSub] at hF); (try simp only [nsl, Nat.reduceAdd, Nat.reduceLT, Nat.reduceSub] at hH); subst hF; subst hH
    refine WO ?_
    refine G1 rfl ?_
    refine al_ef rfl (ef_call0 false (fun _ => eqBl_a (l.map fun p => p.2.2) (l2.map fun p => p.2.2) q2 q4 (by rw [List.length_map]; omega) (by rw [List.length_map]; omega)) rfl .fn rfl (by decide) (by kernel_rfl) rfl (fun _g => .cons (.c (congrArg _ hmz)) (.cons (.c (congrArg _ hmy)) .nil)) (by simp)) ?_
    rintro _ _ ⟨_, _, _, ⟨bb, rfl, rfl, hb⟩, hF, hH⟩
    obtain rfl : bb = true := hb.2 hclo
    (try simp only [nsl, Nat.reduceAdd, Nat.reduceLT, Nat.reduceSub] at hF); (try simp only [nsl, Nat.reduceAdd, Nat.reduceLT, Nat.reduceSub] at hH); subst hF; subst hH
    refine WO ?_
    refine G1 rfl ?_
    refine al_ef rfl (ef_call0 false (fun _ => eqSd_a L L qe qe2 (by omega) (by omega)) rfl .fn rfl (by decide) (by kernel_rfl) rfl (fun _ => C0 rfl) (by simp)) ?_
    rintro _ _ ⟨_, _, _, ⟨bb, rfl, rfl, hb⟩, hF, hH⟩
    obtain rfl : bb = true := hb.2 rfl
    (try simp only [nsl, Nat.reduceAdd, Nat.reduceLT, Nat.reduceSub] at hF); (try simp only [nsl, Nat.reduceAdd, Nat.reduceLT, Nat.reduceSub] at hH); subst hF; subst hH
    refine WO ?_
    refine G1 rfl ?_
    refine al_ef rfl (ef_call0 false (fun _ => sliced_a) rfl .fn rfl (by decide) (by kernel_rfl) rfl (fun _ => C0 rfl) (by simp)) ?_
    rintro _ _ ⟨_, _, _, ⟨rfl, rfl⟩, hF, hH⟩
    (try simp only [nsl, Nat.reduceAdd, Nat.reduceLT, Nat.reduceSub] at hF); (try simp only [nsl, Nat.reduceAdd, Nat.reduceLT, Nat.reduceSub] at hH); subst hF; subst hH
    refine WE ?_
    exact aret_1 [] [] rfl rfl rfl (by decide) (ZNK rfl) (fun _ => .nil) rfl
  · refine G1 rfl ?_
    refine al_ef rfl (ef_call0 false (fun _ => eqCt_a cl cl qc qc2 (by omega) (by omega)) rfl .fn rfl (by decide) (by kernel_rfl) rfl (fun _ => C0 rfl) (by simp)) ?_
    rintro _ _ ⟨_, _, _, ⟨bb, rfl, rfl, hb⟩, hF, hH⟩
    obtain rfl : bb = true := hb.2 rfl
    (try simp only [nsl, Nat.reduceAdd, Nat.reduceLT, Nat.reduceSub] at hF); (try simp only [nsl, Nat.reduceAdd, Nat.reduceLT, Nat.reduceSub] at hH); subst hF; subst hH
    refine WO ?_
    refine G1 rfl ?_
    refine al_ef rfl (ef_call0 false (fun _ => eqSg_a gl gl qg qg2 (by omega) (by omega)) rfl .fn rfl (by decide) (by kernel_rfl) rfl (fun _ => C0 rfl) (by simp)) ?_
    rintro _ _ ⟨_, _, _, ⟨bb, rfl, rfl, hb⟩, hF, hH⟩
    obtain rfl : bb = true := hb.2 rfl
    (try simp only [nsl, Nat.reduceAdd, Nat.reduceLT, Nat.reduceSub] at hF); (try simp only [nsl, Nat.reduceAdd, Nat.reduceLT, Nat.reduceSub] at hH); subst hF; subst hH
    refine WO ?_
    refine G1 rfl ?_
    refine al_ef rfl (ef_call0 false (fun _ => same_v l l2 q1 q3 (by omega) (by omega) s3 s4) rfl .fn rfl (by decide) (by kernel_rfl) rfl (fun _ => C0 rfl) (by simp)) ?_
    rintro _ _ ⟨_, _, _, ⟨bb, rfl, rfl, hb⟩, hF, hH⟩
    obtain rfl : bb = true := hb.2 hsid
    (try simp only [nsl, Nat.reduceAdd, Nat.reduceLT, Nat.reduceSub] at hF); (try simp only [nsl, Nat.reduceAdd, Nat.reduceLT, Nat.reduceSub] at hH); subst hF; subst hH
    refine WO ?_
    refine G1 rfl ?_
    refine al_ef rfl (ef_call0 false (fun _ => eqBl_a (l.map fun p => p.2.2) (l2.map fun p => p.2.2) q2 q4 (by rw [List.length_map]; omega) (by rw [List.length_map]; omega)) rfl .fn rfl (by decide) (by kernel_rfl) rfl (fun _g => .cons (.c (congrArg _ hmz)) (.cons (.c (congrArg _ hmy)) .nil)) (by simp)) ?_
    rintro _ _ ⟨_, _, _, ⟨bb, rfl, rfl, hb⟩, hF, hH⟩
    obtain rfl : bb = true := hb.2 hclo
    (try simp only [nsl, Nat.reduceAdd, Nat.reduceLT, Nat.reduceSub] at hF); (try simp only [nsl, Nat.reduceAdd, Nat.reduceLT, Nat.reduceSub] at hH); subst hF; subst hH
    refine WO ?_
    refine G1 rfl ?_
    refine al_ef rfl (ef_call0 false (fun _ => eqSd_a L L qe qe2 (by omega) (by omega)) rfl .fn rfl (by decide) (by kernel_rfl) rfl (fun _ => C0 rfl) (by simp)) ?_
    rintro _ _ ⟨_, _, _, ⟨bb, rfl, rfl, hb⟩, hF, hH⟩
    obtain rfl : bb = true := hb.2 rfl
    (try simp only [nsl, Nat.reduceAdd, Nat.reduceLT, Nat.reduceSub] at hF); (try simp only [nsl, Nat.reduceAdd, Nat.reduceLT, Nat.reduceSub] at hH); subst hF; subst hH
    refine WO ?_
    refine G1 rfl ?_
    refine al_ef rfl (ef_call0 false (fun _ => sliced_a) rfl .fn rfl (by decide) (by kernel_rfl) rfl (fun _ => C0 rfl) (by simp)) ?_
    rintro _ _ ⟨_, _, _, ⟨rfl, rfl⟩, hF, hH⟩
    (try simp only [nsl, Nat.reduceAdd, Nat.reduceLT, Nat.reduceSub] at hF); (try simp only [nsl, Nat.reduceAdd, Nat.reduceLT, Nat.reduceSub] at hH); subst hF; subst hH
    refine WE ?_
    exact aret_1 [] [] rfl rfl rfl (by decide) (ZNK rfl) (fun _ => .nil) rfl
end Go.Proofs.YtlblimbelfenaaaGreat
