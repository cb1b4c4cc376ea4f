/- A mesh is spoilt at one place, by value. -/
import Derived.Test.YtlblimbelfenaaaGreatQbk
set_option linter.unusedSimpArgs false
set_option linter.unusedVariables false
/- A mesh is spoilt at one place, by value. -/
-- NEWM
namespace Go.Proofs.YtlblimbelfenaaaGreat
open Go Go.RowKit
set_option maxRecDepth 100000
set_option maxHeartbeats 4000000 in
theorem spoil_v (v : Value) (zs : List Int) (a : Int) (hs : StrOk zs) (h0 : 0 ≤ a) (h1 : a ≤ 800000000) (V : List Vec3) (Fs : List Fac3) (cv cf : Nat) (hV : V.length ≤ 100) (hF0 : 1 ≤ Fs.length) (hF1 : Fs.length ≤ 100) (hin : ∀ f ∈ Fs, fIn V.length f) :
    ACalls Tryz.prog 51 [.p 0 0 0, .p 1 0 0] [strm v zs a, .box [.o 2 0 V.length cv, .o 3 0 Fs.length cf], .arr 93 3 cv (vR V), .arr 97 3 cf (fR Fs)] fun u H => ∃ (a' : Int) (V' : List Vec3) (Fs' : List Fac3) (cf' : Nat), u = .t [] ∧ H = [strm v zs a', .box [.o 2 0 V'.length cv, .o 3 0 Fs'.length cf'], .arr 93 3 cv (vR V'), .arr 97 3 cf' (fR Fs')] ∧ a ≤ a' ∧ a' ≤ a + 10 ∧ V'.length = V.length ∧ Fs'.length ≤ Fs.length + 1 := by
  have eV : (vR V).length = V.length := by simp
  have eF : (fR Fs).length = Fs.length := by simp
  refine acallsx_of false (N := 105) Tryz.func51 rfl rfl (by simp) fun E hE hP => ?_
  refine ZZ ?_
  refine aw_regionT [(0, none), (1, none), (2, none), (3, none), (4, none), (5, none), (6, none), (7, none), (8, none), (9, none), (10, some [0, 1, 2, 3]), (11, none), (12, none)] hMixed (by kernel_rfl) ?_
  refine WP ?_
  refine at_ef rfl rfl (ef_callm false (fun _ => next_a (↑Fs.length) _ _ _ hs (by omega) (by omega) (by simp only [in64]; omega)) rfl .fn rfl (by decide) (by kernel_rfl) rfl rfl (fun _g => .cons (.p rfl) (.cons (.c rfl) .nil)) (fun _g => .cons (.c rfl) (.cons (.c rfl) .nil)) (by simp)) ?_
  rintro F1 H1 ⟨_, _, _, _, ⟨rr, rfl, hq, hr1, hr2⟩, hF, hH⟩
  injection hq with hq1 hq2; subst hq1; subst hq2
  (try simp only [nsl, Nat.reduceAdd, Nat.reduceLT, Nat.reduceSub] at hF); (try simp only [nsl, Nat.reduceAdd, Nat.reduceLT, Nat.reduceSub] at hH); subst hF; subst hH
  obtain ⟨i, rfl⟩ : ∃ i : Nat, rr = i := ⟨rr.toNat, by omega⟩
  have hi := hr2 (by omega)
  clear hr1 hr2
  refine ⟨ag_cons (by first | exact ag_rd rfl rfl rfl (rd_move rfl rfl) rfl) (ag_cons (by first | exact ag_rd rfl rfl rfl (rd_nil rfl rfl) rfl | exact ag_rd rfl rfl rfl (rd_nilq rfl rfl) rfl) (ag_cons (by first | exact ag_rd rfl rfl rfl (ZX (KF (t := 29) (f := 1) rfl rfl)) rfl) (ag_cons (by first | exact ag_rd rfl rfl rfl (ZL (KK (t := 27) rfl)) rfl) (ag_none)))), ?_⟩
  refine WQ ?_
  refine WR ?_
  refine al_ef rfl (ef_callm false (fun _ => next_a 5 _ _ _ hs (by omega) (by omega) (by simp only [in64]; omega)) rfl .fn rfl (by decide) (by kernel_rfl) rfl rfl (fun _g => .cons (.p rfl) (.cons (.c rfl) .nil)) (fun _g => .cons (.c rfl) (.cons (.c rfl) .nil)) (by simp)) ?_
  rintro F1 H1 ⟨_, _, _, _, ⟨rr, rfl, hq, hr1, hr2⟩, hF, hH⟩
  injection hq with hq1 hq2; subst hq1; subst hq2
  (try simp only [nsl, Nat.reduceAdd, Nat.reduceLT, Nat.reduceSub] at hF); (try simp only [nsl, Nat.reduceAdd, Nat.reduceLT, Nat.reduceSub] at hH); subst hF; subst hH
  refine WE ?_
  obtain ⟨kk, hkk⟩ : ∃ q, q = rr := ⟨_, rfl⟩
  rw [← hkk]
  refine WA ?_
  obtain ⟨⟨fa, fb, fc⟩, hz⟩ : ∃ z, Fs[i]? = some z := ⟨_, List.getElem?_eq_getElem (by omega)⟩
  have hrow : (fR Fs)[i]? = some [I fa, I fb, I fc] := by rw [List.getElem?_map, hz]; rfl
  have hrow0 : (fR Fs)[0 + i]? = some [I fa, I fb, I fc] := by rw [Nat.zero_add]; exact hrow
  have hfi := hin _ (List.mem_of_getElem? hz)
  simp only [fIn] at hfi
  obtain ⟨h2a, h2b, h2c⟩ := hfi
  refine aw_if rfl (fun e0 => ?_) (fun e0 => ?_)
  · refine ZZ ?_
    refine aw_regionT [(0, none), (1, none), (2, none), (3, none), (4, none), (5, none), (6, none), (7, none), (8, none), (9, none), (10, none), (11, some [0, 1]), (12, some [0]), (13, none), (14, none), (15, some [])] hMixed (by kernel_rfl) ?_
    refine WP ?_
    refine at_ef rfl rfl (ef_callm true (fun _ => pick_a [-1, ↑V.length, fb] _ _ _ _ hs (by omega) (by omega) (by simp) (by simp)) rfl .fn rfl (by decide) (by kernel_rfl) rfl rfl (fun _g => .cons (.p rfl) (.cons (.frz rfl rfl rfl rfl rfl) .nil)) (fun _g => .cons (.c rfl) (.cons (.c rfl) .nil)) (fun _ _ _ _ ⟨_, hu, hH, _⟩ => by rw [hu, hH]; exact ⟨.c (.inl trivial), strm_flat (.inr ⟨0, _, rfl, by simp⟩)⟩)) ?_
    rintro F1 H1 ⟨_, _, _, _, ⟨rr, rfl, hq, hrm⟩, hF, hH⟩
    injection hq with hq1 hq2; subst hq1; subst hq2
    (try simp only [nsl, Nat.reduceAdd, Nat.reduceLT, Nat.reduceSub] at hF); (try simp only [nsl, Nat.reduceAdd, Nat.reduceLT, Nat.reduceSub] at hH); subst hF; subst hH
    clear hrm
    refine ⟨ag_cons (by first | exact ag_rd rfl rfl rfl (rd_move rfl rfl) rfl) (ag_none), ?_⟩
    refine WQ ?_
    all_goals exact aret_0 [some 0, some 1, some 2, some 3] (fun _ => [strm v zs _, .box [.o 2 0 (V).length cv, .o 3 0 (Fs.set i ⟨rr, fb, fc⟩).length cf], .arr 93 3 cv (vR (V)), .arr 97 3 cf (fR (Fs.set i ⟨rr, fb, fc⟩))]) (.inr rfl) rfl (by decide) (ZNK rfl) ZCH (fun _ => ⟨_, V, Fs.set i ⟨rr, fb, fc⟩, cf, rfl, rfl, by omega, by omega, by simp, by simp⟩)
  refine WA ?_
  refine aw_if rfl (fun e1 => ?_) (fun e1 => ?_)
  · have hrow2 : ((fR Fs).set i [I fa, I fc, I fc])[i]? = some [I fa, I fc, I fc] := by rw [List.getElem?_set_self (by omega)]
    refine ZZ ?_
    refine aw_regionT [(0, none), (1, none), (2, none), (3, none), (4, none), (5, none), (6, none), (7, none), (8, none), (9, none), (10, none), (11, none), (12, some [1]), (13, none), (14, none), (15, some [])] hMixed (by kernel_rfl) ?_
    refine WQ ?_
    all_goals exact aret_0 [some 0, some 1, some 2, some 3] (fun _ => [strm v zs _, .box [.o 2 0 (V).length cv, .o 3 0 (Fs.set i ⟨fa, fc, fb⟩).length cf], .arr 93 3 cv (vR (V)), .arr 97 3 cf (fR (Fs.set i ⟨fa, fc, fb⟩))]) (.inr rfl) rfl (by decide) (ZNK rfl) ZCH (fun _ => ⟨_, V, Fs.set i ⟨fa, fc, fb⟩, cf, rfl, rfl, by omega, by omega, by simp, by simp⟩)
  refine WA ?_
  refine aw_if rfl (fun e2 => ?_) (fun e2 => ?_)
  · refine ZZ ?_
    refine aw_regionT [(0, none), (1, none), (2, none), (3, none), (4, none), (5, none), (6, none), (7, none), (8, none), (9, none), (11, none), (10, some [0, 1, 2, 3, 11]), (12, some [0, 1, 2, 3]), (13, none), (14, none), (15, some [])] hMixed (by kernel_rfl) ?_
    refine WP ?_
    refine at_ef rfl rfl (ef_callm false (fun _ => next_a (↑V.length) _ _ _ hs (by omega) (by omega) (by simp only [in64]; omega)) rfl .fn rfl (by decide) (by kernel_rfl) rfl rfl (fun _g => .cons (.p rfl) (.cons (.c rfl) .nil)) (fun _g => .cons (.c rfl) (.cons (.c rfl) .nil)) (by simp)) ?_
    rintro F1 H1 ⟨_, _, _, _, ⟨rr, rfl, hq, hr1, hr2⟩, hF, hH⟩
    injection hq with hq1 hq2; subst hq1; subst hq2
    (try simp only [nsl, Nat.reduceAdd, Nat.reduceLT, Nat.reduceSub] at hF); (try simp only [nsl, Nat.reduceAdd, Nat.reduceLT, Nat.reduceSub] at hH); subst hF; subst hH
    obtain ⟨j, rfl⟩ : ∃ i : Nat, rr = i := ⟨rr.toNat, by omega⟩
    have hj := hr2 (by omega)
    clear hr1 hr2
    obtain ⟨⟨vx1, vy1, vz1⟩, hzv⟩ : ∃ z, V[j]? = some z := ⟨_, List.getElem?_eq_getElem (by omega)⟩
    have hrv : (vR V)[j]? = some [I vx1, I vy1, I vz1] := by rw [List.getElem?_map, hzv]; rfl
    refine ⟨ag_cons (by first | exact ag_rd rfl rfl rfl (rd_move rfl rfl) rfl) (ag_cons (by first | exact ag_rd rfl rfl rfl (rd_nil rfl rfl) rfl | exact ag_rd rfl rfl rfl (rd_nilq rfl rfl) rfl) (ag_cons (by first | exact ag_rd rfl rfl rfl (ZX (KF (t := 29) (f := 0) rfl rfl)) rfl) (ag_cons (by first | exact ag_rd rfl rfl rfl (ZL (KK (t := 26) rfl)) rfl) (ag_cons (by first | exact ag_rd rfl rfl rfl (rd_move rfl rfl) rfl) (ag_none))))), ?_⟩
    refine at_ef rfl rfl (ef_callm false (fun _ => oddb_v (-100000) 100000 _ _ _ hs (by omega) (by omega) (by omega) (by omega) (by omega) (by omega) (by omega)) rfl .fn rfl (by decide) (by kernel_rfl) rfl rfl (fun _g => .cons (.p rfl) (.cons (.c rfl) (.cons (.c rfl) .nil))) (fun _g => .cons (.c rfl) (.cons (.c rfl) .nil)) (by simp)) ?_
    rintro F1 H1 ⟨_, _, _, _, ⟨rr, ar, rfl, hq, hr3, hr4, h64r⟩, hF, hH⟩
    injection hq with hq1 hq2; subst hq1; subst hq2
    (try simp only [nsl, Nat.reduceAdd, Nat.reduceLT, Nat.reduceSub] at hF); (try simp only [nsl, Nat.reduceAdd, Nat.reduceLT, Nat.reduceSub] at hH); subst hF; subst hH
    refine ⟨ag_cons (by first | exact ag_rd rfl rfl rfl (rd_move rfl rfl) rfl) (ag_cons (by first | exact ag_rd rfl rfl rfl (rd_nil rfl rfl) rfl | exact ag_rd rfl rfl rfl (rd_nilq rfl rfl) rfl) (ag_cons (by first | exact ag_rd rfl rfl rfl (ZX (KF (t := 29) (f := 0) rfl rfl)) rfl) (ag_cons (by first | exact ag_rd rfl rfl rfl (ZL (KK (t := 26) rfl)) rfl) (ag_none)))), ?_⟩
    refine WQ ?_
    all_goals exact aret_0 [some 0, some 1, some 2, some 3] (fun _ => [strm v zs _, .box [.o 2 0 (V.set j ⟨vx1, vy1, rr⟩).length cv, .o 3 0 (Fs).length cf], .arr 93 3 cv (vR (V.set j ⟨vx1, vy1, rr⟩)), .arr 97 3 cf (fR (Fs))]) (.inr rfl) rfl (by decide) (ZNK rfl) ZCH (fun _ => ⟨_, V.set j ⟨vx1, vy1, rr⟩, Fs, cf, rfl, rfl, by omega, by omega, by simp, by simp⟩)
  refine WA ?_
  refine aw_if rfl (fun e3 => ?_) (fun e3 => ?_)
  · obtain ⟨⟨ga, gb, gc⟩, hg⟩ : ∃ z, Fs[0]? = some z := ⟨_, List.getElem?_eq_getElem (by omega)⟩
    have hrowg : (fR Fs)[0]? = some [I ga, I gb, I gc] := by rw [List.getElem?_map, hg]; rfl
    refine ZZ ?_
    refine aw_regionT [(0, none), (1, none), (2, none), (3, none), (4, none), (5, none), (6, none), (7, none), (8, none), (9, none), (10, none), (11, some [0, 1, 2, 3, 4]), (12, some [0]), (13, none), (14, none), (15, some [])] hMixed (by kernel_rfl) ?_
    iterate 9 refine WX2 ?_
    refine ZT rfl (rd_index (i := 0) rfl (KE (t := 27) rfl) rfl rfl rfl (by omega) (by omega)) ?_
    refine WP ?_
    refine at_ef rfl rfl (Zapp (KA (t := 27) rfl)) ?_
    rintro _ _ ⟨_, cc, hcc, rfl, rfl⟩
    refine ⟨ag_cons (by first | exact ag_rd rfl rfl rfl (rd_move rfl rfl) rfl) (ag_none), ?_⟩
    refine WQ ?_
    all_goals exact aret_0 [some 0, some 1, some 2, some 3] (fun _ => [strm v zs _, .box [.o 2 0 (V).length cv, .o 3 0 (Fs ++ [(⟨ga, gb, gc⟩ : Fac3)]).length cc], .arr 93 3 cv (vR (V)), .arr 97 3 cc (fR (Fs ++ [(⟨ga, gb, gc⟩ : Fac3)]))]) (.inr rfl) rfl (by decide) (ZNK rfl) ZCH (fun _ => ⟨_, V, Fs ++ [(⟨ga, gb, gc⟩ : Fac3)], cc, rfl, rfl, by omega, by omega, by simp, by simp⟩)
  obtain ⟨ja, hja⟩ : ∃ i : Nat, fa = i := ⟨fa.toNat, by omega⟩
  obtain ⟨jb, hjb⟩ : ∃ i : Nat, fb = i := ⟨fb.toNat, by omega⟩
  subst hja; subst hjb
  obtain ⟨⟨vx1, vy1, vz1⟩, hzv⟩ : ∃ z, V[ja]? = some z := ⟨_, List.getElem?_eq_getElem (by omega)⟩
  have hrv : (vR V)[ja]? = some [I vx1, I vy1, I vz1] := by rw [List.getElem?_map, hzv]; rfl
  obtain ⟨⟨vx2, vy2, vz2⟩, hzw⟩ : ∃ z, V[jb]? = some z := ⟨_, List.getElem?_eq_getElem (by omega)⟩
  have hrw : (vR V)[jb]? = some [I vx2, I vy2, I vz2] := by rw [List.getElem?_map, hzw]; rfl
  refine ZZ ?_
  refine aw_regionT [(0, none), (1, none), (2, none), (3, none), (4, none), (5, none), (6, none), (7, none), (8, none), (9, none), (10, none), (11, none), (12, none), (13, none), (14, none), (15, none), (16, none), (17, none), (18, none), (19, some [])] hMixed (by kernel_rfl) ?_
  refine WQ ?_
  all_goals exact aret_0 [some 0, some 1, some 2, some 3] (fun _ => [strm v zs _, .box [.o 2 0 (V.set ja ⟨vx2, vy2, vz2⟩).length cv, .o 3 0 (Fs).length cf], .arr 93 3 cv (vR (V.set ja ⟨vx2, vy2, vz2⟩)), .arr 97 3 cf (fR (Fs))]) (.inr rfl) rfl (by decide) (ZNK rfl) ZCH (fun _ => ⟨_, V.set ja ⟨vx2, vy2, vz2⟩, Fs, cf, rfl, rfl, by omega, by omega, by simp, by simp⟩)
end Go.Proofs.YtlblimbelfenaaaGreat
