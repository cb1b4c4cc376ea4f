/- Right meshes of the stream, by value. -/
import Derived.Test.YthanangkmjjbaaaGreatDoorQav
import Derived.Test.YthanangkmjjbaaaGreatDoorQaw
set_option linter.unusedSimpArgs false
set_option linter.unusedVariables false
/- Meshes of the stream, by value. -/
-- NEWM
namespace Go.Proofs.YthanangkmjjbaaaGreatDoor
open Go Go.RowKit
set_option maxRecDepth 100000
theorem fIn_mono {n m : Int} {f : Fac3} (h : fIn n f) (hm : n ≤ m) : fIn m f := by unfold fIn at *; omega
set_option maxHeartbeats 8000000 in
theorem amesh_v (v : Value) (zs : List Int) (a : Int) (hs : StrOk zs) (h0 : 0 ≤ a) (h1 : a ≤ 700000000) :
    ACalls Tryz.prog 56 [.p 0 0 0] [strm v zs a] fun u H => ∃ (a' : Int) (q w : Value) (V : List Vec3) (Fs : List Fac3), u = mshA q w V Fs ∧ H = [strm v zs a'] ∧ a ≤ a' ∧ a' ≤ a + 200 ∧ V.length ≤ 16 ∧ Fs.length ≤ 25 := by
  refine acalls_of (N := 93) Tryz.func56 rfl rfl (by simp) fun E hE => ?_
  refine WA ?_
  refine WA ?_
  refine WR ?_
  refine al_ef rfl (ef_callm false (fun _ => range_a 1 2 _ _ _ hs (by omega) (by omega) (by omega) (by omega) (by omega) (by omega)) rfl .fn rfl (by decide) (by kernel_rfl) rfl rfl (fun _g => .cons (.p rfl) (.cons (.c rfl) (.cons (.c rfl) .nil))) (fun _g => .cons (.c rfl) (.cons (.c rfl) .nil)) (by simp)) ?_
  rintro F1 H1 ⟨_, _, _, _, ⟨rr, ar, rfl, hq, hr3, hr4, hr1, hr2, _⟩, hF, hH⟩
  injection hq with hq1 hq2; subst hq1; subst hq2
  (try simp only [nsl, Nat.reduceAdd, Nat.reduceLT, Nat.reduceSub] at hF); (try simp only [nsl, Nat.reduceAdd, Nat.reduceLT, Nat.reduceSub] at hH); subst hF; subst hH
  have h64r : in64 rr := by simp only [in64]; omega
  refine WE ?_
  obtain ⟨rr1, hrr1⟩ : ∃ q, q = rr := ⟨_, rfl⟩
  rw [← hrr1] at hr1 hr2 ⊢
  refine aw_loopw (fun m F H => ∃ (k cv cf : Nat) (V : List Vec3) (Fs : List Fac3) (a' : Int), m + k = rr1.toNat ∧ a ≤ a' ∧ a' ≤ a + 1 + 60 * k ∧ V.length ≤ 8 * k ∧ Fs.length ≤ 12 * k ∧ (1 ≤ k → 4 ≤ Fs.length) ∧ (∀ f ∈ Fs, fIn V.length f) ∧ Fs.length ≤ cf ∧ F = [(0, .p 0 0 0), (2, .p 1 0 0), (3, .p 2 0 0), (10, .c (I rr1)), (11, .c (I k))] ∧ H = [strm v zs a', .box [.c (.r (.slice none 0 0) []), .c (.r (.slice none 0 0) [])], .box [.o 3 0 V.length cv, .o 4 0 Fs.length cf], .arr 34 3 cv (vR V), .arr 140 3 cf (fR Fs)]) ?_ ?_
  · refine wk_of [some 0, some 1, some 2, none, none] (fun _ => [(0, .p 0 0 0), (2, .p 1 0 0), (3, .p 2 0 0), (10, .c (I rr1)), (11, .c (I (0 : Nat)))]) (fun _ => [strm v zs _, .box [.c (.r (.slice none 0 0) []), .c (.r (.slice none 0 0) [])], .box [.o 3 0 0 0, .o 4 0 0 0], .arr 34 3 0 [], .arr 140 3 0 []]) (by decide) (ZNL hE) ZCF ZCH (fun _ => ?_)
    exact ⟨rr1.toNat, 0, 0, 0, [], [], _, by omega, by omega, by omega, by simp, by simp, by omega, by simp, by simp, rfl, rfl⟩
  rintro m F H ⟨k, cv, cf, V, Fs, a1, hk, ha1, ha2, hV, hFl, hF4, hin, hcf, rfl, rfl⟩
  refine WA ?_
  refine aw_if rfl (fun hlt => ?_) (fun hge => ?_)
  · refine WR ?_
    refine al_ef rfl (ef_callm false (fun _ => avecb_v _ _ _ hs (by omega) (by omega)) rfl .fn rfl (by decide) (by kernel_rfl) rfl rfl (fun _g => .cons (.p rfl) .nil) (fun _g => .cons (.c rfl) (.cons (.c rfl) .nil)) (by simp)) ?_
    rintro F1 H1 ⟨_, _, _, _, ⟨p1, ap1, rfl, hq, up1, vp1, wp1, xp1, yp1⟩, hF, hH⟩
    injection hq with hq1 hq2; subst hq1; subst hq2
    (try simp only [nsl, Nat.reduceAdd, Nat.reduceLT, Nat.reduceSub] at hF); (try simp only [nsl, Nat.reduceAdd, Nat.reduceLT, Nat.reduceSub] at hH); subst hF; subst hH
    refine WO ?_
    refine al_ef rfl (ef_callm true (fun _ => pick_a [1, 6, 10] _ _ _ _ hs (by omega) (by omega) (by simp) (by simp)) rfl .fn rfl (by decide) (by kernel_rfl) rfl rfl (fun _g => .cons (.p rfl) (.cons (.frz rfl rfl rfl rfl rfl) .nil)) (fun _g => .cons (.c rfl) (.cons (.c rfl) .nil)) (fun _ _ _ _ ⟨_, hu, hH, _⟩ => by rw [hu, hH]; exact ⟨.c (.inl trivial), strm_flat (.inr ⟨0, _, rfl, by simp⟩)⟩)) ?_
    rintro F1 H1 ⟨_, _, _, _, ⟨rr, rfl, hq, hrm⟩, hF, hH⟩
    injection hq with hq1 hq2; subst hq1; subst hq2
    (try simp only [nsl, Nat.reduceAdd, Nat.reduceLT, Nat.reduceSub] at hF); (try simp only [nsl, Nat.reduceAdd, Nat.reduceLT, Nat.reduceSub] at hH); subst hF; subst hH
    have hrr : 0 ≤ rr ∧ rr ≤ 1000 := by simp only [List.mem_cons, List.not_mem_nil, or_false] at hrm; omega
    clear hrm
    refine al_ef rfl (ef_call [] (fun _ => []) false (fun _ => tetra_v p1 rr (by omega) (by omega)) rfl .fn rfl (by decide) (by kernel_rfl) rfl (fun _ => C0 rfl) (by decide) (fun _ => .nil) (by simp)) ?_
    rintro F1 H1 ⟨_, _, _, _, ⟨rfl, rfl⟩, hF, hH⟩
    (try simp only [List.set_cons_zero, List.set_cons_succ, updH, posOf, lentArr, killF, killO, killV, AV.has, AV.hasL, AV.emb, AV.embL, OB.emb, embB, List.filter_cons, List.filter_nil, List.getElem?_cons_zero, List.getElem?_cons_succ, List.getD_cons_zero, List.getD_cons_succ, List.drop_succ_cons, List.drop_zero, List.drop_nil, List.contains_cons, List.contains_nil, Nat.reduceBEq, Nat.reduceEqDiff, beq_self_eq_true, Bool.or_false, Bool.false_or, Bool.or_true, Bool.true_or, Bool.false_eq_true, Option.map_some, Option.map_none, List.map_cons, List.map_nil, List.cons_append, List.nil_append, List.append_nil, List.length_cons, List.length_nil, Nat.reduceAdd, Nat.reduceLT, Nat.reduceSub, if_true, if_false, Nat.zero_add, Nat.add_zero, Nat.sub_zero, Nat.lt_irrefl, Nat.not_lt_zero, Nat.zero_lt_one, Nat.lt_add_one] at hF); (try simp only [List.set_cons_zero, List.set_cons_succ, updH, posOf, lentArr, killF, killO, killV, AV.has, AV.hasL, AV.emb, AV.embL, OB.emb, embB, List.filter_cons, List.filter_nil, List.getElem?_cons_zero, List.getElem?_cons_succ, List.getD_cons_zero, List.getD_cons_succ, List.drop_succ_cons, List.drop_zero, List.drop_nil, List.contains_cons, List.contains_nil, Nat.reduceBEq, Nat.reduceEqDiff, beq_self_eq_true, Bool.or_false, Bool.false_or, Bool.or_true, Bool.true_or, Bool.false_eq_true, Option.map_some, Option.map_none, List.map_cons, List.map_nil, List.cons_append, List.nil_append, List.append_nil, List.length_cons, List.length_nil, Nat.reduceAdd, Nat.reduceLT, Nat.reduceSub, if_true, if_false, Nat.zero_add, Nat.add_zero, Nat.sub_zero, Nat.lt_irrefl, Nat.not_lt_zero, Nat.zero_lt_one, Nat.lt_add_one] at hH); subst hF; subst hH
    refine WE ?_
    refine WR ?_
    refine al_ef rfl (ef_callm false (fun _ => flip_a 2 _ _ _ hs (by omega) (by omega) (by simp only [in64]; omega)) rfl .fn rfl (by decide) (by kernel_rfl) rfl rfl (fun _g => .cons (.p rfl) (.cons (.c rfl) .nil)) (fun _g => .cons (.c rfl) (.cons (.c rfl) .nil)) (by simp)) ?_
    rintro F1 H1 ⟨_, _, _, _, ⟨bb, rfl, hq⟩, hF, hH⟩
    injection hq with hq1 hq2; subst hq1; subst hq2
    (try simp only [nsl, Nat.reduceAdd, Nat.reduceLT, Nat.reduceSub] at hF); (try simp only [nsl, Nat.reduceAdd, Nat.reduceLT, Nat.reduceSub] at hH); subst hF; subst hH
    refine WE ?_
    refine aw_cut (fun F H => ∃ (Vn : List Vec3) (Fn : List Fac3) (c2 d2 : Nat) (a2 : Int), a1 ≤ a2 ∧ a2 ≤ a1 + 50 ∧ Vn.length ≤ 8 ∧ Fn.length ≤ 12 ∧ 4 ≤ Fn.length ∧ Fn.length ≤ d2 ∧ (∀ f ∈ Fn, fIn Vn.length f) ∧ F = [(0, .p 0 0 0), (2, .p 1 0 0), (3, .p 2 0 0), (4, .p 5 0 0), (10, .c (I rr1)), (11, .c (I k))] ∧ H = [strm v zs a2, .box [.c (.r (.slice none 0 0) []), .c (.r (.slice none 0 0) [])], .box [.o 3 0 V.length cv, .o 4 0 Fs.length cf], .arr 34 3 cv (vR V), .arr 140 3 cf (fR Fs), .box [.o 6 0 Vn.length c2, .o 7 0 Fn.length d2], .arr 34 3 c2 (vR Vn), .arr 140 3 d2 (fR Fn)]) ?_ ?_ wk_aw
    · refine aw_cond rfl (fun _ => ?_) (fun _ => ?_)
      · refine WR ?_
        refine al_ef rfl (ef_callm false (fun _ => avecb_v _ _ _ hs (by omega) (by omega)) rfl .fn rfl (by decide) (by kernel_rfl) rfl rfl (fun _g => .cons (.p rfl) .nil) (fun _g => .cons (.c rfl) (.cons (.c rfl) .nil)) (by simp)) ?_
        rintro F1 H1 ⟨_, _, _, _, ⟨p2, ap2, rfl, hq, up2, vp2, wp2, xp2, yp2⟩, hF, hH⟩
        injection hq with hq1 hq2; subst hq1; subst hq2
        (try simp only [nsl, Nat.reduceAdd, Nat.reduceLT, Nat.reduceSub] at hF); (try simp only [nsl, Nat.reduceAdd, Nat.reduceLT, Nat.reduceSub] at hH); subst hF; subst hH
        refine WO ?_
        refine al_ef rfl (ef_callm true (fun _ => pick_a [1, 5] _ _ _ _ hs (by omega) (by omega) (by simp) (by simp)) rfl .fn rfl (by decide) (by kernel_rfl) rfl rfl (fun _g => .cons (.p rfl) (.cons (.frz rfl rfl rfl rfl rfl) .nil)) (fun _g => .cons (.c rfl) (.cons (.c rfl) .nil)) (fun _ _ _ _ ⟨_, hu, hH, _⟩ => by rw [hu, hH]; exact ⟨.c (.inl trivial), strm_flat (.inr ⟨0, _, rfl, by simp⟩)⟩)) ?_
        rintro F1 H1 ⟨_, _, _, _, ⟨bx, rfl, hq, hrm⟩, hF, hH⟩
        injection hq with hq1 hq2; subst hq1; subst hq2
        (try simp only [nsl, Nat.reduceAdd, Nat.reduceLT, Nat.reduceSub] at hF); (try simp only [nsl, Nat.reduceAdd, Nat.reduceLT, Nat.reduceSub] at hH); subst hF; subst hH
        have hbx : 0 ≤ bx ∧ bx ≤ 1000 := by simp only [List.mem_cons, List.not_mem_nil, or_false] at hrm; omega
        clear hrm
        refine WO ?_
        refine al_ef rfl (ef_callm true (fun _ => pick_a [2, 10] _ _ _ _ hs (by omega) (by omega) (by simp) (by simp)) rfl .fn rfl (by decide) (by kernel_rfl) rfl rfl (fun _g => .cons (.p rfl) (.cons (.frz rfl rfl rfl rfl rfl) .nil)) (fun _g => .cons (.c rfl) (.cons (.c rfl) .nil)) (fun _ _ _ _ ⟨_, hu, hH, _⟩ => by rw [hu, hH]; exact ⟨.c (.inl trivial), strm_flat (.inr ⟨0, _, rfl, by simp⟩)⟩)) ?_
        rintro F1 H1 ⟨_, _, _, _, ⟨by', rfl, hq, hrm⟩, hF, hH⟩
        injection hq with hq1 hq2; subst hq1; subst hq2
        (try simp only [nsl, Nat.reduceAdd, Nat.reduceLT, Nat.reduceSub] at hF); (try simp only [nsl, Nat.reduceAdd, Nat.reduceLT, Nat.reduceSub] at hH); subst hF; subst hH
        have hby' : 0 ≤ by' ∧ by' ≤ 1000 := by simp only [List.mem_cons, List.not_mem_nil, or_false] at hrm; omega
        clear hrm
        refine WO ?_
        refine al_ef rfl (ef_callm true (fun _ => pick_a [3, 8] _ _ _ _ hs (by omega) (by omega) (by simp) (by simp)) rfl .fn rfl (by decide) (by kernel_rfl) rfl rfl (fun _g => .cons (.p rfl) (.cons (.frz rfl rfl rfl rfl rfl) .nil)) (fun _g => .cons (.c rfl) (.cons (.c rfl) .nil)) (fun _ _ _ _ ⟨_, hu, hH, _⟩ => by rw [hu, hH]; exact ⟨.c (.inl trivial), strm_flat (.inr ⟨0, _, rfl, by simp⟩)⟩)) ?_
        rintro F1 H1 ⟨_, _, _, _, ⟨bz, rfl, hq, hrm⟩, hF, hH⟩
        injection hq with hq1 hq2; subst hq1; subst hq2
        (try simp only [nsl, Nat.reduceAdd, Nat.reduceLT, Nat.reduceSub] at hF); (try simp only [nsl, Nat.reduceAdd, Nat.reduceLT, Nat.reduceSub] at hH); subst hF; subst hH
        have hbz : 0 ≤ bz ∧ bz ≤ 1000 := by simp only [List.mem_cons, List.not_mem_nil, or_false] at hrm; omega
        clear hrm
        refine al_ef rfl (ef_call [] (fun _ => []) false (fun _ => block_v p2 bx by' bz (by omega) (by omega) (by omega) (by omega)) rfl .fn rfl (by decide) (by kernel_rfl) rfl (fun _ => C0 rfl) (by decide) (fun _ => .nil) (by simp)) ?_
        rintro F1 H1 ⟨_, _, _, _, ⟨Vn, Fn, c2, d2, hV2, hF2, hd2, hi2, rfl, rfl⟩, hF, hH⟩
        (try simp only [List.set_cons_zero, List.set_cons_succ, updH, posOf, lentArr, killF, killO, killV, AV.has, AV.hasL, AV.emb, AV.embL, OB.emb, embB, List.filter_cons, List.filter_nil, List.getElem?_cons_zero, List.getElem?_cons_succ, List.getD_cons_zero, List.getD_cons_succ, List.drop_succ_cons, List.drop_zero, List.drop_nil, List.contains_cons, List.contains_nil, Nat.reduceBEq, Nat.reduceEqDiff, beq_self_eq_true, Bool.or_false, Bool.false_or, Bool.or_true, Bool.true_or, Bool.false_eq_true, Option.map_some, Option.map_none, List.map_cons, List.map_nil, List.cons_append, List.nil_append, List.append_nil, List.length_cons, List.length_nil, Nat.reduceAdd, Nat.reduceLT, Nat.reduceSub, if_true, if_false, Nat.zero_add, Nat.add_zero, Nat.sub_zero, Nat.lt_irrefl, Nat.not_lt_zero, Nat.zero_lt_one, Nat.lt_add_one] at hF); (try simp only [List.set_cons_zero, List.set_cons_succ, updH, posOf, lentArr, killF, killO, killV, AV.has, AV.hasL, AV.emb, AV.embL, OB.emb, embB, List.filter_cons, List.filter_nil, List.getElem?_cons_zero, List.getElem?_cons_succ, List.getD_cons_zero, List.getD_cons_succ, List.drop_succ_cons, List.drop_zero, List.drop_nil, List.contains_cons, List.contains_nil, Nat.reduceBEq, Nat.reduceEqDiff, beq_self_eq_true, Bool.or_false, Bool.false_or, Bool.or_true, Bool.true_or, Bool.false_eq_true, Option.map_some, Option.map_none, List.map_cons, List.map_nil, List.cons_append, List.nil_append, List.append_nil, List.length_cons, List.length_nil, Nat.reduceAdd, Nat.reduceLT, Nat.reduceSub, if_true, if_false, Nat.zero_add, Nat.add_zero, Nat.sub_zero, Nat.lt_irrefl, Nat.not_lt_zero, Nat.zero_lt_one, Nat.lt_add_one] at hH); subst hF; subst hH
        refine WE ?_
        refine wk_of [some 0, some 1, some 2, some 3, some 4, some 8, some 12, some 13] (fun _ => [(0, .p 0 0 0), (2, .p 1 0 0), (3, .p 2 0 0), (4, .p 5 0 0), (10, .c (I rr1)), (11, .c (I k))]) (fun _ => [strm v zs _, .box [.c (.r (.slice none 0 0) []), .c (.r (.slice none 0 0) [])], .box [.o 3 0 V.length cv, .o 4 0 Fs.length cf], .arr 34 3 cv (vR V), .arr 140 3 cf (fR Fs), .box [.o 6 0 Vn.length c2, .o 7 0 Fn.length d2], .arr 34 3 c2 (vR Vn), .arr 140 3 d2 (fR Fn)]) (by decide) (ZNL hE) ZCF ZCH (fun _ => ?_)
        exact ⟨Vn, Fn, c2, d2, _, by omega, by omega, by omega, by omega, by omega, by omega, by rw [hV2]; exact hi2, rfl, rfl⟩
      · refine ZZ ?_
        refine wk_of [some 0, some 1, some 2, some 3, some 4, some 8, some 6, some 7] (fun _ => [(0, .p 0 0 0), (2, .p 1 0 0), (3, .p 2 0 0), (4, .p 5 0 0), (10, .c (I rr1)), (11, .c (I k))]) (fun _ => [strm v zs _, .box [.c (.r (.slice none 0 0) []), .c (.r (.slice none 0 0) [])], .box [.o 3 0 V.length cv, .o 4 0 Fs.length cf], .arr 34 3 cv (vR V), .arr 140 3 cf (fR Fs), .box [.o 6 0 (tetV p1 rr).length 4, .o 7 0 tetF.length 4], .arr 34 3 4 (vR (tetV p1 rr)), .arr 140 3 4 (fR tetF)]) (by decide) (ZNL hE) ZCF ZCH (fun _ => ?_)
        exact ⟨tetV p1 rr, tetF, 4, 4, _, by omega, by omega, by simp [tetV], by decide, by decide, by decide, tetF_in, rfl, rfl⟩
    rintro F H ⟨Vn, Fn, c2, d2, a2, ha3, ha4, hV2, hF2, hF24, hd2, hi2, rfl, rfl⟩
    refine WA ?_
    refine aw_if rfl (fun he => ?_) (fun he => ?_)
    · refine WA ?_
      refine WA ?_
      refine wk_of [some 0, some 1, some 2, some 6, some 7] (fun _ => [(0, .p 0 0 0), (2, .p 1 0 0), (3, .p 2 0 0), (10, .c (I rr1)), (11, .c (I (k + 1 : Nat)))]) (fun _ => [strm v zs _, .box [.c (.r (.slice none 0 0) []), .c (.r (.slice none 0 0) [])], .box [.o 3 0 Vn.length c2, .o 4 0 Fn.length d2], .arr 34 3 c2 (vR Vn), .arr 140 3 d2 (fR Fn)]) (by decide) (ZNL hE) ZCF ZCH (fun _ => ?_)
      exact ⟨m - 1, by omega, k + 1, c2, d2, Vn, Fn, a2, by omega, by omega, by omega, by omega, by omega, by omega, hi2, hd2, rfl, rfl⟩
    refine ZZ ?_
    refine WA ?_
    refine WR ?_
    refine al_ef rfl (Zapp (news := vR Vn) (KA (t := 26) rfl) (hsrc := Src.own rfl (by rw [List.drop_zero, List.take_of_length_le (by simp)]) (by simp)) (hj := rfl) (hle := by simp; omega)) ?_
    rintro _ _ ⟨_, cv2, hcv2, rfl, rfl⟩
    refine WE ?_
    refine WA ?_
    have hvn : (V ++ Vn).length = V.length + Vn.length := by simp
    refine aw_loopw (fun m2 F H => ∃ (j d3 : Nat) (G : List Fac3), m2 + j = Fn.length ∧ G.length = Fs.length + j ∧ (∀ f ∈ G, fIn (V ++ Vn).length f) ∧ G.length ≤ d3 ∧ F = [(0, .p 0 0 0), (2, .p 1 0 0), (3, .p 2 0 0), (5, .c (I V.length)), (10, .c (I rr1)), (11, .c (I k)), (48, .o 5 0 Fn.length d2), (49, .c (I Fn.length)), (50, .c (I j))] ∧ H = [strm v zs a2, .box [.c (.r (.slice none 0 0) []), .c (.r (.slice none 0 0) [])], .box [.o 3 0 (V ++ Vn).length cv2, .o 4 0 G.length d3], .arr 34 3 cv2 (vR (V ++ Vn)), .arr 140 3 d3 (fR G), .arr 140 3 d2 (fR Fn)]) ?_ ?_
    · refine wk_of [some 0, some 1, some 2, some 3, some 4, some 7] (fun _ => [(0, .p 0 0 0), (2, .p 1 0 0), (3, .p 2 0 0), (5, .c (I V.length)), (10, .c (I rr1)), (11, .c (I k)), (48, .o 5 0 Fn.length d2), (49, .c (I Fn.length)), (50, .c (I (0 : Nat)))]) (fun _ => [strm v zs a2, .box [.c (.r (.slice none 0 0) []), .c (.r (.slice none 0 0) [])], .box [.o 3 0 (V ++ Vn).length cv2, .o 4 0 Fs.length cf], .arr 34 3 cv2 (vR (V ++ Vn)), .arr 140 3 cf (fR Fs), .arr 140 3 d2 (fR Fn)]) (by decide) (ZNL hE) ZCF ZCH (fun _ => ?_)
      exact ⟨Fn.length, 0, cf, Fs, by omega, by omega, fun f hf => fIn_mono (hin f hf) (by omega), by omega, rfl, rfl⟩
    rintro m2 F H ⟨j, d3, G, hj, hG, hGi, hGd, rfl, rfl⟩
    refine WA ?_
    refine aw_if rfl (fun hlt2 => ?_) (fun hge2 => ?_)
    · obtain ⟨f, hf⟩ : ∃ z, Fn[j]? = some z := ⟨_, List.getElem?_eq_getElem (by omega)⟩
      have hfi := hi2 f (List.mem_of_getElem? hf)
      obtain ⟨fa, fb, fc⟩ := f
      simp only [fIn] at hfi
      obtain ⟨f1, f2, f3⟩ := hfi
      have hrow : (fR Fn)[j]? = some [I fa, I fb, I fc] := by rw [List.getElem?_map, hf]; rfl
      have hrow0 : (fR Fn)[0 + j]? = some [I fa, I fb, I fc] := by rw [Nat.zero_add]; exact hrow
      refine WA ?_
      refine WR ?_
      refine al_ef rfl (Zapp (KA (t := 27) rfl)) ?_
      rintro _ _ ⟨_, cc, hcc, rfl, rfl⟩
      refine WE ?_
      refine WA ?_
      refine wk_of [some 0, some 1, some 2, some 3, some 4, some 5] (fun _ => [(0, .p 0 0 0), (2, .p 1 0 0), (3, .p 2 0 0), (5, .c (I V.length)), (10, .c (I rr1)), (11, .c (I k)), (48, .o 5 0 Fn.length d2), (49, .c (I Fn.length)), (50, .c (I (j + 1 : Nat)))]) (fun _ => [strm v zs a2, .box [.c (.r (.slice none 0 0) []), .c (.r (.slice none 0 0) [])], .box [.o 3 0 (V ++ Vn).length cv2, .o 4 0 (G ++ [(⟨fa + V.length, fb + V.length, fc + V.length⟩ : Fac3)]).length cc], .arr 34 3 cv2 (vR (V ++ Vn)), .arr 140 3 cc (fR (G ++ [(⟨fa + V.length, fb + V.length, fc + V.length⟩ : Fac3)])), .arr 140 3 d2 (fR Fn)]) (by decide) (ZNL hE) ZCF ZCH (fun _ => ?_)
      exact ⟨m2 - 1, by omega, j + 1, cc, _, by omega, by simp; omega, fun f hf => by
        rcases List.mem_append.1 hf with hf | hf
        · exact hGi f hf
        · rw [List.mem_singleton.1 hf]; simp only [fIn]; omega, by simp; omega, rfl, rfl⟩
    refine ZZ ?_
    refine WA ?_
    refine wk_of [some 0, some 1, some 2, some 3, some 4] (fun _ => [(0, .p 0 0 0), (2, .p 1 0 0), (3, .p 2 0 0), (10, .c (I rr1)), (11, .c (I (k + 1 : Nat)))]) (fun _ => [strm v zs a2, .box [.c (.r (.slice none 0 0) []), .c (.r (.slice none 0 0) [])], .box [.o 3 0 (V ++ Vn).length cv2, .o 4 0 G.length d3], .arr 34 3 cv2 (vR (V ++ Vn)), .arr 140 3 d3 (fR G)]) (by decide) (ZNL hE) ZCF ZCH (fun _ => ?_)
    exact ⟨m - 1, by omega, k + 1, cv2, d3, V ++ Vn, G, a2, by omega, by omega, by omega, by omega, by omega, by omega, hGi, hGd, rfl, rfl⟩
  refine ZZ ?_
  have hF5 := hF4 (by omega)
  refine WR ?_
  refine al_ef rfl (ef_callm false (fun _ => flip_a 3 _ _ _ hs (by omega) (by omega) (by simp only [in64]; omega)) rfl .fn rfl (by decide) (by kernel_rfl) rfl rfl (fun _g => .cons (.p rfl) (.cons (.c rfl) .nil)) (fun _g => .cons (.c rfl) (.cons (.c rfl) .nil)) (by simp)) ?_
  rintro F1 H1 ⟨_, _, _, _, ⟨bb, rfl, hq⟩, hF, hH⟩
  injection hq with hq1 hq2; subst hq1; subst hq2
  (try simp only [nsl, Nat.reduceAdd, Nat.reduceLT, Nat.reduceSub] at hF); (try simp only [nsl, Nat.reduceAdd, Nat.reduceLT, Nat.reduceSub] at hH); subst hF; subst hH
  refine WE ?_
  refine aw_cut (fun F H => ∃ (V : List Vec3) (Fs : List Fac3) (cv cf : Nat) (a1 : Int), a ≤ a1 ∧ a1 ≤ a + 130 ∧ V.length ≤ 16 ∧ Fs.length ≤ 24 ∧ 3 ≤ Fs.length ∧ (∀ f ∈ Fs, fIn V.length f) ∧ F = [(0, .p 0 0 0), (2, .p 1 0 0), (3, .p 2 0 0)] ∧ H = [strm v zs a1, .box [.c (.r (.slice none 0 0) []), .c (.r (.slice none 0 0) [])], .box [.o 3 0 V.length cv, .o 4 0 Fs.length cf], .arr 34 3 cv (vR V), .arr 140 3 cf (fR Fs)]) ?_ ?_ wk_aw
  · refine aw_cond rfl (fun _ => ?_) (fun _ => ?_)
    · refine WR ?_
      refine al_ef rfl (ef_callm false (fun _ => next_a (↑Fs.length) _ _ _ hs (by omega) (by omega) (by simp only [in64]; omega)) rfl .fn rfl (by decide) (by kernel_rfl) rfl rfl (fun _g => .cons (.p rfl) (.cons (.c rfl) .nil)) (fun _g => .cons (.c rfl) (.cons (.c rfl) .nil)) (by simp)) ?_
      rintro F1 H1 ⟨_, _, _, _, ⟨rr, rfl, hq, hr1, hr2⟩, hF, hH⟩
      injection hq with hq1 hq2; subst hq1; subst hq2
      (try simp only [nsl, Nat.reduceAdd, Nat.reduceLT, Nat.reduceSub] at hF); (try simp only [nsl, Nat.reduceAdd, Nat.reduceLT, Nat.reduceSub] at hH); subst hF; subst hH
      obtain ⟨i, rfl⟩ : ∃ i : Nat, rr = i := ⟨rr.toNat, by omega⟩
      have hi := hr2 (by omega)
      clear hr1 hr2
      refine WE ?_
      refine WR ?_
      refine al_ef rfl (ef_call [4] (fun _ => [.arr 140 3 cf (fR Fs)]) false (fun _ => deleteF_v Fs i cf (by omega) (by omega) hcf) rfl .fn rfl (by decide) (by kernel_rfl) rfl (fun _ => .cons (.o rfl rfl) (.cons (.c rfl) (.cons (.c rfl) .nil))) (by decide) (fun _ => .arr rfl rfl .nil) (by simp)) ?_
      rintro F1 H1 ⟨_, _, _, _, ⟨G, hG, rfl, rfl⟩, hF, hH⟩
      (try simp only [List.set_cons_zero, List.set_cons_succ, updH, posOf, lentArr, killF, killO, killV, AV.has, AV.hasL, AV.emb, AV.embL, OB.emb, embB, List.filter_cons, List.filter_nil, List.getElem?_cons_zero, List.getElem?_cons_succ, List.getD_cons_zero, List.getD_cons_succ, List.drop_succ_cons, List.drop_zero, List.drop_nil, List.contains_cons, List.contains_nil, Nat.reduceBEq, Nat.reduceEqDiff, beq_self_eq_true, Bool.or_false, Bool.false_or, Bool.or_true, Bool.true_or, Bool.false_eq_true, Option.map_some, Option.map_none, List.map_cons, List.map_nil, List.cons_append, List.nil_append, List.append_nil, List.length_cons, List.length_nil, Nat.reduceAdd, Nat.reduceLT, Nat.reduceSub, if_true, if_false, Nat.zero_add, Nat.add_zero, Nat.sub_zero, Nat.lt_irrefl, Nat.not_lt_zero, Nat.zero_lt_one, Nat.lt_add_one] at hF); (try simp only [List.set_cons_zero, List.set_cons_succ, updH, posOf, lentArr, killF, killO, killV, AV.has, AV.hasL, AV.emb, AV.embL, OB.emb, embB, List.filter_cons, List.filter_nil, List.getElem?_cons_zero, List.getElem?_cons_succ, List.getD_cons_zero, List.getD_cons_succ, List.drop_succ_cons, List.drop_zero, List.drop_nil, List.contains_cons, List.contains_nil, Nat.reduceBEq, Nat.reduceEqDiff, beq_self_eq_true, Bool.or_false, Bool.false_or, Bool.or_true, Bool.true_or, Bool.false_eq_true, Option.map_some, Option.map_none, List.map_cons, List.map_nil, List.cons_append, List.nil_append, List.append_nil, List.length_cons, List.length_nil, Nat.reduceAdd, Nat.reduceLT, Nat.reduceSub, if_true, if_false, Nat.zero_add, Nat.add_zero, Nat.sub_zero, Nat.lt_irrefl, Nat.not_lt_zero, Nat.zero_lt_one, Nat.lt_add_one] at hH); subst hF; subst hH
      refine WE ?_
      have hGl : G.length + 1 = Fs.length := by rw [hG]; simp; omega
      refine wk_of [some 0, some 1, some 2, some 3, some 4] (fun _ => [(0, .p 0 0 0), (2, .p 1 0 0), (3, .p 2 0 0)]) (fun _ => [strm v zs _, .box [.c (.r (.slice none 0 0) []), .c (.r (.slice none 0 0) [])], .box [.o 3 0 V.length cv, .o 4 0 G.length cf], .arr 34 3 cv (vR V), .arr 140 3 cf (fR G)]) (by decide) (ZNL hE) ZCF ZCH (fun _ => ?_)
      exact ⟨V, G, cv, cf, _, by omega, by omega, by omega, by omega, by omega, fun f hf => hin f (by
        rw [hG] at hf
        rcases List.mem_append.1 hf with hf | hf
        · exact List.mem_of_mem_take hf
        · exact List.mem_of_mem_drop hf), rfl, rfl⟩
    · refine ZZ ?_
      refine wk_of [some 0, some 1, some 2, some 3, some 4] (fun _ => [(0, .p 0 0 0), (2, .p 1 0 0), (3, .p 2 0 0)]) (fun _ => [strm v zs _, .box [.c (.r (.slice none 0 0) []), .c (.r (.slice none 0 0) [])], .box [.o 3 0 V.length cv, .o 4 0 Fs.length cf], .arr 34 3 cv (vR V), .arr 140 3 cf (fR Fs)]) (by decide) (ZNL hE) ZCF ZCH (fun _ => ?_)
      exact ⟨V, Fs, cv, cf, _, by omega, by omega, by omega, by omega, by omega, hin, rfl, rfl⟩
  clear hcf hin hF4 hF5 hFl hV ha1 ha2 hk
  rintro F H ⟨V, Fs, cv, cf, a1, ha1, ha2, hV, hFl, hF3, hin, rfl, rfl⟩
  refine WR ?_
  refine al_ef rfl (ef_callm false (fun _ => flip_a 8 _ _ _ hs (by omega) (by omega) (by simp only [in64]; omega)) rfl .fn rfl (by decide) (by kernel_rfl) rfl rfl (fun _g => .cons (.p rfl) (.cons (.c rfl) .nil)) (fun _g => .cons (.c rfl) (.cons (.c rfl) .nil)) (by simp)) ?_
  rintro F1 H1 ⟨_, _, _, _, ⟨bb, rfl, hq⟩, hF, hH⟩
  injection hq with hq1 hq2; subst hq1; subst hq2
  (try simp only [nsl, Nat.reduceAdd, Nat.reduceLT, Nat.reduceSub] at hF); (try simp only [nsl, Nat.reduceAdd, Nat.reduceLT, Nat.reduceSub] at hH); subst hF; subst hH
  refine WE ?_
  refine aw_cut (fun F H => ∃ (V : List Vec3) (Fs : List Fac3) (cv cf : Nat) (a1 : Int), a ≤ a1 ∧ a1 ≤ a + 160 ∧ V.length ≤ 16 ∧ Fs.length ≤ 25 ∧ F = [(0, .p 0 0 0), (2, .p 1 0 0), (3, .p 2 0 0)] ∧ H = [strm v zs a1, .box [.c (.r (.slice none 0 0) []), .c (.r (.slice none 0 0) [])], .box [.o 3 0 V.length cv, .o 4 0 Fs.length cf], .arr 34 3 cv (vR V), .arr 140 3 cf (fR Fs)]) ?_ ?_ wk_aw
  · refine aw_cond rfl (fun _ => ?_) (fun _ => ?_)
    · refine WR ?_
      refine al_ef rfl (ef_call [0, 2, 3, 4] (fun _ => [strm v zs (a1 + 1), .box [.o 2 0 V.length cv, .o 3 0 Fs.length cf], .arr 34 3 cv (vR V), .arr 140 3 cf (fR Fs)]) false (fun _ => spoil_v v zs (a1 + 1) hs (by omega) (by omega) V Fs cv cf (by omega) (by omega) (by omega) hin) rfl .fn rfl (by decide) (by kernel_rfl) rfl ZCH (by decide) ZCH (by simp)) ?_
      rintro F1 H1 ⟨_, _, _, _, ⟨a2, Vn, Fn, cf2, rfl, rfl, ha3, ha4, hV2, hF2⟩, hF, hH⟩
      (try simp only [List.set_cons_zero, List.set_cons_succ, updH, posOf, lentArr, killF, killO, killV, AV.has, AV.hasL, AV.emb, AV.embL, OB.emb, embB, List.filter_cons, List.filter_nil, List.getElem?_cons_zero, List.getElem?_cons_succ, List.getD_cons_zero, List.getD_cons_succ, List.drop_succ_cons, List.drop_zero, List.drop_nil, List.contains_cons, List.contains_nil, Nat.reduceBEq, Nat.reduceEqDiff, beq_self_eq_true, Bool.or_false, Bool.false_or, Bool.or_true, Bool.true_or, Bool.false_eq_true, Option.map_some, Option.map_none, List.map_cons, List.map_nil, List.cons_append, List.nil_append, List.append_nil, List.length_cons, List.length_nil, Nat.reduceAdd, Nat.reduceLT, Nat.reduceSub, if_true, if_false, Nat.zero_add, Nat.add_zero, Nat.sub_zero, Nat.lt_irrefl, Nat.not_lt_zero, Nat.zero_lt_one, Nat.lt_add_one] at hF); (try simp only [List.set_cons_zero, List.set_cons_succ, updH, posOf, lentArr, killF, killO, killV, AV.has, AV.hasL, AV.emb, AV.embL, OB.emb, embB, List.filter_cons, List.filter_nil, List.getElem?_cons_zero, List.getElem?_cons_succ, List.getD_cons_zero, List.getD_cons_succ, List.drop_succ_cons, List.drop_zero, List.drop_nil, List.contains_cons, List.contains_nil, Nat.reduceBEq, Nat.reduceEqDiff, beq_self_eq_true, Bool.or_false, Bool.false_or, Bool.or_true, Bool.true_or, Bool.false_eq_true, Option.map_some, Option.map_none, List.map_cons, List.map_nil, List.cons_append, List.nil_append, List.append_nil, List.length_cons, List.length_nil, Nat.reduceAdd, Nat.reduceLT, Nat.reduceSub, if_true, if_false, Nat.zero_add, Nat.add_zero, Nat.sub_zero, Nat.lt_irrefl, Nat.not_lt_zero, Nat.zero_lt_one, Nat.lt_add_one] at hH); subst hF; subst hH
      refine WE ?_
      refine wk_of [some 0, some 1, some 2, some 3, some 4] (fun _ => [(0, .p 0 0 0), (2, .p 1 0 0), (3, .p 2 0 0)]) (fun _ => [strm v zs _, .box [.c (.r (.slice none 0 0) []), .c (.r (.slice none 0 0) [])], .box [.o 3 0 Vn.length cv, .o 4 0 Fn.length cf2], .arr 34 3 cv (vR Vn), .arr 140 3 cf2 (fR Fn)]) (by decide) (ZNL hE) ZCF ZCH (fun _ => ?_)
      exact ⟨Vn, Fn, cv, cf2, _, by omega, by omega, by omega, by omega, rfl, rfl⟩
    · refine ZZ ?_
      refine wk_of [some 0, some 1, some 2, some 3, some 4] (fun _ => [(0, .p 0 0 0), (2, .p 1 0 0), (3, .p 2 0 0)]) (fun _ => [strm v zs _, .box [.c (.r (.slice none 0 0) []), .c (.r (.slice none 0 0) [])], .box [.o 3 0 V.length cv, .o 4 0 Fs.length cf], .arr 34 3 cv (vR V), .arr 140 3 cf (fR Fs)]) (by decide) (ZNL hE) ZCF ZCH (fun _ => ?_)
      exact ⟨V, Fs, cv, cf, _, by omega, by omega, by omega, by omega, rfl, rfl⟩
  clear hin hF3 hFl hV ha1 ha2
  rintro F H ⟨V, Fs, cv, cf, a1, ha1, ha2, hV, hFl, rfl, rfl⟩
  refine WA ?_
  exact aret_of (us := [.a [.o 3 0 (V).length cv, .o 4 0 (Fs).length cf]]) [some 0] (fun g => .a [.c (.r (g (.o 3 0 (V).length cv)) (vR (V))), .c (.r (g (.o 4 0 (Fs).length cf)) (fR (Fs)))]) (fun _ => [strm v zs a1]) (.cella rfl (KK (t := 29) rfl) (Cells.box rfl) (by simp) (by (try simp only [nm, putL, Nat.reduceAdd, cellsOf, cvOf]) <;> rfl) .nil) (by decide) (ZNK rfl) (fun _ => .aL (.cons (.frz rfl rfl (by rw [List.drop_zero, List.take_of_length_le (by simp)]) (by simp) rfl) (.cons (.frz rfl rfl (by rw [List.drop_zero, List.take_of_length_le (by simp)]) (by simp) rfl) .nil))) ZCH (fun _ => ⟨_, _, _, V, Fs, rfl, rfl, by omega, by omega, hV, hFl⟩)
end Go.Proofs.YthanangkmjjbaaaGreatDoor

/- Right meshes of the stream, by value. -/
-- NEWM
namespace Go.Proofs.YthanangkmjjbaaaGreatDoor
open Go Go.RowKit
set_option maxRecDepth 100000
set_option maxHeartbeats 8000000 in
theorem rightmesh_v (v : Value) (zs : List Int) (a : Int) (hs : StrOk zs) (h0 : 0 ≤ a) (h1 : a ≤ 600000000) :
    ACalls Tryz.prog 16 [.p 0 0 0] [strm v zs a] fun u H => ∃ (a' : Int) (q w : Value) (V : List Vec3) (Fs : List Fac3), u = mshA q w V Fs ∧ H = [strm v zs a'] ∧ a ≤ a' ∧ a' ≤ a + 1600 ∧ V.length ≤ 16 ∧ Fs.length ≤ 25 ∧ mshF V Fs = 0 := by
  refine acalls_of (N := 15) Tryz.func16 rfl rfl (by simp) fun E hE => ?_
  refine WA ?_
  refine WA ?_
  refine aw_loopw (fun m F H => ∃ (k : Nat) (a1 : Int), m + k = 8 ∧ a ≤ a1 ∧ a1 ≤ a + 200 * k ∧ F = [(0, .p 0 0 0), (2, .p 1 0 0), (4, .c (I k))] ∧ H = [strm v zs a1, .box [.c (.r (.slice none 0 0) []), .c (.r (.slice none 0 0) [])]]) ?_ ?_
  · refine wk_of [some 0, some 1] (fun _ => [(0, .p 0 0 0), (2, .p 1 0 0), (4, .c (I (0 : Nat)))]) (fun _ => [strm v zs a, .box [.c (.r (.slice none 0 0) []), .c (.r (.slice none 0 0) [])]]) (by decide) (ZNL hE) ZCF ZCH (fun _ => ?_)
    exact ⟨8, 0, a, by omega, by omega, by omega, rfl, rfl⟩
  rintro m F H ⟨k, a1, hk, ha1, ha2, rfl, rfl⟩
  refine WA ?_
  refine aw_if rfl (fun hlt => ?_) (fun hge => ?_)
  · refine WR ?_
    refine al_ef rfl (ef_callm false (fun _ => amesh_v _ _ _ hs (by omega) (by omega)) rfl .fn rfl (by decide) (by kernel_rfl) rfl rfl (fun _g => .cons (.p rfl) .nil) (fun _g => .cons (.c rfl) (.cons (.c rfl) .nil)) (by simp)) ?_
    rintro F1 H1 ⟨_, _, _, _, ⟨a2, q, w, V, Fs, rfl, hq, ha3, ha4, hV, hFl⟩, hF, hH⟩
    injection hq with hq1 hq2; subst hq1; subst hq2
    (try simp only [nsl, Nat.reduceAdd, Nat.reduceLT, Nat.reduceSub] at hF); (try simp only [nsl, Nat.reduceAdd, Nat.reduceLT, Nat.reduceSub] at hH); subst hF; subst hH
    refine WE ?_
    refine WR ?_
    refine al_ef rfl (ef_call0 false (fun _ => rmshF_v q w V Fs (by omega) (by omega)) rfl .fn rfl (by decide) (by kernel_rfl) rfl (fun _ => C0 rfl) (by simp)) ?_
    rintro _ _ ⟨_, _, _, ⟨rfl, rfl⟩, hF, hH⟩
    (try simp only [nsl, Nat.reduceAdd, Nat.reduceLT, Nat.reduceSub] at hF); (try simp only [nsl, Nat.reduceAdd, Nat.reduceLT, Nat.reduceSub] at hH); subst hF; subst hH
    refine WE ?_
    refine aw_if rfl (fun hok => ?_) (fun hok => ?_)
    · refine WA ?_
      exact aret_a [some 0] [strm v zs a2] rfl (KK (t := 29) rfl) rfl (Cells.box rfl) (by simp) (by (try simp only [nm, putL, Nat.reduceAdd, cellsOf, cvOf]) <;> rfl) (by decide) (ZNK rfl) (fun _ => C0 rfl) ZCH ⟨_, q, w, V, Fs, rfl, rfl, by omega, by omega, hV, hFl, hok⟩
    · refine ZZ ?_
      refine WA ?_
      refine wk_of [some 0, some 1] (fun _ => [(0, .p 0 0 0), (2, .p 1 0 0), (4, .c (I (k + 1 : Nat)))]) (fun _ => [strm v zs a2, .box [.c (.r (.slice none 0 0) []), .c (.r (.slice none 0 0) [])]]) (by decide) (ZNL hE) ZCF ZCH (fun _ => ?_)
      exact ⟨m - 1, by omega, k + 1, a2, by omega, by omega, by omega, rfl, rfl⟩
  refine ZZ ?_
  refine WR ?_
  refine al_ef rfl (ef_call [] (fun _ => []) false (fun _ => tetra_v ⟨0, 0, 0⟩ 6 (by decide) (by decide)) rfl .fn rfl (by decide) (by kernel_rfl) rfl (fun _ => C0 rfl) (by decide) (fun _ => .nil) (by simp)) ?_
  rintro F1 H1 ⟨_, _, _, _, ⟨rfl, rfl⟩, hF, hH⟩
  (try simp only [List.set_cons_zero, List.set_cons_succ, updH, posOf, lentArr, killF, killO, killV, AV.has, AV.hasL, AV.emb, AV.embL, OB.emb, embB, List.filter_cons, List.filter_nil, List.getElem?_cons_zero, List.getElem?_cons_succ, List.getD_cons_zero, List.getD_cons_succ, List.drop_succ_cons, List.drop_zero, List.drop_nil, List.contains_cons, List.contains_nil, Nat.reduceBEq, Nat.reduceEqDiff, beq_self_eq_true, Bool.or_false, Bool.false_or, Bool.or_true, Bool.true_or, Bool.false_eq_true, Option.map_some, Option.map_none, List.map_cons, List.map_nil, List.cons_append, List.nil_append, List.append_nil, List.length_cons, List.length_nil, Nat.reduceAdd, Nat.reduceLT, Nat.reduceSub, if_true, if_false, Nat.zero_add, Nat.add_zero, Nat.sub_zero, Nat.lt_irrefl, Nat.not_lt_zero, Nat.zero_lt_one, Nat.lt_add_one] at hF); (try simp only [List.set_cons_zero, List.set_cons_succ, updH, posOf, lentArr, killF, killO, killV, AV.has, AV.hasL, AV.emb, AV.embL, OB.emb, embB, List.filter_cons, List.filter_nil, List.getElem?_cons_zero, List.getElem?_cons_succ, List.getD_cons_zero, List.getD_cons_succ, List.drop_succ_cons, List.drop_zero, List.drop_nil, List.contains_cons, List.contains_nil, Nat.reduceBEq, Nat.reduceEqDiff, beq_self_eq_true, Bool.or_false, Bool.false_or, Bool.or_true, Bool.true_or, Bool.false_eq_true, Option.map_some, Option.map_none, List.map_cons, List.map_nil, List.cons_append, List.nil_append, List.append_nil, List.length_cons, List.length_nil, Nat.reduceAdd, Nat.reduceLT, Nat.reduceSub, if_true, if_false, Nat.zero_add, Nat.add_zero, Nat.sub_zero, Nat.lt_irrefl, Nat.not_lt_zero, Nat.zero_lt_one, Nat.lt_add_one] at hH); subst hF; subst hH
  refine WE ?_
  exact aret_of (us := [.a [.o 2 0 (tetV ⟨0, 0, 0⟩ 6).length 4, .o 3 0 (tetF).length 4]]) [some 0] (fun g => .a [.c (.r (g (.o 2 0 (tetV ⟨0, 0, 0⟩ 6).length 4)) (vR (tetV ⟨0, 0, 0⟩ 6))), .c (.r (g (.o 3 0 (tetF).length 4)) (fR (tetF)))]) (fun _ => [strm v zs a1]) (.cella rfl (KK (t := 29) rfl) (Cells.box rfl) (by simp) (by (try simp only [nm, putL, Nat.reduceAdd, cellsOf, cvOf]) <;> rfl) .nil) (by decide) (ZNK rfl) (fun _ => .aL (.cons (.frz rfl rfl (by rw [List.drop_zero, List.take_of_length_le (by simp)]) (by simp) rfl) (.cons (.frz rfl rfl (by rw [List.drop_zero, List.take_of_length_le (by simp)]) (by simp) rfl) .nil))) ZCH (fun _ => ⟨_, _, _, tetV ⟨0, 0, 0⟩ 6, tetF, rfl, rfl, by omega, by omega, by decide, by decide, by decide⟩)
end Go.Proofs.YthanangkmjjbaaaGreatDoor
