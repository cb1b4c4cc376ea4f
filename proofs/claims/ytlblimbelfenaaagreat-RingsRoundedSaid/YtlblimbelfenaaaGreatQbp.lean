/- Guarded calls in regions that draw their order. Conditions: none. -/
import Derived.Test.YtlblimbelfenaaaGreatQbo
import Derived.Test.YtlblimbelfenaaaGreatQbe
import Derived.Test.YtlblimbelfenaaaGreatQax
import Derived.Test.YtlblimbelfenaaaGreatQan
set_option linter.unusedSimpArgs false
set_option linter.unusedVariables false
/- Meshes of the stream, by value. -/
-- NEWM
namespace Go.Proofs.YtlblimbelfenaaaGreat
open Go Go.RowKit
set_option maxRecDepth 100000
theorem fIn_mono {n m : Int} {f : Fac3} (h : fIn n f) (hm : n ≤ m) : fIn m f := by unfold fIn at *; omega
set_option maxHeartbeats 8000000 in
theorem amesh_v (v : Value) (zs : List Int) (a : Int) (hs : StrOk zs) (h0 : 0 ≤ a) (h1 : a ≤ 700000000) :
    ACalls Tryz.prog 6 [.p 0 0 0] [strm v zs a] fun u H => ∃ (a' : Int) (q w : Value) (V : List Vec3) (Fs : List Fac3), u = mshA q w V Fs ∧ H = [strm v zs a'] ∧ a ≤ a' ∧ a' ≤ a + 200 ∧ V.length ≤ 16 ∧ Fs.length ≤ 25 := by
 refine acalls_of (N := 93) Tryz.func6 rfl rfl (by simp) fun E hE => ?_
 refine WA ?_
 refine WA ?_
 refine WR ?_
 refine al_ef rfl (ef_callm false (fun _ => range_a 1 2 _ _ _ hs (by omega) (by omega) (by omega) (by omega) (by omega) (by omega)) rfl .fn rfl (by decide) (by kernel_rfl) rfl rfl (fun _g => .cons (.p rfl) (.cons (.c rfl) (.cons (.c rfl) .nil))) (fun _g => .cons (.c rfl) (.cons (.c rfl) .nil)) (by simp)) ?_
 rintro F1 H1 ⟨_, _, _, _, ⟨rr, ar, rfl, hq, hr3, hr4, hr1, hr2, _⟩, hF, hH⟩
 injection hq with hq1 hq2; subst hq1; subst hq2
 (refine NST hF hH ?_; clear hF hH; rintro rfl rfl)
 have h64r : in64 rr := by simp only [in64]; omega
 refine WE ?_
 obtain ⟨rr1, hrr1⟩ : ∃ q, q = rr := ⟨_, rfl⟩
 rw [← hrr1] at hr1 hr2 ⊢
 refine aw_loopw (fun m F H => ∃ (k cv cf : Nat) (V : List Vec3) (Fs : List Fac3) (a' : Int), m + k = rr1.toNat ∧ a ≤ a' ∧ a' ≤ a + 1 + 60 * k ∧ V.length ≤ 8 * k ∧ Fs.length ≤ 12 * k ∧ (1 ≤ k → 4 ≤ Fs.length) ∧ (∀ f ∈ Fs, fIn V.length f) ∧ Fs.length ≤ cf ∧ F = [(0, .p 0 0 0), (2, .p 1 0 0), (3, .p 2 0 0), (10, .c (I rr1)), (11, .c (I k))] ∧ H = [strm v zs a', .box [.c (.r (.slice none 0 0) []), .c (.r (.slice none 0 0) [])], .box [.o 3 0 V.length cv, .o 4 0 Fs.length cf], .arr 93 3 cv (vR V), .arr 97 3 cf (fR Fs)]) ?_ ?_
 ·refine wk_of [some 0, some 1, some 2, none, none] (fun _ => [(0, .p 0 0 0), (2, .p 1 0 0), (3, .p 2 0 0), (10, .c (I rr1)), (11, .c (I (0 : Nat)))]) (fun _ => [strm v zs _, .box [.c (.r (.slice none 0 0) []), .c (.r (.slice none 0 0) [])], .box [.o 3 0 0 0, .o 4 0 0 0], .arr 93 3 0 [], .arr 97 3 0 []]) (by decide) (ZNL hE) ZCF ZCH (fun _ => ?_)
  exact ⟨rr1.toNat, 0, 0, 0, [], [], _, by omega, by omega, by omega, by simp, by simp, by omega, by simp, by simp, rfl, rfl⟩
 rintro m F H ⟨k, cv, cf, V, Fs, a1, hk, ha1, ha2, hV, hFl, hF4, hin, hcf, rfl, rfl⟩
 refine WA ?_
 refine aw_if rfl (fun hlt => ?_) (fun hge => ?_)
 ·refine WR ?_
  refine al_ef rfl (ef_callm false (fun _ => avecb_v _ _ _ hs (by omega) (by omega)) rfl .fn rfl (by decide) (by kernel_rfl) rfl rfl (fun _g => .cons (.p rfl) .nil) (fun _g => .cons (.c rfl) (.cons (.c rfl) .nil)) (by simp)) ?_
  rintro F1 H1 ⟨_, _, _, _, ⟨p1, ap1, rfl, hq, up1, vp1, wp1, xp1, yp1⟩, hF, hH⟩
  injection hq with hq1 hq2; subst hq1; subst hq2
  (refine NST hF hH ?_; clear hF hH; rintro rfl rfl)
  refine WO ?_
  refine al_ef rfl (ef_callm true (fun _ => pick_a [1, 6, 10] _ _ _ _ hs (by omega) (by omega) (by simp) (by simp)) rfl .fn rfl (by decide) (by kernel_rfl) rfl rfl (fun _g => .cons (.p rfl) (.cons (.frz rfl rfl rfl rfl rfl) .nil)) (fun _g => .cons (.c rfl) (.cons (.c rfl) .nil)) (fun _ _ _ _ ⟨_, hu, hH, _⟩ => by rw [hu, hH]; exact ⟨.c (.inl trivial), strm_flat (.inr ⟨0, _, rfl, by simp⟩)⟩)) ?_
  rintro F1 H1 ⟨_, _, _, _, ⟨rr, rfl, hq, hrm⟩, hF, hH⟩
  injection hq with hq1 hq2; subst hq1; subst hq2
  (refine NST hF hH ?_; clear hF hH; rintro rfl rfl)
  have hrr : 0 ≤ rr ∧ rr ≤ 1000 := by simp only [List.mem_cons, List.not_mem_nil, or_false] at hrm; omega
  clear hrm
  refine al_ef rfl (ef_call [] (fun _ => []) false (fun _ => tetra_v p1 rr (by omega) (by omega)) rfl .fn rfl (by decide) (by kernel_rfl) rfl (fun _ => C0 rfl) (by decide) (fun _ => .nil) (by simp)) ?_
  rintro F1 H1 ⟨_, _, _, _, ⟨rfl, rfl⟩, hF, hH⟩
  (refine NSU hF hH ?_; clear hF hH; rintro rfl rfl)
  refine WE ?_
  refine WR ?_
  refine al_ef rfl (ef_callm false (fun _ => flip_a 2 _ _ _ hs (by omega) (by omega) (by simp only [in64]; omega)) rfl .fn rfl (by decide) (by kernel_rfl) rfl rfl (fun _g => .cons (.p rfl) (.cons (.c rfl) .nil)) (fun _g => .cons (.c rfl) (.cons (.c rfl) .nil)) (by simp)) ?_
  rintro F1 H1 ⟨_, _, _, _, ⟨bb, rfl, hq⟩, hF, hH⟩
  injection hq with hq1 hq2; subst hq1; subst hq2
  (refine NST hF hH ?_; clear hF hH; rintro rfl rfl)
  refine WE ?_
  refine aw_cut (fun F H => ∃ (Vn : List Vec3) (Fn : List Fac3) (c2 d2 : Nat) (a2 : Int), a1 ≤ a2 ∧ a2 ≤ a1 + 50 ∧ Vn.length ≤ 8 ∧ Fn.length ≤ 12 ∧ 4 ≤ Fn.length ∧ Fn.length ≤ d2 ∧ (∀ f ∈ Fn, fIn Vn.length f) ∧ F = [(0, .p 0 0 0), (2, .p 1 0 0), (3, .p 2 0 0), (4, .p 5 0 0), (10, .c (I rr1)), (11, .c (I k))] ∧ H = [strm v zs a2, .box [.c (.r (.slice none 0 0) []), .c (.r (.slice none 0 0) [])], .box [.o 3 0 V.length cv, .o 4 0 Fs.length cf], .arr 93 3 cv (vR V), .arr 97 3 cf (fR Fs), .box [.o 6 0 Vn.length c2, .o 7 0 Fn.length d2], .arr 93 3 c2 (vR Vn), .arr 97 3 d2 (fR Fn)]) ?_ ?_ wk_aw
  ·refine aw_cond rfl (fun _ => ?_) (fun _ => ?_)
   ·refine WR ?_
    refine al_ef rfl (ef_callm false (fun _ => avecb_v _ _ _ hs (by omega) (by omega)) rfl .fn rfl (by decide) (by kernel_rfl) rfl rfl (fun _g => .cons (.p rfl) .nil) (fun _g => .cons (.c rfl) (.cons (.c rfl) .nil)) (by simp)) ?_
    rintro F1 H1 ⟨_, _, _, _, ⟨p2, ap2, rfl, hq, up2, vp2, wp2, xp2, yp2⟩, hF, hH⟩
    injection hq with hq1 hq2; subst hq1; subst hq2
    (refine NST hF hH ?_; clear hF hH; rintro rfl rfl)
    refine WO ?_
    refine al_ef rfl (ef_callm true (fun _ => pick_a [1, 5] _ _ _ _ hs (by omega) (by omega) (by simp) (by simp)) rfl .fn rfl (by decide) (by kernel_rfl) rfl rfl (fun _g => .cons (.p rfl) (.cons (.frz rfl rfl rfl rfl rfl) .nil)) (fun _g => .cons (.c rfl) (.cons (.c rfl) .nil)) (fun _ _ _ _ ⟨_, hu, hH, _⟩ => by rw [hu, hH]; exact ⟨.c (.inl trivial), strm_flat (.inr ⟨0, _, rfl, by simp⟩)⟩)) ?_
    rintro F1 H1 ⟨_, _, _, _, ⟨bx, rfl, hq, hrm⟩, hF, hH⟩
    injection hq with hq1 hq2; subst hq1; subst hq2
    (refine NST hF hH ?_; clear hF hH; rintro rfl rfl)
    have hbx : 0 ≤ bx ∧ bx ≤ 1000 := by simp only [List.mem_cons, List.not_mem_nil, or_false] at hrm; omega
    clear hrm
    refine WO ?_
    refine al_ef rfl (ef_callm true (fun _ => pick_a [2, 10] _ _ _ _ hs (by omega) (by omega) (by simp) (by simp)) rfl .fn rfl (by decide) (by kernel_rfl) rfl rfl (fun _g => .cons (.p rfl) (.cons (.frz rfl rfl rfl rfl rfl) .nil)) (fun _g => .cons (.c rfl) (.cons (.c rfl) .nil)) (fun _ _ _ _ ⟨_, hu, hH, _⟩ => by rw [hu, hH]; exact ⟨.c (.inl trivial), strm_flat (.inr ⟨0, _, rfl, by simp⟩)⟩)) ?_
    rintro F1 H1 ⟨_, _, _, _, ⟨by', rfl, hq, hrm⟩, hF, hH⟩
    injection hq with hq1 hq2; subst hq1; subst hq2
    (refine NST hF hH ?_; clear hF hH; rintro rfl rfl)
    have hby' : 0 ≤ by' ∧ by' ≤ 1000 := by simp only [List.mem_cons, List.not_mem_nil, or_false] at hrm; omega
    clear hrm
    refine WO ?_
    refine al_ef rfl (ef_callm true (fun _ => pick_a [3, 8] _ _ _ _ hs (by omega) (by omega) (by simp) (by simp)) rfl .fn rfl (by decide) (by kernel_rfl) rfl rfl (fun _g => .cons (.p rfl) (.cons (.frz rfl rfl rfl rfl rfl) .nil)) (fun _g => .cons (.c rfl) (.cons (.c rfl) .nil)) (fun _ _ _ _ ⟨_, hu, hH, _⟩ => by rw [hu, hH]; exact ⟨.c (.inl trivial), strm_flat (.inr ⟨0, _, rfl, by simp⟩)⟩)) ?_
    rintro F1 H1 ⟨_, _, _, _, ⟨bz, rfl, hq, hrm⟩, hF, hH⟩
    injection hq with hq1 hq2; subst hq1; subst hq2
    (refine NST hF hH ?_; clear hF hH; rintro rfl rfl)
    have hbz : 0 ≤ bz ∧ bz ≤ 1000 := by simp only [List.mem_cons, List.not_mem_nil, or_false] at hrm; omega
    clear hrm
    refine al_ef rfl (ef_call [] (fun _ => []) false (fun _ => block_v p2 bx by' bz (by omega) (by omega) (by omega) (by omega)) rfl .fn rfl (by decide) (by kernel_rfl) rfl (fun _ => C0 rfl) (by decide) (fun _ => .nil) (by simp)) ?_
    rintro F1 H1 ⟨_, _, _, _, ⟨Vn, Fn, c2, d2, hV2, hF2, hd2, hi2, rfl, rfl⟩, hF, hH⟩
    (refine NSU hF hH ?_; clear hF hH; rintro rfl rfl)
    refine WE ?_
    refine wk_of [some 0, some 1, some 2, some 3, some 4, some 8, some 12, some 13] (fun _ => [(0, .p 0 0 0), (2, .p 1 0 0), (3, .p 2 0 0), (4, .p 5 0 0), (10, .c (I rr1)), (11, .c (I k))]) (fun _ => [strm v zs _, .box [.c (.r (.slice none 0 0) []), .c (.r (.slice none 0 0) [])], .box [.o 3 0 V.length cv, .o 4 0 Fs.length cf], .arr 93 3 cv (vR V), .arr 97 3 cf (fR Fs), .box [.o 6 0 Vn.length c2, .o 7 0 Fn.length d2], .arr 93 3 c2 (vR Vn), .arr 97 3 d2 (fR Fn)]) (by decide) (ZNL hE) ZCF ZCH (fun _ => ?_)
    exact ⟨Vn, Fn, c2, d2, _, by omega, by omega, by omega, by omega, by omega, by omega, by rw [hV2]; exact hi2, rfl, rfl⟩
   ·refine ZZ ?_
    refine wk_of [some 0, some 1, some 2, some 3, some 4, some 8, some 6, some 7] (fun _ => [(0, .p 0 0 0), (2, .p 1 0 0), (3, .p 2 0 0), (4, .p 5 0 0), (10, .c (I rr1)), (11, .c (I k))]) (fun _ => [strm v zs _, .box [.c (.r (.slice none 0 0) []), .c (.r (.slice none 0 0) [])], .box [.o 3 0 V.length cv, .o 4 0 Fs.length cf], .arr 93 3 cv (vR V), .arr 97 3 cf (fR Fs), .box [.o 6 0 (tetV p1 rr).length 4, .o 7 0 tetF.length 4], .arr 93 3 4 (vR (tetV p1 rr)), .arr 97 3 4 (fR tetF)]) (by decide) (ZNL hE) ZCF ZCH (fun _ => ?_)
    exact ⟨tetV p1 rr, tetF, 4, 4, _, by omega, by omega, by simp [tetV], by decide, by decide, by decide, tetF_in, rfl, rfl⟩
  rintro F H ⟨Vn, Fn, c2, d2, a2, ha3, ha4, hV2, hF2, hF24, hd2, hi2, rfl, rfl⟩
  refine WA ?_
  refine aw_if rfl (fun he => ?_) (fun he => ?_)
  ·refine WA ?_
   refine WA ?_
   refine wk_of [some 0, some 1, some 2, some 6, some 7] (fun _ => [(0, .p 0 0 0), (2, .p 1 0 0), (3, .p 2 0 0), (10, .c (I rr1)), (11, .c (I (k + 1 : Nat)))]) (fun _ => [strm v zs _, .box [.c (.r (.slice none 0 0) []), .c (.r (.slice none 0 0) [])], .box [.o 3 0 Vn.length c2, .o 4 0 Fn.length d2], .arr 93 3 c2 (vR Vn), .arr 97 3 d2 (fR Fn)]) (by decide) (ZNL hE) ZCF ZCH (fun _ => ?_)
   exact ⟨m - 1, by omega, k + 1, c2, d2, Vn, Fn, a2, by omega, by omega, by omega, by omega, by omega, by omega, hi2, hd2, rfl, rfl⟩
  refine ZZ ?_
  refine WA ?_
  refine WR ?_
  refine al_ef rfl (Zapp (news := vR Vn) (KA (t := 26) rfl) (hsrc := Src.own rfl (by rw [List.drop_zero, List.take_of_length_le (by simp)]) (by simp)) (hj := rfl) (hle := by simp; omega)) ?_
  rintro _ _ ⟨_, cv2, hcv2, rfl, rfl⟩
  refine WE ?_
  refine WA ?_
  have hvn : (V ++ Vn).length = V.length + Vn.length := by simp
  refine aw_loopw (fun m2 F H => ∃ (j d3 : Nat) (G : List Fac3), m2 + j = Fn.length ∧ G.length = Fs.length + j ∧ (∀ f ∈ G, fIn (V ++ Vn).length f) ∧ G.length ≤ d3 ∧ F = [(0, .p 0 0 0), (2, .p 1 0 0), (3, .p 2 0 0), (5, .c (I V.length)), (10, .c (I rr1)), (11, .c (I k)), (48, .o 5 0 Fn.length d2), (49, .c (I Fn.length)), (50, .c (I j))] ∧ H = [strm v zs a2, .box [.c (.r (.slice none 0 0) []), .c (.r (.slice none 0 0) [])], .box [.o 3 0 (V ++ Vn).length cv2, .o 4 0 G.length d3], .arr 93 3 cv2 (vR (V ++ Vn)), .arr 97 3 d3 (fR G), .arr 97 3 d2 (fR Fn)]) ?_ ?_
  ·refine wk_of [some 0, some 1, some 2, some 3, some 4, some 7] (fun _ => [(0, .p 0 0 0), (2, .p 1 0 0), (3, .p 2 0 0), (5, .c (I V.length)), (10, .c (I rr1)), (11, .c (I k)), (48, .o 5 0 Fn.length d2), (49, .c (I Fn.length)), (50, .c (I (0 : Nat)))]) (fun _ => [strm v zs a2, .box [.c (.r (.slice none 0 0) []), .c (.r (.slice none 0 0) [])], .box [.o 3 0 (V ++ Vn).length cv2, .o 4 0 Fs.length cf], .arr 93 3 cv2 (vR (V ++ Vn)), .arr 97 3 cf (fR Fs), .arr 97 3 d2 (fR Fn)]) (by decide) (ZNL hE) ZCF ZCH (fun _ => ?_)
   exact ⟨Fn.length, 0, cf, Fs, by omega, by omega, fun f hf => fIn_mono (hin f hf) (by omega), by omega, rfl, rfl⟩
  rintro m2 F H ⟨j, d3, G, hj, hG, hGi, hGd, rfl, rfl⟩
  refine WA ?_
  refine aw_if rfl (fun hlt2 => ?_) (fun hge2 => ?_)
  ·obtain ⟨f, hf⟩ : ∃ z, Fn[j]? = some z := ⟨_, List.getElem?_eq_getElem (by omega)⟩
   have hfi := hi2 f (List.mem_of_getElem? hf)
   obtain ⟨fa, fb, fc⟩ := f
   simp only [fIn] at hfi
   obtain ⟨f1, f2, f3⟩ := hfi
   have hrow : (fR Fn)[j]? = some [I fa, I fb, I fc] := by rw [List.getElem?_map, hf]; rfl
   have hrow0 : (fR Fn)[0 + j]? = some [I fa, I fb, I fc] := by rw [Nat.zero_add]; exact hrow
   refine WA ?_
   refine WR ?_
   refine al_ef rfl (Zapp (KA (t := 27) rfl)) ?_
   rintro _ _ ⟨_, cc, hcc, rfl, rfl⟩
   refine WE ?_
   refine WA ?_
   refine wk_of [some 0, some 1, some 2, some 3, some 4, some 5] (fun _ => [(0, .p 0 0 0), (2, .p 1 0 0), (3, .p 2 0 0), (5, .c (I V.length)), (10, .c (I rr1)), (11, .c (I k)), (48, .o 5 0 Fn.length d2), (49, .c (I Fn.length)), (50, .c (I (j + 1 : Nat)))]) (fun _ => [strm v zs a2, .box [.c (.r (.slice none 0 0) []), .c (.r (.slice none 0 0) [])], .box [.o 3 0 (V ++ Vn).length cv2, .o 4 0 (G ++ [(⟨fa + V.length, fb + V.length, fc + V.length⟩ : Fac3)]).length cc], .arr 93 3 cv2 (vR (V ++ Vn)), .arr 97 3 cc (fR (G ++ [(⟨fa + V.length, fb + V.length, fc + V.length⟩ : Fac3)])), .arr 97 3 d2 (fR Fn)]) (by decide) (ZNL hE) ZCF ZCH (fun _ => ?_)
   exact ⟨m2 - 1, by omega, j + 1, cc, _, by omega, by simp; omega, fun f hf => by
    rcases List.mem_append.1 hf with hf | hf
    ·exact hGi f hf
    ·rw [List.mem_singleton.1 hf]; simp only [fIn]; omega, by simp; omega, rfl, rfl⟩
  refine ZZ ?_
  refine WA ?_
  refine wk_of [some 0, some 1, some 2, some 3, some 4] (fun _ => [(0, .p 0 0 0), (2, .p 1 0 0), (3, .p 2 0 0), (10, .c (I rr1)), (11, .c (I (k + 1 : Nat)))]) (fun _ => [strm v zs a2, .box [.c (.r (.slice none 0 0) []), .c (.r (.slice none 0 0) [])], .box [.o 3 0 (V ++ Vn).length cv2, .o 4 0 G.length d3], .arr 93 3 cv2 (vR (V ++ Vn)), .arr 97 3 d3 (fR G)]) (by decide) (ZNL hE) ZCF ZCH (fun _ => ?_)
  exact ⟨m - 1, by omega, k + 1, cv2, d3, V ++ Vn, G, a2, by omega, by omega, by omega, by omega, by omega, by omega, hGi, hGd, rfl, rfl⟩
 refine ZZ ?_
 have hF5 := hF4 (by omega)
 refine WR ?_
 refine al_ef rfl (ef_callm false (fun _ => flip_a 3 _ _ _ hs (by omega) (by omega) (by simp only [in64]; omega)) rfl .fn rfl (by decide) (by kernel_rfl) rfl rfl (fun _g => .cons (.p rfl) (.cons (.c rfl) .nil)) (fun _g => .cons (.c rfl) (.cons (.c rfl) .nil)) (by simp)) ?_
 rintro F1 H1 ⟨_, _, _, _, ⟨bb, rfl, hq⟩, hF, hH⟩
 injection hq with hq1 hq2; subst hq1; subst hq2
 (refine NST hF hH ?_; clear hF hH; rintro rfl rfl)
 refine WE ?_
 refine aw_cut (fun F H => ∃ (V : List Vec3) (Fs : List Fac3) (cv cf : Nat) (a1 : Int), a ≤ a1 ∧ a1 ≤ a + 130 ∧ V.length ≤ 16 ∧ Fs.length ≤ 24 ∧ 3 ≤ Fs.length ∧ (∀ f ∈ Fs, fIn V.length f) ∧ F = [(0, .p 0 0 0), (2, .p 1 0 0), (3, .p 2 0 0)] ∧ H = [strm v zs a1, .box [.c (.r (.slice none 0 0) []), .c (.r (.slice none 0 0) [])], .box [.o 3 0 V.length cv, .o 4 0 Fs.length cf], .arr 93 3 cv (vR V), .arr 97 3 cf (fR Fs)]) ?_ ?_ wk_aw
 ·refine aw_cond rfl (fun _ => ?_) (fun _ => ?_)
  ·refine WR ?_
   refine al_ef rfl (ef_callm false (fun _ => next_a (↑Fs.length) _ _ _ hs (by omega) (by omega) (by simp only [in64]; omega)) rfl .fn rfl (by decide) (by kernel_rfl) rfl rfl (fun _g => .cons (.p rfl) (.cons (.c rfl) .nil)) (fun _g => .cons (.c rfl) (.cons (.c rfl) .nil)) (by simp)) ?_
   rintro F1 H1 ⟨_, _, _, _, ⟨rr, rfl, hq, hr1, hr2⟩, hF, hH⟩
   injection hq with hq1 hq2; subst hq1; subst hq2
   (refine NST hF hH ?_; clear hF hH; rintro rfl rfl)
   obtain ⟨i, rfl⟩ : ∃ i : Nat, rr = i := ⟨rr.toNat, by omega⟩
   have hi := hr2 (by omega)
   clear hr1 hr2
   refine WE ?_
   refine WR ?_
   refine al_ef rfl (ef_call [4] (fun _ => [.arr 97 3 cf (fR Fs)]) false (fun _ => deleteF_v Fs i cf (by omega) (by omega) hcf) rfl .fn rfl (by decide) (by kernel_rfl) rfl (fun _ => .cons (.o rfl rfl) (.cons (.c rfl) (.cons (.c rfl) .nil))) (by decide) (fun _ => .arr rfl rfl .nil) (by simp)) ?_
   rintro F1 H1 ⟨_, _, _, _, ⟨G, hG, rfl, rfl⟩, hF, hH⟩
   (refine NSU hF hH ?_; clear hF hH; rintro rfl rfl)
   refine WE ?_
   have hGl : G.length + 1 = Fs.length := by rw [hG]; simp; omega
   refine wk_of [some 0, some 1, some 2, some 3, some 4] (fun _ => [(0, .p 0 0 0), (2, .p 1 0 0), (3, .p 2 0 0)]) (fun _ => [strm v zs _, .box [.c (.r (.slice none 0 0) []), .c (.r (.slice none 0 0) [])], .box [.o 3 0 V.length cv, .o 4 0 G.length cf], .arr 93 3 cv (vR V), .arr 97 3 cf (fR G)]) (by decide) (ZNL hE) ZCF ZCH (fun _ => ?_)
   exact ⟨V, G, cv, cf, _, by omega, by omega, by omega, by omega, by omega, fun f hf => hin f (by
    rw [hG] at hf
    rcases List.mem_append.1 hf with hf | hf
    ·exact List.mem_of_mem_take hf
    ·exact List.mem_of_mem_drop hf), rfl, rfl⟩
  ·refine ZZ ?_
   refine wk_of [some 0, some 1, some 2, some 3, some 4] (fun _ => [(0, .p 0 0 0), (2, .p 1 0 0), (3, .p 2 0 0)]) (fun _ => [strm v zs _, .box [.c (.r (.slice none 0 0) []), .c (.r (.slice none 0 0) [])], .box [.o 3 0 V.length cv, .o 4 0 Fs.length cf], .arr 93 3 cv (vR V), .arr 97 3 cf (fR Fs)]) (by decide) (ZNL hE) ZCF ZCH (fun _ => ?_)
   exact ⟨V, Fs, cv, cf, _, by omega, by omega, by omega, by omega, by omega, hin, rfl, rfl⟩
 clear hcf hin hF4 hF5 hFl hV ha1 ha2 hk
 rintro F H ⟨V, Fs, cv, cf, a1, ha1, ha2, hV, hFl, hF3, hin, rfl, rfl⟩
 refine WR ?_
 refine al_ef rfl (ef_callm false (fun _ => flip_a 8 _ _ _ hs (by omega) (by omega) (by simp only [in64]; omega)) rfl .fn rfl (by decide) (by kernel_rfl) rfl rfl (fun _g => .cons (.p rfl) (.cons (.c rfl) .nil)) (fun _g => .cons (.c rfl) (.cons (.c rfl) .nil)) (by simp)) ?_
 rintro F1 H1 ⟨_, _, _, _, ⟨bb, rfl, hq⟩, hF, hH⟩
 injection hq with hq1 hq2; subst hq1; subst hq2
 (refine NST hF hH ?_; clear hF hH; rintro rfl rfl)
 refine WE ?_
 refine aw_cut (fun F H => ∃ (V : List Vec3) (Fs : List Fac3) (cv cf : Nat) (a1 : Int), a ≤ a1 ∧ a1 ≤ a + 160 ∧ V.length ≤ 16 ∧ Fs.length ≤ 25 ∧ F = [(0, .p 0 0 0), (2, .p 1 0 0), (3, .p 2 0 0)] ∧ H = [strm v zs a1, .box [.c (.r (.slice none 0 0) []), .c (.r (.slice none 0 0) [])], .box [.o 3 0 V.length cv, .o 4 0 Fs.length cf], .arr 93 3 cv (vR V), .arr 97 3 cf (fR Fs)]) ?_ ?_ wk_aw
 ·refine aw_cond rfl (fun _ => ?_) (fun _ => ?_)
  ·refine WR ?_
   refine al_ef rfl (ef_call [0, 2, 3, 4] (fun _ => [strm v zs (a1 + 1), .box [.o 2 0 V.length cv, .o 3 0 Fs.length cf], .arr 93 3 cv (vR V), .arr 97 3 cf (fR Fs)]) false (fun _ => spoil_v v zs (a1 + 1) hs (by omega) (by omega) V Fs cv cf (by omega) (by omega) (by omega) hin) rfl .fn rfl (by decide) (by kernel_rfl) rfl ZCH (by decide) ZCH (by simp)) ?_
   rintro F1 H1 ⟨_, _, _, _, ⟨a2, Vn, Fn, cf2, rfl, rfl, ha3, ha4, hV2, hF2⟩, hF, hH⟩
   (refine NSU hF hH ?_; clear hF hH; rintro rfl rfl)
   refine WE ?_
   refine wk_of [some 0, some 1, some 2, some 3, some 4] (fun _ => [(0, .p 0 0 0), (2, .p 1 0 0), (3, .p 2 0 0)]) (fun _ => [strm v zs _, .box [.c (.r (.slice none 0 0) []), .c (.r (.slice none 0 0) [])], .box [.o 3 0 Vn.length cv, .o 4 0 Fn.length cf2], .arr 93 3 cv (vR Vn), .arr 97 3 cf2 (fR Fn)]) (by decide) (ZNL hE) ZCF ZCH (fun _ => ?_)
   exact ⟨Vn, Fn, cv, cf2, _, by omega, by omega, by omega, by omega, rfl, rfl⟩
  ·refine ZZ ?_
   refine wk_of [some 0, some 1, some 2, some 3, some 4] (fun _ => [(0, .p 0 0 0), (2, .p 1 0 0), (3, .p 2 0 0)]) (fun _ => [strm v zs _, .box [.c (.r (.slice none 0 0) []), .c (.r (.slice none 0 0) [])], .box [.o 3 0 V.length cv, .o 4 0 Fs.length cf], .arr 93 3 cv (vR V), .arr 97 3 cf (fR Fs)]) (by decide) (ZNL hE) ZCF ZCH (fun _ => ?_)
   exact ⟨V, Fs, cv, cf, _, by omega, by omega, by omega, by omega, rfl, rfl⟩
 clear hin hF3 hFl hV ha1 ha2
 rintro F H ⟨V, Fs, cv, cf, a1, ha1, ha2, hV, hFl, rfl, rfl⟩
 refine WA ?_
 exact aret_of (us := [.a [.o 3 0 (V).length cv, .o 4 0 (Fs).length cf]]) [some 0] (fun g => .a [.c (.r (g (.o 3 0 (V).length cv)) (vR (V))), .c (.r (g (.o 4 0 (Fs).length cf)) (fR (Fs)))]) (fun _ => [strm v zs a1]) (.cella rfl (KK (t := 29) rfl) (Cells.box rfl) (by simp) (by (try simp only [nm, putL, Nat.reduceAdd, cellsOf, cvOf]) <;> rfl) .nil) (by decide) (ZNK rfl) (fun _ => .aL (.cons (.frz rfl rfl (by rw [List.drop_zero, List.take_of_length_le (by simp)]) (by simp) rfl) (.cons (.frz rfl rfl (by rw [List.drop_zero, List.take_of_length_le (by simp)]) (by simp) rfl) .nil))) ZCH (fun _ => ⟨_, _, _, V, Fs, rfl, rfl, by omega, by omega, hV, hFl⟩)
end Go.Proofs.YtlblimbelfenaaaGreat

/- Right meshes of the stream, by value. -/
-- NEWM
namespace Go.Proofs.YtlblimbelfenaaaGreat
open Go Go.RowKit
set_option maxRecDepth 100000
set_option maxHeartbeats 8000000 in
theorem rightmesh_v (v : Value) (zs : List Int) (a : Int) (hs : StrOk zs) (h0 : 0 ≤ a) (h1 : a ≤ 600000000) :
    ACalls Tryz.prog 52 [.p 0 0 0] [strm v zs a] fun u H => ∃ (a' : Int) (q w : Value) (V : List Vec3) (Fs : List Fac3), u = mshA q w V Fs ∧ H = [strm v zs a'] ∧ a ≤ a' ∧ a' ≤ a + 1600 ∧ V.length ≤ 16 ∧ Fs.length ≤ 25 ∧ mshF V Fs = 0 := by
 refine acalls_of (N := 15) Tryz.func52 rfl rfl (by simp) fun E hE => ?_
 refine WA ?_
 refine WA ?_
 refine aw_loopw (fun m F H => ∃ (k : Nat) (a1 : Int), m + k = 8 ∧ a ≤ a1 ∧ a1 ≤ a + 200 * k ∧ F = [(0, .p 0 0 0), (2, .p 1 0 0), (4, .c (I k))] ∧ H = [strm v zs a1, .box [.c (.r (.slice none 0 0) []), .c (.r (.slice none 0 0) [])]]) ?_ ?_
 ·refine wk_of [some 0, some 1] (fun _ => [(0, .p 0 0 0), (2, .p 1 0 0), (4, .c (I (0 : Nat)))]) (fun _ => [strm v zs a, .box [.c (.r (.slice none 0 0) []), .c (.r (.slice none 0 0) [])]]) (by decide) (ZNL hE) ZCF ZCH (fun _ => ?_)
  exact ⟨8, 0, a, by omega, by omega, by omega, rfl, rfl⟩
 rintro m F H ⟨k, a1, hk, ha1, ha2, rfl, rfl⟩
 refine WA ?_
 refine aw_if rfl (fun hlt => ?_) (fun hge => ?_)
 ·refine WR ?_
  refine al_ef rfl (ef_callm false (fun _ => amesh_v _ _ _ hs (by omega) (by omega)) rfl .fn rfl (by decide) (by kernel_rfl) rfl rfl (fun _g => .cons (.p rfl) .nil) (fun _g => .cons (.c rfl) (.cons (.c rfl) .nil)) (by simp)) ?_
  rintro F1 H1 ⟨_, _, _, _, ⟨a2, q, w, V, Fs, rfl, hq, ha3, ha4, hV, hFl⟩, hF, hH⟩
  injection hq with hq1 hq2; subst hq1; subst hq2
  (refine NST hF hH ?_; clear hF hH; rintro rfl rfl)
  refine WE ?_
  refine WR ?_
  refine al_ef rfl (ef_call0 false (fun _ => rmshF_v q w V Fs (by omega) (by omega)) rfl .fn rfl (by decide) (by kernel_rfl) rfl (fun _ => C0 rfl) (by simp)) ?_
  rintro _ _ ⟨_, _, _, ⟨rfl, rfl⟩, hF, hH⟩
  (refine NST hF hH ?_; clear hF hH; rintro rfl rfl)
  refine WE ?_
  refine aw_if rfl (fun hok => ?_) (fun hok => ?_)
  ·refine WA ?_
   exact aret_a [some 0] [strm v zs a2] rfl (KK (t := 29) rfl) rfl (Cells.box rfl) (by simp) (by (try simp only [nm, putL, Nat.reduceAdd, cellsOf, cvOf]) <;> rfl) (by decide) (ZNK rfl) (fun _ => C0 rfl) ZCH ⟨_, q, w, V, Fs, rfl, rfl, by omega, by omega, hV, hFl, hok⟩
  ·refine ZZ ?_
   refine WA ?_
   refine wk_of [some 0, some 1] (fun _ => [(0, .p 0 0 0), (2, .p 1 0 0), (4, .c (I (k + 1 : Nat)))]) (fun _ => [strm v zs a2, .box [.c (.r (.slice none 0 0) []), .c (.r (.slice none 0 0) [])]]) (by decide) (ZNL hE) ZCF ZCH (fun _ => ?_)
   exact ⟨m - 1, by omega, k + 1, a2, by omega, by omega, by omega, rfl, rfl⟩
 refine ZZ ?_
 refine WR ?_
 refine al_ef rfl (ef_call [] (fun _ => []) false (fun _ => tetra_v ⟨0, 0, 0⟩ 6 (by decide) (by decide)) rfl .fn rfl (by decide) (by kernel_rfl) rfl (fun _ => C0 rfl) (by decide) (fun _ => .nil) (by simp)) ?_
 rintro F1 H1 ⟨_, _, _, _, ⟨rfl, rfl⟩, hF, hH⟩
 (refine NSU hF hH ?_; clear hF hH; rintro rfl rfl)
 refine WE ?_
 exact aret_of (us := [.a [.o 2 0 (tetV ⟨0, 0, 0⟩ 6).length 4, .o 3 0 (tetF).length 4]]) [some 0] (fun g => .a [.c (.r (g (.o 2 0 (tetV ⟨0, 0, 0⟩ 6).length 4)) (vR (tetV ⟨0, 0, 0⟩ 6))), .c (.r (g (.o 3 0 (tetF).length 4)) (fR (tetF)))]) (fun _ => [strm v zs a1]) (.cella rfl (KK (t := 29) rfl) (Cells.box rfl) (by simp) (by (try simp only [nm, putL, Nat.reduceAdd, cellsOf, cvOf]) <;> rfl) .nil) (by decide) (ZNK rfl) (fun _ => .aL (.cons (.frz rfl rfl (by rw [List.drop_zero, List.take_of_length_le (by simp)]) (by simp) rfl) (.cons (.frz rfl rfl (by rw [List.drop_zero, List.take_of_length_le (by simp)]) (by simp) rfl) .nil))) ZCH (fun _ => ⟨_, _, _, tetV ⟨0, 0, 0⟩ 6, tetF, rfl, rfl, by omega, by omega, by decide, by decide, by decide⟩)
end Go.Proofs.YtlblimbelfenaaaGreat

/- Open sides of the reference: some list of sides. -/
-- NEWM
namespace Go.Proofs.YtlblimbelfenaaaGreat
open Go Go.RowKit
set_option maxRecDepth 100000
def opnL (Fs : List Fac3) : List Sid2 := (Fs.flatMap sds).filter fun s => !(Fs.flatMap sds).contains ⟨s.t, s.f⟩
set_option maxHeartbeats 2000000 in
theorem openof_v (v w : Value) (V : List Vec3) (Fs : List Fac3) (hFl : Fs.length ≤ 1000) : ACalls Tryz.prog 53 [mshA v w V Fs] [] fun u H => ∃ (q : Value) (l : List Sid2), l.Perm (opnL Fs) ∧ u = .c (.r q (sR l)) ∧ H = [] := by
 have e2 : (fR Fs).length = Fs.length := by simp
 have e2' : (Fs.map Fac3.row).length = Fs.length := by simp
 refine acalls_of (N := 43) Tryz.func53 rfl rfl (by simp) fun E hE => ?_
 refine WA ?_
 refine WA ?_
 refine WA ?_
 refine aw_loopw (fun m F H => ∃ (k c : Nat) (L : List Sid2), m + k = Fs.length ∧ L.length = 3 * k ∧ L = (Fs.take k).flatMap sds ∧ F = [(1, .p 0 0 0), (3, .o 1 0 L.length c), (4, .c (.r (.slice none 0 0) [])), (10, .c (.r w (fR Fs))), (11, .c (I (fR Fs).length)), (12, .c (I k))] ∧ H = [mBox v w V (fR Fs), .arr 70 2 c (sR L)]) ?_ ?_
 ·refine wk_of [some 0, none] (fun _ => [(1, .p 0 0 0), (3, .o 1 0 0 0), (4, .c (.r (.slice none 0 0) [])), (10, .c (.r w (fR Fs))), (11, .c (I (fR Fs).length)), (12, .c (I (0 : Nat)))]) (fun _ => [mBox v w V (fR Fs), .arr 70 2 0 []]) (by decide) (ZNL hE) ZCF ZCH (fun _ => ?_)
  exact ⟨Fs.length, 0, 0, [], by omega, rfl, rfl, rfl, rfl⟩
 ·rintro m F H ⟨k, c, L, hk, hL, hLe, rfl, rfl⟩
  refine WA ?_
  refine aw_if rfl (fun hlt => ?_) (fun hge => ?_)
  ·obtain ⟨f, hz⟩ : ∃ z, Fs[k]? = some z := ⟨_, List.getElem?_eq_getElem (by omega)⟩
   obtain ⟨fa, fb, fc⟩ := f
   have hrow : (fR Fs)[k]? = some [I fa, I fb, I fc] := by rw [List.getElem?_map, hz]; rfl
   have e5 : (sR (sds ⟨fa, fb, fc⟩)).length = 3 := rfl
   have e6 : (sds ⟨fa, fb, fc⟩).length = 3 := rfl
   have hzn := sd_next hz
   rw [← hLe] at hzn
   refine WA ?_
   refine WR ?_
   refine al_ef rfl (ef_call0 false (fun _ => rsides_v ⟨fa, fb, fc⟩) rfl .fn rfl (by decide) (by kernel_rfl) rfl (fun _ => C0 rfl) (by simp)) ?_
   rintro _ _ ⟨_, _, _, ⟨⟨q, rfl⟩, rfl⟩, hF, hH⟩
   (refine NST hF hH ?_; clear hF hH; rintro rfl rfl)
   refine al_ef rfl (Zapp (KA (t := 57) rfl)) ?_
   rintro _ _ ⟨_, cc, hcc, rfl, rfl⟩
   refine WE ?_
   refine WA ?_
   refine wk_of [some 0, some 1] (fun _ => [(1, .p 0 0 0), (3, .o 1 0 (L ++ sds ⟨fa, fb, fc⟩).length cc), (4, .c (.r (.slice none 0 0) [])), (10, .c (.r w (fR Fs))), (11, .c (I (fR Fs).length)), (12, .c (I (k + 1 : Nat)))]) (fun _ => _) (by decide) (ZNL hE) ZCF ZCH (fun _ => ?_)
   exact ⟨m - 1, by omega, k + 1, cc, L ++ sds ⟨fa, fb, fc⟩, by omega, by simp [sds]; omega, hzn.symm, rfl, by simp [sR]⟩
  obtain rfl : k = Fs.length := by omega
  rw [List.take_of_length_le (Nat.le_refl _)] at hLe
  have hop : opnL Fs = L.filter fun s => !L.contains ⟨s.t, s.f⟩ := by rw [opnL, hLe]
  refine ZZ ?_
  refine WA ?_
  refine aw_loopw (fun m F H => ∃ (j c2 : Nat) (O : List Sid2), m + j = L.length ∧ O.length ≤ j ∧ O = ((L.take j).filter fun s => !L.contains ⟨s.t, s.f⟩) ∧ F = [(3, .o 0 0 L.length c), (4, .o 1 0 O.length c2), (21, .o 0 0 L.length c), (22, .c (I L.length)), (23, .c (I j))] ∧ H = [.arr 70 2 c (sR L), .arr 70 2 c2 (sR O)]) ?_ ?_
  ·refine wk_of [some 1, none] (fun _ => [(3, .o 0 0 L.length c), (4, .o 1 0 0 0), (21, .o 0 0 L.length c), (22, .c (I L.length)), (23, .c (I (0 : Nat)))]) (fun _ => [.arr 70 2 c (sR L), .arr 70 2 0 []]) (by decide) (ZNL hE) ZCF ZCH (fun _ => ?_)
   exact ⟨L.length, 0, 0, [], by omega, by simp, by simp, rfl, rfl⟩
  rintro m F H ⟨j, c2, O, hj, hO, hOe, rfl, rfl⟩
  have eL : (sR L).length = L.length := by simp
  refine WA ?_
  refine aw_if rfl (fun hlt2 => ?_) (fun hge2 => ?_)
  ·obtain ⟨s, hs⟩ : ∃ z, L[j]? = some z := ⟨_, List.getElem?_eq_getElem (by omega)⟩
   obtain ⟨sf, st⟩ := s
   have hrow : (sR L)[j]? = some [I sf, I st] := by rw [List.getElem?_map, hs]; rfl
   have hrow0 : (sR L)[0 + j]? = some [I sf, I st] := by rw [Nat.zero_add]; exact hrow
   refine WA ?_
   refine WR ?_
   refine al_ef rfl (ef_call0 true (fun g => hasS_v ⟨st, sf⟩ L (g (.o 0 0 L.length c)) (by omega)) rfl .fn rfl (by decide) (by kernel_rfl) rfl (fun _ => .cons (.frz rfl rfl (by rw [List.drop_zero, List.take_of_length_le (by simp)]) (by simp) rfl) (.cons (.aL (C0 rfl)) .nil)) (fun _ _ _ _ ⟨hu, hH⟩ => by rw [hu, hH]; exact ⟨.c (.inl trivial), by simp⟩)) ?_
   rintro _ _ ⟨_, _, _, ⟨rfl, rfl⟩, hF, hH⟩
   (refine NST hF hH ?_; clear hF hH; rintro rfl rfl)
   refine WE ?_
   refine aw_cond rfl (fun hb => ?_) (fun hb => ?_)
   ·have hOn : (O ++ [(⟨sf, st⟩ : Sid2)]) = ((L.take (j + 1)).filter fun s => !L.contains ⟨s.t, s.f⟩) := by
     rw [List.take_add_one, hs, List.filter_append, ← hOe]
     simp only [Bool.not_eq_true'] at hb
     simp only [Option.toList_some, List.filter_cons, List.filter_nil, hb, Bool.not_false, if_true]
    refine WR ?_
    refine al_ef rfl (Zapp (KA (t := 57) rfl)) ?_
    rintro _ _ ⟨_, cc, hcc, rfl, rfl⟩
    refine WE ?_
    refine WA ?_
    refine wk_of [some 0, some 1] (fun _ => [(3, .o 0 0 L.length c), (4, .o 1 0 (O ++ [(⟨sf, st⟩ : Sid2)]).length cc), (21, .o 0 0 L.length c), (22, .c (I L.length)), (23, .c (I (j + 1 : Nat)))]) (fun _ => _) (by decide) (ZNL hE) ZCF ZCH (fun _ => ?_)
    exact ⟨m - 1, by omega, j + 1, cc, O ++ [⟨sf, st⟩], by omega, by simp; omega, hOn, rfl, by simp [sR]⟩
   ·have hOn : O = ((L.take (j + 1)).filter fun s => !L.contains ⟨s.t, s.f⟩) := by
     rw [List.take_add_one, hs, List.filter_append, ← hOe]
     simp only [Bool.not_eq_true', Bool.not_eq_false'] at hb
     simp only [Option.toList_some, List.filter_cons, List.filter_nil, hb, Bool.not_true, Bool.false_eq_true, if_false, List.append_nil]
    refine ZZ ?_
    refine WA ?_
    refine wk_of [some 0, some 1] (fun _ => [(3, .o 0 0 L.length c), (4, .o 1 0 O.length c2), (21, .o 0 0 L.length c), (22, .c (I L.length)), (23, .c (I (j + 1 : Nat)))]) (fun _ => _) (by decide) (ZNL hE) ZCF ZCH (fun _ => ?_)
    exact ⟨m - 1, by omega, j + 1, c2, O, by omega, by omega, hOn, rfl, rfl⟩
  rw [List.take_of_length_le (by omega)] at hOe
  refine ZZ ?_
  refine WR ?_
  refine al_ef rfl (ef_callp [1] (fun _ => [.arr 70 2 c2 (sR O)]) false (fun _ => sortS_v O c2 (by omega)) rfl .fn rfl (by decide) (by kernel_rfl) rfl ZCH (by decide) (fun _ => .arr rfl rfl .nil) (by simp)) ?_
  rintro F1 H1 ⟨_, _, _, _, ⟨l', hp, rfl, rfl⟩, hF, hH⟩
  rw [killF_nil] at hF; (refine NSU hF hH ?_; clear hF hH; rintro rfl rfl)
  refine WE ?_
  have hpl := hp.length_eq
  refine WA ?_
  exact aret_f1 [] _ rfl rfl rfl rfl (by rw [List.drop_zero, List.take_of_length_le (by simp; omega)]) (by simp; omega) rfl (by decide) (ZNK rfl) (fun _ => .nil) (fun q => ⟨q, l', by rw [hop, ← hOe]; exact hp, rfl, rfl⟩)
end Go.Proofs.YtlblimbelfenaaaGreat

/- Closed meshes of the stream, by value. -/
-- NEWM
namespace Go.Proofs.YtlblimbelfenaaaGreat
open Go Go.RowKit
set_option maxRecDepth 100000
set_option maxHeartbeats 8000000 in
theorem closedmesh_v (v : Value) (zs : List Int) (a : Int) (hs : StrOk zs) (h0 : 0 ≤ a) (h1 : a ≤ 500000000) :
    ACalls Tryz.prog 8 [.p 0 0 0] [strm v zs a] fun u H => ∃ (a' : Int) (q w : Value) (V : List Vec3) (Fs : List Fac3), u = mshA q w V Fs ∧ H = [strm v zs a'] ∧ a ≤ a' ∧ a' ≤ a + 12800 ∧ V.length ≤ 16 ∧ Fs.length ≤ 25 ∧ mshF V Fs = 0 ∧ opnL Fs = [] := by
 refine acalls_of (N := 16) Tryz.func8 rfl rfl (by simp) fun E hE => ?_
 refine WA ?_
 refine WA ?_
 refine aw_loopw (fun m F H => ∃ (k : Nat) (a1 : Int), m + k = 8 ∧ a ≤ a1 ∧ a1 ≤ a + 1600 * k ∧ F = [(0, .p 0 0 0), (2, .p 1 0 0), (4, .c (I k))] ∧ H = [strm v zs a1, .box [.c (.r (.slice none 0 0) []), .c (.r (.slice none 0 0) [])]]) ?_ ?_
 ·refine wk_of [some 0, some 1] (fun _ => [(0, .p 0 0 0), (2, .p 1 0 0), (4, .c (I (0 : Nat)))]) (fun _ => [strm v zs a, .box [.c (.r (.slice none 0 0) []), .c (.r (.slice none 0 0) [])]]) (by decide) (ZNL hE) ZCF ZCH (fun _ => ?_)
  exact ⟨8, 0, a, by omega, by omega, by omega, rfl, rfl⟩
 rintro m F H ⟨k, a1, hk, ha1, ha2, rfl, rfl⟩
 refine WA ?_
 refine aw_if rfl (fun hlt => ?_) (fun hge => ?_)
 ·refine WR ?_
  refine al_ef rfl (ef_callm false (fun _ => rightmesh_v _ _ _ hs (by omega) (by omega)) rfl .fn rfl (by decide) (by kernel_rfl) rfl rfl (fun _g => .cons (.p rfl) .nil) (fun _g => .cons (.c rfl) (.cons (.c rfl) .nil)) (by simp)) ?_
  rintro F1 H1 ⟨_, _, _, _, ⟨a2, q, w, V, Fs, rfl, hq, ha3, ha4, hV, hFl, hmf⟩, hF, hH⟩
  injection hq with hq1 hq2; subst hq1; subst hq2
  (refine NST hF hH ?_; clear hF hH; rintro rfl rfl)
  refine WE ?_
  refine WR ?_
  refine al_ef rfl (ef_call0 false (fun _ => openof_v q w V Fs (by omega)) rfl .fn rfl (by decide) (by kernel_rfl) rfl (fun _ => C0 rfl) (by simp)) ?_
  rintro _ _ ⟨_, _, _, ⟨qo, lo, hlo, rfl, rfl⟩, hF, hH⟩
  (refine NST hF hH ?_; clear hF hH; rintro rfl rfl)
  refine WE ?_
  refine aw_if rfl (fun hok => ?_) (fun hok => ?_)
  ·have hop : opnL Fs = [] := by
    have h3 : lo.length = 0 := by simp at hok; simp [hok]
    rw [List.eq_nil_of_length_eq_zero h3] at hlo
    exact hlo.symm.eq_nil
   refine WA ?_
   exact aret_a [some 0] [strm v zs a2] rfl (KK (t := 29) rfl) rfl (Cells.box rfl) (by simp) (by (try simp only [nm, putL, Nat.reduceAdd, cellsOf, cvOf]) <;> rfl) (by decide) (ZNK rfl) (fun _ => C0 rfl) ZCH ⟨_, q, w, V, Fs, rfl, rfl, by omega, by omega, hV, hFl, hmf, hop⟩
  ·refine ZZ ?_
   refine WA ?_
   refine wk_of [some 0, some 1] (fun _ => [(0, .p 0 0 0), (2, .p 1 0 0), (4, .c (I (k + 1 : Nat)))]) (fun _ => [strm v zs a2, .box [.c (.r (.slice none 0 0) []), .c (.r (.slice none 0 0) [])]]) (by decide) (ZNL hE) ZCF ZCH (fun _ => ?_)
   exact ⟨m - 1, by omega, k + 1, a2, by omega, by omega, by omega, rfl, rfl⟩
 refine ZZ ?_
 refine WR ?_
 refine al_ef rfl (ef_call [] (fun _ => []) false (fun _ => tetra_v ⟨0, 0, 0⟩ 6 (by decide) (by decide)) rfl .fn rfl (by decide) (by kernel_rfl) rfl (fun _ => C0 rfl) (by decide) (fun _ => .nil) (by simp)) ?_
 rintro F1 H1 ⟨_, _, _, _, ⟨rfl, rfl⟩, hF, hH⟩
 (refine NSU hF hH ?_; clear hF hH; rintro rfl rfl)
 refine WE ?_
 exact aret_of (us := [.a [.o 2 0 (tetV ⟨0, 0, 0⟩ 6).length 4, .o 3 0 (tetF).length 4]]) [some 0] (fun g => .a [.c (.r (g (.o 2 0 (tetV ⟨0, 0, 0⟩ 6).length 4)) (vR (tetV ⟨0, 0, 0⟩ 6))), .c (.r (g (.o 3 0 (tetF).length 4)) (fR (tetF)))]) (fun _ => [strm v zs a1]) (.cella rfl (KK (t := 29) rfl) (Cells.box rfl) (by simp) (by (try simp only [nm, putL, Nat.reduceAdd, cellsOf, cvOf]) <;> rfl) .nil) (by decide) (ZNK rfl) (fun _ => .aL (.cons (.frz rfl rfl (by rw [List.drop_zero, List.take_of_length_le (by simp)]) (by simp) rfl) (.cons (.frz rfl rfl (by rw [List.drop_zero, List.take_of_length_le (by simp)]) (by simp) rfl) .nil))) ZCH (fun _ => ⟨_, _, _, tetV ⟨0, 0, 0⟩ 6, tetF, rfl, rfl, by omega, by omega, by decide, by decide, by decide, by decide⟩)
end Go.Proofs.YtlblimbelfenaaaGreat

/- Guarded calls in regions that draw their order. Conditions: none. -/
namespace Go.Proofs.YtlblimbelfenaaaGreat
open Go Go.RowKit
section
variable {P : Program} {N : Nat} {E : Env} {F : Fm} {H : List OB} {o : Oper} {Q : Exit → Fm → List OB → Prop} {ops : Array Oper} {L : List (Nat × Option (List Nat))} {i j d : Nat} {U : List Nat}
end
end Go.Proofs.YtlblimbelfenaaaGreat
