/- The reference's box, by value. -/
import Derived.Test.YthanangkmjjbaaaGreatDoorQay
set_option linter.unusedSimpArgs false
set_option linter.unusedVariables false
/- The reference's box, by value. -/
-- NEWM
namespace Go.Proofs.YthanangkmjjbaaaGreatDoor
open Go Go.RowKit
set_option maxRecDepth 100000
theorem zs_next {V : List Vec3} {Fs : List Fac3} {k : Nat} {f : Fac3} (h : Fs[k]? = some f) : zs V (Fs.take (k + 1)) = zs V (Fs.take k) ++ fzs V f := by
  unfold zs
  rw [List.take_add_one, h, List.flatMap_append]; simp
theorem zs_len (V : List Vec3) (Fs : List Fac3) : (zs V Fs).length = 3 * Fs.length := by
  unfold zs
  induction Fs with
  | nil => rfl
  | cons f l ih => simp only [List.flatMap_cons, List.length_append, ih, fzs, List.length_cons, List.length_nil]; omega
set_option maxHeartbeats 8000000 in
theorem rboxof_v (v w : Value) (V : List Vec3) (Fs : List Fac3) (hM : MOk V Fs) : ACalls Tryz.prog 29 [mshA v w V Fs] [] fun u H => ∃ lo hi : Vec3, u = .t [.a (lo.row.map .c), .a (hi.row.map .c)] ∧ H = [] ∧ lo.z = loZ V Fs ∧ hi.z = hiZ V Fs := by
  have e1 : (vR V).length = V.length := by simp
  have e2 : (fR Fs).length = Fs.length := by simp
  have e2' : (Fs.map Fac3.row).length = Fs.length := by simp
  have hlv := hM.lv
  have hlf := hM.lf
  refine acalls_of (N := 67) Tryz.func29 rfl rfl (by simp) fun E hE => ?_
  refine WA ?_
  refine WA ?_
  refine WA ?_
  refine aw_loopw (fun m F H => ∃ (k cx cy cz : Nat) (xs ys zl : List Int), m + k = Fs.length ∧ xs.length = 3 * k ∧ ys.length = 3 * k ∧ zl = zs V (Fs.take k) ∧ F = [(1, .p 0 0 0), (2, .p 1 0 0), (3, .p 2 0 0), (4, .o 3 0 xs.length cx), (5, .o 4 0 ys.length cy), (6, .o 5 0 zl.length cz), (13, .c (.r w (fR Fs))), (14, .c (I (fR Fs).length)), (15, .c (I k))] ∧ H = [mBox v w V (fR Fs), vBox 0 0 0, vBox 0 0 0, .arr 3 1 cx (zR xs), .arr 3 1 cy (zR ys), .arr 3 1 cz (zR zl)]) ?_ ?_
  · refine wk_of [some 0, some 1, some 2, none, none, none] (fun _ => [(1, .p 0 0 0), (2, .p 1 0 0), (3, .p 2 0 0), (4, .o 3 0 0 0), (5, .o 4 0 0 0), (6, .o 5 0 0 0), (13, .c (.r w (fR Fs))), (14, .c (I (fR Fs).length)), (15, .c (I (0 : Nat)))]) (fun _ => [mBox v w V (fR Fs), vBox 0 0 0, vBox 0 0 0, .arr 3 1 0 [], .arr 3 1 0 [], .arr 3 1 0 []]) (by decide) (ZNL hE) ZCF ZCH (fun _ => ?_)
    exact ⟨Fs.length, 0, 0, 0, 0, [], [], [], by omega, rfl, rfl, rfl, rfl, rfl⟩
  rintro m F H ⟨k, cx, cy, cz, xs, ys, zl, hk, hxs, hys, hzl, rfl, rfl⟩
  refine WA ?_
  refine aw_if rfl (fun hlt => ?_) (fun hge => ?_)
  · obtain ⟨f, hz⟩ : ∃ z, Fs[k]? = some z := ⟨_, List.getElem?_eq_getElem (by omega)⟩
    obtain ⟨h1, h2, h3⟩ := hM.ix (List.mem_of_getElem? hz)
    have hzn := zs_next (V := V) hz
    obtain ⟨fa, fb, fc⟩ := f
    simp only at h1 h2 h3
    have hrow : (fR Fs)[k]? = some [I fa, I fb, I fc] := by rw [List.getElem?_map, hz]; rfl
    refine WA ?_
    refine WA ?_
    refine aw_loopw (fun m2 F H => ∃ (j cx cy cz : Nat) (xs ys zl2 : List Int), m2 + j = 3 ∧ xs.length = 3 * k + j ∧ ys.length = 3 * k + j ∧ zl2 = zs V (Fs.take k) ++ ((fzs V ⟨fa, fb, fc⟩).take j) ∧ F = [(1, .p 0 0 0), (2, .p 1 0 0), (3, .p 2 0 0), (4, .o 3 0 xs.length cx), (5, .o 4 0 ys.length cy), (6, .o 5 0 zl2.length cz), (13, .c (.r w (fR Fs))), (14, .c (I (fR Fs).length)), (15, .c (I k)), (25, .o 6 0 3 3), (26, .c (I (3 : Nat))), (27, .c (I j))] ∧ H = [mBox v w V (fR Fs), vBox 0 0 0, vBox 0 0 0, .arr 3 1 cx (zR xs), .arr 3 1 cy (zR ys), .arr 3 1 cz (zR zl2), .arr 3 1 3 ((corn ⟨fa, fb, fc⟩).map fun n => [I n])]) ?_ ?_
    · refine wk_of [some 0, some 1, some 2, some 3, some 4, some 5, some 7] (fun _ => [(1, .p 0 0 0), (2, .p 1 0 0), (3, .p 2 0 0), (4, .o 3 0 xs.length cx), (5, .o 4 0 ys.length cy), (6, .o 5 0 zl.length cz), (13, .c (.r w (fR Fs))), (14, .c (I (fR Fs).length)), (15, .c (I k)), (25, .o 6 0 3 3), (26, .c (I (3 : Nat))), (27, .c (I (0 : Nat)))]) (fun _ => [mBox v w V (fR Fs), vBox 0 0 0, vBox 0 0 0, .arr 3 1 cx (zR xs), .arr 3 1 cy (zR ys), .arr 3 1 cz (zR zl), .arr 3 1 3 ((corn ⟨fa, fb, fc⟩).map fun n => [I n])]) (by decide) (ZNL hE) ZCF ZCH (fun _ => ?_)
      exact ⟨3, 0, cx, cy, cz, xs, ys, zl, rfl, by omega, by omega, by simpa using hzl, rfl, rfl⟩
    rintro m2 F H ⟨j, cx, cy, cz, xs, ys, zl, hj, hxs, hys, hzl, rfl, rfl⟩
    refine WA ?_
    refine aw_if rfl (fun hlt2 => ?_) (fun hge2 => ?_)
    · obtain ⟨n, hn⟩ : ∃ n, (corn ⟨fa, fb, fc⟩)[j]? = some n := ⟨_, List.getElem?_eq_getElem (by simp [corn]; omega)⟩
      have hrow2 : ((corn ⟨fa, fb, fc⟩).map fun n => [I n])[j]? = some [I n] := by rw [List.getElem?_map, hn]; rfl
      obtain ⟨hn0, hn1, hft⟩ : 0 ≤ n ∧ n < V.length ∧ (fzs V ⟨fa, fb, fc⟩).take (j + 1) = (fzs V ⟨fa, fb, fc⟩).take j ++ [(vx V n).z] := by
        have : j = 0 ∨ j = 1 ∨ j = 2 := by omega
        rcases this with rfl | rfl | rfl <;> (simp [corn] at hn; subst hn; exact ⟨by omega, by omega, rfl⟩)
      obtain ⟨i, rfl⟩ : ∃ i : Nat, n = i := ⟨n.toNat, by omega⟩
      have hrow3 := vrow (V := V) (i := i) (by omega)
      have hzll : zl.length = 3 * k + j := by rw [hzl, List.length_append, zs_len, List.length_take]; simp [fzs]; omega
      refine WA ?_
      refine WA ?_
      generalize vx V (i : Int) = z at hrow3 hft ⊢
      obtain ⟨zx, zy, zz⟩ := z
      refine ZZ ?_
      refine aw_regionM [[(0, none), (1, none), (2, none), (5, none), (6, none), (7, none), (10, none), (11, none), (12, none), (3, some [0, 5, 6, 7, 10, 11, 12]), (4, some [5, 6, 7, 10, 11, 12]), (8, some [0, 1, 2, 5, 10, 11, 12]), (9, some [10, 11, 12]), (13, some [0, 1, 2, 5, 6, 7, 10]), (14, some []), (15, none), (16, none), (17, none)], [(0, none), (1, none), (2, none), (5, none), (6, none), (7, none), (10, none), (11, none), (12, none), (3, some [0, 5, 6, 7, 10, 11, 12]), (4, some [5, 6, 7, 10, 11, 12]), (8, some [0, 1, 2, 5, 10, 11, 12]), (13, some [0, 1, 2, 5, 6, 7, 10]), (9, some [10, 11, 12]), (14, some []), (15, none), (16, none), (17, none)], [(0, none), (1, none), (2, none), (5, none), (6, none), (7, none), (10, none), (11, none), (12, none), (3, some [0, 5, 6, 7, 10, 11, 12]), (4, some [5, 6, 7, 10, 11, 12]), (13, some [0, 1, 2, 5, 6, 7, 10]), (8, some [0, 1, 2, 5, 10, 11, 12]), (9, some [10, 11, 12]), (14, some []), (15, none), (16, none), (17, none)], [(0, none), (1, none), (2, none), (5, none), (6, none), (7, none), (10, none), (11, none), (12, none), (3, some [0, 5, 6, 7, 10, 11, 12]), (8, some [0, 1, 2, 5, 10, 11, 12]), (4, some [5, 6, 7, 10, 11, 12]), (9, some [10, 11, 12]), (13, some [0, 1, 2, 5, 6, 7, 10]), (14, some []), (15, none), (16, none), (17, none)], [(0, none), (1, none), (2, none), (5, none), (6, none), (7, none), (10, none), (11, none), (12, none), (3, some [0, 5, 6, 7, 10, 11, 12]), (8, some [0, 1, 2, 5, 10, 11, 12]), (4, some [5, 6, 7, 10, 11, 12]), (13, some [0, 1, 2, 5, 6, 7, 10]), (9, some [10, 11, 12]), (14, some []), (15, none), (16, none), (17, none)], [(0, none), (1, none), (2, none), (5, none), (6, none), (7, none), (10, none), (11, none), (12, none), (3, some [0, 5, 6, 7, 10, 11, 12]), (8, some [0, 1, 2, 5, 10, 11, 12]), (13, some [0, 1, 2, 5, 6, 7, 10]), (4, some [5, 6, 7, 10, 11, 12]), (9, some [10, 11, 12]), (14, some []), (15, none), (16, none), (17, none)], [(0, none), (1, none), (2, none), (5, none), (6, none), (7, none), (10, none), (11, none), (12, none), (3, some [0, 5, 6, 7, 10, 11, 12]), (13, some [0, 1, 2, 5, 6, 7, 10]), (4, some [5, 6, 7, 10, 11, 12]), (8, some [0, 1, 2, 5, 10, 11, 12]), (9, some [10, 11, 12]), (14, some []), (15, none), (16, none), (17, none)], [(0, none), (1, none), (2, none), (5, none), (6, none), (7, none), (10, none), (11, none), (12, none), (3, some [0, 5, 6, 7, 10, 11, 12]), (13, some [0, 1, 2, 5, 6, 7, 10]), (8, some [0, 1, 2, 5, 10, 11, 12]), (4, some [5, 6, 7, 10, 11, 12]), (9, some [10, 11, 12]), (14, some []), (15, none), (16, none), (17, none)], [(0, none), (1, none), (2, none), (5, none), (6, none), (7, none), (10, none), (11, none), (12, none), (8, some [0, 1, 2, 5, 10, 11, 12]), (3, some [0, 5, 6, 7, 10, 11, 12]), (4, some [5, 6, 7, 10, 11, 12]), (9, some [10, 11, 12]), (13, some [0, 1, 2, 5, 6, 7, 10]), (14, some []), (15, none), (16, none), (17, none)], [(0, none), (1, none), (2, none), (5, none), (6, none), (7, none), (10, none), (11, none), (12, none), (8, some [0, 1, 2, 5, 10, 11, 12]), (3, some [0, 5, 6, 7, 10, 11, 12]), (4, some [5, 6, 7, 10, 11, 12]), (13, some [0, 1, 2, 5, 6, 7, 10]), (9, some [10, 11, 12]), (14, some []), (15, none), (16, none), (17, none)], [(0, none), (1, none), (2, none), (5, none), (6, none), (7, none), (10, none), (11, none), (12, none), (8, some [0, 1, 2, 5, 10, 11, 12]), (3, some [0, 5, 6, 7, 10, 11, 12]), (13, some [0, 1, 2, 5, 6, 7, 10]), (4, some [5, 6, 7, 10, 11, 12]), (9, some [10, 11, 12]), (14, some []), (15, none), (16, none), (17, none)], [(0, none), (1, none), (2, none), (5, none), (6, none), (7, none), (10, none), (11, none), (12, none), (8, some [0, 1, 2, 5, 10, 11, 12]), (13, some [0, 1, 2, 5, 6, 7, 10]), (3, some [0, 5, 6, 7, 10, 11, 12]), (4, some [5, 6, 7, 10, 11, 12]), (9, some [10, 11, 12]), (14, some []), (15, none), (16, none), (17, none)], [(0, none), (1, none), (2, none), (5, none), (6, none), (7, none), (10, none), (11, none), (12, none), (13, some [0, 1, 2, 5, 6, 7, 10]), (3, some [0, 5, 6, 7, 10, 11, 12]), (4, some [5, 6, 7, 10, 11, 12]), (8, some [0, 1, 2, 5, 10, 11, 12]), (9, some [10, 11, 12]), (14, some []), (15, none), (16, none), (17, none)], [(0, none), (1, none), (2, none), (5, none), (6, none), (7, none), (10, none), (11, none), (12, none), (13, some [0, 1, 2, 5, 6, 7, 10]), (3, some [0, 5, 6, 7, 10, 11, 12]), (8, some [0, 1, 2, 5, 10, 11, 12]), (4, some [5, 6, 7, 10, 11, 12]), (9, some [10, 11, 12]), (14, some []), (15, none), (16, none), (17, none)], [(0, none), (1, none), (2, none), (5, none), (6, none), (7, none), (10, none), (11, none), (12, none), (13, some [0, 1, 2, 5, 6, 7, 10]), (8, some [0, 1, 2, 5, 10, 11, 12]), (3, some [0, 5, 6, 7, 10, 11, 12]), (4, some [5, 6, 7, 10, 11, 12]), (9, some [10, 11, 12]), (14, some []), (15, none), (16, none), (17, none)]] hMixed (by kernel_rfl) ?_
      focus
        refine WM ?_
        refine am_three (by rfl) (by rfl) (by rfl) (by rfl) ?_ ?_ ?_
        rotate_left 2
        refine WM ?_
        refine am_two (by rfl) (by rfl) (by rfl) ?_ ?_
        rotate_left
        refine WM ?_
        refine am_ef (i := 4) (by rfl) (by rfl) rfl rfl (Zapp (KA (t := 22) rfl)) ?_
        rintro _ _ ⟨_, cc, hcc, rfl, rfl⟩
        refine ⟨AGX, ?_⟩
        refine am_ef (i := 9) (by rfl) (by rfl) rfl rfl (Zapp (KA (t := 22) rfl)) ?_
        rintro _ _ ⟨_, cc, hcc, rfl, rfl⟩
        refine ⟨AGX, ?_⟩
        refine am_ef (i := 14) (by rfl) (by rfl) rfl rfl (Zapp (KA (t := 22) rfl)) ?_
        rintro _ _ ⟨_, cc, hcc, rfl, rfl⟩
        refine ⟨AGX, ?_⟩
        refine WN ?_
        rotate_right
        refine WM ?_
        refine am_two (by rfl) (by rfl) (by rfl) ?_ ?_
        rotate_left
        refine WM ?_
        refine am_ef (i := 4) (by rfl) (by rfl) rfl rfl (Zapp (KA (t := 22) rfl)) ?_
        rintro _ _ ⟨_, cc, hcc, rfl, rfl⟩
        refine ⟨AGX, ?_⟩
        refine am_ef (i := 9) (by rfl) (by rfl) rfl rfl (Zapp (KA (t := 22) rfl)) ?_
        rintro _ _ ⟨_, cc, hcc, rfl, rfl⟩
        refine ⟨AGX, ?_⟩
        refine am_ef (i := 14) (by rfl) (by rfl) rfl rfl (Zapp (KA (t := 22) rfl)) ?_
        rintro _ _ ⟨_, cc, hcc, rfl, rfl⟩
        refine ⟨AGX, ?_⟩
        refine WN ?_
        rotate_right
        refine am_ef (i := 4) (by rfl) (by rfl) rfl rfl (Zapp (KA (t := 22) rfl)) ?_
        rintro _ _ ⟨_, cc, hcc, rfl, rfl⟩
        refine ⟨AGX, ?_⟩
        refine WM ?_
        refine am_ef (i := 9) (by rfl) (by rfl) rfl rfl (Zapp (KA (t := 22) rfl)) ?_
        rintro _ _ ⟨_, cc, hcc, rfl, rfl⟩
        refine ⟨AGX, ?_⟩
        refine am_ef (i := 14) (by rfl) (by rfl) rfl rfl (Zapp (KA (t := 22) rfl)) ?_
        rintro _ _ ⟨_, cc, hcc, rfl, rfl⟩
        refine ⟨AGX, ?_⟩
        refine WN ?_
        rotate_right
        refine WM ?_
        refine am_two (by rfl) (by rfl) (by rfl) ?_ ?_
        rotate_left
        refine WM ?_
        refine am_ef (i := 4) (by rfl) (by rfl) rfl rfl (Zapp (KA (t := 22) rfl)) ?_
        rintro _ _ ⟨_, cc, hcc, rfl, rfl⟩
        refine ⟨AGX, ?_⟩
        refine am_ef (i := 9) (by rfl) (by rfl) rfl rfl (Zapp (KA (t := 22) rfl)) ?_
        rintro _ _ ⟨_, cc, hcc, rfl, rfl⟩
        refine ⟨AGX, ?_⟩
        refine am_ef (i := 14) (by rfl) (by rfl) rfl rfl (Zapp (KA (t := 22) rfl)) ?_
        rintro _ _ ⟨_, cc, hcc, rfl, rfl⟩
        refine ⟨AGX, ?_⟩
        refine WN ?_
        rotate_right
        refine WM ?_
        refine am_two (by rfl) (by rfl) (by rfl) ?_ ?_
        rotate_left
        refine WM ?_
        refine am_ef (i := 4) (by rfl) (by rfl) rfl rfl (Zapp (KA (t := 22) rfl)) ?_
        rintro _ _ ⟨_, cc, hcc, rfl, rfl⟩
        refine ⟨AGX, ?_⟩
        refine am_ef (i := 9) (by rfl) (by rfl) rfl rfl (Zapp (KA (t := 22) rfl)) ?_
        rintro _ _ ⟨_, cc, hcc, rfl, rfl⟩
        refine ⟨AGX, ?_⟩
        refine am_ef (i := 14) (by rfl) (by rfl) rfl rfl (Zapp (KA (t := 22) rfl)) ?_
        rintro _ _ ⟨_, cc, hcc, rfl, rfl⟩
        refine ⟨AGX, ?_⟩
        refine WN ?_
        rotate_right
        refine am_ef (i := 4) (by rfl) (by rfl) rfl rfl (Zapp (KA (t := 22) rfl)) ?_
        rintro _ _ ⟨_, cc, hcc, rfl, rfl⟩
        refine ⟨AGX, ?_⟩
        refine am_two (by rfl) (by rfl) (by rfl) ?_ ?_
        rotate_left
        refine WM ?_
        refine am_ef (i := 9) (by rfl) (by rfl) rfl rfl (Zapp (KA (t := 22) rfl)) ?_
        rintro _ _ ⟨_, cc, hcc, rfl, rfl⟩
        refine ⟨AGX, ?_⟩
        refine am_ef (i := 14) (by rfl) (by rfl) rfl rfl (Zapp (KA (t := 22) rfl)) ?_
        rintro _ _ ⟨_, cc, hcc, rfl, rfl⟩
        refine ⟨AGX, ?_⟩
        refine WN ?_
        rotate_right
        refine am_ef (i := 9) (by rfl) (by rfl) rfl rfl (Zapp (KA (t := 22) rfl)) ?_
        rintro _ _ ⟨_, cc, hcc, rfl, rfl⟩
        refine ⟨AGX, ?_⟩
        refine WM ?_
        refine am_ef (i := 14) (by rfl) (by rfl) rfl rfl (Zapp (KA (t := 22) rfl)) ?_
        rintro _ _ ⟨_, cc, hcc, rfl, rfl⟩
        refine ⟨AGX, ?_⟩
        refine WN ?_
        rotate_right
        refine WM ?_
        refine am_three (by rfl) (by rfl) (by rfl) (by rfl) ?_ ?_ ?_
        rotate_left 2
        refine WM ?_
        refine am_two (by rfl) (by rfl) (by rfl) ?_ ?_
        rotate_left
        refine WM ?_
        refine am_ef (i := 4) (by rfl) (by rfl) rfl rfl (Zapp (KA (t := 22) rfl)) ?_
        rintro _ _ ⟨_, cc, hcc, rfl, rfl⟩
        refine ⟨AGX, ?_⟩
        refine am_ef (i := 9) (by rfl) (by rfl) rfl rfl (Zapp (KA (t := 22) rfl)) ?_
        rintro _ _ ⟨_, cc, hcc, rfl, rfl⟩
        refine ⟨AGX, ?_⟩
        refine am_ef (i := 14) (by rfl) (by rfl) rfl rfl (Zapp (KA (t := 22) rfl)) ?_
        rintro _ _ ⟨_, cc, hcc, rfl, rfl⟩
        refine ⟨AGX, ?_⟩
        refine WN ?_
        rotate_right
        refine am_ef (i := 4) (by rfl) (by rfl) rfl rfl (Zapp (KA (t := 22) rfl)) ?_
        rintro _ _ ⟨_, cc, hcc, rfl, rfl⟩
        refine ⟨AGX, ?_⟩
        refine WM ?_
        refine am_ef (i := 9) (by rfl) (by rfl) rfl rfl (Zapp (KA (t := 22) rfl)) ?_
        rintro _ _ ⟨_, cc, hcc, rfl, rfl⟩
        refine ⟨AGX, ?_⟩
        refine am_ef (i := 14) (by rfl) (by rfl) rfl rfl (Zapp (KA (t := 22) rfl)) ?_
        rintro _ _ ⟨_, cc, hcc, rfl, rfl⟩
        refine ⟨AGX, ?_⟩
        refine WN ?_
        rotate_right
        refine WM ?_
        refine am_two (by rfl) (by rfl) (by rfl) ?_ ?_
        rotate_left
        refine WM ?_
        refine am_ef (i := 4) (by rfl) (by rfl) rfl rfl (Zapp (KA (t := 22) rfl)) ?_
        rintro _ _ ⟨_, cc, hcc, rfl, rfl⟩
        refine ⟨AGX, ?_⟩
        refine am_ef (i := 9) (by rfl) (by rfl) rfl rfl (Zapp (KA (t := 22) rfl)) ?_
        rintro _ _ ⟨_, cc, hcc, rfl, rfl⟩
        refine ⟨AGX, ?_⟩
        refine am_ef (i := 14) (by rfl) (by rfl) rfl rfl (Zapp (KA (t := 22) rfl)) ?_
        rintro _ _ ⟨_, cc, hcc, rfl, rfl⟩
        refine ⟨AGX, ?_⟩
        refine WN ?_
        rotate_right
        refine am_ef (i := 4) (by rfl) (by rfl) rfl rfl (Zapp (KA (t := 22) rfl)) ?_
        rintro _ _ ⟨_, cc, hcc, rfl, rfl⟩
        refine ⟨AGX, ?_⟩
        refine am_two (by rfl) (by rfl) (by rfl) ?_ ?_
        rotate_left
        refine WM ?_
        refine am_ef (i := 9) (by rfl) (by rfl) rfl rfl (Zapp (KA (t := 22) rfl)) ?_
        rintro _ _ ⟨_, cc, hcc, rfl, rfl⟩
        refine ⟨AGX, ?_⟩
        refine am_ef (i := 14) (by rfl) (by rfl) rfl rfl (Zapp (KA (t := 22) rfl)) ?_
        rintro _ _ ⟨_, cc, hcc, rfl, rfl⟩
        refine ⟨AGX, ?_⟩
        refine WN ?_
        rotate_right
        refine am_ef (i := 9) (by rfl) (by rfl) rfl rfl (Zapp (KA (t := 22) rfl)) ?_
        rintro _ _ ⟨_, cc, hcc, rfl, rfl⟩
        refine ⟨AGX, ?_⟩
        refine WM ?_
        refine am_ef (i := 14) (by rfl) (by rfl) rfl rfl (Zapp (KA (t := 22) rfl)) ?_
        rintro _ _ ⟨_, cc, hcc, rfl, rfl⟩
        refine ⟨AGX, ?_⟩
        refine WN ?_
        rotate_right
        refine am_ef (i := 4) (by rfl) (by rfl) rfl rfl (Zapp (KA (t := 22) rfl)) ?_
        rintro _ _ ⟨_, cc, hcc, rfl, rfl⟩
        refine ⟨AGX, ?_⟩
        refine am_two (by rfl) (by rfl) (by rfl) ?_ ?_
        rotate_left
        refine WM ?_
        refine am_ef (i := 9) (by rfl) (by rfl) rfl rfl (Zapp (KA (t := 22) rfl)) ?_
        rintro _ _ ⟨_, cc, hcc, rfl, rfl⟩
        refine ⟨AGX, ?_⟩
        refine am_ef (i := 14) (by rfl) (by rfl) rfl rfl (Zapp (KA (t := 22) rfl)) ?_
        rintro _ _ ⟨_, cc, hcc, rfl, rfl⟩
        refine ⟨AGX, ?_⟩
        refine WN ?_
        rotate_right
        refine WM ?_
        refine am_two (by rfl) (by rfl) (by rfl) ?_ ?_
        rotate_left
        refine WM ?_
        refine am_ef (i := 9) (by rfl) (by rfl) rfl rfl (Zapp (KA (t := 22) rfl)) ?_
        rintro _ _ ⟨_, cc, hcc, rfl, rfl⟩
        refine ⟨AGX, ?_⟩
        refine am_ef (i := 14) (by rfl) (by rfl) rfl rfl (Zapp (KA (t := 22) rfl)) ?_
        rintro _ _ ⟨_, cc, hcc, rfl, rfl⟩
        refine ⟨AGX, ?_⟩
        refine WN ?_
        rotate_right
        refine am_ef (i := 9) (by rfl) (by rfl) rfl rfl (Zapp (KA (t := 22) rfl)) ?_
        rintro _ _ ⟨_, cc, hcc, rfl, rfl⟩
        refine ⟨AGX, ?_⟩
        refine WM ?_
        refine am_ef (i := 14) (by rfl) (by rfl) rfl rfl (Zapp (KA (t := 22) rfl)) ?_
        rintro _ _ ⟨_, cc, hcc, rfl, rfl⟩
        refine ⟨AGX, ?_⟩
        refine WN ?_
      all_goals (refine WA ?_)
      all_goals (refine wk_of [some 0, some 1, some 2, some 3, some 4, some 5, some 6] (fun _ => [(1, .p 0 0 0), (2, .p 1 0 0), (3, .p 2 0 0), (4, .o 3 0 (xs ++ [zx]).length _), (5, .o 4 0 (ys ++ [zy]).length _), (6, .o 5 0 (zl ++ [zz]).length _), (13, .c (.r w (fR Fs))), (14, .c (I (fR Fs).length)), (15, .c (I k)), (25, .o 6 0 3 3), (26, .c (I (3 : Nat))), (27, .c (I (j + 1 : Nat)))]) (fun _ => _) (by decide) (ZNL hE) ZCF ZCH (fun _ => ?_))
      all_goals (refine ⟨m2 - 1, by omega, j + 1, _, _, _, xs ++ [zx], ys ++ [zy], zl ++ [zz], by omega, by simp; omega, by simp; omega, by rw [hft, ← List.append_assoc, ← hzl], rfl, ?_⟩)
      all_goals (simp [zR])
    have hta : (fzs V ⟨fa, fb, fc⟩).take j = fzs V ⟨fa, fb, fc⟩ := List.take_of_length_le (by simp only [fzs, List.length_cons, List.length_nil]; omega)
    refine ZZ ?_
    refine WA ?_
    refine wk_of [some 0, some 1, some 2, some 3, some 4, some 5] (fun _ => [(1, .p 0 0 0), (2, .p 1 0 0), (3, .p 2 0 0), (4, .o 3 0 xs.length cx), (5, .o 4 0 ys.length cy), (6, .o 5 0 zl.length cz), (13, .c (.r w (fR Fs))), (14, .c (I (fR Fs).length)), (15, .c (I (k + 1 : Nat)))]) (fun _ => [mBox v w V (fR Fs), vBox 0 0 0, vBox 0 0 0, .arr 3 1 cx (zR xs), .arr 3 1 cy (zR ys), .arr 3 1 cz (zR zl)]) (by decide) (ZNL hE) ZCF ZCH (fun _ => ?_)
    exact ⟨m - 1, by omega, k + 1, cx, cy, cz, xs, ys, zl, by omega, by omega, by omega, by rw [hzl, hzn, hta], rfl, rfl⟩
  refine ZZ ?_
  obtain rfl : k = Fs.length := by omega
  have hF0 : 0 < Fs.length := List.length_pos_iff.2 hM.ne
  have hzll : zl.length = 3 * Fs.length := by rw [hzl, zs_len, List.length_take]; omega
  have nx : xs ≠ [] := fun h => by rw [h] at hxs; simp at hxs; omega
  have ny : ys ≠ [] := fun h => by rw [h] at hys; simp at hys; omega
  have nz : zl ≠ [] := fun h => by rw [h] at hzll; simp at hzll; omega
  rw [List.take_of_length_le (Nat.le_refl _)] at hzl
  refine WR ?_
  refine al_ef rfl (ef_call0 true (fun g => minI_v xs (g (.o 3 0 xs.length cx)) nx (by omega)) rfl .fn rfl (by decide) (by kernel_rfl) rfl (fun _ => .cons (.frz rfl rfl (by rw [List.drop_zero, List.take_of_length_le (by simp)]) (by simp) rfl) .nil) (fun _ _ _ _ ⟨hu, hH⟩ => by rw [hu, hH]; exact ⟨.c (.inl trivial), by simp⟩)) ?_
  rintro _ _ ⟨_, _, _, ⟨rfl, rfl⟩, hF, hH⟩
  (try simp only [nsl, Nat.reduceAdd, Nat.reduceLT, Nat.reduceSub] at hF); (try simp only [nsl, Nat.reduceAdd, Nat.reduceLT, Nat.reduceSub] at hH); subst hF; subst hH
  refine WO ?_
  refine al_ef rfl (ef_call0 true (fun g => minI_v ys (g (.o 4 0 ys.length cy)) ny (by omega)) rfl .fn rfl (by decide) (by kernel_rfl) rfl (fun _ => .cons (.frz rfl rfl (by rw [List.drop_zero, List.take_of_length_le (by simp)]) (by simp) rfl) .nil) (fun _ _ _ _ ⟨hu, hH⟩ => by rw [hu, hH]; exact ⟨.c (.inl trivial), by simp⟩)) ?_
  rintro _ _ ⟨_, _, _, ⟨rfl, rfl⟩, hF, hH⟩
  (try simp only [nsl, Nat.reduceAdd, Nat.reduceLT, Nat.reduceSub] at hF); (try simp only [nsl, Nat.reduceAdd, Nat.reduceLT, Nat.reduceSub] at hH); subst hF; subst hH
  refine WO ?_
  refine al_ef rfl (ef_call0 true (fun g => minI_v zl (g (.o 5 0 zl.length cz)) nz (by omega)) rfl .fn rfl (by decide) (by kernel_rfl) rfl (fun _ => .cons (.frz rfl rfl (by rw [List.drop_zero, List.take_of_length_le (by simp)]) (by simp) rfl) .nil) (fun _ _ _ _ ⟨hu, hH⟩ => by rw [hu, hH]; exact ⟨.c (.inl trivial), by simp⟩)) ?_
  rintro _ _ ⟨_, _, _, ⟨rfl, rfl⟩, hF, hH⟩
  (try simp only [nsl, Nat.reduceAdd, Nat.reduceLT, Nat.reduceSub] at hF); (try simp only [nsl, Nat.reduceAdd, Nat.reduceLT, Nat.reduceSub] at hH); subst hF; subst hH
  refine WO ?_
  refine al_ef rfl (ef_call0 true (fun g => maxI_v xs (g (.o 3 0 xs.length cx)) nx (by omega)) rfl .fn rfl (by decide) (by kernel_rfl) rfl (fun _ => .cons (.frz rfl rfl (by rw [List.drop_zero, List.take_of_length_le (by simp)]) (by simp) rfl) .nil) (fun _ _ _ _ ⟨hu, hH⟩ => by rw [hu, hH]; exact ⟨.c (.inl trivial), by simp⟩)) ?_
  rintro _ _ ⟨_, _, _, ⟨rfl, rfl⟩, hF, hH⟩
  (try simp only [nsl, Nat.reduceAdd, Nat.reduceLT, Nat.reduceSub] at hF); (try simp only [nsl, Nat.reduceAdd, Nat.reduceLT, Nat.reduceSub] at hH); subst hF; subst hH
  refine WO ?_
  refine al_ef rfl (ef_call0 true (fun g => maxI_v ys (g (.o 4 0 ys.length cy)) ny (by omega)) rfl .fn rfl (by decide) (by kernel_rfl) rfl (fun _ => .cons (.frz rfl rfl (by rw [List.drop_zero, List.take_of_length_le (by simp)]) (by simp) rfl) .nil) (fun _ _ _ _ ⟨hu, hH⟩ => by rw [hu, hH]; exact ⟨.c (.inl trivial), by simp⟩)) ?_
  rintro _ _ ⟨_, _, _, ⟨rfl, rfl⟩, hF, hH⟩
  (try simp only [nsl, Nat.reduceAdd, Nat.reduceLT, Nat.reduceSub] at hF); (try simp only [nsl, Nat.reduceAdd, Nat.reduceLT, Nat.reduceSub] at hH); subst hF; subst hH
  refine WO ?_
  refine al_ef rfl (ef_call0 true (fun g => maxI_v zl (g (.o 5 0 zl.length cz)) nz (by omega)) rfl .fn rfl (by decide) (by kernel_rfl) rfl (fun _ => .cons (.frz rfl rfl (by rw [List.drop_zero, List.take_of_length_le (by simp)]) (by simp) rfl) .nil) (fun _ _ _ _ ⟨hu, hH⟩ => by rw [hu, hH]; exact ⟨.c (.inl trivial), by simp⟩)) ?_
  rintro _ _ ⟨_, _, _, ⟨rfl, rfl⟩, hF, hH⟩
  (try simp only [nsl, Nat.reduceAdd, Nat.reduceLT, Nat.reduceSub] at hF); (try simp only [nsl, Nat.reduceAdd, Nat.reduceLT, Nat.reduceSub] at hH); subst hF; subst hH
  refine WE ?_
  exact aret_c2 rfl (KK (t := 34) rfl) rfl rfl (Cells.box rfl) (Cells.box rfl) (by simp) (by simp) (by (try simp only [nm, putL, Nat.reduceAdd, cellsOf, cvOf]) <;> rfl) (by (try simp only [nm, putL, Nat.reduceAdd, cellsOf, cvOf]) <;> rfl) rfl (fun _ => C0 rfl) (fun _ => C0 rfl) ⟨⟨minL xs, minL ys, minL zl⟩, ⟨maxL xs, maxL ys, maxL zl⟩, rfl, rfl, by rw [hzl]; rfl, by rw [hzl]; rfl⟩
end Go.Proofs.YthanangkmjjbaaaGreatDoor
