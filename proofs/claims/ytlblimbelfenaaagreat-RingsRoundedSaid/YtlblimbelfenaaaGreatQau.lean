/- Segments of the reference, by value. -/
import Derived.Test.YtlblimbelfenaaaGreatQap
import Derived.Test.YtlblimbelfenaaaGreatQat
set_option linter.unusedSimpArgs false
set_option linter.unusedVariables false
/- Planes through meshes: the faces that are cut, and their segments, by value: the program's. -/
namespace Go.Proofs.YtlblimbelfenaaaGreat
open Go Go.RowKit
set_option maxRecDepth 100000
abbrev Seg5.row (g : Seg5) : List CV := [I g.i, I g.fr.f, I g.fr.t, I g.to.f, I g.to.t]
theorem fcAt_of {Fs : List Fac3} {k : Nat} {f : Fac3} (h : Fs[k]? = some f) : fcAt Fs k = f := by
 unfold fcAt; rw [List.getD_eq_getElem?_getD, h]; rfl
set_option maxHeartbeats 4000000 in
theorem cross_p (v w : Value) (V : List Vec3) (Fs : List Fac3) (z : Int) (hM : MOk V Fs) : ACalls Tryz.prog 126 [mshA v w V Fs, .c (I z)] [] fun u H => ∃ q, u = .c (.r q (zR (crT V Fs z Fs.length))) ∧ H = [] := by
 have e2 : (fR Fs).length = Fs.length := by simp
 have e2' : (Fs.map Fac3.row).length = Fs.length := by simp
 have hlf := hM.lf
 refine acalls_of (N := 36) Tryz.func126 rfl rfl (by simp) fun E hE => ?_
 refine WA ?_
 refine WA ?_
 refine WA ?_
 refine aw_loopw (fun m F H => ∃ (k c : Nat) (L : List Int), m + k = Fs.length ∧ L.length ≤ k ∧ L = crT V Fs z k ∧ F = [(1, .c (I z)), (2, .p 0 0 0), (5, .o 1 0 L.length c), (10, .c (.r w (fR Fs))), (11, .c (I (fR Fs).length)), (12, .c (I k))] ∧ H = [mBox v w V (fR Fs), .arr 3 1 c (zR L)]) ?_ ?_
 ·refine wk_of [some 0, none] (fun _ => [(1, .c (I z)), (2, .p 0 0 0), (5, .o 1 0 0 0), (10, .c (.r w (fR Fs))), (11, .c (I (fR Fs).length)), (12, .c (I (0 : Nat)))]) (fun _ => [mBox v w V (fR Fs), .arr 3 1 0 []]) (by decide) (ZNL hE) ZCF ZCH (fun _ => ?_)
  exact ⟨Fs.length, 0, 0, [], by omega, by simp, rfl, rfl, rfl⟩
 rintro m F H ⟨k, c, L, hk, hLk, hLe, rfl, rfl⟩
 refine WA ?_
 refine aw_if rfl (fun hlt => ?_) (fun hge => ?_)
 ·obtain ⟨f, hz⟩ : ∃ z, Fs[k]? = some z := ⟨_, List.getElem?_eq_getElem (by omega)⟩
  obtain ⟨h1, h2, h3⟩ := hM.ix (List.mem_of_getElem? hz)
  have hn := crT_next V Fs z k
  rw [fcAt_of hz, ← hLe] at hn
  obtain ⟨fa, fb, fc⟩ := f
  simp only at h1 h2 h3
  obtain ⟨ia, ha⟩ : ∃ i : Nat, fa = i := ⟨fa.toNat, by omega⟩
  obtain ⟨ib, hb⟩ : ∃ i : Nat, fb = i := ⟨fb.toNat, by omega⟩
  obtain ⟨ic, hc⟩ : ∃ i : Nat, fc = i := ⟨fc.toNat, by omega⟩
  subst ha; subst hb; subst hc
  have hrow : (fR Fs)[k]? = some [I ia, I ib, I ic] := by rw [List.getElem?_map, hz]; rfl
  have hcr : crF V z ⟨ia, ib, ic⟩ = (decide (minL [(vx V ia).z, (vx V ib).z, (vx V ic).z] < z) && decide (z ≤ maxL [(vx V ia).z, (vx V ib).z, (vx V ic).z])) := rfl
  rw [hcr] at hn
  refine WA ?_
  refine WR ?_
  refine al_ef rfl (ef_call0 false (fun _ => heights_v v w V (fR Fs) ia ib ic (by omega) (by omega) (by omega)) rfl .fn rfl (by decide) (by kernel_rfl) rfl (fun _ => C0 rfl) (by simp)) ?_
  rintro _ _ ⟨_, _, _, ⟨rfl, rfl⟩, hF, hH⟩
  (refine NST hF hH ?_; clear hF hH; rintro rfl rfl)
  refine WE ?_
  refine aw_boxarr 3 3 [I (vx V ia).z, I (vx V ib).z, I (vx V ic).z] rfl rfl (by decide) (by rw [hE]; exact Nat.zero_le _) rfl rfl fun e' => ?_
  simp only [List.set_cons_succ, List.set_cons_zero]
  refine aw_cut (fun F H => ∃ bb : Bool, crF V z ⟨ia, ib, ic⟩ = bb ∧ F = [(1, .c (I z)), (2, .p 0 0 0), (5, .o 1 0 L.length c), (6, .c (I k)), (10, .c (.r w (fR Fs))), (11, .c (I (fR Fs).length)), (12, .c (I k)), (29, .c (B bb))] ∧ H = [mBox v w V (fR Fs), .arr 3 1 c (zR L)]) ?_ ?_ wk_aw
  ·cases c1 : decide (minL [(vx V ia).z, (vx V ib).z, (vx V ic).z] < z) with
   | false =>
    have c1' := of_decide_eq_false c1
    refine WR ?_
    refine al_rd rfl rfl (by decide) (rd_slicearr (e := 3) (n := 3) rfl (by kernel_rfl) rfl rfl) ?_
    refine al_ef rfl (ef_call0 true (fun g => minI_v [(vx V ia).z, (vx V ib).z, (vx V ic).z] (g (.o 3 0 3 3)) (by simp) (by simp)) rfl .fn rfl (by decide) (by kernel_rfl) rfl (fun _ => .cons (.frz rfl rfl rfl rfl rfl) .nil) (fun _ _ _ _ ⟨hu, hH⟩ => by rw [hu, hH]; exact ⟨.c (.inl trivial), by simp⟩)) ?_
    rintro _ _ ⟨_, _, _, ⟨rfl, rfl⟩, hF, hH⟩
    (refine NST hF hH ?_; clear hF hH; rintro rfl rfl)
    refine WE ?_
    refine wk_of [some 0, some 1] (fun _ => [(1, .c (I z)), (2, .p 0 0 0), (5, .o 1 0 L.length c), (6, .c (I k)), (10, .c (.r w (fR Fs))), (11, .c (I (fR Fs).length)), (12, .c (I k)), (29, .c (B false))]) (fun _ => [mBox v w V (fR Fs), .arr 3 1 c (zR L)]) (by decide) (ZNL hE) ZCF ZCH (fun _ => ?_)
    exact ⟨false, by rw [hcr, c1, Bool.false_and], rfl, rfl⟩
   | true =>
    have c1' := of_decide_eq_true c1
    refine WR ?_
    refine al_rd rfl rfl (by decide) (rd_slicearr (e := 3) (n := 3) rfl (by kernel_rfl) rfl rfl) ?_
    refine al_ef rfl (ef_call0 true (fun g => minI_v [(vx V ia).z, (vx V ib).z, (vx V ic).z] (g (.o 3 0 3 3)) (by simp) (by simp)) rfl .fn rfl (by decide) (by kernel_rfl) rfl (fun _ => .cons (.frz rfl rfl rfl rfl rfl) .nil) (fun _ _ _ _ ⟨hu, hH⟩ => by rw [hu, hH]; exact ⟨.c (.inl trivial), by simp⟩)) ?_
    rintro _ _ ⟨_, _, _, ⟨rfl, rfl⟩, hF, hH⟩
    (refine NST hF hH ?_; clear hF hH; rintro rfl rfl)
    refine WO ?_
    refine G1 rfl ?_
    refine al_rd rfl rfl (by decide) (rd_slicearr (e := 3) (n := 3) rfl (by kernel_rfl) rfl rfl) ?_
    refine G1 rfl ?_
    refine al_ef rfl (ef_call0 true (fun g => maxI_v [(vx V ia).z, (vx V ib).z, (vx V ic).z] (g (.o 3 0 3 3)) (by simp) (by simp)) rfl .fn rfl (by decide) (by kernel_rfl) rfl (fun _ => .cons (.frz rfl rfl rfl rfl rfl) .nil) (fun _ _ _ _ ⟨hu, hH⟩ => by rw [hu, hH]; exact ⟨.c (.inl trivial), by simp⟩)) ?_
    rintro _ _ ⟨_, _, _, ⟨rfl, rfl⟩, hF, hH⟩
    (refine NST hF hH ?_; clear hF hH; rintro rfl rfl)
    refine WE ?_
    refine wk_of [some 0, some 1] (fun _ => [(1, .c (I z)), (2, .p 0 0 0), (5, .o 1 0 L.length c), (6, .c (I k)), (10, .c (.r w (fR Fs))), (11, .c (I (fR Fs).length)), (12, .c (I k)), (29, .c (B (decide (z ≤ maxL [(vx V ia).z, (vx V ib).z, (vx V ic).z]))))]) (fun _ => [mBox v w V (fR Fs), .arr 3 1 c (zR L)]) (by decide) (ZNL hE) ZCF ZCH (fun _ => ?_)
    exact ⟨_, by rw [hcr, c1, Bool.true_and], rfl, rfl⟩
  rw [← hcr] at hn
  rintro F H ⟨bb, hbb, rfl, rfl⟩
  rw [hbb] at hn
  refine aw_cond rfl (fun hb => ?_) (fun hb => ?_)
  ·rw [if_pos hb] at hn
   refine WR ?_
   refine al_ef rfl (Zapp (KA (t := 22) rfl)) ?_
   rintro _ _ ⟨_, cc, hcc, rfl, rfl⟩
   refine WE ?_
   refine WA ?_
   refine wk_of [some 0, some 1] (fun _ => [(1, .c (I z)), (2, .p 0 0 0), (5, .o 1 0 (L ++ [(k : Int)]).length cc), (10, .c (.r w (fR Fs))), (11, .c (I (fR Fs).length)), (12, .c (I (k + 1 : Nat)))]) (fun _ => _) (by decide) (ZNL hE) ZCF ZCH (fun _ => ?_)
   exact ⟨m - 1, by omega, k + 1, cc, L ++ [(k : Int)], by omega, by simp; omega, hn.symm, rfl, by simp⟩
  ·rw [if_neg (by simp [hb])] at hn
   refine ZZ ?_
   refine WA ?_
   refine wk_of [some 0, some 1] (fun _ => [(1, .c (I z)), (2, .p 0 0 0), (5, .o 1 0 L.length c), (10, .c (.r w (fR Fs))), (11, .c (I (fR Fs).length)), (12, .c (I (k + 1 : Nat)))]) (fun _ => _) (by decide) (ZNL hE) ZCF ZCH (fun _ => ?_)
   exact ⟨m - 1, by omega, k + 1, c, L, by omega, by omega, hn.symm, rfl, rfl⟩
 obtain rfl : k = Fs.length := by omega
 refine WA ?_
 subst hLe
 exact aret_f1 [] _ rfl rfl rfl rfl (by rw [List.drop_zero, List.take_of_length_le (by simp)]) (by simp) rfl (by decide) (ZNK rfl) (fun _ => .nil) (fun q => ⟨q, rfl, rfl⟩)
set_option maxHeartbeats 4000000 in
theorem segments_p (v w : Value) (V : List Vec3) (Fs : List Fac3) (z : Int) (hM : MOk V Fs) : ACalls Tryz.prog 71 [mshA v w V Fs, .c (I z)] [] fun u H => ∃ q, u = .c (.r q ((sgL V Fs z).map Seg5.row)) ∧ H = [] := by
 have hlf := hM.lf
 refine acalls_of (N := 77) Tryz.func71 rfl rfl (by simp) fun E hE => ?_
 refine WA ?_
 refine WA ?_
 refine WR ?_
 refine al_ef rfl (ef_call0 false (fun _ => cross_p v w V Fs z hM) rfl .fn rfl (by decide) (by kernel_rfl) rfl (fun _ => C0 rfl) (by simp)) ?_
 rintro _ _ ⟨_, _, _, ⟨q, rfl, rfl⟩, hF, hH⟩
 (refine NST hF hH ?_; clear hF hH; rintro rfl rfl)
 refine WE ?_
 have hsg : sgL V Fs z = (crT V Fs z Fs.length).map (sgAt V Fs z) := rfl
 have hmem : ∀ x ∈ crT V Fs z Fs.length, 0 ≤ x ∧ x < Fs.length ∧ crF V z (fcAt Fs x.toNat) = true := fun x hx => crT_mem hx
 have hCl := crT_len V Fs z Fs.length
 generalize crT V Fs z Fs.length = C at hsg hmem hCl ⊢
 have e1 : (zR C).length = C.length := by simp
 refine aw_loopw (fun m F H => ∃ (k c : Nat) (L : List Seg5), m + k = C.length ∧ L.length = k ∧ L = (C.take k).map (sgAt V Fs z) ∧ F = [(1, .c (I z)), (2, .p 0 0 0), (5, .o 1 0 L.length c), (15, .c (.r q (zR C))), (16, .c (I (zR C).length)), (17, .c (I k))] ∧ H = [mBox v w V (fR Fs), .arr 77 5 c (L.map Seg5.row)]) ?_ ?_
 ·refine wk_of [some 0, none] (fun _ => [(1, .c (I z)), (2, .p 0 0 0), (5, .o 1 0 0 0), (15, .c (.r q (zR C))), (16, .c (I (zR C).length)), (17, .c (I (0 : Nat)))]) (fun _ => [mBox v w V (fR Fs), .arr 77 5 0 []]) (by decide) (ZNL hE) ZCF ZCH (fun _ => ?_)
  exact ⟨C.length, 0, 0, [], by omega, rfl, rfl, rfl, rfl⟩
 rintro m F H ⟨k, c, L, hk, hLk, hLe, rfl, rfl⟩
 refine WA ?_
 refine aw_if rfl (fun hlt => ?_) (fun hge => ?_)
 ·obtain ⟨x, hx⟩ : ∃ z, C[k]? = some z := ⟨_, List.getElem?_eq_getElem (by omega)⟩
  obtain ⟨hx0, hx1, hx2⟩ := hmem x (List.mem_of_getElem? hx)
  have hLn : L ++ [sgAt V Fs z x] = (C.take (k + 1)).map (sgAt V Fs z) := by rw [List.take_add_one, hx, List.map_append, ← hLe]; rfl
  obtain ⟨i, rfl⟩ : ∃ i : Nat, x = i := ⟨x.toNat, by omega⟩
  have hfm := fcAt_mem (Fs := Fs) (i := i) (by omega)
  have hfg := fcAt_get (Fs := Fs) (i := i) (by omega)
  have hsa : sgAt V Fs z i = (sds (fcAt Fs i)).foldl (sgS V z) ⟨i, ⟨0, 0⟩, ⟨0, 0⟩⟩ := rfl
  rw [hsa] at hLn
  have hix2 : ∀ s ∈ sds (fcAt Fs i), (0 ≤ s.f ∧ s.f < V.length) ∧ (0 ≤ s.t ∧ s.t < V.length) := fun s hs => sds_ix hM hfm hs
  generalize fcAt Fs i = f at hLn hix2 hfg
  obtain ⟨fa, fb, fc⟩ := f
  have hrowx : (zR C)[k]? = some [I i] := by rw [List.getElem?_map, hx]; rfl
  have hrowf : (fR Fs)[i]? = some [I fa, I fb, I fc] := by rw [List.getElem?_map, hfg]; rfl
  refine WA ?_
  refine WA ?_
  refine WR ?_
  refine al_ef rfl (ef_call0 false (fun _ => sides_v ⟨fa, fb, fc⟩) rfl .fn rfl (by decide) (by kernel_rfl) rfl (fun _ => C0 rfl) (by simp)) ?_
  rintro _ _ ⟨_, _, _, ⟨rfl, rfl⟩, hF, hH⟩
  (refine NST hF hH ?_; clear hF hH; rintro rfl rfl)
  refine WE ?_
  refine aw_loopw (fun m2 F H => ∃ (j : Nat) (g : Seg5), m2 + j = 3 ∧ g = ((sds ⟨fa, fb, fc⟩).take j).foldl (sgS V z) ⟨i, ⟨0, 0⟩, ⟨0, 0⟩⟩ ∧ F = [(1, .c (I z)), (2, .p 0 0 0), (5, .o 1 0 L.length c), (8, .p 2 0 0), (15, .c (.r q (zR C))), (16, .c (I (zR C).length)), (17, .c (I k)), (28, .a ((sdsC ⟨fa, fb, fc⟩).map .c)), (29, .c (I j))] ∧ H = [mBox v w V (fR Fs), .arr 77 5 c (L.map Seg5.row), .box (g.row.map .c)]) ?_ ?_
  ·refine wk_of [some 0, some 1, some 2] (fun _ => [(1, .c (I z)), (2, .p 0 0 0), (5, .o 1 0 L.length c), (8, .p 2 0 0), (15, .c (.r q (zR C))), (16, .c (I (zR C).length)), (17, .c (I k)), (28, .a ((sdsC ⟨fa, fb, fc⟩).map .c)), (29, .c (I (0 : Nat)))]) (fun _ => _) (by decide) (ZNL hE) ZCF ZCH (fun _ => ?_)
   exact ⟨3, 0, ⟨i, ⟨0, 0⟩, ⟨0, 0⟩⟩, rfl, rfl, rfl, rfl⟩
  ·rintro m2 F H ⟨j, g, hj, hg, rfl, rfl⟩
   refine WA ?_
   refine aw_if rfl (fun hlt2 => ?_) (fun hge2 => ?_)
   ·obtain ⟨s, hs⟩ : ∃ s, (sds ⟨fa, fb, fc⟩)[j]? = some s := ⟨_, List.getElem?_eq_getElem (by simp [sds]; omega)⟩
    have hs2 := hix2 s (List.mem_of_getElem? hs)
    obtain ⟨sf, st⟩ := s
    simp only at hs2
    have hix : (((sdsC ⟨fa, fb, fc⟩).map AV.c).drop (j * 2)).take 2 = [.c (I sf), .c (I st)] := by
     have : j = 0 ∨ j = 1 ∨ j = 2 := by omega
     rcases this with rfl | rfl | rfl <;> (simp [sds] at hs; obtain ⟨rfl, rfl⟩ := hs; rfl)
    have htk : (sds ⟨fa, fb, fc⟩).take (j + 1) = (sds ⟨fa, fb, fc⟩).take j ++ [⟨sf, st⟩] := by rw [List.take_add_one, hs]; rfl
    obtain ⟨is, hif⟩ : ∃ i : Nat, sf = i := ⟨sf.toNat, by omega⟩
    obtain ⟨it, hit⟩ : ∃ i : Nat, st = i := ⟨st.toNat, by omega⟩
    subst hif; subst hit
    have ra := vrow (V := V) (i := is) (by omega)
    have rb := vrow (V := V) (i := it) (by omega)
    obtain ⟨gi, ⟨g1, g2⟩, ⟨g3, g4⟩⟩ := g
    refine ZR ?_
    refine ZA (rd_to hix (rd_ixv (n := 3) (i := j) rfl (by kernel_rfl) (KK (t := 70) rfl) rfl rfl rfl (by omega))) ?_
    refine WE ?_
    by_cases ha : z ≤ (vx V is).z <;> by_cases hb : z ≤ (vx V it).z
    ·refine ZZ ?_
     refine aw_regionT [(0, none), (1, none), (2, none), (3, none), (4, none), (5, none), (6, none), (7, none), (8, none), (9, none), (10, none), (11, none), (12, none), (13, none), (14, none), (15, none), (16, none), (17, none), (18, none), (19, none)] hMixed (by kernel_rfl) ?_
     refine WQ ?_
     refine WA ?_
     refine aw_cond_f rfl ?_
     refine WA ?_
     refine aw_cond_f rfl ?_
     refine ZZ ?_
     refine WA ?_
     refine wk_of [some 0, some 1, some 2] (fun _ => [(1, .c (I z)), (2, .p 0 0 0), (5, .o 1 0 L.length c), (8, .p 2 0 0), (15, .c (.r q (zR C))), (16, .c (I (zR C).length)), (17, .c (I k)), (28, .a ((sdsC ⟨fa, fb, fc⟩).map .c)), (29, .c (I (j + 1 : Nat)))]) (fun _ => _) (by decide) (ZNL hE) ZCF ZCH (fun _ => ?_)
     exact ⟨m2 - 1, by omega, j + 1, ⟨gi, ⟨g1, g2⟩, ⟨g3, g4⟩⟩, by omega, by rw [htk, List.foldl_append, ← hg]; simp [sgS, upI, ha, hb, revS], rfl, rfl⟩
    ·refine ZZ ?_
     refine aw_regionT [(0, none), (1, none), (2, none), (3, none), (4, none), (5, none), (6, none), (7, none), (8, none), (9, none), (10, none), (11, none), (12, none), (13, none), (14, none), (15, none), (16, none), (17, none), (18, none), (19, none)] hMixed (by kernel_rfl) ?_
     refine WQ ?_
     refine WA ?_
     refine aw_cond_t rfl ?_
     refine WA ?_
     refine WA ?_
     refine wk_of [some 0, some 1, some 2] (fun _ => [(1, .c (I z)), (2, .p 0 0 0), (5, .o 1 0 L.length c), (8, .p 2 0 0), (15, .c (.r q (zR C))), (16, .c (I (zR C).length)), (17, .c (I k)), (28, .a ((sdsC ⟨fa, fb, fc⟩).map .c)), (29, .c (I (j + 1 : Nat)))]) (fun _ => _) (by decide) (ZNL hE) ZCF ZCH (fun _ => ?_)
     exact ⟨m2 - 1, by omega, j + 1, ⟨gi, ⟨it, is⟩, ⟨g3, g4⟩⟩, by omega, by rw [htk, List.foldl_append, ← hg]; simp [sgS, upI, ha, hb, revS], rfl, rfl⟩
    ·refine ZZ ?_
     refine aw_regionT [(0, none), (1, none), (2, none), (3, none), (4, none), (5, none), (6, none), (7, none), (8, none), (9, none), (10, none), (11, none), (12, none), (13, none), (14, none), (15, none), (16, none), (17, none), (18, none), (19, none)] hMixed (by kernel_rfl) ?_
     refine WQ ?_
     refine WA ?_
     refine aw_cond_f rfl ?_
     refine WA ?_
     refine aw_cond_t rfl ?_
     refine WA ?_
     refine WA ?_
     refine wk_of [some 0, some 1, some 2] (fun _ => [(1, .c (I z)), (2, .p 0 0 0), (5, .o 1 0 L.length c), (8, .p 2 0 0), (15, .c (.r q (zR C))), (16, .c (I (zR C).length)), (17, .c (I k)), (28, .a ((sdsC ⟨fa, fb, fc⟩).map .c)), (29, .c (I (j + 1 : Nat)))]) (fun _ => _) (by decide) (ZNL hE) ZCF ZCH (fun _ => ?_)
     exact ⟨m2 - 1, by omega, j + 1, ⟨gi, ⟨g1, g2⟩, ⟨is, it⟩⟩, by omega, by rw [htk, List.foldl_append, ← hg]; simp [sgS, upI, ha, hb, revS], rfl, rfl⟩
    ·refine ZZ ?_
     refine aw_regionT [(0, none), (1, none), (2, none), (3, none), (4, none), (5, none), (6, none), (7, none), (8, none), (9, none), (10, none), (11, none), (12, none), (13, none), (14, none), (15, none), (16, none), (17, none), (18, none), (19, none)] hMixed (by kernel_rfl) ?_
     refine WQ ?_
     refine WA ?_
     refine aw_cond_f rfl ?_
     refine WA ?_
     refine aw_cond_f rfl ?_
     refine ZZ ?_
     refine WA ?_
     refine wk_of [some 0, some 1, some 2] (fun _ => [(1, .c (I z)), (2, .p 0 0 0), (5, .o 1 0 L.length c), (8, .p 2 0 0), (15, .c (.r q (zR C))), (16, .c (I (zR C).length)), (17, .c (I k)), (28, .a ((sdsC ⟨fa, fb, fc⟩).map .c)), (29, .c (I (j + 1 : Nat)))]) (fun _ => _) (by decide) (ZNL hE) ZCF ZCH (fun _ => ?_)
     exact ⟨m2 - 1, by omega, j + 1, ⟨gi, ⟨g1, g2⟩, ⟨g3, g4⟩⟩, by omega, by rw [htk, List.foldl_append, ← hg]; simp [sgS, upI, ha, hb, revS], rfl, rfl⟩
   obtain rfl : j = 3 := by omega
   have hg3 : g = (sds ⟨fa, fb, fc⟩).foldl (sgS V z) ⟨i, ⟨0, 0⟩, ⟨0, 0⟩⟩ := hg
   rw [← hg3] at hLn
   obtain ⟨gi, ⟨g1, g2⟩, ⟨g3, g4⟩⟩ := g
   refine ZZ ?_
   refine WR ?_
   refine al_ef rfl (Zapp (KA (t := 50) rfl)) ?_
   rintro _ _ ⟨_, cc, hcc, rfl, rfl⟩
   refine WE ?_
   refine WA ?_
   refine wk_of [some 0, some 1] (fun _ => [(1, .c (I z)), (2, .p 0 0 0), (5, .o 1 0 (L ++ [(⟨gi, ⟨g1, g2⟩, ⟨g3, g4⟩⟩ : Seg5)]).length cc), (15, .c (.r q (zR C))), (16, .c (I (zR C).length)), (17, .c (I (k + 1 : Nat)))]) (fun _ => _) (by decide) (ZNL hE) ZCF ZCH (fun _ => ?_)
   exact ⟨m - 1, by omega, k + 1, cc, L ++ [⟨gi, ⟨g1, g2⟩, ⟨g3, g4⟩⟩], by omega, by simp; omega, hLn, rfl, by simp⟩
 obtain rfl : k = C.length := by omega
 rw [List.take_of_length_le (Nat.le_refl _)] at hLe
 refine WA ?_
 exact aret_f1 [] _ rfl rfl rfl rfl (by rw [List.drop_zero, List.take_of_length_le (by simp)]) (by simp) rfl (by decide) (ZNK rfl) (fun _ => .nil) (fun q => ⟨q, by rw [hsg, hLe], rfl⟩)
end Go.Proofs.YtlblimbelfenaaaGreat

/- Planes through meshes: the faces that are cut, and their segments, by value: the reference's. -/
-- NEWM
namespace Go.Proofs.YtlblimbelfenaaaGreat
open Go Go.RowKit
set_option maxRecDepth 100000
abbrev crH (v w : Value) (V : List Vec3) (Fs : List Fac3) (z : Int) : List OB := [mBox v w V (fR Fs), .box [.c (I z)]]
theorem cross1_r (v w : Value) (V : List Vec3) (Fs : List Fac3) (z : Int) (f : Fac3) (hM : MOk V Fs) (hf : f ∈ Fs) : ACalls Tryz.prog 136 [.a (f.row.map .c), .p 0 0 0, .p 1 0 0] (crH v w V Fs z) fun u H => u = .c (B (crF V z f)) ∧ H = crH v w V Fs z := by
 obtain ⟨h1, h2, h3⟩ := hM.ix hf
 obtain ⟨fa, fb, fc⟩ := f
 simp only at h1 h2 h3
 obtain ⟨ia, ha⟩ : ∃ i : Nat, fa = i := ⟨fa.toNat, by omega⟩
 obtain ⟨ib, hb⟩ : ∃ i : Nat, fb = i := ⟨fb.toNat, by omega⟩
 obtain ⟨ic, hc⟩ : ∃ i : Nat, fc = i := ⟨fc.toNat, by omega⟩
 subst ha; subst hb; subst hc
 have hcr : crF V z ⟨ia, ib, ic⟩ = (decide (min (vx V ia).z (min (vx V ib).z (vx V ic).z) < z) && decide (z ≤ max (vx V ia).z (max (vx V ib).z (vx V ic).z))) := rfl
 rw [hcr]
 refine acalls_of (N := 35) Tryz.func136 rfl rfl (by simp) fun E hE => ?_
 refine WA ?_
 refine WR ?_
 refine al_ef rfl (ef_call0 false (fun _ => rcorners_v v w V (fR Fs) ia ib ic (by omega) (by omega) (by omega)) rfl .fn rfl (by decide) (by kernel_rfl) rfl (fun _ => C0 rfl) (by simp)) ?_
 rintro _ _ ⟨_, _, _, ⟨rfl, rfl⟩, hF, hH⟩
 (refine NST hF hH ?_; clear hF hH; rintro rfl rfl)
 refine WE ?_
 by_cases c1 : min (vx V ia).z (min (vx V ib).z (vx V ic).z) < z
 ·by_cases c2 : z ≤ max (vx V ia).z (max (vx V ib).z (vx V ic).z)
  ·refine WA ?_
   exact aret_1 [some 0, some 1] _ rfl rfl rfl (by decide) (ZNK rfl) ZCH ⟨by simp [c1, c2], rfl⟩
  ·refine WA ?_
   exact aret_1 [some 0, some 1] _ rfl rfl rfl (by decide) (ZNK rfl) ZCH ⟨by simp [c1, c2], rfl⟩
 ·refine WA ?_
  exact aret_1 [some 0, some 1] _ rfl rfl rfl (by decide) (ZNK rfl) ZCH ⟨by simp [c1], rfl⟩
set_option maxHeartbeats 4000000 in
theorem those_r (v w : Value) (V : List Vec3) (Fs : List Fac3) (z : Int) (hM : MOk V Fs) : ACalls Tryz.prog 135 [mshA v w V Fs, .f (.func 136) [.p 0 0 0, .p 1 0 0]] (crH v w V Fs z) fun u H => ∃ q, u = .c (.r q (zR (crT V Fs z Fs.length))) ∧ H = crH v w V Fs z := by
 have e2 : (fR Fs).length = Fs.length := by simp
 have e2' : (Fs.map Fac3.row).length = Fs.length := by simp
 have hlf := hM.lf
 refine acalls_of (N := 25) Tryz.func135 rfl rfl (by simp) fun E hE => ?_
 refine WA ?_
 refine WA ?_
 refine WA ?_
 refine aw_loopw (fun m F H => ∃ (k c : Nat) (L : List Int), m + k = Fs.length ∧ L.length ≤ k ∧ L = crT V Fs z k ∧ F = [(1, .f (.func 136) [.p 0 0 0, .p 1 0 0]), (5, .o 2 0 L.length c), (9, .c (.r w (fR Fs))), (10, .c (I (fR Fs).length)), (11, .c (I k))] ∧ H = [mBox v w V (fR Fs), .box [.c (I z)], .arr 3 1 c (zR L)]) ?_ ?_
 ·refine wk_of [some 0, some 1, none] (fun _ => [(1, .f (.func 136) [.p 0 0 0, .p 1 0 0]), (5, .o 2 0 0 0), (9, .c (.r w (fR Fs))), (10, .c (I (fR Fs).length)), (11, .c (I (0 : Nat)))]) (fun _ => [mBox v w V (fR Fs), .box [.c (I z)], .arr 3 1 0 []]) (by decide) (ZNL hE) ZCF ZCH (fun _ => ?_)
  exact ⟨Fs.length, 0, 0, [], by omega, by simp, rfl, rfl, rfl⟩
 rintro m F H ⟨k, c, L, hk, hLk, hLe, rfl, rfl⟩
 refine WA ?_
 refine aw_if rfl (fun hlt => ?_) (fun hge => ?_)
 ·obtain ⟨f, hz⟩ : ∃ z, Fs[k]? = some z := ⟨_, List.getElem?_eq_getElem (by omega)⟩
  have hmem := List.mem_of_getElem? hz
  have hn := crT_next V Fs z k
  rw [fcAt_of hz, ← hLe] at hn
  obtain ⟨fa, fb, fc⟩ := f
  have hrow : (fR Fs)[k]? = some [I fa, I fb, I fc] := by rw [List.getElem?_map, hz]; rfl
  refine WA ?_
  refine WR ?_
  refine al_ef rfl (ef_call [0, 1] (fun _ => crH v w V Fs z) false (fun _ => cross1_r v w V Fs z ⟨fa, fb, fc⟩ hM hmem) rfl (.clo rfl) rfl (by decide) (by kernel_rfl) rfl ZCH (by decide) ZCH (by simp)) ?_
  rintro F1 H1 ⟨_, _, _, _, ⟨rfl, rfl⟩, hF, hH⟩
  (refine NSU hF hH ?_; clear hF hH; rintro rfl rfl)
  refine WE ?_
  refine aw_cond rfl (fun hb => ?_) (fun hb => ?_)
  ·rw [if_pos hb] at hn
   refine WR ?_
   refine al_ef rfl (Zapp (KA (t := 22) rfl)) ?_
   rintro _ _ ⟨_, cc, hcc, rfl, rfl⟩
   refine WE ?_
   refine WA ?_
   refine wk_of [some 0, some 1, some 2] (fun _ => [(1, .f (.func 136) [.p 0 0 0, .p 1 0 0]), (5, .o 2 0 (L ++ [(k : Int)]).length cc), (9, .c (.r w (fR Fs))), (10, .c (I (fR Fs).length)), (11, .c (I (k + 1 : Nat)))]) (fun _ => _) (by decide) (ZNL hE) ZCF ZCH (fun _ => ?_)
   exact ⟨m - 1, by omega, k + 1, cc, L ++ [(k : Int)], by omega, by simp; omega, hn.symm, rfl, by simp⟩
  ·rw [if_neg (by simp [hb])] at hn
   refine ZZ ?_
   refine WA ?_
   refine wk_of [some 0, some 1, some 2] (fun _ => [(1, .f (.func 136) [.p 0 0 0, .p 1 0 0]), (5, .o 2 0 L.length c), (9, .c (.r w (fR Fs))), (10, .c (I (fR Fs).length)), (11, .c (I (k + 1 : Nat)))]) (fun _ => _) (by decide) (ZNL hE) ZCF ZCH (fun _ => ?_)
   exact ⟨m - 1, by omega, k + 1, c, L, by omega, by omega, hn.symm, rfl, rfl⟩
 obtain rfl : k = Fs.length := by omega
 refine WA ?_
 subst hLe
 exact aret_f1 [some 0, some 1] _ rfl rfl rfl rfl (by rw [List.drop_zero, List.take_of_length_le (by simp)]) (by simp) rfl (by decide) (ZNK rfl) ZCH (fun q => ⟨q, rfl, rfl⟩)
theorem cross_r (v w : Value) (V : List Vec3) (Fs : List Fac3) (z : Int) (hM : MOk V Fs) : ACalls Tryz.prog 81 [mshA v w V Fs, .c (I z)] [] fun u H => ∃ q, u = .c (.r q (zR (crT V Fs z Fs.length))) ∧ H = [] := by
 refine acalls_of (N := 8) Tryz.func81 rfl rfl (by simp) fun E hE => ?_
 refine WA ?_
 refine WR ?_
 refine al_ef rfl (ef_call [0, 1] (fun _ => crH v w V Fs z) false (fun _ => those_r v w V Fs z hM) rfl .fn rfl (by decide) (by kernel_rfl) rfl ZCH (by decide) ZCH (by simp)) ?_
 rintro F1 H1 ⟨_, _, _, _, ⟨q, rfl, rfl⟩, hF, hH⟩
 (refine NSU hF hH ?_; clear hF hH; rintro rfl rfl)
 refine WE ?_
 exact aret_1 [] _ rfl rfl rfl (by decide) (ZNK rfl) (fun _ => .nil) ⟨q, rfl, rfl⟩
set_option maxHeartbeats 4000000 in
theorem goes_r (v w : Value) (V : List Vec3) (Fs : List Fac3) (z : Int) (f : Fac3) (i : Int) (hM : MOk V Fs) (hf : f ∈ Fs) : ACalls Tryz.prog 82 [mshA v w V Fs, .a (f.row.map .c), .c (I z)] [] fun u H => u = .t [.a ((sgF V z i f).to.row.map .c), .a ((sgF V z i f).fr.row.map .c)] ∧ H = [] := by
 have hix2 : ∀ s ∈ sds f, (0 ≤ s.f ∧ s.f < V.length) ∧ (0 ≤ s.t ∧ s.t < V.length) := fun s hs => sds_ix hM hf hs
 obtain ⟨fa, fb, fc⟩ := f
 have e5 : (sR (sds ⟨fa, fb, fc⟩)).length = 3 := rfl
 refine acalls_of (N := 72) Tryz.func82 rfl rfl (by simp) fun E hE => ?_
 refine WA ?_
 refine WA ?_
 refine aw_loopw (fun m2 F H => ∃ (j : Nat) (g : Seg5), m2 + j = 3 ∧ g = ((sds ⟨fa, fb, fc⟩).take j).foldl (sgS V z) ⟨i, ⟨0, 0⟩, ⟨0, 0⟩⟩ ∧ F = [(2, .c (I z)), (3, .p 0 0 0), (6, .p 1 0 0), (7, .p 2 0 0), (27, .o 3 0 3 3), (28, .c (I 3)), (29, .c (I j))] ∧ H = [mBox v w V (fR Fs), .box (g.to.row.map .c), .box (g.fr.row.map .c), .arr 70 2 3 (sR (sds ⟨fa, fb, fc⟩))]) ?_ ?_
 ·refine wk_of [some 0, some 2, some 3, some 4] (fun _ => [(2, .c (I z)), (3, .p 0 0 0), (6, .p 1 0 0), (7, .p 2 0 0), (27, .o 3 0 3 3), (28, .c (I 3)), (29, .c (I (0 : Nat)))]) (fun _ => _) (by decide) (ZNL hE) ZCF ZCH (fun _ => ?_)
  exact ⟨3, 0, ⟨i, ⟨0, 0⟩, ⟨0, 0⟩⟩, rfl, rfl, rfl, rfl⟩
 rintro m2 F H ⟨j, g, hj, hg, rfl, rfl⟩
 refine WA ?_
 refine aw_if rfl (fun hlt2 => ?_) (fun hge2 => ?_)
 ·obtain ⟨s, hs⟩ : ∃ s, (sds ⟨fa, fb, fc⟩)[j]? = some s := ⟨_, List.getElem?_eq_getElem (by simp [sds]; omega)⟩
  have hs2 := hix2 s (List.mem_of_getElem? hs)
  obtain ⟨sf, st⟩ := s
  simp only at hs2
  have hrow0 : (sR (sds ⟨fa, fb, fc⟩))[0 + j]? = some [I sf, I st] := by rw [Nat.zero_add, List.getElem?_map, hs]; rfl
  have htk : (sds ⟨fa, fb, fc⟩).take (j + 1) = (sds ⟨fa, fb, fc⟩).take j ++ [⟨sf, st⟩] := by rw [List.take_add_one, hs]; rfl
  obtain ⟨is, hif⟩ : ∃ i : Nat, sf = i := ⟨sf.toNat, by omega⟩
  obtain ⟨it, hit⟩ : ∃ i : Nat, st = i := ⟨st.toNat, by omega⟩
  subst hif; subst hit
  have ra := vrow (V := V) (i := is) (by omega)
  have rb := vrow (V := V) (i := it) (by omega)
  obtain ⟨gi, ⟨g1, g2⟩, ⟨g3, g4⟩⟩ := g
  refine WA ?_
  by_cases ha : z ≤ (vx V is).z <;> by_cases hb : z ≤ (vx V it).z
  ·refine ZZ ?_
   refine aw_regionT [(0, none), (1, none), (2, none), (3, none), (4, none), (5, none), (6, none), (7, none), (8, none), (9, none), (10, none), (11, none), (12, none), (13, none), (14, none), (15, none), (16, none), (17, none), (18, none), (19, none)] hMixed (by kernel_rfl) ?_
   refine WQ ?_
   refine WA ?_
   refine aw_cond_f rfl ?_
   refine WA ?_
   refine aw_cond_f rfl ?_
   refine ZZ ?_
   refine WA ?_
   refine wk_of [some 0, some 1, some 2, some 3] (fun _ => [(2, .c (I z)), (3, .p 0 0 0), (6, .p 1 0 0), (7, .p 2 0 0), (27, .o 3 0 3 3), (28, .c (I 3)), (29, .c (I (j + 1 : Nat)))]) (fun _ => _) (by decide) (ZNL hE) ZCF ZCH (fun _ => ?_)
   exact ⟨m2 - 1, by omega, j + 1, ⟨gi, ⟨g1, g2⟩, ⟨g3, g4⟩⟩, by omega, by rw [htk, List.foldl_append, ← hg]; simp [sgS, upI, ha, hb, revS], rfl, rfl⟩
  ·refine ZZ ?_
   refine aw_regionT [(0, none), (1, none), (2, none), (3, none), (4, none), (5, none), (6, none), (7, none), (8, none), (9, none), (10, none), (11, none), (12, none), (13, none), (14, none), (15, none), (16, none), (17, none), (18, none), (19, none)] hMixed (by kernel_rfl) ?_
   refine WQ ?_
   refine WA ?_
   refine aw_cond_f rfl ?_
   refine WA ?_
   refine aw_cond_t rfl ?_
   refine WA ?_
   refine WA ?_
   refine wk_of [some 0, some 1, some 2, some 3] (fun _ => [(2, .c (I z)), (3, .p 0 0 0), (6, .p 1 0 0), (7, .p 2 0 0), (27, .o 3 0 3 3), (28, .c (I 3)), (29, .c (I (j + 1 : Nat)))]) (fun _ => _) (by decide) (ZNL hE) ZCF ZCH (fun _ => ?_)
   exact ⟨m2 - 1, by omega, j + 1, ⟨gi, ⟨it, is⟩, ⟨g3, g4⟩⟩, by omega, by rw [htk, List.foldl_append, ← hg]; simp [sgS, upI, ha, hb, revS], rfl, rfl⟩
  ·refine ZZ ?_
   refine aw_regionT [(0, none), (1, none), (2, none), (3, none), (4, none), (5, none), (6, none), (7, none), (8, none), (9, none), (10, none), (11, none), (12, none), (13, none), (14, none), (15, none), (16, none), (17, none), (18, none), (19, none)] hMixed (by kernel_rfl) ?_
   refine WQ ?_
   refine WA ?_
   refine aw_cond_t rfl ?_
   refine WA ?_
   refine WA ?_
   refine wk_of [some 0, some 1, some 2, some 3] (fun _ => [(2, .c (I z)), (3, .p 0 0 0), (6, .p 1 0 0), (7, .p 2 0 0), (27, .o 3 0 3 3), (28, .c (I 3)), (29, .c (I (j + 1 : Nat)))]) (fun _ => _) (by decide) (ZNL hE) ZCF ZCH (fun _ => ?_)
   exact ⟨m2 - 1, by omega, j + 1, ⟨gi, ⟨g1, g2⟩, ⟨is, it⟩⟩, by omega, by rw [htk, List.foldl_append, ← hg]; simp [sgS, upI, ha, hb, revS], rfl, rfl⟩
  ·refine ZZ ?_
   refine aw_regionT [(0, none), (1, none), (2, none), (3, none), (4, none), (5, none), (6, none), (7, none), (8, none), (9, none), (10, none), (11, none), (12, none), (13, none), (14, none), (15, none), (16, none), (17, none), (18, none), (19, none)] hMixed (by kernel_rfl) ?_
   refine WQ ?_
   refine WA ?_
   refine aw_cond_f rfl ?_
   refine WA ?_
   refine aw_cond_f rfl ?_
   refine ZZ ?_
   refine WA ?_
   refine wk_of [some 0, some 1, some 2, some 3] (fun _ => [(2, .c (I z)), (3, .p 0 0 0), (6, .p 1 0 0), (7, .p 2 0 0), (27, .o 3 0 3 3), (28, .c (I 3)), (29, .c (I (j + 1 : Nat)))]) (fun _ => _) (by decide) (ZNL hE) ZCF ZCH (fun _ => ?_)
   exact ⟨m2 - 1, by omega, j + 1, ⟨gi, ⟨g1, g2⟩, ⟨g3, g4⟩⟩, by omega, by rw [htk, List.foldl_append, ← hg]; simp [sgS, upI, ha, hb, revS], rfl, rfl⟩
 obtain rfl : j = 3 := by omega
 have hg3 : g = sgF V z i ⟨fa, fb, fc⟩ := hg
 obtain ⟨gi, ⟨g1, g2⟩, ⟨g3, g4⟩⟩ := g
 rw [← hg3]
 refine ZZ ?_
 refine aw_regionT [(0, none), (1, none), (2, some [1]), (3, some [])] hMixed (by kernel_rfl) ?_
 refine WQ ?_
 all_goals (exact aret_c2 rfl (KK (t := 70) rfl) rfl rfl (Cells.box rfl) (Cells.box rfl) (by simp) (by simp) (by (try simp only [nm, putL, Nat.reduceAdd, cellsOf, cvOf]) <;> rfl) (by (try simp only [nm, putL, Nat.reduceAdd, cellsOf, cvOf]) <;> rfl) rfl (fun _ => C0 rfl) (fun _ => C0 rfl) ⟨rfl, rfl⟩)
end Go.Proofs.YtlblimbelfenaaaGreat

/- Segments of the reference, by value. -/
-- NEWM
namespace Go.Proofs.YtlblimbelfenaaaGreat
open Go Go.RowKit
set_option maxRecDepth 100000
end Go.Proofs.YtlblimbelfenaaaGreat
