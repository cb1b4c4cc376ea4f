/- Fractions in lowest terms, and where sides are cut, by value. -/
import Derived.Test.YthanangkmjjbaaaGreatDoorQaz
import Derived.Test.YthanangkmjjbaaaGreatDoorQay
set_option linter.unusedSimpArgs false
set_option linter.unusedVariables false
/- Planes through meshes: the faces that are cut, and their segments, by value: the program's. -/
namespace Go.Proofs.YthanangkmjjbaaaGreatDoor
open Go Go.RowKit
set_option maxRecDepth 100000
abbrev Seg5.row (g : Seg5) : List CV := [I g.i, I g.fr.f, I g.fr.t, I g.to.f, I g.to.t]
theorem fcAt_of {Fs : List Fac3} {k : Nat} {f : Fac3} (h : Fs[k]? = some f) : fcAt Fs k = f := by
  unfold fcAt; rw [List.getD_eq_getElem?_getD, h]; rfl
set_option maxHeartbeats 4000000 in
theorem cross_p (v w : Value) (V : List Vec3) (Fs : List Fac3) (z : Int) (hM : MOk V Fs) : ACalls Tryz.prog 113 [mshA v w V Fs, .c (I z)] [] fun u H => ∃ q, u = .c (.r q (zR (crT V Fs z Fs.length))) ∧ H = [] := by
  have e2 : (fR Fs).length = Fs.length := by simp
  have e2' : (Fs.map Fac3.row).length = Fs.length := by simp
  have hlf := hM.lf
  refine acalls_of (N := 36) Tryz.func113 rfl rfl (by simp) fun E hE => ?_
  refine WA ?_
  refine WA ?_
  refine WA ?_
  refine aw_loopw (fun m F H => ∃ (k c : Nat) (L : List Int), m + k = Fs.length ∧ L.length ≤ k ∧ L = crT V Fs z k ∧ F = [(1, .c (I z)), (2, .p 0 0 0), (5, .o 1 0 L.length c), (10, .c (.r w (fR Fs))), (11, .c (I (fR Fs).length)), (12, .c (I k))] ∧ H = [mBox v w V (fR Fs), .arr 3 1 c (zR L)]) ?_ ?_
  · refine wk_of [some 0, none] (fun _ => [(1, .c (I z)), (2, .p 0 0 0), (5, .o 1 0 0 0), (10, .c (.r w (fR Fs))), (11, .c (I (fR Fs).length)), (12, .c (I (0 : Nat)))]) (fun _ => [mBox v w V (fR Fs), .arr 3 1 0 []]) (by decide) (ZNL hE) ZCF ZCH (fun _ => ?_)
    exact ⟨Fs.length, 0, 0, [], by omega, by simp, rfl, rfl, rfl⟩
  rintro m F H ⟨k, c, L, hk, hLk, hLe, rfl, rfl⟩
  refine WA ?_
  refine aw_if rfl (fun hlt => ?_) (fun hge => ?_)
  · obtain ⟨f, hz⟩ : ∃ z, Fs[k]? = some z := ⟨_, List.getElem?_eq_getElem (by omega)⟩
    obtain ⟨h1, h2, h3⟩ := hM.ix (List.mem_of_getElem? hz)
    have hn := crT_next V Fs z k
    rw [fcAt_of hz, ← hLe] at hn
    obtain ⟨fa, fb, fc⟩ := f
    simp only at h1 h2 h3
    obtain ⟨ia, ha⟩ : ∃ i : Nat, fa = i := ⟨fa.toNat, by omega⟩
    obtain ⟨ib, hb⟩ : ∃ i : Nat, fb = i := ⟨fb.toNat, by omega⟩
    obtain ⟨ic, hc⟩ : ∃ i : Nat, fc = i := ⟨fc.toNat, by omega⟩
    subst ha; subst hb; subst hc
    have hrow : (fR Fs)[k]? = some [I ia, I ib, I ic] := by rw [List.getElem?_map, hz]; rfl
    have hcr : crF V z ⟨ia, ib, ic⟩ = (decide (minL [(vx V ia).z, (vx V ib).z, (vx V ic).z] < z) && decide (z ≤ maxL [(vx V ia).z, (vx V ib).z, (vx V ic).z])) := rfl
    rw [hcr] at hn
    refine WA ?_
    refine WR ?_
    refine al_ef rfl (ef_call0 false (fun _ => heights_v v w V (fR Fs) ia ib ic (by omega) (by omega) (by omega)) rfl .fn rfl (by decide) (by kernel_rfl) rfl (fun _ => C0 rfl) (by simp)) ?_
    rintro _ _ ⟨_, _, _, ⟨rfl, rfl⟩, hF, hH⟩
    (try simp only [nsl, Nat.reduceAdd, Nat.reduceLT, Nat.reduceSub] at hF); (try simp only [nsl, Nat.reduceAdd, Nat.reduceLT, Nat.reduceSub] at hH); subst hF; subst hH
    refine WE ?_
    refine aw_boxarr 3 3 [I (vx V ia).z, I (vx V ib).z, I (vx V ic).z] rfl rfl (by decide) (by rw [hE]; exact Nat.zero_le _) rfl rfl fun e' => ?_
    simp only [List.set_cons_succ, List.set_cons_zero]
    refine aw_cut (fun F H => ∃ bb : Bool, crF V z ⟨ia, ib, ic⟩ = bb ∧ F = [(1, .c (I z)), (2, .p 0 0 0), (5, .o 1 0 L.length c), (6, .c (I k)), (10, .c (.r w (fR Fs))), (11, .c (I (fR Fs).length)), (12, .c (I k)), (29, .c (B bb))] ∧ H = [mBox v w V (fR Fs), .arr 3 1 c (zR L)]) ?_ ?_ wk_aw
    · cases c1 : decide (minL [(vx V ia).z, (vx V ib).z, (vx V ic).z] < z) with
      | false =>
        have c1' := of_decide_eq_false c1
        refine WR ?_
        refine al_rd rfl rfl (by decide) (rd_slicearr (e := 3) (n := 3) rfl (by kernel_rfl) rfl rfl) ?_
        refine al_ef rfl (ef_call0 true (fun g => minI_v [(vx V ia).z, (vx V ib).z, (vx V ic).z] (g (.o 3 0 3 3)) (by simp) (by simp)) rfl .fn rfl (by decide) (by kernel_rfl) rfl (fun _ => .cons (.frz rfl rfl rfl rfl rfl) .nil) (fun _ _ _ _ ⟨hu, hH⟩ => by rw [hu, hH]; exact ⟨.c (.inl trivial), by simp⟩)) ?_
        rintro _ _ ⟨_, _, _, ⟨rfl, rfl⟩, hF, hH⟩
        (try simp only [nsl, Nat.reduceAdd, Nat.reduceLT, Nat.reduceSub] at hF); (try simp only [nsl, Nat.reduceAdd, Nat.reduceLT, Nat.reduceSub] at hH); subst hF; subst hH
        refine WE ?_
        refine wk_of [some 0, some 1] (fun _ => [(1, .c (I z)), (2, .p 0 0 0), (5, .o 1 0 L.length c), (6, .c (I k)), (10, .c (.r w (fR Fs))), (11, .c (I (fR Fs).length)), (12, .c (I k)), (29, .c (B false))]) (fun _ => [mBox v w V (fR Fs), .arr 3 1 c (zR L)]) (by decide) (ZNL hE) ZCF ZCH (fun _ => ?_)
        exact ⟨false, by rw [hcr, c1, Bool.false_and], rfl, rfl⟩
      | true =>
        have c1' := of_decide_eq_true c1
        refine WR ?_
        refine al_rd rfl rfl (by decide) (rd_slicearr (e := 3) (n := 3) rfl (by kernel_rfl) rfl rfl) ?_
        refine al_ef rfl (ef_call0 true (fun g => minI_v [(vx V ia).z, (vx V ib).z, (vx V ic).z] (g (.o 3 0 3 3)) (by simp) (by simp)) rfl .fn rfl (by decide) (by kernel_rfl) rfl (fun _ => .cons (.frz rfl rfl rfl rfl rfl) .nil) (fun _ _ _ _ ⟨hu, hH⟩ => by rw [hu, hH]; exact ⟨.c (.inl trivial), by simp⟩)) ?_
        rintro _ _ ⟨_, _, _, ⟨rfl, rfl⟩, hF, hH⟩
        (try simp only [nsl, Nat.reduceAdd, Nat.reduceLT, Nat.reduceSub] at hF); (try simp only [nsl, Nat.reduceAdd, Nat.reduceLT, Nat.reduceSub] at hH); subst hF; subst hH
        refine WO ?_
        refine G1 rfl ?_
        refine al_rd rfl rfl (by decide) (rd_slicearr (e := 3) (n := 3) rfl (by kernel_rfl) rfl rfl) ?_
        refine G1 rfl ?_
        refine al_ef rfl (ef_call0 true (fun g => maxI_v [(vx V ia).z, (vx V ib).z, (vx V ic).z] (g (.o 3 0 3 3)) (by simp) (by simp)) rfl .fn rfl (by decide) (by kernel_rfl) rfl (fun _ => .cons (.frz rfl rfl rfl rfl rfl) .nil) (fun _ _ _ _ ⟨hu, hH⟩ => by rw [hu, hH]; exact ⟨.c (.inl trivial), by simp⟩)) ?_
        rintro _ _ ⟨_, _, _, ⟨rfl, rfl⟩, hF, hH⟩
        (try simp only [nsl, Nat.reduceAdd, Nat.reduceLT, Nat.reduceSub] at hF); (try simp only [nsl, Nat.reduceAdd, Nat.reduceLT, Nat.reduceSub] at hH); subst hF; subst hH
        refine WE ?_
        refine wk_of [some 0, some 1] (fun _ => [(1, .c (I z)), (2, .p 0 0 0), (5, .o 1 0 L.length c), (6, .c (I k)), (10, .c (.r w (fR Fs))), (11, .c (I (fR Fs).length)), (12, .c (I k)), (29, .c (B (decide (z ≤ maxL [(vx V ia).z, (vx V ib).z, (vx V ic).z]))))]) (fun _ => [mBox v w V (fR Fs), .arr 3 1 c (zR L)]) (by decide) (ZNL hE) ZCF ZCH (fun _ => ?_)
        exact ⟨_, by rw [hcr, c1, Bool.true_and], rfl, rfl⟩
    rw [← hcr] at hn
    rintro F H ⟨bb, hbb, rfl, rfl⟩
    rw [hbb] at hn
    refine aw_cond rfl (fun hb => ?_) (fun hb => ?_)
    · rw [if_pos hb] at hn
      refine WR ?_
      refine al_ef rfl (Zapp (KA (t := 22) rfl)) ?_
      rintro _ _ ⟨_, cc, hcc, rfl, rfl⟩
      refine WE ?_
      refine WA ?_
      refine wk_of [some 0, some 1] (fun _ => [(1, .c (I z)), (2, .p 0 0 0), (5, .o 1 0 (L ++ [(k : Int)]).length cc), (10, .c (.r w (fR Fs))), (11, .c (I (fR Fs).length)), (12, .c (I (k + 1 : Nat)))]) (fun _ => _) (by decide) (ZNL hE) ZCF ZCH (fun _ => ?_)
      exact ⟨m - 1, by omega, k + 1, cc, L ++ [(k : Int)], by omega, by simp; omega, hn.symm, rfl, by simp⟩
    · rw [if_neg (by simp [hb])] at hn
      refine ZZ ?_
      refine WA ?_
      refine wk_of [some 0, some 1] (fun _ => [(1, .c (I z)), (2, .p 0 0 0), (5, .o 1 0 L.length c), (10, .c (.r w (fR Fs))), (11, .c (I (fR Fs).length)), (12, .c (I (k + 1 : Nat)))]) (fun _ => _) (by decide) (ZNL hE) ZCF ZCH (fun _ => ?_)
      exact ⟨m - 1, by omega, k + 1, c, L, by omega, by omega, hn.symm, rfl, rfl⟩
  obtain rfl : k = Fs.length := by omega
  refine WA ?_
  subst hLe
  exact aret_f1 [] _ rfl rfl rfl rfl (by rw [List.drop_zero, List.take_of_length_le (by simp)]) (by simp) rfl (by decide) (ZNK rfl) (fun _ => .nil) (fun q => ⟨q, rfl, rfl⟩)
set_option maxHeartbeats 4000000 in
theorem segments_p (v w : Value) (V : List Vec3) (Fs : List Fac3) (z : Int) (hM : MOk V Fs) : ACalls Tryz.prog 58 [mshA v w V Fs, .c (I z)] [] fun u H => ∃ q, u = .c (.r q ((sgL V Fs z).map Seg5.row)) ∧ H = [] := by
  have hlf := hM.lf
  refine acalls_of (N := 77) Tryz.func58 rfl rfl (by simp) fun E hE => ?_
  refine WA ?_
  refine WA ?_
  refine WR ?_
  refine al_ef rfl (ef_call0 false (fun _ => cross_p v w V Fs z hM) rfl .fn rfl (by decide) (by kernel_rfl) rfl (fun _ => C0 rfl) (by simp)) ?_
  rintro _ _ ⟨_, _, _, ⟨q, rfl, rfl⟩, hF, hH⟩
  (try simp only [nsl, Nat.reduceAdd, Nat.reduceLT, Nat.reduceSub] at hF); (try simp only [nsl, Nat.reduceAdd, Nat.reduceLT, Nat.reduceSub] at hH); subst hF; subst hH
  refine WE ?_
  have hsg : sgL V Fs z = (crT V Fs z Fs.length).map (sgAt V Fs z) := rfl
  have hmem : ∀ x ∈ crT V Fs z Fs.length, 0 ≤ x ∧ x < Fs.length ∧ crF V z (fcAt Fs x.toNat) = true := fun x hx => crT_mem hx
  have hCl := crT_len V Fs z Fs.length
  generalize crT V Fs z Fs.length = C at hsg hmem hCl ⊢
  have e1 : (zR C).length = C.length := by simp
  refine aw_loopw (fun m F H => ∃ (k c : Nat) (L : List Seg5), m + k = C.length ∧ L.length = k ∧ L = (C.take k).map (sgAt V Fs z) ∧ F = [(1, .c (I z)), (2, .p 0 0 0), (5, .o 1 0 L.length c), (15, .c (.r q (zR C))), (16, .c (I (zR C).length)), (17, .c (I k))] ∧ H = [mBox v w V (fR Fs), .arr 126 5 c (L.map Seg5.row)]) ?_ ?_
  · refine wk_of [some 0, none] (fun _ => [(1, .c (I z)), (2, .p 0 0 0), (5, .o 1 0 0 0), (15, .c (.r q (zR C))), (16, .c (I (zR C).length)), (17, .c (I (0 : Nat)))]) (fun _ => [mBox v w V (fR Fs), .arr 126 5 0 []]) (by decide) (ZNL hE) ZCF ZCH (fun _ => ?_)
    exact ⟨C.length, 0, 0, [], by omega, rfl, rfl, rfl, rfl⟩
  rintro m F H ⟨k, c, L, hk, hLk, hLe, rfl, rfl⟩
  refine WA ?_
  refine aw_if rfl (fun hlt => ?_) (fun hge => ?_)
  · obtain ⟨x, hx⟩ : ∃ z, C[k]? = some z := ⟨_, List.getElem?_eq_getElem (by omega)⟩
    obtain ⟨hx0, hx1, hx2⟩ := hmem x (List.mem_of_getElem? hx)
    have hLn : L ++ [sgAt V Fs z x] = (C.take (k + 1)).map (sgAt V Fs z) := by rw [List.take_add_one, hx, List.map_append, ← hLe]; rfl
    obtain ⟨i, rfl⟩ : ∃ i : Nat, x = i := ⟨x.toNat, by omega⟩
    have hfm := fcAt_mem (Fs := Fs) (i := i) (by omega)
    have hfg := fcAt_get (Fs := Fs) (i := i) (by omega)
    have hsa : sgAt V Fs z i = (sds (fcAt Fs i)).foldl (sgS V z) ⟨i, ⟨0, 0⟩, ⟨0, 0⟩⟩ := rfl
    rw [hsa] at hLn
    have hix2 : ∀ s ∈ sds (fcAt Fs i), (0 ≤ s.f ∧ s.f < V.length) ∧ (0 ≤ s.t ∧ s.t < V.length) := fun s hs => sds_ix hM hfm hs
    generalize fcAt Fs i = f at hLn hix2 hfg
    obtain ⟨fa, fb, fc⟩ := f
    have hrowx : (zR C)[k]? = some [I i] := by rw [List.getElem?_map, hx]; rfl
    have hrowf : (fR Fs)[i]? = some [I fa, I fb, I fc] := by rw [List.getElem?_map, hfg]; rfl
    refine WA ?_
    refine WA ?_
    refine WR ?_
    refine al_ef rfl (ef_call0 false (fun _ => sides_v ⟨fa, fb, fc⟩) rfl .fn rfl (by decide) (by kernel_rfl) rfl (fun _ => C0 rfl) (by simp)) ?_
    rintro _ _ ⟨_, _, _, ⟨rfl, rfl⟩, hF, hH⟩
    (try simp only [nsl, Nat.reduceAdd, Nat.reduceLT, Nat.reduceSub] at hF); (try simp only [nsl, Nat.reduceAdd, Nat.reduceLT, Nat.reduceSub] at hH); subst hF; subst hH
    refine WE ?_
    refine aw_loopw (fun m2 F H => ∃ (j : Nat) (g : Seg5), m2 + j = 3 ∧ g = ((sds ⟨fa, fb, fc⟩).take j).foldl (sgS V z) ⟨i, ⟨0, 0⟩, ⟨0, 0⟩⟩ ∧ F = [(1, .c (I z)), (2, .p 0 0 0), (5, .o 1 0 L.length c), (8, .p 2 0 0), (15, .c (.r q (zR C))), (16, .c (I (zR C).length)), (17, .c (I k)), (28, .a ((sdsC ⟨fa, fb, fc⟩).map .c)), (29, .c (I j))] ∧ H = [mBox v w V (fR Fs), .arr 126 5 c (L.map Seg5.row), .box (g.row.map .c)]) ?_ ?_
    · refine wk_of [some 0, some 1, some 2] (fun _ => [(1, .c (I z)), (2, .p 0 0 0), (5, .o 1 0 L.length c), (8, .p 2 0 0), (15, .c (.r q (zR C))), (16, .c (I (zR C).length)), (17, .c (I k)), (28, .a ((sdsC ⟨fa, fb, fc⟩).map .c)), (29, .c (I (0 : Nat)))]) (fun _ => _) (by decide) (ZNL hE) ZCF ZCH (fun _ => ?_)
      exact ⟨3, 0, ⟨i, ⟨0, 0⟩, ⟨0, 0⟩⟩, rfl, rfl, rfl, rfl⟩
    · rintro m2 F H ⟨j, g, hj, hg, rfl, rfl⟩
      refine WA ?_
      refine aw_if rfl (fun hlt2 => ?_) (fun hge2 => ?_)
      · obtain ⟨s, hs⟩ : ∃ s, (sds ⟨fa, fb, fc⟩)[j]? = some s := ⟨_, List.getElem?_eq_getElem (by simp [sds]; omega)⟩
        have hs2 := hix2 s (List.mem_of_getElem? hs)
        obtain ⟨sf, st⟩ := s
        simp only at hs2
        have hix : (((sdsC ⟨fa, fb, fc⟩).map AV.c).drop (j * 2)).take 2 = [.c (I sf), .c (I st)] := by
          have : j = 0 ∨ j = 1 ∨ j = 2 := by omega
          rcases this with rfl | rfl | rfl <;> (simp [sds] at hs; obtain ⟨rfl, rfl⟩ := hs; rfl)
        have htk : (sds ⟨fa, fb, fc⟩).take (j + 1) = (sds ⟨fa, fb, fc⟩).take j ++ [⟨sf, st⟩] := by rw [List.take_add_one, hs]; rfl
        obtain ⟨is, hif⟩ : ∃ i : Nat, sf = i := ⟨sf.toNat, by omega⟩
        obtain ⟨it, hit⟩ : ∃ i : Nat, st = i := ⟨st.toNat, by omega⟩
        subst hif; subst hit
        have ra := vrow (V := V) (i := is) (by omega)
        have rb := vrow (V := V) (i := it) (by omega)
        obtain ⟨gi, ⟨g1, g2⟩, ⟨g3, g4⟩⟩ := g
        refine ZR ?_
        refine ZA (rd_to hix (rd_ixv (n := 3) (i := j) rfl (by kernel_rfl) (KK (t := 54) rfl) rfl rfl rfl (by omega))) ?_
        refine WE ?_
        by_cases ha : z ≤ (vx V is).z <;> by_cases hb : z ≤ (vx V it).z
        · refine ZZ ?_
          refine aw_regionT [(0, none), (1, none), (2, none), (3, none), (4, none), (5, none), (6, none), (7, none), (8, none), (9, none), (10, none), (11, none), (12, none), (13, none), (14, none), (15, none), (16, none), (17, none), (18, none), (19, none)] hMixed (by kernel_rfl) ?_
          refine WQ ?_
          refine WA ?_
          refine aw_cond_f rfl ?_
          refine WA ?_
          refine aw_cond_f rfl ?_
          refine ZZ ?_
          refine WA ?_
          refine wk_of [some 0, some 1, some 2] (fun _ => [(1, .c (I z)), (2, .p 0 0 0), (5, .o 1 0 L.length c), (8, .p 2 0 0), (15, .c (.r q (zR C))), (16, .c (I (zR C).length)), (17, .c (I k)), (28, .a ((sdsC ⟨fa, fb, fc⟩).map .c)), (29, .c (I (j + 1 : Nat)))]) (fun _ => _) (by decide) (ZNL hE) ZCF ZCH (fun _ => ?_)
          exact ⟨m2 - 1, by omega, j + 1, ⟨gi, ⟨g1, g2⟩, ⟨g3, g4⟩⟩, by omega, by rw [htk, List.foldl_append, ← hg]; simp [sgS, upI, ha, hb, revS], rfl, rfl⟩
        · refine ZZ ?_
          refine aw_regionT [(0, none), (1, none), (2, none), (3, none), (4, none), (5, none), (6, none), (7, none), (8, none), (9, none), (10, none), (11, none), (12, none), (13, none), (14, none), (15, none), (16, none), (17, none), (18, none), (19, none)] hMixed (by kernel_rfl) ?_
          refine WQ ?_
          refine WA ?_
          refine aw_cond_t rfl ?_
          refine WA ?_
          refine WA ?_
          refine wk_of [some 0, some 1, some 2] (fun _ => [(1, .c (I z)), (2, .p 0 0 0), (5, .o 1 0 L.length c), (8, .p 2 0 0), (15, .c (.r q (zR C))), (16, .c (I (zR C).length)), (17, .c (I k)), (28, .a ((sdsC ⟨fa, fb, fc⟩).map .c)), (29, .c (I (j + 1 : Nat)))]) (fun _ => _) (by decide) (ZNL hE) ZCF ZCH (fun _ => ?_)
          exact ⟨m2 - 1, by omega, j + 1, ⟨gi, ⟨it, is⟩, ⟨g3, g4⟩⟩, by omega, by rw [htk, List.foldl_append, ← hg]; simp [sgS, upI, ha, hb, revS], rfl, rfl⟩
        · refine ZZ ?_
          refine aw_regionT [(0, none), (1, none), (2, none), (3, none), (4, none), (5, none), (6, none), (7, none), (8, none), (9, none), (10, none), (11, none), (12, none), (13, none), (14, none), (15, none), (16, none), (17, none), (18, none), (19, none)] hMixed (by kernel_rfl) ?_
          refine WQ ?_
          refine WA ?_
          refine aw_cond_f rfl ?_
          refine WA ?_
          refine aw_cond_t rfl ?_
          refine WA ?_
          refine WA ?_
          refine wk_of [some 0, some 1, some 2] (fun _ => [(1, .c (I z)), (2, .p 0 0 0), (5, .o 1 0 L.length c), (8, .p 2 0 0), (15, .c (.r q (zR C))), (16, .c (I (zR C).length)), (17, .c (I k)), (28, .a ((sdsC ⟨fa, fb, fc⟩).map .c)), (29, .c (I (j + 1 : Nat)))]) (fun _ => _) (by decide) (ZNL hE) ZCF ZCH (fun _ => ?_)
          exact ⟨m2 - 1, by omega, j + 1, ⟨gi, ⟨g1, g2⟩, ⟨is, it⟩⟩, by omega, by rw [htk, List.foldl_append, ← hg]; simp [sgS, upI, ha, hb, revS], rfl, rfl⟩
        · refine ZZ ?_
          refine aw_regionT [(0, none), (1, none), (2, none), (3, none), (4, none), (5, none), (6, none), (7, none), (8, none), (9, none), (10, none), (11, none), (12, none), (13, none), (14, none), (15, none), (16, none), (17, none), (18, none), (19, none)] hMixed (by kernel_rfl) ?_
          refine WQ ?_
          refine WA ?_
          refine aw_cond_f rfl ?_
          refine WA ?_
          refine aw_cond_f rfl ?_
          refine ZZ ?_
          refine WA ?_
          refine wk_of [some 0, some 1, some 2] (fun _ => [(1, .c (I z)), (2, .p 0 0 0), (5, .o 1 0 L.length c), (8, .p 2 0 0), (15, .c (.r q (zR C))), (16, .c (I (zR C).length)), (17, .c (I k)), (28, .a ((sdsC ⟨fa, fb, fc⟩).map .c)), (29, .c (I (j + 1 : Nat)))]) (fun _ => _) (by decide) (ZNL hE) ZCF ZCH (fun _ => ?_)
          exact ⟨m2 - 1, by omega, j + 1, ⟨gi, ⟨g1, g2⟩, ⟨g3, g4⟩⟩, by omega, by rw [htk, List.foldl_append, ← hg]; simp [sgS, upI, ha, hb, revS], rfl, rfl⟩
      obtain rfl : j = 3 := by omega
      have hg3 : g = (sds ⟨fa, fb, fc⟩).foldl (sgS V z) ⟨i, ⟨0, 0⟩, ⟨0, 0⟩⟩ := hg
      rw [← hg3] at hLn
      obtain ⟨gi, ⟨g1, g2⟩, ⟨g3, g4⟩⟩ := g
      refine ZZ ?_
      refine WR ?_
      refine al_ef rfl (Zapp (KA (t := 123) rfl)) ?_
      rintro _ _ ⟨_, cc, hcc, rfl, rfl⟩
      refine WE ?_
      refine WA ?_
      refine wk_of [some 0, some 1] (fun _ => [(1, .c (I z)), (2, .p 0 0 0), (5, .o 1 0 (L ++ [(⟨gi, ⟨g1, g2⟩, ⟨g3, g4⟩⟩ : Seg5)]).length cc), (15, .c (.r q (zR C))), (16, .c (I (zR C).length)), (17, .c (I (k + 1 : Nat)))]) (fun _ => _) (by decide) (ZNL hE) ZCF ZCH (fun _ => ?_)
      exact ⟨m - 1, by omega, k + 1, cc, L ++ [⟨gi, ⟨g1, g2⟩, ⟨g3, g4⟩⟩], by omega, by simp; omega, hLn, rfl, by simp⟩
  obtain rfl : k = C.length := by omega
  rw [List.take_of_length_le (Nat.le_refl _)] at hLe
  refine WA ?_
  exact aret_f1 [] _ rfl rfl rfl rfl (by rw [List.drop_zero, List.take_of_length_le (by simp)]) (by simp) rfl (by decide) (ZNK rfl) (fun _ => .nil) (fun q => ⟨q, by rw [hsg, hLe], rfl⟩)
end Go.Proofs.YthanangkmjjbaaaGreatDoor

/- Planes through meshes: the faces that are cut, and their segments, by value: the reference's. -/
-- NEWM
namespace Go.Proofs.YthanangkmjjbaaaGreatDoor
open Go Go.RowKit
set_option maxRecDepth 100000
end Go.Proofs.YthanangkmjjbaaaGreatDoor

/- Segments of the reference, by value. -/
-- NEWM
namespace Go.Proofs.YthanangkmjjbaaaGreatDoor
open Go Go.RowKit
set_option maxRecDepth 100000
end Go.Proofs.YthanangkmjjbaaaGreatDoor

/- Fractions in lowest terms, and where sides are cut, by value. -/
-- NEWM
namespace Go.Proofs.YthanangkmjjbaaaGreatDoor
open Go Go.RowKit
set_option maxRecDepth 100000
theorem gcd_pos' {n d : Int} (h : 1 ≤ d) : 1 ≤ ((Int.gcd n d : Nat) : Int) := by
  have : 0 < Int.gcd n d := Int.gcd_pos_of_ne_zero_right _ (by omega)
  omega
theorem tdiv_small {n g : Int} (hg : 1 ≤ g) (h : -1000000000000000 ≤ n ∧ n ≤ 1000000000000000) : -1000000000000000 ≤ n.tdiv g ∧ n.tdiv g ≤ 1000000000000000 := by
  have h1 : (n.tdiv g).natAbs ≤ n.natAbs := Int.natAbs_tdiv_le_natAbs n g
  omega
/-- The program's: neither is below 0. -/
theorem klow_v (num den : Int) (h1 : 0 ≤ num ∧ num ≤ 1000000000000000) (h2 : 1 ≤ den ∧ den ≤ 1000000000000000) : ACalls Tryz.prog 167 [.c (I num), .c (I den)] [] fun u H => u = .a [.c (I (lowF num den).n), .c (I (lowF num den).d)] ∧ H = [] := by
  refine acalls_of (N := 22) Tryz.func167 rfl rfl (by simp) fun E hE => ?_
  refine WA ?_
  refine WA ?_
  refine aw_loopw (fun m F H => ∃ (A C : Nat), m = C ∧ A ≤ 1000000000000000 ∧ C ≤ 1000000000000000 ∧ Nat.gcd A C = Int.gcd num den ∧ F = [(0, .c (I num)), (1, .c (I den)), (4, .p 0 0 0), (5, .c (I A)), (6, .c (I C))] ∧ H = [.box [.c (I 0), .c (I 0)]]) ?_ ?_
  · obtain ⟨N, rfl⟩ : ∃ n : Nat, num = n := ⟨num.toNat, by omega⟩
    obtain ⟨D, rfl⟩ : ∃ n : Nat, den = n := ⟨den.toNat, by omega⟩
    refine wk_of [some 0] (fun _ => [(0, .c (I N)), (1, .c (I D)), (4, .p 0 0 0), (5, .c (I N)), (6, .c (I D))]) (fun _ => _) (by decide) (ZNL hE) ZCF ZCH (fun _ => ?_)
    exact ⟨D, N, D, rfl, by omega, by omega, rfl, rfl, rfl⟩
  rintro m F H ⟨A, C, rfl, hA, hC, hg, rfl, rfl⟩
  refine WA ?_
  refine aw_if rfl (fun hne => ?_) (fun hz => ?_)
  · have hm := Nat.mod_lt A (show 0 < m by omega)
    refine ZZ ?_
    refine aw_regionT [(0, none), (1, none), (2, none), (3, none), (4, none), (5, none)] hMixed (by kernel_rfl) ?_
    refine WQ ?_
    refine wk_of [some 0] (fun _ => [(0, .c (I num)), (1, .c (I den)), (4, .p 0 0 0), (5, .c (I m)), (6, .c (I ((A % m : Nat) : Int)))]) (fun _ => _) (by decide) (ZNL hE) ZCF ZCH (fun _ => ?_)
    exact ⟨A % m, by omega, m, A % m, rfl, by omega, by omega, by rw [← hg, Nat.gcd_comm A m, Nat.gcd_rec m A, Nat.gcd_comm], rfl, rfl⟩
  obtain rfl : m = 0 := by omega
  rw [Nat.gcd_zero_right] at hg
  have hp := gcd_pos' (n := num) h2.1
  rw [← hg] at hp
  refine ZZ ?_
  refine aw_regionT [(0, none), (1, none), (2, none), (3, none), (4, none), (5, none), (6, none), (7, some [])] hMixed (by kernel_rfl) ?_
  refine WQ ?_
  exact aret_a [] _ rfl (KK (t := 56) rfl) rfl (Cells.box rfl) (by simp) (by (try simp only [nm, putL, Nat.reduceAdd, cellsOf, cvOf]) <;> rfl) (by decide) (ZNK rfl) (fun _ => C0 rfl) (fun _ => .nil) ⟨by rw [lowF, ← hg, Int.tdiv_eq_ediv_of_nonneg (by omega), Int.tdiv_eq_ediv_of_nonneg (by omega)], rfl⟩
theorem lowF_neg (n d : Int) : lowF (-n) d = ⟨-(lowF n d).n, (lowF n d).d⟩ := by
  unfold lowF
  rw [Int.neg_gcd, Int.neg_tdiv]
theorem low_v (num den : Int) (h1 : -1000000000000000 ≤ num ∧ num ≤ 1000000000000000) (h2 : 1 ≤ den ∧ den ≤ 1000000000000000) : ACalls Tryz.prog 117 [.c (I num), .c (I den)] [] fun u H => u = .a [.c (I (lowF num den).n), .c (I (lowF num den).d)] ∧ H = [] := by
  have hp := gcd_pos' (n := -num) h2.1
  have hb := tdiv_small (n := -num) hp (by omega)
  refine acalls_of (N := 21) Tryz.func117 rfl rfl (by simp) fun E hE => ?_
  refine WA ?_
  refine WA ?_
  refine aw_if rfl (fun hne => ?_) (fun hz => ?_)
  · have he : lowF num den = ⟨-(lowF (-num) den).n, (lowF (-num) den).d⟩ := by rw [lowF_neg, Int.neg_neg]
    have hx : (lowF (-num) den).n = (-num).tdiv (Int.gcd (-num) den) := rfl
    rw [← hx] at hb
    rw [he]
    refine WR ?_
    refine al_ef rfl (ef_call0 false (fun _ => klow_v (-num) den (by omega) (by omega)) rfl .fn rfl (by decide) (by kernel_rfl) rfl (fun _ => C0 rfl) (by simp)) ?_
    rintro _ _ ⟨_, _, _, ⟨rfl, rfl⟩, hF, hH⟩
    (try simp only [nsl, Nat.reduceAdd, Nat.reduceLT, Nat.reduceSub] at hF); (try simp only [nsl, Nat.reduceAdd, Nat.reduceLT, Nat.reduceSub] at hH); subst hF; subst hH
    refine WE ?_
    generalize lowF (-num) den = q at hb ⊢
    obtain ⟨qn, qd⟩ := q
    simp only at hb
    have hw : wrap64 (-qn) = -qn := Zwr (by omega)
    refine WA ?_
    rw [hw]
    exact aret_a [] _ rfl (KK (t := 56) rfl) rfl (Cells.box rfl) (by simp) (by (try simp only [nm, putL, Nat.reduceAdd, cellsOf, cvOf]) <;> rfl) (by decide) (ZNK rfl) (fun _ => C0 rfl) (fun _ => .nil) ⟨rfl, rfl⟩
  · refine WR ?_
    refine al_ef rfl (ef_call0 false (fun _ => klow_v num den (by omega) (by omega)) rfl .fn rfl (by decide) (by kernel_rfl) rfl (fun _ => C0 rfl) (by simp)) ?_
    rintro _ _ ⟨_, _, _, ⟨rfl, rfl⟩, hF, hH⟩
    (try simp only [nsl, Nat.reduceAdd, Nat.reduceLT, Nat.reduceSub] at hF); (try simp only [nsl, Nat.reduceAdd, Nat.reduceLT, Nat.reduceSub] at hH); subst hF; subst hH
    refine WE ?_
    exact aret_a [] _ rfl (KK (t := 56) rfl) rfl (Cells.box rfl) (by simp) (by (try simp only [nm, putL, Nat.reduceAdd, cellsOf, cvOf]) <;> rfl) (by decide) (ZNK rfl) (fun _ => C0 rfl) (fun _ => .nil) ⟨rfl, rfl⟩
abbrev Cut6.row (c : Cut6) : List CV := [I c.s.f, I c.s.t, I c.x.n, I c.x.d, I c.y.n, I c.y.d]
set_option maxHeartbeats 4000000 in
theorem cut_p (v w : Value) (V : List Vec3) (Fs : List Fac3) (z : Int) (s : Sid2) (hM : MOk V Fs) (hs : Cuts' V z s) (hz : -100000 ≤ z ∧ z ≤ 100000) : ACalls Tryz.prog 62 [mshA v w V Fs, .a (s.row.map .c), .c (I z)] [] fun u H => u = .a ((cutV V z s).row.map .c) ∧ H = [] := by
  obtain ⟨⟨h1, h2⟩, ⟨h3, h4⟩, h5, h6⟩ := hs
  obtain ⟨sf, st⟩ := s
  simp only at h1 h2 h3 h4 h5 h6
  obtain ⟨ia, ha⟩ : ∃ i : Nat, sf = i := ⟨sf.toNat, by omega⟩
  obtain ⟨ib, hb⟩ : ∃ i : Nat, st = i := ⟨st.toNat, by omega⟩
  subst ha; subst hb
  have ra := vrow (V := V) (i := ia) (by omega)
  have rb := vrow (V := V) (i := ib) (by omega)
  have na := nearI hM.far (i := ia) (by omega)
  have nb := nearI hM.far (i := ib) (by omega)
  have hcv : cutV V z ⟨ia, ib⟩ = ⟨⟨ia, ib⟩, lowF (cutN (vx V ia).x (vx V ib).x (vx V ia).z (vx V ib).z z) ((vx V ib).z - (vx V ia).z), lowF (cutN (vx V ia).y (vx V ib).y (vx V ia).z (vx V ib).z z) ((vx V ib).z - (vx V ia).z)⟩ := rfl
  rw [hcv]
  clear hcv
  generalize vx V ia = va at ra na h5 h6 ⊢
  generalize vx V ib = vb at rb nb h5 h6 ⊢
  obtain ⟨ax, ay, az⟩ := va
  obtain ⟨bx, by', bz⟩ := vb
  simp only [Vec3.in] at na nb
  simp only at h5 h6
  refine acalls_of (N := 63) Tryz.func62 rfl rfl (by simp) fun E hE => ?_
  refine WA ?_
  refine aw_cut (fun F H => F = [(2, .c (I z)), (4, .p 0 0 0), (6, .p 1 0 0), (7, .p 2 0 0), (8, .p 3 0 0)] ∧ H = [.box [.c (I ia), .c (I ib)], .box [.c (I 0), .c (I 0), .c (I 0), .c (I 0), .c (I 0), .c (I 0)], .box [.c (I ax), .c (I ay), .c (I az)], .box [.c (I bx), .c (I by'), .c (I bz)]]) ?_ ?_ wk_aw
  · refine ZZ ?_
    refine aw_regionM [[(0, none), (1, none), (2, none), (3, none), (4, none), (5, none), (6, none), (7, none), (8, none), (9, none), (10, none), (11, none), (12, some [0, 1, 2, 3, 4, 5, 6, 7, 8, 9, 10, 11]), (13, some [0, 1, 2, 3, 4, 5, 6, 7, 8, 9, 10, 11]), (14, some [6, 7, 8, 9, 10, 11]), (15, some [])], [(0, none), (1, none), (2, none), (3, none), (4, none), (5, none), (6, none), (7, none), (8, none), (9, none), (10, none), (11, none), (13, some [0, 1, 2, 3, 4, 5, 6, 7, 8, 9, 10, 11]), (12, some [0, 1, 2, 3, 4, 5, 6, 7, 8, 9, 10, 11]), (14, some [6, 7, 8, 9, 10, 11]), (15, some [])]] hMixed (by kernel_rfl) ?_
    focus
      refine WM ?_
      refine am_two (by rfl) (by rfl) (by rfl) ?_ ?_
      rotate_left
      refine WN ?_
      rotate_right
      refine WN ?_
    all_goals (first | exact wk_of [some 1, some 2, some 3, some 4] (fun _ => [(2, .c (I z)), (4, .p 0 0 0), (6, .p 1 0 0), (7, .p 2 0 0), (8, .p 3 0 0)]) (fun _ => [.box [.c (I ia), .c (I ib)], .box [.c (I 0), .c (I 0), .c (I 0), .c (I 0), .c (I 0), .c (I 0)], .box [.c (I ax), .c (I ay), .c (I az)], .box [.c (I bx), .c (I by'), .c (I bz)]]) (by decide) (ZNL hE) ZCF ZCH (fun _ => ⟨rfl, rfl⟩) | exact wk_of [some 1, some 2, some 4, some 3] (fun _ => [(2, .c (I z)), (4, .p 0 0 0), (6, .p 1 0 0), (7, .p 2 0 0), (8, .p 3 0 0)]) (fun _ => [.box [.c (I ia), .c (I ib)], .box [.c (I 0), .c (I 0), .c (I 0), .c (I 0), .c (I 0), .c (I 0)], .box [.c (I ax), .c (I ay), .c (I az)], .box [.c (I bx), .c (I by'), .c (I bz)]]) (by decide) (ZNL hE) ZCF ZCH (fun _ => ⟨rfl, rfl⟩))
  rintro F H ⟨rfl, rfl⟩
  have p1 := prod_in (x := ax) (y := bz - az) (M := 200000) (by omega) (by omega) (by omega)
  have p2 := prod_in (x := bx - ax) (y := z - az) (M := 200000) (by omega) (by omega) (by omega)
  have p3 := prod_in (x := ay) (y := bz - az) (M := 200000) (by omega) (by omega) (by omega)
  have p4 := prod_in (x := by' - ay) (y := z - az) (M := 200000) (by omega) (by omega) (by omega)
  have q1 : cutN ax bx az bz z = ax * (bz - az) + (bx - ax) * (z - az) := rfl
  have q2 : cutN ay by' az bz z = ay * (bz - az) + (by' - ay) * (z - az) := rfl
  rw [q1, q2]
  refine WA ?_
  refine ZZ ?_
  refine aw_regionT [(0, none), (1, none), (2, none), (3, none), (4, none), (5, none), (6, none), (7, none), (8, none), (9, none), (10, none), (11, none), (12, none), (13, none), (14, none), (15, none), (16, none), (18, none), (19, none), (20, none), (21, none), (22, none), (23, none), (24, none), (25, none), (26, none), (27, none), (28, none), (29, none), (30, none), (31, none), (32, none), (33, none), (17, some [0, 18, 19, 20, 21, 22, 23, 24, 25, 26, 27, 28, 29, 30, 31, 32, 33]), (34, some [0]), (35, none), (36, some [])] hMixed (by kernel_rfl) ?_
  refine WP ?_
  refine at_ef rfl rfl (ef_call0 false (fun _ => low_v _ _ (by omega) (by omega)) rfl .fn rfl (by decide) (by kernel_rfl) rfl (fun _ => C0 rfl) (by simp)) ?_
  rintro _ _ ⟨_, _, _, ⟨rfl, rfl⟩, hF, hH⟩
  (try simp only [nsl, Nat.reduceAdd, Nat.reduceLT, Nat.reduceSub] at hF); (try simp only [nsl, Nat.reduceAdd, Nat.reduceLT, Nat.reduceSub] at hH); subst hF; subst hH
  refine ⟨ag_cons (by first | exact ag_rd rfl rfl rfl (ZK (KK (t := 54) rfl)) rfl) (ag_cons (by first | exact ag_rd rfl rfl rfl (ZX (KF (t := 34) (f := 1) rfl rfl)) rfl) (ag_cons (by first | exact ag_rd rfl rfl rfl (ZL (KK (t := 3) rfl)) rfl) (ag_cons (by first | exact ag_rd rfl rfl rfl (rd_move rfl rfl) rfl) (ag_cons (by first | exact ag_rd rfl rfl rfl (Zmul) rfl) (ag_cons (by first | exact ag_rd rfl rfl rfl (ZX (KF (t := 34) (f := 1) rfl rfl)) rfl) (ag_cons (by first | exact ag_rd rfl rfl rfl (ZL (KK (t := 3) rfl)) rfl) (ag_cons (by first | exact ag_rd rfl rfl rfl (ZX (KF (t := 34) (f := 1) rfl rfl)) rfl) (ag_cons (by first | exact ag_rd rfl rfl rfl (ZL (KK (t := 3) rfl)) rfl) (ag_cons (by first | exact ag_rd rfl rfl rfl (Zsub) rfl) (ag_cons (by first | exact ag_rd rfl rfl rfl (rd_move rfl rfl) rfl) (ag_cons (by first | exact ag_rd rfl rfl rfl (ZX (KF (t := 34) (f := 2) rfl rfl)) rfl) (ag_cons (by first | exact ag_rd rfl rfl rfl (ZL (KK (t := 3) rfl)) rfl) (ag_cons (by first | exact ag_rd rfl rfl rfl (Zsub) rfl) (ag_cons (by first | exact ag_rd rfl rfl rfl (Zmul) rfl) (ag_cons (by first | exact ag_rd rfl rfl rfl (Zadd) rfl) (ag_cons (by first | exact ag_rd rfl rfl rfl (rd_move rfl rfl) rfl) (ag_none))))))))))))))))), ?_⟩
  refine at_ef rfl rfl (ef_call0 false (fun _ => low_v _ _ (by omega) (by omega)) rfl .fn rfl (by decide) (by kernel_rfl) rfl (fun _ => C0 rfl) (by simp)) ?_
  rintro _ _ ⟨_, _, _, ⟨rfl, rfl⟩, hF, hH⟩
  (try simp only [nsl, Nat.reduceAdd, Nat.reduceLT, Nat.reduceSub] at hF); (try simp only [nsl, Nat.reduceAdd, Nat.reduceLT, Nat.reduceSub] at hH); subst hF; subst hH
  refine ⟨ag_cons (by first | exact ag_rd rfl rfl rfl (ZK (KK (t := 54) rfl)) rfl) (ag_none), ?_⟩
  refine WQ ?_
  exact aret_a [] _ rfl (KK (t := 58) rfl) rfl (Cells.box rfl) (by simp) (by (try simp only [nm, putL, Nat.reduceAdd, cellsOf, cvOf]) <;> rfl) (by decide) (ZNK rfl) (fun _ => C0 rfl) (fun _ => .nil) ⟨rfl, rfl⟩
end Go.Proofs.YthanangkmjjbaaaGreatDoor
