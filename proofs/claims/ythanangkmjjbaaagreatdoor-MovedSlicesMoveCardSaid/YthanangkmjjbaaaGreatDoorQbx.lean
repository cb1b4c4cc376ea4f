/- The law MovedSlicesMove, walked. -/
import Derived.Test.YthanangkmjjbaaaGreatDoorQax
import Derived.Test.YthanangkmjjbaaaGreatDoorQaz
import Derived.Test.YthanangkmjjbaaaGreatDoorQbk
import Derived.Test.YthanangkmjjbaaaGreatDoorQbl
import Derived.Test.YthanangkmjjbaaaGreatDoorQbw
set_option linter.unusedSimpArgs false
set_option linter.unusedVariables false
/- The law MovedSlicesMove, walked. -/
-- NEWM
namespace Go.Proofs.YthanangkmjjbaaaGreatDoor
open Go Go.RowKit
set_option maxRecDepth 100000
set_option maxHeartbeats 8000000 in
theorem law_moved (v : Value) (zs : List Int) (hs : StrOk zs) : ACalls Tryz.prog 3 [.c (.r v (zs.map fun z => [I z]))] [] fun u H => u = .c (B true) := by
  refine acalls_of (N := 140) Tryz.func3 rfl rfl (by simp) fun E hE => ?_
  refine WA ?_
  refine WA ?_
  refine WR ?_
  refine al_ef rfl (ef_callm false (fun _ => closedmesh_v _ _ _ hs (by omega) (by omega)) rfl .fn rfl (by decide) (by kernel_rfl) rfl rfl (fun _g => .cons (.p rfl) .nil) (fun _g => .cons (.c rfl) (.cons (.c rfl) .nil)) (by simp)) ?_
  rintro F1 H1 ⟨_, _, _, _, ⟨a2, q, w, V, Fs, rfl, hq, ha3, ha4, hV, hFl, hmf, hop⟩, hF, hH⟩
  injection hq with hq1 hq2; subst hq1; subst hq2
  (try simp only [nsl, Nat.reduceAdd, Nat.reduceLT, Nat.reduceSub] at hF); (try simp only [nsl, Nat.reduceAdd, Nat.reduceLT, Nat.reduceSub] at hH); subst hF; subst hH
  refine WE ?_
  have hM : MOk V Fs := mok_of hmf
  have hVn : ∀ a ∈ V, a.in 100000 := fun a ha => by
    obtain ⟨i, hi, e⟩ := List.getElem_of_mem ha
    have h1 := nearI hM.far (i := i) hi
    have e2 : vx V (i : Int) = a := by
      unfold vx
      rw [List.getD_eq_getElem?_getD, Int.toNat_natCast, List.getElem?_eq_getElem hi, e]; rfl
    rw [e2] at h1
    exact h1
  refine WR ?_
  refine al_ef rfl (ef_callm false (fun _ => aplane_v _ _ _ q w V Fs hs (by omega) (by omega) (by omega)) rfl .fn rfl (by decide) (by kernel_rfl) rfl rfl (fun _g => .cons (.p rfl) (.cons (.aL (C0 rfl)) .nil)) (fun _g => .cons (.c rfl) (.cons (.c rfl) .nil)) (by simp)) ?_
  rintro F1 H1 ⟨_, _, _, _, ⟨z, az, rfl, hq, hbz, hcz⟩, hF, hH⟩
  injection hq with hq1 hq2; subst hq1; subst hq2
  (try simp only [nsl, Nat.reduceAdd, Nat.reduceLT, Nat.reduceSub] at hF); (try simp only [nsl, Nat.reduceAdd, Nat.reduceLT, Nat.reduceSub] at hH); subst hF; subst hH
  refine WO ?_
  refine al_ef rfl (ef_callm false (fun _ => range_a (-20) 20 _ _ _ hs (by omega) (by omega) (by omega) (by omega) (by omega) (by omega)) rfl .fn rfl (by decide) (by kernel_rfl) rfl rfl (fun _g => .cons (.p rfl) (.cons (.c rfl) (.cons (.c rfl) .nil))) (fun _g => .cons (.c rfl) (.cons (.c rfl) .nil)) (by simp)) ?_
  rintro F1 H1 ⟨_, _, _, _, ⟨rr, ar, rfl, hq, hr3, hr4, hr1, hr2, _⟩, hF, hH⟩
  injection hq with hq1 hq2; subst hq1; subst hq2
  (try simp only [nsl, Nat.reduceAdd, Nat.reduceLT, Nat.reduceSub] at hF); (try simp only [nsl, Nat.reduceAdd, Nat.reduceLT, Nat.reduceSub] at hH); subst hF; subst hH
  have h64r : in64 rr := by simp only [in64]; omega
  obtain ⟨bx, hbx⟩ : ∃ o, o = rr := ⟨_, rfl⟩
  rw [← hbx]
  have hrbx : (-20) ≤ bx ∧ bx ≤ 20 := ⟨by omega, by omega⟩
  clear hr1 hr2 h64r
  refine WO ?_
  refine al_ef rfl (ef_callm false (fun _ => range_a (-20) 20 _ _ _ hs (by omega) (by omega) (by omega) (by omega) (by omega) (by omega)) rfl .fn rfl (by decide) (by kernel_rfl) rfl rfl (fun _g => .cons (.p rfl) (.cons (.c rfl) (.cons (.c rfl) .nil))) (fun _g => .cons (.c rfl) (.cons (.c rfl) .nil)) (by simp)) ?_
  rintro F1 H1 ⟨_, _, _, _, ⟨rr, ar, rfl, hq, hr3, hr4, hr1, hr2, _⟩, hF, hH⟩
  injection hq with hq1 hq2; subst hq1; subst hq2
  (try simp only [nsl, Nat.reduceAdd, Nat.reduceLT, Nat.reduceSub] at hF); (try simp only [nsl, Nat.reduceAdd, Nat.reduceLT, Nat.reduceSub] at hH); subst hF; subst hH
  have h64r : in64 rr := by simp only [in64]; omega
  obtain ⟨by', hby'⟩ : ∃ o, o = rr := ⟨_, rfl⟩
  rw [← hby']
  have hrby' : (-20) ≤ by' ∧ by' ≤ 20 := ⟨by omega, by omega⟩
  clear hr1 hr2 h64r
  refine WE ?_
  have hbn : (⟨bx, by', 0⟩ : Vec3).in 100000 := by simp only [Vec3.in]; omega
  refine WR ?_
  refine al_ef rfl (ef_call0 false (fun _ => movedmesh_v q w V Fs ⟨bx, by', 0⟩ (by omega) (by omega) hVn hbn) rfl .fn rfl (by decide) (by kernel_rfl) rfl (fun _g => .cons (.aL (C0 rfl)) (.cons (.aL (C0 rfl)) .nil)) (by simp)) ?_
  rintro _ _ ⟨_, _, _, ⟨m1, m2, V', F', rfl, rfl, hVF⟩, hF, hH⟩
  (try simp only [nsl, Nat.reduceAdd, Nat.reduceLT, Nat.reduceSub] at hF); (try simp only [nsl, Nat.reduceAdd, Nat.reduceLT, Nat.reduceSub] at hH); subst hF; subst hH
  refine WE ?_
  refine WA ?_
  refine aw_if rfl (fun h0 => ?_) (fun h0 => ?_)
  · refine ZR ?_
    refine al_ef rfl (ef_call0 false (fun _ => ready_a) rfl .fn rfl (by decide) (by kernel_rfl) rfl (fun _ => C0 rfl) (by simp)) ?_
    rintro _ _ ⟨_, _, _, ⟨rfl, rfl⟩, hF, hH⟩
    (try simp only [nsl, Nat.reduceAdd, Nat.reduceLT, Nat.reduceSub] at hF); (try simp only [nsl, Nat.reduceAdd, Nat.reduceLT, Nat.reduceSub] at hH); subst hF; subst hH
    refine WE ?_
    exact aret_1 [] [] rfl rfl rfl (by decide) (ZNK rfl) (fun _ => .nil) rfl
  have hm0 : mshF (mvV ⟨bx, by', 0⟩ V) Fs = 0 := by omega
  obtain ⟨rfl, e2⟩ := hVF hm0
  subst F'
  have hVl2 : (mvV ⟨bx, by', 0⟩ V).length = V.length := by simp [mvV]
  rw [hm0]
  refine ZZ ?_
  refine WR ?_
  refine al_ef rfl (ef_call0 false (fun _ => ringsP_v q w V Fs z (by omega) (by omega)) rfl .fn rfl (by decide) (by kernel_rfl) rfl (fun _ => C0 rfl) (by simp)) ?_
  rintro _ _ ⟨_, _, _, ⟨q1, A1, e1, rfl, rfl, hr1⟩, hF, hH⟩
  (try simp only [nsl, Nat.reduceAdd, Nat.reduceLT, Nat.reduceSub] at hF); (try simp only [nsl, Nat.reduceAdd, Nat.reduceLT, Nat.reduceSub] at hH); subst hF; subst hH
  refine WE ?_
  refine WR ?_
  refine al_ef rfl (ef_call0 false (fun _ => ringsP_v m1 m2 (mvV ⟨bx, by', 0⟩ V) Fs z (by omega) (by omega)) rfl .fn rfl (by decide) (by kernel_rfl) rfl (fun _ => C0 rfl) (by simp)) ?_
  rintro _ _ ⟨_, _, _, ⟨q2, A2, e2, rfl, rfl, hr2⟩, hF, hH⟩
  (try simp only [nsl, Nat.reduceAdd, Nat.reduceLT, Nat.reduceSub] at hF); (try simp only [nsl, Nat.reduceAdd, Nat.reduceLT, Nat.reduceSub] at hH); subst hF; subst hH
  refine WE ?_
  refine WR ?_
  refine al_ef rfl (ef_call0 false (fun _ => doubledP_v q w V Fs z (by omega) (by omega)) rfl .fn rfl (by decide) (by kernel_rfl) rfl (fun _ => C0 rfl) (by simp)) ?_
  rintro _ _ ⟨_, _, _, ⟨d3, n3, rfl, rfl, hd3⟩, hF, hH⟩
  (try simp only [nsl, Nat.reduceAdd, Nat.reduceLT, Nat.reduceSub] at hF); (try simp only [nsl, Nat.reduceAdd, Nat.reduceLT, Nat.reduceSub] at hH); subst hF; subst hH
  refine WE ?_
  refine WR ?_
  refine al_ef rfl (ef_call0 false (fun _ => doubledP_v m1 m2 (mvV ⟨bx, by', 0⟩ V) Fs z (by omega) (by omega)) rfl .fn rfl (by decide) (by kernel_rfl) rfl (fun _ => C0 rfl) (by simp)) ?_
  rintro _ _ ⟨_, _, _, ⟨d4, n4, rfl, rfl, hd4⟩, hF, hH⟩
  (try simp only [nsl, Nat.reduceAdd, Nat.reduceLT, Nat.reduceSub] at hF); (try simp only [nsl, Nat.reduceAdd, Nat.reduceLT, Nat.reduceSub] at hH); subst hF; subst hH
  refine WE ?_
  obtain ⟨k1, k2, k3, k4⟩ := moved_ok hM rfl hmf hm0 hr1 hr2 hd3 hd4
  have ep : pltF (mvV ⟨bx, by', 0⟩ V) Fs [z] = pltF V Fs [z] := by rw [pltF, pltF, if_neg (by omega), if_neg (by omega)]
  rw [ep, ← k1, ← k2, ← k3]
  simp only at k4
  have hBl : A2.length = A1.length := by have := congrArg List.length k4; simpa using this
  have eA1 : (rgR A1).length = A1.length := by simp
  have eA2 : (rgR A2).length = A2.length := by simp
  have hin : ∀ p ∈ A1, p.2.length ≤ 100000 ∧ ∀ q ∈ p.2, q.in := fun p hp => by
    by_cases h : pltF V Fs [z] = 0
    · obtain ⟨cs, c1, _, c3⟩ := hr1.2 h
      have hm : p.2 ∈ A1.map Prod.snd := List.mem_map.2 ⟨p, hp, rfl⟩
      rw [c3] at hm
      split at hm
      · obtain ⟨_, h2⟩ := rgL_ok hM c1
        obtain ⟨h3, h4⟩ := h2 p.2 hm
        exact ⟨by omega, h4⟩
      · cases hm
    · obtain ⟨_, h2⟩ := hr1.1 h
      have hm : p.2 ∈ A1.map Prod.snd := List.mem_map.2 ⟨p, hp, rfl⟩
      rw [h2] at hm; cases hm
  have hAl : A1.length ≤ 100000 := by
    by_cases h : pltF V Fs [z] = 0
    · obtain ⟨cs, c1, _, c3⟩ := hr1.2 h
      have hl := congrArg List.length c3
      rw [List.length_map] at hl
      have h2 := (rgL_ok hM c1).1
      split at hl
      · omega
      · rw [List.length_nil] at hl; omega
    · obtain ⟨_, h2⟩ := hr1.1 h
      have hl := congrArg List.length h2
      rw [List.length_map, List.length_nil] at hl
      omega
  refine aw_wk (wk_of (K := fun F H => F = [(6, .p 0 0 0), (9, .c (.r q1 (rgR A1))), (10, .c (I e1)), (11, .c (.r q2 (rgR A2))), (12, .c (I e1)), (13, .c (I d3)), (14, .c (I n3)), (15, .c (I (pltF V Fs [z]))), (16, .c (I d3)), (17, .c (I n3)), (18, .c (I (pltF V Fs [z])))] ∧ H = [.box [.c (I bx), .c (I by'), .c (I 0)]]) [some 2] (fun _ => [(6, .p 0 0 0), (9, .c (.r q1 (rgR A1))), (10, .c (I e1)), (11, .c (.r q2 (rgR A2))), (12, .c (I e1)), (13, .c (I d3)), (14, .c (I n3)), (15, .c (I (pltF V Fs [z]))), (16, .c (I d3)), (17, .c (I n3)), (18, .c (I (pltF V Fs [z])))]) (fun _ => [.box [.c (I bx), .c (I by'), .c (I 0)]]) (by decide) (ZNL hE) ZCF ZCH (fun _ => ⟨rfl, rfl⟩)) ?_
  rintro F H ⟨rfl, rfl⟩
  refine WA ?_
  refine aw_cond_f rfl ?_
  refine ZZ ?_
  refine WA ?_
  refine aw_loopw (fun m F H => ∃ (i : Nat), m + i = A1.length ∧ F = [(6, .p 0 0 0), (11, .c (.r q2 (rgR A2))), (96, .c (.r q1 (rgR A1))), (97, .c (I (rgR A1).length)), (98, .c (I i))] ∧ H = [.box [.c (I bx), .c (I by'), .c (I 0)]]) ?_ ?_
  · refine wk_of [some 0] (fun _ => [(6, .p 0 0 0), (11, .c (.r q2 (rgR A2))), (96, .c (.r q1 (rgR A1))), (97, .c (I (rgR A1).length)), (98, .c (I (0 : Nat)))]) (fun _ => _) (by decide) (ZNL hE) ZCF ZCH (fun _ => ?_)
    exact ⟨A1.length, 0, by omega, rfl, rfl⟩
  rintro m F H ⟨i, hi, rfl, rfl⟩
  refine WA ?_
  refine aw_if rfl (fun hlt => ?_) (fun hge => ?_)
  · obtain ⟨p, hp⟩ : ∃ z, A1[i]? = some z := ⟨_, List.getElem?_eq_getElem (by omega)⟩
    obtain ⟨p', hp'⟩ : ∃ z, A2[i]? = some z := ⟨_, List.getElem?_eq_getElem (by omega)⟩
    obtain ⟨hrl, hri⟩ := hin p (List.mem_of_getElem? hp)
    have hpp : p'.2 = p.2.map (sh2 bx by') := by
      have h1 : (A2.map Prod.snd)[i]? = some p'.2 := by rw [List.getElem?_map, hp']; rfl
      rw [k4, List.getElem?_map, List.getElem?_map, hp] at h1
      simp only [Option.map_some, Option.some.injEq] at h1
      exact h1.symm
    obtain ⟨qa, r⟩ := p
    obtain ⟨qb, r'⟩ := p'
    simp only at hrl hri hpp
    subst hpp
    have hrow : (rgR A1)[i]? = some [.r qa (pR r)] := by rw [List.getElem?_map, hp]; rfl
    have hrowB : (rgR A2)[i]? = some [.r qb (pR (r.map (sh2 bx by')))] := by rw [List.getElem?_map, hp']; rfl
    have er : (pR r).length = r.length := by simp
    have er' : (pR (r.map (sh2 bx by'))).length = r.length := by simp
    refine WA ?_
    refine ZR ?_
    iterate 4 refine WX1 ?_
    refine ZA (rd_indexq (i := i) rfl (KE (t := 39) rfl) rfl rfl rfl hrowB rfl) ?_
    refine WE ?_
    refine aw_cond_f rfl ?_
    refine ZZ ?_
    refine WA ?_
    refine aw_loopw (fun m2 F H => ∃ (j : Nat), m2 + j = r.length ∧ F = [(6, .p 0 0 0), (11, .c (.r q2 (rgR A2))), (19, .c (I i)), (96, .c (.r q1 (rgR A1))), (97, .c (I (rgR A1).length)), (98, .c (I i)), (111, .c (.r qa (pR r))), (112, .c (I (pR r).length)), (113, .c (I j))] ∧ H = [.box [.c (I bx), .c (I by'), .c (I 0)]]) ?_ ?_
    · refine wk_of [some 0] (fun _ => [(6, .p 0 0 0), (11, .c (.r q2 (rgR A2))), (19, .c (I i)), (96, .c (.r q1 (rgR A1))), (97, .c (I (rgR A1).length)), (98, .c (I i)), (111, .c (.r qa (pR r))), (112, .c (I (pR r).length)), (113, .c (I (0 : Nat)))]) (fun _ => _) (by decide) (ZNL hE) ZCF ZCH (fun _ => ?_)
      exact ⟨r.length, 0, by omega, rfl, rfl⟩
    rintro m2 F H ⟨j, hj, rfl, rfl⟩
    refine WA ?_
    refine aw_if rfl (fun hlt2 => ?_) (fun hge2 => ?_)
    · obtain ⟨a, ha⟩ : ∃ z, r[j]? = some z := ⟨_, List.getElem?_eq_getElem (by omega)⟩
      obtain ⟨ha1, ha2⟩ := hri a (List.mem_of_getElem? ha)
      obtain ⟨ax, ay⟩ := a
      simp only at ha1 ha2
      have hrA : (pR r)[j]? = some [I ax, I ay] := by rw [List.getElem?_map, ha]; rfl
      have hrB : (pR (r.map (sh2 bx by')))[j]? = some [I (ax + bx), I (ay + by')] := by rw [List.getElem?_map, List.getElem?_map, ha]; rfl
      refine WA ?_
      refine ZZ ?_
      refine aw_regionT [(0, none), (1, none), (2, none), (3, none), (4, none), (5, none), (6, none), (7, none), (8, none), (9, none), (10, none), (11, none), (12, none), (13, none), (14, none), (15, none), (16, none), (17, none), (18, none)] hMixed (by kernel_rfl) ?_
      iterate 2 refine WX2 ?_
      refine ZT rfl (rd_indexq (i := i) rfl (KE (t := 39) rfl) rfl rfl rfl hrowB rfl) ?_
      iterate 2 refine WX2 ?_
      refine ZT rfl (rd_indexq (i := j) rfl (KE (t := 45) rfl) rfl rfl rfl hrB rfl) ?_
      iterate 12 refine WX2 ?_
      refine ZT rfl (rd_neqa47 rfl rfl rfl) ?_
      refine WQ ?_
      refine aw_if rfl (fun h => absurd ⟨rfl, rfl⟩ h) (fun _ => ?_)
      refine ZZ ?_
      refine WA ?_
      refine wk_of [some 0] (fun _ => [(6, .p 0 0 0), (11, .c (.r q2 (rgR A2))), (19, .c (I i)), (96, .c (.r q1 (rgR A1))), (97, .c (I (rgR A1).length)), (98, .c (I i)), (111, .c (.r qa (pR r))), (112, .c (I (pR r).length)), (113, .c (I (j + 1 : Nat)))]) (fun _ => _) (by decide) (ZNL hE) ZCF ZCH (fun _ => ?_)
      exact ⟨m2 - 1, by omega, j + 1, by omega, rfl, rfl⟩
    refine ZZ ?_
    refine WA ?_
    refine wk_of [some 0] (fun _ => [(6, .p 0 0 0), (11, .c (.r q2 (rgR A2))), (96, .c (.r q1 (rgR A1))), (97, .c (I (rgR A1).length)), (98, .c (I (i + 1 : Nat)))]) (fun _ => _) (by decide) (ZNL hE) ZCF ZCH (fun _ => ?_)
    exact ⟨m - 1, by omega, i + 1, by omega, rfl, rfl⟩
  refine ZZ ?_
  refine ZR ?_
  refine al_ef rfl (ef_call0 false (fun _ => ready_a) rfl .fn rfl (by decide) (by kernel_rfl) rfl (fun _ => C0 rfl) (by simp)) ?_
  rintro _ _ ⟨_, _, _, ⟨rfl, rfl⟩, hF, hH⟩
  (try simp only [nsl, Nat.reduceAdd, Nat.reduceLT, Nat.reduceSub] at hF); (try simp only [nsl, Nat.reduceAdd, Nat.reduceLT, Nat.reduceSub] at hH); subst hF; subst hH
  refine WE ?_
  exact aret_1 [] [] rfl rfl rfl (by decide) (ZNK rfl) (fun _ => .nil) rfl
end Go.Proofs.YthanangkmjjbaaaGreatDoor
