/- Slants of a mesh, by value. -/
import Derived.Test.YthanangkmjjbaaaGreatDoorQbg
import Derived.Test.YthanangkmjjbaaaGreatDoorQay
set_option linter.unusedSimpArgs false
set_option linter.unusedVariables false
/- Slants of a mesh, by value. -/
namespace Go.Proofs.YthanangkmjjbaaaGreatDoor
open Go Go.RowKit
set_option maxRecDepth 100000
theorem slL_next {V : List Vec3} {Fs : List Fac3} {off most : Int} {k : Nat} {f : Fac3} (h : Fs[k]? = some f) : slL V (Fs.take (k + 1)) off most = slL V (Fs.take k) off most ++ (if sdI (nrm V f) ≠ 0 then [slOf V off most f] else []) := by
  unfold slL
  rw [List.take_add_one, h, List.filter_append, List.map_append]
  congr 1
  by_cases hd : sdI (nrm V f) = 0
  · simp [hd]
  · simp [hd]
theorem slL_len (V : List Vec3) (Fs : List Fac3) (off most : Int) : (slL V Fs off most).length ≤ Fs.length := by
  unfold slL
  rw [List.length_map]
  exact List.length_filter_le _ _
theorem nrm_in {V : List Vec3} {Fs : List Fac3} (hM : MOk V Fs) {ia ib ic : Nat} (ha : ia < V.length) (hb : ib < V.length) (hc : ic < V.length) : (nrm V ⟨ia, ib, ic⟩).in 80000000000 :=
  Vec3.in_mono (crs_in (M := 200000) (by omega) (sub3_in (nearI hM.far hb) (nearI hM.far ha)) (sub3_in (nearI hM.far hc) (nearI hM.far ha))) (by omega)
set_option maxHeartbeats 4000000 in
theorem slants_v (v w : Value) (V : List Vec3) (Fs : List Fac3) (off most : Int) (hM : MOk V Fs) (ho : 0 ≤ off ∧ off ≤ 10000) (hm : 0 ≤ most ∧ most ≤ 10000) : ACalls Tryz.prog 81 [mshA v w V Fs, .c (I off), .c (I most)] [] fun u H => ∃ q, u = .c (.r q ((slL V Fs off most).map Slnt.row)) ∧ H = [] := by
  have e2 : (fR Fs).length = Fs.length := by simp
  have e2' : (Fs.map Fac3.row).length = Fs.length := by simp
  have hlf := hM.lf
  refine acalls_of (N := 61) Tryz.func81 rfl rfl (by simp) fun E hE => ?_
  refine WA ?_
  refine WA ?_
  refine WA ?_
  refine aw_loopw (fun m F H => ∃ (k c : Nat), m + k = Fs.length ∧ F = [(1, .c (I off)), (2, .c (I most)), (3, .p 0 0 0), (7, .o 1 0 (slL V (Fs.take k) off most).length c), (15, .c (.r w (fR Fs))), (16, .c (I (fR Fs).length)), (17, .c (I k))] ∧ H = [mBox v w V (fR Fs), .arr 215 3 c ((slL V (Fs.take k) off most).map Slnt.row)]) ?_ ?_
  · refine wk_of [some 0, none] (fun _ => [(1, .c (I off)), (2, .c (I most)), (3, .p 0 0 0), (7, .o 1 0 0 0), (15, .c (.r w (fR Fs))), (16, .c (I (fR Fs).length)), (17, .c (I (0 : Nat)))]) (fun _ => [mBox v w V (fR Fs), .arr 215 3 0 []]) (by decide) (ZNL hE) ZCF ZCH (fun _ => ?_)
    exact ⟨Fs.length, 0, 0, by omega, by simp [slL], by simp [slL]⟩
  rintro m F H ⟨k, c, hk, rfl, rfl⟩
  refine WA ?_
  refine aw_if rfl (fun hlt => ?_) (fun hge => ?_)
  · obtain ⟨f, hz⟩ : ∃ z, Fs[k]? = some z := ⟨_, List.getElem?_eq_getElem (by omega)⟩
    obtain ⟨h1, h2, h3⟩ := hM.ix (List.mem_of_getElem? hz)
    have hzn := slL_next (V := V) (off := off) (most := most) hz
    have hzl : (slL V (Fs.take k) off most).length ≤ k := Nat.le_trans (slL_len _ _ _ _) (by rw [List.length_take]; omega)
    obtain ⟨fa, fb, fc⟩ := f
    simp only at h1 h2 h3
    obtain ⟨ia, ha⟩ : ∃ i : Nat, fa = i := ⟨fa.toNat, by omega⟩
    obtain ⟨ib, hb⟩ : ∃ i : Nat, fb = i := ⟨fb.toNat, by omega⟩
    obtain ⟨ic, hc⟩ : ∃ i : Nat, fc = i := ⟨fc.toNat, by omega⟩
    subst ha; subst hb; subst hc
    have hrow : (fR Fs)[k]? = some [I ia, I ib, I ic] := by rw [List.getElem?_map, hz]; rfl
    have hni := nrm_in hM (ia := ia) (ib := ib) (ic := ic) (by omega) (by omega) (by omega)
    generalize hL : slL V (Fs.take k) off most = L at hzn hzl ⊢
    refine WA ?_
    refine WR ?_
    refine al_ef rfl (ef_call0 false (fun _ => nrm_v v w V (fR Fs) ia ib ic hM.far (by omega) (by omega) (by omega)) rfl .fn rfl (by decide) (by kernel_rfl) rfl (fun _ => C0 rfl) (by simp)) ?_
    rintro _ _ ⟨_, _, _, ⟨rfl, rfl⟩, hF, hH⟩
    (try simp only [nsl, Nat.reduceAdd, Nat.reduceLT, Nat.reduceSub] at hF); (try simp only [nsl, Nat.reduceAdd, Nat.reduceLT, Nat.reduceSub] at hH); subst hF; subst hH
    refine WE ?_
    have hsO : slOf V off most ⟨ia, ib, ic⟩ = ⟨minL (fzs V ⟨ia, ib, ic⟩), maxL (fzs V ⟨ia, ib, ic⟩), if (nrm V ⟨ia, ib, ic⟩).z ≠ 0 then min most (off * sdI (nrm V ⟨ia, ib, ic⟩) / absI (nrm V ⟨ia, ib, ic⟩).z) else most⟩ := rfl
    generalize nrm V ⟨ia, ib, ic⟩ = n at hzn hni hsO ⊢
    obtain ⟨nx, ny, nz⟩ := n
    simp only [Vec3.in] at hni
    have hsd : sdI ⟨nx, ny, nz⟩ = max (absI nx) (absI ny) := rfl
    refine ZZ ?_
    refine aw_regionT [(0, none), (1, none), (3, none), (4, none), (2, some [3, 4]), (5, some []), (6, none), (7, none)] hMixed (by kernel_rfl) ?_
    refine WP ?_
    refine at_ef rfl rfl (ef_call0 false (fun _ => abs_v nx (by omega)) rfl .fn rfl (by decide) (by kernel_rfl) rfl (fun _g => .cons (.c rfl) .nil) (by simp)) ?_
    rintro _ _ ⟨_, _, _, ⟨rfl, rfl⟩, hF, hH⟩
    (try simp only [nsl, Nat.reduceAdd, Nat.reduceLT, Nat.reduceSub] at hF); (try simp only [nsl, Nat.reduceAdd, Nat.reduceLT, Nat.reduceSub] at hH); subst hF; subst hH
    refine ⟨ag_cons (by first | exact ag_rd rfl rfl rfl (ZX (KF (t := 34) (f := 1) rfl rfl)) rfl) (ag_cons (by first | exact ag_rd rfl rfl rfl (ZL (KK (t := 3) rfl)) rfl) (ag_none)), ?_⟩
    refine at_ef rfl rfl (ef_call0 false (fun _ => abs_v ny (by omega)) rfl .fn rfl (by decide) (by kernel_rfl) rfl (fun _g => .cons (.c rfl) .nil) (by simp)) ?_
    rintro _ _ ⟨_, _, _, ⟨rfl, rfl⟩, hF, hH⟩
    (try simp only [nsl, Nat.reduceAdd, Nat.reduceLT, Nat.reduceSub] at hF); (try simp only [nsl, Nat.reduceAdd, Nat.reduceLT, Nat.reduceSub] at hH); subst hF; subst hH
    refine ⟨ag_none, ?_⟩
    refine WQ ?_
    have a1 : 0 ≤ absI nx ∧ absI nx ≤ 80000000000 := by unfold absI; omega
    have a2 : 0 ≤ absI ny ∧ absI ny ≤ 80000000000 := by unfold absI; omega
    have a3 : 0 ≤ absI nz ∧ absI nz ≤ 80000000000 ∧ (nz ≠ 0 → 1 ≤ absI nz) := by unfold absI; omega
    simp only at hsO
    rw [hsd] at hzn hsO
    have hsb : 0 ≤ max (absI nx) (absI ny) ∧ max (absI nx) (absI ny) ≤ 80000000000 := by omega
    generalize max (absI nx) (absI ny) = sd at hzn hsO hsb ⊢
    have hp0 : 0 ≤ off * sd := Int.mul_nonneg ho.1 hsb.1
    have hp1 : off * sd ≤ 10000 * 80000000000 := Int.mul_le_mul ho.2 hsb.2 hsb.1 (by omega)
    refine WA ?_
    refine aw_if rfl (fun h0 => ?_) (fun h0 => ?_)
    · rw [if_neg (fun h => h h0), List.append_nil] at hzn
      refine ZZ ?_
      refine WA ?_
      refine wk_of [some 0, some 1] (fun _ => [(1, .c (I off)), (2, .c (I most)), (3, .p 0 0 0), (7, .o 1 0 L.length c), (15, .c (.r w (fR Fs))), (16, .c (I (fR Fs).length)), (17, .c (I (k + 1 : Nat)))]) (fun _ => [mBox v w V (fR Fs), .arr 215 3 c (L.map Slnt.row)]) (by decide) (ZNL hE) ZCF ZCH (fun _ => ?_)
      exact ⟨m - 1, by omega, k + 1, c, by omega, by rw [hzn], by rw [hzn]⟩
    rw [if_pos h0] at hzn
    refine ZZ ?_
    refine WR ?_
    refine al_ef rfl (ef_call0 false (fun _ => heights_v v w V (fR Fs) ia ib ic (by omega) (by omega) (by omega)) rfl .fn rfl (by decide) (by kernel_rfl) rfl (fun _ => C0 rfl) (by simp)) ?_
    rintro _ _ ⟨_, _, _, ⟨rfl, rfl⟩, hF, hH⟩
    (try simp only [nsl, Nat.reduceAdd, Nat.reduceLT, Nat.reduceSub] at hF); (try simp only [nsl, Nat.reduceAdd, Nat.reduceLT, Nat.reduceSub] at hH); subst hF; subst hH
    refine WE ?_
    refine aw_boxarr 4 3 [I (vx V ia).z, I (vx V ib).z, I (vx V ic).z] rfl rfl (by decide) (by rw [hE]; exact Nat.zero_le _) rfl rfl fun e' => ?_
    simp only [List.set_cons_succ, List.set_cons_zero]
    refine aw_cut (fun F H => F = [(1, .c (I off)), (2, .c (I most)), (3, .p 0 0 0), (7, .o 1 0 L.length c), (10, .p 2 0 0), (11, .c (I sd)), (13, .p 3 0 0), (15, .c (.r w (fR Fs))), (16, .c (I (fR Fs).length)), (17, .c (I k))] ∧ H = [mBox v w V (fR Fs), .arr 215 3 c (L.map Slnt.row), vBox nx ny nz, vBox (minL (fzs V ⟨ia, ib, ic⟩)) (maxL (fzs V ⟨ia, ib, ic⟩)) most]) ?_ ?_ wk_aw
    · refine ZZ ?_
      refine aw_regionM [[(0, none), (2, none), (4, none), (1, some [2, 4]), (3, some [4]), (5, none), (6, some [0, 2, 4, 5]), (7, some [])], [(0, none), (2, none), (4, none), (1, some [2, 4]), (6, some [0, 2, 4]), (3, some [4]), (5, none), (7, some [])], [(0, none), (2, none), (4, none), (6, some [0, 2, 4]), (1, some [2, 4]), (3, some [4]), (5, none), (7, some [])]] hMixed (by kernel_rfl) ?_
      focus
        refine ZM (i := 0) (ps' := [[(2, none), (4, none), (1, some [2, 4]), (3, some [4]), (5, none), (6, some [0, 2, 4, 5]), (7, some [])], [(2, none), (4, none), (1, some [2, 4]), (6, some [0, 2, 4]), (3, some [4]), (5, none), (7, some [])], [(2, none), (4, none), (6, some [0, 2, 4]), (1, some [2, 4]), (3, some [4]), (5, none), (7, some [])]]) (by rfl) (by rfl) rfl (rd_slicearr (e := 3) (n := 3) rfl (by kernel_rfl) rfl rfl) ?_
        refine ZM (i := 2) (ps' := [[(4, none), (1, some [2, 4]), (3, some [4]), (5, none), (6, some [0, 2, 4, 5]), (7, some [])], [(4, none), (1, some [2, 4]), (6, some [0, 2, 4]), (3, some [4]), (5, none), (7, some [])], [(4, none), (6, some [0, 2, 4]), (1, some [2, 4]), (3, some [4]), (5, none), (7, some [])]]) (by rfl) (by rfl) rfl (rd_slicearr (e := 3) (n := 3) rfl (by kernel_rfl) rfl rfl) ?_
        refine ZM (i := 4) (ps' := [[(1, some [2, 4]), (3, some [4]), (5, none), (6, some [0, 2, 4, 5]), (7, some [])], [(1, some [2, 4]), (6, some [0, 2, 4]), (3, some [4]), (5, none), (7, some [])], [(6, some [0, 2, 4]), (1, some [2, 4]), (3, some [4]), (5, none), (7, some [])]]) (by rfl) (by rfl) rfl (rd_move rfl rfl) ?_
        refine am_two (ps1 := [[(3, some [4]), (5, none), (6, some [0, 2, 4, 5]), (7, some [])], [(6, some [0, 2, 4]), (3, some [4]), (5, none), (7, some [])]]) (ps2 := [[(1, some [2, 4]), (3, some [4]), (5, none), (7, some [])]]) (by rfl) (by rfl) (by rfl) ?_ ?_
        rotate_left
        refine ZG (i := 6) (ps' := [[(1, some [2, 4]), (3, some [4]), (5, none), (7, some [])]]) (by rfl) (by rfl) rfl (Zall (KZ (t := 215) rfl)) (ag_cons (by first | exact ag_rd rfl rfl rfl (rd_slicearr (e := 3) (n := 3) rfl (by kernel_rfl) rfl rfl) rfl) (ag_cons (by first | exact ag_rd rfl rfl rfl (rd_slicearr (e := 3) (n := 3) rfl (by kernel_rfl) rfl rfl) rfl) (ag_cons (by first | exact ag_rd rfl rfl rfl (rd_move rfl rfl) rfl) (ag_none)))) ?_
        refine am_ef (i := 1) (ps' := [[(3, some [4]), (5, none), (7, some [])]]) (by rfl) (by rfl) rfl rfl (ef_call0 true (fun g => minI_v [(vx V ia).z, (vx V ib).z, (vx V ic).z] (g (.o 4 0 3 3)) (by simp) (by simp)) rfl .fn rfl (by decide) (by kernel_rfl) rfl (fun _ => .cons (.frz rfl rfl rfl rfl rfl) .nil) (fun _ _ _ _ ⟨hu, hH⟩ => by rw [hu, hH]; exact ⟨.c (.inl trivial), by simp⟩)) ?_
        rintro _ _ ⟨_, _, _, ⟨rfl, rfl⟩, hF, hH⟩
        (try simp only [nsl, Nat.reduceAdd, Nat.reduceLT, Nat.reduceSub] at hF); (try simp only [nsl, Nat.reduceAdd, Nat.reduceLT, Nat.reduceSub] at hH); subst hF; subst hH
        refine ⟨ag_cons (by first | exact ag_rd rfl rfl rfl (rd_slicearr (e := 3) (n := 3) rfl (by kernel_rfl) rfl rfl) rfl) (ag_cons (by first | exact ag_rd rfl rfl rfl (rd_move rfl rfl) rfl) (ag_none)), ?_⟩
        refine am_ef (i := 3) (ps' := [[(5, none), (7, some [])]]) (by rfl) (by rfl) rfl rfl (ef_call0 true (fun g => maxI_v [(vx V ia).z, (vx V ib).z, (vx V ic).z] (g (.o 4 0 3 3)) (by simp) (by simp)) rfl .fn rfl (by decide) (by kernel_rfl) rfl (fun _ => .cons (.frz rfl rfl rfl rfl rfl) .nil) (fun _ _ _ _ ⟨hu, hH⟩ => by rw [hu, hH]; exact ⟨.c (.inl trivial), by simp⟩)) ?_
        rintro _ _ ⟨_, _, _, ⟨rfl, rfl⟩, hF, hH⟩
        (try simp only [nsl, Nat.reduceAdd, Nat.reduceLT, Nat.reduceSub] at hF); (try simp only [nsl, Nat.reduceAdd, Nat.reduceLT, Nat.reduceSub] at hH); subst hF; subst hH
        refine ⟨ag_cons (by first | exact ag_rd rfl rfl rfl (rd_move rfl rfl) rfl) (ag_none), ?_⟩
        refine ZM (i := 5) (ps' := [[(7, some [])]]) (by rfl) (by rfl) rfl (Zbld rfl (KZ (t := 215) rfl) rfl (KB (t := 215) rfl) (Zbc (z := Zbc (z := Zbc (z := .nil))))) ?_
        first | refine ZG (i := 7) (ps' := [[]]) (by rfl) (by rfl) rfl (Zsto (KS (t := 215) rfl)) (ag_none) ?_ | refine ZG (i := 7) (ps' := [[]]) (by rfl) (by rfl) rfl (Zstr (KS (t := 215) rfl)) (ag_none) ?_
        refine am_nil ?_
        rotate_right
        refine am_ef (i := 1) (ps' := [[(3, some [4]), (5, none), (6, some [0, 2, 4, 5]), (7, some [])], [(6, some [0, 2, 4]), (3, some [4]), (5, none), (7, some [])]]) (by rfl) (by rfl) rfl rfl (ef_call0 true (fun g => minI_v [(vx V ia).z, (vx V ib).z, (vx V ic).z] (g (.o 4 0 3 3)) (by simp) (by simp)) rfl .fn rfl (by decide) (by kernel_rfl) rfl (fun _ => .cons (.frz rfl rfl rfl rfl rfl) .nil) (fun _ _ _ _ ⟨hu, hH⟩ => by rw [hu, hH]; exact ⟨.c (.inl trivial), by simp⟩)) ?_
        rintro _ _ ⟨_, _, _, ⟨rfl, rfl⟩, hF, hH⟩
        (try simp only [nsl, Nat.reduceAdd, Nat.reduceLT, Nat.reduceSub] at hF); (try simp only [nsl, Nat.reduceAdd, Nat.reduceLT, Nat.reduceSub] at hH); subst hF; subst hH
        refine ⟨ag_cons (by first | exact ag_rd rfl rfl rfl (rd_slicearr (e := 3) (n := 3) rfl (by kernel_rfl) rfl rfl) rfl) (ag_cons (by first | exact ag_rd rfl rfl rfl (rd_move rfl rfl) rfl) (ag_none)), ?_⟩
        refine am_two (ps1 := [[(5, none), (6, some [0, 2, 4, 5]), (7, some [])]]) (ps2 := [[(3, some [4]), (5, none), (7, some [])]]) (by rfl) (by rfl) (by rfl) ?_ ?_
        rotate_left
        refine ZG (i := 6) (ps' := [[(3, some [4]), (5, none), (7, some [])]]) (by rfl) (by rfl) rfl (Zall (KZ (t := 215) rfl)) (ag_cons (by first | exact ag_rd rfl rfl rfl (rd_slicearr (e := 3) (n := 3) rfl (by kernel_rfl) rfl rfl) rfl) (ag_cons (by first | exact ag_rd rfl rfl rfl (rd_slicearr (e := 3) (n := 3) rfl (by kernel_rfl) rfl rfl) rfl) (ag_cons (by first | exact ag_rd rfl rfl rfl (rd_move rfl rfl) rfl) (ag_none)))) ?_
        refine am_ef (i := 3) (ps' := [[(5, none), (7, some [])]]) (by rfl) (by rfl) rfl rfl (ef_call0 true (fun g => maxI_v [(vx V ia).z, (vx V ib).z, (vx V ic).z] (g (.o 4 0 3 3)) (by simp) (by simp)) rfl .fn rfl (by decide) (by kernel_rfl) rfl (fun _ => .cons (.frz rfl rfl rfl rfl rfl) .nil) (fun _ _ _ _ ⟨hu, hH⟩ => by rw [hu, hH]; exact ⟨.c (.inl trivial), by simp⟩)) ?_
        rintro _ _ ⟨_, _, _, ⟨rfl, rfl⟩, hF, hH⟩
        (try simp only [nsl, Nat.reduceAdd, Nat.reduceLT, Nat.reduceSub] at hF); (try simp only [nsl, Nat.reduceAdd, Nat.reduceLT, Nat.reduceSub] at hH); subst hF; subst hH
        refine ⟨ag_cons (by first | exact ag_rd rfl rfl rfl (rd_move rfl rfl) rfl) (ag_none), ?_⟩
        refine ZM (i := 5) (ps' := [[(7, some [])]]) (by rfl) (by rfl) rfl (Zbld rfl (KZ (t := 215) rfl) rfl (KB (t := 215) rfl) (Zbc (z := Zbc (z := Zbc (z := .nil))))) ?_
        first | refine ZG (i := 7) (ps' := [[]]) (by rfl) (by rfl) rfl (Zsto (KS (t := 215) rfl)) (ag_none) ?_ | refine ZG (i := 7) (ps' := [[]]) (by rfl) (by rfl) rfl (Zstr (KS (t := 215) rfl)) (ag_none) ?_
        refine am_nil ?_
        rotate_right
        refine am_ef (i := 3) (ps' := [[(5, none), (6, some [0, 2, 4, 5]), (7, some [])]]) (by rfl) (by rfl) rfl rfl (ef_call0 true (fun g => maxI_v [(vx V ia).z, (vx V ib).z, (vx V ic).z] (g (.o 4 0 3 3)) (by simp) (by simp)) rfl .fn rfl (by decide) (by kernel_rfl) rfl (fun _ => .cons (.frz rfl rfl rfl rfl rfl) .nil) (fun _ _ _ _ ⟨hu, hH⟩ => by rw [hu, hH]; exact ⟨.c (.inl trivial), by simp⟩)) ?_
        rintro _ _ ⟨_, _, _, ⟨rfl, rfl⟩, hF, hH⟩
        (try simp only [nsl, Nat.reduceAdd, Nat.reduceLT, Nat.reduceSub] at hF); (try simp only [nsl, Nat.reduceAdd, Nat.reduceLT, Nat.reduceSub] at hH); subst hF; subst hH
        refine ⟨ag_cons (by first | exact ag_rd rfl rfl rfl (rd_move rfl rfl) rfl) (ag_none), ?_⟩
        refine ZM (i := 5) (ps' := [[(6, some [0, 2, 4, 5]), (7, some [])]]) (by rfl) (by rfl) rfl (Zbld rfl (KZ (t := 215) rfl) rfl (KB (t := 215) rfl) (Zbc (z := Zbc (z := Zbc (z := .nil))))) ?_
        refine ZG (i := 6) (ps' := [[(7, some [])]]) (by rfl) (by rfl) rfl (Zall (KZ (t := 215) rfl)) (ag_cons (by first | exact ag_rd rfl rfl rfl (rd_slicearr (e := 3) (n := 3) rfl (by kernel_rfl) rfl rfl) rfl) (ag_cons (by first | exact ag_rd rfl rfl rfl (rd_slicearr (e := 3) (n := 3) rfl (by kernel_rfl) rfl rfl) rfl) (ag_cons (by first | exact ag_rd rfl rfl rfl (rd_move rfl rfl) rfl) (ag_cons (by first | exact ag_rd rfl rfl rfl (Zbld rfl (KZ (t := 215) rfl) rfl (KB (t := 215) rfl) (Zbc (z := Zbc (z := Zbc (z := .nil))))) rfl) (ag_none))))) ?_
        first | refine ZG (i := 7) (ps' := [[]]) (by rfl) (by rfl) rfl (Zsto (KS (t := 215) rfl)) (ag_none) ?_ | refine ZG (i := 7) (ps' := [[]]) (by rfl) (by rfl) rfl (Zstr (KS (t := 215) rfl)) (ag_none) ?_
        refine am_nil ?_
      all_goals (refine ZZ ?_)
      all_goals (refine wk_of [some 0, some 1, some 3, some 5] (fun _ => [(1, .c (I off)), (2, .c (I most)), (3, .p 0 0 0), (7, .o 1 0 L.length c), (10, .p 2 0 0), (11, .c (I sd)), (13, .p 3 0 0), (15, .c (.r w (fR Fs))), (16, .c (I (fR Fs).length)), (17, .c (I k))]) (fun _ => [mBox v w V (fR Fs), .arr 215 3 c (L.map Slnt.row), vBox nx ny nz, vBox (minL (fzs V ⟨ia, ib, ic⟩)) (maxL (fzs V ⟨ia, ib, ic⟩)) most]) (by decide) (ZNL hE) ZCF ZCH (fun _ => ⟨rfl, rfl⟩))
    rintro F H ⟨rfl, rfl⟩
    refine WA ?_
    refine aw_cut (fun F H => ∃ mo, mo = (if nz ≠ 0 then min most (off * sd / absI nz) else most) ∧ F = [(1, .c (I off)), (2, .c (I most)), (3, .p 0 0 0), (7, .o 1 0 L.length c), (13, .p 2 0 0), (15, .c (.r w (fR Fs))), (16, .c (I (fR Fs).length)), (17, .c (I k))] ∧ H = [mBox v w V (fR Fs), .arr 215 3 c (L.map Slnt.row), vBox (minL (fzs V ⟨ia, ib, ic⟩)) (maxL (fzs V ⟨ia, ib, ic⟩)) mo]) ?_ ?_ wk_aw
    · refine aw_if rfl (fun hn => ?_) (fun hn => ?_)
      · have a4 := a3.2.2 hn
        refine WR ?_
        refine al_ef rfl (ef_call0 false (fun _ => abs_v nz (by omega)) rfl .fn rfl (by decide) (by kernel_rfl) rfl (fun _g => .cons (.c rfl) .nil) (by simp)) ?_
        rintro _ _ ⟨_, _, _, ⟨rfl, rfl⟩, hF, hH⟩
        (try simp only [nsl, Nat.reduceAdd, Nat.reduceLT, Nat.reduceSub] at hF); (try simp only [nsl, Nat.reduceAdd, Nat.reduceLT, Nat.reduceSub] at hH); subst hF; subst hH
        refine WE ?_
        refine wk_of [some 0, some 1, some 3] (fun _ => [(1, .c (I off)), (2, .c (I most)), (3, .p 0 0 0), (7, .o 1 0 L.length c), (13, .p 2 0 0), (15, .c (.r w (fR Fs))), (16, .c (I (fR Fs).length)), (17, .c (I k))]) (fun _ => [mBox v w V (fR Fs), .arr 215 3 c (L.map Slnt.row), vBox (minL (fzs V ⟨ia, ib, ic⟩)) (maxL (fzs V ⟨ia, ib, ic⟩)) (min most (off * sd / absI nz))]) (by decide) (ZNL hE) ZCF ZCH (fun _ => ⟨_, by rw [if_pos hn], rfl, rfl⟩)
      · refine ZZ ?_
        refine wk_of [some 0, some 1, some 3] (fun _ => [(1, .c (I off)), (2, .c (I most)), (3, .p 0 0 0), (7, .o 1 0 L.length c), (13, .p 2 0 0), (15, .c (.r w (fR Fs))), (16, .c (I (fR Fs).length)), (17, .c (I k))]) (fun _ => [mBox v w V (fR Fs), .arr 215 3 c (L.map Slnt.row), vBox (minL (fzs V ⟨ia, ib, ic⟩)) (maxL (fzs V ⟨ia, ib, ic⟩)) most]) (by decide) (ZNL hE) ZCF ZCH (fun _ => ⟨_, by rw [if_neg hn], rfl, rfl⟩)
    rintro F H ⟨mo, hmo, rfl, rfl⟩
    rw [← hmo] at hsO
    refine WR ?_
    refine al_ef rfl (Zapp (KA (t := 149) rfl)) ?_
    rintro _ _ ⟨_, cc, hcc, rfl, rfl⟩
    refine WE ?_
    refine WA ?_
    refine wk_of [some 0, some 1] (fun _ => [(1, .c (I off)), (2, .c (I most)), (3, .p 0 0 0), (7, .o 1 0 (L ++ [(⟨minL (fzs V ⟨ia, ib, ic⟩), maxL (fzs V ⟨ia, ib, ic⟩), mo⟩ : Slnt)]).length cc), (15, .c (.r w (fR Fs))), (16, .c (I (fR Fs).length)), (17, .c (I (k + 1 : Nat)))]) (fun _ => _) (by decide) (ZNL hE) ZCF ZCH (fun _ => ?_)
    exact ⟨m - 1, by omega, k + 1, cc, by omega, by rw [hzn, hsO], by rw [hzn, hsO]; simp⟩
  obtain rfl : k = Fs.length := by omega
  rw [List.take_of_length_le (Nat.le_refl _)]
  refine WA ?_
  exact aret_f1 [] _ rfl rfl rfl rfl (by rw [List.drop_zero, List.take_of_length_le (by simp)]) (by simp) rfl (by decide) (ZNK rfl) (fun _ => .nil) (fun q => ⟨q, rfl, rfl⟩)
end Go.Proofs.YthanangkmjjbaaaGreatDoor
