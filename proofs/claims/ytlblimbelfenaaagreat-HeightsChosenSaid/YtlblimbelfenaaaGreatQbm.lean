/- Whether a layer is thin enough, by value; adaptive tops of the reference. -/
import Derived.Test.YtlblimbelfenaaaGreatQbc
import Derived.Test.YtlblimbelfenaaaGreatQbk
import Derived.Test.YtlblimbelfenaaaGreatQbl
set_option linter.unusedSimpArgs false
set_option linter.unusedVariables false
/- Whether a layer is thin enough: the reference's, by value. -/
-- NEWM
namespace Go.Proofs.YtlblimbelfenaaaGreat
open Go Go.RowKit
set_option maxRecDepth 100000
/-- The blocks that are lent to the closure. -/
abbrev thH (v w : Value) (V : List Vec3) (Fs : List Fac3) (from' to off : Int) : List OB := [mBox v w V (fR Fs), .box [.c (I to)], .box [.c (I from')], .box [.c (I off)]]
set_option maxHeartbeats 4000000 in
theorem thin1_v (v w : Value) (V : List Vec3) (Fs : List Fac3) (f : Fac3) (z to off : Int) (hM : MOk V Fs) (hf : f ∈ Fs) (hz : -1000000 ≤ z ∧ z ≤ 1000000) (ht : z ≤ to ∧ to ≤ z + 10000) (ho : 0 ≤ off ∧ off ≤ 10000) :
    ACalls Tryz.prog 148 [.a (f.row.map .c), .p 0 0 0, .p 1 0 0, .p 2 0 0, .p 3 0 0] (thH v w V Fs z to off) fun u H => u = .c (B (!(thinF V off z to f))) ∧ H = thH v w V Fs z to off := by
  obtain ⟨h1, h2, h3⟩ := hM.ix hf
  obtain ⟨fa, fb, fc⟩ := f
  simp only at h1 h2 h3
  obtain ⟨ia, ha⟩ : ∃ i : Nat, fa = i := ⟨fa.toNat, by omega⟩
  obtain ⟨ib, hb⟩ : ∃ i : Nat, fb = i := ⟨fb.toNat, by omega⟩
  obtain ⟨ic, hc⟩ : ∃ i : Nat, fc = i := ⟨fc.toNat, by omega⟩
  subst ha; subst hb; subst hc
  have ra := vrow (V := V) (i := ia) (by omega)
  have rb := vrow (V := V) (i := ib) (by omega)
  have rc := vrow (V := V) (i := ic) (by omega)
  have hni := nrm_in hM (ia := ia) (ib := ib) (ic := ic) (by omega) (by omega) (by omega)
  refine acalls_of (N := 69) Tryz.func148 rfl rfl (by simp) fun E hE => ?_
  refine WA ?_
  refine ZZ ?_
  refine aw_regionT [(0, none), (1, none), (2, none), (3, none), (4, none), (5, none), (6, none), (7, none), (8, none), (9, none), (10, none), (11, none), (12, none), (13, none), (14, none), (15, none), (16, none), (17, none), (18, none), (19, none), (20, none), (21, some []), (22, none)] hMixed (by kernel_rfl) ?_
  refine WQ ?_
  refine WR ?_
  refine al_ef rfl (ef_call0 false (fun _ => rnrm_v v w V (fR Fs) ia ib ic hM.far (by omega) (by omega) (by omega)) rfl .fn rfl (by decide) (by kernel_rfl) rfl (fun _ => C0 rfl) (by simp)) ?_
  rintro _ _ ⟨_, _, _, ⟨rfl, rfl⟩, hF, hH⟩
  (try simp only [nsl, Nat.reduceAdd, Nat.reduceLT, Nat.reduceSub] at hF); (try simp only [nsl, Nat.reduceAdd, Nat.reduceLT, Nat.reduceSub] at hH); subst hF; subst hH
  refine WE ?_
  have htf : thinF V off z to ⟨ia, ib, ic⟩ = !(decide (minL (fzs V ⟨ia, ib, ic⟩) < to) && decide (z < maxL (fzs V ⟨ia, ib, ic⟩)) && decide (0 < sdI (nrm V ⟨ia, ib, ic⟩)) && decide (off * sdI (nrm V ⟨ia, ib, ic⟩) < (to - z) * absI (nrm V ⟨ia, ib, ic⟩).z)) := rfl
  generalize nrm V ⟨ia, ib, ic⟩ = n at htf hni ⊢
  obtain ⟨nx, ny, nz⟩ := n
  simp only [Vec3.in] at hni
  have hsd : sdI ⟨nx, ny, nz⟩ = max (absI nx) (absI ny) := rfl
  simp only [hsd] at htf
  refine ZZ ?_
  refine aw_regionT [(0, none), (1, none), (3, none), (4, none), (2, some [3, 4]), (5, some []), (6, none), (7, none)] hMixed (by kernel_rfl) ?_
  refine WP ?_
  refine at_ef rfl rfl (ef_call0 false (fun _ => rabs_v nx (by omega)) rfl .fn rfl (by decide) (by kernel_rfl) rfl (fun _g => .cons (.c rfl) .nil) (by simp)) ?_
  rintro _ _ ⟨_, _, _, ⟨rfl, rfl⟩, hF, hH⟩
  (try simp only [nsl, Nat.reduceAdd, Nat.reduceLT, Nat.reduceSub] at hF); (try simp only [nsl, Nat.reduceAdd, Nat.reduceLT, Nat.reduceSub] at hH); subst hF; subst hH
  refine ⟨ag_cons (by first | exact ag_rd rfl rfl rfl (ZX (KF (t := 93) (f := 1) rfl rfl)) rfl) (ag_cons (by first | exact ag_rd rfl rfl rfl (ZL (KK (t := 3) rfl)) rfl) (ag_none)), ?_⟩
  refine at_ef rfl rfl (ef_call0 false (fun _ => rabs_v ny (by omega)) rfl .fn rfl (by decide) (by kernel_rfl) rfl (fun _g => .cons (.c rfl) .nil) (by simp)) ?_
  rintro _ _ ⟨_, _, _, ⟨rfl, rfl⟩, hF, hH⟩
  (try simp only [nsl, Nat.reduceAdd, Nat.reduceLT, Nat.reduceSub] at hF); (try simp only [nsl, Nat.reduceAdd, Nat.reduceLT, Nat.reduceSub] at hH); subst hF; subst hH
  refine ⟨ag_none, ?_⟩
  refine WQ ?_
  have a1 : 0 ≤ absI nx ∧ absI nx ≤ 80000000000 := by unfold absI; omega
  have a2 : 0 ≤ absI ny ∧ absI ny ≤ 80000000000 := by unfold absI; omega
  have a3 : 0 ≤ absI nz ∧ absI nz ≤ 80000000000 := by unfold absI; omega
  have hsb : 0 ≤ max (absI nx) (absI ny) ∧ max (absI nx) (absI ny) ≤ 80000000000 := by omega
  generalize max (absI nx) (absI ny) = sd at htf hsb ⊢
  have hp0 : 0 ≤ off * sd ∧ off * sd ≤ 10000 * 80000000000 := ⟨Int.mul_nonneg ho.1 hsb.1, Int.mul_le_mul ho.2 hsb.2 hsb.1 (by omega)⟩
  have hp1 : 0 ≤ (to - z) * absI nz ∧ (to - z) * absI nz ≤ 10000 * 80000000000 := ⟨Int.mul_nonneg (by omega) a3.1, Int.mul_le_mul (by omega) a3.2 a3.1 (by omega)⟩
  have hfz : fzs V ⟨ia, ib, ic⟩ = [(vx V ia).z, (vx V ib).z, (vx V ic).z] := rfl
  rw [hfz] at htf
  cases c1 : decide (minL [(vx V ia).z, (vx V ib).z, (vx V ic).z] < to) with
  | false =>
    refine ZZ ?_
    refine aw_regionT [(0, none), (2, none), (1, some [2]), (3, none), (4, none), (5, none), (7, none), (6, some [7]), (8, none), (9, none), (10, none), (11, none), (12, none), (13, none), (14, none), (15, none), (16, none), (17, none), (18, none), (19, none), (22, none), (23, none), (24, none), (20, some [15, 16, 17, 22, 23, 24]), (21, none), (25, none), (26, none), (27, none)] hMixed (by kernel_rfl) ?_
    refine WP ?_
    refine at_ef rfl rfl (ef_call0 true (fun g => minI_v [(vx V ia).z, (vx V ib).z, (vx V ic).z] (g (.o 5 0 3 3)) (by simp) (by simp)) rfl .fn rfl (by decide) (by kernel_rfl) rfl (fun _ => .cons (.frz rfl rfl rfl rfl rfl) .nil) (fun _ _ _ _ ⟨hu, hH⟩ => by rw [hu, hH]; exact ⟨.c (.inl trivial), by simp⟩)) ?_
    rintro _ _ ⟨_, _, _, ⟨rfl, rfl⟩, hF, hH⟩
    (try simp only [nsl, Nat.reduceAdd, Nat.reduceLT, Nat.reduceSub] at hF); (try simp only [nsl, Nat.reduceAdd, Nat.reduceLT, Nat.reduceSub] at hH); subst hF; subst hH
    refine ⟨ag_cons (ag_rd rfl rfl rfl (ZL (KK (t := 3) rfl)) rfl) ag_none, ?_⟩
    refine WP ?_
    simp only [c1]
    refine WP ?_
    refine at_skE rfl rfl rfl (by decide) ⟨ag_cons (ag_skG rfl rfl rfl rfl) ag_none, ?_⟩
    refine WP ?_
    refine at_skE rfl rfl rfl (by decide) ⟨ag_cons (ag_skG rfl rfl rfl rfl) (ag_cons (ag_skG rfl rfl rfl rfl) (ag_cons (ag_skG rfl rfl rfl rfl) (ag_cons (ag_skG rfl rfl rfl rfl) (ag_cons (ag_skG rfl rfl rfl rfl) (ag_cons (ag_skG rfl rfl rfl rfl) ag_none))))), ?_⟩
    refine WQ ?_
    exact aret_1 [some 0, some 1, some 2, some 3] _ rfl rfl rfl (by decide) (ZNK rfl) ZCH ⟨by rw [htf, c1]; rfl, rfl⟩
  | true =>
    cases c2 : decide (z < maxL [(vx V ia).z, (vx V ib).z, (vx V ic).z]) with
    | false =>
      refine ZZ ?_
      refine aw_regionT [(0, none), (2, none), (1, some [2]), (3, none), (4, none), (5, none), (7, none), (6, some [7]), (8, none), (9, none), (10, none), (11, none), (12, none), (13, none), (14, none), (15, none), (16, none), (17, none), (18, none), (19, none), (22, none), (23, none), (24, none), (20, some [15, 16, 17, 22, 23, 24]), (21, none), (25, none), (26, none), (27, none)] hMixed (by kernel_rfl) ?_
      refine WP ?_
      refine at_ef rfl rfl (ef_call0 true (fun g => minI_v [(vx V ia).z, (vx V ib).z, (vx V ic).z] (g (.o 5 0 3 3)) (by simp) (by simp)) rfl .fn rfl (by decide) (by kernel_rfl) rfl (fun _ => .cons (.frz rfl rfl rfl rfl rfl) .nil) (fun _ _ _ _ ⟨hu, hH⟩ => by rw [hu, hH]; exact ⟨.c (.inl trivial), by simp⟩)) ?_
      rintro _ _ ⟨_, _, _, ⟨rfl, rfl⟩, hF, hH⟩
      (try simp only [nsl, Nat.reduceAdd, Nat.reduceLT, Nat.reduceSub] at hF); (try simp only [nsl, Nat.reduceAdd, Nat.reduceLT, Nat.reduceSub] at hH); subst hF; subst hH
      refine ⟨ag_cons (ag_rd rfl rfl rfl (ZL (KK (t := 3) rfl)) rfl) ag_none, ?_⟩
      refine WP ?_
      simp only [c1]
      refine WP ?_
      refine at_efG rfl rfl (ef_call0 true (fun g => maxI_v [(vx V ia).z, (vx V ib).z, (vx V ic).z] (g (.o 5 0 3 3)) (by simp) (by simp)) rfl .fn rfl (by decide) (by kernel_rfl) rfl (fun _ => .cons (.frz rfl rfl rfl rfl rfl) .nil) (fun _ _ _ _ ⟨hu, hH⟩ => by rw [hu, hH]; exact ⟨.c (.inl trivial), by simp⟩)) ?_
      rintro _ _ ⟨_, _, _, ⟨rfl, rfl⟩, hF, hH⟩
      (try simp only [nsl, Nat.reduceAdd, Nat.reduceLT, Nat.reduceSub] at hF); (try simp only [nsl, Nat.reduceAdd, Nat.reduceLT, Nat.reduceSub] at hH); subst hF; subst hH
      refine ⟨ag_cons (ag_rdG rfl rfl rfl (ZL (KK (t := 3) rfl)) rfl) ag_none, ?_⟩
      refine WP ?_
      simp only [c2]
      refine WP ?_
      refine at_skE rfl rfl rfl (by decide) ⟨ag_cons (ag_skG rfl rfl rfl rfl) (ag_cons (ag_skG rfl rfl rfl rfl) (ag_cons (ag_skG rfl rfl rfl rfl) (ag_cons (ag_skG rfl rfl rfl rfl) (ag_cons (ag_skG rfl rfl rfl rfl) (ag_cons (ag_skG rfl rfl rfl rfl) ag_none))))), ?_⟩
      refine WQ ?_
      exact aret_1 [some 0, some 1, some 2, some 3] _ rfl rfl rfl (by decide) (ZNK rfl) ZCH ⟨by rw [htf, c1, c2]; rfl, rfl⟩
    | true =>
      cases c3 : decide (0 < sd) with
      | false =>
        refine ZZ ?_
        refine aw_regionT [(0, none), (2, none), (1, some [2]), (3, none), (4, none), (5, none), (7, none), (6, some [7]), (8, none), (9, none), (10, none), (11, none), (12, none), (13, none), (14, none), (15, none), (16, none), (17, none), (18, none), (19, none), (22, none), (23, none), (24, none), (20, some [15, 16, 17, 22, 23, 24]), (21, none), (25, none), (26, none), (27, none)] hMixed (by kernel_rfl) ?_
        refine WP ?_
        refine at_ef rfl rfl (ef_call0 true (fun g => minI_v [(vx V ia).z, (vx V ib).z, (vx V ic).z] (g (.o 5 0 3 3)) (by simp) (by simp)) rfl .fn rfl (by decide) (by kernel_rfl) rfl (fun _ => .cons (.frz rfl rfl rfl rfl rfl) .nil) (fun _ _ _ _ ⟨hu, hH⟩ => by rw [hu, hH]; exact ⟨.c (.inl trivial), by simp⟩)) ?_
        rintro _ _ ⟨_, _, _, ⟨rfl, rfl⟩, hF, hH⟩
        (try simp only [nsl, Nat.reduceAdd, Nat.reduceLT, Nat.reduceSub] at hF); (try simp only [nsl, Nat.reduceAdd, Nat.reduceLT, Nat.reduceSub] at hH); subst hF; subst hH
        refine ⟨ag_cons (ag_rd rfl rfl rfl (ZL (KK (t := 3) rfl)) rfl) ag_none, ?_⟩
        refine WP ?_
        simp only [c1]
        refine WP ?_
        refine at_efG rfl rfl (ef_call0 true (fun g => maxI_v [(vx V ia).z, (vx V ib).z, (vx V ic).z] (g (.o 5 0 3 3)) (by simp) (by simp)) rfl .fn rfl (by decide) (by kernel_rfl) rfl (fun _ => .cons (.frz rfl rfl rfl rfl rfl) .nil) (fun _ _ _ _ ⟨hu, hH⟩ => by rw [hu, hH]; exact ⟨.c (.inl trivial), by simp⟩)) ?_
        rintro _ _ ⟨_, _, _, ⟨rfl, rfl⟩, hF, hH⟩
        (try simp only [nsl, Nat.reduceAdd, Nat.reduceLT, Nat.reduceSub] at hF); (try simp only [nsl, Nat.reduceAdd, Nat.reduceLT, Nat.reduceSub] at hH); subst hF; subst hH
        refine ⟨ag_cons (ag_rdG rfl rfl rfl (ZL (KK (t := 3) rfl)) rfl) ag_none, ?_⟩
        refine WP ?_
        simp only [c2]
        refine WP ?_
        simp only [c3]
        refine WP ?_
        refine at_skE rfl rfl rfl (by decide) ⟨ag_cons (ag_skG rfl rfl rfl rfl) (ag_cons (ag_skG rfl rfl rfl rfl) (ag_cons (ag_skG rfl rfl rfl rfl) (ag_cons (ag_skG rfl rfl rfl rfl) (ag_cons (ag_skG rfl rfl rfl rfl) (ag_cons (ag_skG rfl rfl rfl rfl) ag_none))))), ?_⟩
        refine WQ ?_
        exact aret_1 [some 0, some 1, some 2, some 3] _ rfl rfl rfl (by decide) (ZNK rfl) ZCH ⟨by rw [htf, c1, c2, c3]; rfl, rfl⟩
      | true =>
        refine ZZ ?_
        refine aw_regionT [(0, none), (2, none), (1, some [2]), (3, none), (4, none), (5, none), (7, none), (6, some [7]), (8, none), (9, none), (10, none), (11, none), (12, none), (13, none), (14, none), (15, none), (16, none), (17, none), (18, none), (19, none), (22, none), (23, none), (24, none), (20, some [15, 16, 17, 22, 23, 24]), (21, none), (25, none), (26, none), (27, none)] hMixed (by kernel_rfl) ?_
        refine WP ?_
        refine at_ef rfl rfl (ef_call0 true (fun g => minI_v [(vx V ia).z, (vx V ib).z, (vx V ic).z] (g (.o 5 0 3 3)) (by simp) (by simp)) rfl .fn rfl (by decide) (by kernel_rfl) rfl (fun _ => .cons (.frz rfl rfl rfl rfl rfl) .nil) (fun _ _ _ _ ⟨hu, hH⟩ => by rw [hu, hH]; exact ⟨.c (.inl trivial), by simp⟩)) ?_
        rintro _ _ ⟨_, _, _, ⟨rfl, rfl⟩, hF, hH⟩
        (try simp only [nsl, Nat.reduceAdd, Nat.reduceLT, Nat.reduceSub] at hF); (try simp only [nsl, Nat.reduceAdd, Nat.reduceLT, Nat.reduceSub] at hH); subst hF; subst hH
        refine ⟨ag_cons (ag_rd rfl rfl rfl (ZL (KK (t := 3) rfl)) rfl) ag_none, ?_⟩
        refine WP ?_
        simp only [c1]
        refine WP ?_
        refine at_efG rfl rfl (ef_call0 true (fun g => maxI_v [(vx V ia).z, (vx V ib).z, (vx V ic).z] (g (.o 5 0 3 3)) (by simp) (by simp)) rfl .fn rfl (by decide) (by kernel_rfl) rfl (fun _ => .cons (.frz rfl rfl rfl rfl rfl) .nil) (fun _ _ _ _ ⟨hu, hH⟩ => by rw [hu, hH]; exact ⟨.c (.inl trivial), by simp⟩)) ?_
        rintro _ _ ⟨_, _, _, ⟨rfl, rfl⟩, hF, hH⟩
        (try simp only [nsl, Nat.reduceAdd, Nat.reduceLT, Nat.reduceSub] at hF); (try simp only [nsl, Nat.reduceAdd, Nat.reduceLT, Nat.reduceSub] at hH); subst hF; subst hH
        refine ⟨ag_cons (ag_rdG rfl rfl rfl (ZL (KK (t := 3) rfl)) rfl) ag_none, ?_⟩
        refine WP ?_
        simp only [c2]
        refine WP ?_
        simp only [c3]
        refine WP ?_
        refine at_efG rfl rfl (ef_call0 false (fun _ => rabs_v nz (by omega)) rfl .fn rfl (by decide) (by kernel_rfl) rfl (fun _g => .cons (.c rfl) .nil) (by simp)) ?_
        rintro _ _ ⟨_, _, _, ⟨rfl, rfl⟩, hF, hH⟩
        (try simp only [nsl, Nat.reduceAdd, Nat.reduceLT, Nat.reduceSub] at hF); (try simp only [nsl, Nat.reduceAdd, Nat.reduceLT, Nat.reduceSub] at hH); subst hF; subst hH
        refine ⟨ag_cons (ag_rdG rfl rfl rfl (ZL (KK (t := 3) rfl)) rfl) (ag_cons (ag_rdG rfl rfl rfl (ZL (KK (t := 3) rfl)) rfl) (ag_cons (ag_rdG rfl rfl rfl (Zsub) rfl) (ag_cons (ag_rdG rfl rfl rfl (ZL (KK (t := 3) rfl)) rfl) (ag_cons (ag_rdG rfl rfl rfl (rd_move rfl rfl) rfl) (ag_cons (ag_rdG rfl rfl rfl (Zmul) rfl) ag_none))))), ?_⟩
        refine WQ ?_
        exact aret_1 [some 0, some 1, some 2, some 3] _ rfl rfl rfl (by decide) (ZNK rfl) ZCH ⟨by rw [htf, c1, c2, c3]; simp, rfl⟩
end Go.Proofs.YtlblimbelfenaaaGreat

/- Whether a layer is thin enough, by value; adaptive tops of the reference. -/
-- NEWM
namespace Go.Proofs.YtlblimbelfenaaaGreat
open Go Go.RowKit
set_option maxRecDepth 100000
theorem indexT_v (v w : Value) (V : List Vec3) (Fs : List Fac3) (z to off : Int) (hM : MOk V Fs) (hz : -1000000 ≤ z ∧ z ≤ 1000000) (ht : z ≤ to ∧ to ≤ z + 10000) (ho : 0 ≤ off ∧ off ≤ 10000) :
    ACalls Tryz.prog 205 [.c (.r w (fR Fs)), .f (.func 148) [.p 0 0 0, .p 1 0 0, .p 2 0 0, .p 3 0 0]] (thH v w V Fs z to off) fun u H => ∃ r : Int, u = .c (I r) ∧ H = thH v w V Fs z to off ∧ (0 ≤ r ↔ (Fs.any fun f => !thinF V off z to f) = true) := by
  have e1 : (fR Fs).length = Fs.length := by simp
  have e2 : (Fs.map Fac3.row).length = Fs.length := by simp
  have hlf := hM.lf
  refine acalls_of (N := 19) Tryz.func205 rfl rfl (by simp) fun E hE => ?_
  refine WA ?_
  refine WA ?_
  refine aw_loopw (fun m F H => ∃ (k : Nat), m + k = Fs.length ∧ ((Fs.drop k).any fun f => !thinF V off z to f) = (Fs.any fun f => !thinF V off z to f) ∧ F = [(0, .c (.r w (fR Fs))), (1, .f (.func 148) [.p 0 0 0, .p 1 0 0, .p 2 0 0, .p 3 0 0]), (7, .c (I (fR Fs).length)), (8, .c (I k))] ∧ H = thH v w V Fs z to off) ?_ ?_
  · refine wk_of [some 0, some 1, some 2, some 3] (fun _ => [(0, .c (.r w (fR Fs))), (1, .f (.func 148) [.p 0 0 0, .p 1 0 0, .p 2 0 0, .p 3 0 0]), (7, .c (I (fR Fs).length)), (8, .c (I (0 : Nat)))]) (fun _ => thH v w V Fs z to off) (by decide) (ZNL hE) ZCF ZCH (fun _ => ?_)
    exact ⟨Fs.length, 0, by omega, rfl, rfl, rfl⟩
  rintro m F H ⟨k, hk, hf, rfl, rfl⟩
  refine WA ?_
  refine aw_if rfl (fun hlt => ?_) (fun hge => ?_)
  · obtain ⟨f, hfk⟩ : ∃ e, Fs[k]? = some e := ⟨_, List.getElem?_eq_getElem (by omega)⟩
    have hmem := List.mem_of_getElem? hfk
    have hfd : ((Fs.drop k).any fun f => !thinF V off z to f) = ((!thinF V off z to f) || (Fs.drop (k + 1)).any fun f => !thinF V off z to f) := by
      obtain ⟨h1, h2⟩ := List.getElem?_eq_some_iff.1 hfk
      rw [List.drop_eq_getElem_cons h1, h2, List.any_cons]
    obtain ⟨fa, fb, fc⟩ := f
    have hrow : (fR Fs)[k]? = some [I fa, I fb, I fc] := by rw [List.getElem?_map, hfk]; rfl
    refine WA ?_
    refine WR ?_
    refine al_ef rfl (ef_call [0, 1, 2, 3] (fun _ => thH v w V Fs z to off) false (fun _ => thin1_v v w V Fs ⟨fa, fb, fc⟩ z to off hM hmem hz ht ho) rfl (.clo rfl) rfl (by decide) (by kernel_rfl) rfl ZCH (by decide) ZCH (by simp)) ?_
    rintro F1 H1 ⟨_, _, _, _, ⟨rfl, rfl⟩, hF, hH⟩
    (try simp only [List.set_cons_zero, List.set_cons_succ, updH, posOf, lentArr, killF, killO, killV, AV.has, AV.hasL, AV.emb, AV.embL, OB.emb, embB, List.filter_cons, List.filter_nil, List.getElem?_cons_zero, List.getElem?_cons_succ, List.getD_cons_zero, List.getD_cons_succ, List.drop_succ_cons, List.drop_zero, List.drop_nil, List.contains_cons, List.contains_nil, Nat.reduceBEq, Nat.reduceEqDiff, beq_self_eq_true, Bool.or_false, Bool.false_or, Bool.or_true, Bool.true_or, Bool.false_eq_true, Option.map_some, Option.map_none, List.map_cons, List.map_nil, List.cons_append, List.nil_append, List.append_nil, List.length_cons, List.length_nil, Nat.reduceAdd, Nat.reduceLT, Nat.reduceSub, if_true, if_false, Nat.zero_add, Nat.add_zero, Nat.sub_zero, Nat.lt_irrefl, Nat.not_lt_zero, Nat.zero_lt_one, Nat.lt_add_one] at hF); (try simp only [List.set_cons_zero, List.set_cons_succ, updH, posOf, lentArr, killF, killO, killV, AV.has, AV.hasL, AV.emb, AV.embL, OB.emb, embB, List.filter_cons, List.filter_nil, List.getElem?_cons_zero, List.getElem?_cons_succ, List.getD_cons_zero, List.getD_cons_succ, List.drop_succ_cons, List.drop_zero, List.drop_nil, List.contains_cons, List.contains_nil, Nat.reduceBEq, Nat.reduceEqDiff, beq_self_eq_true, Bool.or_false, Bool.false_or, Bool.or_true, Bool.true_or, Bool.false_eq_true, Option.map_some, Option.map_none, List.map_cons, List.map_nil, List.cons_append, List.nil_append, List.append_nil, List.length_cons, List.length_nil, Nat.reduceAdd, Nat.reduceLT, Nat.reduceSub, if_true, if_false, Nat.zero_add, Nat.add_zero, Nat.sub_zero, Nat.lt_irrefl, Nat.not_lt_zero, Nat.zero_lt_one, Nat.lt_add_one] at hH); subst hF; subst hH
    refine WE ?_
    refine aw_cond rfl (fun hpz => ?_) (fun hpz => ?_)
    · refine WA ?_
      refine aret_1 [some 0, some 1, some 2, some 3] _ rfl rfl rfl (by decide) (ZNK rfl) ZCH ⟨_, rfl, rfl, ?_⟩
      rw [← hf, hfd, hpz]; simp
    · refine ZZ ?_
      refine WA ?_
      refine wk_of [some 0, some 1, some 2, some 3] (fun _ => [(0, .c (.r w (fR Fs))), (1, .f (.func 148) [.p 0 0 0, .p 1 0 0, .p 2 0 0, .p 3 0 0]), (7, .c (I (fR Fs).length)), (8, .c (I (k + 1 : Nat)))]) (fun _ => thH v w V Fs z to off) (by decide) (ZNL hE) ZCF ZCH (fun _ => ?_)
      exact ⟨m - 1, by omega, k + 1, by omega, by rw [← hf, hfd, hpz, Bool.false_or], rfl, rfl⟩
  refine WA ?_
  refine aret_1 [some 0, some 1, some 2, some 3] _ rfl rfl rfl (by decide) (ZNK rfl) ZCH ⟨_, rfl, rfl, ?_⟩
  rw [← hf, List.drop_eq_nil_of_le (by omega)]; simp
theorem containsT_v (v w : Value) (V : List Vec3) (Fs : List Fac3) (z to off : Int) (hM : MOk V Fs) (hz : -1000000 ≤ z ∧ z ≤ 1000000) (ht : z ≤ to ∧ to ≤ z + 10000) (ho : 0 ≤ off ∧ off ≤ 10000) :
    ACalls Tryz.prog 147 [.c (.r w (fR Fs)), .f (.func 148) [.p 0 0 0, .p 1 0 0, .p 2 0 0, .p 3 0 0]] (thH v w V Fs z to off) fun u H => u = .c (B (Fs.any fun f => !thinF V off z to f)) ∧ H = thH v w V Fs z to off := by
  refine acalls_of (N := 9) Tryz.func147 rfl rfl (by simp) fun E hE => ?_
  refine WA ?_
  refine WR ?_
  refine al_ef rfl (ef_call [0, 1, 2, 3] (fun _ => thH v w V Fs z to off) false (fun _ => indexT_v v w V Fs z to off hM hz ht ho) rfl .fn rfl (by decide) (by kernel_rfl) rfl ZCH (by decide) ZCH (by simp)) ?_
  rintro F1 H1 ⟨_, _, _, _, ⟨r, rfl, rfl, hr⟩, hF, hH⟩
  (try simp only [List.set_cons_zero, List.set_cons_succ, updH, posOf, lentArr, killF, killO, killV, AV.has, AV.hasL, AV.emb, AV.embL, OB.emb, embB, List.filter_cons, List.filter_nil, List.getElem?_cons_zero, List.getElem?_cons_succ, List.getD_cons_zero, List.getD_cons_succ, List.drop_succ_cons, List.drop_zero, List.drop_nil, List.contains_cons, List.contains_nil, Nat.reduceBEq, Nat.reduceEqDiff, beq_self_eq_true, Bool.or_false, Bool.false_or, Bool.or_true, Bool.true_or, Bool.false_eq_true, Option.map_some, Option.map_none, List.map_cons, List.map_nil, List.cons_append, List.nil_append, List.append_nil, List.length_cons, List.length_nil, Nat.reduceAdd, Nat.reduceLT, Nat.reduceSub, if_true, if_false, Nat.zero_add, Nat.add_zero, Nat.sub_zero, Nat.lt_irrefl, Nat.not_lt_zero, Nat.zero_lt_one, Nat.lt_add_one] at hF); (try simp only [List.set_cons_zero, List.set_cons_succ, updH, posOf, lentArr, killF, killO, killV, AV.has, AV.hasL, AV.emb, AV.embL, OB.emb, embB, List.filter_cons, List.filter_nil, List.getElem?_cons_zero, List.getElem?_cons_succ, List.getD_cons_zero, List.getD_cons_succ, List.drop_succ_cons, List.drop_zero, List.drop_nil, List.contains_cons, List.contains_nil, Nat.reduceBEq, Nat.reduceEqDiff, beq_self_eq_true, Bool.or_false, Bool.false_or, Bool.or_true, Bool.true_or, Bool.false_eq_true, Option.map_some, Option.map_none, List.map_cons, List.map_nil, List.cons_append, List.nil_append, List.append_nil, List.length_cons, List.length_nil, Nat.reduceAdd, Nat.reduceLT, Nat.reduceSub, if_true, if_false, Nat.zero_add, Nat.add_zero, Nat.sub_zero, Nat.lt_irrefl, Nat.not_lt_zero, Nat.zero_lt_one, Nat.lt_add_one] at hH); subst hF; subst hH
  refine WE ?_
  refine aret_1 [some 0, some 1, some 2, some 3] _ rfl rfl rfl (by decide) (ZNK rfl) ZCH ⟨congrArg (fun z => AV.c (B z)) ?_, rfl⟩
  cases h : Fs.any fun f => !thinF V off z to f
  · rw [h] at hr; simp at hr ⊢; omega
  · rw [h] at hr; simp at hr ⊢; omega
theorem all_not_any (l : List Fac3) (p : Fac3 → Bool) : (!(l.any fun f => !p f)) = l.all p := by
  induction l with
  | nil => rfl
  | cons a l ih => rw [List.any_cons, List.all_cons, ← ih]; cases p a <;> simp
theorem thin_v (v w : Value) (V : List Vec3) (Fs : List Fac3) (z to off : Int) (hM : MOk V Fs) (hz : -1000000 ≤ z ∧ z ≤ 1000000) (ht : z ≤ to ∧ to ≤ z + 10000) (ho : 0 ≤ off ∧ off ≤ 10000) :
    ACalls Tryz.prog 106 [mshA v w V Fs, .c (I z), .c (I to), .c (I off)] [] fun u H => u = .c (B (Fs.all (thinF V off z to))) ∧ H = [] := by
  refine acalls_of (N := 14) Tryz.func106 rfl rfl (by simp) fun E hE => ?_
  refine WA ?_
  refine WR ?_
  refine al_ef rfl (ef_call [0, 2, 1, 3] (fun _ => thH v w V Fs z to off) false (fun _ => containsT_v v w V Fs z to off hM hz ht ho) rfl .fn rfl (by decide) (by kernel_rfl) rfl ZCH (by decide) ZCH (by simp)) ?_
  rintro F1 H1 ⟨_, _, _, _, ⟨rfl, rfl⟩, hF, hH⟩
  (try simp only [List.set_cons_zero, List.set_cons_succ, updH, posOf, lentArr, killF, killO, killV, AV.has, AV.hasL, AV.emb, AV.embL, OB.emb, embB, List.filter_cons, List.filter_nil, List.getElem?_cons_zero, List.getElem?_cons_succ, List.getD_cons_zero, List.getD_cons_succ, List.drop_succ_cons, List.drop_zero, List.drop_nil, List.contains_cons, List.contains_nil, Nat.reduceBEq, Nat.reduceEqDiff, beq_self_eq_true, Bool.or_false, Bool.false_or, Bool.or_true, Bool.true_or, Bool.false_eq_true, Option.map_some, Option.map_none, List.map_cons, List.map_nil, List.cons_append, List.nil_append, List.append_nil, List.length_cons, List.length_nil, Nat.reduceAdd, Nat.reduceLT, Nat.reduceSub, if_true, if_false, Nat.zero_add, Nat.add_zero, Nat.sub_zero, Nat.lt_irrefl, Nat.not_lt_zero, Nat.zero_lt_one, Nat.lt_add_one] at hF); (try simp only [List.set_cons_zero, List.set_cons_succ, updH, posOf, lentArr, killF, killO, killV, AV.has, AV.hasL, AV.emb, AV.embL, OB.emb, embB, List.filter_cons, List.filter_nil, List.getElem?_cons_zero, List.getElem?_cons_succ, List.getD_cons_zero, List.getD_cons_succ, List.drop_succ_cons, List.drop_zero, List.drop_nil, List.contains_cons, List.contains_nil, Nat.reduceBEq, Nat.reduceEqDiff, beq_self_eq_true, Bool.or_false, Bool.false_or, Bool.or_true, Bool.true_or, Bool.false_eq_true, Option.map_some, Option.map_none, List.map_cons, List.map_nil, List.cons_append, List.nil_append, List.append_nil, List.length_cons, List.length_nil, Nat.reduceAdd, Nat.reduceLT, Nat.reduceSub, if_true, if_false, Nat.zero_add, Nat.add_zero, Nat.sub_zero, Nat.lt_irrefl, Nat.not_lt_zero, Nat.zero_lt_one, Nat.lt_add_one] at hH); subst hF; subst hH
  refine WE ?_
  exact aret_1 [] _ rfl rfl rfl (by decide) (ZNK rfl) (fun _ => .nil) ⟨congrArg (fun z => AV.c (B z)) (all_not_any Fs _), rfl⟩
end Go.Proofs.YtlblimbelfenaaaGreat
