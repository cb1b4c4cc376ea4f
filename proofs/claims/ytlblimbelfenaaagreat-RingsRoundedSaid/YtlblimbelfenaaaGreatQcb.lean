/- The law RingsRounded, walked. -/
import Derived.Test.YtlblimbelfenaaaGreatQbp
import Derived.Test.YtlblimbelfenaaaGreatQbq
import Derived.Test.YtlblimbelfenaaaGreatQca
import Derived.Test.YtlblimbelfenaaaGreatQbg
import Derived.Test.YtlblimbelfenaaaGreatQbn
set_option linter.unusedSimpArgs false
set_option linter.unusedVariables false
/- The law HeightsChosen, walked. -/
-- NEWM
namespace Go.Proofs.YtlblimbelfenaaaGreat
open Go Go.RowKit
set_option maxRecDepth 100000
end Go.Proofs.YtlblimbelfenaaaGreat

/- Ends and Alike: the program's and the reference's, by value. -/
-- NEWM
namespace Go.Proofs.YtlblimbelfenaaaGreat
open Go Go.RowKit
set_option maxRecDepth 100000
end Go.Proofs.YtlblimbelfenaaaGreat

/- Alike: the program's and the reference's, by value. -/
-- NEWM
namespace Go.Proofs.YtlblimbelfenaaaGreat
open Go Go.RowKit
set_option maxRecDepth 100000
end Go.Proofs.YtlblimbelfenaaaGreat

/- The law ContoursChained, walked. -/
-- NEWM
namespace Go.Proofs.YtlblimbelfenaaaGreat
open Go Go.RowKit
set_option maxRecDepth 100000
theorem pltF_fst0 (V : List Vec3) (Fs : List Fac3) (l : List Int) : fst0 [mshF V Fs, plnF l] = pltF V Fs l := by
 rw [fst0_two]; unfold pltF
 by_cases h : mshF V Fs = 0 <;> simp [h]
end Go.Proofs.YtlblimbelfenaaaGreat

/- The law RingsRounded, walked. -/
-- NEWM
namespace Go.Proofs.YtlblimbelfenaaaGreat
open Go Go.RowKit
set_option maxRecDepth 100000
set_option maxHeartbeats 16000000 in
theorem law_rings (v : Value) (zs : List Int) (hs : StrOk zs) : ACalls Tryz.prog 3 [.c (.r v (zs.map fun z => [I z]))] [] fun u H => u = .c (B true) := by
 refine acalls_of (N := 89) Tryz.func3 rfl rfl (by simp) fun E hE => ?_
 refine WA ?_
 refine WA ?_
 refine WR ?_
 refine al_ef rfl (ef_callm false (fun _ => amesh_v _ _ _ hs (by omega) (by omega)) rfl .fn rfl (by decide) (by kernel_rfl) rfl rfl (fun _g => .cons (.p rfl) .nil) (fun _g => .cons (.c rfl) (.cons (.c rfl) .nil)) (by simp)) ?_
 rintro F1 H1 ⟨_, _, _, _, ⟨a2, q, w, V, Fs, rfl, hq, ha3, ha4, hV, hFl⟩, hF, hH⟩
 injection hq with hq1 hq2; subst hq1; subst hq2
 (refine NST hF hH ?_; clear hF hH; rintro rfl rfl)
 refine WE ?_
 refine WR ?_
 refine al_ef rfl (ef_callm false (fun _ => flip_a 2 _ _ _ hs (by omega) (by omega) (by simp only [in64]; omega)) rfl .fn rfl (by decide) (by kernel_rfl) rfl rfl (fun _g => .cons (.p rfl) (.cons (.c rfl) .nil)) (fun _g => .cons (.c rfl) (.cons (.c rfl) .nil)) (by simp)) ?_
 rintro F1 H1 ⟨_, _, _, _, ⟨bb, rfl, hq⟩, hF, hH⟩
 injection hq with hq1 hq2; subst hq1; subst hq2
 (refine NST hF hH ?_; clear hF hH; rintro rfl rfl)
 refine WE ?_
 refine aw_cut (fun F H => ∃ (a' : Int) (q w : Value) (V : List Vec3) (Fs : List Fac3), 0 ≤ a' ∧ a' ≤ 100000 ∧ V.length ≤ 16 ∧ Fs.length ≤ 25 ∧ F = [(3, .p 0 0 0), (4, .p 1 0 0)] ∧ H = [strm v zs a', mBox q w V (fR Fs)]) ?_ ?_ wk_aw
 ·refine aw_cond rfl (fun _ => ?_) (fun _ => ?_)
  ·refine WR ?_
   refine al_ef rfl (ef_callm false (fun _ => closedmesh_v _ _ _ hs (by omega) (by omega)) rfl .fn rfl (by decide) (by kernel_rfl) rfl rfl (fun _g => .cons (.p rfl) .nil) (fun _g => .cons (.c rfl) (.cons (.c rfl) .nil)) (by simp)) ?_
   rintro F1 H1 ⟨_, _, _, _, ⟨a3, q3, w3, V3', Fs3, rfl, hq, ha5, ha6, hV3, hFl3, hmf, hop⟩, hF, hH⟩
   injection hq with hq1 hq2; subst hq1; subst hq2
   (refine NST hF hH ?_; clear hF hH; rintro rfl rfl)
   refine WE ?_
   refine wk_of [some 0, some 1] (fun _ => [(3, .p 0 0 0), (4, .p 1 0 0)]) (fun _ => [strm v zs _, mBox q3 w3 V3' (fR Fs3)]) (by decide) (ZNL hE) ZCF ZCH (fun _ => ?_)
   exact ⟨_, q3, w3, V3', Fs3, by omega, by omega, hV3, hFl3, rfl, rfl⟩
  ·refine ZZ ?_
   refine wk_of [some 0, some 1] (fun _ => [(3, .p 0 0 0), (4, .p 1 0 0)]) (fun _ => [strm v zs _, mBox q w V (fR Fs)]) (by decide) (ZNL hE) ZCF ZCH (fun _ => ?_)
   exact ⟨_, q, w, V, Fs, by omega, by omega, hV, hFl, rfl, rfl⟩
 clear ha3 ha4 hV hFl
 rintro F H ⟨a2, q, w, V, Fs, ha1, ha2, hV, hFl, rfl, rfl⟩
 refine WR ?_
 refine al_ef rfl (ef_callm false (fun _ => aplane_v _ _ _ q w V Fs hs (by omega) (by omega) (by omega)) rfl .fn rfl (by decide) (by kernel_rfl) rfl rfl (fun _g => .cons (.p rfl) (.cons (.aL (C0 rfl)) .nil)) (fun _g => .cons (.c rfl) (.cons (.c rfl) .nil)) (by simp)) ?_
 rintro F1 H1 ⟨_, _, _, _, ⟨z, az, rfl, hq, hbz, hcz⟩, hF, hH⟩
 injection hq with hq1 hq2; subst hq1; subst hq2
 (refine NST hF hH ?_; clear hF hH; rintro rfl rfl)
 refine WE ?_
 refine WR ?_
 refine al_ef rfl (ef_call0 false (fun _ => ringsP_v q w V Fs z (by omega) (by omega)) rfl .fn rfl (by decide) (by kernel_rfl) rfl (fun _ => C0 rfl) (by simp)) ?_
 rintro _ _ ⟨_, _, _, ⟨qr, A, er, rfl, rfl, hrp⟩, hF, hH⟩
 (refine NST hF hH ?_; clear hF hH; rintro rfl rfl)
 refine WE ?_
 refine WR ?_
 refine al_ef rfl (ef_call0 false (fun _ => doubledP_v q w V Fs z (by omega) (by omega)) rfl .fn rfl (by decide) (by kernel_rfl) rfl (fun _ => C0 rfl) (by simp)) ?_
 rintro _ _ ⟨_, _, _, ⟨dd, dn, rfl, rfl, hdp⟩, hF, hH⟩
 (refine NST hF hH ?_; clear hF hH; rintro rfl rfl)
 refine WE ?_
 refine aw_wk (wk_of (K := fun F H => F = [(4, .p 0 0 0), (5, .c (I z)), (6, .c (.r qr (rgR A))), (7, .c (I er)), (8, .c (I dd)), (9, .c (I dn)), (10, .c (I (pltF V Fs [z])))] ∧ H = [mBox q w V (fR Fs)]) [some 1] (fun _ => [(4, .p 0 0 0), (5, .c (I z)), (6, .c (.r qr (rgR A))), (7, .c (I er)), (8, .c (I dd)), (9, .c (I dn)), (10, .c (I (pltF V Fs [z])))]) (fun _ => [mBox q w V (fR Fs)]) (by decide) (ZNL hE) ZCF ZCH (fun _ => ⟨rfl, rfl⟩)) ?_
 rintro F H ⟨rfl, rfl⟩
 refine aw_cut (fun F H => F = [(4, .p 0 0 0), (5, .c (I z)), (6, .c (.r qr (rgR A))), (7, .c (I er)), (8, .c (I dd)), (9, .c (I dn)), (10, .c (I (pltF V Fs [z]))), (11, .c (I (pltF V Fs [z])))] ∧ H = [mBox q w V (fR Fs)]) ?_ ?_ wk_aw
 ·refine WR ?_
  refine al_ef rfl (ef_call0 false (fun _ => rmshF_v q w V Fs (by omega) (by omega)) rfl .fn rfl (by decide) (by kernel_rfl) rfl (fun _ => C0 rfl) (by simp)) ?_
  rintro _ _ ⟨_, _, _, ⟨rfl, rfl⟩, hF, hH⟩
  (refine NST hF hH ?_; clear hF hH; rintro rfl rfl)
  refine WO ?_
  refine al_ef rfl (ef_call0 true (fun g => planef_v [z] (g (.o _ 0 1 1)) (by simp)) rfl .fn rfl (by decide) (by kernel_rfl) rfl (fun _ => .cons (.frz rfl rfl rfl rfl rfl) .nil) (fun _ _ _ _ ⟨hu, hH⟩ => by rw [hu, hH]; exact ⟨.c (.inl trivial), by simp⟩)) ?_
  rintro _ _ ⟨_, _, _, ⟨rfl, rfl⟩, hF, hH⟩
  (refine NST hF hH ?_; clear hF hH; rintro rfl rfl)
  refine WO ?_
  refine al_ef rfl (ef_call0 true (fun g => errs_v [mshF V Fs, plnF [z]] (g (.o _ 0 2 2)) (by simp)) rfl .fn rfl (by decide) (by kernel_rfl) rfl (fun _ => .cons (.frz rfl rfl rfl rfl rfl) .nil) (fun _ _ _ _ ⟨hu, hH⟩ => by rw [hu, hH]; exact ⟨.c (.inl trivial), by simp⟩)) ?_
  rintro _ _ ⟨_, _, _, ⟨rfl, rfl⟩, hF, hH⟩
  (refine NST hF hH ?_; clear hF hH; rintro rfl rfl)
  refine WE ?_
  all_goals (rw [pltF_fst0])
  all_goals (exact wk_of [some 0] (fun _ => [(4, .p 0 0 0), (5, .c (I z)), (6, .c (.r qr (rgR A))), (7, .c (I er)), (8, .c (I dd)), (9, .c (I dn)), (10, .c (I (pltF V Fs [z]))), (11, .c (I (pltF V Fs [z])))]) (fun _ => [mBox q w V (fR Fs)]) (by decide) (ZNL hE) ZCF ZCH (fun _ => ⟨rfl, rfl⟩))
 rintro F H ⟨rfl, rfl⟩
 have hok1 : pltF V Fs [z] = 0 → MOk V Fs ∧ (-100000 ≤ z ∧ z ≤ 100000) := pltF_ok
 obtain ⟨hr1, hr2⟩ := hrp
 obtain ⟨hd1, hd2⟩ := hdp
 generalize pltF V Fs [z] = one at hr1 hr2 hd1 hd2 hok1 ⊢
 refine WA ?_
 refine WA ?_
 refine WA ?_
 refine WA ?_
 refine aw_cut (fun F H => ∃ (qr2 : Value) (A2 : List (Value × List P2)), A.map Prod.snd = A2.map Prod.snd ∧ A.length ≤ 1000000 ∧ A2.length ≤ 1000000 ∧ (∀ p ∈ A, p.2.length ≤ 1000000) ∧ (∀ p ∈ A2, p.2.length ≤ 1000000) ∧ F = [(6, .c (.r qr (rgR A))), (7, .c (I er)), (8, .c (I dd)), (9, .c (I dn)), (10, .c (I one)), (11, .c (I one)), (12, .c (I er)), (13, .c (.r qr2 (rgR A2))), (14, .c (I dd)), (15, .c (I dn))] ∧ H = []) ?_ ?_ wk_aw
 ·refine aw_if rfl (fun h => ?_) (fun h => ?_)
  ·obtain ⟨hM, hz⟩ := hok1 h
   obtain ⟨cs, hcs, rfl, hA⟩ := hr2 h
   obtain ⟨cs', hcs', rfl, rfl⟩ := hd2 h
   obtain rfl := hcs'.det hcs
   refine WR ?_
   refine al_ef rfl (ef_call0 false (fun _ => rringsof_v q w V Fs z hM hz) rfl .fn rfl (by decide) (by kernel_rfl) rfl (fun _ => C0 rfl) (by simp)) ?_
   rintro _ _ ⟨_, _, _, ⟨qr2, A2, cs2, rfl, rfl, hcs2, hA2⟩, hF, hH⟩
   (refine NST hF hH ?_; clear hF hH; rintro rfl rfl)
   refine WE ?_
   obtain rfl := hcs2.det hcs
   refine WR ?_
   refine al_ef rfl (ef_call0 false (fun _ => rdoubled_v q w V Fs z hM hz) rfl .fn rfl (by decide) (by kernel_rfl) rfl (fun _ => C0 rfl) (by simp)) ?_
   rintro _ _ ⟨_, _, _, ⟨cs3, rfl, rfl, hcs3⟩, hF, hH⟩
   (refine NST hF hH ?_; clear hF hH; rintro rfl rfl)
   refine WE ?_
   obtain rfl := hcs3.det hcs
   obtain ⟨hl1, hl2⟩ := rgL_ok hM hcs
   have hsm : ∀ A' : List (Value × List P2), A'.map Prod.snd = (if regF (rgL V z cs3) = 0 then rgL V z cs3 else []) → A'.length ≤ 1000000 ∧ ∀ p ∈ A', p.2.length ≤ 1000000 := fun A' h' => by
    have hsub : ∀ r ∈ A'.map Prod.snd, r ∈ rgL V z cs3 := fun r hr => by
     rw [h'] at hr
     split at hr
     ·exact hr
     ·cases hr
    refine ⟨?_, fun p hp => ?_⟩
    ·have e := congrArg List.length h'
     rw [List.length_map] at e
     rw [e]
     split
     ·omega
     ·simp
    ·have := (hl2 p.2 (hsub p.2 (List.mem_map.2 ⟨p, hp, rfl⟩))).1
     omega
   refine wk_of [] (fun _ => [(6, .c (.r qr (rgR A))), (7, .c (I (regF (rgL V z cs3)))), (8, .c (I (sumD (rgL V z cs3)))), (9, .c (I (lfN V z cs3))), (10, .c (I one)), (11, .c (I one)), (12, .c (I (regF (rgL V z cs3)))), (13, .c (.r qr2 (rgR A2))), (14, .c (I (sumD (rgL V z cs3)))), (15, .c (I (lfN V z cs3)))]) (fun _ => []) (by decide) (ZNL hE) ZCF (fun _ => .nil) (fun _ => ?_)
   exact ⟨qr2, A2, hA.trans hA2.symm, (hsm A hA).1, (hsm A2 hA2).1, (hsm A hA).2, (hsm A2 hA2).2, rfl, rfl⟩
  ·obtain ⟨rfl, hA⟩ := hr1 h
   obtain ⟨rfl, rfl⟩ := hd1 h
   have hA0 := List.map_eq_nil_iff.1 hA
   subst hA0
   refine ZZ ?_
   refine wk_of [] (fun _ => [(6, .c (.r qr (rgR []))), (7, .c (I er)), (8, .c (I 0)), (9, .c (I 0)), (10, .c (I er)), (11, .c (I er)), (12, .c (I er)), (13, .c (.r (.slice none 0 0) [])), (14, .c (I 0)), (15, .c (I 0))]) (fun _ => []) (by decide) (ZNL hE) ZCF (fun _ => .nil) (fun _ => ?_)
   exact ⟨_, [], rfl, by simp, by simp, by simp, by simp, rfl, rfl⟩
 rintro F H ⟨qr2, A2, hAA, k1, k2, s1, s2, rfl, rfl⟩
 refine ZZ ?_
 refine WR ?_
 refine G1 rfl ?_
 refine al_ef rfl (ef_call0 false (fun _ => samer_v A A2 qr qr2 (by omega) (by omega) s1 s2) rfl .fn rfl (by decide) (by kernel_rfl) rfl (fun _ => C0 rfl) (by simp)) ?_
 rintro _ _ ⟨_, _, _, ⟨bb, rfl, rfl, hb⟩, hF, hH⟩
 obtain rfl : bb = true := hb.2 hAA
 (refine NST hF hH ?_; clear hF hH; rintro rfl rfl)
 refine WO ?_
 refine G1 rfl ?_
 refine al_ef rfl (ef_call0 false (fun _ => sliced_a) rfl .fn rfl (by decide) (by kernel_rfl) rfl (fun _ => C0 rfl) (by simp)) ?_
 rintro _ _ ⟨_, _, _, ⟨rfl, rfl⟩, hF, hH⟩
 (refine NST hF hH ?_; clear hF hH; rintro rfl rfl)
 refine WE ?_
 exact aret_1 [] [] rfl rfl rfl (by decide) (ZNK rfl) (fun _ => .nil) rfl
end Go.Proofs.YtlblimbelfenaaaGreat
