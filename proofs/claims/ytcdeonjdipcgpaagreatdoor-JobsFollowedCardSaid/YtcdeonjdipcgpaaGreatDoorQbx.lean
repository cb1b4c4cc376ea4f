/- From the row of JobsFollowed to the table of powers of ten. -/
import Derived.Test.YtcdeonjdipcgpaaGreatDoorQbj
import Derived.Test.YtcdeonjdipcgpaaGreatDoorQbu
import Derived.Test.YtcdeonjdipcgpaaGreatDoorQbw
import Derived.Test.YtcdeonjdipcgpaaGreatDoorQbt
import Derived.Test.YtcdeonjdipcgpaaGreatDoorRows
import Derived.Lib.LaidTab
import Derived.Stop.LaidErr
import Derived.MakeChecks
set_option linter.unusedSimpArgs false
set_option linter.unusedVariables false
-- NEWM
namespace Go.Proofs.YtcdeonjdipcgpaaGreatDoor
open Go Go.RowKit
set_option maxRecDepth 1000000
theorem progressD_no (v : Value) (l : List Nt) (at_ : Int) (hc : chkN l = 0) (s : List UInt8) (hj : jobJ l s at_ = none) : ACalls Tryz.prog 25 [.c (.r v (noRs l)), .c (T s), .c (I at_)] [] fun u H => u = .t [.c (I 0), .c (I 0), .c (B false)] ∧ H = [] :=
 ACallsX.mono (progressD_v v l at_ hc s) fun u H ⟨h, hH⟩ => ⟨h.elim (fun h => h.2) (fun ⟨j, h, _⟩ => by rw [hj] at h; cases h), hH⟩
theorem progressD_some (v : Value) (l : List Nt) (at_ : Int) (hc : chkN l = 0) (s : List UInt8) (j : Jb) (hj : jobJ l s at_ = some j) : ACalls Tryz.prog 25 [.c (.r v (noRs l)), .c (T s), .c (I at_)] [] fun u H => u = .t [.c (I j.ly.length), .c (I j.all), .c (B true)] ∧ H = [] :=
 ACallsX.mono (progressD_v v l at_ hc s) fun u H ⟨h, hH⟩ => ⟨h.elim (fun h => by rw [hj] at h; cases h.1) (fun ⟨j2, h, h2⟩ => by rw [hj] at h; injection h with h; subst h; exact h2), hH⟩
set_option maxHeartbeats 16000000 in
theorem law_jobs (v : Value) (zs : List Int) (hs : StrOk zs) : ACallsW TabX false Tryz.prog 3 [.c (.r v (zs.map fun z => [I z]))] [] fun u H => u = .c (B true) := by
 refine zp3 tabX_stp false (N := 211) Tryz.func3 rfl rfl (by simp) fun E hE hP hX => ?_
 refine WA ?_
 refine WA ?_
 refine WR ?_
 refine zf rfl (zl false (fun _ => range_f 0 20 _ _ _ hs (by omega) (by omega) (by omega) (by omega) (by omega) (by omega)) rfl .fn rfl (by decide) (by kernel_rfl) rfl rfl (fun _g => .cons (.p rfl) (.cons (.c rfl) (.cons (.c rfl) .nil))) (fun _g => .cons (.c rfl) (.cons (.c rfl) .nil)) (by simp)) ?_
 rintro F1 H1 ⟨_, _, _, _, ⟨r1, ar1, rfl, hq, hx1r1, hx2r1, hx3r1, hx4r1, _, hvr1⟩, hF, hH⟩
 injection hq with hq1 hq2; subst hq1; subst hq2
 (refine NST hF hH ?_; clear hF hH; rintro rfl rfl)
 obtain ⟨nr1, hnr1⟩ : ∃ m : Nat, r1 = (m : Int) := ⟨(r1).toNat, by omega⟩
 subst hnr1
 have hx5r1 := hx4r1 (by omega)
 refine zf rfl (zp2 [0] (fun _ => [strm v zs ar1]) false (fun _ => notelist_f nr1 (by omega) v zs ar1 hs (by omega) (by omega)) rfl .fn rfl (by decide) (by kernel_rfl) rfl (fun _g => .cons (.p rfl) (.cons (.c rfl) .nil)) (by decide) ZCH (by simp)) ?_
 rintro F1 H1 ⟨_, _, _, _, ⟨la, cla, ala, hfla, _, ha1la, ha2la, hlla, hbla, hcla, rfl, rfl⟩, hF, hH⟩
 (refine NSU hF hH ?_; clear hF hH; rintro rfl rfl)
 refine WO ?_
 refine zf rfl (zl false (fun _ => notetime_v _ _ _ hs (by omega) (by omega)) rfl .fn rfl (by decide) (by kernel_rfl) rfl rfl (fun _g => .cons (.p rfl) .nil) (fun _g => .cons (.c rfl) (.cons (.c rfl) .nil)) (by simp)) ?_
 rintro F1 H1 ⟨_, _, _, _, ⟨at_, rfl, hq, _⟩, hF, hH⟩
 injection hq with hq1 hq2; subst hq1; subst hq2
 (refine NST hF hH ?_; clear hF hH; rintro rfl rfl)
 refine WO ?_
 refine zf rfl (zl true (fun _ => zk1 [[106], [107], [122], [65]] _ _ _ _ hs (by omega) (by omega) (by simp) (by simp)) rfl .fn rfl (by decide) (by kernel_rfl) rfl rfl (fun _g => .cons (.p rfl) (.cons (.frz rfl rfl rfl rfl rfl) .nil)) (fun _g => .cons (.c rfl) (.cons (.c rfl) .nil)) (fun _ _ _ _ ⟨_, hu, hH, _⟩ => by rw [hu, hH]; exact ⟨.c (.inl trivial), zp (.inr ⟨0, _, rfl, by simp⟩)⟩)) ?_
 rintro F1 H1 ⟨_, _, _, _, ⟨job, rfl, hq, hrmjob, hvjob⟩, hF, hH⟩
 injection hq with hq1 hq2; subst hq1; subst hq2
 (refine NST hF hH ?_; clear hF hH; rintro rfl rfl)
 have hbjob : (job).length ≤ 1 := by
  have h : ∀ r ∈ ([[106], [107], [122], [65]] : List (List UInt8)), r.length ≤ 1 := by first | (simp; done) | (simp; omega)
  exact h _ hrmjob
 clear hrmjob
 refine WO ?_
 refine zf rfl (zl true (fun _ => zk1 [[115], [116], [122], [65]] _ _ _ _ hs (by omega) (by omega) (by simp) (by simp)) rfl .fn rfl (by decide) (by kernel_rfl) rfl rfl (fun _g => .cons (.p rfl) (.cons (.frz rfl rfl rfl rfl rfl) .nil)) (fun _g => .cons (.c rfl) (.cons (.c rfl) .nil)) (fun _ _ _ _ ⟨_, hu, hH, _⟩ => by rw [hu, hH]; exact ⟨.c (.inl trivial), zp (.inr ⟨0, _, rfl, by simp⟩)⟩)) ?_
 rintro F1 H1 ⟨_, _, _, _, ⟨sn, rfl, hq, hrmsn, hvsn⟩, hF, hH⟩
 injection hq with hq1 hq2; subst hq1; subst hq2
 (refine NST hF hH ?_; clear hF hH; rintro rfl rfl)
 have hbsn : (sn).length ≤ 1 := by
  have h : ∀ r ∈ ([[115], [116], [122], [65]] : List (List UInt8)), r.length ≤ 1 := by first | (simp; done) | (simp; omega)
  exact h _ hrmsn
 clear hrmsn
 refine WE ?_
 refine zB3 (zn (K := fun F H => ∃ va, F = [(4, .c (.r va (noRs la))), (5, .c (I at_)), (6, .c (T job)), (7, .c (T sn))] ∧ H = []) [] (fun g => [(4, .c (.r (g (.o 1 0 la.length cla)) (noRs la))), (5, .c (I at_)), (6, .c (T job)), (7, .c (T sn))]) (fun _ => []) (by decide) (ZNL hE) (fun _ => .cons rfl (.frz rfl rfl (by rw [List.drop_zero, List.take_of_length_le (by simp)]) (by simp) rfl) (.cons rfl (.c rfl) (.cons rfl (.c rfl) (.cons rfl (.c rfl) .nil)))) ZCH (fun _ => ⟨_, rfl, rfl⟩)) ?_
 rintro F H ⟨va, rfl, rfl⟩
 have hAs : ∀ x ∈ la, NtS x := fun x hx => (hbla x hx).s
 have hll : la.length ≤ 1000000 := by omega
 have hjl : job.length ≤ 1000000 := by omega
 have hsnl : sn.length ≤ 1000000 := by omega
 clear hs
 refine ZZ ?_
 have hask : (if chkN la ≠ 0 then chkN la else if moB at_ = true then 0 else 1) = askF la at_ := rfl
 obtain ⟨e, he⟩ : ∃ e, askF la at_ = e := ⟨_, rfl⟩
 obtain ⟨ej, hej⟩ : ∃ e, jobE la job at_ = e := ⟨_, rfl⟩
 obtain ⟨px, py, hpg⟩ : ∃ a b, prgF la job at_ = (a, b) := ⟨_, _, rfl⟩
 obtain ⟨uu, ue, hus⟩ : ∃ a b, usdF la sn at_ = (a, b) := ⟨_, _, rfl⟩
 have hrefd := refused_v va la at_ hll hAs
 have hrun := runningP_v zf2 va la at_ hll hAs
 have hjob := jobsP_v zf2 va la at_ hll hAs
 have hprg := progress_v va la at_ hll hAs job hjl
 have hfil := filamentP_v zf2 va la at_ hll hAs
 have husd := used_v va la at_ hll hAs sn hsnl
 rw [hpg, hej] at hprg
 rw [hus] at husd
 rw [he] at hrefd hrun hjob hfil hask
 have hnfa := notesfault_v va la hll hAs
 have hmof := momentfault_v at_
 have hkj := keyfault_v job hjl
 have hks := keyfault_v sn hsnl
 refine WR ?_
 refine zf rfl (zc false (fun _ => hrefd) rfl .fn rfl (by decide) (by kernel_rfl) rfl (fun _ => C0 rfl) (by simp)) ?_
 rintro _ _ ⟨_, _, _, ⟨R1, R2, c1, c2, hR1, hR2, hR1l, hR2l, hc1, hc2, rfl, rfl⟩, hF, hH⟩
 (refine NST hF hH ?_; clear hF hH; rintro rfl rfl)
 refine WE ?_
 refine WR ?_
 refine zf rfl (zc false (fun _ => hrun) rfl .fn rfl (by decide) (by kernel_rfl) rfl (fun _ => C0 rfl) (by simp)) ?_
 rintro _ _ ⟨_, _, _, ⟨rr, crr, hrr, hrrl, hcrr, rfl, rfl⟩, hF, hH⟩
 (refine NST hF hH ?_; clear hF hH; rintro rfl rfl)
 refine WE ?_
 refine WR ?_
 refine zf rfl (zc false (fun _ => hjob) rfl .fn rfl (by decide) (by kernel_rfl) rfl (fun _ => C0 rfl) (by simp)) ?_
 rintro _ _ ⟨_, _, _, ⟨rj, crj, hrj, hrjl, hcrj, rfl, rfl⟩, hF, hH⟩
 (refine NST hF hH ?_; clear hF hH; rintro rfl rfl)
 refine WE ?_
 refine WR ?_
 refine zf rfl (zc false (fun _ => hprg) rfl .fn rfl (by decide) (by kernel_rfl) rfl (fun _ => C0 rfl) (by simp)) ?_
 rintro _ _ ⟨_, _, _, ⟨rfl, rfl⟩, hF, hH⟩
 (refine NST hF hH ?_; clear hF hH; rintro rfl rfl)
 refine WE ?_
 refine WR ?_
 refine zf rfl (zQ3 TabX (hX _ _) false (fun _ => hfil) rfl .fn rfl (by decide) (by kernel_rfl) rfl (fun _ => C0 rfl) (by simp)) ?_
 rintro _ _ ⟨_, _, _, ⟨rp, crp, hrp, hrpl, hcrp, rfl, rfl⟩, hF, hH⟩
 (refine NST hF hH ?_; clear hF hH; rintro rfl rfl)
 refine WE ?_
 refine WR ?_
 refine zf rfl (zc false (fun _ => husd) rfl .fn rfl (by decide) (by kernel_rfl) rfl (fun _ => C0 rfl) (by simp)) ?_
 rintro _ _ ⟨_, _, _, ⟨rfl, rfl⟩, hF, hH⟩
 (refine NST hF hH ?_; clear hF hH; rintro rfl rfl)
 refine WE ?_
 refine WR ?_
 refine zf rfl (zc false (fun _ => hnfa) rfl .fn rfl (by decide) (by kernel_rfl) rfl (fun _ => C0 rfl) (by simp)) ?_
 rintro _ _ ⟨_, _, _, ⟨rfl, rfl⟩, hF, hH⟩
 (refine NST hF hH ?_; clear hF hH; rintro rfl rfl)
 refine WO ?_
 refine zf rfl (zc false (fun _ => hmof) rfl .fn rfl (by decide) (by kernel_rfl) rfl (fun _ => C0 rfl) (by simp)) ?_
 rintro _ _ ⟨_, _, _, ⟨rfl, rfl⟩, hF, hH⟩
 (refine NST hF hH ?_; clear hF hH; rintro rfl rfl)
 refine WO ?_
 refine zf rfl (zc true (fun g => errsk_a [chkN la, (if moB at_ = true then 0 else 1)] (g (.o 5 0 2 2)) (by simp)) rfl .fn rfl (by decide) (by kernel_rfl) rfl (fun _ => .cons (.frz rfl rfl rfl rfl rfl) .nil) (fun _ _ _ _ ⟨hu, hH⟩ => by rw [hu, hH]; exact ⟨.c (.inl trivial), by simp⟩)) ?_
 rintro _ _ ⟨_, _, _, ⟨rfl, rfl⟩, hF, hH⟩
 (refine NST hF hH ?_; clear hF hH; rintro rfl rfl)
 refine WE ?_
 rw [firstK2, hask]
 refine WR ?_
 refine zf rfl (zc false (fun _ => hkj) rfl .fn rfl (by decide) (by kernel_rfl) rfl (fun _ => C0 rfl) (by simp)) ?_
 rintro _ _ ⟨_, _, _, ⟨rfl, rfl⟩, hF, hH⟩
 (refine NST hF hH ?_; clear hF hH; rintro rfl rfl)
 refine WO ?_
 refine zf rfl (zc true (fun g => errsk_a [e, keyE job] (g (.o 6 0 2 2)) (by simp)) rfl .fn rfl (by decide) (by kernel_rfl) rfl (fun _ => .cons (.frz rfl rfl rfl rfl rfl) .nil) (fun _ _ _ _ ⟨hu, hH⟩ => by rw [hu, hH]; exact ⟨.c (.inl trivial), by simp⟩)) ?_
 rintro _ _ ⟨_, _, _, ⟨rfl, rfl⟩, hF, hH⟩
 (refine NST hF hH ?_; clear hF hH; rintro rfl rfl)
 refine WO ?_
 refine zf rfl (zc false (fun _ => hks) rfl .fn rfl (by decide) (by kernel_rfl) rfl (fun _ => C0 rfl) (by simp)) ?_
 rintro _ _ ⟨_, _, _, ⟨rfl, rfl⟩, hF, hH⟩
 (refine NST hF hH ?_; clear hF hH; rintro rfl rfl)
 refine WO ?_
 refine zf rfl (zc true (fun g => errsk_a [e, keyE sn] (g (.o 7 0 2 2)) (by simp)) rfl .fn rfl (by decide) (by kernel_rfl) rfl (fun _ => .cons (.frz rfl rfl rfl rfl rfl) .nil) (fun _ _ _ _ ⟨hu, hH⟩ => by rw [hu, hH]; exact ⟨.c (.inl trivial), by simp⟩)) ?_
 rintro _ _ ⟨_, _, _, ⟨rfl, rfl⟩, hF, hH⟩
 (refine NST hF hH ?_; clear hF hH; rintro rfl rfl)
 refine WE ?_
 rw [firstK2, firstK2]
 generalize h2 : (if e ≠ 0 then e else keyE job) = two
 generalize h3 : (if e ≠ 0 then e else keyE sn) = three
 refine WA ?_
 refine WA ?_
 refine WA ?_
 refine zB3 (zn (K := fun F H => ∃ v8 v9 v11 v13 v18, F = [(4, .c (.r va (noRs la))), (5, .c (I at_)), (6, .c (T job)), (7, .c (T sn)), (8, .c (.r v8 (nR R1))), (9, .c (.r v9 (nR R2))), (10, .c (I e)), (11, .c (.r v11 (prRs rr))), (12, .c (I e)), (13, .c (.r v13 (prRs rj))), (14, .c (I e)), (15, .c (I px)), (16, .c (I py)), (17, .c (I ej)), (18, .c (.r v18 (prRs rp))), (19, .c (I e)), (20, .c (I uu)), (21, .c (I ue)), (22, .c (I e)), (23, .c (I two)), (24, .c (I three)), (25, .c (.r (.slice none 0 0) [])), (26, .c (.r (.slice none 0 0) [])), (27, .c (.r (.slice none 0 0) [])), (28, .c (.r (.slice none 0 0) [])), (29, .c (.r (.slice none 0 0) []))] ∧ H = []) [] (fun g => [(4, .c (.r va (noRs la))), (5, .c (I at_)), (6, .c (T job)), (7, .c (T sn)), (8, .c (.r (g (.o 0 0 R1.length c1)) (nR R1))), (9, .c (.r (g (.o 1 0 R2.length c2)) (nR R2))), (10, .c (I e)), (11, .c (.r (g (.o 2 0 rr.length crr)) (prRs rr))), (12, .c (I e)), (13, .c (.r (g (.o 3 0 rj.length crj)) (prRs rj))), (14, .c (I e)), (15, .c (I px)), (16, .c (I py)), (17, .c (I ej)), (18, .c (.r (g (.o 4 0 rp.length crp)) (prRs rp))), (19, .c (I e)), (20, .c (I uu)), (21, .c (I ue)), (22, .c (I e)), (23, .c (I two)), (24, .c (I three)), (25, .c (.r (.slice none 0 0) [])), (26, .c (.r (.slice none 0 0) [])), (27, .c (.r (.slice none 0 0) [])), (28, .c (.r (.slice none 0 0) [])), (29, .c (.r (.slice none 0 0) []))]) (fun _ => []) (by decide) (ZNL hE) (fun _ => .cons rfl (.c rfl) (.cons rfl (.c rfl) (.cons rfl (.c rfl) (.cons rfl (.c rfl) (.cons rfl (.frz rfl rfl (by rw [List.drop_zero, List.take_of_length_le (by simp)]) (by simp) rfl) (.cons rfl (.frz rfl rfl (by rw [List.drop_zero, List.take_of_length_le (by simp)]) (by simp) rfl) (.cons rfl (.c rfl) (.cons rfl (.frz rfl rfl (by rw [List.drop_zero, List.take_of_length_le (by simp)]) (by simp) rfl) (.cons rfl (.c rfl) (.cons rfl (.frz rfl rfl (by rw [List.drop_zero, List.take_of_length_le (by simp)]) (by simp) rfl) (.cons rfl (.c rfl) (.cons rfl (.c rfl) (.cons rfl (.c rfl) (.cons rfl (.c rfl) (.cons rfl (.frz rfl rfl (by rw [List.drop_zero, List.take_of_length_le (by simp)]) (by simp) rfl) (.cons rfl (.c rfl) (.cons rfl (.c rfl) (.cons rfl (.c rfl) (.cons rfl (.c rfl) (.cons rfl (.c rfl) (.cons rfl (.c rfl) (.cons rfl (.c rfl) (.cons rfl (.c rfl) (.cons rfl (.c rfl) (.cons rfl (.c rfl) (.cons rfl (.c rfl) .nil)))))))))))))))))))))))))) ZCH (fun _ => ⟨_, _, _, _, _, rfl, rfl⟩)) ?_
 rintro F H ⟨v8, v9, v11, v13, v18, rfl, rfl⟩
 clear hrefd hrun hjob hprg hfil husd hnfa hmof hkj hks
 refine ZZ ?_
 refine WA ?_
 refine zv3 (fun F H => ∃ v25 v26 v27 v28 v29, F = [(4, .c (.r va (noRs la))), (5, .c (I at_)), (6, .c (T job)), (7, .c (T sn)), (8, .c (.r v8 (nR R1))), (9, .c (.r v9 (nR R2))), (10, .c (I e)), (11, .c (.r v11 (prRs rr))), (12, .c (I e)), (13, .c (.r v13 (prRs rj))), (14, .c (I e)), (15, .c (I px)), (16, .c (I py)), (17, .c (I ej)), (18, .c (.r v18 (prRs rp))), (19, .c (I e)), (20, .c (I uu)), (21, .c (I ue)), (22, .c (I e)), (23, .c (I two)), (24, .c (I three)), (25, .c (.r v25 (nR R1))), (26, .c (.r v26 (nR R2))), (27, .c (.r v27 (prRs rr))), (28, .c (.r v28 (prRs rj))), (29, .c (.r v29 (prRs rp)))] ∧ H = []) ?_ ?_ wk_aw
 ·refine zu rfl (fun h0 => ?_) (fun h0 => ?_)
  ·subst h0
   have hc := zf1 he
   rw [if_pos rfl] at hR1 hR2
   have hd1 := refusedD_v va la at_ hc
   rw [← hR1, ← hR2] at hd1
   have hd2 := RunningJobsD_v va la at_ hc
   have hd3 := JobStatesD_v va la at_ hc
   have hd4 := filamentD_v va la at_ hc
   have hS2 : ∀ l2 : List Pr, l2.Perm ((bksF la (cntP at_ la)).1.js.filterMap rnPr) → (l2.Pairwise fun a b => ¬ cmpB b.1 a.1 < 0) → l2 = rr := fun l2 h1 h2 => run_same (by rw [he]; exact hrr) he h1 h2
   have hS3 : ∀ l2 : List Pr, l2.Perm ((bksF la (cntP at_ la)).1.js.filterMap stPr) → (l2.Pairwise fun a b => ¬ cmpB b.1 a.1 < 0) → l2 = rj := fun l2 h1 h2 => map_same hrj rfl h1 h2
   have hS4 : ∀ l2 : List Pr, l2.Perm ((bksF la (cntP at_ la)).1.sp.map (flPr (bksF la (cntP at_ la)).1.lf)) → (l2.Pairwise fun a b => ¬ cmpB b.1 a.1 < 0) → l2 = rp := fun l2 h1 h2 => map_same hrp rfl h1 h2
   refine WR ?_
   refine zf rfl (zc false (fun _ => hd1) rfl .fn rfl (by decide) (by kernel_rfl) rfl (fun _ => C0 rfl) (by simp)) ?_
   rintro _ _ ⟨_, _, _, ⟨R1b, R2b, d1, d2, hR1b, hR2b, _, _, hd1c, hd2c, rfl, rfl⟩, hF, hH⟩
   (refine NST hF hH ?_; clear hF hH; rintro rfl rfl)
   refine WE ?_
   subst hR1b; subst hR2b
   refine WR ?_
   refine zf rfl (zc false (fun _ => hd2) rfl .fn rfl (by decide) (by kernel_rfl) rfl (fun _ => C0 rfl) (by simp)) ?_
   rintro _ _ ⟨_, _, _, ⟨l2, d3, ⟨g1, g2⟩, _, hd3c, rfl, rfl⟩, hF, hH⟩
   (refine NST hF hH ?_; clear hF hH; rintro rfl rfl)
   refine WO ?_
   refine zf rfl (zc false (fun _ => hd3) rfl .fn rfl (by decide) (by kernel_rfl) rfl (fun _ => C0 rfl) (by simp)) ?_
   rintro _ _ ⟨_, _, _, ⟨l3, d4, ⟨g3, g4⟩, _, hd4c, rfl, rfl⟩, hF, hH⟩
   (refine NST hF hH ?_; clear hF hH; rintro rfl rfl)
   refine WO ?_
   refine zf rfl (zQ3 TabX (hX _ _) false (fun _ => hd4) rfl .fn rfl (by decide) (by kernel_rfl) rfl (fun _ => C0 rfl) (by simp)) ?_
   rintro _ _ ⟨_, _, _, ⟨l4, d5, ⟨g5, g6⟩, _, hd5c, rfl, rfl⟩, hF, hH⟩
   (refine NST hF hH ?_; clear hF hH; rintro rfl rfl)
   refine WE ?_
   obtain rfl := hS2 _ g1 g2
   obtain rfl := hS3 _ g3 g4
   obtain rfl := hS4 _ g5 g6
   exact zn [] (fun g => [(4, .c (.r va (noRs la))), (5, .c (I at_)), (6, .c (T job)), (7, .c (T sn)), (8, .c (.r v8 (nR R1b))), (9, .c (.r v9 (nR R2b))), (10, .c (I 0)), (11, .c (.r v11 (prRs l2))), (12, .c (I 0)), (13, .c (.r v13 (prRs l3))), (14, .c (I 0)), (15, .c (I px)), (16, .c (I py)), (17, .c (I ej)), (18, .c (.r v18 (prRs l4))), (19, .c (I 0)), (20, .c (I uu)), (21, .c (I ue)), (22, .c (I 0)), (23, .c (I two)), (24, .c (I three)), (25, .c (.r (g (.o 0 0 R1b.length d1)) (nR R1b))), (26, .c (.r (g (.o 1 0 R2b.length d2)) (nR R2b))), (27, .c (.r (g (.o 2 0 l2.length d3)) (prRs l2))), (28, .c (.r (g (.o 3 0 l3.length d4)) (prRs l3))), (29, .c (.r (g (.o 4 0 l4.length d5)) (prRs l4)))]) (fun _ => []) (by decide) (ZNL hE) (fun _ => .cons rfl (.c rfl) (.cons rfl (.c rfl) (.cons rfl (.c rfl) (.cons rfl (.c rfl) (.cons rfl (.c rfl) (.cons rfl (.c rfl) (.cons rfl (.c rfl) (.cons rfl (.c rfl) (.cons rfl (.c rfl) (.cons rfl (.c rfl) (.cons rfl (.c rfl) (.cons rfl (.c rfl) (.cons rfl (.c rfl) (.cons rfl (.c rfl) (.cons rfl (.c rfl) (.cons rfl (.c rfl) (.cons rfl (.c rfl) (.cons rfl (.c rfl) (.cons rfl (.c rfl) (.cons rfl (.c rfl) (.cons rfl (.c rfl) (.cons rfl (.frz rfl rfl (by rw [List.drop_zero, List.take_of_length_le (by simp)]) (by simp) rfl) (.cons rfl (.frz rfl rfl (by rw [List.drop_zero, List.take_of_length_le (by simp)]) (by simp) rfl) (.cons rfl (.frz rfl rfl (by rw [List.drop_zero, List.take_of_length_le (by simp)]) (by simp) rfl) (.cons rfl (.frz rfl rfl (by rw [List.drop_zero, List.take_of_length_le (by simp)]) (by simp) rfl) (.cons rfl (.frz rfl rfl (by rw [List.drop_zero, List.take_of_length_le (by simp)]) (by simp) rfl) .nil)))))))))))))))))))))))))) (fun _ => .nil) (fun _ => ⟨_, _, _, _, _, rfl, rfl⟩)
  ·obtain rfl : R1 = [] := by rw [hR1, if_neg h0]
   obtain rfl : R2 = [] := by rw [hR2, if_neg h0]
   obtain rfl : rr = [] := hrr.elim (fun h => h.2) (fun h => absurd h.1 h0)
   obtain rfl : rj = [] := hrj.elim (fun h => h.2) (fun h => absurd h.1 h0)
   obtain rfl : rp = [] := hrp.elim (fun h => h.2) (fun h => absurd h.1 h0)
   refine ZZ ?_
   exact zn [] (fun _ => [(4, .c (.r va (noRs la))), (5, .c (I at_)), (6, .c (T job)), (7, .c (T sn)), (8, .c (.r v8 (nR []))), (9, .c (.r v9 (nR []))), (10, .c (I e)), (11, .c (.r v11 (prRs []))), (12, .c (I e)), (13, .c (.r v13 (prRs []))), (14, .c (I e)), (15, .c (I px)), (16, .c (I py)), (17, .c (I ej)), (18, .c (.r v18 (prRs []))), (19, .c (I e)), (20, .c (I uu)), (21, .c (I ue)), (22, .c (I e)), (23, .c (I two)), (24, .c (I three)), (25, .c (.r (.slice none 0 0) (nR []))), (26, .c (.r (.slice none 0 0) (nR []))), (27, .c (.r (.slice none 0 0) (prRs []))), (28, .c (.r (.slice none 0 0) (prRs []))), (29, .c (.r (.slice none 0 0) (prRs [])))]) (fun _ => []) (by decide) (ZNL hE) (fun _ => .cons rfl (.c rfl) (.cons rfl (.c rfl) (.cons rfl (.c rfl) (.cons rfl (.c rfl) (.cons rfl (.c rfl) (.cons rfl (.c rfl) (.cons rfl (.c rfl) (.cons rfl (.c rfl) (.cons rfl (.c rfl) (.cons rfl (.c rfl) (.cons rfl (.c rfl) (.cons rfl (.c rfl) (.cons rfl (.c rfl) (.cons rfl (.c rfl) (.cons rfl (.c rfl) (.cons rfl (.c rfl) (.cons rfl (.c rfl) (.cons rfl (.c rfl) (.cons rfl (.c rfl) (.cons rfl (.c rfl) (.cons rfl (.c rfl) (.cons rfl (.c rfl) (.cons rfl (.c rfl) (.cons rfl (.c rfl) (.cons rfl (.c rfl) (.cons rfl (.c rfl) .nil)))))))))))))))))))))))))) (fun _ => .nil) (fun _ => ⟨_, _, _, _, _, rfl, rfl⟩)
 rintro F H ⟨v25, v26, v27, v28, v29, rfl, rfl⟩
 refine ZZ ?_
 refine WA ?_
 refine WA ?_
 refine zv3 (fun F H => F = [(4, .c (.r va (noRs la))), (5, .c (I at_)), (6, .c (T job)), (7, .c (T sn)), (8, .c (.r v8 (nR R1))), (9, .c (.r v9 (nR R2))), (10, .c (I e)), (11, .c (.r v11 (prRs rr))), (12, .c (I e)), (13, .c (.r v13 (prRs rj))), (14, .c (I e)), (15, .c (I px)), (16, .c (I py)), (17, .c (I ej)), (18, .c (.r v18 (prRs rp))), (19, .c (I e)), (20, .c (I uu)), (21, .c (I ue)), (22, .c (I e)), (23, .c (I ej)), (24, .c (I three)), (25, .c (.r v25 (nR R1))), (26, .c (.r v26 (nR R2))), (27, .c (.r v27 (prRs rr))), (28, .c (.r v28 (prRs rj))), (29, .c (.r v29 (prRs rp))), (30, .c (I px)), (31, .c (I py)), (32, .c (I 0))] ∧ H = []) ?_ ?_ wk_aw
 ·refine zu rfl (fun h0 => ?_) (fun h0 => ?_)
  ·have he0 : e = 0 := by rw [← h2] at h0; split at h0 <;> omega
   have hkb : keyB job = true := by
    rw [h0, if_neg (by omega)] at h2
    unfold keyE at h2
    by_cases hk : keyB job = true
    ·exact hk
    ·rw [if_neg hk] at h2; cases h2
   have hc := zf1 (he.trans he0)
   cases hj : jobJ la job at_ with
   | none =>
    have hjn := jobE_none (he.trans he0) hkb hj
    rw [hej, hpg] at hjn
    obtain ⟨rfl, hpp⟩ := hjn
    injection hpp with hp1 hp2
    subst hp1; subst hp2
    have hd5 := progressD_no va la at_ hc job hj
    refine WA ?_
    refine WR ?_
    refine zf rfl (zc false (fun _ => hd5) rfl .fn rfl (by decide) (by kernel_rfl) rfl (fun _ => C0 rfl) (by simp)) ?_
    rintro _ _ ⟨_, _, _, ⟨rfl, rfl⟩, hF, hH⟩
    (refine NST hF hH ?_; clear hF hH; rintro rfl rfl)
    refine WE ?_
    refine WA ?_
    refine zb rfl ?_
    refine WA ?_
    exact zn [] (fun _ => [(4, .c (.r va (noRs la))), (5, .c (I at_)), (6, .c (T job)), (7, .c (T sn)), (8, .c (.r v8 (nR R1))), (9, .c (.r v9 (nR R2))), (10, .c (I e)), (11, .c (.r v11 (prRs rr))), (12, .c (I e)), (13, .c (.r v13 (prRs rj))), (14, .c (I e)), (15, .c (I 0)), (16, .c (I 0)), (17, .c (I 8)), (18, .c (.r v18 (prRs rp))), (19, .c (I e)), (20, .c (I uu)), (21, .c (I ue)), (22, .c (I e)), (23, .c (I 8)), (24, .c (I three)), (25, .c (.r v25 (nR R1))), (26, .c (.r v26 (nR R2))), (27, .c (.r v27 (prRs rr))), (28, .c (.r v28 (prRs rj))), (29, .c (.r v29 (prRs rp))), (30, .c (I 0)), (31, .c (I 0)), (32, .c (I 0))]) (fun _ => []) (by decide) (ZNL hE) (fun _ => .cons rfl (.c rfl) (.cons rfl (.c rfl) (.cons rfl (.c rfl) (.cons rfl (.c rfl) (.cons rfl (.c rfl) (.cons rfl (.c rfl) (.cons rfl (.c rfl) (.cons rfl (.c rfl) (.cons rfl (.c rfl) (.cons rfl (.c rfl) (.cons rfl (.c rfl) (.cons rfl (.c rfl) (.cons rfl (.c rfl) (.cons rfl (.c rfl) (.cons rfl (.c rfl) (.cons rfl (.c rfl) (.cons rfl (.c rfl) (.cons rfl (.c rfl) (.cons rfl (.c rfl) (.cons rfl (.c rfl) (.cons rfl (.c rfl) (.cons rfl (.c rfl) (.cons rfl (.c rfl) (.cons rfl (.c rfl) (.cons rfl (.c rfl) (.cons rfl (.c rfl) (.cons rfl (.c rfl) (.cons rfl (.c rfl) (.cons rfl (.c rfl) .nil))))))))))))))))))))))))))))) (fun _ => .nil) (fun _ => ⟨rfl, rfl⟩)
   | some j =>
    have hjn := jobE_some (he.trans he0) hkb hj
    rw [hej, hpg] at hjn
    obtain ⟨rfl, hpp⟩ := hjn
    injection hpp with hp1 hp2
    subst hp1; subst hp2
    have hd5 := progressD_some va la at_ hc job j hj
    refine WA ?_
    refine WR ?_
    refine zf rfl (zc false (fun _ => hd5) rfl .fn rfl (by decide) (by kernel_rfl) rfl (fun _ => C0 rfl) (by simp)) ?_
    rintro _ _ ⟨_, _, _, ⟨rfl, rfl⟩, hF, hH⟩
    (refine NST hF hH ?_; clear hF hH; rintro rfl rfl)
    refine WE ?_
    refine WA ?_
    refine za rfl ?_
    refine ZZ ?_
    rw [h0]
    exact zn [] (fun _ => [(4, .c (.r va (noRs la))), (5, .c (I at_)), (6, .c (T job)), (7, .c (T sn)), (8, .c (.r v8 (nR R1))), (9, .c (.r v9 (nR R2))), (10, .c (I e)), (11, .c (.r v11 (prRs rr))), (12, .c (I e)), (13, .c (.r v13 (prRs rj))), (14, .c (I e)), (15, .c (I j.ly.length)), (16, .c (I j.all)), (17, .c (I 0)), (18, .c (.r v18 (prRs rp))), (19, .c (I e)), (20, .c (I uu)), (21, .c (I ue)), (22, .c (I e)), (23, .c (I 0)), (24, .c (I three)), (25, .c (.r v25 (nR R1))), (26, .c (.r v26 (nR R2))), (27, .c (.r v27 (prRs rr))), (28, .c (.r v28 (prRs rj))), (29, .c (.r v29 (prRs rp))), (30, .c (I j.ly.length)), (31, .c (I j.all)), (32, .c (I 0))]) (fun _ => []) (by decide) (ZNL hE) (fun _ => .cons rfl (.c rfl) (.cons rfl (.c rfl) (.cons rfl (.c rfl) (.cons rfl (.c rfl) (.cons rfl (.c rfl) (.cons rfl (.c rfl) (.cons rfl (.c rfl) (.cons rfl (.c rfl) (.cons rfl (.c rfl) (.cons rfl (.c rfl) (.cons rfl (.c rfl) (.cons rfl (.c rfl) (.cons rfl (.c rfl) (.cons rfl (.c rfl) (.cons rfl (.c rfl) (.cons rfl (.c rfl) (.cons rfl (.c rfl) (.cons rfl (.c rfl) (.cons rfl (.c rfl) (.cons rfl (.c rfl) (.cons rfl (.c rfl) (.cons rfl (.c rfl) (.cons rfl (.c rfl) (.cons rfl (.c rfl) (.cons rfl (.c rfl) (.cons rfl (.c rfl) (.cons rfl (.c rfl) (.cons rfl (.c rfl) (.cons rfl (.c rfl) .nil))))))))))))))))))))))))))))) (fun _ => .nil) (fun _ => ⟨rfl, rfl⟩)
  ·have hjn := jobE_no (l := la) (s := job) (at_ := at_) (by rw [he, h2]; exact h0)
   rw [hej, hpg, he, h2] at hjn
   obtain ⟨rfl, hpp⟩ := hjn
   injection hpp with hp1 hp2
   subst hp1; subst hp2
   refine ZZ ?_
   exact zn [] (fun _ => [(4, .c (.r va (noRs la))), (5, .c (I at_)), (6, .c (T job)), (7, .c (T sn)), (8, .c (.r v8 (nR R1))), (9, .c (.r v9 (nR R2))), (10, .c (I e)), (11, .c (.r v11 (prRs rr))), (12, .c (I e)), (13, .c (.r v13 (prRs rj))), (14, .c (I e)), (15, .c (I 0)), (16, .c (I 0)), (17, .c (I ej)), (18, .c (.r v18 (prRs rp))), (19, .c (I e)), (20, .c (I uu)), (21, .c (I ue)), (22, .c (I e)), (23, .c (I ej)), (24, .c (I three)), (25, .c (.r v25 (nR R1))), (26, .c (.r v26 (nR R2))), (27, .c (.r v27 (prRs rr))), (28, .c (.r v28 (prRs rj))), (29, .c (.r v29 (prRs rp))), (30, .c (I 0)), (31, .c (I 0)), (32, .c (I 0))]) (fun _ => []) (by decide) (ZNL hE) (fun _ => .cons rfl (.c rfl) (.cons rfl (.c rfl) (.cons rfl (.c rfl) (.cons rfl (.c rfl) (.cons rfl (.c rfl) (.cons rfl (.c rfl) (.cons rfl (.c rfl) (.cons rfl (.c rfl) (.cons rfl (.c rfl) (.cons rfl (.c rfl) (.cons rfl (.c rfl) (.cons rfl (.c rfl) (.cons rfl (.c rfl) (.cons rfl (.c rfl) (.cons rfl (.c rfl) (.cons rfl (.c rfl) (.cons rfl (.c rfl) (.cons rfl (.c rfl) (.cons rfl (.c rfl) (.cons rfl (.c rfl) (.cons rfl (.c rfl) (.cons rfl (.c rfl) (.cons rfl (.c rfl) (.cons rfl (.c rfl) (.cons rfl (.c rfl) (.cons rfl (.c rfl) (.cons rfl (.c rfl) (.cons rfl (.c rfl) (.cons rfl (.c rfl) .nil))))))))))))))))))))))))))))) (fun _ => .nil) (fun _ => ⟨rfl, rfl⟩)
 rintro F H ⟨rfl, rfl⟩
 refine ZZ ?_
 refine WA ?_
 refine zv3 (fun F H => F = [(4, .c (.r va (noRs la))), (5, .c (I at_)), (6, .c (T job)), (7, .c (T sn)), (8, .c (.r v8 (nR R1))), (9, .c (.r v9 (nR R2))), (10, .c (I e)), (11, .c (.r v11 (prRs rr))), (12, .c (I e)), (13, .c (.r v13 (prRs rj))), (14, .c (I e)), (15, .c (I px)), (16, .c (I py)), (17, .c (I ej)), (18, .c (.r v18 (prRs rp))), (19, .c (I e)), (20, .c (I uu)), (21, .c (I ue)), (22, .c (I e)), (23, .c (I ej)), (24, .c (I ue)), (25, .c (.r v25 (nR R1))), (26, .c (.r v26 (nR R2))), (27, .c (.r v27 (prRs rr))), (28, .c (.r v28 (prRs rj))), (29, .c (.r v29 (prRs rp))), (30, .c (I px)), (31, .c (I py)), (32, .c (I uu))] ∧ H = []) ?_ ?_ wk_aw
 ·refine zu rfl (fun h0 => ?_) (fun h0 => ?_)
  ·have he0 : e = 0 := by rw [← h3] at h0; split at h0 <;> omega
   have hc := zf1 (he.trans he0)
   have hun := usd_ok (l := la) (s := sn) (at_ := at_) (by rw [he, h3]; exact h0)
   rw [hus] at hun
   injection hun with hu1 hu2
   subst hu2
   have hd6 := usedD_v va la at_ hc sn
   rw [← hu1] at hd6
   refine WR ?_
   refine zf rfl (zc false (fun _ => hd6) rfl .fn rfl (by decide) (by kernel_rfl) rfl (fun _ => C0 rfl) (by simp)) ?_
   rintro _ _ ⟨_, _, _, ⟨rfl, rfl⟩, hF, hH⟩
   (refine NST hF hH ?_; clear hF hH; rintro rfl rfl)
   refine WE ?_
   rw [h0]
   exact zn [] (fun _ => [(4, .c (.r va (noRs la))), (5, .c (I at_)), (6, .c (T job)), (7, .c (T sn)), (8, .c (.r v8 (nR R1))), (9, .c (.r v9 (nR R2))), (10, .c (I e)), (11, .c (.r v11 (prRs rr))), (12, .c (I e)), (13, .c (.r v13 (prRs rj))), (14, .c (I e)), (15, .c (I px)), (16, .c (I py)), (17, .c (I ej)), (18, .c (.r v18 (prRs rp))), (19, .c (I e)), (20, .c (I uu)), (21, .c (I 0)), (22, .c (I e)), (23, .c (I ej)), (24, .c (I 0)), (25, .c (.r v25 (nR R1))), (26, .c (.r v26 (nR R2))), (27, .c (.r v27 (prRs rr))), (28, .c (.r v28 (prRs rj))), (29, .c (.r v29 (prRs rp))), (30, .c (I px)), (31, .c (I py)), (32, .c (I uu))]) (fun _ => []) (by decide) (ZNL hE) (fun _ => .cons rfl (.c rfl) (.cons rfl (.c rfl) (.cons rfl (.c rfl) (.cons rfl (.c rfl) (.cons rfl (.c rfl) (.cons rfl (.c rfl) (.cons rfl (.c rfl) (.cons rfl (.c rfl) (.cons rfl (.c rfl) (.cons rfl (.c rfl) (.cons rfl (.c rfl) (.cons rfl (.c rfl) (.cons rfl (.c rfl) (.cons rfl (.c rfl) (.cons rfl (.c rfl) (.cons rfl (.c rfl) (.cons rfl (.c rfl) (.cons rfl (.c rfl) (.cons rfl (.c rfl) (.cons rfl (.c rfl) (.cons rfl (.c rfl) (.cons rfl (.c rfl) (.cons rfl (.c rfl) (.cons rfl (.c rfl) (.cons rfl (.c rfl) (.cons rfl (.c rfl) (.cons rfl (.c rfl) (.cons rfl (.c rfl) (.cons rfl (.c rfl) .nil))))))))))))))))))))))))))))) (fun _ => .nil) (fun _ => ⟨rfl, rfl⟩)
  ·have hun := usd_no (l := la) (s := sn) (at_ := at_) (by rw [he, h3]; exact h0)
   rw [hus, he, h3] at hun
   injection hun with hu1 hu2
   subst hu1; subst hu2
   refine ZZ ?_
   exact zn [] (fun _ => [(4, .c (.r va (noRs la))), (5, .c (I at_)), (6, .c (T job)), (7, .c (T sn)), (8, .c (.r v8 (nR R1))), (9, .c (.r v9 (nR R2))), (10, .c (I e)), (11, .c (.r v11 (prRs rr))), (12, .c (I e)), (13, .c (.r v13 (prRs rj))), (14, .c (I e)), (15, .c (I px)), (16, .c (I py)), (17, .c (I ej)), (18, .c (.r v18 (prRs rp))), (19, .c (I e)), (20, .c (I 0)), (21, .c (I ue)), (22, .c (I e)), (23, .c (I ej)), (24, .c (I ue)), (25, .c (.r v25 (nR R1))), (26, .c (.r v26 (nR R2))), (27, .c (.r v27 (prRs rr))), (28, .c (.r v28 (prRs rj))), (29, .c (.r v29 (prRs rp))), (30, .c (I px)), (31, .c (I py)), (32, .c (I 0))]) (fun _ => []) (by decide) (ZNL hE) (fun _ => .cons rfl (.c rfl) (.cons rfl (.c rfl) (.cons rfl (.c rfl) (.cons rfl (.c rfl) (.cons rfl (.c rfl) (.cons rfl (.c rfl) (.cons rfl (.c rfl) (.cons rfl (.c rfl) (.cons rfl (.c rfl) (.cons rfl (.c rfl) (.cons rfl (.c rfl) (.cons rfl (.c rfl) (.cons rfl (.c rfl) (.cons rfl (.c rfl) (.cons rfl (.c rfl) (.cons rfl (.c rfl) (.cons rfl (.c rfl) (.cons rfl (.c rfl) (.cons rfl (.c rfl) (.cons rfl (.c rfl) (.cons rfl (.c rfl) (.cons rfl (.c rfl) (.cons rfl (.c rfl) (.cons rfl (.c rfl) (.cons rfl (.c rfl) (.cons rfl (.c rfl) (.cons rfl (.c rfl) (.cons rfl (.c rfl) (.cons rfl (.c rfl) .nil))))))))))))))))))))))))))))) (fun _ => .nil) (fun _ => ⟨rfl, rfl⟩)
 rintro F H ⟨rfl, rfl⟩
 refine ZZ ?_
 have k1 : e = e := rfl
 have k2 : ej = ej := rfl
 have k3 : px = px := rfl
 have k4 : py = py := rfl
 have k5 : uu = uu := rfl
 have k6 : ue = ue := rfl
 have hq1 := ACallsX.mono (eqJ_a R1 R1 v8 v25 (by omega) (by omega)) (Q' := fun u H => u = .c (B true) ∧ H = []) (fun u H ⟨b, hu, hH, hb⟩ => ⟨by rw [hu, hb.2 rfl], hH⟩)
 have hq2 := ACallsX.mono (eqE_a R2 R2 v9 v26 (by omega) (by omega)) (Q' := fun u H => u = .c (B true) ∧ H = []) (fun u H ⟨b, hu, hH, hb⟩ => ⟨by rw [hu, hb.2 rfl], hH⟩)
 have hq3 := equalP_v v11 v27 rr rr (by omega) (by omega)
 have hq4 := equalP_v v13 v28 rj rj (by omega) (by omega)
 have hq5 := equalP_v v18 v29 rp rp (by omega) (by omega)
 rw [decide_eq_true rfl] at hq3 hq4 hq5
 clear hR1 hR2 hrr hrj hrp he hej hpg hus h2 h3 hask
 refine WR ?_
 refine G1 rfl ?_
 refine zf rfl (zc false (fun _ => hq1) rfl .fn rfl (by decide) (by kernel_rfl) rfl (fun _ => C0 rfl) (by simp)) ?_
 rintro _ _ ⟨_, _, _, ⟨rfl, rfl⟩, hF, hH⟩
 (refine NST hF hH ?_; clear hF hH; rintro rfl rfl)
 refine WO ?_
 refine G1 rfl ?_
 refine zf rfl (zc false (fun _ => hq2) rfl .fn rfl (by decide) (by kernel_rfl) rfl (fun _ => C0 rfl) (by simp)) ?_
 rintro _ _ ⟨_, _, _, ⟨rfl, rfl⟩, hF, hH⟩
 (refine NST hF hH ?_; clear hF hH; rintro rfl rfl)
 refine WO ?_
 refine G1 rfl ?_
 refine zf rfl (zc false (fun _ => hq3) rfl .fn rfl (by decide) (by kernel_rfl) rfl (fun _ => C0 rfl) (by simp)) ?_
 rintro _ _ ⟨_, _, _, ⟨rfl, rfl⟩, hF, hH⟩
 (refine NST hF hH ?_; clear hF hH; rintro rfl rfl)
 refine WO ?_
 refine G1 rfl ?_
 refine zf rfl (zc false (fun _ => hq4) rfl .fn rfl (by decide) (by kernel_rfl) rfl (fun _ => C0 rfl) (by simp)) ?_
 rintro _ _ ⟨_, _, _, ⟨rfl, rfl⟩, hF, hH⟩
 (refine NST hF hH ?_; clear hF hH; rintro rfl rfl)
 refine WO ?_
 refine G1 rfl ?_
 refine zf rfl (zc false (fun _ => hq5) rfl .fn rfl (by decide) (by kernel_rfl) rfl (fun _ => C0 rfl) (by simp)) ?_
 rintro _ _ ⟨_, _, _, ⟨rfl, rfl⟩, hF, hH⟩
 (refine NST hF hH ?_; clear hF hH; rintro rfl rfl)
 refine WO ?_
 refine G1 rfl ?_
 refine zf rfl (zc false (fun _ => noted_j) rfl .fn rfl (by decide) (by kernel_rfl) rfl (fun _ => C0 rfl) (by simp)) ?_
 rintro _ _ ⟨_, _, _, ⟨rfl, rfl⟩, hF, hH⟩
 (refine NST hF hH ?_; clear hF hH; rintro rfl rfl)
 refine WE ?_
 exact ze [] _ rfl rfl rfl (by decide) (ZNK rfl) (fun _ => .nil) rfl
end Go.Proofs.YtcdeonjdipcgpaaGreatDoor
namespace Go.Proofs.YtcdeonjdipcgpaaGreatDoor
open Go Go.RowKit
set_option maxRecDepth 100000
theorem tab_of {W : World} {r : List (String × DataW Unit)} (h : laidMet Tryz.prog (("internal/strconv.uint64pow10", Lib.tabData .u64 Lib.pow10Tab) :: r) W) : TabX W :=
 Lib.tabIs_of_head (g := 3) (t := 365) (e := 265) (n := 20) (by kernel_rfl) (by kernel_rfl) (by kernel_rfl) (by kernel_rfl) (by kernel_rfl) (by kernel_rfl) h
theorem jobsFollowed_tab {W : World} (h : laidMetH Tryz.prog Rows.jobsFollowedRow.laid W) : TabX W := by
 rw [MakeChecks.laidMetH_plain _ _ _ (by kernel_rfl)] at h
 have h2 := laidMet.tail (laidMet.tail h)
 exact tab_of h2
end Go.Proofs.YtcdeonjdipcgpaaGreatDoor
