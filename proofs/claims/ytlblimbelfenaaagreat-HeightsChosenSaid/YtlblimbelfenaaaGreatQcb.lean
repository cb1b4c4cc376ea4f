/- The law HeightsChosen, walked. -/
import Derived.Test.YtlblimbelfenaaaGreatQbl
import Derived.Test.YtlblimbelfenaaaGreatQbn
import Derived.Test.YtlblimbelfenaaaGreatQbz
import Derived.Test.YtlblimbelfenaaaGreatQca
set_option linter.unusedSimpArgs false
set_option linter.unusedVariables false
/- The law HeightsChosen, walked. -/
-- NEWM
namespace Go.Proofs.YtlblimbelfenaaaGreat
open Go Go.RowKit
set_option maxRecDepth 100000
theorem out_of {n lo hi : Int} (h : outH n lo hi = false) : ¬ n < lo ∧ ¬ hi < n := by simpa [outH] using h
theorem hgt_ok (V : List Vec3) (Fs : List Fac3) (fr st : Int) : (fst0 [mshF V Fs, hfF [fr, st]] = 0 → mshF V Fs = 0 ∧ (¬ fr < 1 ∧ ¬ 10000 < fr) ∧ (¬ st < 1 ∧ ¬ 10000 < st) ∧ hgtP V Fs fr st = hgtR V Fs fr st) ∧ (fst0 [mshF V Fs, hfF [fr, st]] ≠ 0 → hgtP V Fs fr st = ([], fst0 [mshF V Fs, hfF [fr, st]])) := by
  by_cases h0 : mshF V Fs = 0
  · cases h1 : outH fr 1 10000 <;> cases h2 : outH st 1 10000 <;> simp [fst0, hfF, spnF, hgtP, h0, h1, h2]
    have g1 := out_of h1; have g2 := out_of h2
    omega
  · simp [fst0, hgtP, h0]
theorem adp_ok (V : List Vec3) (Fs : List Fac3) (le mo off : Int) : (fst0 [mshF V Fs, fst0 [spnF le 1 10000, spnF mo le 10000, spnF off 0 10000]] = 0 → mshF V Fs = 0 ∧ (¬ le < 1 ∧ ¬ 10000 < le) ∧ (¬ mo < le ∧ ¬ 10000 < mo) ∧ (¬ off < 0 ∧ ¬ 10000 < off) ∧ adpP V Fs le mo off = adpR V Fs le mo off) ∧ (fst0 [mshF V Fs, fst0 [spnF le 1 10000, spnF mo le 10000, spnF off 0 10000]] ≠ 0 → adpP V Fs le mo off = ([], fst0 [mshF V Fs, fst0 [spnF le 1 10000, spnF mo le 10000, spnF off 0 10000]])) := by
  by_cases h0 : mshF V Fs = 0
  · cases h1 : outH le 1 10000 <;> cases h2 : outH mo le 10000 <;> cases h3 : outH off 0 10000 <;> simp [fst0, spnF, adpP, h0, h1, h2, h3]
    have g1 := out_of h1; have g2 := out_of h2; have g3 := out_of h3
    omega
  · simp [fst0, adpP, h0]
theorem hgtP_len (V : List Vec3) (Fs : List Fac3) (fr st : Int) : (hgtP V Fs fr st).1.length ≤ 1000 := by
  unfold hgtP
  split
  · simp
  · split
    · simp
    · unfold hgtR
      split
      · simp
      · rw [hsL_len]; omega
theorem adpP_len (V : List Vec3) (Fs : List Fac3) (le mo off : Int) : (adpP V Fs le mo off).1.length ≤ 1000 := by
  unfold adpP
  split
  · simp
  · split
    · simp
    · unfold adpR
      split
      · simp
      · simp only; omega
theorem compL_le : ∀ l : List Int, (compL l).length ≤ l.length
  | [] => by simp [compL]
  | [x] => by simp [compL]
  | x :: y :: l => by
    have := compL_le (y :: l)
    unfold compL
    split
    · simp only [List.length_cons] at *; omega
    · simp only [List.length_cons] at *; omega
theorem lvlP_len (V : List Vec3) (Fs : List Fac3) : (lvlP V Fs).1.length ≤ 3 * Fs.length := by
  unfold lvlP
  split
  · simp
  · have h1 := compL_le (srtL (zs V Fs))
    rw [srt_len, zs_len] at h1
    exact h1
set_option maxHeartbeats 8000000 in
theorem law_heights (v : Value) (zs : List Int) (hs : StrOk zs) : ACalls Tryz.prog 5 [.c (.r v (zs.map fun z => [I z]))] [] fun u H => u = .c (B true) := by
  refine acalls_of (N := 132) Tryz.func5 rfl rfl (by simp) fun E hE => ?_
  refine WA ?_
  refine WA ?_
  refine WR ?_
  refine al_ef rfl (ef_callm false (fun _ => amesh_v _ _ _ hs (by omega) (by omega)) rfl .fn rfl (by decide) (by kernel_rfl) rfl rfl (fun _g => .cons (.p rfl) .nil) (fun _g => .cons (.c rfl) (.cons (.c rfl) .nil)) (by simp)) ?_
  rintro F1 H1 ⟨_, _, _, _, ⟨a2, q, w, V, Fs, rfl, hq, ha3, ha4, hV, hFl⟩, hF, hH⟩
  injection hq with hq1 hq2; subst hq1; subst hq2
  (try simp only [nsl, Nat.reduceAdd, Nat.reduceLT, Nat.reduceSub] at hF); (try simp only [nsl, Nat.reduceAdd, Nat.reduceLT, Nat.reduceSub] at hH); subst hF; subst hH
  refine WE ?_
  refine WR ?_
  refine al_ef rfl (ef_callm false (fun _ => flip_a 2 _ _ _ hs (by omega) (by omega) (by simp only [in64]; omega)) rfl .fn rfl (by decide) (by kernel_rfl) rfl rfl (fun _g => .cons (.p rfl) (.cons (.c rfl) .nil)) (fun _g => .cons (.c rfl) (.cons (.c rfl) .nil)) (by simp)) ?_
  rintro F1 H1 ⟨_, _, _, _, ⟨bb, rfl, hq⟩, hF, hH⟩
  injection hq with hq1 hq2; subst hq1; subst hq2
  (try simp only [nsl, Nat.reduceAdd, Nat.reduceLT, Nat.reduceSub] at hF); (try simp only [nsl, Nat.reduceAdd, Nat.reduceLT, Nat.reduceSub] at hH); subst hF; subst hH
  refine WE ?_
  refine aw_cut (fun F H => ∃ (a' : Int) (q w : Value) (V : List Vec3) (Fs : List Fac3), 0 ≤ a' ∧ a' ≤ 100000 ∧ V.length ≤ 16 ∧ Fs.length ≤ 25 ∧ F = [(3, .p 0 0 0), (4, .p 1 0 0)] ∧ H = [strm v zs a', mBox q w V (fR Fs)]) ?_ ?_ wk_aw
  · refine aw_cond rfl (fun _ => ?_) (fun _ => ?_)
    · refine WR ?_
      refine al_ef rfl (ef_callm false (fun _ => closedmesh_v _ _ _ hs (by omega) (by omega)) rfl .fn rfl (by decide) (by kernel_rfl) rfl rfl (fun _g => .cons (.p rfl) .nil) (fun _g => .cons (.c rfl) (.cons (.c rfl) .nil)) (by simp)) ?_
      rintro F1 H1 ⟨_, _, _, _, ⟨a3, q3, w3, V3', Fs3, rfl, hq, ha5, ha6, hV3, hFl3, hmf, hop⟩, hF, hH⟩
      injection hq with hq1 hq2; subst hq1; subst hq2
      (try simp only [nsl, Nat.reduceAdd, Nat.reduceLT, Nat.reduceSub] at hF); (try simp only [nsl, Nat.reduceAdd, Nat.reduceLT, Nat.reduceSub] at hH); subst hF; subst hH
      refine WE ?_
      refine wk_of [some 0, some 1] (fun _ => [(3, .p 0 0 0), (4, .p 1 0 0)]) (fun _ => [strm v zs _, mBox q3 w3 V3' (fR Fs3)]) (by decide) (ZNL hE) ZCF ZCH (fun _ => ?_)
      exact ⟨_, q3, w3, V3', Fs3, by omega, by omega, hV3, hFl3, rfl, rfl⟩
    · refine ZZ ?_
      refine wk_of [some 0, some 1] (fun _ => [(3, .p 0 0 0), (4, .p 1 0 0)]) (fun _ => [strm v zs _, mBox q w V (fR Fs)]) (by decide) (ZNL hE) ZCF ZCH (fun _ => ?_)
      exact ⟨_, q, w, V, Fs, by omega, by omega, hV, hFl, rfl, rfl⟩
  clear ha3 ha4 hV hFl
  rintro F H ⟨a', q, w, V, Fs, ha1, ha2, hV, hFl, rfl, rfl⟩
  refine WR ?_
  refine al_ef rfl (ef_callm false (fun _ => aheight_v _ _ _ hs (by omega) (by omega)) rfl .fn rfl (by decide) (by kernel_rfl) rfl rfl (fun _g => .cons (.p rfl) .nil) (fun _g => .cons (.c rfl) (.cons (.c rfl) .nil)) (by simp)) ?_
  rintro F1 H1 ⟨_, _, _, _, ⟨fr, rfl, hq⟩, hF, hH⟩
  injection hq with hq1 hq2; subst hq1; subst hq2
  (try simp only [nsl, Nat.reduceAdd, Nat.reduceLT, Nat.reduceSub] at hF); (try simp only [nsl, Nat.reduceAdd, Nat.reduceLT, Nat.reduceSub] at hH); subst hF; subst hH
  refine WO ?_
  refine al_ef rfl (ef_callm false (fun _ => aheight_v _ _ _ hs (by omega) (by omega)) rfl .fn rfl (by decide) (by kernel_rfl) rfl rfl (fun _g => .cons (.p rfl) .nil) (fun _g => .cons (.c rfl) (.cons (.c rfl) .nil)) (by simp)) ?_
  rintro F1 H1 ⟨_, _, _, _, ⟨st, rfl, hq⟩, hF, hH⟩
  injection hq with hq1 hq2; subst hq1; subst hq2
  (try simp only [nsl, Nat.reduceAdd, Nat.reduceLT, Nat.reduceSub] at hF); (try simp only [nsl, Nat.reduceAdd, Nat.reduceLT, Nat.reduceSub] at hH); subst hF; subst hH
  refine WO ?_
  refine al_ef rfl (ef_callm false (fun _ => aheight_v _ _ _ hs (by omega) (by omega)) rfl .fn rfl (by decide) (by kernel_rfl) rfl rfl (fun _g => .cons (.p rfl) .nil) (fun _g => .cons (.c rfl) (.cons (.c rfl) .nil)) (by simp)) ?_
  rintro F1 H1 ⟨_, _, _, _, ⟨le, rfl, hq⟩, hF, hH⟩
  injection hq with hq1 hq2; subst hq1; subst hq2
  (try simp only [nsl, Nat.reduceAdd, Nat.reduceLT, Nat.reduceSub] at hF); (try simp only [nsl, Nat.reduceAdd, Nat.reduceLT, Nat.reduceSub] at hH); subst hF; subst hH
  refine WO ?_
  refine al_ef rfl (ef_callm false (fun _ => aheight_v _ _ _ hs (by omega) (by omega)) rfl .fn rfl (by decide) (by kernel_rfl) rfl rfl (fun _g => .cons (.p rfl) .nil) (fun _g => .cons (.c rfl) (.cons (.c rfl) .nil)) (by simp)) ?_
  rintro F1 H1 ⟨_, _, _, _, ⟨mo, rfl, hq⟩, hF, hH⟩
  injection hq with hq1 hq2; subst hq1; subst hq2
  (try simp only [nsl, Nat.reduceAdd, Nat.reduceLT, Nat.reduceSub] at hF); (try simp only [nsl, Nat.reduceAdd, Nat.reduceLT, Nat.reduceSub] at hH); subst hF; subst hH
  refine WO ?_
  refine al_ef rfl (ef_callm true (fun _ => pick_a [0, 1, 2, 10, -1, 10001] _ _ _ _ hs (by omega) (by omega) (by simp) (by simp)) rfl .fn rfl (by decide) (by kernel_rfl) rfl rfl (fun _g => .cons (.p rfl) (.cons (.frz rfl rfl rfl rfl rfl) .nil)) (fun _g => .cons (.c rfl) (.cons (.c rfl) .nil)) (fun _ _ _ _ ⟨_, hu, hH, _⟩ => by rw [hu, hH]; exact ⟨.c (.inl trivial), strm_flat (.inr ⟨0, _, rfl, by simp⟩)⟩)) ?_
  rintro F1 H1 ⟨_, _, _, _, ⟨rr, rfl, hq, hrm⟩, hF, hH⟩
  injection hq with hq1 hq2; subst hq1; subst hq2
  (try simp only [nsl, Nat.reduceAdd, Nat.reduceLT, Nat.reduceSub] at hF); (try simp only [nsl, Nat.reduceAdd, Nat.reduceLT, Nat.reduceSub] at hH); subst hF; subst hH
  have h64r : in64 rr := by simp only [List.mem_cons, List.not_mem_nil, or_false] at hrm; simp only [in64] at *; omega
  clear hrm
  refine WE ?_
  obtain ⟨off, hoff⟩ : ∃ o, o = rr := ⟨_, rfl⟩
  rw [← hoff]
  refine WR ?_
  refine al_ef rfl (ef_call0 false (fun _ => heights_p q w V Fs fr st (by omega) (by omega)) rfl .fn rfl (by decide) (by kernel_rfl) rfl (fun _ => C0 rfl) (by simp)) ?_
  rintro _ _ ⟨_, _, _, ⟨qh, rfl, rfl⟩, hF, hH⟩
  (try simp only [nsl, Nat.reduceAdd, Nat.reduceLT, Nat.reduceSub] at hF); (try simp only [nsl, Nat.reduceAdd, Nat.reduceLT, Nat.reduceSub] at hH); subst hF; subst hH
  refine WE ?_
  refine WR ?_
  refine al_ef rfl (ef_call0 false (fun _ => levels_p q w V Fs (by omega) (by omega)) rfl .fn rfl (by decide) (by kernel_rfl) rfl (fun _ => C0 rfl) (by simp)) ?_
  rintro _ _ ⟨_, _, _, ⟨qv, rfl, rfl⟩, hF, hH⟩
  (try simp only [nsl, Nat.reduceAdd, Nat.reduceLT, Nat.reduceSub] at hF); (try simp only [nsl, Nat.reduceAdd, Nat.reduceLT, Nat.reduceSub] at hH); subst hF; subst hH
  refine WE ?_
  refine WR ?_
  refine al_ef rfl (ef_call0 false (fun _ => adaptive_p q w V Fs le mo off (by omega) (by omega)) rfl .fn rfl (by decide) (by kernel_rfl) rfl (fun _ => C0 rfl) (by simp)) ?_
  rintro _ _ ⟨_, _, _, ⟨qa, rfl, rfl⟩, hF, hH⟩
  (try simp only [nsl, Nat.reduceAdd, Nat.reduceLT, Nat.reduceSub] at hF); (try simp only [nsl, Nat.reduceAdd, Nat.reduceLT, Nat.reduceSub] at hH); subst hF; subst hH
  refine WE ?_
  refine WR ?_
  refine al_ef rfl (ef_call0 false (fun _ => rmshF_v q w V Fs (by omega) (by omega)) rfl .fn rfl (by decide) (by kernel_rfl) rfl (fun _ => C0 rfl) (by simp)) ?_
  rintro _ _ ⟨_, _, _, ⟨rfl, rfl⟩, hF, hH⟩
  (try simp only [nsl, Nat.reduceAdd, Nat.reduceLT, Nat.reduceSub] at hF); (try simp only [nsl, Nat.reduceAdd, Nat.reduceLT, Nat.reduceSub] at hH); subst hF; subst hH
  refine WE ?_
  have k1 := hgt_ok V Fs fr st
  have k2 := adp_ok V Fs le mo off
  have k3 : lvlP V Fs = if mshF V Fs ≠ 0 then ([], mshF V Fs) else (lvlL V Fs, 0) := rfl
  have l1 := hgtP_len V Fs fr st
  have l2 := adpP_len V Fs le mo off
  have l3 := lvlP_len V Fs
  generalize hgtP V Fs fr st = hp at k1 l1 ⊢
  generalize lvlP V Fs = lp at k3 l3 ⊢
  generalize adpP V Fs le mo off = ap at k2 l2 ⊢
  obtain ⟨hl, he⟩ := hp
  obtain ⟨vl, ve⟩ := lp
  obtain ⟨al, ae⟩ := ap
  simp only at l1 l2 l3
  refine aw_wk (wk_of (K := fun F H => F = [(4, .p 0 0 0), (5, .c (I fr)), (6, .c (I st)), (7, .c (I le)), (8, .c (I mo)), (9, .c (I off)), (10, .c (.r qh (zR hl))), (11, .c (I he)), (12, .c (.r qv (zR vl))), (13, .c (I ve)), (14, .c (.r qa (zR al))), (15, .c (I ae)), (16, .c (I (mshF V Fs)))] ∧ H = [mBox q w V (fR Fs)]) [some 1] (fun _ => [(4, .p 0 0 0), (5, .c (I fr)), (6, .c (I st)), (7, .c (I le)), (8, .c (I mo)), (9, .c (I off)), (10, .c (.r qh (zR hl))), (11, .c (I he)), (12, .c (.r qv (zR vl))), (13, .c (I ve)), (14, .c (.r qa (zR al))), (15, .c (I ae)), (16, .c (I (mshF V Fs)))]) (fun _ => _) (by decide) (ZNL hE) ZCF ZCH (fun _ => ⟨rfl, rfl⟩)) ?_
  rintro F H ⟨rfl, rfl⟩
  refine WR ?_
  refine al_ef rfl (ef_call0 true (fun g => hfault_v [fr, st] (g (.o 1 0 2 2)) (by simp)) rfl .fn rfl (by decide) (by kernel_rfl) rfl (fun _ => .cons (.frz rfl rfl rfl rfl rfl) .nil) (fun _ _ _ _ ⟨hu, hH⟩ => by rw [hu, hH]; exact ⟨.c (.inl trivial), by simp⟩)) ?_
  rintro _ _ ⟨_, _, _, ⟨rfl, rfl⟩, hF, hH⟩
  (try simp only [nsl, Nat.reduceAdd, Nat.reduceLT, Nat.reduceSub] at hF); (try simp only [nsl, Nat.reduceAdd, Nat.reduceLT, Nat.reduceSub] at hH); subst hF; subst hH
  refine WO ?_
  refine al_ef rfl (ef_call0 true (fun g => errs_v [mshF V Fs, hfF [fr, st]] (g (.o 2 0 2 2)) (by simp)) rfl .fn rfl (by decide) (by kernel_rfl) rfl (fun _ => .cons (.frz rfl rfl rfl rfl rfl) .nil) (fun _ _ _ _ ⟨hu, hH⟩ => by rw [hu, hH]; exact ⟨.c (.inl trivial), by simp⟩)) ?_
  rintro _ _ ⟨_, _, _, ⟨rfl, rfl⟩, hF, hH⟩
  (try simp only [nsl, Nat.reduceAdd, Nat.reduceLT, Nat.reduceSub] at hF); (try simp only [nsl, Nat.reduceAdd, Nat.reduceLT, Nat.reduceSub] at hH); subst hF; subst hH
  refine WO ?_
  refine al_ef rfl (ef_call0 false (fun _ => adfault_v le mo off) rfl .fn rfl (by decide) (by kernel_rfl) rfl (fun _ => C0 rfl) (by simp)) ?_
  rintro _ _ ⟨_, _, _, ⟨rfl, rfl⟩, hF, hH⟩
  (try simp only [nsl, Nat.reduceAdd, Nat.reduceLT, Nat.reduceSub] at hF); (try simp only [nsl, Nat.reduceAdd, Nat.reduceLT, Nat.reduceSub] at hH); subst hF; subst hH
  refine WO ?_
  refine al_ef rfl (ef_call0 true (fun g => errs_v [mshF V Fs, fst0 [spnF le 1 10000, spnF mo le 10000, spnF off 0 10000]] (g (.o 3 0 2 2)) (by simp)) rfl .fn rfl (by decide) (by kernel_rfl) rfl (fun _ => .cons (.frz rfl rfl rfl rfl rfl) .nil) (fun _ _ _ _ ⟨hu, hH⟩ => by rw [hu, hH]; exact ⟨.c (.inl trivial), by simp⟩)) ?_
  rintro _ _ ⟨_, _, _, ⟨rfl, rfl⟩, hF, hH⟩
  (try simp only [nsl, Nat.reduceAdd, Nat.reduceLT, Nat.reduceSub] at hF); (try simp only [nsl, Nat.reduceAdd, Nat.reduceLT, Nat.reduceSub] at hH); subst hF; subst hH
  refine WE ?_
  generalize hone : fst0 [mshF V Fs, hfF [fr, st]] = one at k1 ⊢
  generalize htwo : fst0 [mshF V Fs, fst0 [spnF le 1 10000, spnF mo le 10000, spnF off 0 10000]] = two at k2 ⊢
  refine WA ?_
  refine WA ?_
  refine aw_cut (fun F H => ∃ qx, F = [(4, .p 0 0 0), (5, .c (I fr)), (6, .c (I st)), (7, .c (I le)), (8, .c (I mo)), (9, .c (I off)), (10, .c (.r qh (zR hl))), (11, .c (I he)), (12, .c (.r qv (zR vl))), (13, .c (I ve)), (14, .c (.r qa (zR al))), (15, .c (I ae)), (16, .c (I (mshF V Fs))), (17, .c (I he)), (18, .c (I two)), (19, .c (.r qx (zR hl))), (20, .c (.r (.slice none 0 0) [])), (21, .c (.r (.slice none 0 0) []))] ∧ H = [mBox q w V (fR Fs)]) ?_ ?_ wk_aw
  · refine aw_if rfl (fun h => ?_) (fun h => ?_)
    · obtain ⟨m0, r1, r2, r3⟩ := k1.1 h
      refine WR ?_
      refine al_ef rfl (ef_call0 false (fun _ => heights_r q w V Fs fr st (mok_of m0) r1 r2) rfl .fn rfl (by decide) (by kernel_rfl) rfl (fun _ => C0 rfl) (by simp)) ?_
      rintro _ _ ⟨_, _, _, ⟨qx, rfl, rfl⟩, hF, hH⟩
      (try simp only [nsl, Nat.reduceAdd, Nat.reduceLT, Nat.reduceSub] at hF); (try simp only [nsl, Nat.reduceAdd, Nat.reduceLT, Nat.reduceSub] at hH); subst hF; subst hH
      refine WE ?_
      rw [← r3]
      refine wk_of [some 0] (fun _ => [(4, .p 0 0 0), (5, .c (I fr)), (6, .c (I st)), (7, .c (I le)), (8, .c (I mo)), (9, .c (I off)), (10, .c (.r qh (zR hl))), (11, .c (I he)), (12, .c (.r qv (zR vl))), (13, .c (I ve)), (14, .c (.r qa (zR al))), (15, .c (I ae)), (16, .c (I (mshF V Fs))), (17, .c (I he)), (18, .c (I two)), (19, .c (.r qx (zR hl))), (20, .c (.r (.slice none 0 0) [])), (21, .c (.r (.slice none 0 0) []))]) (fun _ => [mBox q w V (fR Fs)]) (by decide) (ZNL hE) ZCF ZCH (fun _ => ⟨qx, rfl, rfl⟩)
    · have r3 := k1.2 h
      injection r3 with r3 r4
      subst r3; subst r4
      refine ZZ ?_
      refine wk_of [some 0] (fun _ => [(4, .p 0 0 0), (5, .c (I fr)), (6, .c (I st)), (7, .c (I le)), (8, .c (I mo)), (9, .c (I off)), (10, .c (.r qh (zR []))), (11, .c (I he)), (12, .c (.r qv (zR vl))), (13, .c (I ve)), (14, .c (.r qa (zR al))), (15, .c (I ae)), (16, .c (I (mshF V Fs))), (17, .c (I he)), (18, .c (I two)), (19, .c (.r (.slice none 0 0) (zR []))), (20, .c (.r (.slice none 0 0) [])), (21, .c (.r (.slice none 0 0) []))]) (fun _ => [mBox q w V (fR Fs)]) (by decide) (ZNL hE) ZCF ZCH (fun _ => ⟨_, rfl, rfl⟩)
  rintro F H ⟨qx, rfl, rfl⟩
  refine WA ?_
  refine aw_cut (fun F H => ∃ qy, F = [(4, .p 0 0 0), (10, .c (.r qh (zR hl))), (11, .c (I he)), (12, .c (.r qv (zR vl))), (13, .c (I ve)), (14, .c (.r qa (zR al))), (15, .c (I ae)), (16, .c (I (mshF V Fs))), (17, .c (I he)), (7, .c (I le)), (8, .c (I mo)), (9, .c (I off)), (18, .c (I two)), (19, .c (.r qx (zR hl))), (20, .c (.r qy (zR vl))), (21, .c (.r (.slice none 0 0) []))] ∧ H = [mBox q w V (fR Fs)]) ?_ ?_ wk_aw
  · refine aw_if rfl (fun h => ?_) (fun h => ?_)
    · rw [if_neg (by omega)] at k3
      injection k3 with k31 k32
      subst k31; subst k32
      refine WR ?_
      refine al_ef rfl (ef_call0 false (fun _ => levels_r q w V Fs (mok_of h)) rfl .fn rfl (by decide) (by kernel_rfl) rfl (fun _ => C0 rfl) (by simp)) ?_
      rintro _ _ ⟨_, _, _, ⟨qy, rfl, rfl⟩, hF, hH⟩
      (try simp only [nsl, Nat.reduceAdd, Nat.reduceLT, Nat.reduceSub] at hF); (try simp only [nsl, Nat.reduceAdd, Nat.reduceLT, Nat.reduceSub] at hH); subst hF; subst hH
      refine WE ?_
      refine wk_of [some 0] (fun _ => [(4, .p 0 0 0), (10, .c (.r qh (zR hl))), (11, .c (I he)), (12, .c (.r qv (zR (lvlL V Fs)))), (13, .c (I 0)), (14, .c (.r qa (zR al))), (15, .c (I ae)), (16, .c (I (mshF V Fs))), (17, .c (I he)), (7, .c (I le)), (8, .c (I mo)), (9, .c (I off)), (18, .c (I two)), (19, .c (.r qx (zR hl))), (20, .c (.r qy (zR (lvlL V Fs)))), (21, .c (.r (.slice none 0 0) []))]) (fun _ => [mBox q w V (fR Fs)]) (by decide) (ZNL hE) ZCF ZCH (fun _ => ⟨qy, rfl, rfl⟩)
    · rw [if_pos h] at k3
      injection k3 with k31 k32
      subst k31; subst k32
      refine ZZ ?_
      refine wk_of [some 0] (fun _ => [(4, .p 0 0 0), (10, .c (.r qh (zR hl))), (11, .c (I he)), (12, .c (.r qv (zR []))), (13, .c (I (mshF V Fs))), (14, .c (.r qa (zR al))), (15, .c (I ae)), (16, .c (I (mshF V Fs))), (17, .c (I he)), (7, .c (I le)), (8, .c (I mo)), (9, .c (I off)), (18, .c (I two)), (19, .c (.r qx (zR hl))), (20, .c (.r (.slice none 0 0) (zR []))), (21, .c (.r (.slice none 0 0) []))]) (fun _ => [mBox q w V (fR Fs)]) (by decide) (ZNL hE) ZCF ZCH (fun _ => ⟨_, rfl, rfl⟩)
  rintro F H ⟨qy, rfl, rfl⟩
  have k4 : ve = mshF V Fs := by
    by_cases h : mshF V Fs = 0
    · rw [if_neg (by omega)] at k3; injection k3 with k31 k32; omega
    · rw [if_pos h] at k3; injection k3 with k31 k32
  subst k4
  refine WA ?_
  refine aw_cut (fun F H => ∃ qz, F = [(4, .p 0 0 0), (10, .c (.r qh (zR hl))), (11, .c (I he)), (12, .c (.r qv (zR vl))), (13, .c (I (mshF V Fs))), (14, .c (.r qa (zR al))), (15, .c (I ae)), (16, .c (I (mshF V Fs))), (17, .c (I he)), (18, .c (I ae)), (19, .c (.r qx (zR hl))), (20, .c (.r qy (zR vl))), (21, .c (.r qz (zR al)))] ∧ H = [mBox q w V (fR Fs)]) ?_ ?_ wk_aw
  · refine aw_if rfl (fun h => ?_) (fun h => ?_)
    · obtain ⟨m0, r1, r2, r3, r4⟩ := k2.1 h
      refine WR ?_
      refine al_ef rfl (ef_call0 false (fun _ => adaptive_r q w V Fs le mo off (mok_of m0) (by omega) (by omega) (by omega)) rfl .fn rfl (by decide) (by kernel_rfl) rfl (fun _ => C0 rfl) (by simp)) ?_
      rintro _ _ ⟨_, _, _, ⟨qz, rfl, rfl⟩, hF, hH⟩
      (try simp only [nsl, Nat.reduceAdd, Nat.reduceLT, Nat.reduceSub] at hF); (try simp only [nsl, Nat.reduceAdd, Nat.reduceLT, Nat.reduceSub] at hH); subst hF; subst hH
      refine WE ?_
      rw [← r4]
      refine wk_of [some 0] (fun _ => [(4, .p 0 0 0), (10, .c (.r qh (zR hl))), (11, .c (I he)), (12, .c (.r qv (zR vl))), (13, .c (I (mshF V Fs))), (14, .c (.r qa (zR al))), (15, .c (I ae)), (16, .c (I (mshF V Fs))), (17, .c (I he)), (18, .c (I ae)), (19, .c (.r qx (zR hl))), (20, .c (.r qy (zR vl))), (21, .c (.r qz (zR al)))]) (fun _ => [mBox q w V (fR Fs)]) (by decide) (ZNL hE) ZCF ZCH (fun _ => ⟨qz, rfl, rfl⟩)
    · have r3 := k2.2 h
      injection r3 with r3 r4
      subst r3; subst r4
      refine ZZ ?_
      refine wk_of [some 0] (fun _ => [(4, .p 0 0 0), (10, .c (.r qh (zR hl))), (11, .c (I he)), (12, .c (.r qv (zR vl))), (13, .c (I (mshF V Fs))), (14, .c (.r qa (zR []))), (15, .c (I ae)), (16, .c (I (mshF V Fs))), (17, .c (I he)), (18, .c (I ae)), (19, .c (.r qx (zR hl))), (20, .c (.r qy (zR vl))), (21, .c (.r (.slice none 0 0) (zR [])))]) (fun _ => [mBox q w V (fR Fs)]) (by decide) (ZNL hE) ZCF ZCH (fun _ => ⟨_, rfl, rfl⟩)
  rintro F H ⟨qz, rfl, rfl⟩
  refine WR ?_
  first | refine ZS ?_ | (refine G1 rfl ?_; refine al_ef rfl (ef_call0 false (fun _ => eqI_a hl hl qh qx (by omega) (by omega)) rfl .fn rfl (by decide) (by kernel_rfl) rfl (fun _ => C0 rfl) (by simp)) ?_; rintro _ _ ⟨_, _, _, ⟨bqx, rfl, rfl, hbqx⟩, hF, hH⟩; obtain rfl : bqx = true := hbqx.2 rfl; (try simp only [nsl, Nat.reduceAdd, Nat.reduceLT, Nat.reduceSub] at hF); (try simp only [nsl, Nat.reduceAdd, Nat.reduceLT, Nat.reduceSub] at hH); subst hF; subst hH) | skip
  refine WO ?_
  first | refine ZS ?_ | (refine G1 rfl ?_; refine al_ef rfl (ef_call0 false (fun _ => eqI_a vl vl qv qy (by omega) (by omega)) rfl .fn rfl (by decide) (by kernel_rfl) rfl (fun _ => C0 rfl) (by simp)) ?_; rintro _ _ ⟨_, _, _, ⟨bqy, rfl, rfl, hbqy⟩, hF, hH⟩; obtain rfl : bqy = true := hbqy.2 rfl; (try simp only [nsl, Nat.reduceAdd, Nat.reduceLT, Nat.reduceSub] at hF); (try simp only [nsl, Nat.reduceAdd, Nat.reduceLT, Nat.reduceSub] at hH); subst hF; subst hH) | skip
  refine WO ?_
  first | refine ZS ?_ | (refine G1 rfl ?_; refine al_ef rfl (ef_call0 false (fun _ => eqI_a al al qa qz (by omega) (by omega)) rfl .fn rfl (by decide) (by kernel_rfl) rfl (fun _ => C0 rfl) (by simp)) ?_; rintro _ _ ⟨_, _, _, ⟨bqz, rfl, rfl, hbqz⟩, hF, hH⟩; obtain rfl : bqz = true := hbqz.2 rfl; (try simp only [nsl, Nat.reduceAdd, Nat.reduceLT, Nat.reduceSub] at hF); (try simp only [nsl, Nat.reduceAdd, Nat.reduceLT, Nat.reduceSub] at hH); subst hF; subst hH) | skip
  refine WO ?_
  first | refine ZS ?_ | (refine G1 rfl ?_; refine al_ef rfl (ef_call0 false (fun _ => sliced_a) rfl .fn rfl (by decide) (by kernel_rfl) rfl (fun _ => C0 rfl) (by simp)) ?_; rintro _ _ ⟨_, _, _, ⟨rfl, rfl⟩, hF, hH⟩; (try simp only [nsl, Nat.reduceAdd, Nat.reduceLT, Nat.reduceSub] at hF); (try simp only [nsl, Nat.reduceAdd, Nat.reduceLT, Nat.reduceSub] at hH); subst hF; subst hH) | skip
  refine WE ?_
  exact aret_1 [] [] rfl rfl rfl (by decide) (ZNK rfl) (fun _ => .nil) rfl
end Go.Proofs.YtlblimbelfenaaaGreat
