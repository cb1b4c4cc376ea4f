/- The document's books, by value: RunningJobs, JobStates. -/
import Derived.Test.YtcdeonjdipcgpaaGreatDoorQbq
set_option linter.unusedSimpArgs false
set_option linter.unusedVariables false
-- NEWM
namespace Go.Proofs.YtcdeonjdipcgpaaGreatDoor
open Go Go.RowKit
set_option maxRecDepth 100000
theorem seen_perm {n : Nat} {seen : List Nat} (hn : seen.Nodup) (h1 : ∀ k ∈ seen, k < n) (h2 : ∀ k, k < n → k ∈ seen) : seen.Perm (List.range n) :=
 (List.perm_ext_iff_of_nodup hn List.nodup_range).2 fun k => ⟨fun h => List.mem_range.2 (h1 k h), fun h => h2 k (List.mem_range.1 h)⟩
theorem range_fm {α β : Type} (f : α → Option β) : ∀ (l : List α), ((List.range l.length).filterMap fun k => l[k]?.bind f) = l.filterMap f
 | [] => rfl
 | x :: l => by
  rw [List.length_cons, List.range_succ_eq_map, List.filterMap_cons, List.filterMap_map]
  simp only [Function.comp_def, List.getElem?_cons_zero, List.getElem?_cons_succ, Option.bind_some, Nat.succ_eq_add_one]
  rw [range_fm f l, List.filterMap_cons]
def fmJ {β : Type} (f : Jb → Option β) (js : List Jb) (seen : List Nat) : List β := seen.filterMap fun k => js[k]?.bind f
theorem fmJ_some {β : Type} {f : Jb → Option β} {js : List Jb} {seen : List Nat} {k : Nat} {j : Jb} {p : β} (h : js[k]? = some j) (hf : f j = some p) : fmJ f js (seen ++ [0 + k]) = fmJ f js seen ++ [p] := by
 unfold fmJ
 rw [List.filterMap_append, Nat.zero_add]
 simp [h, hf]
theorem fmJ_none {β : Type} {f : Jb → Option β} {js : List Jb} {seen : List Nat} {k : Nat} {j : Jb} (h : js[k]? = some j) (hf : f j = none) : fmJ f js (seen ++ [0 + k]) = fmJ f js seen := by
 unfold fmJ
 rw [List.filterMap_append, Nat.zero_add]
 simp [h, hf]
theorem fmJ_all {β : Type} {f : Jb → Option β} {js : List Jb} {seen : List Nat} (hn : seen.Nodup) (h1 : ∀ k ∈ seen, k < js.length) (h2 : ∀ k, k < js.length → k ∈ seen) : (fmJ f js seen).Perm (js.filterMap f) := by
 have := (seen_perm hn h1 h2).filterMap fun k => js[k]?.bind f
 rwa [range_fm f js] at this
theorem fmJ_len {β : Type} (f : Jb → Option β) (js : List Jb) (seen : List Nat) : (fmJ f js seen).length ≤ seen.length := List.length_filterMap_le _ _
theorem ntS_len (b : Bk) (x : Nt) : (ntS b x).js.length ≤ b.js.length + 1 := by
 unfold ntS
 repeat' split
 all_goals simp [layJ, stopJ]
 all_goals (split <;> simp)
theorem bkK_js (l : List Nt) (ix : List Int) : ∀ k, (bkK l ix k).1.js.length ≤ k
 | 0 => by simp [bkK, bk0]
 | k + 1 => by
  have h := bkK_js l ix k
  rw [bkK]
  split
  ·split
   ·unfold bkStep
    split
    ·simp only; omega
    ·rename_i x _ _
     have := ntS_len (bkK l ix k).1 x
     simp only
     omega
   ·omega
  ·omega
theorem bksF_js {l : List Nt} {at_ : Int} (hl : l.length ≤ 2000) : (bksF l (cntP at_ l)).1.js.length ≤ 2000 := by
 have h1 := bkK_js l (cntP at_ l) (cntP at_ l).length
 have h2 := zf3 at_ l l.length (Nat.le_refl _)
 have h3 : (cntP at_ l).length ≤ 2000 := by unfold cntP; rw [List.length_reverse]; omega
 unfold bksF
 omega
theorem unsG_le {α β : Type} (es : List (Nat × α × β)) (seen : List Nat) : unsG es seen ≤ es.length := by
 unfold unsG
 exact List.length_filter_le _ _
def rnPr (j : Jb) : Option Pr := if j.st = 0 then some (j.pr, j.nm) else none
def stPr (j : Jb) : Option Pr := some (j.nm, stW j.st)
set_option maxHeartbeats 2000000 in
theorem RunningJobsD_v (v : Value) (l : List Nt) (at_ : Int) (hc : chkN l = 0) : ACalls Tryz.prog 22 [.c (.r v (noRs l)), .c (I at_)] [] fun u H => ∃ (l2 : List Pr) (c : Nat), (l2.Perm ((bksF l (cntP at_ l)).1.js.filterMap rnPr) ∧ l2.Pairwise fun a b => ¬ cmpB b.1 a.1 < 0) ∧ l2.length ≤ 2000 ∧ l2.length ≤ c ∧ u = .o 0 0 l2.length c ∧ H = [.arr 56 2 c (prRs l2)] := by
 have hpx : PoolIx 7 := ⟨trivial⟩
 have hjl := bksF_js (at_ := at_) (zH hc).1
 refine zj (N := 36) Tryz.func22 rfl rfl (by simp) fun E hE => ?_
 refine WA ?_
 refine WA ?_
 refine WR ?_
 refine zf rfl (zc false (fun _ => told_v v l at_ (zH hc).1 (zH hc).2 (zO1 hc).symm (zA3 hc)) rfl .fn rfl (by decide) (by kernel_rfl) rfl (fun _ => C0 rfl) (by simp)) ?_
 rintro _ _ ⟨_, _, _, ⟨X, bl, sp, spk, lf, lfk, us, usk, R1, R2, c1, c2, hbf, hB, hbl, h1l, h2l, hc1, hc2, rfl, rfl⟩, hF, hH⟩
 (refine NST hF hH ?_; clear hF hH; rintro rfl rfl)
 iterate 3 refine WX1 ?_
 refine zf rfl (zh2 (ke := encSt) (ve := encPt) (l := jlF 0 (jxs X) bl) (ck := X.length) rfl rfl (by decide) Tryz.underlying117 rfl rfl) ?_
 rintro _ _ ⟨rfl, rfl⟩
 refine WE ?_
 rw [hbf] at hjl ⊢
 simp only at hjl ⊢
 have hJ := hB.js
 simp only at hJ
 have hbj : bl.length = (jxs X).length := by rw [hbl, List.length_map]
 rw [List.length_map] at hjl
 have hok : MapOk (jlF 0 (jxs X) bl) X.length := by have := jlF_ok hJ hbj; rwa [List.length_map] at this
 have hjlen : (jlF 0 (jxs X) bl).length = X.length := by have := congrArg List.length (zA2 (i := 0) hbj); rw [List.length_map, List.length_range', List.length_map] at this; exact this
 refine zC (fun m F H => ∃ (seen : List Nat) (out : List Pr) (co : Nat), unsG (jlF 0 (jxs X) bl) seen = m ∧ m + seen.length ≤ X.length ∧ seen.Nodup ∧ (∀ k ∈ seen, k < (jxs X).length) ∧ out = fmJ rnPr (jxs X) seen ∧ out.length ≤ co ∧ F = [(5, .o 10 0 out.length co), (14, .p 9 0 0)] ∧ H = [.box [.mp 1, .mp 2, .mp 3, .mp 4, .o 5 0 (R1).length c1, .o 6 0 (R2).length c2], mSP (jlF 0 (jxs X) bl) (X).length, mSS sp spk, mSI lf lfk, mSI us usk, .arr 3 1 c1 (nR (R1)), .arr 32 1 c2 (nR (R2)), .pool (plF jbQ X bl), .pool (X.map jbA), .itr 1 X.length seen X.length, .arr 56 2 co (prRs out)]) ?_ ?_
 ·refine zn [some 0, some 1, some 2, some 3, some 4, some 5, some 6, some 7, some 8, some 9, none] (fun _ => [(5, .o 10 0 0 0), (14, .p 9 0 0)]) (fun _ => [.box [.mp 1, .mp 2, .mp 3, .mp 4, .o 5 0 (R1).length c1, .o 6 0 (R2).length c2], mSP (jlF 0 (jxs X) bl) (X).length, mSS sp spk, mSI lf lfk, mSI us usk, .arr 3 1 c1 (nR (R1)), .arr 32 1 c2 (nR (R2)), .pool (plF jbQ X bl), .pool (X.map jbA), .itr 1 X.length [] X.length, .arr 56 2 0 []]) (by decide) (ZNL hE) ZCF ZCH (fun _ => ?_)
  exact ⟨_, [], [], 0, rfl, by have := unsG_le (jlF 0 (jxs X) bl) []; rw [hjlen] at this; exact this, List.nodup_nil, fun k h => (by cases h), rfl, Nat.le_refl _, rfl, rfl⟩
 rintro m F H ⟨seen, out, co, hm, hml, hnd, hsl, hout, hco, rfl, rfl⟩
 have hol : out.length ≤ 2000 := by rw [hout]; have := fmJ_len rnPr (jxs X) seen; omega
 have e1 : (prRs out).length = out.length := by simp
 refine ZR ?_
 refine zf rfl (zL2 (ke := encSt) (ve := encPt) (l := jlF 0 (jxs X) bl) rfl rfl (by decide) rfl rfl rfl hok.hb (Nat.le_refl _)) ?_
 rintro _ _ (⟨⟨eb, ek, es⟩, he, hne, rfl, rfl⟩ | ⟨hall, rfl, rfl⟩)
 all_goals (refine WE ?_)
 ·refine zb rfl ?_
  have hlt := zH2 he hne
  obtain ⟨k, j, b, hj, hb, heq⟩ := zd4 he
  injection heq with q1 q2
  injection q2 with q2 q3
  subst q1; subst q2; subst q3
  obtain ⟨x, hx, rfl⟩ : ∃ x, X[k]? = some x ∧ x.1 = j := by
   rw [List.getElem?_map] at hj
   exact Option.map_eq_some_iff.1 hj
  obtain ⟨j, A, c⟩ := x
  have hin : InPool k b (plF jbQ X bl) [T j.pr, T (stW j.st), .s (.slice A j.ly.length c), I j.all, I j.beg, I (if j.st = 1 then j.en else 0)] := ⟨zx2 hx hb⟩
  have hnd2 : (seen ++ [0 + k]).Nodup := List.nodup_append.2 ⟨hnd, by simp, fun a ha b hb h => by simp at hb; subst hb; subst h; exact hne (by simpa using ha)⟩
  have hsl2 : ∀ q ∈ seen ++ [0 + k], q < (jxs X).length := fun q hq => by
   rcases List.mem_append.1 hq with hq | hq
   ·exact hsl q hq
   ·rw [List.mem_singleton, Nat.zero_add] at hq; subst hq; exact (List.getElem?_eq_some_iff.1 hj).1
  refine ZR ?_
  refine ZA (zg2 (ke := encSt) (ve := encPt) (e := (0 + k, j.nm, ptrV b)) rfl rfl rfl rfl he hok.nb) ?_
  refine WE ?_
  obtain ⟨q4, hq4⟩ : ∃ q, decide (stW j.st = [114, 117, 110, 115]) = q := ⟨_, rfl⟩
  have hst : stW j.st = [114, 117, 110, 115] ↔ j.st = 0 := stW_runs (hJ.st j (List.mem_of_getElem? hj))
  refine ZR ?_
  iterate 4 refine WX1 ?_
  refine ZA (zT (a := stW j.st) (b := [114, 117, 110, 115]) hq4 rfl Tryz.underlying9 rfl rfl) ?_
  refine WE ?_
  cases q4 with
  | false =>
   refine za rfl ?_
   refine ZZ ?_
   have ho2 : out = fmJ rnPr (jxs X) (seen ++ [0 + k]) := by rw [fmJ_none hj (by unfold rnPr; rw [if_neg fun h => of_decide_eq_false hq4 (hst.2 h)]), hout]
   refine zn [some 0, some 1, some 2, some 3, some 4, some 5, some 6, some 7, some 8, some 9, some 10] (fun _ => [(5, .o 10 0 out.length co), (14, .p 9 0 0)]) (fun _ => [.box [.mp 1, .mp 2, .mp 3, .mp 4, .o 5 0 (R1).length c1, .o 6 0 (R2).length c2], mSP (jlF 0 (jxs X) bl) (X).length, mSS sp spk, mSI lf lfk, mSI us usk, .arr 3 1 c1 (nR (R1)), .arr 32 1 c2 (nR (R2)), .pool (plF jbQ X bl), .pool (X.map jbA), .itr 1 X.length (seen ++ [0 + k]) X.length, .arr 56 2 co (prRs out)]) (by decide) (ZNL hE) ZCF ZCH (fun _ => ?_)
   exact ⟨_, by rw [← hm]; exact hlt, seen ++ [0 + k], out, co, rfl, by rw [List.length_append, List.length_singleton]; simp only at hlt; omega, hnd2, hsl2, ho2, hco, rfl, rfl⟩
  | true =>
   refine zb rfl ?_
   refine WR ?_
   refine zf rfl (Zapp (news := [[T j.pr, T j.nm]]) (j := 1) (hE := KA (t := 35) rfl) (hsrc := .own rfl rfl rfl) (hj := rfl) (hle := by omega)) ?_
   rintro F1 H1 ⟨_, cc, hcc, hF, hH⟩
   (refine NSU hF hH ?_; clear hF hH; rintro rfl rfl)
   refine WE ?_
   have ho2 : out ++ [(j.pr, j.nm)] = fmJ rnPr (jxs X) (seen ++ [0 + k]) := by rw [fmJ_some (f := rnPr) hj (by unfold rnPr; rw [if_pos (hst.1 (of_decide_eq_true hq4))]), hout]
   refine zn [some 0, some 1, some 2, some 3, some 4, some 5, some 6, some 7, some 8, some 9, some 10] (fun _ => [(5, .o 10 0 (out ++ [(j.pr, j.nm)]).length cc), (14, .p 9 0 0)]) (fun _ => [.box [.mp 1, .mp 2, .mp 3, .mp 4, .o 5 0 (R1).length c1, .o 6 0 (R2).length c2], mSP (jlF 0 (jxs X) bl) (X).length, mSS sp spk, mSI lf lfk, mSI us usk, .arr 3 1 c1 (nR (R1)), .arr 32 1 c2 (nR (R2)), .pool (plF jbQ X bl), .pool (X.map jbA), .itr 1 X.length (seen ++ [0 + k]) X.length, .arr 56 2 cc (prRs (out ++ [(j.pr, j.nm)]))]) (by decide) (ZNL hE) (by simp only [prRs, prR, Nat.zero_add, List.map_append, List.map_cons, List.map_nil, List.length_append, List.length_singleton, List.length_map]; exact ZCF) (by simp only [prRs, prR, Nat.zero_add, List.map_append, List.map_cons, List.map_nil, List.length_append, List.length_singleton, List.length_map]; exact ZCH) (fun _ => ?_)
   exact ⟨_, by rw [← hm]; exact hlt, seen ++ [0 + k], _, cc, rfl, by rw [List.length_append, List.length_singleton]; simp only at hlt; omega, hnd2, hsl2, ho2, by simp at hcc ⊢; omega, rfl, rfl⟩
 ·refine za rfl ?_
  have hp : out.Perm ((jxs X).filterMap rnPr) := by
   rw [hout]
   refine fmJ_all hnd hsl fun k hk => ?_
   obtain ⟨b, hb⟩ : ∃ b, bl[k]? = some b := ⟨_, List.getElem?_eq_getElem (by rw [hbj]; exact hk)⟩
   simpa using hall _ (jlF_in (i := 0) (List.getElem?_eq_getElem hk) hb)
  refine ZZ ?_
  refine WR ?_
  refine zf rfl (zW [10] (fun _ => [.arr 56 2 co (prRs out)]) false (fun _ => sorted_v out co (by omega)) rfl .fn rfl (by decide) (by kernel_rfl) rfl ZCH (by decide) ZCH (by simp)) ?_
  rintro F1 H1 ⟨_, _, _, _, ⟨l2, hl2, rfl, rfl⟩, hF, hH⟩
  rw [zF] at hF; (refine NSU hF hH ?_; clear hF hH; rintro rfl rfl)
  refine WE ?_
  have hle : l2.length = out.length := hl2.1.length_eq
  exact aret_o (k := out.length) (k' := l2.length) [some 10] (fun _ => [.arr 56 2 co (prRs l2)]) rfl rfl rfl hle.symm (b' := 0) rfl (by decide) (ZNK rfl) ZCH (fun _ => ⟨l2, co, ⟨hl2.1.trans hp, hl2.2⟩, by omega, by omega, rfl, rfl⟩)
set_option maxHeartbeats 2000000 in
theorem JobStatesD_v (v : Value) (l : List Nt) (at_ : Int) (hc : chkN l = 0) : ACalls Tryz.prog 23 [.c (.r v (noRs l)), .c (I at_)] [] fun u H => ∃ (l2 : List Pr) (c : Nat), (l2.Perm ((bksF l (cntP at_ l)).1.js.filterMap stPr) ∧ l2.Pairwise fun a b => ¬ cmpB b.1 a.1 < 0) ∧ l2.length ≤ 2000 ∧ l2.length ≤ c ∧ u = .o 0 0 l2.length c ∧ H = [.arr 56 2 c (prRs l2)] := by
 have hpx : PoolIx 7 := ⟨trivial⟩
 have hjl := bksF_js (at_ := at_) (zH hc).1
 refine zj (N := 31) Tryz.func23 rfl rfl (by simp) fun E hE => ?_
 refine WA ?_
 refine WA ?_
 refine WR ?_
 refine zf rfl (zc false (fun _ => told_v v l at_ (zH hc).1 (zH hc).2 (zO1 hc).symm (zA3 hc)) rfl .fn rfl (by decide) (by kernel_rfl) rfl (fun _ => C0 rfl) (by simp)) ?_
 rintro _ _ ⟨_, _, _, ⟨X, bl, sp, spk, lf, lfk, us, usk, R1, R2, c1, c2, hbf, hB, hbl, h1l, h2l, hc1, hc2, rfl, rfl⟩, hF, hH⟩
 (refine NST hF hH ?_; clear hF hH; rintro rfl rfl)
 iterate 3 refine WX1 ?_
 refine zf rfl (zh2 (ke := encSt) (ve := encPt) (l := jlF 0 (jxs X) bl) (ck := X.length) rfl rfl (by decide) Tryz.underlying117 rfl rfl) ?_
 rintro _ _ ⟨rfl, rfl⟩
 refine WE ?_
 rw [hbf] at hjl ⊢
 simp only at hjl ⊢
 have hJ := hB.js
 simp only at hJ
 have hbj : bl.length = (jxs X).length := by rw [hbl, List.length_map]
 rw [List.length_map] at hjl
 have hok : MapOk (jlF 0 (jxs X) bl) X.length := by have := jlF_ok hJ hbj; rwa [List.length_map] at this
 have hjlen : (jlF 0 (jxs X) bl).length = X.length := by have := congrArg List.length (zA2 (i := 0) hbj); rw [List.length_map, List.length_range', List.length_map] at this; exact this
 refine zC (fun m F H => ∃ (seen : List Nat) (out : List Pr) (co : Nat), unsG (jlF 0 (jxs X) bl) seen = m ∧ m + seen.length ≤ X.length ∧ seen.Nodup ∧ (∀ k ∈ seen, k < (jxs X).length) ∧ out = fmJ stPr (jxs X) seen ∧ out.length ≤ co ∧ F = [(5, .o 10 0 out.length co), (14, .p 9 0 0)] ∧ H = [.box [.mp 1, .mp 2, .mp 3, .mp 4, .o 5 0 (R1).length c1, .o 6 0 (R2).length c2], mSP (jlF 0 (jxs X) bl) (X).length, mSS sp spk, mSI lf lfk, mSI us usk, .arr 3 1 c1 (nR (R1)), .arr 32 1 c2 (nR (R2)), .pool (plF jbQ X bl), .pool (X.map jbA), .itr 1 X.length seen X.length, .arr 56 2 co (prRs out)]) ?_ ?_
 ·refine zn [some 0, some 1, some 2, some 3, some 4, some 5, some 6, some 7, some 8, some 9, none] (fun _ => [(5, .o 10 0 0 0), (14, .p 9 0 0)]) (fun _ => [.box [.mp 1, .mp 2, .mp 3, .mp 4, .o 5 0 (R1).length c1, .o 6 0 (R2).length c2], mSP (jlF 0 (jxs X) bl) (X).length, mSS sp spk, mSI lf lfk, mSI us usk, .arr 3 1 c1 (nR (R1)), .arr 32 1 c2 (nR (R2)), .pool (plF jbQ X bl), .pool (X.map jbA), .itr 1 X.length [] X.length, .arr 56 2 0 []]) (by decide) (ZNL hE) ZCF ZCH (fun _ => ?_)
  exact ⟨_, [], [], 0, rfl, by have := unsG_le (jlF 0 (jxs X) bl) []; rw [hjlen] at this; exact this, List.nodup_nil, fun k h => (by cases h), rfl, Nat.le_refl _, rfl, rfl⟩
 rintro m F H ⟨seen, out, co, hm, hml, hnd, hsl, hout, hco, rfl, rfl⟩
 have hol : out.length ≤ 2000 := by rw [hout]; have := fmJ_len stPr (jxs X) seen; omega
 have e1 : (prRs out).length = out.length := by simp
 refine ZR ?_
 refine zf rfl (zL2 (ke := encSt) (ve := encPt) (l := jlF 0 (jxs X) bl) rfl rfl (by decide) rfl rfl rfl hok.hb (Nat.le_refl _)) ?_
 rintro _ _ (⟨⟨eb, ek, es⟩, he, hne, rfl, rfl⟩ | ⟨hall, rfl, rfl⟩)
 all_goals (refine WE ?_)
 ·refine zb rfl ?_
  have hlt := zH2 he hne
  obtain ⟨k, j, b, hj, hb, heq⟩ := zd4 he
  injection heq with q1 q2
  injection q2 with q2 q3
  subst q1; subst q2; subst q3
  obtain ⟨x, hx, rfl⟩ : ∃ x, X[k]? = some x ∧ x.1 = j := by
   rw [List.getElem?_map] at hj
   exact Option.map_eq_some_iff.1 hj
  obtain ⟨j, A, c⟩ := x
  have hin : InPool k b (plF jbQ X bl) [T j.pr, T (stW j.st), .s (.slice A j.ly.length c), I j.all, I j.beg, I (if j.st = 1 then j.en else 0)] := ⟨zx2 hx hb⟩
  have hnd2 : (seen ++ [0 + k]).Nodup := List.nodup_append.2 ⟨hnd, by simp, fun a ha b hb h => by simp at hb; subst hb; subst h; exact hne (by simpa using ha)⟩
  have hsl2 : ∀ q ∈ seen ++ [0 + k], q < (jxs X).length := fun q hq => by
   rcases List.mem_append.1 hq with hq | hq
   ·exact hsl q hq
   ·rw [List.mem_singleton, Nat.zero_add] at hq; subst hq; exact (List.getElem?_eq_some_iff.1 hj).1
  refine ZR ?_
  refine ZA (zg2 (ke := encSt) (ve := encPt) (e := (0 + k, j.nm, ptrV b)) rfl rfl rfl rfl he hok.nb) ?_
  refine WE ?_
  refine WR ?_
  refine zf rfl (Zapp (news := [[T j.nm, T (stW j.st)]]) (j := 1) (hE := KA (t := 35) rfl) (hsrc := .own rfl rfl rfl) (hj := rfl) (hle := by omega)) ?_
  rintro F1 H1 ⟨_, cc, hcc, hF, hH⟩
  (refine NSU hF hH ?_; clear hF hH; rintro rfl rfl)
  refine WE ?_
  have ho2 : out ++ [(j.nm, stW j.st)] = fmJ stPr (jxs X) (seen ++ [0 + k]) := by rw [fmJ_some (f := stPr) hj (rfl), hout]
  refine zn [some 0, some 1, some 2, some 3, some 4, some 5, some 6, some 7, some 8, some 9, some 10] (fun _ => [(5, .o 10 0 (out ++ [(j.nm, stW j.st)]).length cc), (14, .p 9 0 0)]) (fun _ => [.box [.mp 1, .mp 2, .mp 3, .mp 4, .o 5 0 (R1).length c1, .o 6 0 (R2).length c2], mSP (jlF 0 (jxs X) bl) (X).length, mSS sp spk, mSI lf lfk, mSI us usk, .arr 3 1 c1 (nR (R1)), .arr 32 1 c2 (nR (R2)), .pool (plF jbQ X bl), .pool (X.map jbA), .itr 1 X.length (seen ++ [0 + k]) X.length, .arr 56 2 cc (prRs (out ++ [(j.nm, stW j.st)]))]) (by decide) (ZNL hE) (by simp only [prRs, prR, Nat.zero_add, List.map_append, List.map_cons, List.map_nil, List.length_append, List.length_singleton, List.length_map]; exact ZCF) (by simp only [prRs, prR, Nat.zero_add, List.map_append, List.map_cons, List.map_nil, List.length_append, List.length_singleton, List.length_map]; exact ZCH) (fun _ => ?_)
  exact ⟨_, by rw [← hm]; exact hlt, seen ++ [0 + k], _, cc, rfl, by rw [List.length_append, List.length_singleton]; simp only at hlt; omega, hnd2, hsl2, ho2, by simp at hcc ⊢; omega, rfl, rfl⟩
 ·refine za rfl ?_
  have hp : out.Perm ((jxs X).filterMap stPr) := by
   rw [hout]
   refine fmJ_all hnd hsl fun k hk => ?_
   obtain ⟨b, hb⟩ : ∃ b, bl[k]? = some b := ⟨_, List.getElem?_eq_getElem (by rw [hbj]; exact hk)⟩
   simpa using hall _ (jlF_in (i := 0) (List.getElem?_eq_getElem hk) hb)
  refine ZZ ?_
  refine WR ?_
  refine zf rfl (zW [10] (fun _ => [.arr 56 2 co (prRs out)]) false (fun _ => sorted_v out co (by omega)) rfl .fn rfl (by decide) (by kernel_rfl) rfl ZCH (by decide) ZCH (by simp)) ?_
  rintro F1 H1 ⟨_, _, _, _, ⟨l2, hl2, rfl, rfl⟩, hF, hH⟩
  rw [zF] at hF; (refine NSU hF hH ?_; clear hF hH; rintro rfl rfl)
  refine WE ?_
  have hle : l2.length = out.length := hl2.1.length_eq
  exact aret_o (k := out.length) (k' := l2.length) [some 10] (fun _ => [.arr 56 2 co (prRs l2)]) rfl rfl rfl hle.symm (b' := 0) rfl (by decide) (ZNK rfl) ZCH (fun _ => ⟨l2, co, ⟨hl2.1.trans hp, hl2.2⟩, by omega, by omega, rfl, rfl⟩)
end Go.Proofs.YtcdeonjdipcgpaaGreatDoor
