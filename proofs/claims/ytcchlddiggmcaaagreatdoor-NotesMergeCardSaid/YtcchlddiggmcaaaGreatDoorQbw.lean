/- The law NotesMerge, walked. -/
import Derived.Test.YtcchlddiggmcaaaGreatDoorQbc
import Derived.Test.YtcchlddiggmcaaaGreatDoorQbh
import Derived.Test.YtcchlddiggmcaaaGreatDoorQbk
import Derived.Test.YtcchlddiggmcaaaGreatDoorQbl
import Derived.Test.YtcchlddiggmcaaaGreatDoorQbv
set_option linter.unusedSimpArgs false
set_option linter.unusedVariables false
-- NEWM
namespace Go.Proofs.YtcchlddiggmcaaaGreatDoor
open Go Go.RowKit
set_option maxRecDepth 1000000
theorem noted_run : xrun Tryz.prog xnone 25 = some (.bool true) := by kernel_rfl
theorem noted_a : ACalls Tryz.prog 25 [] [] fun u H => u = .c (B true) ∧ H = [] := acalls_of_xrun (by kernel_rfl) (xnone_ok _) (u := .bool true) noted_run
theorem NtB.s {x : Nt} (h : NtB x) : NtS x := ⟨Nat.le_trans h.st (by decide), Nat.le_trans h.pr (by decide), Nat.le_trans h.jb (by decide), Nat.le_trans h.sp (by decide), Nat.le_trans h.of_ (by decide)⟩
theorem notetime_v (v : Value) (zs : List Int) (a : Int) (hs : StrOk zs) (h0 : 0 ≤ a) (h1 : a ≤ 900000000) : ACalls Tryz.prog 7 [.p 0 0 0] [strm v zs a] fun u H => ∃ r : Int, u = .c (I r) ∧ H = [strm v zs (a + 1)] ∧ r = pickF zs a [0, 5, 15, 30, 60, 100, -1, 345686400000] := by
 refine zh (N := 6) Tryz.func7 rfl rfl (by simp) fun E hE => ?_
 repeat' (first
  | (with_reducible refine zF ?_) | (with_reducible refine zD ?_) | (with_reducible refine zI ?_) | (with_reducible refine zM ?_) | (with_reducible refine zK ?_) | (with_reducible refine zO ?_) | (with_reducible refine zL rfl ?_) | (with_reducible refine zJ ?_) | (with_reducible refine zw ?_) | (with_reducible refine zp ?_) | (with_reducible refine zH ?_) | (with_reducible refine zA ?_)
  | refine zb rfl ?_ | refine zc rfl ?_ | refine zz rfl (by assumption) ?_ | refine zu rfl (by assumption) ?_ | refine zr rfl (fun _ => ?_) (fun _ => ?_) | refine zq rfl (fun _ => ?_) (fun _ => ?_)
  | (refine zf (id := 1) ?_
     refine WO ?_
     refine ze rfl (zj true (fun _ => zw1 [0, 5, 15, 30, 60, 100, -1, 345686400000] _ _ _ _ hs (by omega) (by omega) (by simp) (by simp)) rfl .fn rfl (by decide) (by kernel_rfl) rfl rfl (fun _g => .cons (.p rfl) (.cons (.frz rfl rfl rfl rfl rfl) .nil)) (fun _g => .cons (.c rfl) (.cons (.c rfl) .nil)) (fun _ _ _ _ ⟨_, hu, hH, _⟩ => by rw [hu, hH]; exact ⟨.c (.inl trivial), zk (.inr ⟨0, _, rfl, by simp⟩)⟩)) ?_
     rintro F1 H1 ⟨_, _, _, _, ⟨rr, rfl, hq, hrmrr, hvrr⟩, hF, hH⟩
     injection hq with hq1 hq2; subst hq1; subst hq2
     (refine NST hF hH ?_; clear hF hH; rintro rfl rfl)
     refine WE ?_)
  | (refine zf ?_; refine WE ?_))
 refine zg [some 0] _ rfl rfl rfl (by decide) (ZNK rfl) ZCH ?_
 exact ⟨_, rfl, rfl, hvrr⟩
theorem rd_slicerQ {P : Program} {N : Nat} {E : Env} {F : Fm} {H : List OB} {o : Oper} {t e : TypeId} {sz : Nat} {x : Operand} {lo hi : Option Operand} {l h : Nat} {v : Value} {rows rows' : List (List CV)} (hq : (rows.take h).drop l = rows') (ho : o.op = .slice t x lo hi none) (ht : elemSz P t = some (e, sz)) (hx : ev F x = some (.c (.r v rows))) (hrow : ∀ row ∈ rows, row.length = sz)
    (hlo : (lo = none ∧ l = 0) ∨ ∃ y kd z, lo = some y ∧ ev F y = some (.c (.s (.int kd z))) ∧ z = l) (hhi : (hi = none ∧ h = rows.length) ∨ ∃ y kd z, hi = some y ∧ ev F y = some (.c (.s (.int kd z))) ∧ z = h) (hlh : l ≤ h) (hhc : h ≤ rows.length) : Rd P N E o F H (.c (.r (subV v l h sz) rows')) := hq ▸ rd_slicer ho ht hx hrow hlo hhi hlh hhc
theorem ite_len {c : Prop} [Decidable c] {α : Type} {x : List α} {n : Nat} (h : x.length ≤ n) : (if c then x else []).length ≤ n := by split; exact h; exact Nat.zero_le _
theorem firstK2 (x y : Int) : firstK [x, y] = if x ≠ 0 then x else y := by
 unfold firstK firstK firstK
 split
 ·rfl
 ·split <;> omega
theorem mrg_same {la lc : List Nt} {e1 e4 : Int} {r1 r4 : List Nt} (h0 : chkN la = 0) (hm1 : e1 = 0 → ∃ out, mrg la lc = some out ∧ r1.Perm out ∧ r1.Pairwise fun x y => ¬ cmpNt y x < 0) (hm4 : e4 = 0 → ∃ out, mrg la lc = some out ∧ r4.Perm out ∧ r4.Pairwise fun x y => ¬ cmpNt y x < 0) (he : e1 = e4) (hz1 : e1 ≠ 0 → r1 = []) (hz4 : e4 ≠ 0 → r4 = []) : r4 = r1 := by
 by_cases h : e1 = 0
 ·obtain ⟨o1, p1, q1, s1⟩ := hm1 h
  obtain ⟨o4, p4, q4, s4⟩ := hm4 (he ▸ h)
  obtain rfl := Option.some.inj (p1.symm.trans p4)
  have hnd := mrg_nodup _ _ _ (chkN_nodup h0).1 p1
  exact sorted_eq (q4.trans q1.symm) ((q4.map ky).nodup_iff.2 hnd) s4 s1
 ·rw [hz1 h, hz4 (he ▸ h)]
set_option maxHeartbeats 8000000 in
theorem law_merge (v : Value) (zs : List Int) (hs : StrOk zs) : ACalls Tryz.prog 3 [.c (.r v (zs.map fun z => [I z]))] [] fun u H => u = .c (B true) := by
 refine zh (N := 159) Tryz.func3 rfl rfl (by simp) fun E hE => ?_
 refine WA ?_
 refine WA ?_
 refine WR ?_
 refine ze rfl (zj false (fun _ => range_f 0 12 _ _ _ hs (by omega) (by omega) (by omega) (by omega) (by omega) (by omega)) rfl .fn rfl (by decide) (by kernel_rfl) rfl rfl (fun _g => .cons (.p rfl) (.cons (.c rfl) (.cons (.c rfl) .nil))) (fun _g => .cons (.c rfl) (.cons (.c rfl) .nil)) (by simp)) ?_
 rintro F1 H1 ⟨_, _, _, _, ⟨r1, ar1, rfl, hq, hx1r1, hx2r1, hx3r1, hx4r1, _, hvr1⟩, hF, hH⟩
 injection hq with hq1 hq2; subst hq1; subst hq2
 (refine NST hF hH ?_; clear hF hH; rintro rfl rfl)
 obtain ⟨nr1, hnr1⟩ : ∃ m : Nat, r1 = (m : Int) := ⟨(r1).toNat, by omega⟩
 subst hnr1
 have hx5r1 := hx4r1 (by omega)
 refine ze rfl (zz1 [0] (fun _ => [strm v zs ar1]) false (fun _ => notelist_f nr1 (by omega) v zs ar1 hs (by omega) (by omega)) rfl .fn rfl (by decide) (by kernel_rfl) rfl (fun _g => .cons (.p rfl) (.cons (.c rfl) .nil)) (by decide) ZCH (by simp)) ?_
 rintro F1 H1 ⟨_, _, _, _, ⟨la, cla, ala, hfla, _, ha1la, ha2la, hlla, hbla, hcla, rfl, rfl⟩, hF, hH⟩
 (refine NSU hF hH ?_; clear hF hH; rintro rfl rfl)
 refine WO ?_
 refine ze rfl (zj false (fun _ => range_f 0 4 _ _ _ hs (by omega) (by omega) (by omega) (by omega) (by omega) (by omega)) rfl .fn rfl (by decide) (by kernel_rfl) rfl rfl (fun _g => .cons (.p rfl) (.cons (.c rfl) (.cons (.c rfl) .nil))) (fun _g => .cons (.c rfl) (.cons (.c rfl) .nil)) (by simp)) ?_
 rintro F1 H1 ⟨_, _, _, _, ⟨r2, ar2, rfl, hq, hx1r2, hx2r2, hx3r2, hx4r2, _, hvr2⟩, hF, hH⟩
 injection hq with hq1 hq2; subst hq1; subst hq2
 (refine NST hF hH ?_; clear hF hH; rintro rfl rfl)
 obtain ⟨nr2, hnr2⟩ : ∃ m : Nat, r2 = (m : Int) := ⟨(r2).toNat, by omega⟩
 subst hnr2
 have hx5r2 := hx4r2 (by omega)
 refine ze rfl (zz1 [0] (fun _ => [strm v zs ar2]) false (fun _ => notelist_f nr2 (by omega) v zs ar2 hs (by omega) (by omega)) rfl .fn rfl (by decide) (by kernel_rfl) rfl (fun _g => .cons (.p rfl) (.cons (.c rfl) .nil)) (by decide) ZCH (by simp)) ?_
 rintro F1 H1 ⟨_, _, _, _, ⟨lb, clb, alb, hflb, _, ha1lb, ha2lb, hllb, hblb, hclb, rfl, rfl⟩, hF, hH⟩
 (refine NSU hF hH ?_; clear hF hH; rintro rfl rfl)
 refine WO ?_
 refine ze rfl (zj false (fun _ => notetime_v _ _ _ hs (by omega) (by omega)) rfl .fn rfl (by decide) (by kernel_rfl) rfl rfl (fun _g => .cons (.p rfl) .nil) (fun _g => .cons (.c rfl) (.cons (.c rfl) .nil)) (by simp)) ?_
 rintro F1 H1 ⟨_, _, _, _, ⟨at_, rfl, hq, _⟩, hF, hH⟩
 injection hq with hq1 hq2; subst hq1; subst hq2
 (refine NST hF hH ?_; clear hF hH; rintro rfl rfl)
 refine WE ?_
 refine aw_wk (zm (K := fun F H => ∃ va, F = [(3, .p 0 0 0), (4, .c (.r va (noRs la))), (5, .o 1 0 lb.length clb), (6, .c (I at_))] ∧ H = [strm v zs (alb + 1), .arr 33 10 clb (noRs lb)]) [some 0, some 2] (fun g => [(3, .p 0 0 0), (4, .c (.r (g (.o 1 0 la.length cla)) (noRs la))), (5, .o 1 0 lb.length clb), (6, .c (I at_))]) (fun _ => [strm v zs (alb + 1), .arr 33 10 clb (noRs lb)]) (by decide) (ZNL hE) (fun _ => .cons rfl (.p rfl) (.cons rfl (.frz rfl rfl (by rw [List.drop_zero, List.take_of_length_le (by simp)]) (by simp) rfl) (.cons rfl (.o rfl rfl) (.cons rfl (.c rfl) .nil)))) ZCH (fun _ => ⟨_, rfl, rfl⟩)) ?_
 rintro F H ⟨va, rfl, rfl⟩
 have e1 : (noRs la).length = la.length := by simp
 have hAs : ∀ x ∈ la, NtS x := fun x hx => (hbla x hx).s
 have hAn : ∀ x ∈ la, x.no ≤ 4000000000000 := fun x hx => by have := (hbla x hx).no; omega
 refine ZZ ?_
 refine zU1 (fun F H => ∃ (q : Bool) (a4 : Int), (q = true → 0 < la.length) ∧ alb + 1 ≤ a4 ∧ a4 ≤ alb + 2 ∧ F = [(3, .p 0 0 0), (4, .c (.r va (noRs la))), (5, .o 1 0 lb.length clb), (6, .c (I at_)), (40, .c (B q))] ∧ H = [strm v zs a4, .arr 33 10 clb (noRs lb)]) ?_ ?_ wk_aw
 ·by_cases hg : (0 : Int) < ((noRs la).length : Int)
  ·refine WR ?_
   first | refine ZS ?_ | (refine G1 rfl ?_; refine ze rfl (zj false (fun _ => flip_f 2 _ _ _ hs (by omega) (by omega) (by simp only [in64]; omega)) rfl .fn rfl (by decide) (by kernel_rfl) rfl rfl (fun _g => .cons (.p rfl) (.cons (.c rfl) .nil)) (fun _g => .cons (.c rfl) (.cons (.c rfl) .nil)) (by simp)) ?_; rintro F1 H1 ⟨_, _, _, _, ⟨bb, rfl, hq, hvbb⟩, hF, hH⟩; injection hq with hq1 hq2; subst hq1; subst hq2; (refine NST hF hH ?_; clear hF hH; rintro rfl rfl)) | skip
   refine WE ?_
   refine zm [some 0, some 1] (fun _ => [(3, .p 0 0 0), (4, .c (.r va (noRs la))), (5, .o 1 0 lb.length clb), (6, .c (I at_)), (40, .c (B bb))]) (fun _ => [strm v zs (alb + 1 + 1), .arr 33 10 clb (noRs lb)]) (by decide) (ZNL hE) ZCF ZCH (fun _ => ⟨bb, alb + 1 + 1, fun _ => by omega, by omega, by omega, rfl, rfl⟩)
  ·refine WR ?_
   first | refine ZS ?_ | (refine G1 rfl ?_; refine ze rfl (zj false (fun _ => flip_f 2 _ _ _ hs (by omega) (by omega) (by simp only [in64]; omega)) rfl .fn rfl (by decide) (by kernel_rfl) rfl rfl (fun _g => .cons (.p rfl) (.cons (.c rfl) .nil)) (fun _g => .cons (.c rfl) (.cons (.c rfl) .nil)) (by simp)) ?_; rintro F1 H1 ⟨_, _, _, _, ⟨bb, rfl, hq, hvbb⟩, hF, hH⟩; injection hq with hq1 hq2; subst hq1; subst hq2; (refine NST hF hH ?_; clear hF hH; rintro rfl rfl)) | skip
   refine WE ?_
   refine zm [some 0, some 1] (fun _ => [(3, .p 0 0 0), (4, .c (.r va (noRs la))), (5, .o 1 0 lb.length clb), (6, .c (I at_)), (40, .c (B false))]) (fun _ => [strm v zs (alb + 1), .arr 33 10 clb (noRs lb)]) (by decide) (ZNL hE) ZCF ZCH (fun _ => ⟨false, alb + 1, fun h => Bool.noConfusion h, by omega, by omega, rfl, rfl⟩)
 rintro F H ⟨q, a4, hq0, ha4, ha4b, rfl, rfl⟩
 refine ZZ ?_
 refine zU1 (fun F H => ∃ (a5 : Int) (lc : List Nt) (cc : Nat), lc.length ≤ 20 ∧ (∀ x ∈ lc, NtS x) ∧ lc.length ≤ cc ∧ alb + 1 ≤ a5 ∧ a5 ≤ alb + 10 ∧ F = [(3, .p 0 0 0), (4, .c (.r va (noRs la))), (5, .o 1 0 lc.length cc), (6, .c (I at_))] ∧ H = [strm v zs a5, .arr 33 10 cc (noRs lc)]) ?_ ?_ wk_aw
 ·refine zq rfl (fun hq => ?_) (fun hq => ?_)
  ·have hla0 := hq0 hq
   refine WR ?_
   refine ze rfl (zj false (fun _ => next_f _ _ _ _ hs (by omega) (by omega) (by simp only [in64]; omega)) rfl .fn rfl (by decide) (by kernel_rfl) rfl rfl (fun _g => .cons (.p rfl) (.cons (.c rfl) .nil)) (fun _g => .cons (.c rfl) (.cons (.c rfl) .nil)) (by simp)) ?_
   rintro F1 H1 ⟨_, _, _, _, ⟨rq, rfl, hq, hr1, hr2, hrv⟩, hF, hH⟩
   injection hq with hq1 hq2; subst hq1; subst hq2
   (refine NST hF hH ?_; clear hF hH; rintro rfl rfl)
   obtain ⟨i, rfl⟩ : ∃ i : Nat, rq = i := ⟨rq.toNat, by omega⟩
   have hi : i < la.length := by have := hr2 (by rw [e1]; omega); rw [e1] at this; omega
   refine ZA (rd_slicerQ (e := 33) (sz := 10) (l := i) (h := (noRs la).length) (rows' := noRs (la.drop i)) (by rw [List.take_length, ← List.map_drop]) rfl (by kernel_rfl) rfl (by intro row hr; obtain ⟨s, -, rfl⟩ := List.mem_map.1 hr; rfl) (.inr ⟨_, _, _, rfl, rfl, rfl⟩) (.inl ⟨rfl, rfl⟩) (by omega) (Nat.le_refl _)) ?_
   refine ze rfl (za false (fun _ => cloneN_a (noRs (la.drop i)) _ (okNo _) (by simp; omega)) rfl .fn rfl (by decide) (by kernel_rfl) rfl (fun _ => C0 rfl) (by simp)) ?_
   rintro _ _ ⟨_, _, _, ⟨c3, hc3, rfl, rfl⟩, hF, hH⟩
   (refine NST hF hH ?_; clear hF hH; rintro rfl rfl)
   refine WE ?_
   obtain ⟨x, ld, hld⟩ : ∃ x ld, la.drop i = x :: ld := ⟨_, _, List.drop_eq_getElem_cons hi⟩
   have hmem : ∀ y ∈ x :: ld, NtB y := fun y hy => hbla y (List.mem_of_mem_drop (hld ▸ hy))
   have hdl : (x :: ld).length ≤ 12 := by rw [← hld]; simp; omega
   have hxb := hmem x List.mem_cons_self
   rw [hld] at hc3 ⊢
   refine WR ?_
   refine ze rfl (zj false (fun _ => flip_f 4 _ _ _ hs (by omega) (by omega) (by simp only [in64]; omega)) rfl .fn rfl (by decide) (by kernel_rfl) rfl rfl (fun _g => .cons (.p rfl) (.cons (.c rfl) .nil)) (fun _g => .cons (.c rfl) (.cons (.c rfl) .nil)) (by simp)) ?_
   rintro F1 H1 ⟨_, _, _, _, ⟨bb, rfl, hq, hvbb⟩, hF, hH⟩
   injection hq with hq1 hq2; subst hq1; subst hq2
   (refine NST hF hH ?_; clear hF hH; rintro rfl rfl)
   refine WE ?_
   refine zq rfl (fun hb => ?_) (fun hb => ?_)
   ·obtain ⟨x0, x1, x2, x3, x4, x5, x6, x7, x8, x9⟩ := x
    have hx2 := hxb.at_
    simp only at hx2
    have e3 : (noRs (⟨x0, x1, x2, x3, x4, x5, x6, x7, x8, x9⟩ :: ld)).length = ld.length + 1 := by simp
    simp only [noR]
    have hrow : (([T x0, I x1, I x2, I x3, T x4, T x5, T x6, I x7, T x8, I x9] : List CV) :: noRs ld)[0]? = some [T x0, I x1, I x2, I x3, T x4, T x5, T x6, I x7, T x8, I x9] := rfl
    refine ZR ?_
    refine WX1 ?_
    refine ZA (rd_index (i := 0) rfl (KE (t := 26) rfl) rfl rfl rfl rfl (by omega)) ?_
    iterate 3 refine WX1 ?_
    refine ZA (rd_index (i := 0) rfl (KE (t := 26) rfl) rfl rfl rfl rfl (by omega)) ?_
    refine WE ?_
    refine zm [some 0, some 2] (fun _ => [(3, .p 0 0 0), (4, .c (.r va (noRs la))), (5, .o 1 0 (ld.length + 1) c3), (6, .c (I at_))]) (fun _ => [strm v zs (a4 + 1 + 1), .arr 33 10 c3 (noRs (⟨x0, x1, x2 + 1, x3, x4, x5, x6, x7, x8, x9⟩ :: ld))]) (by decide) (ZNL hE) (fun _ => .cons rfl (.p rfl) (.cons rfl (.c rfl) (.cons rfl (.o rfl (by simp)) (.cons rfl (.c rfl) .nil)))) ZCH (fun _ => ⟨a4 + 1 + 1, ⟨x0, x1, x2 + 1, x3, x4, x5, x6, x7, x8, x9⟩ :: ld, c3, by simp at hdl ⊢; omega, ?_, by simpa using hc3, by omega, by omega, rfl, rfl⟩)
    intro y hy
    rcases List.mem_cons.1 hy with rfl | hy
    ·have h := hxb.s; exact ⟨h.st, h.pr, h.jb, h.sp, h.of_⟩
    ·exact (hmem y (List.mem_cons_of_mem _ hy)).s
   ·refine ZZ ?_
    exact zm [some 0, some 2] (fun _ => [(3, .p 0 0 0), (4, .c (.r va (noRs la))), (5, .o 1 0 (x :: ld).length c3), (6, .c (I at_))]) (fun _ => [strm v zs (a4 + 1 + 1), .arr 33 10 c3 (noRs (x :: ld))]) (by decide) (ZNL hE) (fun _ => .cons rfl (.p rfl) (.cons rfl (.c rfl) (.cons rfl (.o rfl (by simp)) (.cons rfl (.c rfl) .nil)))) ZCH (fun _ => ⟨a4 + 1 + 1, x :: ld, c3, by omega, fun y hy => (hmem y hy).s, by simpa using hc3, by omega, by omega, rfl, rfl⟩)
  ·refine ZZ ?_
   exact zm [some 0, some 1] (fun _ => [(3, .p 0 0 0), (4, .c (.r va (noRs la))), (5, .o 1 0 lb.length clb), (6, .c (I at_))]) (fun _ => [strm v zs a4, .arr 33 10 clb (noRs lb)]) (by decide) (ZNL hE) ZCF ZCH (fun _ => ⟨a4, lb, clb, by omega, fun y hy => (hblb y hy).s, by omega, by omega, by omega, rfl, rfl⟩)
 rintro F H ⟨a5, lc, cc, hlc, hBs, hcc, ha5, ha5b, rfl, rfl⟩
 refine ZZ ?_
 refine WR ?_
 refine ze rfl (zj true (fun _ => ze1 [[97], [98], [99]] _ _ _ _ hs (by omega) (by omega) (by simp) (by simp)) rfl .fn rfl (by decide) (by kernel_rfl) rfl rfl (fun _g => .cons (.p rfl) (.cons (.frz rfl rfl rfl rfl rfl) .nil)) (fun _g => .cons (.c rfl) (.cons (.c rfl) .nil)) (fun _ _ _ _ ⟨_, hu, hH, _⟩ => by rw [hu, hH]; exact ⟨.c (.inl trivial), zk (.inr ⟨0, _, rfl, by simp⟩)⟩)) ?_
 rintro F1 H1 ⟨_, _, _, _, ⟨xs, rfl, hq, hrmxs, hvxs⟩, hF, hH⟩
 injection hq with hq1 hq2; subst hq1; subst hq2
 (refine NST hF hH ?_; clear hF hH; rintro rfl rfl)
 have hbxs : (xs).length ≤ 1 := by
  have h : ∀ r ∈ ([[97], [98], [99]] : List (List UInt8)), r.length ≤ 1 := by first | (simp; done) | (simp; omega)
  exact h _ hrmxs
 clear hrmxs
 refine WO ?_
 refine ze rfl (zj true (fun _ => zw1 [0, 0, 0, 1] _ _ _ _ hs (by omega) (by omega) (by simp) (by simp)) rfl .fn rfl (by decide) (by kernel_rfl) rfl rfl (fun _g => .cons (.p rfl) (.cons (.frz rfl rfl rfl rfl rfl) .nil)) (fun _g => .cons (.c rfl) (.cons (.c rfl) .nil)) (fun _ _ _ _ ⟨_, hu, hH, _⟩ => by rw [hu, hH]; exact ⟨.c (.inl trivial), zk (.inr ⟨0, _, rfl, by simp⟩)⟩)) ?_
 rintro F1 H1 ⟨_, _, _, _, ⟨xn, rfl, hq, hrmxn, hvxn⟩, hF, hH⟩
 injection hq with hq1 hq2; subst hq1; subst hq2
 (refine NST hF hH ?_; clear hF hH; rintro rfl rfl)
 have hbxn : -1 ≤ xn ∧ xn ≤ 1000 := by
  have h : ∀ r ∈ ([0, 0, 0, 1] : List Int), -1 ≤ r ∧ r ≤ 1000 := by simp
  exact h _ hrmxn
 clear hrmxn
 refine WO ?_
 refine ze rfl (zj true (fun _ => zw1 [500, 500, 0] _ _ _ _ hs (by omega) (by omega) (by simp) (by simp)) rfl .fn rfl (by decide) (by kernel_rfl) rfl rfl (fun _g => .cons (.p rfl) (.cons (.frz rfl rfl rfl rfl rfl) .nil)) (fun _g => .cons (.c rfl) (.cons (.c rfl) .nil)) (fun _ _ _ _ ⟨_, hu, hH, _⟩ => by rw [hu, hH]; exact ⟨.c (.inl trivial), zk (.inr ⟨0, _, rfl, by simp⟩)⟩)) ?_
 rintro F1 H1 ⟨_, _, _, _, ⟨xa, rfl, hq, hrmxa, hvxa⟩, hF, hH⟩
 injection hq with hq1 hq2; subst hq1; subst hq2
 (refine NST hF hH ?_; clear hF hH; rintro rfl rfl)
 have hbxa : -1 ≤ xa ∧ xa ≤ 1000 := by
  have h : ∀ r ∈ ([500, 500, 0] : List Int), -1 ≤ r ∧ r ≤ 1000 := by simp
  exact h _ hrmxa
 clear hrmxa
 refine WO ?_
 refine ze rfl (zj true (fun _ => ze1 [[112], [112], []] _ _ _ _ hs (by omega) (by omega) (by simp) (by simp)) rfl .fn rfl (by decide) (by kernel_rfl) rfl rfl (fun _g => .cons (.p rfl) (.cons (.frz rfl rfl rfl rfl rfl) .nil)) (fun _g => .cons (.c rfl) (.cons (.c rfl) .nil)) (fun _ _ _ _ ⟨_, hu, hH, _⟩ => by rw [hu, hH]; exact ⟨.c (.inl trivial), zk (.inr ⟨0, _, rfl, by simp⟩)⟩)) ?_
 rintro F1 H1 ⟨_, _, _, _, ⟨xp, rfl, hq, hrmxp, hvxp⟩, hF, hH⟩
 injection hq with hq1 hq2; subst hq1; subst hq2
 (refine NST hF hH ?_; clear hF hH; rintro rfl rfl)
 have hbxp : (xp).length ≤ 1 := by
  have h : ∀ r ∈ ([[112], [112], []] : List (List UInt8)), r.length ≤ 1 := by first | (simp; done) | (simp; omega)
  exact h _ hrmxp
 clear hrmxp
 refine WE ?_
 refine aw_wk (zm (K := fun F H => ∃ vb, F = [(4, .c (.r va (noRs la))), (5, .c (.r vb (noRs lc))), (6, .c (I at_)), (7, .p 0 0 0)] ∧ H = [.box [.c (T xs), .c (I xn), .c (I xa), .c (I 3), .c (T xp), .c (T []), .c (T []), .c (I 0), .c (T []), .c (I 0)]]) [some 6] (fun g => [(4, .c (.r va (noRs la))), (5, .c (.r (g (.o 1 0 lc.length cc)) (noRs lc))), (6, .c (I at_)), (7, .p 0 0 0)]) (fun _ => [.box [.c (T xs), .c (I xn), .c (I xa), .c (I 3), .c (T xp), .c (T []), .c (T []), .c (I 0), .c (T []), .c (I 0)]]) (by decide) (ZNL hE) (fun _ => .cons rfl (.c rfl) (.cons rfl (.frz rfl rfl (by rw [List.drop_zero, List.take_of_length_le (by simp)]) (by simp) rfl) (.cons rfl (.c rfl) (.cons rfl (.p rfl) .nil)))) ZCH (fun _ => ⟨_, rfl, rfl⟩)) ?_
 rintro F H ⟨vb, rfl, rfl⟩
 have hXs : NtS ⟨xs, xn, xa, 3, xp, [], [], 0, [], 0⟩ := ⟨Nat.le_trans hbxs (by decide), Nat.le_trans hbxp (by decide), by simp, by simp, by simp⟩
 clear hs
 refine WR ?_
 refine ze rfl (za false (fun _ => merge_v va vb la lc (by omega) (by omega) hAs hBs) rfl .fn rfl (by decide) (by kernel_rfl) rfl (fun _ => C0 rfl) (by simp)) ?_
 rintro _ _ ⟨_, _, _, ⟨e1, r1, c1, he1, hm1, hz1, hc1, rfl, rfl⟩, hF, hH⟩
 (refine NST hF hH ?_; clear hF hH; rintro rfl rfl)
 refine WE ?_
 have hr1l : r1.length ≤ 1000000 := by
  by_cases h : e1 = 0
  ·obtain ⟨out, p1, q1, _⟩ := hm1 h
   rw [q1.length_eq]
   have := mrg_len _ _ _ p1
   omega
  ·rw [hz1 h]; simp
 refine WR ?_
 refine ze rfl (za false (fun _ => write_v va la ⟨xs, xn, xa, 3, xp, [], [], 0, [], 0⟩ (by omega) hAs hXs hAn (by simp only; omega)) rfl .fn rfl (by decide) (by kernel_rfl) rfl (fun _ => .cons (.c rfl) (.cons (.aL (C0 rfl)) .nil)) (by simp)) ?_
 rintro _ _ ⟨_, _, _, ⟨r2, c2, hr2, hc2, rfl, rfl⟩, hF, hH⟩
 (refine NST hF hH ?_; clear hF hH; rintro rfl rfl)
 refine WE ?_
 have hr2l : r2.length ≤ 1000000 := by
  rw [hr2]
  exact ite_len (by simp; omega)
 refine WR ?_
 refine ze rfl (za false (fun _ => countingP_v va la at_ (by omega) hAs) rfl .fn rfl (by decide) (by kernel_rfl) rfl (fun _ => C0 rfl) (by simp)) ?_
 rintro _ _ ⟨_, _, _, ⟨r3, c3, hr3, hc3, rfl, rfl⟩, hF, hH⟩
 (refine NST hF hH ?_; clear hF hH; rintro rfl rfl)
 refine WE ?_
 have hr3l : r3.length ≤ 1000000 := by
  rw [hr3]
  refine ite_len ?_
  have := cst_len at_ la la.length (Nat.le_refl _)
  unfold cntP
  rw [List.length_reverse]
  omega
 have hnfa := notesfault_v va la (by omega) hAs
 have hnfb := notesfault_v vb lc (by omega) hBs
 have hmof := momentfault_v at_
 have hchk := zR1 va la (by omega) hAs
 refine WR ?_
 refine ze rfl (za false (fun _ => hnfa) rfl .fn rfl (by decide) (by kernel_rfl) rfl (fun _ => C0 rfl) (by simp)) ?_
 rintro _ _ ⟨_, _, _, ⟨rfl, rfl⟩, hF, hH⟩
 (refine NST hF hH ?_; clear hF hH; rintro rfl rfl)
 refine WE ?_
 refine WR ?_
 refine ze rfl (za false (fun _ => hnfb) rfl .fn rfl (by decide) (by kernel_rfl) rfl (fun _ => C0 rfl) (by simp)) ?_
 rintro _ _ ⟨_, _, _, ⟨rfl, rfl⟩, hF, hH⟩
 (refine NST hF hH ?_; clear hF hH; rintro rfl rfl)
 refine WO ?_
 refine ze rfl (za true (fun g => errsk_a [chkN la, chkN lc] (g (.o 4 0 2 2)) (by simp)) rfl .fn rfl (by decide) (by kernel_rfl) rfl (fun _ => .cons (.frz rfl rfl rfl rfl rfl) .nil) (fun _ _ _ _ ⟨hu, hH⟩ => by rw [hu, hH]; exact ⟨.c (.inl trivial), by simp⟩)) ?_
 rintro _ _ ⟨_, _, _, ⟨rfl, rfl⟩, hF, hH⟩
 (refine NST hF hH ?_; clear hF hH; rintro rfl rfl)
 refine WO ?_
 refine ze rfl (za false (fun _ => hmof) rfl .fn rfl (by decide) (by kernel_rfl) rfl (fun _ => C0 rfl) (by simp)) ?_
 rintro _ _ ⟨_, _, _, ⟨rfl, rfl⟩, hF, hH⟩
 (refine NST hF hH ?_; clear hF hH; rintro rfl rfl)
 refine WO ?_
 refine ze rfl (za true (fun g => errsk_a [chkN la, (if moB at_ = true then 0 else 1)] (g (.o 5 0 2 2)) (by simp)) rfl .fn rfl (by decide) (by kernel_rfl) rfl (fun _ => .cons (.frz rfl rfl rfl rfl rfl) .nil) (fun _ _ _ _ ⟨hu, hH⟩ => by rw [hu, hH]; exact ⟨.c (.inl trivial), by simp⟩)) ?_
 rintro _ _ ⟨_, _, _, ⟨rfl, rfl⟩, hF, hH⟩
 (refine NST hF hH ?_; clear hF hH; rintro rfl rfl)
 refine WE ?_
 refine WA ?_
 rw [firstK2, firstK2]
 generalize hga : (if chkN la ≠ 0 then chkN la else chkN lc) = one0
 generalize hgb : (if chkN la ≠ 0 then chkN la else if moB at_ = true then 0 else 1) = three
 generalize hgc : (if chkN la ≠ 0 then chkN la else wrE la ⟨xs, xn, xa, 3, xp, [], [], 0, [], 0⟩) = f1 at hr2 ⊢
 have hgd : askF la at_ = three := by rw [← hgb]; rfl
 rw [hgd] at hr3 ⊢
 generalize hfa : chkN la = fa at hnfa hchk hga hgb hgc
 refine aw_wk (zm (K := fun F H => ∃ v8 v10 v12, F = [(4, .c (.r va (noRs la))), (5, .c (.r vb (noRs lc))), (6, .c (I at_)), (7, .p 0 0 0), (8, .c (.r v8 (noRs r1))), (9, .c (I e1)), (10, .c (.r v10 (noRs r2))), (11, .c (I f1)), (12, .c (.r v12 (nR r3))), (13, .c (I three)), (14, .c (I fa)), (15, .c (I one0)), (16, .c (I fa)), (17, .c (I three)), (18, .c (.r (.slice none 0 0) [])), (19, .c (.r (.slice none 0 0) []))] ∧ H = [.box [.c (T xs), .c (I xn), .c (I xa), .c (I 3), .c (T xp), .c (T []), .c (T []), .c (I 0), .c (T []), .c (I 0)]]) [some 0] (fun g => [(4, .c (.r va (noRs la))), (5, .c (.r vb (noRs lc))), (6, .c (I at_)), (7, .p 0 0 0), (8, .c (.r (g (.o 1 0 r1.length c1)) (noRs r1))), (9, .c (I e1)), (10, .c (.r (g (.o 2 0 r2.length c2)) (noRs r2))), (11, .c (I f1)), (12, .c (.r (g (.o 3 0 r3.length c3)) (nR r3))), (13, .c (I three)), (14, .c (I fa)), (15, .c (I one0)), (16, .c (I fa)), (17, .c (I three)), (18, .c (.r (.slice none 0 0) [])), (19, .c (.r (.slice none 0 0) []))]) (fun _ => [.box [.c (T xs), .c (I xn), .c (I xa), .c (I 3), .c (T xp), .c (T []), .c (T []), .c (I 0), .c (T []), .c (I 0)]]) (by decide) (ZNL hE) (fun _ => .cons rfl (.c rfl) (.cons rfl (.c rfl) (.cons rfl (.c rfl) (.cons rfl (.p rfl) (.cons rfl (.frz rfl rfl (by rw [List.drop_zero, List.take_of_length_le (by simp)]) (by simp) rfl) (.cons rfl (.c rfl) (.cons rfl (.frz rfl rfl (by rw [List.drop_zero, List.take_of_length_le (by simp)]) (by simp) rfl) (.cons rfl (.c rfl) (.cons rfl (.frz rfl rfl (by rw [List.drop_zero, List.take_of_length_le (by simp)]) (by simp) rfl) (.cons rfl (.c rfl) (.cons rfl (.c rfl) (.cons rfl (.c rfl) (.cons rfl (.c rfl) (.cons rfl (.c rfl) (.cons rfl (.c rfl) (.cons rfl (.c rfl) .nil)))))))))))))))) ZCH (fun _ => ⟨_, _, _, rfl, rfl⟩)) ?_
 rintro F H ⟨v8, v10, v12, rfl, rfl⟩
 refine WA ?_
 refine zU1 (fun F H => ∃ v18, F = [(4, .c (.r va (noRs la))), (5, .c (.r vb (noRs lc))), (6, .c (I at_)), (7, .p 0 0 0), (8, .c (.r v8 (noRs r1))), (9, .c (I e1)), (10, .c (.r v10 (noRs r2))), (11, .c (I f1)), (12, .c (.r v12 (nR r3))), (13, .c (I three)), (14, .c (I fa)), (15, .c (I e1)), (16, .c (I fa)), (17, .c (I three)), (18, .c (.r v18 (noRs r1))), (19, .c (.r (.slice none 0 0) []))] ∧ H = [.box [.c (T xs), .c (I xn), .c (I xa), .c (I 3), .c (T xp), .c (T []), .c (T []), .c (I 0), .c (T []), .c (I 0)]]) ?_ ?_ wk_aw
 ·refine zr rfl (fun h0 => ?_) (fun h0 => ?_)
  ·have hfa0 : fa = 0 := by rw [← hga] at h0; split at h0 <;> omega
   have hlc0 : chkN lc = 0 := by rw [hfa0, if_neg (by simp)] at hga; omega
   have he14 : e1 = mrE (mrg la lc) := by rw [he1, mgE, hfa, hfa0, hlc0]; rfl
   refine WR ?_
   refine ze rfl (za false (fun _ => merged_v va vb la lc (by omega) (by omega)) rfl .fn rfl (by decide) (by kernel_rfl) rfl (fun _ => C0 rfl) (by simp)) ?_
   rintro _ _ ⟨_, _, _, ⟨e4, r4, c4, he4, hm4, hz4, hc4, rfl, rfl⟩, hF, hH⟩
   (refine NST hF hH ?_; clear hF hH; rintro rfl rfl)
   refine WE ?_
   obtain rfl : e4 = e1 := he4.trans he14.symm
   obtain rfl : r4 = r1 := mrg_same (hfa.trans hfa0) hm1 hm4 rfl hz1 hz4
   exact zm [some 0] (fun g => [(4, .c (.r va (noRs la))), (5, .c (.r vb (noRs lc))), (6, .c (I at_)), (7, .p 0 0 0), (8, .c (.r v8 (noRs r4))), (9, .c (I e4)), (10, .c (.r v10 (noRs r2))), (11, .c (I f1)), (12, .c (.r v12 (nR r3))), (13, .c (I three)), (14, .c (I fa)), (15, .c (I e4)), (16, .c (I fa)), (17, .c (I three)), (18, .c (.r (g (.o 1 0 r4.length c4)) (noRs r4))), (19, .c (.r (.slice none 0 0) []))]) (fun _ => [.box [.c (T xs), .c (I xn), .c (I xa), .c (I 3), .c (T xp), .c (T []), .c (T []), .c (I 0), .c (T []), .c (I 0)]]) (by decide) (ZNL hE) (fun _ => .cons rfl (.c rfl) (.cons rfl (.c rfl) (.cons rfl (.c rfl) (.cons rfl (.p rfl) (.cons rfl (.c rfl) (.cons rfl (.c rfl) (.cons rfl (.c rfl) (.cons rfl (.c rfl) (.cons rfl (.c rfl) (.cons rfl (.c rfl) (.cons rfl (.c rfl) (.cons rfl (.c rfl) (.cons rfl (.c rfl) (.cons rfl (.c rfl) (.cons rfl (.frz rfl rfl (by rw [List.drop_zero, List.take_of_length_le (by simp)]) (by simp) rfl) (.cons rfl (.c rfl) .nil)))))))))))))))) ZCH (fun _ => ⟨_, rfl, rfl⟩)
  ·have he1' : e1 = one0 := by
    rw [he1]
    unfold mgE
    rw [hfa]
    rw [← hga] at h0 ⊢
    by_cases hf : fa = 0 <;> by_cases hg : chkN lc = 0 <;> simp_all
   obtain rfl := hz1 (by omega)
   subst he1'
   refine ZZ ?_
   exact zm [some 0] (fun _ => [(4, .c (.r va (noRs la))), (5, .c (.r vb (noRs lc))), (6, .c (I at_)), (7, .p 0 0 0), (8, .c (.r v8 (noRs []))), (9, .c (I e1)), (10, .c (.r v10 (noRs r2))), (11, .c (I f1)), (12, .c (.r v12 (nR r3))), (13, .c (I three)), (14, .c (I fa)), (15, .c (I e1)), (16, .c (I fa)), (17, .c (I three)), (18, .c (.r (.slice none 0 0) (noRs []))), (19, .c (.r (.slice none 0 0) []))]) (fun _ => [.box [.c (T xs), .c (I xn), .c (I xa), .c (I 3), .c (T xp), .c (T []), .c (T []), .c (I 0), .c (T []), .c (I 0)]]) (by decide) (ZNL hE) (fun _ => .cons rfl (.c rfl) (.cons rfl (.c rfl) (.cons rfl (.c rfl) (.cons rfl (.p rfl) (.cons rfl (.c rfl) (.cons rfl (.c rfl) (.cons rfl (.c rfl) (.cons rfl (.c rfl) (.cons rfl (.c rfl) (.cons rfl (.c rfl) (.cons rfl (.c rfl) (.cons rfl (.c rfl) (.cons rfl (.c rfl) (.cons rfl (.c rfl) (.cons rfl (.c rfl) (.cons rfl (.c rfl) .nil)))))))))))))))) ZCH (fun _ => ⟨_, rfl, rfl⟩)
 rintro F H ⟨v18, rfl, rfl⟩
 refine ZZ ?_
 refine WA ?_
 refine zU1 (fun F H => ∃ v19, F = [(4, .c (.r va (noRs la))), (5, .c (.r vb (noRs lc))), (6, .c (I at_)), (7, .p 0 0 0), (8, .c (.r v8 (noRs r1))), (9, .c (I e1)), (10, .c (.r v10 (noRs r2))), (11, .c (I f1)), (12, .c (.r v12 (nR r3))), (13, .c (I three)), (14, .c (I fa)), (15, .c (I e1)), (16, .c (I f1)), (17, .c (I three)), (18, .c (.r v18 (noRs r1))), (19, .c (.r v19 (noRs r2)))] ∧ H = [.box [.c (T xs), .c (I xn), .c (I xa), .c (I 3), .c (T xp), .c (T []), .c (T []), .c (I 0), .c (T []), .c (I 0)]]) ?_ ?_ wk_aw
 ·refine zr rfl (fun h0 => ?_) (fun h0 => ?_)
  ·rw [h0, if_neg (by simp)] at hgc
   refine WR ?_
   refine ze rfl (za false (fun _ => written_v va la ⟨xs, xn, xa, 3, xp, [], [], 0, [], 0⟩ (by omega) hAs hXs hAn (by simp only; omega)) rfl .fn rfl (by decide) (by kernel_rfl) rfl (fun _ => .cons (.c rfl) (.cons (.aL (C0 rfl)) .nil)) (by simp)) ?_
   rintro _ _ ⟨_, _, _, ⟨r5, c5, hr5, hc5, rfl, rfl⟩, hF, hH⟩
   (refine NST hF hH ?_; clear hF hH; rintro rfl rfl)
   refine WE ?_
   obtain rfl : r5 = r2 := by rw [hr5, hr2, hgc]
   rw [hgc]
   exact zm [some 0] (fun g => [(4, .c (.r va (noRs la))), (5, .c (.r vb (noRs lc))), (6, .c (I at_)), (7, .p 0 0 0), (8, .c (.r v8 (noRs r1))), (9, .c (I e1)), (10, .c (.r v10 (noRs r5))), (11, .c (I f1)), (12, .c (.r v12 (nR r3))), (13, .c (I three)), (14, .c (I fa)), (15, .c (I e1)), (16, .c (I f1)), (17, .c (I three)), (18, .c (.r v18 (noRs r1))), (19, .c (.r (g (.o 1 0 r5.length c5)) (noRs r5)))]) (fun _ => [.box [.c (T xs), .c (I xn), .c (I xa), .c (I 3), .c (T xp), .c (T []), .c (T []), .c (I 0), .c (T []), .c (I 0)]]) (by decide) (ZNL hE) (fun _ => .cons rfl (.c rfl) (.cons rfl (.c rfl) (.cons rfl (.c rfl) (.cons rfl (.p rfl) (.cons rfl (.c rfl) (.cons rfl (.c rfl) (.cons rfl (.c rfl) (.cons rfl (.c rfl) (.cons rfl (.c rfl) (.cons rfl (.c rfl) (.cons rfl (.c rfl) (.cons rfl (.c rfl) (.cons rfl (.c rfl) (.cons rfl (.c rfl) (.cons rfl (.c rfl) (.cons rfl (.frz rfl rfl (by rw [List.drop_zero, List.take_of_length_le (by simp)]) (by simp) rfl) .nil)))))))))))))))) ZCH (fun _ => ⟨_, rfl, rfl⟩)
  ·rw [if_pos h0] at hgc
   obtain rfl : r2 = [] := by rw [hr2, if_neg (by rw [← hgc]; exact h0)]
   subst hgc
   refine ZZ ?_
   exact zm [some 0] (fun _ => [(4, .c (.r va (noRs la))), (5, .c (.r vb (noRs lc))), (6, .c (I at_)), (7, .p 0 0 0), (8, .c (.r v8 (noRs r1))), (9, .c (I e1)), (10, .c (.r v10 (noRs []))), (11, .c (I fa)), (12, .c (.r v12 (nR r3))), (13, .c (I three)), (14, .c (I fa)), (15, .c (I e1)), (16, .c (I fa)), (17, .c (I three)), (18, .c (.r v18 (noRs r1))), (19, .c (.r (.slice none 0 0) (noRs [])))]) (fun _ => [.box [.c (T xs), .c (I xn), .c (I xa), .c (I 3), .c (T xp), .c (T []), .c (T []), .c (I 0), .c (T []), .c (I 0)]]) (by decide) (ZNL hE) (fun _ => .cons rfl (.c rfl) (.cons rfl (.c rfl) (.cons rfl (.c rfl) (.cons rfl (.p rfl) (.cons rfl (.c rfl) (.cons rfl (.c rfl) (.cons rfl (.c rfl) (.cons rfl (.c rfl) (.cons rfl (.c rfl) (.cons rfl (.c rfl) (.cons rfl (.c rfl) (.cons rfl (.c rfl) (.cons rfl (.c rfl) (.cons rfl (.c rfl) (.cons rfl (.c rfl) (.cons rfl (.c rfl) .nil)))))))))))))))) ZCH (fun _ => ⟨_, rfl, rfl⟩)
 rintro F H ⟨v19, rfl, rfl⟩
 refine ZZ ?_
 refine WA ?_
 refine WA ?_
 refine zU1 (fun F H => ∃ v20, F = [(4, .c (.r va (noRs la))), (5, .c (.r vb (noRs lc))), (6, .c (I at_)), (7, .p 0 0 0), (8, .c (.r v8 (noRs r1))), (9, .c (I e1)), (10, .c (.r v10 (noRs r2))), (11, .c (I f1)), (12, .c (.r v12 (nR r3))), (13, .c (I three)), (14, .c (I fa)), (15, .c (I e1)), (16, .c (I f1)), (17, .c (I three)), (18, .c (.r v18 (noRs r1))), (19, .c (.r v19 (noRs r2))), (20, .c (.r v20 (nR r3)))] ∧ H = [.box [.c (T xs), .c (I xn), .c (I xa), .c (I 3), .c (T xp), .c (T []), .c (T []), .c (I 0), .c (T []), .c (I 0)]]) ?_ ?_ wk_aw
 ·refine zr rfl (fun h0 => ?_) (fun h0 => ?_)
  ·have hfa0 : fa = 0 := by rw [← hgb] at h0; split at h0 <;> omega
   have hr3' : cntD at_ la la.length = r3 := by rw [hr3, if_pos h0, cntP_right (hfa.trans hfa0)]; rfl
   refine WR ?_
   refine ze rfl (za false (fun _ => countingD_v va la at_ (by omega)) rfl .fn rfl (by decide) (by kernel_rfl) rfl (fun _ => C0 rfl) (by simp)) ?_
   rintro _ _ ⟨_, _, _, ⟨c6, hc6, rfl, rfl⟩, hF, hH⟩
   (refine NST hF hH ?_; clear hF hH; rintro rfl rfl)
   refine WE ?_
   rw [hr3'] at hc6 ⊢
   exact zm [some 0] (fun g => [(4, .c (.r va (noRs la))), (5, .c (.r vb (noRs lc))), (6, .c (I at_)), (7, .p 0 0 0), (8, .c (.r v8 (noRs r1))), (9, .c (I e1)), (10, .c (.r v10 (noRs r2))), (11, .c (I f1)), (12, .c (.r v12 (nR r3))), (13, .c (I three)), (14, .c (I fa)), (15, .c (I e1)), (16, .c (I f1)), (17, .c (I three)), (18, .c (.r v18 (noRs r1))), (19, .c (.r v19 (noRs r2))), (20, .c (.r (g (.o 1 0 r3.length c6)) (nR r3)))]) (fun _ => [.box [.c (T xs), .c (I xn), .c (I xa), .c (I 3), .c (T xp), .c (T []), .c (T []), .c (I 0), .c (T []), .c (I 0)]]) (by decide) (ZNL hE) (fun _ => .cons rfl (.c rfl) (.cons rfl (.c rfl) (.cons rfl (.c rfl) (.cons rfl (.p rfl) (.cons rfl (.c rfl) (.cons rfl (.c rfl) (.cons rfl (.c rfl) (.cons rfl (.c rfl) (.cons rfl (.c rfl) (.cons rfl (.c rfl) (.cons rfl (.c rfl) (.cons rfl (.c rfl) (.cons rfl (.c rfl) (.cons rfl (.c rfl) (.cons rfl (.c rfl) (.cons rfl (.c rfl) (.cons rfl (.frz rfl rfl (by rw [List.drop_zero, List.take_of_length_le (by simp)]) (by simp) rfl) .nil))))))))))))))))) ZCH (fun _ => ⟨_, rfl, rfl⟩)
  ·obtain rfl : r3 = [] := by rw [hr3, if_neg h0]
   refine ZZ ?_
   exact zm [some 0] (fun _ => [(4, .c (.r va (noRs la))), (5, .c (.r vb (noRs lc))), (6, .c (I at_)), (7, .p 0 0 0), (8, .c (.r v8 (noRs r1))), (9, .c (I e1)), (10, .c (.r v10 (noRs r2))), (11, .c (I f1)), (12, .c (.r v12 (nR []))), (13, .c (I three)), (14, .c (I fa)), (15, .c (I e1)), (16, .c (I f1)), (17, .c (I three)), (18, .c (.r v18 (noRs r1))), (19, .c (.r v19 (noRs r2))), (20, .c (.r (.slice none 0 0) (nR [])))]) (fun _ => [.box [.c (T xs), .c (I xn), .c (I xa), .c (I 3), .c (T xp), .c (T []), .c (T []), .c (I 0), .c (T []), .c (I 0)]]) (by decide) (ZNL hE) (fun _ => .cons rfl (.c rfl) (.cons rfl (.c rfl) (.cons rfl (.c rfl) (.cons rfl (.p rfl) (.cons rfl (.c rfl) (.cons rfl (.c rfl) (.cons rfl (.c rfl) (.cons rfl (.c rfl) (.cons rfl (.c rfl) (.cons rfl (.c rfl) (.cons rfl (.c rfl) (.cons rfl (.c rfl) (.cons rfl (.c rfl) (.cons rfl (.c rfl) (.cons rfl (.c rfl) (.cons rfl (.c rfl) (.cons rfl (.c rfl) .nil))))))))))))))))) ZCH (fun _ => ⟨_, rfl, rfl⟩)
 rintro F H ⟨v20, rfl, rfl⟩
 refine ZZ ?_
 have k1 : fa = fa := rfl
 have k2 : e1 = e1 := rfl
 have k3 : f1 = f1 := rfl
 have k4 : three = three := rfl
 have hq1 := equalN_v v8 v18 r1 r1 hr1l hr1l
 have hq2 := equalN_v v10 v19 r2 r2 hr2l hr2l
 rw [decide_eq_true rfl] at hq1 hq2
 have hq3 := ACallsX.mono (eqI_a r3 r3 v12 v20 (by omega) (by omega)) (Q' := fun u H => u = .c (B true) ∧ H = []) (fun u H ⟨b, hu, hH, hb⟩ => ⟨by rw [hu, hb.2 rfl], hH⟩)
 clear he1 hm1 hz1 hr2 hr3 hga hgb hgc hgd
 refine WR ?_
 refine ze rfl (za false (fun _ => hchk) rfl .fn rfl (by decide) (by kernel_rfl) rfl (fun _ => C0 rfl) (by simp)) ?_
 rintro _ _ ⟨_, _, _, ⟨rfl, rfl⟩, hF, hH⟩
 (refine NST hF hH ?_; clear hF hH; rintro rfl rfl)
 refine WO ?_
 refine G1 rfl ?_
 refine ze rfl (za false (fun _ => hq1) rfl .fn rfl (by decide) (by kernel_rfl) rfl (fun _ => C0 rfl) (by simp)) ?_
 rintro _ _ ⟨_, _, _, ⟨rfl, rfl⟩, hF, hH⟩
 (refine NST hF hH ?_; clear hF hH; rintro rfl rfl)
 refine WO ?_
 refine G1 rfl ?_
 refine ze rfl (za false (fun _ => hq2) rfl .fn rfl (by decide) (by kernel_rfl) rfl (fun _ => C0 rfl) (by simp)) ?_
 rintro _ _ ⟨_, _, _, ⟨rfl, rfl⟩, hF, hH⟩
 (refine NST hF hH ?_; clear hF hH; rintro rfl rfl)
 refine WO ?_
 refine G1 rfl ?_
 refine ze rfl (za false (fun _ => hq3) rfl .fn rfl (by decide) (by kernel_rfl) rfl (fun _ => C0 rfl) (by simp)) ?_
 rintro _ _ ⟨_, _, _, ⟨rfl, rfl⟩, hF, hH⟩
 (refine NST hF hH ?_; clear hF hH; rintro rfl rfl)
 refine WO ?_
 refine G1 rfl ?_
 refine ze rfl (za false (fun _ => noted_a) rfl .fn rfl (by decide) (by kernel_rfl) rfl (fun _ => C0 rfl) (by simp)) ?_
 rintro _ _ ⟨_, _, _, ⟨rfl, rfl⟩, hF, hH⟩
 (refine NST hF hH ?_; clear hF hH; rintro rfl rfl)
 refine WE ?_
 exact zg [] _ rfl rfl rfl (by decide) (ZNK rfl) (fun _ => .nil) rfl
end Go.Proofs.YtcchlddiggmcaaaGreatDoor
