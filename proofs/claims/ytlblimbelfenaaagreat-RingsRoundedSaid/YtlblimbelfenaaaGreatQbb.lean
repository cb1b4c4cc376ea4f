/- Ways that meet, by value. -/
import Derived.Test.YtlblimbelfenaaaGreatQba
import Derived.Test.YtlblimbelfenaaaGreatQax
import Derived.Test.YtlblimbelfenaaaGreatQaz
set_option linter.unusedSimpArgs false
set_option linter.unusedVariables false
/- The reference's ways that meet, by value. -/
-- NEWM
namespace Go.Proofs.YtlblimbelfenaaaGreat
open Go Go.RowKit
set_option maxRecDepth 100000
theorem sgn_in (m n : Int) : -1 ≤ cmpI m 0 * cmpI n 0 ∧ cmpI m 0 * cmpI n 0 ≤ 1 := by
 unfold cmpI
 split <;> (try split) <;> (try split) <;> (try split) <;> omega
theorem sgn_opp (m n : Int) : cmpI m 0 * cmpI n 0 < 0 ↔ Opp m n := by
 unfold cmpI Opp
 split <;> (try split) <;> (try split) <;> (try split) <;> omega
theorem sign_v (n : Int) : ACalls Tryz.prog 164 [.c (I n)] [] fun u H => u = .c (I (cmpI n 0)) ∧ H = [] := by
 refine acalls_of (N := 5) Tryz.func164 rfl rfl (by simp) fun E hE => ?_
 refine WA ?_
 refine WR ?_
 refine al_ef rfl (ef_call0 false (fun _ => cmpI_v _ _) rfl .fn rfl (by decide) (by kernel_rfl) rfl (fun _g => .cons (.c rfl) (.cons (.c rfl) .nil)) (by simp)) ?_
 rintro _ _ ⟨_, _, _, ⟨rfl, rfl⟩, hF, hH⟩
 (refine NST hF hH ?_; clear hF hH; rintro rfl rfl)
 refine WE ?_
 exact aret_1 [] _ rfl rfl rfl (by decide) (ZNK rfl) (fun _ => .nil) ⟨rfl, rfl⟩
set_option maxHeartbeats 8000000 in
theorem rmeet_v (a b c d : P2) (ha : a.in) (hb : b.in) (hc : c.in) (hd : d.in) : ACalls Tryz.prog 125 [.a [.c (I a.x), .c (I a.y)], .a [.c (I b.x), .c (I b.y)], .a [.c (I c.x), .c (I c.y)], .a [.c (I d.x), .c (I d.y)]] [] fun u H => u = .c (B (metB a b c d)) ∧ H = [] := by
 obtain ⟨o1, ho1⟩ : ∃ t, onB a c d = t := ⟨_, rfl⟩
 obtain ⟨o2, ho2⟩ : ∃ t, onB b c d = t := ⟨_, rfl⟩
 obtain ⟨o3, ho3⟩ : ∃ t, onB c a b = t := ⟨_, rfl⟩
 obtain ⟨o4, ho4⟩ : ∃ t, onB d a b = t := ⟨_, rfl⟩
 have hme : metB a b c d = (o1 || o2 || o3 || o4 || (decide (cmpI (trn a b c) 0 * cmpI (trn a b d) 0 < 0) && decide (cmpI (trn c d a) 0 * cmpI (trn c d b) 0 < 0))) := by
  rw [Bool.eq_iff_iff, met_iff]
  unfold MtP
  rw [← onB_iff, ← onB_iff, ← onB_iff, ← onB_iff, ho1, ho2, ho3, ho4, ← sgn_opp, ← sgn_opp]
  simp only [Bool.or_eq_true, Bool.and_eq_true, decide_eq_true_eq, or_assoc]
 rw [hme]
 have q1 := sgn_in (trn a b c) (trn a b d)
 have q2 := sgn_in (trn c d a) (trn c d b)
 refine acalls_of (N := 57) Tryz.func125 rfl rfl (by simp) fun E hE => ?_
 refine WA ?_
 refine aw_cut (fun F H => F = [(4, .p 0 0 0), (5, .p 1 0 0), (6, .p 2 0 0), (7, .p 3 0 0), (30, .c (B (o1 || o2 || o3 || o4)))] ∧ H = [.box [.c (I a.x), .c (I a.y)], .box [.c (I b.x), .c (I b.y)], .box [.c (I c.x), .c (I c.y)], .box [.c (I d.x), .c (I d.y)]]) ?_ ?_ wk_aw
 ·cases o1 with
  | true =>
   refine WR ?_
   refine al_ef rfl (ef_call0 false (fun _ => ron_v a c d ha hc hd) rfl .fn rfl (by decide) (by kernel_rfl) rfl (fun _g => .cons (.aL (C0 rfl)) (.cons (.aL (C0 rfl)) (.cons (.aL (C0 rfl)) .nil))) (by simp)) ?_
   rintro _ _ ⟨_, _, _, ⟨hu, rfl⟩, hF, hH⟩
   rw [ho1] at hu; subst hu
   (refine NST hF hH ?_; clear hF hH; rintro rfl rfl)
   refine WO ?_
   first | refine ZS ?_ | (refine G1 rfl ?_; refine al_ef rfl (ef_call0 false (fun _ => ron_v b c d hb hc hd) rfl .fn rfl (by decide) (by kernel_rfl) rfl (fun _g => .cons (.aL (C0 rfl)) (.cons (.aL (C0 rfl)) (.cons (.aL (C0 rfl)) .nil))) (by simp)) ?_; rintro _ _ ⟨_, _, _, ⟨hu, rfl⟩, hF, hH⟩; rw [ho2] at hu; subst hu; (refine NST hF hH ?_; clear hF hH; rintro rfl rfl)) | skip
   refine WO ?_
   first | refine ZS ?_ | (refine G1 rfl ?_; refine al_ef rfl (ef_call0 false (fun _ => ron_v c a b hc ha hb) rfl .fn rfl (by decide) (by kernel_rfl) rfl (fun _g => .cons (.aL (C0 rfl)) (.cons (.aL (C0 rfl)) (.cons (.aL (C0 rfl)) .nil))) (by simp)) ?_; rintro _ _ ⟨_, _, _, ⟨hu, rfl⟩, hF, hH⟩; rw [ho3] at hu; subst hu; (refine NST hF hH ?_; clear hF hH; rintro rfl rfl)) | skip
   refine WO ?_
   first | refine ZS ?_ | (refine G1 rfl ?_; refine al_ef rfl (ef_call0 false (fun _ => ron_v d a b hd ha hb) rfl .fn rfl (by decide) (by kernel_rfl) rfl (fun _g => .cons (.aL (C0 rfl)) (.cons (.aL (C0 rfl)) (.cons (.aL (C0 rfl)) .nil))) (by simp)) ?_; rintro _ _ ⟨_, _, _, ⟨hu, rfl⟩, hF, hH⟩; rw [ho4] at hu; subst hu; (refine NST hF hH ?_; clear hF hH; rintro rfl rfl)) | skip
   refine WE ?_
   exact wk_of [some 0, some 1, some 2, some 3] (fun _ => [(4, .p 0 0 0), (5, .p 1 0 0), (6, .p 2 0 0), (7, .p 3 0 0), (30, .c (B true))]) (fun _ => _) (by decide) (ZNL hE) ZCF ZCH (fun _ => ⟨rfl, rfl⟩)
  | false =>
   cases o2 with
   | true =>
    refine WR ?_
    refine al_ef rfl (ef_call0 false (fun _ => ron_v a c d ha hc hd) rfl .fn rfl (by decide) (by kernel_rfl) rfl (fun _g => .cons (.aL (C0 rfl)) (.cons (.aL (C0 rfl)) (.cons (.aL (C0 rfl)) .nil))) (by simp)) ?_
    rintro _ _ ⟨_, _, _, ⟨hu, rfl⟩, hF, hH⟩
    rw [ho1] at hu; subst hu
    (refine NST hF hH ?_; clear hF hH; rintro rfl rfl)
    refine WO ?_
    first | refine ZS ?_ | (refine G1 rfl ?_; refine al_ef rfl (ef_call0 false (fun _ => ron_v b c d hb hc hd) rfl .fn rfl (by decide) (by kernel_rfl) rfl (fun _g => .cons (.aL (C0 rfl)) (.cons (.aL (C0 rfl)) (.cons (.aL (C0 rfl)) .nil))) (by simp)) ?_; rintro _ _ ⟨_, _, _, ⟨hu, rfl⟩, hF, hH⟩; rw [ho2] at hu; subst hu; (refine NST hF hH ?_; clear hF hH; rintro rfl rfl)) | skip
    refine WO ?_
    first | refine ZS ?_ | (refine G1 rfl ?_; refine al_ef rfl (ef_call0 false (fun _ => ron_v c a b hc ha hb) rfl .fn rfl (by decide) (by kernel_rfl) rfl (fun _g => .cons (.aL (C0 rfl)) (.cons (.aL (C0 rfl)) (.cons (.aL (C0 rfl)) .nil))) (by simp)) ?_; rintro _ _ ⟨_, _, _, ⟨hu, rfl⟩, hF, hH⟩; rw [ho3] at hu; subst hu; (refine NST hF hH ?_; clear hF hH; rintro rfl rfl)) | skip
    refine WO ?_
    first | refine ZS ?_ | (refine G1 rfl ?_; refine al_ef rfl (ef_call0 false (fun _ => ron_v d a b hd ha hb) rfl .fn rfl (by decide) (by kernel_rfl) rfl (fun _g => .cons (.aL (C0 rfl)) (.cons (.aL (C0 rfl)) (.cons (.aL (C0 rfl)) .nil))) (by simp)) ?_; rintro _ _ ⟨_, _, _, ⟨hu, rfl⟩, hF, hH⟩; rw [ho4] at hu; subst hu; (refine NST hF hH ?_; clear hF hH; rintro rfl rfl)) | skip
    refine WE ?_
    exact wk_of [some 0, some 1, some 2, some 3] (fun _ => [(4, .p 0 0 0), (5, .p 1 0 0), (6, .p 2 0 0), (7, .p 3 0 0), (30, .c (B true))]) (fun _ => _) (by decide) (ZNL hE) ZCF ZCH (fun _ => ⟨rfl, rfl⟩)
   | false =>
    cases o3 with
    | true =>
     refine WR ?_
     refine al_ef rfl (ef_call0 false (fun _ => ron_v a c d ha hc hd) rfl .fn rfl (by decide) (by kernel_rfl) rfl (fun _g => .cons (.aL (C0 rfl)) (.cons (.aL (C0 rfl)) (.cons (.aL (C0 rfl)) .nil))) (by simp)) ?_
     rintro _ _ ⟨_, _, _, ⟨hu, rfl⟩, hF, hH⟩
     rw [ho1] at hu; subst hu
     (refine NST hF hH ?_; clear hF hH; rintro rfl rfl)
     refine WO ?_
     first | refine ZS ?_ | (refine G1 rfl ?_; refine al_ef rfl (ef_call0 false (fun _ => ron_v b c d hb hc hd) rfl .fn rfl (by decide) (by kernel_rfl) rfl (fun _g => .cons (.aL (C0 rfl)) (.cons (.aL (C0 rfl)) (.cons (.aL (C0 rfl)) .nil))) (by simp)) ?_; rintro _ _ ⟨_, _, _, ⟨hu, rfl⟩, hF, hH⟩; rw [ho2] at hu; subst hu; (refine NST hF hH ?_; clear hF hH; rintro rfl rfl)) | skip
     refine WO ?_
     first | refine ZS ?_ | (refine G1 rfl ?_; refine al_ef rfl (ef_call0 false (fun _ => ron_v c a b hc ha hb) rfl .fn rfl (by decide) (by kernel_rfl) rfl (fun _g => .cons (.aL (C0 rfl)) (.cons (.aL (C0 rfl)) (.cons (.aL (C0 rfl)) .nil))) (by simp)) ?_; rintro _ _ ⟨_, _, _, ⟨hu, rfl⟩, hF, hH⟩; rw [ho3] at hu; subst hu; (refine NST hF hH ?_; clear hF hH; rintro rfl rfl)) | skip
     refine WO ?_
     first | refine ZS ?_ | (refine G1 rfl ?_; refine al_ef rfl (ef_call0 false (fun _ => ron_v d a b hd ha hb) rfl .fn rfl (by decide) (by kernel_rfl) rfl (fun _g => .cons (.aL (C0 rfl)) (.cons (.aL (C0 rfl)) (.cons (.aL (C0 rfl)) .nil))) (by simp)) ?_; rintro _ _ ⟨_, _, _, ⟨hu, rfl⟩, hF, hH⟩; rw [ho4] at hu; subst hu; (refine NST hF hH ?_; clear hF hH; rintro rfl rfl)) | skip
     refine WE ?_
     exact wk_of [some 0, some 1, some 2, some 3] (fun _ => [(4, .p 0 0 0), (5, .p 1 0 0), (6, .p 2 0 0), (7, .p 3 0 0), (30, .c (B true))]) (fun _ => _) (by decide) (ZNL hE) ZCF ZCH (fun _ => ⟨rfl, rfl⟩)
    | false =>
     refine WR ?_
     refine al_ef rfl (ef_call0 false (fun _ => ron_v a c d ha hc hd) rfl .fn rfl (by decide) (by kernel_rfl) rfl (fun _g => .cons (.aL (C0 rfl)) (.cons (.aL (C0 rfl)) (.cons (.aL (C0 rfl)) .nil))) (by simp)) ?_
     rintro _ _ ⟨_, _, _, ⟨hu, rfl⟩, hF, hH⟩
     rw [ho1] at hu; subst hu
     (refine NST hF hH ?_; clear hF hH; rintro rfl rfl)
     refine WO ?_
     first | refine ZS ?_ | (refine G1 rfl ?_; refine al_ef rfl (ef_call0 false (fun _ => ron_v b c d hb hc hd) rfl .fn rfl (by decide) (by kernel_rfl) rfl (fun _g => .cons (.aL (C0 rfl)) (.cons (.aL (C0 rfl)) (.cons (.aL (C0 rfl)) .nil))) (by simp)) ?_; rintro _ _ ⟨_, _, _, ⟨hu, rfl⟩, hF, hH⟩; rw [ho2] at hu; subst hu; (refine NST hF hH ?_; clear hF hH; rintro rfl rfl)) | skip
     refine WO ?_
     first | refine ZS ?_ | (refine G1 rfl ?_; refine al_ef rfl (ef_call0 false (fun _ => ron_v c a b hc ha hb) rfl .fn rfl (by decide) (by kernel_rfl) rfl (fun _g => .cons (.aL (C0 rfl)) (.cons (.aL (C0 rfl)) (.cons (.aL (C0 rfl)) .nil))) (by simp)) ?_; rintro _ _ ⟨_, _, _, ⟨hu, rfl⟩, hF, hH⟩; rw [ho3] at hu; subst hu; (refine NST hF hH ?_; clear hF hH; rintro rfl rfl)) | skip
     refine WO ?_
     first | refine ZS ?_ | (refine G1 rfl ?_; refine al_ef rfl (ef_call0 false (fun _ => ron_v d a b hd ha hb) rfl .fn rfl (by decide) (by kernel_rfl) rfl (fun _g => .cons (.aL (C0 rfl)) (.cons (.aL (C0 rfl)) (.cons (.aL (C0 rfl)) .nil))) (by simp)) ?_; rintro _ _ ⟨_, _, _, ⟨hu, rfl⟩, hF, hH⟩; rw [ho4] at hu; subst hu; (refine NST hF hH ?_; clear hF hH; rintro rfl rfl)) | skip
     refine WE ?_
     exact wk_of [some 0, some 1, some 2, some 3] (fun _ => [(4, .p 0 0 0), (5, .p 1 0 0), (6, .p 2 0 0), (7, .p 3 0 0), (30, .c (B o4))]) (fun _ => _) (by decide) (ZNL hE) ZCF ZCH (fun _ => ⟨rfl, rfl⟩)
 rintro F H ⟨rfl, rfl⟩
 refine ZZ ?_
 cases ho : (o1 || o2 || o3 || o4) with
 | true =>
  refine aw_cond_t rfl ?_
  refine WA ?_
  exact aret_1 [] _ rfl rfl rfl (by decide) (ZNK rfl) (fun _ => .nil) ⟨by rw [Bool.true_or], rfl⟩
 | false =>
  refine aw_cond_f rfl ?_
  rw [Bool.false_or]
  refine ZZ ?_
  by_cases hlt : cmpI (trn a b c) 0 * cmpI (trn a b d) 0 < 0
  ·rw [decide_eq_true hlt, Bool.true_and]
   refine ZZ ?_
   refine aw_regionT [(0, none), (1, none), (2, none), (5, none), (6, none), (7, none), (3, some [5, 6, 7]), (4, some [5, 6, 7]), (8, some []), (9, some []), (10, none), (11, none), (12, none), (13, none), (14, none), (15, none), (18, none), (19, none), (20, none), (16, some [18, 19, 20]), (17, some [18, 19, 20]), (21, some []), (22, some []), (23, none), (24, none), (25, none), (26, none)] hMixed (by kernel_rfl) ?_
   refine WP ?_
   refine at_ef rfl rfl (ef_call0 false (fun _ => rturn_v a b c ha hb hc) rfl .fn rfl (by decide) (by kernel_rfl) rfl (fun _g => .cons (.aL (C0 rfl)) (.cons (.aL (C0 rfl)) (.cons (.aL (C0 rfl)) .nil))) (by simp)) ?_
   rintro _ _ ⟨_, _, _, ⟨rfl, rfl⟩, hF, hH⟩
   (refine NST hF hH ?_; clear hF hH; rintro rfl rfl)
   refine ⟨ag_cons (by first | exact ag_rd rfl rfl rfl (ZK (KK (t := 119) rfl)) rfl) (ag_cons (by first | exact ag_rd rfl rfl rfl (ZK (KK (t := 119) rfl)) rfl) (ag_cons (by first | exact ag_rd rfl rfl rfl (ZK (KK (t := 119) rfl)) rfl) (ag_none))), ?_⟩
   refine at_ef rfl rfl (ef_call0 false (fun _ => sign_v (trn a b c)) rfl .fn rfl (by decide) (by kernel_rfl) rfl (fun _ => C0 rfl) (by simp)) ?_
   rintro _ _ ⟨_, _, _, ⟨rfl, rfl⟩, hF, hH⟩
   (refine NST hF hH ?_; clear hF hH; rintro rfl rfl)
   refine ⟨ag_cons (by first | exact ag_rd rfl rfl rfl (ZK (KK (t := 119) rfl)) rfl) (ag_cons (by first | exact ag_rd rfl rfl rfl (ZK (KK (t := 119) rfl)) rfl) (ag_cons (by first | exact ag_rd rfl rfl rfl (ZK (KK (t := 119) rfl)) rfl) (ag_none))), ?_⟩
   refine at_ef rfl rfl (ef_call0 false (fun _ => rturn_v a b d ha hb hd) rfl .fn rfl (by decide) (by kernel_rfl) rfl (fun _g => .cons (.aL (C0 rfl)) (.cons (.aL (C0 rfl)) (.cons (.aL (C0 rfl)) .nil))) (by simp)) ?_
   rintro _ _ ⟨_, _, _, ⟨rfl, rfl⟩, hF, hH⟩
   (refine NST hF hH ?_; clear hF hH; rintro rfl rfl)
   refine ⟨ag_none, ?_⟩
   refine at_ef rfl rfl (ef_call0 false (fun _ => sign_v (trn a b d)) rfl .fn rfl (by decide) (by kernel_rfl) rfl (fun _ => C0 rfl) (by simp)) ?_
   rintro _ _ ⟨_, _, _, ⟨rfl, rfl⟩, hF, hH⟩
   (refine NST hF hH ?_; clear hF hH; rintro rfl rfl)
   refine ⟨ag_none, ?_⟩
   refine WP ?_
   first | refine at_efN rfl rfl rfl (by decide) ⟨ag_cons (by first | exact ag_un rfl rfl rfl rfl | exact ag_rdK rfl rfl rfl (ZK (KK (t := 119) rfl)) rfl) (ag_cons (by first | exact ag_un rfl rfl rfl rfl | exact ag_rdK rfl rfl rfl (ZK (KK (t := 119) rfl)) rfl) (ag_cons (by first | exact ag_un rfl rfl rfl rfl | exact ag_rdK rfl rfl rfl (ZK (KK (t := 119) rfl)) rfl) (ag_none))), ?_⟩ | (refine at_efK rfl (ef_call0 false (fun _ => rturn_v c d a hc hd ha) rfl .fn rfl (by decide) (by kernel_rfl) rfl (fun _g => .cons (.aL (C0 rfl)) (.cons (.aL (C0 rfl)) (.cons (.aL (C0 rfl)) .nil))) (by simp)) ?_; rintro _ _ ⟨_, _, _, ⟨rfl, rfl⟩, hF, hH⟩; (refine NST hF hH ?_; clear hF hH; rintro rfl rfl); refine ⟨ag_cons (by first | exact ag_un rfl rfl rfl rfl | exact ag_rdK rfl rfl rfl (ZK (KK (t := 119) rfl)) rfl) (ag_cons (by first | exact ag_un rfl rfl rfl rfl | exact ag_rdK rfl rfl rfl (ZK (KK (t := 119) rfl)) rfl) (ag_cons (by first | exact ag_un rfl rfl rfl rfl | exact ag_rdK rfl rfl rfl (ZK (KK (t := 119) rfl)) rfl) (ag_none))), ?_⟩)
   first | refine at_efN rfl rfl rfl (by decide) ⟨ag_cons (by first | exact ag_un rfl rfl rfl rfl | exact ag_rdK rfl rfl rfl (ZK (KK (t := 119) rfl)) rfl) (ag_cons (by first | exact ag_un rfl rfl rfl rfl | exact ag_rdK rfl rfl rfl (ZK (KK (t := 119) rfl)) rfl) (ag_cons (by first | exact ag_un rfl rfl rfl rfl | exact ag_rdK rfl rfl rfl (ZK (KK (t := 119) rfl)) rfl) (ag_none))), ?_⟩ | (refine at_efK rfl (ef_call0 false (fun _ => sign_v (trn c d a)) rfl .fn rfl (by decide) (by kernel_rfl) rfl (fun _ => C0 rfl) (by simp)) ?_; rintro _ _ ⟨_, _, _, ⟨rfl, rfl⟩, hF, hH⟩; (refine NST hF hH ?_; clear hF hH; rintro rfl rfl); refine ⟨ag_cons (by first | exact ag_un rfl rfl rfl rfl | exact ag_rdK rfl rfl rfl (ZK (KK (t := 119) rfl)) rfl) (ag_cons (by first | exact ag_un rfl rfl rfl rfl | exact ag_rdK rfl rfl rfl (ZK (KK (t := 119) rfl)) rfl) (ag_cons (by first | exact ag_un rfl rfl rfl rfl | exact ag_rdK rfl rfl rfl (ZK (KK (t := 119) rfl)) rfl) (ag_none))), ?_⟩)
   first | refine at_efN rfl rfl rfl (by decide) ⟨ag_none, ?_⟩ | (refine at_efK rfl (ef_call0 false (fun _ => rturn_v c d b hc hd hb) rfl .fn rfl (by decide) (by kernel_rfl) rfl (fun _g => .cons (.aL (C0 rfl)) (.cons (.aL (C0 rfl)) (.cons (.aL (C0 rfl)) .nil))) (by simp)) ?_; rintro _ _ ⟨_, _, _, ⟨rfl, rfl⟩, hF, hH⟩; (refine NST hF hH ?_; clear hF hH; rintro rfl rfl); refine ⟨ag_none, ?_⟩)
   first | refine at_efN rfl rfl rfl (by decide) ⟨ag_none, ?_⟩ | (refine at_efK rfl (ef_call0 false (fun _ => sign_v (trn c d b)) rfl .fn rfl (by decide) (by kernel_rfl) rfl (fun _ => C0 rfl) (by simp)) ?_; rintro _ _ ⟨_, _, _, ⟨rfl, rfl⟩, hF, hH⟩; (refine NST hF hH ?_; clear hF hH; rintro rfl rfl); refine ⟨ag_none, ?_⟩)
   refine WQ ?_
   all_goals (exact aret_1 [] _ rfl rfl rfl (by decide) (ZNK rfl) (fun _ => .nil) ⟨rfl, rfl⟩)
  ·rw [decide_eq_false hlt, Bool.false_and]
   refine ZZ ?_
   refine aw_regionT [(0, none), (1, none), (2, none), (5, none), (6, none), (7, none), (3, some [5, 6, 7]), (4, some [5, 6, 7]), (8, some []), (9, some []), (10, none), (11, none), (12, none), (13, none), (14, none), (15, none), (18, none), (19, none), (20, none), (16, some [18, 19, 20]), (17, some [18, 19, 20]), (21, some []), (22, some []), (23, none), (24, none), (25, none), (26, none)] hMixed (by kernel_rfl) ?_
   refine WP ?_
   refine at_ef rfl rfl (ef_call0 false (fun _ => rturn_v a b c ha hb hc) rfl .fn rfl (by decide) (by kernel_rfl) rfl (fun _g => .cons (.aL (C0 rfl)) (.cons (.aL (C0 rfl)) (.cons (.aL (C0 rfl)) .nil))) (by simp)) ?_
   rintro _ _ ⟨_, _, _, ⟨rfl, rfl⟩, hF, hH⟩
   (refine NST hF hH ?_; clear hF hH; rintro rfl rfl)
   refine ⟨ag_cons (by first | exact ag_rd rfl rfl rfl (ZK (KK (t := 119) rfl)) rfl) (ag_cons (by first | exact ag_rd rfl rfl rfl (ZK (KK (t := 119) rfl)) rfl) (ag_cons (by first | exact ag_rd rfl rfl rfl (ZK (KK (t := 119) rfl)) rfl) (ag_none))), ?_⟩
   refine at_ef rfl rfl (ef_call0 false (fun _ => sign_v (trn a b c)) rfl .fn rfl (by decide) (by kernel_rfl) rfl (fun _ => C0 rfl) (by simp)) ?_
   rintro _ _ ⟨_, _, _, ⟨rfl, rfl⟩, hF, hH⟩
   (refine NST hF hH ?_; clear hF hH; rintro rfl rfl)
   refine ⟨ag_cons (by first | exact ag_rd rfl rfl rfl (ZK (KK (t := 119) rfl)) rfl) (ag_cons (by first | exact ag_rd rfl rfl rfl (ZK (KK (t := 119) rfl)) rfl) (ag_cons (by first | exact ag_rd rfl rfl rfl (ZK (KK (t := 119) rfl)) rfl) (ag_none))), ?_⟩
   refine at_ef rfl rfl (ef_call0 false (fun _ => rturn_v a b d ha hb hd) rfl .fn rfl (by decide) (by kernel_rfl) rfl (fun _g => .cons (.aL (C0 rfl)) (.cons (.aL (C0 rfl)) (.cons (.aL (C0 rfl)) .nil))) (by simp)) ?_
   rintro _ _ ⟨_, _, _, ⟨rfl, rfl⟩, hF, hH⟩
   (refine NST hF hH ?_; clear hF hH; rintro rfl rfl)
   refine ⟨ag_none, ?_⟩
   refine at_ef rfl rfl (ef_call0 false (fun _ => sign_v (trn a b d)) rfl .fn rfl (by decide) (by kernel_rfl) rfl (fun _ => C0 rfl) (by simp)) ?_
   rintro _ _ ⟨_, _, _, ⟨rfl, rfl⟩, hF, hH⟩
   (refine NST hF hH ?_; clear hF hH; rintro rfl rfl)
   refine ⟨ag_none, ?_⟩
   refine WP ?_
   first | refine at_efN rfl rfl rfl (by decide) ⟨ag_cons (by first | exact ag_un rfl rfl rfl rfl | exact ag_rdK rfl rfl rfl (ZK (KK (t := 119) rfl)) rfl) (ag_cons (by first | exact ag_un rfl rfl rfl rfl | exact ag_rdK rfl rfl rfl (ZK (KK (t := 119) rfl)) rfl) (ag_cons (by first | exact ag_un rfl rfl rfl rfl | exact ag_rdK rfl rfl rfl (ZK (KK (t := 119) rfl)) rfl) (ag_none))), ?_⟩ | (refine at_efK rfl (ef_call0 false (fun _ => rturn_v c d a hc hd ha) rfl .fn rfl (by decide) (by kernel_rfl) rfl (fun _g => .cons (.aL (C0 rfl)) (.cons (.aL (C0 rfl)) (.cons (.aL (C0 rfl)) .nil))) (by simp)) ?_; rintro _ _ ⟨_, _, _, ⟨rfl, rfl⟩, hF, hH⟩; (refine NST hF hH ?_; clear hF hH; rintro rfl rfl); refine ⟨ag_cons (by first | exact ag_un rfl rfl rfl rfl | exact ag_rdK rfl rfl rfl (ZK (KK (t := 119) rfl)) rfl) (ag_cons (by first | exact ag_un rfl rfl rfl rfl | exact ag_rdK rfl rfl rfl (ZK (KK (t := 119) rfl)) rfl) (ag_cons (by first | exact ag_un rfl rfl rfl rfl | exact ag_rdK rfl rfl rfl (ZK (KK (t := 119) rfl)) rfl) (ag_none))), ?_⟩)
   first | refine at_efN rfl rfl rfl (by decide) ⟨ag_cons (by first | exact ag_un rfl rfl rfl rfl | exact ag_rdK rfl rfl rfl (ZK (KK (t := 119) rfl)) rfl) (ag_cons (by first | exact ag_un rfl rfl rfl rfl | exact ag_rdK rfl rfl rfl (ZK (KK (t := 119) rfl)) rfl) (ag_cons (by first | exact ag_un rfl rfl rfl rfl | exact ag_rdK rfl rfl rfl (ZK (KK (t := 119) rfl)) rfl) (ag_none))), ?_⟩ | (refine at_efK rfl (ef_call0 false (fun _ => sign_v (trn c d a)) rfl .fn rfl (by decide) (by kernel_rfl) rfl (fun _ => C0 rfl) (by simp)) ?_; rintro _ _ ⟨_, _, _, ⟨rfl, rfl⟩, hF, hH⟩; (refine NST hF hH ?_; clear hF hH; rintro rfl rfl); refine ⟨ag_cons (by first | exact ag_un rfl rfl rfl rfl | exact ag_rdK rfl rfl rfl (ZK (KK (t := 119) rfl)) rfl) (ag_cons (by first | exact ag_un rfl rfl rfl rfl | exact ag_rdK rfl rfl rfl (ZK (KK (t := 119) rfl)) rfl) (ag_cons (by first | exact ag_un rfl rfl rfl rfl | exact ag_rdK rfl rfl rfl (ZK (KK (t := 119) rfl)) rfl) (ag_none))), ?_⟩)
   first | refine at_efN rfl rfl rfl (by decide) ⟨ag_none, ?_⟩ | (refine at_efK rfl (ef_call0 false (fun _ => rturn_v c d b hc hd hb) rfl .fn rfl (by decide) (by kernel_rfl) rfl (fun _g => .cons (.aL (C0 rfl)) (.cons (.aL (C0 rfl)) (.cons (.aL (C0 rfl)) .nil))) (by simp)) ?_; rintro _ _ ⟨_, _, _, ⟨rfl, rfl⟩, hF, hH⟩; (refine NST hF hH ?_; clear hF hH; rintro rfl rfl); refine ⟨ag_none, ?_⟩)
   first | refine at_efN rfl rfl rfl (by decide) ⟨ag_none, ?_⟩ | (refine at_efK rfl (ef_call0 false (fun _ => sign_v (trn c d b)) rfl .fn rfl (by decide) (by kernel_rfl) rfl (fun _ => C0 rfl) (by simp)) ?_; rintro _ _ ⟨_, _, _, ⟨rfl, rfl⟩, hF, hH⟩; (refine NST hF hH ?_; clear hF hH; rintro rfl rfl); refine ⟨ag_none, ?_⟩)
   refine WQ ?_
   all_goals (exact aret_1 [] _ rfl rfl rfl (by decide) (ZNK rfl) (fun _ => .nil) ⟨rfl, rfl⟩)
end Go.Proofs.YtlblimbelfenaaaGreat

/- Ways that meet, by value. -/
-- NEWM
namespace Go.Proofs.YtlblimbelfenaaaGreat
open Go Go.RowKit
set_option maxRecDepth 100000
set_option maxHeartbeats 8000000 in
theorem meet_v (a b c d : P2) (ha : a.in) (hb : b.in) (hc : c.in) (hd : d.in) : ACalls Tryz.prog 156 [.a [.c (I a.x), .c (I a.y)], .a [.c (I b.x), .c (I b.y)], .a [.c (I c.x), .c (I c.y)], .a [.c (I d.x), .c (I d.y)]] [] fun u H => u = .c (B (metB a b c d)) ∧ H = [] := by
 refine acalls_of (N := 52) Tryz.func156 rfl rfl (by simp) fun E hE => ?_
 refine WA ?_
 obtain ⟨p, hp⟩ : ∃ p, apaB a.x b.x c.x d.x = p := ⟨_, rfl⟩
 obtain ⟨q, hq⟩ : ∃ p, apaB a.y b.y c.y d.y = p := ⟨_, rfl⟩
 obtain ⟨r, hr⟩ : ∃ p, acrB (trn a b c) (trn a b d) = p := ⟨_, rfl⟩
 obtain ⟨s, hs⟩ : ∃ p, acrB (trn c d a) (trn c d b) = p := ⟨_, rfl⟩
 have e : metB a b c d = (!(p || q) && (r && s)) := by rw [metB, hp, hq, hr, hs]
 rw [e]
 refine aw_cut (fun F H => F = [(4, .p 0 0 0), (5, .p 1 0 0), (6, .p 2 0 0), (7, .p 3 0 0), (29, .c (B (p || q)))] ∧ H = [.box [.c (I a.x), .c (I a.y)], .box [.c (I b.x), .c (I b.y)], .box [.c (I c.x), .c (I c.y)], .box [.c (I d.x), .c (I d.y)]]) ?_ ?_ wk_aw
 ·cases p with
  | true =>
   refine WR ?_
   refine al_ef rfl (ef_call0 false (fun _ => apart_v a.x b.x c.x d.x) rfl .fn rfl (by decide) (by kernel_rfl) rfl (fun _ => C0 rfl) (by simp)) ?_
   rintro _ _ ⟨_, _, _, ⟨hu, rfl⟩, hF, hH⟩
   rw [hp] at hu; subst hu
   (refine NST hF hH ?_; clear hF hH; rintro rfl rfl)
   refine WO ?_
   first | refine ZS ?_ | (refine G1 rfl ?_; refine al_ef rfl (ef_call0 false (fun _ => apart_v a.y b.y c.y d.y) rfl .fn rfl (by decide) (by kernel_rfl) rfl (fun _ => C0 rfl) (by simp)) ?_; rintro _ _ ⟨_, _, _, ⟨hu, rfl⟩, hF, hH⟩; rw [hq] at hu; subst hu; (refine NST hF hH ?_; clear hF hH; rintro rfl rfl)) | skip
   refine WE ?_
   all_goals (exact wk_of [some 0, some 1, some 2, some 3] (fun _ => [(4, .p 0 0 0), (5, .p 1 0 0), (6, .p 2 0 0), (7, .p 3 0 0), (29, .c (B true))]) (fun _ => _) (by decide) (ZNL hE) ZCF ZCH (fun _ => ⟨rfl, rfl⟩))
  | false =>
   refine WR ?_
   refine al_ef rfl (ef_call0 false (fun _ => apart_v a.x b.x c.x d.x) rfl .fn rfl (by decide) (by kernel_rfl) rfl (fun _ => C0 rfl) (by simp)) ?_
   rintro _ _ ⟨_, _, _, ⟨hu, rfl⟩, hF, hH⟩
   rw [hp] at hu; subst hu
   (refine NST hF hH ?_; clear hF hH; rintro rfl rfl)
   refine WO ?_
   first | refine ZS ?_ | (refine G1 rfl ?_; refine al_ef rfl (ef_call0 false (fun _ => apart_v a.y b.y c.y d.y) rfl .fn rfl (by decide) (by kernel_rfl) rfl (fun _ => C0 rfl) (by simp)) ?_; rintro _ _ ⟨_, _, _, ⟨hu, rfl⟩, hF, hH⟩; rw [hq] at hu; subst hu; (refine NST hF hH ?_; clear hF hH; rintro rfl rfl)) | skip
   refine WE ?_
   all_goals (exact wk_of [some 0, some 1, some 2, some 3] (fun _ => [(4, .p 0 0 0), (5, .p 1 0 0), (6, .p 2 0 0), (7, .p 3 0 0), (29, .c (B q))]) (fun _ => _) (by decide) (ZNL hE) ZCF ZCH (fun _ => ⟨rfl, rfl⟩))
 rintro F H ⟨rfl, rfl⟩
 refine ZZ ?_
 cases hpq : (p || q) with
 | true =>
  refine aw_cond_t rfl ?_
  refine WA ?_
  exact aret_1 [] _ rfl rfl rfl (by decide) (ZNK rfl) (fun _ => .nil) ⟨rfl, rfl⟩
 | false =>
  refine aw_cond_f rfl ?_
  refine ZZ ?_
  refine WA ?_
  cases r with
  | true =>
   refine ZZ ?_
   refine aw_regionT [(0, none), (1, none), (2, none), (3, none), (5, none), (6, none), (7, none), (4, some [0, 5, 6, 7]), (8, some [0]), (9, some []), (10, none), (11, none), (12, none), (13, none), (14, none), (16, none), (17, none), (18, none), (15, some [11, 16, 17, 18]), (19, some [11]), (20, some []), (21, none), (22, none)] hMixed (by kernel_rfl) ?_
   refine WP ?_
   refine at_ef rfl rfl (ef_call0 false (fun _ => turn_v a b c ha hb hc) rfl .fn rfl (by decide) (by kernel_rfl) rfl (fun _g => .cons (.aL (C0 rfl)) (.cons (.aL (C0 rfl)) (.cons (.aL (C0 rfl)) .nil))) (by simp)) ?_
   rintro _ _ ⟨_, _, _, ⟨rfl, rfl⟩, hF, hH⟩
   (refine NST hF hH ?_; clear hF hH; rintro rfl rfl)
   refine ⟨ag_cons (by first | exact ag_rd rfl rfl rfl (rd_move rfl rfl) rfl) (ag_cons (by first | exact ag_rd rfl rfl rfl (ZK (KK (t := 119) rfl)) rfl) (ag_cons (by first | exact ag_rd rfl rfl rfl (ZK (KK (t := 119) rfl)) rfl) (ag_cons (by first | exact ag_rd rfl rfl rfl (ZK (KK (t := 119) rfl)) rfl) (ag_none)))), ?_⟩
   refine at_ef rfl rfl (ef_call0 false (fun _ => turn_v a b d ha hb hd) rfl .fn rfl (by decide) (by kernel_rfl) rfl (fun _g => .cons (.aL (C0 rfl)) (.cons (.aL (C0 rfl)) (.cons (.aL (C0 rfl)) .nil))) (by simp)) ?_
   rintro _ _ ⟨_, _, _, ⟨rfl, rfl⟩, hF, hH⟩
   (refine NST hF hH ?_; clear hF hH; rintro rfl rfl)
   refine ⟨ag_cons (by first | exact ag_rd rfl rfl rfl (rd_move rfl rfl) rfl) (ag_none), ?_⟩
   refine at_ef rfl rfl (ef_call0 false (fun _ => acr_v (trn a b c) (trn a b d)) rfl (.clo rfl) rfl (by decide) (by kernel_rfl) rfl (fun _ => C0 rfl) (by simp)) ?_
   rintro _ _ ⟨_, _, _, ⟨hu, rfl⟩, hF, hH⟩
   rw [hr] at hu; subst hu
   (refine NST hF hH ?_; clear hF hH; rintro rfl rfl)
   refine ⟨ag_none, ?_⟩
   refine WP ?_
   first | refine at_efN rfl rfl rfl (by decide) ⟨ag_cons (by first | exact ag_un rfl rfl rfl rfl | exact ag_rdK rfl rfl rfl (rd_move rfl rfl) rfl) (ag_cons (by first | exact ag_un rfl rfl rfl rfl | exact ag_rdK rfl rfl rfl (ZK (KK (t := 119) rfl)) rfl) (ag_cons (by first | exact ag_un rfl rfl rfl rfl | exact ag_rdK rfl rfl rfl (ZK (KK (t := 119) rfl)) rfl) (ag_cons (by first | exact ag_un rfl rfl rfl rfl | exact ag_rdK rfl rfl rfl (ZK (KK (t := 119) rfl)) rfl) (ag_none)))), ?_⟩ | (refine at_efK rfl (ef_call0 false (fun _ => turn_v c d a hc hd ha) rfl .fn rfl (by decide) (by kernel_rfl) rfl (fun _g => .cons (.aL (C0 rfl)) (.cons (.aL (C0 rfl)) (.cons (.aL (C0 rfl)) .nil))) (by simp)) ?_; rintro _ _ ⟨_, _, _, ⟨rfl, rfl⟩, hF, hH⟩; (refine NST hF hH ?_; clear hF hH; rintro rfl rfl); refine ⟨ag_cons (by first | exact ag_un rfl rfl rfl rfl | exact ag_rdK rfl rfl rfl (rd_move rfl rfl) rfl) (ag_cons (by first | exact ag_un rfl rfl rfl rfl | exact ag_rdK rfl rfl rfl (ZK (KK (t := 119) rfl)) rfl) (ag_cons (by first | exact ag_un rfl rfl rfl rfl | exact ag_rdK rfl rfl rfl (ZK (KK (t := 119) rfl)) rfl) (ag_cons (by first | exact ag_un rfl rfl rfl rfl | exact ag_rdK rfl rfl rfl (ZK (KK (t := 119) rfl)) rfl) (ag_none)))), ?_⟩)
   first | refine at_efN rfl rfl rfl (by decide) ⟨ag_cons (by first | exact ag_un rfl rfl rfl rfl | exact ag_rdK rfl rfl rfl (rd_move rfl rfl) rfl) (ag_none), ?_⟩ | (refine at_efK rfl (ef_call0 false (fun _ => turn_v c d b hc hd hb) rfl .fn rfl (by decide) (by kernel_rfl) rfl (fun _g => .cons (.aL (C0 rfl)) (.cons (.aL (C0 rfl)) (.cons (.aL (C0 rfl)) .nil))) (by simp)) ?_; rintro _ _ ⟨_, _, _, ⟨rfl, rfl⟩, hF, hH⟩; (refine NST hF hH ?_; clear hF hH; rintro rfl rfl); refine ⟨ag_cons (by first | exact ag_un rfl rfl rfl rfl | exact ag_rdK rfl rfl rfl (rd_move rfl rfl) rfl) (ag_none), ?_⟩)
   first | refine at_efN rfl rfl rfl (by decide) ⟨ag_none, ?_⟩ | (refine at_efK rfl (ef_call0 false (fun _ => acr_v (trn c d a) (trn c d b)) rfl (.clo rfl) rfl (by decide) (by kernel_rfl) rfl (fun _ => C0 rfl) (by simp)) ?_; rintro _ _ ⟨_, _, _, ⟨hu, rfl⟩, hF, hH⟩; rw [hs] at hu; subst hu; (refine NST hF hH ?_; clear hF hH; rintro rfl rfl); refine ⟨ag_none, ?_⟩)
   refine WQ ?_
   all_goals (exact aret_1 [] _ rfl rfl rfl (by decide) (ZNK rfl) (fun _ => .nil) ⟨rfl, rfl⟩)
  | false =>
   refine ZZ ?_
   refine aw_regionT [(0, none), (1, none), (2, none), (3, none), (5, none), (6, none), (7, none), (4, some [0, 5, 6, 7]), (8, some [0]), (9, some []), (10, none), (11, none), (12, none), (13, none), (14, none), (16, none), (17, none), (18, none), (15, some [11, 16, 17, 18]), (19, some [11]), (20, some []), (21, none), (22, none)] hMixed (by kernel_rfl) ?_
   refine WP ?_
   refine at_ef rfl rfl (ef_call0 false (fun _ => turn_v a b c ha hb hc) rfl .fn rfl (by decide) (by kernel_rfl) rfl (fun _g => .cons (.aL (C0 rfl)) (.cons (.aL (C0 rfl)) (.cons (.aL (C0 rfl)) .nil))) (by simp)) ?_
   rintro _ _ ⟨_, _, _, ⟨rfl, rfl⟩, hF, hH⟩
   (refine NST hF hH ?_; clear hF hH; rintro rfl rfl)
   refine ⟨ag_cons (by first | exact ag_rd rfl rfl rfl (rd_move rfl rfl) rfl) (ag_cons (by first | exact ag_rd rfl rfl rfl (ZK (KK (t := 119) rfl)) rfl) (ag_cons (by first | exact ag_rd rfl rfl rfl (ZK (KK (t := 119) rfl)) rfl) (ag_cons (by first | exact ag_rd rfl rfl rfl (ZK (KK (t := 119) rfl)) rfl) (ag_none)))), ?_⟩
   refine at_ef rfl rfl (ef_call0 false (fun _ => turn_v a b d ha hb hd) rfl .fn rfl (by decide) (by kernel_rfl) rfl (fun _g => .cons (.aL (C0 rfl)) (.cons (.aL (C0 rfl)) (.cons (.aL (C0 rfl)) .nil))) (by simp)) ?_
   rintro _ _ ⟨_, _, _, ⟨rfl, rfl⟩, hF, hH⟩
   (refine NST hF hH ?_; clear hF hH; rintro rfl rfl)
   refine ⟨ag_cons (by first | exact ag_rd rfl rfl rfl (rd_move rfl rfl) rfl) (ag_none), ?_⟩
   refine at_ef rfl rfl (ef_call0 false (fun _ => acr_v (trn a b c) (trn a b d)) rfl (.clo rfl) rfl (by decide) (by kernel_rfl) rfl (fun _ => C0 rfl) (by simp)) ?_
   rintro _ _ ⟨_, _, _, ⟨hu, rfl⟩, hF, hH⟩
   rw [hr] at hu; subst hu
   (refine NST hF hH ?_; clear hF hH; rintro rfl rfl)
   refine ⟨ag_none, ?_⟩
   refine WP ?_
   first | refine at_efN rfl rfl rfl (by decide) ⟨ag_cons (by first | exact ag_un rfl rfl rfl rfl | exact ag_rdK rfl rfl rfl (rd_move rfl rfl) rfl) (ag_cons (by first | exact ag_un rfl rfl rfl rfl | exact ag_rdK rfl rfl rfl (ZK (KK (t := 119) rfl)) rfl) (ag_cons (by first | exact ag_un rfl rfl rfl rfl | exact ag_rdK rfl rfl rfl (ZK (KK (t := 119) rfl)) rfl) (ag_cons (by first | exact ag_un rfl rfl rfl rfl | exact ag_rdK rfl rfl rfl (ZK (KK (t := 119) rfl)) rfl) (ag_none)))), ?_⟩ | (refine at_efK rfl (ef_call0 false (fun _ => turn_v c d a hc hd ha) rfl .fn rfl (by decide) (by kernel_rfl) rfl (fun _g => .cons (.aL (C0 rfl)) (.cons (.aL (C0 rfl)) (.cons (.aL (C0 rfl)) .nil))) (by simp)) ?_; rintro _ _ ⟨_, _, _, ⟨rfl, rfl⟩, hF, hH⟩; (refine NST hF hH ?_; clear hF hH; rintro rfl rfl); refine ⟨ag_cons (by first | exact ag_un rfl rfl rfl rfl | exact ag_rdK rfl rfl rfl (rd_move rfl rfl) rfl) (ag_cons (by first | exact ag_un rfl rfl rfl rfl | exact ag_rdK rfl rfl rfl (ZK (KK (t := 119) rfl)) rfl) (ag_cons (by first | exact ag_un rfl rfl rfl rfl | exact ag_rdK rfl rfl rfl (ZK (KK (t := 119) rfl)) rfl) (ag_cons (by first | exact ag_un rfl rfl rfl rfl | exact ag_rdK rfl rfl rfl (ZK (KK (t := 119) rfl)) rfl) (ag_none)))), ?_⟩)
   first | refine at_efN rfl rfl rfl (by decide) ⟨ag_cons (by first | exact ag_un rfl rfl rfl rfl | exact ag_rdK rfl rfl rfl (rd_move rfl rfl) rfl) (ag_none), ?_⟩ | (refine at_efK rfl (ef_call0 false (fun _ => turn_v c d b hc hd hb) rfl .fn rfl (by decide) (by kernel_rfl) rfl (fun _g => .cons (.aL (C0 rfl)) (.cons (.aL (C0 rfl)) (.cons (.aL (C0 rfl)) .nil))) (by simp)) ?_; rintro _ _ ⟨_, _, _, ⟨rfl, rfl⟩, hF, hH⟩; (refine NST hF hH ?_; clear hF hH; rintro rfl rfl); refine ⟨ag_cons (by first | exact ag_un rfl rfl rfl rfl | exact ag_rdK rfl rfl rfl (rd_move rfl rfl) rfl) (ag_none), ?_⟩)
   first | refine at_efN rfl rfl rfl (by decide) ⟨ag_none, ?_⟩ | (refine at_efK rfl (ef_call0 false (fun _ => acr_v (trn c d a) (trn c d b)) rfl (.clo rfl) rfl (by decide) (by kernel_rfl) rfl (fun _ => C0 rfl) (by simp)) ?_; rintro _ _ ⟨_, _, _, ⟨hu, rfl⟩, hF, hH⟩; rw [hs] at hu; subst hu; (refine NST hF hH ?_; clear hF hH; rintro rfl rfl); refine ⟨ag_none, ?_⟩)
   refine WQ ?_
   all_goals (exact aret_1 [] _ rfl rfl rfl (by decide) (ZNK rfl) (fun _ => .nil) ⟨rfl, rfl⟩)
end Go.Proofs.YtlblimbelfenaaaGreat
