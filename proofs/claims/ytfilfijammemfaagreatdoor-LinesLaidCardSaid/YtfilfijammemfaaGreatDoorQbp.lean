/- The reference's Zigzag. -/
import Derived.Test.YtfilfijammemfaaGreatDoorQbm
import Derived.Test.YtfilfijammemfaaGreatDoorQbo
import Derived.Test.YtfilfijammemfaaGreatDoorQbk
set_option linter.unusedSimpArgs false
set_option linter.unusedVariables false
/- The reference's Zigzag. -/
namespace Go.Proofs.YtfilfijammemfaaGreatDoor
open Go Go.RowKit
set_option maxRecDepth 100000
def absZ (n : Int) : Int := max n (-n)
theorem absZ_iff {n : Int} : absZ n ≤ 1 ↔ -1 ≤ n ∧ n ≤ 1 := by unfold absZ; omega
theorem absZ_v (n : Int) (h : -1000000000000000 ≤ n ∧ n ≤ 1000000000000000) : ACalls Tryz.prog 59 [.c (I n)] [] fun u H => u = .c (I (absZ n)) ∧ H = [] := by
 refine acalls_of (N := 7) Tryz.func59 rfl rfl (by simp) fun E hE => ?_
 repeat' (first
  | (with_reducible refine aw_seq ?_) | (with_reducible refine aseq_n ?_) | (with_reducible refine aseq_r ?_) | (with_reducible refine ablk_n ?_) | (with_reducible refine ablk_r ?_) | (with_reducible refine ablk_e ?_) | (with_reducible refine ablk_o rfl ?_) | (with_reducible refine aseq_e ?_) | (with_reducible refine aw_skip ?_) | (with_reducible refine aw_block ?_) | (with_reducible refine aw_ret ?_) | (with_reducible refine aw_exit ?_)
  | refine aw_cond_t rfl ?_ | refine aw_cond_f rfl ?_ | refine aw_if_t rfl (by assumption) ?_ | refine aw_if_f rfl (by assumption) ?_ | refine aw_if rfl (fun _ => ?_) (fun _ => ?_) | refine aw_cond rfl (fun _ => ?_) (fun _ => ?_)
  | (refine aw_region ?_; refine WE ?_))
 exact aret_1 [] _ rfl rfl rfl (by decide) (ZNK rfl) (fun _ => .nil) ⟨rfl, rfl⟩
def ZOk (st q : Int) (rz : List RunZ) (oR : List (List CV)) (A : Option Addr) (P : List Spot) (cq : Nat) (pp pb : Int) : Prop :=
 (-1 ≤ pp ∧ pp ≤ 100000) ∧ (-20000000 ≤ pb ∧ pb ≤ 20000000) ∧ ((rz = [] ∧ oR = [] ∧ A = none ∧ P = [] ∧ cq = 0 ∧ pp = -1 ∧ pb = 0) ∨
  ∃ (pl : List Pth) (O : List (List Spot)), oR = paR pl ++ [ownR A P.length cq] ∧ pl.map Prod.snd = O.map (fun P => (P, false)) ∧ zigS st q rz = (O ++ [P], pp, pb) ∧ pl.length + 1 ≤ rz.length ∧ P.length ≤ 2 * rz.length ∧ rz ≠ [])
abbrev zgH (va : Value) (c : Cel) (RL : List Int) (cp co cq : Nat) (oR : List (List CV)) (A : Option Addr) (P : List Spot) (T : List OB) : List OB := celB va c :: .arr 3 1 cp (zR RL) :: .arr 54 2 co oR :: .arr 107 2 cq (sR P) :: .eqv (.o 3 0 P.length cq) (.slice A P.length cq) :: T
set_option maxHeartbeats 8000000 in
theorem zigzagof_v (va : Value) (c : Cel) (q ev ph : Int) (hc : RCel c) (hev : 1 ≤ ev) (hph : -1000000 ≤ ph ∧ ph ≤ 1000000) : ACalls Tryz.prog 16 [celA va c, .c (I q), .c (I ev), .c (I ph)] [] fun u H => ∃ (v : Value) (pl : List Pth), u = .c (.r v (paR pl)) ∧ pl.map Prod.snd = (zigF c.st q (linG (grdOf c) q ev ph)).map (fun P => (P, false)) ∧ H = [] := by
 have hlb := lin_len hc q ev ph
 have hbd := fun l h => @lin_bd (grdOf c) (grdOf_ok hc) q ev ph l h
 have hst := hc.st
 refine acalls_of (N := 124) Tryz.func16 rfl rfl (by simp) fun E hE => ?_
 refine WA ?_
 refine WR ?_
 refine al_ef rfl (ef_call0 false (fun _ => linesin_v va c q ev ph hc hev hph) rfl .fn rfl (by decide) (by kernel_rfl) rfl (fun _ => C0 rfl) (by simp)) ?_
 rintro _ _ ⟨_, _, _, ⟨lv, rfl, rfl⟩, hF, hH⟩
 (refine NST hF hH ?_; clear hF hH; rintro rfl rfl)
 refine WE ?_
 have hsl := @linG_le (grdOf c) q ev ph
 have hab := fun l h => @lin_ab (grdOf c) q ev ph l h
 generalize linG (grdOf c) q ev ph = LL at *
 have e1 : (lnR LL).length = LL.length := by simp
 refine WA ?_
 refine WA ?_
 refine aw_loopk 0 (fun m F H => ∃ i cp, m + i = LL.length ∧ F = [(1, .c (I q)), (4, .p 0 0 0), (9, .c (.r lv (lnR LL))), (10, .o 1 0 (zR ((LL.take i).map (·.1))).length cp), (30, .c (.r lv (lnR LL))), (31, .c (I LL.length)), (32, .c (I i))] ∧ H = [celB va c, .arr 3 1 cp (zR ((LL.take i).map (·.1)))]) (fun F H => ∃ cp, LL.length ≤ cp ∧ F = [(1, .c (I q)), (4, .p 0 0 0), (9, .c (.r lv (lnR LL))), (10, .o 1 0 LL.length cp)] ∧ H = [celB va c, .arr 3 1 cp (zR (LL.map (·.1)))]) ?_ ?_ ?_ (fun _ _ h => aw_wk h fun _ _ h => h)
 ·refine wk_of [some 0, none] (fun _ => [(1, .c (I q)), (4, .p 0 0 0), (9, .c (.r lv (lnR LL))), (10, .o 1 0 0 0), (30, .c (.r lv (lnR LL))), (31, .c (I LL.length)), (32, .c (I (0 : Nat)))]) (fun _ => [celB va c, .arr 3 1 0 []]) (by decide) (ZNL hE) (by rw [← e1]; exact ZCF) ZCH (fun _ => ?_)
  exact ⟨LL.length, 0, 0, rfl, rfl, rfl⟩
 ·rintro m F H ⟨i, cp, hm, rfl, rfl⟩
  have hil : (zR ((LL.take i).map (·.1))).length = i := by simp; omega
  refine WA ?_
  refine aw_if rfl (fun hlt => ?_) (fun hge => ?_)
  ·obtain ⟨⟨r, a, b⟩, hx⟩ : ∃ x, LL[i]? = some x := ⟨_, List.getElem?_eq_getElem (by omega)⟩
   have hrow : (lnR LL)[i]? = some [I r, I a, I b] := by rw [List.getElem?_map, hx]; rfl
   have htk : zR ((LL.take (i + 1)).map (·.1)) = zR ((LL.take i).map (·.1)) ++ [[I r]] := by rw [List.take_add_one, hx]; simp
   refine WA ?_
   refine WR ?_
   refine al_ef rfl (Zapp (KA (t := 22) rfl)) ?_
   rintro _ _ ⟨_, cc, hcc, rfl, rfl⟩
   refine WE ?_
   refine WA ?_
   refine wk_of [some 0, some 1] (fun _ => [(1, .c (I q)), (4, .p 0 0 0), (9, .c (.r lv (lnR LL))), (10, .o 1 0 (zR ((LL.take (i + 1)).map (·.1))).length cc), (30, .c (.r lv (lnR LL))), (31, .c (I LL.length)), (32, .c (I (i + 1 : Nat)))]) (fun _ => [celB va c, .arr 3 1 cc (zR ((LL.take (i + 1)).map (·.1)))]) (by decide) (ZNL hE) (by rw [htk]; exact ZCF) (by rw [htk]; exact ZCH) (fun _ => ?_)
   exact ⟨m - 1, by omega, i + 1, cc, by omega, rfl, rfl⟩
  ·obtain rfl : i = LL.length := by omega
   rw [List.take_length] at *
   refine aw_capo 10 rfl fun hcp => ?_
   rw [hil] at hcp
   refine ZZ ?_
   refine .inl ⟨rfl, ?_⟩
   refine wk_of [some 0, some 1] (fun _ => [(1, .c (I q)), (4, .p 0 0 0), (9, .c (.r lv (lnR LL))), (10, .o 1 0 LL.length cp)]) (fun _ => [celB va c, .arr 3 1 cp (zR (LL.map (·.1)))]) (by decide) (ZNL hE) (by exact fun _ => .cons rfl (.c rfl) (.cons rfl (.p rfl) (.cons rfl (.c rfl) (.cons rfl (.o rfl hil) .nil)))) ZCH (fun _ => ?_)
   exact ⟨cp, hcp, rfl, rfl⟩
 rintro F H ⟨cp, hcp, rfl, rfl⟩
 refine ZZ ?_
 refine WR ?_
 refine al_ef rfl (ef_call [1] (fun _ => [.arr 3 1 cp (zR (LL.map (·.1)))]) false (fun _ => compactI_v (LL.map (·.1)) cp (by simp; omega) (by simp; omega)) rfl .fn rfl (by decide) (by kernel_rfl) rfl (fun _ => .cons (.o rfl (by simp)) .nil) (by decide) ZCH (by simp)) ?_
 rintro F1 H1 ⟨_, _, _, _, ⟨rfl, rfl⟩, hF, hH⟩
 (refine NSU hF hH ?_; clear hF hH; rintro rfl rfl)
 refine WE ?_
 refine WA ?_
 refine WA ?_
 refine WA ?_
 obtain ⟨RL, hRL⟩ : ∃ RL, compL (LL.map fun x => x.1) = RL := ⟨_, rfl⟩
 have hG : grpF LL = RL.map fun r => LL.filter fun x => decide (x.1 = r) := by rw [← hRL]; rfl
 have hgln : (grpF LL).length = RL.length := by rw [hG, List.length_map]
 have hRll : RL.length ≤ 100000 := by have := grp_le LL; omega
 have hok : OkR 3 (lnR LL) := fun row hr => by
  obtain ⟨x, _, rfl⟩ := List.mem_map.1 hr
  exact ⟨rfl, fun u hu => by simp at hu; rcases hu with rfl | rfl | rfl <;> rfl⟩
 have hfl : ∀ k, k ≤ (grpF LL).length → (rnzK (grpF LL) k).length ≤ 40000 := fun k hk => by
  rw [(rnzK_sum (st := 0) (q := 0) hk).2]
  have h2 := congrArg List.length (congrArg List.flatten (List.take_append_drop k (grpF LL)))
  rw [(grp_len rfl hsl).2, List.flatten_append, List.length_append] at h2
  omega
 rw [hRL]
 refine aw_wk (wk_of (K := fun F H => F = [(1, .c (I q)), (4, .p 0 0 0), (9, .c (.r lv (lnR LL))), (13, .o 2 0 0 0), (14, .c (I (-1))), (15, .c (I 0)), (44, .o 1 0 RL.length cp), (45, .c (I RL.length)), (46, .c (I (0 : Nat)))] ∧ H = [celB va c, .arr 3 1 cp (zR RL), .arr 54 2 0 []]) [some 0, some 1, none] (fun _ => [(1, .c (I q)), (4, .p 0 0 0), (9, .c (.r lv (lnR LL))), (13, .o 2 0 0 0), (14, .c (I (-1))), (15, .c (I 0)), (44, .o 1 0 RL.length cp), (45, .c (I RL.length)), (46, .c (I (0 : Nat)))]) (fun _ => [celB va c, .arr 3 1 cp (zR RL), .arr 54 2 0 []]) (by decide) (ZNL hE) ZCF ZCH (fun _ => ⟨rfl, rfl⟩)) ?_
 rintro _ _ ⟨rfl, rfl⟩
 refine aw_wk (wk_nilarr (K := fun F' H' => F' = _ ∧ H' = _) 107 2 ⟨rfl, rfl⟩) ?_
 rintro _ _ ⟨rfl, rfl⟩
 refine aw_loopw (fun m F H => ∃ (k co cq : Nat) (oR : List (List CV)) (A : Option Addr) (P : List Spot) (pp pb : Int), m + k = RL.length ∧ ZOk c.st q (rnzK (grpF LL) k) oR A P cq pp pb ∧ F = [(1, .c (I q)), (4, .p 0 0 0), (9, .c (.r lv (lnR LL))), (13, .o 2 0 oR.length co), (14, .c (I pp)), (15, .c (I pb)), (44, .o 1 0 RL.length cp), (45, .c (I RL.length)), (46, .c (I k))] ∧ H = zgH va c RL cp co cq oR A P []) ?_ ?_
 ·refine wk_id ?_
  exact ⟨RL.length, 0, 0, 0, [], none, [], -1, 0, rfl, ⟨by omega, by omega, .inl ⟨rfl, rfl, rfl, rfl, rfl, rfl, rfl⟩⟩, rfl, rfl⟩
 rintro m F H ⟨k, co, cq, oR, A, P, pp, pb, hm, hz, rfl, rfl⟩
 refine WA ?_
 refine aw_if rfl (fun hlt => ?_) (fun hge => ?_)
 ·obtain ⟨row, hx⟩ : ∃ x, RL[k]? = some x := ⟨_, List.getElem?_eq_getElem (by omega)⟩
  have hrow : (zR RL)[0 + k]? = some [I row] := by rw [Nat.zero_add, List.getElem?_map, hx]; rfl
  have hgk : (grpF LL)[k]? = some (rwL row LL) := by rw [hG, List.getElem?_map, hx]; rfl
  refine WA ?_
  refine WR ?_
  refine al_ef rfl (ef_call0 false (fun _ => cloneLn_a (lnR LL) lv hok (by simp; omega)) rfl .fn rfl (by decide) (by kernel_rfl) rfl (fun _ => C0 rfl) (by simp)) ?_
  rintro _ _ ⟨_, _, _, ⟨cz, hcz, rfl, rfl⟩, hF, hH⟩
  rw [e1] at hF hcz
  (refine NST hF hH ?_; clear hF hH; rintro rfl rfl)
  refine WO ?_
  refine al_ef rfl (ef_call [6, 5] (fun _ => [.arr 96 3 cz (lnR LL), .box [.c (I row)]]) false (fun _ => delLn_v LL cz row (by omega) hcz) rfl .fn rfl (by decide) (by kernel_rfl) rfl ZCH (by decide) ZCH (by simp)) ?_
  rintro F1 H1 ⟨_, _, _, _, ⟨rfl, rfl⟩, hF, hH⟩
  (refine NSU hF hH ?_; clear hF hH; rintro rfl rfl)
  refine WE ?_
  obtain ⟨g, hgd⟩ : ∃ g, rwL row LL = g := ⟨_, rfl⟩
  rw [hgd] at hgk ⊢
  have hgl : g.length ≤ LL.length := by rw [← hgd]; exact List.length_filter_le _ _
  have hgin : ∀ x ∈ g, x ∈ LL := fun x hx => by rw [← hgd] at hx; exact (List.mem_filter.1 hx).1
  have hrk := rnzK_succ hgk
  have hR1 := hfl (k + 1) (by omega)
  rw [hrk, List.length_append, List.length_map] at hR1
  have htl : (turnG k g).length = g.length := turnG_len
  have hgc : g.length ≤ cz := by omega
  have hcs : 1 ≤ c.st ∧ c.st ≤ 10000 := by omega
  refine aw_wk (wk_of (K := fun F H => F = [(1, .c (I q)), (4, .p 0 0 0), (9, .c (.r lv (lnR LL))), (13, .o 2 0 oR.length co), (14, .c (I (pp))), (15, .c (I (pb))), (44, .o 1 0 RL.length cp), (45, .c (I RL.length)), (46, .c (I k)), (16, .c (I k)), (18, .o 5 0 g.length cz)] ∧ H = zgH va c RL cp co cq oR A P [.arr 96 3 cz (lnR g)]) [some 0, some 1, some 2, some 3, some 4, some 6] (fun _ => [(1, .c (I q)), (4, .p 0 0 0), (9, .c (.r lv (lnR LL))), (13, .o 2 0 oR.length co), (14, .c (I (pp))), (15, .c (I (pb))), (44, .o 1 0 RL.length cp), (45, .c (I RL.length)), (46, .c (I k)), (16, .c (I k)), (18, .o 5 0 g.length cz)]) (fun _ => zgH va c RL cp co cq oR A P [.arr 96 3 cz (lnR g)]) (by decide) (ZNL hE) ZCF ZCG (fun _ => ⟨rfl, rfl⟩)) ?_
  rintro _ _ ⟨rfl, rfl⟩
  refine WA ?_
  obtain ⟨g', hg'⟩ : ∃ g', (if k % 2 = 1 then g.reverse else g) = g' := ⟨_, rfl⟩
  have hgl' : g'.length = g.length := by rw [← hg']; split <;> simp
  have hgin' : ∀ x ∈ g', x ∈ LL := fun x hx => hgin x (by rw [← hg'] at hx; split at hx <;> simpa using hx)
  refine aw_cut (fun F H => F = [(1, .c (I q)), (4, .p 0 0 0), (9, .c (.r lv (lnR LL))), (13, .o 2 0 oR.length co), (14, .c (I (pp))), (15, .c (I (pb))), (44, .o 1 0 RL.length cp), (45, .c (I RL.length)), (46, .c (I k)), (16, .c (I k)), (18, .o 5 0 g.length cz)] ∧ H = zgH va c RL cp co cq oR A P [.arr 96 3 cz (lnR g')]) ?_ ?_ wk_aw
  ·refine aw_if rfl (fun hod => ?_) (fun hev => ?_)
   ·rw [if_pos (by omega)] at hg'
    subst hg'
    refine WR ?_
    refine al_ef rfl (ef_callp [5] (fun _ => [.arr 96 3 cz (lnR g)]) false (fun _ => revLn_a g cz (by omega) hgc) rfl .fn rfl (by decide) (by kernel_rfl) rfl ZCH (by decide) ZCH (by simp)) ?_
    rintro F1 H1 ⟨_, _, _, _, ⟨rfl, rfl⟩, hF, hH⟩
    rw [killF_nil] at hF; (refine NSU hF hH ?_; clear hF hH; rintro rfl rfl)
    refine WE ?_
    exact wk_of [some 0, some 1, some 2, some 3, some 4, some 5] (fun _ => [(1, .c (I q)), (4, .p 0 0 0), (9, .c (.r lv (lnR LL))), (13, .o 2 0 oR.length co), (14, .c (I (pp))), (15, .c (I (pb))), (44, .o 1 0 RL.length cp), (45, .c (I RL.length)), (46, .c (I k)), (16, .c (I k)), (18, .o 5 0 g.length cz)]) (fun _ => zgH va c RL cp co cq oR A P [.arr 96 3 cz (lnR g.reverse)]) (by decide) (ZNL hE) ZCF ZCG (fun _ => ⟨rfl, rfl⟩)
   ·rw [if_neg (by omega)] at hg'
    subst hg'
    refine ZZ ?_
    exact wk_of [some 0, some 1, some 2, some 3, some 4, some 5] (fun _ => [(1, .c (I q)), (4, .p 0 0 0), (9, .c (.r lv (lnR LL))), (13, .o 2 0 oR.length co), (14, .c (I (pp))), (15, .c (I (pb))), (44, .o 1 0 RL.length cp), (45, .c (I RL.length)), (46, .c (I k)), (16, .c (I k)), (18, .o 5 0 g.length cz)]) (fun _ => zgH va c RL cp co cq oR A P [.arr 96 3 cz (lnR g)]) (by decide) (ZNL hE) ZCF ZCG (fun _ => ⟨rfl, rfl⟩)
  rintro F H ⟨rfl, rfl⟩
  refine ZZ ?_
  refine WA ?_
  obtain ⟨rz, hrz⟩ : ∃ rz : Nat → List RunZ, rz = fun j => rnzK (grpF LL) k ++ ((turnG k g).take j).map fun x => (k, x) := ⟨_, rfl⟩
  have e0 : rz 0 = rnzK (grpF LL) k := by rw [hrz]; simp
  refine aw_loopw (fun m F H => ∃ (j co cq : Nat) (oR : List (List CV)) (A : Option Addr) (P : List Spot) (pp pb : Int), m + j = g.length ∧ ZOk c.st q (rz j) oR A P cq pp pb ∧ F = [(1, .c (I q)), (4, .p 0 0 0), (9, .c (.r lv (lnR LL))), (13, .o 2 0 oR.length co), (14, .c (I (pp))), (15, .c (I (pb))), (44, .o 1 0 RL.length cp), (45, .c (I RL.length)), (46, .c (I k)), (16, .c (I k)), (60, .o 5 0 g.length cz), (61, .c (I g.length)), (62, .c (I j))] ∧ H = zgH va c RL cp co cq oR A P [.arr 96 3 cz (lnR g')]) ?_ ?_
  ·refine wk_of [some 0, some 1, some 2, some 3, some 4, some 5] (fun _ => [(1, .c (I q)), (4, .p 0 0 0), (9, .c (.r lv (lnR LL))), (13, .o 2 0 oR.length co), (14, .c (I (pp))), (15, .c (I (pb))), (44, .o 1 0 RL.length cp), (45, .c (I RL.length)), (46, .c (I k)), (16, .c (I k)), (60, .o 5 0 g.length cz), (61, .c (I g.length)), (62, .c (I (0 : Nat)))]) (fun _ => zgH va c RL cp co cq oR A P [.arr 96 3 cz (lnR g')]) (by decide) (ZNL hE) ZCF ZCG (fun _ => ?_)
   exact ⟨g.length, 0, co, cq, oR, A, P, pp, pb, rfl, by rw [e0]; exact hz, rfl, rfl⟩
  clear hz
  rintro m2 F H ⟨j, co, cq, oR, A, P, pp, pb, hm2, hz, rfl, rfl⟩
  refine WA ?_
  refine aw_if rfl (fun hlt2 => ?_) (fun hge2 => ?_)
  ·obtain ⟨⟨r, a, b⟩, hy⟩ : ∃ x, g'[j]? = some x := ⟨_, List.getElem?_eq_getElem (by omega)⟩
   have hrow2 : (lnR g')[0 + j]? = some [I r, I a, I b] := by rw [Nat.zero_add, List.getElem?_map, hy]; rfl
   have hyL := hgin' _ (List.mem_of_getElem? hy)
   obtain ⟨hb1, hb2, hb3⟩ := hbd _ hyL
   have hb4 := hab _ hyL
   simp only at hb1 hb2 hb3 hb4
   obtain ⟨a', b', hab', hty⟩ : ∃ a' b', (if k % 2 = 1 then (b, a) else (a, b)) = (a', b') ∧ (turnG k g)[j]? = some (r, a', b') := by
    unfold turnG
    by_cases hod : k % 2 = 1
    ·rw [if_pos hod] at hg' ⊢
     rw [if_pos hod]
     subst hg'
     exact ⟨b, a, rfl, by rw [List.getElem?_map, hy]; rfl⟩
    ·rw [if_neg hod] at hg' ⊢
     rw [if_neg hod]
     subst hg'
     exact ⟨a, b, rfl, hy⟩
   have ez : rz (j + 1) = rz j ++ [(k, r, a', b')] := by
    rw [hrz]
    simp only
    rw [List.take_add_one, hty, List.map_append, ← List.append_assoc]; rfl
   have hrl : (rz j).length ≤ 40000 := by rw [hrz]; simp; omega
   refine WA ?_
   refine ZZ ?_
   refine aw_regionT [(0, none), (1, none), (2, none), (3, none), (4, none), (5, none)] hMixed (by kernel_rfl) ?_
   refine WQ ?_
   refine WA ?_
   refine aw_cut (fun F H => F = [(1, .c (I q)), (4, .p 0 0 0), (9, .c (.r lv (lnR LL))), (13, .o 2 0 oR.length co), (14, .c (I (pp))), (15, .c (I (pb))), (44, .o 1 0 RL.length cp), (45, .c (I RL.length)), (46, .c (I k)), (16, .c (I k)), (20, .p 6 0 0), (21, .c (I a')), (22, .c (I b')), (60, .o 5 0 g.length cz), (61, .c (I g.length)), (62, .c (I j))] ∧ H = zgH va c RL cp co cq oR A P [.arr 96 3 cz (lnR g'), .box [.c (I r), .c (I a), .c (I b)]]) ?_ ?_ wk_aw
   ·refine aw_if rfl (fun hod => ?_) (fun hev => ?_)
    ·rw [if_pos (by omega)] at hab'
     injection hab' with h1 h2
     subst h1; subst h2
     refine ZZ ?_
     refine aw_regionT [(0, none), (1, none), (2, none), (3, none), (4, none), (5, none)] hMixed (by kernel_rfl) ?_
     refine WQ ?_
     exact wk_of [some 0, some 1, some 2, some 3, some 4, some 5, some 6] (fun _ => [(1, .c (I q)), (4, .p 0 0 0), (9, .c (.r lv (lnR LL))), (13, .o 2 0 oR.length co), (14, .c (I (pp))), (15, .c (I (pb))), (44, .o 1 0 RL.length cp), (45, .c (I RL.length)), (46, .c (I k)), (16, .c (I k)), (20, .p 6 0 0), (21, .c (I b)), (22, .c (I a)), (60, .o 5 0 g.length cz), (61, .c (I g.length)), (62, .c (I j))]) (fun _ => zgH va c RL cp co cq oR A P [.arr 96 3 cz (lnR g'), .box [.c (I r), .c (I a), .c (I b)]]) (by decide) (ZNL hE) ZCF ZCG (fun _ => ⟨rfl, rfl⟩)
    ·rw [if_neg (by omega)] at hab'
     injection hab' with h1 h2
     subst h1; subst h2
     refine ZZ ?_
     exact wk_of [some 0, some 1, some 2, some 3, some 4, some 5, some 6] (fun _ => [(1, .c (I q)), (4, .p 0 0 0), (9, .c (.r lv (lnR LL))), (13, .o 2 0 oR.length co), (14, .c (I (pp))), (15, .c (I (pb))), (44, .o 1 0 RL.length cp), (45, .c (I RL.length)), (46, .c (I k)), (16, .c (I k)), (20, .p 6 0 0), (21, .c (I a)), (22, .c (I b)), (60, .o 5 0 g.length cz), (61, .c (I g.length)), (62, .c (I j))]) (fun _ => zgH va c RL cp co cq oR A P [.arr 96 3 cz (lnR g'), .box [.c (I r), .c (I a), .c (I b)]]) (by decide) (ZNL hE) ZCF ZCG (fun _ => ⟨rfl, rfl⟩)
   rintro F H ⟨rfl, rfl⟩
   refine ZZ ?_
   refine WR ?_
   refine al_ef rfl (ef_call0 false (fun _ => pathof_o va c hcs r a b q (decide ((k : Int) % 2 = 1)) hb1 hb2 hb3 hb4) rfl .fn rfl (by decide) (by kernel_rfl) rfl (fun _ => C0 rfl) (by simp)) ?_
   rintro _ _ ⟨_, _, _, ⟨P2, cp2, hP2, rfl, rfl⟩, hF, hH⟩
   (refine NSU hF hH ?_; clear hF hH; rintro rfl rfl)
   refine WE ?_
   refine WA ?_
   have hPe : P2 = ptsL c.st q (r, a', b') := by
    rw [hP2]
    by_cases hod : k % 2 = 1
    ·rw [if_pos hod] at hab'
     injection hab' with h1 h2
     subst h1; subst h2
     rw [if_pos (by simp; omega), ptsL_rev hb4]
    ·rw [if_neg hod] at hab'
     injection hab' with h1 h2
     subst h1; subst h2
     rw [if_neg (by simp; omega)]
   have hP2l : P2.length ≤ 2 := by rw [hPe]; unfold ptsL; split <;> simp
   have hbb : (-20000000 ≤ a' ∧ a' ≤ 20000000) ∧ (-20000000 ≤ b' ∧ b' ≤ 20000000) := by
    split at hab' <;> (injection hab' with h1 h2; subst h1; subst h2; omega)
   clear hP2 hab'
   refine aw_wk (wk_of (K := fun F H => F = [(1, .c (I q)), (4, .p 0 0 0), (9, .c (.r lv (lnR LL))), (13, .o 2 0 oR.length co), (14, .c (I (pp))), (15, .c (I (pb))), (44, .o 1 0 RL.length cp), (45, .c (I RL.length)), (46, .c (I k)), (16, .c (I k)), (21, .c (I a')), (22, .c (I b')), (23, .p 7 0 0), (24, .c (I oR.length)), (60, .o 5 0 g.length cz), (61, .c (I g.length)), (62, .c (I j))] ∧ H = zgH va c RL cp co cq oR A P [.arr 96 3 cz (lnR g'), .arr 107 2 cp2 (sR P2), .box [.o 6 0 P2.length cp2, .c (B false)]]) [some 0, some 1, some 2, some 3, some 4, some 5, some 7, some 8] (fun _ => [(1, .c (I q)), (4, .p 0 0 0), (9, .c (.r lv (lnR LL))), (13, .o 2 0 oR.length co), (14, .c (I (pp))), (15, .c (I (pb))), (44, .o 1 0 RL.length cp), (45, .c (I RL.length)), (46, .c (I k)), (16, .c (I k)), (21, .c (I a')), (22, .c (I b')), (23, .p 7 0 0), (24, .c (I oR.length)), (60, .o 5 0 g.length cz), (61, .c (I g.length)), (62, .c (I j))]) (fun _ => zgH va c RL cp co cq oR A P [.arr 96 3 cz (lnR g'), .arr 107 2 cp2 (sR P2), .box [.o 6 0 P2.length cp2, .c (B false)]]) (by decide) (ZNL hE) ZCF ZCG (fun _ => ⟨rfl, rfl⟩)) ?_
   rintro _ _ ⟨rfl, rfl⟩
   have hk1 : (k : Int) ≤ 100000 := by omega
   have hzs : zigS c.st q (rz (j + 1)) = zigE c.st q (zigS c.st q (rz j)) (k, r, a', b') := by rw [ez, zigS_snoc]
   obtain ⟨hz1, hz2, hz3⟩ := hz
   refine aw_cut (fun F H => ∃ bb : Bool, (bb = true ↔ oR ≠ [] ∧ pp = (k : Int) - 1 ∧ absZ (a' - pb) ≤ 1) ∧ F = [(1, .c (I q)), (4, .p 0 0 0), (9, .c (.r lv (lnR LL))), (13, .o 2 0 oR.length co), (14, .c (I (pp))), (15, .c (I (pb))), (44, .o 1 0 RL.length cp), (45, .c (I RL.length)), (46, .c (I k)), (16, .c (I k)), (21, .c (I a')), (22, .c (I b')), (23, .p 7 0 0), (24, .c (I oR.length)), (60, .o 5 0 g.length cz), (61, .c (I g.length)), (62, .c (I j)), (100, .c (B bb))] ∧ H = zgH va c RL cp co cq oR A P [.arr 96 3 cz (lnR g'), .arr 107 2 cp2 (sR P2), .box [.o 6 0 P2.length cp2, .c (B false)]]) ?_ ?_ wk_aw
   ·by_cases hn0 : oR = []
    ·have h00 : ¬ (0 : Int) < (oR.length : Int) := by rw [hn0]; simp
     refine WA ?_
     refine wk_of [some 0, some 1, some 2, some 3, some 4, some 5, some 6, some 7] (fun _ => [(1, .c (I q)), (4, .p 0 0 0), (9, .c (.r lv (lnR LL))), (13, .o 2 0 oR.length co), (14, .c (I (pp))), (15, .c (I (pb))), (44, .o 1 0 RL.length cp), (45, .c (I RL.length)), (46, .c (I k)), (16, .c (I k)), (21, .c (I a')), (22, .c (I b')), (23, .p 7 0 0), (24, .c (I oR.length)), (60, .o 5 0 g.length cz), (61, .c (I g.length)), (62, .c (I j)), (100, .c (B false))]) (fun _ => zgH va c RL cp co cq oR A P [.arr 96 3 cz (lnR g'), .arr 107 2 cp2 (sR P2), .box [.o 6 0 P2.length cp2, .c (B false)]]) (by decide) (ZNL hE) ZCF ZCG (fun _ => ?_)
     exact ⟨false, by simp [hn0], rfl, rfl⟩
    ·have h00 : (0 : Int) < (oR.length : Int) := by have := List.length_pos_iff.2 hn0; omega
     by_cases k1 : pp = (k : Int) - 1
     ·refine WR ?_
      refine G1 rfl ?_
      refine al_ef rfl (ef_call0 false (fun _ => absZ_v (a' - pb) (by omega)) rfl .fn rfl (by decide) (by kernel_rfl) rfl (fun _ => C0 rfl) (by simp)) ?_
      rintro _ _ ⟨_, _, _, ⟨rfl, rfl⟩, hF, hH⟩
      (refine NST hF hH ?_; clear hF hH; rintro rfl rfl)
      refine WE ?_
      refine wk_of [some 0, some 1, some 2, some 3, some 4, some 5, some 6, some 7] (fun _ => [(1, .c (I q)), (4, .p 0 0 0), (9, .c (.r lv (lnR LL))), (13, .o 2 0 oR.length co), (14, .c (I (pp))), (15, .c (I (pb))), (44, .o 1 0 RL.length cp), (45, .c (I RL.length)), (46, .c (I k)), (16, .c (I k)), (21, .c (I a')), (22, .c (I b')), (23, .p 7 0 0), (24, .c (I oR.length)), (60, .o 5 0 g.length cz), (61, .c (I g.length)), (62, .c (I j)), (100, .c (B (decide (absZ (a' - pb) ≤ 1))))]) (fun _ => zgH va c RL cp co cq oR A P [.arr 96 3 cz (lnR g'), .arr 107 2 cp2 (sR P2), .box [.o 6 0 P2.length cp2, .c (B false)]]) (by decide) (ZNL hE) ZCF ZCG (fun _ => ?_)
      exact ⟨_, by simp [hn0, k1], rfl, rfl⟩
     ·refine WA ?_
      refine wk_of [some 0, some 1, some 2, some 3, some 4, some 5, some 6, some 7] (fun _ => [(1, .c (I q)), (4, .p 0 0 0), (9, .c (.r lv (lnR LL))), (13, .o 2 0 oR.length co), (14, .c (I (pp))), (15, .c (I (pb))), (44, .o 1 0 RL.length cp), (45, .c (I RL.length)), (46, .c (I k)), (16, .c (I k)), (21, .c (I a')), (22, .c (I b')), (23, .p 7 0 0), (24, .c (I oR.length)), (60, .o 5 0 g.length cz), (61, .c (I g.length)), (62, .c (I j)), (100, .c (B false))]) (fun _ => zgH va c RL cp co cq oR A P [.arr 96 3 cz (lnR g'), .arr 107 2 cp2 (sR P2), .box [.o 6 0 P2.length cp2, .c (B false)]]) (by decide) (ZNL hE) ZCF ZCG (fun _ => ?_)
      exact ⟨false, by simp [k1], rfl, rfl⟩
   rintro F H ⟨bb, hbx, rfl, rfl⟩
   refine ZZ ?_
   refine aw_cut (fun F H => ∃ (co cq : Nat) (oR : List (List CV)) (A : Option Addr) (P : List Spot), ZOk c.st q (rz (j + 1)) oR A P cq k b' ∧ F = [(1, .c (I q)), (4, .p 0 0 0), (9, .c (.r lv (lnR LL))), (13, .o 2 0 oR.length co), (16, .c (I k)), (22, .c (I b')), (44, .o 1 0 RL.length cp), (45, .c (I RL.length)), (46, .c (I k)), (60, .o 5 0 g.length cz), (61, .c (I g.length)), (62, .c (I j))] ∧ H = zgH va c RL cp co cq oR A P [.arr 96 3 cz (lnR g')]) ?_ ?_ wk_aw
   ·cases bb with
    | true =>
     obtain ⟨hn0, k1, k2⟩ := hbx.1 rfl
     obtain ⟨pl, O, rfl, hpl, hz5, hz6, hz7, hz8⟩ := hz3.resolve_left (fun h => hn0 h.2.1)
     have hzs2 : zigS c.st q (rz (j + 1)) = (O ++ [P ++ P2], (k : Int), b') := by
      rw [hzs, hz5]
      unfold zigE
      simp only [List.dropLast_concat, List.getLastD_concat]
      have k3 := absZ_iff.1 k2
      rw [if_pos ⟨by simp, by omega, k3.1, k3.2⟩, hPe]
     refine aw_cond_t rfl ?_
     have hlr : (paR pl ++ [ownR A P.length cq])[0 + pl.length]? = some (ownR A P.length cq) := by
      rw [Nat.zero_add, List.getElem?_append_right (by simp)]; simp
     have hln : (paR pl ++ [ownR A P.length cq]).length = pl.length + 1 := by simp
     have hls : (sR P).length = P.length := by simp
     have hlq : (sR P2).length = P2.length := by simp
     have hset : ∀ r : List CV, (paR pl ++ [ownR A P.length cq]).set (0 + pl.length) r = paR pl ++ [r] := fun r => by
      rw [Nat.zero_add, List.set_append_right _ _ (by simp)]; simp
     refine ZZ ?_
     refine aw_regionT [(0, none), (1, none), (2, none), (3, none), (4, none), (5, none), (6, none), (7, none), (8, none), (9, none), (10, none), (11, some [0, 1, 2]), (12, none), (13, none), (14, some [])] hMixed (by kernel_rfl) ?_
     iterate 6 refine WX2 ?_
     refine ZT rfl (rd_index (i := pl.length) rfl (KE (t := 33) rfl) rfl rfl rfl (by omega) (by omega)) ?_
     refine WP ?_
     first | refine al_thaw (i := 109) (b := 4) rfl rfl ?_ | refine at_thaw (i := 109) (b := 4) rfl rfl ?_ | refine am_thaw (i := 109) (b := 4) rfl rfl ?_
     refine at_ef rfl rfl (Zapp (news := sR P2) (j := P2.length) (hE := KA (t := 52) rfl) (hsrc := .own rfl (by rw [List.drop_zero, List.take_of_length_le (by simp)]) (by simp)) (hj := by simp) (hle := by omega)) ?_
     rintro _ _ ⟨_, cc, hcc, rfl, rfl⟩
     refine ⟨ag_cons (by first | exact ag_rd rfl rfl rfl (rd_move rfl rfl) rfl) (ag_cons (by first | exact ag_rd rfl rfl rfl (rd_move rfl rfl) rfl) (ag_cons (by first | exact ag_rd rfl rfl rfl (Zsub) rfl) (ag_none))), ?_⟩
     first | refine al_ghost (i := 112) rfl fun A3 => ?_ | refine at_ghost (i := 112) rfl fun A3 => ?_ | refine am_ghost (i := 112) rfl fun A3 => ?_
     refine at_rd rfl rfl rfl (by decide) (rd_index (i := pl.length) rfl (KE (t := 33) rfl) rfl rfl rfl (by omega) (by omega)) ?_
     refine WQ ?_
     all_goals (
      have e7 : (P ++ P2).length = P.length + P2.length := by simp
      have e8 : sR (P ++ P2) = sR P ++ sR P2 := List.map_append
      have e9 : (paR pl ++ [ownR A3 (P ++ P2).length cc]).length = (paR pl ++ [ownR A P.length cq]).length := by simp
      refine wk_of [some 0, some 1, some 2, some 3, some 8, some 5] (fun _ => [(1, .c (I q)), (4, .p 0 0 0), (9, .c (.r lv (lnR LL))), (13, .o 2 0 (paR pl ++ [ownR A3 (P ++ P2).length cc]).length co), (16, .c (I k)), (22, .c (I b')), (44, .o 1 0 RL.length cp), (45, .c (I RL.length)), (46, .c (I k)), (60, .o 5 0 g.length cz), (61, .c (I g.length)), (62, .c (I j))]) (fun _ => zgH va c RL cp co cc (paR pl ++ [ownR A3 (P ++ P2).length cc]) A3 (P ++ P2) [.arr 96 3 cz (lnR g')]) (by decide) (ZNL hE) (by rw [e9]; exact ZCF) (by unfold zgH; rw [e8, e7, ← hset]; exact ZCG) (fun _ => ?_)
      exact ⟨co, cc, _, A3, P ++ P2, ⟨by omega, by omega, .inr ⟨pl, O, rfl, hpl, hzs2, by rw [ez, List.length_append]; simp; omega, by rw [ez, List.length_append]; simp; omega, by rw [ez]; simp⟩⟩, rfl, rfl⟩)
    | false =>
     refine aw_cond_f rfl ?_
     rcases hz3 with ⟨hz4, rfl, rfl, rfl, rfl, rfl, rfl⟩ | ⟨pl, O, rfl, hpl, hz5, hz6, hz7, hz8⟩
     ·have hzs2 : zigS c.st q (rz (j + 1)) = ([] ++ [P2], (k : Int), b') := by
       rw [hzs, hz4, hPe]; rfl
      refine aw_wk (wk_of (K := fun F H => ∃ (pn : List Pth) (O : List (List Spot)), pn.map Prod.snd = O.map (fun P => (P, false)) ∧ zigS c.st q (rz (j + 1)) = (O ++ [P2], (k : Int), b') ∧ pn.length ≤ (rz j).length ∧ F = [(1, .c (I q)), (4, .p 0 0 0), (9, .c (.r lv (lnR LL))), (13, .o 2 0 (paR pn).length co), (16, .c (I k)), (22, .c (I b')), (23, .p 5 0 0), (44, .o 1 0 RL.length cp), (45, .c (I RL.length)), (46, .c (I k)), (60, .o 3 0 g.length cz), (61, .c (I g.length)), (62, .c (I j))] ∧ H = [celB va c, .arr 3 1 cp (zR RL), .arr 54 2 co (paR pn), .arr 96 3 cz (lnR g'), .arr 107 2 cp2 (sR P2), .box [.o 4 0 P2.length cp2, .c (B false)]]) [some 0, some 1, some 2, some 5, some 6, some 7] (fun _ => [(1, .c (I q)), (4, .p 0 0 0), (9, .c (.r lv (lnR LL))), (13, .o 2 0 (paR []).length co), (16, .c (I k)), (22, .c (I b')), (23, .p 5 0 0), (44, .o 1 0 RL.length cp), (45, .c (I RL.length)), (46, .c (I k)), (60, .o 3 0 g.length cz), (61, .c (I g.length)), (62, .c (I j))]) (fun _ => [celB va c, .arr 3 1 cp (zR RL), .arr 54 2 co (paR []), .arr 96 3 cz (lnR g'), .arr 107 2 cp2 (sR P2), .box [.o 4 0 P2.length cp2, .c (B false)]]) (by decide) (ZNL hE) ZCF ZCG (fun _ => ⟨[], [], rfl, hzs2, Nat.zero_le _, rfl, rfl⟩)) ?_
      rintro _ _ ⟨pn, O, hpn, hzs, hpl, rfl, rfl⟩
      have hpnl : (paR pn).length = pn.length := by simp
      refine aw_wk (wk_ghostbox (K := fun F' H' => ∃ A : Option Addr, F' = _ ∧ H' = [celB va c, .arr 3 1 cp (zR RL), .arr 54 2 co (paR pn), .arr 96 3 cz (lnR g'), .arr 107 2 cp2 (sR P2), .box [.c (.s (.slice A P2.length cp2)), .c (B false)], .eqv (.o 4 0 P2.length cp2) (.slice A P2.length cp2)]) 5 0 rfl rfl fun A => ⟨A, rfl, rfl⟩) ?_
      rintro _ _ ⟨A2, rfl, rfl⟩
      refine WR ?_
      refine al_ef rfl (Zapp (KA (t := 33) rfl)) ?_
      rintro _ _ ⟨_, cc, hcc, rfl, rfl⟩
      refine WE ?_
      refine wk_of [some 0, some 1, some 2, some 4, some 6, some 3] (fun _ => [(1, .c (I q)), (4, .p 0 0 0), (9, .c (.r lv (lnR LL))), (13, .o 2 0 (paR pn ++ [ownR A2 P2.length cp2]).length cc), (16, .c (I k)), (22, .c (I b')), (44, .o 1 0 RL.length cp), (45, .c (I RL.length)), (46, .c (I k)), (60, .o 5 0 g.length cz), (61, .c (I g.length)), (62, .c (I j))]) (fun _ => zgH va c RL cp cc cp2 (paR pn ++ [ownR A2 P2.length cp2]) A2 P2 [.arr 96 3 cz (lnR g')]) (by decide) (ZNL hE) ZCF ZCG (fun _ => ?_)
      exact ⟨cc, cp2, _, A2, P2, ⟨by omega, by omega, .inr ⟨pn, O, rfl, hpn, hzs, by rw [ez, List.length_append]; simp; omega, by rw [ez, List.length_append]; simp; omega, by rw [ez]; simp⟩⟩, rfl, rfl⟩
     ·have hzs2 : zigS c.st q (rz (j + 1)) = ((O ++ [P]) ++ [P2], (k : Int), b') := by
       rw [hzs, hz5]
       unfold zigE
       rw [if_neg (fun h => by
        obtain ⟨_, h2, h3, h4⟩ := h
        simp only at h2 h3 h4
        have := hbx.2 ⟨by simp, by omega, absZ_iff.2 ⟨h3, h4⟩⟩
        cases this), hPe]
      have epl : paR (pl ++ [((.slice A P.length cq, P, false) : Pth)]) = paR pl ++ [[.r (.slice A P.length cq) (sR P), B false]] := List.map_append
      have epn : (paR pl ++ [ownR A P.length cq]).length = (paR (pl ++ [((.slice A P.length cq, P, false) : Pth)])).length := by simp
      refine aw_wk (wk_of (K := fun F H => ∃ (pn : List Pth) (O : List (List Spot)), pn.map Prod.snd = O.map (fun P => (P, false)) ∧ zigS c.st q (rz (j + 1)) = (O ++ [P2], (k : Int), b') ∧ pn.length ≤ (rz j).length ∧ F = [(1, .c (I q)), (4, .p 0 0 0), (9, .c (.r lv (lnR LL))), (13, .o 2 0 (paR pn).length co), (16, .c (I k)), (22, .c (I b')), (23, .p 5 0 0), (44, .o 1 0 RL.length cp), (45, .c (I RL.length)), (46, .c (I k)), (60, .o 3 0 g.length cz), (61, .c (I g.length)), (62, .c (I j))] ∧ H = [celB va c, .arr 3 1 cp (zR RL), .arr 54 2 co (paR pn), .arr 96 3 cz (lnR g'), .arr 107 2 cp2 (sR P2), .box [.o 4 0 P2.length cp2, .c (B false)]]) [some 0, some 1, some 2, some 5, some 6, some 7] (fun _ => [(1, .c (I q)), (4, .p 0 0 0), (9, .c (.r lv (lnR LL))), (13, .o 2 0 (paR (pl ++ [((.slice A P.length cq, P, false) : Pth)])).length co), (16, .c (I k)), (22, .c (I b')), (23, .p 5 0 0), (44, .o 1 0 RL.length cp), (45, .c (I RL.length)), (46, .c (I k)), (60, .o 3 0 g.length cz), (61, .c (I g.length)), (62, .c (I j))]) (fun _ => [celB va c, .arr 3 1 cp (zR RL), .arr 54 2 co (paR (pl ++ [((.slice A P.length cq, P, false) : Pth)])), .arr 96 3 cz (lnR g'), .arr 107 2 cp2 (sR P2), .box [.o 4 0 P2.length cp2, .c (B false)]]) (by decide) (ZNL hE) (by rw [← epn]; exact ZCF) (by rw [epl]; exact fun _ => .box rfl (C0 rfl) (.arr rfl rfl (.arrz rfl (.last (.cons (.frz (q := 4) rfl (.frz rfl rfl (by rw [List.drop_zero, List.take_of_length_le (by simp)]) (by simp) rfl)) (.cons (.same _) .nil))) (.arr rfl rfl (.arr rfl rfl (.box rfl (.cons (.o rfl rfl) (.cons (.c rfl) .nil)) .nil)))))) (fun _ => ⟨_, O ++ [P], by rw [List.map_append, List.map_append, hpl]; rfl, hzs2, by rw [List.length_append]; simp; omega, rfl, rfl⟩)) ?_
      rintro _ _ ⟨pn, O, hpn, hzs, hpl, rfl, rfl⟩
      have hpnl : (paR pn).length = pn.length := by simp
      refine aw_wk (wk_ghostbox (K := fun F' H' => ∃ A : Option Addr, F' = _ ∧ H' = [celB va c, .arr 3 1 cp (zR RL), .arr 54 2 co (paR pn), .arr 96 3 cz (lnR g'), .arr 107 2 cp2 (sR P2), .box [.c (.s (.slice A P2.length cp2)), .c (B false)], .eqv (.o 4 0 P2.length cp2) (.slice A P2.length cp2)]) 5 0 rfl rfl fun A => ⟨A, rfl, rfl⟩) ?_
      rintro _ _ ⟨A2, rfl, rfl⟩
      refine WR ?_
      refine al_ef rfl (Zapp (KA (t := 33) rfl)) ?_
      rintro _ _ ⟨_, cc, hcc, rfl, rfl⟩
      refine WE ?_
      refine wk_of [some 0, some 1, some 2, some 4, some 6, some 3] (fun _ => [(1, .c (I q)), (4, .p 0 0 0), (9, .c (.r lv (lnR LL))), (13, .o 2 0 (paR pn ++ [ownR A2 P2.length cp2]).length cc), (16, .c (I k)), (22, .c (I b')), (44, .o 1 0 RL.length cp), (45, .c (I RL.length)), (46, .c (I k)), (60, .o 5 0 g.length cz), (61, .c (I g.length)), (62, .c (I j))]) (fun _ => zgH va c RL cp cc cp2 (paR pn ++ [ownR A2 P2.length cp2]) A2 P2 [.arr 96 3 cz (lnR g')]) (by decide) (ZNL hE) ZCF ZCG (fun _ => ?_)
      exact ⟨cc, cp2, _, A2, P2, ⟨by omega, by omega, .inr ⟨pn, O, rfl, hpn, hzs, by rw [ez, List.length_append]; simp; omega, by rw [ez, List.length_append]; simp; omega, by rw [ez]; simp⟩⟩, rfl, rfl⟩
   rintro F H ⟨co, cq, oR, A, P, hz, rfl, rfl⟩
   refine ZZ ?_
   refine WA ?_
   refine WA ?_
   refine wk_of [some 0, some 1, some 2, some 3, some 4, some 5] (fun _ => [(1, .c (I q)), (4, .p 0 0 0), (9, .c (.r lv (lnR LL))), (13, .o 2 0 oR.length co), (14, .c (I (k))), (15, .c (I (b'))), (44, .o 1 0 RL.length cp), (45, .c (I RL.length)), (46, .c (I (k))), (16, .c (I k)), (60, .o 5 0 g.length cz), (61, .c (I g.length)), (62, .c (I (j + 1 : Nat)))]) (fun _ => zgH va c RL cp co cq oR A P [.arr 96 3 cz (lnR g')]) (by decide) (ZNL hE) ZCF ZCG (fun _ => ?_)
   exact ⟨m2 - 1, by omega, j + 1, co, cq, oR, A, P, k, b', by omega, hz, rfl, rfl⟩
  ·obtain rfl : j = g.length := by omega
   have e3 : rz g.length = rnzK (grpF LL) (k + 1) := by rw [hrz, hrk]; simp only; rw [List.take_of_length_le (by omega)]
   rw [e3] at hz
   refine ZZ ?_
   refine WA ?_
   refine wk_of [some 0, some 1, some 2, some 3, some 4] (fun _ => [(1, .c (I q)), (4, .p 0 0 0), (9, .c (.r lv (lnR LL))), (13, .o 2 0 oR.length co), (14, .c (I (pp))), (15, .c (I (pb))), (44, .o 1 0 RL.length cp), (45, .c (I RL.length)), (46, .c (I (k + 1 : Nat)))]) (fun _ => zgH va c RL cp co cq oR A P []) (by decide) (ZNL hE) ZCF ZCG (fun _ => ?_)
   exact ⟨m - 1, by omega, k + 1, co, cq, oR, A, P, pp, pb, by omega, hz, rfl, rfl⟩
 ·obtain rfl : k = RL.length := by omega
  rw [← hgln] at hz
  obtain ⟨_, _, ⟨hz4, rfl, rfl, rfl, rfl, rfl, rfl⟩ | ⟨pl, O, rfl, hpl, hz5, hz6, hz7, hz8⟩⟩ := hz
  ·refine ZZ ?_
   refine WA ?_
   exact aret_f1 [] _ rfl rfl rfl rfl rfl rfl rfl (by decide) (ZNK rfl) (fun _ => .nil) (fun q => ⟨q, [], rfl, by unfold zigF rnzF; rw [hz4]; rfl, rfl⟩)
  ·refine ZZ ?_
   have epl : paR (pl ++ [((.slice A P.length cq, P, false) : Pth)]) = paR pl ++ [[.r (.slice A P.length cq) (sR P), B false]] := List.map_append
   have epn : (paR pl ++ [ownR A P.length cq]).length = (paR (pl ++ [((.slice A P.length cq, P, false) : Pth)])).length := by simp
   refine aw_wk (wk_of (K := fun F H => F = [(13, .o 0 0 (paR (pl ++ [((.slice A P.length cq, P, false) : Pth)])).length co)] ∧ H = [.arr 54 2 co (paR (pl ++ [((.slice A P.length cq, P, false) : Pth)]))]) [some 2] (fun _ => [(13, .o 0 0 (paR (pl ++ [((.slice A P.length cq, P, false) : Pth)])).length co)]) (fun _ => [.arr 54 2 co (paR (pl ++ [((.slice A P.length cq, P, false) : Pth)]))]) (by decide) (ZNL hE) (by rw [← epn]; exact ZCF) (by rw [epl]; exact fun _ => .arrz rfl (.last (.cons (.frz (q := 4) rfl (.frz rfl rfl (by rw [List.drop_zero, List.take_of_length_le (by simp)]) (by simp) rfl)) (.cons (.same _) .nil))) .nil) (fun _ => ⟨rfl, rfl⟩)) ?_
   rintro F H ⟨rfl, rfl⟩
   refine WA ?_
   exact aret_f1 [] _ rfl rfl rfl rfl (by rw [List.drop_zero, List.take_of_length_le (Nat.le_refl _)]) rfl rfl (by decide) (ZNK rfl) (fun _ => .nil) (fun q => ⟨q, (pl ++ [((.slice A P.length cq, P, false) : Pth)]), rfl, by unfold zigF rnzF; rw [hz5, List.map_append, List.map_append, hpl]; rfl, rfl⟩)
end Go.Proofs.YtfilfijammemfaaGreatDoor
