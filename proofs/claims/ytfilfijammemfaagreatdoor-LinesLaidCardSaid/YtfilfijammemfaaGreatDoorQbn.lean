/- The lines of one row, by value: IndexFunc and DeleteFunc of the reference's lines, Clone, Reverse. -/
import Derived.Test.YtfilfijammemfaaGreatDoorQbk
import Derived.Test.YtfilfijammemfaaGreatDoorQbm
import Derived.Test.YtfilfijammemfaaGreatDoorQam
import Derived.Lib.Overlaps
import Derived.Lib.AppendZeros
import Derived.Lib.AppendZerosOnto
import Derived.Test.YtfilfijammemfaaGreatDoorQaq
import Derived.Test.YtfilfijammemfaaGreatDoorQbj
set_option linter.unusedSimpArgs false
set_option linter.unusedVariables false
/- Zigzag's loop, with what runs gives as a hypothesis. -/
-- NEWM
namespace Go.Proofs.YtfilfijammemfaaGreatDoor
open Go Go.RowKit
set_option maxRecDepth 100000
abbrev runB (p r a b : Int) : OB := .box [.c (I p), .c (I r), .c (I a), .c (I b)]
set_option maxHeartbeats 8000000 in
theorem zigzag_r (va : Value) (c : Cel) (q ev ph : Int) (hc : RCel c) (hfz : lnF c q ev ph = 0) (RL : List RunZ) (hRl : RL.length ≤ 100000) (hRb : ∀ x ∈ RL, (x.1 ≤ 100000) ∧ (-20000000 ≤ x.2.1 ∧ x.2.1 ≤ 20000000) ∧ (-20000000 ≤ x.2.2.1 ∧ x.2.2.1 ≤ 20000000) ∧ (-20000000 ≤ x.2.2.2 ∧ x.2.2.2 ≤ 20000000)) (hrun : ∀ v, ACalls Tryz.prog 38 [.c (.r v (lnR (linG (grdOf c) q ev ph)))] [] fun u H => ∃ v', u = .c (.r v' (rzR RL)) ∧ H = []) : ACalls Tryz.prog 9 [celA va c, .c (I q), .c (I ev), .c (I ph)] [] fun u H => ∃ (v : Value) (pl : List Pth), u = .t [.c (.r v (paR pl)), .c (I 0)] ∧ pl.map Prod.snd = (zigS c.st q RL).1.map (fun P => (P, false)) ∧ H = [] := by
 have hl : c.rows.length ≤ 1000000000 := by have := hc.h; omega
 have hr : ∀ r ∈ c.rows, r.length ≤ 1000000000 := fun r hr => by have := hc.w; rw [(hc.row r hr).1]; omega
 have hgo := grdOf_ok hc
 have hst := hc.st
 have hgs : 0 ≤ (grdOf c).st ∧ (grdOf c).st ≤ 10000 := by rw [grdOf_st]; omega
 have hgst := grdOf_st c
 refine acalls_of (N := 93) Tryz.func9 rfl rfl (by simp) fun E hE => ?_
 refine WA ?_
 refine WR ?_
 refine al_ef rfl (ef_call0 false (fun _ => lined_v va c q ev ph hl hr) rfl .fn rfl (by decide) (by kernel_rfl) rfl (fun _ => C0 rfl) (by simp)) ?_
 rintro _ _ ⟨_, _, _, ⟨hu1, hu2, rfl⟩, hF, hH⟩
 obtain ⟨gp, gv, lv, hu3⟩ := hu2 hfz
 rw [hu3] at hF
 (refine NST hF hH ?_; clear hF hH; rintro rfl rfl)
 refine WE ?_
 refine WA ?_
 refine aw_cond_f rfl ?_
 refine ZZ ?_
 refine WA ?_
 refine WA ?_
 refine WR ?_
 refine al_ef rfl (ef_call0 false (fun _ => hrun lv) rfl .fn rfl (by decide) (by kernel_rfl) rfl (fun _ => C0 rfl) (by simp)) ?_
 rintro _ _ ⟨_, _, _, ⟨vr, rfl, rfl⟩, hF, hH⟩
 (refine NST hF hH ?_; clear hF hH; rintro rfl rfl)
 refine WE ?_
 have e1 : (rzR RL).length = RL.length := by simp
 have hpl2 : ∀ l : Lin, (ptsL c.st q l).length ≤ 2 := fun l => by unfold ptsL; split <;> simp
 refine aw_loopw (fun m F H => (m = RL.length ∧ F = [(10, .p 0 0 0), (13, .o 2 0 0 0), (14, .p 1 0 0), (32, .c (.r vr (rzR RL))), (33, .c (I (rzR RL).length)), (34, .c (I (0 : Nat)))] ∧ H = [linB gp gv (grdOf c) q, runB 0 0 0 0, .arr 54 2 0 []]) ∨ ∃ (i : Nat) (pl : List Pth) (O : List (List Spot)) (P : List Spot) (A : Option Addr) (cp c1 : Nat) (pp pr pa pb : Int), m + i = RL.length ∧ 1 ≤ i ∧ pl.map Prod.snd = O.map (fun P => (P, false)) ∧ zigS c.st q (RL.take i) = (O ++ [P], pp, pb) ∧ (-1 ≤ pp ∧ pp ≤ 100000) ∧ (-20000000 ≤ pb ∧ pb ≤ 20000000) ∧ P.length ≤ 2 * i ∧ pl.length ≤ i ∧ F = [(10, .p 0 0 0), (13, .o 2 0 (paR pl ++ [ownR A P.length cp]).length c1), (14, .p 1 0 0), (32, .c (.r vr (rzR RL))), (33, .c (I (rzR RL).length)), (34, .c (I i))] ∧ H = [linB gp gv (grdOf c) q, runB pp pr pa pb, .arr 54 2 c1 (paR pl ++ [ownR A P.length cp]), .arr 107 2 cp (sR P), .eqv (.o 3 0 P.length cp) (.slice A P.length cp)]) ?_ ?_
 ·refine wk_of [some 1, some 2, none] (fun _ => [(10, .p 0 0 0), (13, .o 2 0 0 0), (14, .p 1 0 0), (32, .c (.r vr (rzR RL))), (33, .c (I (rzR RL).length)), (34, .c (I (0 : Nat)))]) (fun _ => [linB gp gv (grdOf c) q, runB 0 0 0 0, .arr 54 2 0 []]) (by decide) (ZNL hE) ZCF ZCH (fun _ => ?_)
  exact ⟨RL.length, .inl ⟨rfl, rfl, rfl⟩⟩
 rintro m F H (⟨hm, rfl, rfl⟩ | ⟨i, pl, O, P, A, cp, c1, pp, pr, pa, pb, hm, hi1, hpl, hzg, hpp, hpb, hPl, hpll, rfl, rfl⟩)
 ·refine WA ?_
  refine aw_if rfl (fun hlt => ?_) (fun hge => ?_)
  ·obtain ⟨⟨xp, xr, xa, xb⟩, hx⟩ : ∃ x, RL[0]? = some x := ⟨_, List.getElem?_eq_getElem (by omega)⟩
   have hrow : (rzR RL)[0]? = some [I xp, I xr, I xa, I xb] := by rw [List.getElem?_map, hx]; rfl
   obtain ⟨hb0, hb1, hb2, hb3⟩ := hRb _ (List.mem_of_getElem? hx)
   simp only at hb0 hb1 hb2 hb3
   have h00 : ¬ (0 : Int) < ((0 : Nat) : Int) := by omega
   have hzs : zigS c.st q (RL.take 1) = ([] ++ [ptsL c.st q (xr, xa, xb)], (xp : Int), xb) := by
    rw [List.take_add_one, hx]; rfl
   refine WA ?_
   refine WR ?_
   refine al_ef rfl (ef_call0 false (fun _ => points_o gp gv (grdOf c) q (xr, xa, xb) hgs hb1 hb2 hb3) rfl .fn rfl (by decide) (by kernel_rfl) rfl (fun _ => C0 rfl) (by simp)) ?_
   rintro _ _ ⟨_, _, _, ⟨cq, rfl, rfl⟩, hF, hH⟩
   rw [hgst] at hF hH
   (refine NSU hF hH ?_; clear hF hH; rintro rfl rfl)
   refine WE ?_
   refine WA ?_
   refine WA ?_
   refine aw_cond_f rfl ?_
   refine ZZ ?_
   refine aw_ghost (i := 17) rfl fun A2 => ?_
   refine WR ?_
   refine al_ef rfl (Zapp (KA (t := 33) rfl)) ?_
   rintro _ _ ⟨_, cc, hcc, rfl, rfl⟩
   refine WE ?_
   refine WA ?_
   refine WA ?_
   refine wk_of [some 0, some 1, some 2, some 4, some 5] (fun _ => [(10, .p 0 0 0), (13, .o 2 0 (paR ([]) ++ [ownR A2 (ptsL c.st q (xr, xa, xb)).length cq]).length cc), (14, .p 1 0 0), (32, .c (.r vr (rzR RL))), (33, .c (I (rzR RL).length)), (34, .c (I (0 + 1 : Nat)))]) (fun _ => [linB gp gv (grdOf c) q, runB (xp : Int) xr xa xb, .arr 54 2 cc (paR ([]) ++ [ownR A2 (ptsL c.st q (xr, xa, xb)).length cq]), .arr 107 2 cq (sR (ptsL c.st q (xr, xa, xb))), .eqv (.o 3 0 (ptsL c.st q (xr, xa, xb)).length cq) (.slice A2 (ptsL c.st q (xr, xa, xb)).length cq)]) (by decide) (ZNL hE) ZCF ZCG (fun _ => ?_)
   exact ⟨m - 1, by omega, .inr ⟨1, [], [], _, A2, cq, cc, xp, xr, xa, xb, by omega, by omega, rfl, hzs, by omega, by omega, by have := hpl2 (xr, xa, xb); omega, by simp, rfl, rfl⟩⟩
  ·have hRe : RL = [] := List.eq_nil_of_length_eq_zero (by omega)
   subst hRe
   refine ZZ ?_
   refine WA ?_
   exact aret_f2 [] _ rfl rfl rfl rfl rfl rfl rfl rfl rfl (by decide) (ZNK rfl) (fun _ => .nil) (fun q => ⟨q, [], rfl, rfl, rfl⟩)
 have hln : (paR pl ++ [ownR A P.length cp]).length = pl.length + 1 := by simp
 refine WA ?_
 refine aw_if rfl (fun hlt => ?_) (fun hge => ?_)
 ·obtain ⟨⟨xp, xr, xa, xb⟩, hx⟩ : ∃ x, RL[i]? = some x := ⟨_, List.getElem?_eq_getElem (by omega)⟩
  have hrow : (rzR RL)[i]? = some [I xp, I xr, I xa, I xb] := by rw [List.getElem?_map, hx]; rfl
  obtain ⟨hb0, hb1, hb2, hb3⟩ := hRb _ (List.mem_of_getElem? hx)
  simp only at hb0 hb1 hb2 hb3
  have h00 : (0 : Int) < (i : Int) := by omega
  have htk : RL.take (i + 1) = RL.take i ++ [(xp, xr, xa, xb)] := by rw [List.take_add_one, hx]; rfl
  obtain ⟨bb, hbb⟩ : ∃ b, decide ((xp : Int) = pp + 1 ∧ -1 ≤ xa - pb ∧ xa - pb ≤ 1) = b := ⟨_, rfl⟩
  have hzs : zigS c.st q (RL.take (i + 1)) = (if bb = true then O ++ [P ++ ptsL c.st q (xr, xa, xb)] else (O ++ [P]) ++ [ptsL c.st q (xr, xa, xb)], (xp : Int), xb) := by
   rw [htk, zigS_snoc, hzg]
   unfold zigE
   simp only [List.dropLast_concat, List.getLastD_concat]
   by_cases h : (xp : Int) = pp + 1 ∧ -1 ≤ xa - pb ∧ xa - pb ≤ 1
   ·rw [decide_eq_true h] at hbb
    rw [← hbb, if_pos ⟨by simp, h⟩, if_pos rfl]
   ·rw [decide_eq_false h] at hbb
    rw [← hbb, if_neg (fun hh => h hh.2), if_neg (by simp)]
  refine WA ?_
  refine WR ?_
  refine al_ef rfl (ef_call0 false (fun _ => points_o gp gv (grdOf c) q (xr, xa, xb) hgs hb1 hb2 hb3) rfl .fn rfl (by decide) (by kernel_rfl) rfl (fun _ => C0 rfl) (by simp)) ?_
  rintro _ _ ⟨_, _, _, ⟨cq, rfl, rfl⟩, hF, hH⟩
  rw [hgst] at hF hH
  (refine NSU hF hH ?_; clear hF hH; rintro rfl rfl)
  refine WE ?_
  refine WA ?_
  refine aw_cut (fun F H => F = [(10, .p 0 0 0), (13, .o 2 0 (paR pl ++ [ownR A P.length cp]).length c1), (14, .p 1 0 0), (16, .p 5 0 0), (17, .o 6 0 (ptsL c.st q (xr, xa, xb)).length cq), (32, .c (.r vr (rzR RL))), (33, .c (I (rzR RL).length)), (34, .c (I i)), (69, .c (B bb))] ∧ H = [linB gp gv (grdOf c) q, runB pp pr pa pb, .arr 54 2 c1 (paR pl ++ [ownR A P.length cp]), .arr 107 2 cp (sR P), .eqv (.o 3 0 P.length cp) (.slice A P.length cp), .box [.c (I xp), .c (I xr), .c (I xa), .c (I xb)], .arr 107 2 cq (sR (ptsL c.st q (xr, xa, xb)))]) ?_ ?_ wk_aw
  ·by_cases k1 : (xp : Int) = pp + 1
   ·by_cases k2 : -1 ≤ xa - pb
    ·by_cases k3 : xa - pb ≤ 1
     ·obtain rfl : bb = true := by rw [← hbb]; simp [k1, k2, k3]
      refine WA ?_
      exact wk_of [some 0, some 1, some 2, some 3, some 4, some 5, some 6] (fun _ => [(10, .p 0 0 0), (13, .o 2 0 (paR pl ++ [ownR A P.length cp]).length c1), (14, .p 1 0 0), (16, .p 5 0 0), (17, .o 6 0 (ptsL c.st q (xr, xa, xb)).length cq), (32, .c (.r vr (rzR RL))), (33, .c (I (rzR RL).length)), (34, .c (I i)), (69, .c (B true))]) (fun _ => [linB gp gv (grdOf c) q, runB pp pr pa pb, .arr 54 2 c1 (paR pl ++ [ownR A P.length cp]), .arr 107 2 cp (sR P), .eqv (.o 3 0 P.length cp) (.slice A P.length cp), .box [.c (I xp), .c (I xr), .c (I xa), .c (I xb)], .arr 107 2 cq (sR (ptsL c.st q (xr, xa, xb)))]) (by decide) (ZNL hE) ZCF ZCG (fun _ => ⟨rfl, rfl⟩)
     ·obtain rfl : bb = false := by rw [← hbb]; simp [k3]
      refine WA ?_
      exact wk_of [some 0, some 1, some 2, some 3, some 4, some 5, some 6] (fun _ => [(10, .p 0 0 0), (13, .o 2 0 (paR pl ++ [ownR A P.length cp]).length c1), (14, .p 1 0 0), (16, .p 5 0 0), (17, .o 6 0 (ptsL c.st q (xr, xa, xb)).length cq), (32, .c (.r vr (rzR RL))), (33, .c (I (rzR RL).length)), (34, .c (I i)), (69, .c (B false))]) (fun _ => [linB gp gv (grdOf c) q, runB pp pr pa pb, .arr 54 2 c1 (paR pl ++ [ownR A P.length cp]), .arr 107 2 cp (sR P), .eqv (.o 3 0 P.length cp) (.slice A P.length cp), .box [.c (I xp), .c (I xr), .c (I xa), .c (I xb)], .arr 107 2 cq (sR (ptsL c.st q (xr, xa, xb)))]) (by decide) (ZNL hE) ZCF ZCG (fun _ => ⟨rfl, rfl⟩)
    ·obtain rfl : bb = false := by rw [← hbb]; simp [k2]
     refine WA ?_
     exact wk_of [some 0, some 1, some 2, some 3, some 4, some 5, some 6] (fun _ => [(10, .p 0 0 0), (13, .o 2 0 (paR pl ++ [ownR A P.length cp]).length c1), (14, .p 1 0 0), (16, .p 5 0 0), (17, .o 6 0 (ptsL c.st q (xr, xa, xb)).length cq), (32, .c (.r vr (rzR RL))), (33, .c (I (rzR RL).length)), (34, .c (I i)), (69, .c (B false))]) (fun _ => [linB gp gv (grdOf c) q, runB pp pr pa pb, .arr 54 2 c1 (paR pl ++ [ownR A P.length cp]), .arr 107 2 cp (sR P), .eqv (.o 3 0 P.length cp) (.slice A P.length cp), .box [.c (I xp), .c (I xr), .c (I xa), .c (I xb)], .arr 107 2 cq (sR (ptsL c.st q (xr, xa, xb)))]) (by decide) (ZNL hE) ZCF ZCG (fun _ => ⟨rfl, rfl⟩)
   ·obtain rfl : bb = false := by rw [← hbb]; simp [k1]
    refine WA ?_
    exact wk_of [some 0, some 1, some 2, some 3, some 4, some 5, some 6] (fun _ => [(10, .p 0 0 0), (13, .o 2 0 (paR pl ++ [ownR A P.length cp]).length c1), (14, .p 1 0 0), (16, .p 5 0 0), (17, .o 6 0 (ptsL c.st q (xr, xa, xb)).length cq), (32, .c (.r vr (rzR RL))), (33, .c (I (rzR RL).length)), (34, .c (I i)), (69, .c (B false))]) (fun _ => [linB gp gv (grdOf c) q, runB pp pr pa pb, .arr 54 2 c1 (paR pl ++ [ownR A P.length cp]), .arr 107 2 cp (sR P), .eqv (.o 3 0 P.length cp) (.slice A P.length cp), .box [.c (I xp), .c (I xr), .c (I xa), .c (I xb)], .arr 107 2 cq (sR (ptsL c.st q (xr, xa, xb)))]) (by decide) (ZNL hE) ZCF ZCG (fun _ => ⟨rfl, rfl⟩)
  rintro F H ⟨rfl, rfl⟩
  refine ZZ ?_
  have hp2 := hpl2 (xr, xa, xb)
  cases bb with
  | true =>
   rw [if_pos rfl] at hzs
   refine aw_cond_t rfl ?_
   have hlr : (paR pl ++ [ownR A P.length cp])[0 + pl.length]? = some (ownR A P.length cp) := by
    rw [Nat.zero_add, List.getElem?_append_right (by simp)]; simp
   have hls : (sR P).length = P.length := by simp
   have hlq : (sR (ptsL c.st q (xr, xa, xb))).length = (ptsL c.st q (xr, xa, xb)).length := by simp
   have hset : ∀ r : List CV, (paR pl ++ [ownR A P.length cp]).set (0 + pl.length) r = paR pl ++ [r] := fun r => by
    rw [Nat.zero_add, List.set_append_right _ _ (by simp)]; simp
   refine ZR ?_
   iterate 8 refine WX1 ?_
   refine ZA (rd_index (i := pl.length) rfl (KE (t := 33) rfl) rfl rfl rfl (by omega) (by omega)) ?_
   refine WO ?_
   first | refine al_thaw (i := 80) (b := 4) rfl rfl ?_ | refine at_thaw (i := 80) (b := 4) rfl rfl ?_ | refine am_thaw (i := 80) (b := 4) rfl rfl ?_
   refine al_ef rfl (Zapp (news := sR (ptsL c.st q (xr, xa, xb))) (j := (ptsL c.st q (xr, xa, xb)).length) (hE := KA (t := 52) rfl) (hsrc := .own rfl (by rw [List.drop_zero, List.take_of_length_le (by simp)]) (by simp)) (hj := by simp) (hle := by omega)) ?_
   rintro _ _ ⟨_, cc, hcc, rfl, rfl⟩
   first | refine al_ghost (i := 82) rfl fun A3 => ?_ | refine at_ghost (i := 82) rfl fun A3 => ?_ | refine am_ghost (i := 82) rfl fun A3 => ?_
   refine ZA (rd_index (i := pl.length) rfl (KE (t := 33) rfl) rfl rfl rfl (by omega) (by omega)) ?_
   refine WE ?_
   all_goals (
    refine WA ?_
    refine WA ?_
    have e7 : (P ++ ptsL c.st q (xr, xa, xb)).length = P.length + (ptsL c.st q (xr, xa, xb)).length := by simp
    have e8 : sR (P ++ ptsL c.st q (xr, xa, xb)) = sR P ++ sR (ptsL c.st q (xr, xa, xb)) := List.map_append
    have e9 : (paR pl ++ [ownR A3 (P ++ ptsL c.st q (xr, xa, xb)).length cc]).length = (paR pl ++ [ownR A P.length cp]).length := by simp
    refine wk_of [some 0, some 1, some 2, some 3, some 7] (fun _ => [(10, .p 0 0 0), (13, .o 2 0 (paR pl ++ [ownR A3 (P ++ ptsL c.st q (xr, xa, xb)).length cc]).length c1), (14, .p 1 0 0), (32, .c (.r vr (rzR RL))), (33, .c (I (rzR RL).length)), (34, .c (I (i + 1 : Nat)))]) (fun _ => [linB gp gv (grdOf c) q, runB (xp : Int) xr xa xb, .arr 54 2 c1 (paR pl ++ [ownR A3 (P ++ ptsL c.st q (xr, xa, xb)).length cc]), .arr 107 2 cc (sR (P ++ ptsL c.st q (xr, xa, xb))), .eqv (.o 3 0 (P ++ ptsL c.st q (xr, xa, xb)).length cc) (.slice A3 (P ++ ptsL c.st q (xr, xa, xb)).length cc)]) (by decide) (ZNL hE) (by rw [e9]; exact ZCF) (by rw [e8, e7, ← hset]; exact ZCG) (fun _ => ?_)
    exact ⟨m - 1, by omega, .inr ⟨i + 1, pl, O, P ++ ptsL c.st q (xr, xa, xb), A3, cc, c1, xp, xr, xa, xb, by omega, by omega, hpl, hzs, by omega, by omega, by omega, by omega, rfl, rfl⟩⟩)
  | false =>
   rw [if_neg (by simp)] at hzs
   refine aw_cond_f rfl ?_
   refine ZZ ?_
   have epl : paR (pl ++ [((.slice A P.length cp, P, false) : Pth)]) = paR pl ++ [[.r (.slice A P.length cp) (sR P), B false]] := List.map_append
   have epn : (paR pl ++ [ownR A P.length cp]).length = (paR (pl ++ [((.slice A P.length cp, P, false) : Pth)])).length := by simp
   refine aw_wk (wk_of (K := fun F H => F = [(10, .p 0 0 0), (13, .o 2 0 (paR (pl ++ [((.slice A P.length cp, P, false) : Pth)])).length c1), (14, .p 1 0 0), (16, .p 3 0 0), (17, .o 4 0 (ptsL c.st q (xr, xa, xb)).length cq), (32, .c (.r vr (rzR RL))), (33, .c (I (rzR RL).length)), (34, .c (I i))] ∧ H = [linB gp gv (grdOf c) q, runB pp pr pa pb, .arr 54 2 c1 (paR (pl ++ [((.slice A P.length cp, P, false) : Pth)])), .box [.c (I xp), .c (I xr), .c (I xa), .c (I xb)], .arr 107 2 cq (sR (ptsL c.st q (xr, xa, xb)))]) [some 0, some 1, some 2, some 5, some 6] (fun _ => [(10, .p 0 0 0), (13, .o 2 0 (paR (pl ++ [((.slice A P.length cp, P, false) : Pth)])).length c1), (14, .p 1 0 0), (16, .p 3 0 0), (17, .o 4 0 (ptsL c.st q (xr, xa, xb)).length cq), (32, .c (.r vr (rzR RL))), (33, .c (I (rzR RL).length)), (34, .c (I i))]) (fun _ => [linB gp gv (grdOf c) q, runB pp pr pa pb, .arr 54 2 c1 (paR (pl ++ [((.slice A P.length cp, P, false) : Pth)])), .box [.c (I xp), .c (I xr), .c (I xa), .c (I xb)], .arr 107 2 cq (sR (ptsL c.st q (xr, xa, xb)))]) (by decide) (ZNL hE) (by rw [← epn]; exact ZCF) (by rw [epl]; exact fun _ => .box rfl (C0 rfl) (.box rfl (C0 rfl) (.arrz rfl (.last (.cons (.frz (q := 4) rfl (.frz rfl rfl (by rw [List.drop_zero, List.take_of_length_le (by simp)]) (by simp) rfl)) (.cons (.same _) .nil))) (.box rfl (C0 rfl) (.arr rfl rfl .nil))))) (fun _ => ⟨rfl, rfl⟩)) ?_
   rintro F H ⟨rfl, rfl⟩
   have elm : (paR (pl ++ [((.slice A P.length cp, P, false) : Pth)])).length ≤ 1000000 := by simp; omega
   refine aw_ghost (i := 17) rfl fun A2 => ?_
   refine WR ?_
   refine al_ef rfl (Zapp (KA (t := 33) rfl)) ?_
   rintro _ _ ⟨_, cc, hcc, rfl, rfl⟩
   refine WE ?_
   refine WA ?_
   refine WA ?_
   refine wk_of [some 0, some 1, some 2, some 4, some 5] (fun _ => [(10, .p 0 0 0), (13, .o 2 0 (paR (pl ++ [((.slice A P.length cp, P, false) : Pth)]) ++ [ownR A2 (ptsL c.st q (xr, xa, xb)).length cq]).length cc), (14, .p 1 0 0), (32, .c (.r vr (rzR RL))), (33, .c (I (rzR RL).length)), (34, .c (I (i + 1 : Nat)))]) (fun _ => [linB gp gv (grdOf c) q, runB (xp : Int) xr xa xb, .arr 54 2 cc (paR (pl ++ [((.slice A P.length cp, P, false) : Pth)]) ++ [ownR A2 (ptsL c.st q (xr, xa, xb)).length cq]), .arr 107 2 cq (sR (ptsL c.st q (xr, xa, xb))), .eqv (.o 3 0 (ptsL c.st q (xr, xa, xb)).length cq) (.slice A2 (ptsL c.st q (xr, xa, xb)).length cq)]) (by decide) (ZNL hE) ZCF ZCG (fun _ => ?_)
   exact ⟨m - 1, by omega, .inr ⟨i + 1, pl ++ [((.slice A P.length cp, P, false) : Pth)], O ++ [P], _, A2, cq, cc, xp, xr, xa, xb, by omega, by omega, by rw [List.map_append, List.map_append, hpl]; rfl, hzs, by omega, by omega, by omega, by simp; omega, rfl, rfl⟩⟩
 obtain rfl : i = RL.length := by omega
 rw [List.take_length] at hzg
 rw [hzg]
 refine ZZ ?_
 have epl : paR (pl ++ [((.slice A P.length cp, P, false) : Pth)]) = paR pl ++ [[.r (.slice A P.length cp) (sR P), B false]] := List.map_append
 have epn : (paR pl ++ [ownR A P.length cp]).length = (paR (pl ++ [((.slice A P.length cp, P, false) : Pth)])).length := by simp
 refine aw_wk (wk_of (K := fun F H => F = [(13, .o 0 0 (paR (pl ++ [((.slice A P.length cp, P, false) : Pth)])).length c1)] ∧ H = [.arr 54 2 c1 (paR (pl ++ [((.slice A P.length cp, P, false) : Pth)]))]) [some 2] (fun _ => [(13, .o 0 0 (paR (pl ++ [((.slice A P.length cp, P, false) : Pth)])).length c1)]) (fun _ => [.arr 54 2 c1 (paR (pl ++ [((.slice A P.length cp, P, false) : Pth)]))]) (by decide) (ZNL hE) (by rw [← epn]; exact ZCF) (by rw [epl]; exact fun _ => .arrz rfl (.last (.cons (.frz (q := 4) rfl (.frz rfl rfl (by rw [List.drop_zero, List.take_of_length_le (by simp)]) (by simp) rfl)) (.cons (.same _) .nil))) .nil) (fun _ => ⟨rfl, rfl⟩)) ?_
 rintro F H ⟨rfl, rfl⟩
 refine WA ?_
 exact aret_f2 [] _ rfl rfl rfl rfl rfl rfl (by rw [List.drop_zero, List.take_of_length_le (Nat.le_refl _)]) rfl rfl (by decide) (ZNK rfl) (fun _ => .nil) (fun q => ⟨q, (pl ++ [((.slice A P.length cp, P, false) : Pth)]), rfl, by rw [List.map_append, List.map_append, hpl]; rfl, rfl⟩)
end Go.Proofs.YtfilfijammemfaaGreatDoor

/- Zigzag, for any cells. -/
-- NEWM
namespace Go.Proofs.YtfilfijammemfaaGreatDoor
open Go Go.RowKit
set_option maxRecDepth 100000
set_option maxHeartbeats 2000000 in
theorem zigzag_v (va : Value) (c : Cel) (q ev ph : Int) (hl : c.rows.length ≤ 1000000000) (hr : ∀ r ∈ c.rows, r.length ≤ 1000000000) : ACalls Tryz.prog 9 [celA va c, .c (I q), .c (I ev), .c (I ph)] [] fun u H => ∃ (v : Value) (pl : List Pth), u = .t [.c (.r v (paR pl)), .c (I (lnF c q ev ph))] ∧ (lnF c q ev ph ≠ 0 → pl = []) ∧ (lnF c q ev ph = 0 → pl.map Prod.snd = (zigF c.st q (linG (grdOf c) q ev ph)).map fun P => (P, false)) ∧ H = [] := by
 obtain ⟨fz, hfz⟩ : ∃ z, lnF c q ev ph = z := ⟨_, rfl⟩
 by_cases hz : lnF c q ev ph ≠ 0
 ·rw [hfz]
  refine acalls_of (N := 93) Tryz.func9 rfl rfl (by simp) fun E hE => ?_
  refine WA ?_
  refine WR ?_
  refine al_ef rfl (ef_call0 false (fun _ => lined_v va c q ev ph hl hr) rfl .fn rfl (by decide) (by kernel_rfl) rfl (fun _ => C0 rfl) (by simp)) ?_
  rintro _ _ ⟨_, _, _, ⟨hu1, hu2, rfl⟩, hF, hH⟩
  rw [hu1 hz, hfz] at hF
  (refine NST hF hH ?_; clear hF hH; rintro rfl rfl)
  refine WE ?_
  rw [hfz] at hz
  refine WA ?_
  refine aw_cond_t rfl ?_
  refine WA ?_
  exact aret_2 [] _ rfl rfl rfl rfl rfl (by decide) (ZNK rfl) (fun _ => .nil) ⟨.slice none 0 0, [], rfl, fun _ => rfl, fun e => absurd e hz, rfl⟩
 ·obtain rfl : fz = 0 := by rw [← hfz]; simpa using hz
  have hcf : celF c = 0 := Classical.byContradiction fun e => by rw [lnF, if_pos e] at hfz; exact e hfz
  have hc := celF_0.1 hcf
  have hlb := lin_len hc q ev ph
  have hbd := fun l h => @lin_bd (grdOf c) (grdOf_ok hc) q ev ph l h
  rw [hfz]
  have hs := @linG_le (grdOf c) q ev ph
  have h1 := rnz_bd (l := linG (grdOf c) q ev ph) (by omega) (fun y hy => hbd y hy)
  have h2 : (rnzF (grpF (linG (grdOf c) q ev ph))).length ≤ 100000 := by
   unfold rnzF
   rw [(rnzK_sum (st := 0) (q := 0) (Nat.le_refl _)).2, List.take_length, (grp_len rfl hs).2]
   omega
  refine (zigzag_r va c q ev ph hc hfz (rnzF (grpF (linG (grdOf c) q ev ph))) h2 h1 (fun v => runs_v v _ hs (by omega))).mono ?_
  rintro u H ⟨v, pl, hu, hpl, hH⟩
  exact ⟨v, pl, hu, fun e => absurd rfl e, fun _ => hpl, hH⟩
theorem ln_bd {c : Cel} {q ev ph : Int} {pl : List Pth} (h1 : lnF c q ev ph ≠ 0 → pl = []) (h2 : lnF c q ev ph = 0 → pl.map Prod.snd = (linG (grdOf c) q ev ph).map fun l => (ptsL c.st q l, false)) : pl.length ≤ 1000000000 ∧ ∀ p ∈ pl, p.2.1.length ≤ 1000000000 := by
 by_cases h : lnF c q ev ph = 0
 ·have hcf : celF c = 0 := Classical.byContradiction fun e => by rw [lnF, if_pos e] at h; exact e h
  have hlb := lin_len (celF_0.1 hcf) q ev ph
  have h3 := h2 h
  refine ⟨by have := congrArg List.length h3; simp at this; omega, fun p hp => ?_⟩
  have h4 : p.2 ∈ pl.map Prod.snd := List.mem_map_of_mem hp
  rw [h3] at h4
  obtain ⟨l, _, hl⟩ := List.mem_map.1 h4
  rw [← hl]
  simp only
  unfold ptsL; split <;> simp
 ·rw [h1 h]; exact ⟨Nat.zero_le _, fun p hp => by cases hp⟩
theorem pts_sum {st q : Int} : ∀ l : List Lin, (l.map fun x => (ptsL st q x).length).sum ≤ 2 * l.length
 | [] => Nat.le_refl _
 | x :: l => by
  have := pts_sum (st := st) (q := q) l
  have h2 : (ptsL st q x).length ≤ 2 := by unfold ptsL; split <;> simp
  simp only [List.map_cons, List.sum_cons, List.length_cons]
  omega
theorem le_sum_len {l : List (List Spot)} {P : List Spot} (h : P ∈ l) : P.length ≤ (l.map List.length).sum := by
 obtain ⟨A, B, rfl⟩ := List.append_of_mem h
 simp; omega
theorem zg_bd {c : Cel} {q ev ph : Int} {pl : List Pth} (h1 : lnF c q ev ph ≠ 0 → pl = []) (h2 : lnF c q ev ph = 0 → pl.map Prod.snd = (zigF c.st q (linG (grdOf c) q ev ph)).map fun P => (P, false)) : pl.length ≤ 1000000000 ∧ ∀ p ∈ pl, p.2.1.length ≤ 1000000000 := by
 by_cases h : lnF c q ev ph = 0
 ·have hcf : celF c = 0 := Classical.byContradiction fun e => by rw [lnF, if_pos e] at h; exact e h
  have hlb := lin_len (celF_0.1 hcf) q ev ph
  have h3 := h2 h
  obtain ⟨h5, h6⟩ := zig_sum (st := c.st) (q := q) (@linG_le (grdOf c) q ev ph)
  have h7 := pts_sum (st := c.st) (q := q) (linG (grdOf c) q ev ph)
  refine ⟨by have := congrArg List.length h3; simp at this; omega, fun p hp => ?_⟩
  have h4 : p.2 ∈ pl.map Prod.snd := List.mem_map_of_mem hp
  rw [h3] at h4
  obtain ⟨P, hP, hl⟩ := List.mem_map.1 h4
  have h8 := le_sum_len hP
  rw [← hl]
  simp only
  omega
 ·rw [h1 h]; exact ⟨Nat.zero_le _, fun p hp => by cases hp⟩
theorem ln_right {c : Cel} {q ev ph : Int} (h : lnF c q ev ph = 0) : RCel c ∧ 1 ≤ ev ∧ (-1000000 ≤ ph ∧ ph ≤ 1000000) := by
 have hcf : celF c = 0 := Classical.byContradiction fun e => by rw [lnF, if_pos e] at h; exact e h
 unfold lnF at h
 rw [if_neg (by simpa using hcf)] at h
 split at h
 ·cases h
 split at h
 ·cases h
 ·rename_i h2
  unfold outB at h2
  simp at h2
  exact ⟨celF_0.1 hcf, by omega, by omega⟩
end Go.Proofs.YtfilfijammemfaaGreatDoor

/- copy into an array of the call's own. -/
namespace Go.Proofs.YtfilfijammemfaaGreatDoor
open Go Go.RowKit
section
variable {P : Program} {N : Nat} {E : Env} {F : Fm} {H : List OB} {o : Oper} {S : Nat → Prop} {ρ : List (Option Nat)} {a : Act} {w : World}
end
end Go.Proofs.YtfilfijammemfaaGreatDoor

/- append of zeros to no rows, where there is no room; slices.overlaps of two blocks of the call's own. -/
namespace Go.Proofs.YtfilfijammemfaaGreatDoor
open Go Go.RowKit
section
variable {P : Program} {N : Nat} {E : Env} {F : Fm} {H : List OB} {o : Oper} {S : Nat → Prop} {ρ : List (Option Nat)} {a : Act} {w : World}
end
end Go.Proofs.YtfilfijammemfaaGreatDoor

/- append of zeros behind some rows, where there is no room. -/
namespace Go.Proofs.YtfilfijammemfaaGreatDoor
open Go Go.RowKit
section
variable {P : Program} {N : Nat} {E : Env} {F : Fm} {H : List OB} {o : Oper} {S : Nat → Prop} {ρ : List (Option Nat)} {a : Act} {w : World}
end
end Go.Proofs.YtfilfijammemfaaGreatDoor

/- Texts for the functions of package slices, at any type of elements; what they do to rows. -/
namespace Go.Proofs.YtfilfijammemfaaGreatDoor
open Go Go.RowKit
def OkR (sz : Nat) (R : List (List CV)) : Prop := ∀ row ∈ R, row.length = sz ∧ ∀ u ∈ row, u.one = true
section
variable {β : Type} {r : List β} {y z : β} {i : Nat}
end
end Go.Proofs.YtfilfijammemfaaGreatDoor

/- The lines of one row, by value: IndexFunc and DeleteFunc of the reference's lines, Clone, Reverse. -/
-- NEWM
namespace Go.Proofs.YtfilfijammemfaaGreatDoor
open Go Go.RowKit
set_option maxRecDepth 100000
theorem cloneLn_a (R : List (List CV)) (v : Value) (hR : OkR 3 R) (hl : R.length ≤ 1000000) : ACalls Tryz.prog 56 [.c (.r v R)] [] fun u H => ∃ c : Nat, R.length ≤ c ∧ u = .o 0 0 R.length c ∧ H = [.arr 96 3 c R] := by
 refine acalls_of (N := 8) Tryz.func56 rfl rfl (by simp) fun E hE => ?_
 refine aw_rnil (t := 0) rfl fun hnil => ?_
 refine WA ?_
 refine WA ?_
 refine aw_cond rfl (fun h => ?_) (fun h => ?_)
 ·obtain rfl : R = [] := hnil h
  refine WA ?_
  exact aret_of (us := [.c (.r (.slice none 0 0) [])]) [none] (fun _ => .o 0 0 0 0) (fun _ => [.arr 96 3 0 []]) (.tmp rfl .nil) (by decide) (ZNK rfl) (fun _ => .nil rfl) ZCH (fun _ => ⟨0, by simp, rfl, rfl⟩)
 ·refine ZZ ?_
  refine WR ?_
  refine al_ef rfl (Zapp (hE := KA (t := 93) rfl) (hsrc := .ro (fun r h => (hR r h).1) (fun r h => (hR r h).2))) ?_
  rintro _ _ ⟨_, cc, hcc, rfl, rfl⟩
  refine WE ?_
  exact aret_o [some 0] (fun _ => [.arr 96 3 cc R]) rfl rfl rfl (by simp) rfl (by decide) (ZNK rfl) ZCH (fun _ => ⟨cc, by omega, rfl, rfl⟩)
theorem revLn_a (l : List Lin) (c : Nat) (hl : l.length ≤ 1000000) (hc : l.length ≤ c) : ACallsX true Tryz.prog 58 [.o 0 0 l.length c] [.arr 96 3 c (l.map (fun p : Lin => [I p.1, I p.2.1, I p.2.2]))] fun u H => u = .t [] ∧ H = [.arr 96 3 c (l.reverse.map (fun p : Lin => [I p.1, I p.2.1, I p.2.2]))] := by
 refine acallsx_of true (N := 28) Tryz.func58 rfl rfl (by simp) fun E hE hP => ?_
 refine WA ?_
 refine aw_loopw (fun q F H => ∃ (k : Nat) (j : Int) (l' : List Lin), q + k = l.length ∧ j = (l.length : Int) - 1 - k ∧ k ≤ l.length ∧ SwK l k l' ∧ F = [(0, .o 0 0 l.length c), (2, .c (I k)), (3, .c (I j))] ∧ H = [.arr 96 3 c (l'.map (fun p : Lin => [I p.1, I p.2.1, I p.2.2]))]) ?_ ?_
 ·refine wk_of [some 0] (fun _ => [(0, .o 0 0 l.length c), (2, .c (I (0 : Nat))), (3, .c (I ((l.length : Int) - 1)))]) (fun _ => _) (by decide) (ZNL hE) ZCF ZCH (fun _ => ?_)
  exact ⟨l.length, 0, _, l, by omega, by omega, by omega, .zero l, rfl, rfl⟩
 rintro q F H ⟨k, j, l', hq, hj, hkl, hS, rfl, rfl⟩
 refine WA ?_
 refine aw_if rfl (fun hlt => ?_) (fun hge => ?_)
 ·obtain ⟨j', rfl⟩ : ∃ j' : Nat, j = j' := ⟨j.toNat, by omega⟩
  have hl1 := hS.1
  obtain ⟨x, hx⟩ : ∃ x, l'[k]? = some x := ⟨_, List.getElem?_eq_getElem (by omega)⟩
  obtain ⟨y, hy⟩ : ∃ y, l'[j']? = some y := ⟨_, List.getElem?_eq_getElem (by omega)⟩
  have hrx : (l'.map (fun p : Lin => [I p.1, I p.2.1, I p.2.2]))[k]? = some [I x.1, I x.2.1, I x.2.2] := by rw [List.getElem?_map, hx]; rfl
  have hry : (l'.map (fun p : Lin => [I p.1, I p.2.1, I p.2.2]))[j']? = some [I y.1, I y.2.1, I y.2.2] := by rw [List.getElem?_map, hy]; rfl
  have hry2 : ((l'.map (fun p : Lin => [I p.1, I p.2.1, I p.2.2])).set (0 + k) [I y.1, I y.2.1, I y.2.2])[0 + j']? = some [I y.1, I y.2.1, I y.2.2] := by rw [Nat.zero_add, Nat.zero_add, List.getElem?_set_ne (by omega), hry]
  have hS2 := hS.next (j := j') (by omega) (by omega) hx hy
  have hm : (((l'.set k y).set j' x).map (fun p : Lin => [I p.1, I p.2.1, I p.2.2])) = ((l'.map (fun p : Lin => [I p.1, I p.2.1, I p.2.2])).set (0 + k) [I y.1, I y.2.1, I y.2.2]).set (0 + j') [I x.1, I x.2.1, I x.2.2] := by rw [List.map_set, List.map_set, Nat.zero_add, Nat.zero_add]
  refine ZZ ?_
  refine aw_regionT [(0, none), (1, none), (2, none), (3, none), (4, none), (5, none), (6, none), (7, none), (8, none), (9, none), (10, none), (11, none), (12, none), (13, some [2, 3]), (14, none), (15, some [])] hMixed (by kernel_rfl) ?_
  refine WQ ?_
  refine WA ?_
  refine wk_of [some 0] (fun _ => [(0, .o 0 0 l.length c), (2, .c (I (k + 1 : Nat))), (3, .c (I ((j' : Int) - 1)))]) (fun _ => [.arr 96 3 c (((l'.set k y).set j' x).map (fun p : Lin => [I p.1, I p.2.1, I p.2.2]))]) (by decide) (ZNL hE) ZCF (by rw [hm]; exact ZCH) (fun _ => ?_)
  exact ⟨q - 1, by omega, k + 1, _, _, by omega, by omega, by omega, hS2, rfl, rfl⟩
 refine ZZ ?_
 have he : l' = l.reverse := hS.fin (by omega)
 subst he
 refine aret_0 [some 0] (fun _ => [.arr 96 3 c (l.reverse.map (fun p : Lin => [I p.1, I p.2.1, I p.2.2]))]) (by simp) rfl (by decide) (ZNK rfl) ZCH (fun _ => ⟨rfl, rfl⟩)
theorem zz1_v (r a b row : Int) : ACalls Tryz.prog 57 [.a [.c (I r), .c (I a), .c (I b)], .p 0 0 0] [.box [.c (I row)]] fun u H => u = .c (B (decide (r ≠ row))) ∧ H = [.box [.c (I row)]] := by
 refine acalls_of (N := 8) Tryz.func57 rfl rfl (by simp) fun E hE => ?_
 refine WA ?_
 refine WA ?_
 exact aret_1 [some 0] [.box [.c (I row)]] rfl rfl rfl (by decide) (ZNK rfl) ZCH ⟨rfl, rfl⟩
set_option maxHeartbeats 2000000 in
theorem idxLn_v (l : List Lin) (c : Nat) (row : Int) (hl : l.length ≤ 1000000) : ACallsX true Tryz.prog 101 [.o 0 0 l.length c, .f (.func 57) [.p 1 0 0]] [.arr 96 3 c (lnR l), .box [.c (I row)]] fun u H => ∃ k : Nat, u = .c (I (if k < l.length then (k : Int) else -1)) ∧ H = [.arr 96 3 c (lnR l), .box [.c (I row)]] ∧ k ≤ l.length ∧ (∀ x ∈ l.take k, x.1 = row) ∧ (∀ x, l[k]? = some x → x.1 ≠ row) := by
 refine acallsx_of true (N := 19) Tryz.func101 rfl rfl (by simp) fun E hE hP => ?_
 refine WA ?_
 refine WA ?_
 refine aw_loopw (fun m F H => ∃ (k : Nat), m + k = l.length ∧ (∀ x ∈ l.take k, x.1 = row) ∧ F = [(0, .o 0 0 l.length c), (1, .f (.func 57) [.p 1 0 0]), (7, .c (I l.length)), (8, .c (I k))] ∧ H = [.arr 96 3 c (lnR l), .box [.c (I row)]]) ?_ ?_
 ·refine wk_of [some 0, some 1] (fun _ => [(0, .o 0 0 l.length c), (1, .f (.func 57) [.p 1 0 0]), (7, .c (I l.length)), (8, .c (I (0 : Nat)))]) (fun _ => [.arr 96 3 c (lnR l), .box [.c (I row)]]) (by decide) (ZNL hE) ZCF ZCH (fun _ => ?_)
  exact ⟨l.length, 0, by omega, fun x hx => (by rw [List.take_zero] at hx; cases hx), rfl, rfl⟩
 rintro m F H ⟨k, hk, hf, rfl, rfl⟩
 refine WA ?_
 refine aw_if rfl (fun hlt => ?_) (fun hge => ?_)
 ·obtain ⟨⟨r, x, y⟩, hz⟩ : ∃ x, l[k]? = some x := ⟨_, List.getElem?_eq_getElem (by omega)⟩
  have hrow : (lnR l)[0 + k]? = some [I r, I x, I y] := by rw [Nat.zero_add, List.getElem?_map, hz]; rfl
  obtain ⟨bb, hbb⟩ : ∃ b, decide (r ≠ row) = b := ⟨_, rfl⟩
  refine WA ?_
  refine WR ?_
  refine al_ef rfl (ef_call [1] (fun _ => [.box [.c (I row)]]) false (fun _ => zz1_v r x y row) rfl (.clo rfl) rfl (by decide) (by kernel_rfl) rfl ZCH (by decide) ZCH (by simp)) ?_
  rintro F1 H1 ⟨_, _, _, _, ⟨rfl, rfl⟩, hF, hH⟩
  rw [hbb] at hF
  (refine NSU hF hH ?_; clear hF hH; rintro rfl rfl)
  refine WE ?_
  cases bb with
  | true =>
   refine aw_cond_t rfl ?_
   refine WA ?_
   exact aret_1 [some 0, some 1] [.arr 96 3 c (lnR l), .box [.c (I row)]] rfl rfl rfl (by decide) (ZNK rfl) ZCH ⟨k, by rw [if_pos (by omega)], rfl, by omega, hf, fun z hz2 => by rw [hz] at hz2; injection hz2 with e; rw [← e]; exact of_decide_eq_true hbb⟩
  | false =>
   have hre : r = row := by simpa using hbb
   refine aw_cond_f rfl ?_
   refine ZZ ?_
   refine WA ?_
   refine wk_of [some 0, some 1] (fun _ => [(0, .o 0 0 l.length c), (1, .f (.func 57) [.p 1 0 0]), (7, .c (I l.length)), (8, .c (I (k + 1 : Nat)))]) (fun _ => [.arr 96 3 c (lnR l), .box [.c (I row)]]) (by decide) (ZNL hE) ZCF ZCH (fun _ => ?_)
   refine ⟨m - 1, by omega, k + 1, by omega, fun z hz2 => ?_, rfl, rfl⟩
   rw [List.take_add_one, hz, List.mem_append] at hz2
   rcases hz2 with h | h
   ·exact hf z h
   ·have : z = (r, x, y) := by simpa using h
    rw [this]; exact hre
 obtain rfl : k = l.length := by omega
 refine ZZ ?_
 refine WA ?_
 exact aret_1 [some 0, some 1] [.arr 96 3 c (lnR l), .box [.c (I row)]] rfl rfl rfl (by decide) (ZNK rfl) ZCH ⟨l.length, by rw [if_neg (by omega)], rfl, Nat.le_refl _, hf, fun z hz2 => by rw [List.getElem?_eq_none (Nat.le_refl _)] at hz2; cases hz2⟩
end Go.Proofs.YtfilfijammemfaaGreatDoor
