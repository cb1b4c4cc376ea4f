/- Lines with every 1 lead through all cells: plain. -/
import Derived.Test.YtfilfijammemfaaGreatDoorQbl
import Derived.Test.YtfilfijammemfaaGreatDoorQbn
import Derived.Test.YtfilfijammemfaaGreatDoorQbb
import Derived.Test.YtfilfijammemfaaGreatDoorQbc
import Derived.Test.YtfilfijammemfaaGreatDoorQbh
set_option linter.unusedSimpArgs false
set_option linter.unusedVariables false
-- NEWM
namespace Go.Proofs.YtfilfijammemfaaGreatDoor
open Go Go.RowKit
set_option maxRecDepth 100000
abbrev runB (p r a b : Int) : OB := .box [.c (I p), .c (I r), .c (I a), .c (I b)]
set_option maxHeartbeats 8000000 in
theorem zigzag_r (va : Value) (c : Cel) (q ev ph : Int) (hc : RCel c) (hfz : lnF c q ev ph = 0) (RL : List RunZ) (hRl : RL.length ≤ 100000) (hRb : ∀ x ∈ RL, (x.1 ≤ 100000) ∧ (-20000000 ≤ x.2.1 ∧ x.2.1 ≤ 20000000) ∧ (-20000000 ≤ x.2.2.1 ∧ x.2.2.1 ≤ 20000000) ∧ (-20000000 ≤ x.2.2.2 ∧ x.2.2.2 ≤ 20000000)) (hrun : ∀ v, ACalls Tryz.prog 38 [.c (.r v (lnR (linG (zc c) q ev ph)))] [] fun u H => ∃ v', u = .c (.r v' (rzR RL)) ∧ H = []) : ACalls Tryz.prog 9 [celA va c, .c (I q), .c (I ev), .c (I ph)] [] fun u H => ∃ (v : Value) (pl : List Pth), u = .t [.c (.r v (paR pl)), .c (I 0)] ∧ pl.map Prod.snd = (zigS c.st q RL).1.map (fun P => (P, false)) ∧ H = [] := by
 have hl : c.rows.length ≤ 1000000000 := by have := hc.h; omega
 have hr : ∀ r ∈ c.rows, r.length ≤ 1000000000 := fun r hr => by have := hc.w; rw [(hc.row r hr).1]; omega
 have hgo := za1 hc
 have hst := hc.st
 have hgs : 0 ≤ (zc c).st ∧ (zc c).st ≤ 10000 := by rw [zQ]; omega
 have hgst := zQ c
 refine ze (N := 93) Tryz.func9 rfl rfl (by simp) fun E hE => ?_
 refine WA ?_
 refine WR ?_
 refine zf rfl (za false (fun _ => lined_v va c q ev ph hl hr) rfl .fn rfl (by decide) (by kernel_rfl) rfl (fun _ => C0 rfl) (by simp)) ?_
 rintro _ _ ⟨_, _, _, ⟨hu1, hu2, rfl⟩, hF, hH⟩
 obtain ⟨gp, gv, lv, hu3⟩ := hu2 hfz
 rw [hu3] at hF
 (refine NST hF hH ?_; clear hF hH; rintro rfl rfl)
 refine WE ?_
 refine WA ?_
 refine zd rfl ?_
 refine ZZ ?_
 refine WA ?_
 refine WA ?_
 refine WR ?_
 refine zf rfl (za false (fun _ => hrun lv) rfl .fn rfl (by decide) (by kernel_rfl) rfl (fun _ => C0 rfl) (by simp)) ?_
 rintro _ _ ⟨_, _, _, ⟨vr, rfl, rfl⟩, hF, hH⟩
 (refine NST hF hH ?_; clear hF hH; rintro rfl rfl)
 refine WE ?_
 have e1 : (rzR RL).length = RL.length := by simp
 have hpl2 : ∀ l : Lin, (ptsL c.st q l).length ≤ 2 := fun l => by unfold ptsL; split <;> simp
 refine zk (fun m F H => (m = RL.length ∧ F = [(10, .p 0 0 0), (13, .o 2 0 0 0), (14, .p 1 0 0), (32, .c (.r vr (rzR RL))), (33, .c (I (rzR RL).length)), (34, .c (I (0 : Nat)))] ∧ H = [linB gp gv (zc c) q, runB 0 0 0 0, .arr 54 2 0 []]) ∨ ∃ (i : Nat) (pl : List Pth) (O : List (List Spot)) (P : List Spot) (A : Option Addr) (cp c1 : Nat) (pp pr pa pb : Int), m + i = RL.length ∧ 1 ≤ i ∧ pl.map Prod.snd = O.map (fun P => (P, false)) ∧ zigS c.st q (RL.take i) = (O ++ [P], pp, pb) ∧ (-1 ≤ pp ∧ pp ≤ 100000) ∧ (-20000000 ≤ pb ∧ pb ≤ 20000000) ∧ P.length ≤ 2 * i ∧ pl.length ≤ i ∧ F = [(10, .p 0 0 0), (13, .o 2 0 (paR pl ++ [ownR A P.length cp]).length c1), (14, .p 1 0 0), (32, .c (.r vr (rzR RL))), (33, .c (I (rzR RL).length)), (34, .c (I i))] ∧ H = [linB gp gv (zc c) q, runB pp pr pa pb, .arr 54 2 c1 (paR pl ++ [ownR A P.length cp]), .arr 107 2 cp (sR P), .eqv (.o 3 0 P.length cp) (.slice A P.length cp)]) ?_ ?_
 ·refine zh [some 1, some 2, none] (fun _ => [(10, .p 0 0 0), (13, .o 2 0 0 0), (14, .p 1 0 0), (32, .c (.r vr (rzR RL))), (33, .c (I (rzR RL).length)), (34, .c (I (0 : Nat)))]) (fun _ => [linB gp gv (zc c) q, runB 0 0 0 0, .arr 54 2 0 []]) (by decide) (ZNL hE) ZCF ZCH (fun _ => ?_)
  exact ⟨RL.length, .inl ⟨rfl, rfl, rfl⟩⟩
 rintro m F H (⟨hm, rfl, rfl⟩ | ⟨i, pl, O, P, A, cp, c1, pp, pr, pa, pb, hm, hi1, hpl, hzg, hpp, hpb, hPl, hpll, rfl, rfl⟩)
 ·refine WA ?_
  refine zl rfl (fun hlt => ?_) (fun hge => ?_)
  ·obtain ⟨⟨xp, xr, xa, xb⟩, hx⟩ : ∃ x, RL[0]? = some x := ⟨_, List.getElem?_eq_getElem (by omega)⟩
   have hrow : (rzR RL)[0]? = some [I xp, I xr, I xa, I xb] := by rw [List.getElem?_map, hx]; rfl
   obtain ⟨hb0, hb1, hb2, hb3⟩ := hRb _ (List.mem_of_getElem? hx)
   simp only at hb0 hb1 hb2 hb3
   have h00 : ¬ (0 : Int) < ((0 : Nat) : Int) := by omega
   have hzs : zigS c.st q (RL.take 1) = ([] ++ [ptsL c.st q (xr, xa, xb)], (xp : Int), xb) := by
    rw [List.take_add_one, hx]; rfl
   refine WA ?_
   refine WR ?_
   refine zf rfl (za false (fun _ => points_o gp gv (zc c) q (xr, xa, xb) hgs hb1 hb2 hb3) rfl .fn rfl (by decide) (by kernel_rfl) rfl (fun _ => C0 rfl) (by simp)) ?_
   rintro _ _ ⟨_, _, _, ⟨cq, rfl, rfl⟩, hF, hH⟩
   rw [hgst] at hF hH
   (refine NSU hF hH ?_; clear hF hH; rintro rfl rfl)
   refine WE ?_
   refine WA ?_
   refine WA ?_
   refine zd rfl ?_
   refine ZZ ?_
   refine aw_ghost (i := 17) rfl fun A2 => ?_
   refine WR ?_
   refine zf rfl (Zapp (KA (t := 33) rfl)) ?_
   rintro _ _ ⟨_, cc, hcc, rfl, rfl⟩
   refine WE ?_
   refine WA ?_
   refine WA ?_
   refine zh [some 0, some 1, some 2, some 4, some 5] (fun _ => [(10, .p 0 0 0), (13, .o 2 0 (paR ([]) ++ [ownR A2 (ptsL c.st q (xr, xa, xb)).length cq]).length cc), (14, .p 1 0 0), (32, .c (.r vr (rzR RL))), (33, .c (I (rzR RL).length)), (34, .c (I (0 + 1 : Nat)))]) (fun _ => [linB gp gv (zc c) q, runB (xp : Int) xr xa xb, .arr 54 2 cc (paR ([]) ++ [ownR A2 (ptsL c.st q (xr, xa, xb)).length cq]), .arr 107 2 cq (sR (ptsL c.st q (xr, xa, xb))), .eqv (.o 3 0 (ptsL c.st q (xr, xa, xb)).length cq) (.slice A2 (ptsL c.st q (xr, xa, xb)).length cq)]) (by decide) (ZNL hE) ZCF ZCG (fun _ => ?_)
   exact ⟨m - 1, by omega, .inr ⟨1, [], [], _, A2, cq, cc, xp, xr, xa, xb, by omega, by omega, rfl, hzs, by omega, by omega, by have := hpl2 (xr, xa, xb); omega, by simp, rfl, rfl⟩⟩
  ·have hRe : RL = [] := List.eq_nil_of_length_eq_zero (by omega)
   subst hRe
   refine ZZ ?_
   refine WA ?_
   exact aret_f2 [] _ rfl rfl rfl rfl rfl rfl rfl rfl rfl (by decide) (ZNK rfl) (fun _ => .nil) (fun q => ⟨q, [], rfl, rfl, rfl⟩)
 have hln : (paR pl ++ [ownR A P.length cp]).length = pl.length + 1 := by simp
 refine WA ?_
 refine zl rfl (fun hlt => ?_) (fun hge => ?_)
 ·obtain ⟨⟨xp, xr, xa, xb⟩, hx⟩ : ∃ x, RL[i]? = some x := ⟨_, List.getElem?_eq_getElem (by omega)⟩
  have hrow : (rzR RL)[i]? = some [I xp, I xr, I xa, I xb] := by rw [List.getElem?_map, hx]; rfl
  obtain ⟨hb0, hb1, hb2, hb3⟩ := hRb _ (List.mem_of_getElem? hx)
  simp only at hb0 hb1 hb2 hb3
  have h00 : (0 : Int) < (i : Int) := by omega
  have htk : RL.take (i + 1) = RL.take i ++ [(xp, xr, xa, xb)] := by rw [List.take_add_one, hx]; rfl
  obtain ⟨bb, hbb⟩ : ∃ b, decide ((xp : Int) = pp + 1 ∧ -1 ≤ xa - pb ∧ xa - pb ≤ 1) = b := ⟨_, rfl⟩
  have hzs : zigS c.st q (RL.take (i + 1)) = (if bb = true then O ++ [P ++ ptsL c.st q (xr, xa, xb)] else (O ++ [P]) ++ [ptsL c.st q (xr, xa, xb)], (xp : Int), xb) := by
   rw [htk, zigS_snoc, hzg]
   unfold zigE
   simp only [List.dropLast_concat, List.getLastD_concat]
   by_cases h : (xp : Int) = pp + 1 ∧ -1 ≤ xa - pb ∧ xa - pb ≤ 1
   ·rw [decide_eq_true h] at hbb
    rw [← hbb, if_pos ⟨by simp, h⟩, if_pos rfl]
   ·rw [decide_eq_false h] at hbb
    rw [← hbb, if_neg (fun hh => h hh.2), if_neg (by simp)]
  refine WA ?_
  refine WR ?_
  refine zf rfl (za false (fun _ => points_o gp gv (zc c) q (xr, xa, xb) hgs hb1 hb2 hb3) rfl .fn rfl (by decide) (by kernel_rfl) rfl (fun _ => C0 rfl) (by simp)) ?_
  rintro _ _ ⟨_, _, _, ⟨cq, rfl, rfl⟩, hF, hH⟩
  rw [hgst] at hF hH
  (refine NSU hF hH ?_; clear hF hH; rintro rfl rfl)
  refine WE ?_
  refine WA ?_
  refine aw_cut (fun F H => F = [(10, .p 0 0 0), (13, .o 2 0 (paR pl ++ [ownR A P.length cp]).length c1), (14, .p 1 0 0), (16, .p 5 0 0), (17, .o 6 0 (ptsL c.st q (xr, xa, xb)).length cq), (32, .c (.r vr (rzR RL))), (33, .c (I (rzR RL).length)), (34, .c (I i)), (69, .c (B bb))] ∧ H = [linB gp gv (zc c) q, runB pp pr pa pb, .arr 54 2 c1 (paR pl ++ [ownR A P.length cp]), .arr 107 2 cp (sR P), .eqv (.o 3 0 P.length cp) (.slice A P.length cp), .box [.c (I xp), .c (I xr), .c (I xa), .c (I xb)], .arr 107 2 cq (sR (ptsL c.st q (xr, xa, xb)))]) ?_ ?_ wk_aw
  ·by_cases k1 : (xp : Int) = pp + 1
   ·by_cases k2 : -1 ≤ xa - pb
    ·by_cases k3 : xa - pb ≤ 1
     ·obtain rfl : bb = true := by rw [← hbb]; simp [k1, k2, k3]
      refine WA ?_
      exact zh [some 0, some 1, some 2, some 3, some 4, some 5, some 6] (fun _ => [(10, .p 0 0 0), (13, .o 2 0 (paR pl ++ [ownR A P.length cp]).length c1), (14, .p 1 0 0), (16, .p 5 0 0), (17, .o 6 0 (ptsL c.st q (xr, xa, xb)).length cq), (32, .c (.r vr (rzR RL))), (33, .c (I (rzR RL).length)), (34, .c (I i)), (69, .c (B true))]) (fun _ => [linB gp gv (zc c) q, runB pp pr pa pb, .arr 54 2 c1 (paR pl ++ [ownR A P.length cp]), .arr 107 2 cp (sR P), .eqv (.o 3 0 P.length cp) (.slice A P.length cp), .box [.c (I xp), .c (I xr), .c (I xa), .c (I xb)], .arr 107 2 cq (sR (ptsL c.st q (xr, xa, xb)))]) (by decide) (ZNL hE) ZCF ZCG (fun _ => ⟨rfl, rfl⟩)
     ·obtain rfl : bb = false := by rw [← hbb]; simp [k3]
      refine WA ?_
      exact zh [some 0, some 1, some 2, some 3, some 4, some 5, some 6] (fun _ => [(10, .p 0 0 0), (13, .o 2 0 (paR pl ++ [ownR A P.length cp]).length c1), (14, .p 1 0 0), (16, .p 5 0 0), (17, .o 6 0 (ptsL c.st q (xr, xa, xb)).length cq), (32, .c (.r vr (rzR RL))), (33, .c (I (rzR RL).length)), (34, .c (I i)), (69, .c (B false))]) (fun _ => [linB gp gv (zc c) q, runB pp pr pa pb, .arr 54 2 c1 (paR pl ++ [ownR A P.length cp]), .arr 107 2 cp (sR P), .eqv (.o 3 0 P.length cp) (.slice A P.length cp), .box [.c (I xp), .c (I xr), .c (I xa), .c (I xb)], .arr 107 2 cq (sR (ptsL c.st q (xr, xa, xb)))]) (by decide) (ZNL hE) ZCF ZCG (fun _ => ⟨rfl, rfl⟩)
    ·obtain rfl : bb = false := by rw [← hbb]; simp [k2]
     refine WA ?_
     exact zh [some 0, some 1, some 2, some 3, some 4, some 5, some 6] (fun _ => [(10, .p 0 0 0), (13, .o 2 0 (paR pl ++ [ownR A P.length cp]).length c1), (14, .p 1 0 0), (16, .p 5 0 0), (17, .o 6 0 (ptsL c.st q (xr, xa, xb)).length cq), (32, .c (.r vr (rzR RL))), (33, .c (I (rzR RL).length)), (34, .c (I i)), (69, .c (B false))]) (fun _ => [linB gp gv (zc c) q, runB pp pr pa pb, .arr 54 2 c1 (paR pl ++ [ownR A P.length cp]), .arr 107 2 cp (sR P), .eqv (.o 3 0 P.length cp) (.slice A P.length cp), .box [.c (I xp), .c (I xr), .c (I xa), .c (I xb)], .arr 107 2 cq (sR (ptsL c.st q (xr, xa, xb)))]) (by decide) (ZNL hE) ZCF ZCG (fun _ => ⟨rfl, rfl⟩)
   ·obtain rfl : bb = false := by rw [← hbb]; simp [k1]
    refine WA ?_
    exact zh [some 0, some 1, some 2, some 3, some 4, some 5, some 6] (fun _ => [(10, .p 0 0 0), (13, .o 2 0 (paR pl ++ [ownR A P.length cp]).length c1), (14, .p 1 0 0), (16, .p 5 0 0), (17, .o 6 0 (ptsL c.st q (xr, xa, xb)).length cq), (32, .c (.r vr (rzR RL))), (33, .c (I (rzR RL).length)), (34, .c (I i)), (69, .c (B false))]) (fun _ => [linB gp gv (zc c) q, runB pp pr pa pb, .arr 54 2 c1 (paR pl ++ [ownR A P.length cp]), .arr 107 2 cp (sR P), .eqv (.o 3 0 P.length cp) (.slice A P.length cp), .box [.c (I xp), .c (I xr), .c (I xa), .c (I xb)], .arr 107 2 cq (sR (ptsL c.st q (xr, xa, xb)))]) (by decide) (ZNL hE) ZCF ZCG (fun _ => ⟨rfl, rfl⟩)
  rintro F H ⟨rfl, rfl⟩
  refine ZZ ?_
  have hp2 := hpl2 (xr, xa, xb)
  cases bb with
  | true =>
   rw [if_pos rfl] at hzs
   refine zb rfl ?_
   have hlr : (paR pl ++ [ownR A P.length cp])[0 + pl.length]? = some (ownR A P.length cp) := by
    rw [Nat.zero_add, List.getElem?_append_right (by simp)]; simp
   have hls : (sR P).length = P.length := by simp
   have hlq : (sR (ptsL c.st q (xr, xa, xb))).length = (ptsL c.st q (xr, xa, xb)).length := by simp
   have hset : ∀ r : List CV, (paR pl ++ [ownR A P.length cp]).set (0 + pl.length) r = paR pl ++ [r] := fun r => by
    rw [Nat.zero_add, List.set_append_right _ _ (by simp)]; simp
   refine ZR ?_
   iterate 8 refine WX1 ?_
   refine ZA (zo1 (i := pl.length) rfl (KE (t := 33) rfl) rfl rfl rfl (by omega) (by omega)) ?_
   refine WO ?_
   first | refine al_thaw (i := 80) (b := 4) rfl rfl ?_ | refine at_thaw (i := 80) (b := 4) rfl rfl ?_ | refine am_thaw (i := 80) (b := 4) rfl rfl ?_
   refine zf rfl (Zapp (news := sR (ptsL c.st q (xr, xa, xb))) (j := (ptsL c.st q (xr, xa, xb)).length) (hE := KA (t := 52) rfl) (hsrc := .own rfl (by rw [List.drop_zero, List.take_of_length_le (by simp)]) (by simp)) (hj := by simp) (hle := by omega)) ?_
   rintro _ _ ⟨_, cc, hcc, rfl, rfl⟩
   first | refine al_ghost (i := 82) rfl fun A3 => ?_ | refine at_ghost (i := 82) rfl fun A3 => ?_ | refine am_ghost (i := 82) rfl fun A3 => ?_
   refine ZA (zo1 (i := pl.length) rfl (KE (t := 33) rfl) rfl rfl rfl (by omega) (by omega)) ?_
   refine WE ?_
   all_goals (
    refine WA ?_
    refine WA ?_
    have e7 : (P ++ ptsL c.st q (xr, xa, xb)).length = P.length + (ptsL c.st q (xr, xa, xb)).length := by simp
    have e8 : sR (P ++ ptsL c.st q (xr, xa, xb)) = sR P ++ sR (ptsL c.st q (xr, xa, xb)) := List.map_append
    have e9 : (paR pl ++ [ownR A3 (P ++ ptsL c.st q (xr, xa, xb)).length cc]).length = (paR pl ++ [ownR A P.length cp]).length := by simp
    refine zh [some 0, some 1, some 2, some 3, some 7] (fun _ => [(10, .p 0 0 0), (13, .o 2 0 (paR pl ++ [ownR A3 (P ++ ptsL c.st q (xr, xa, xb)).length cc]).length c1), (14, .p 1 0 0), (32, .c (.r vr (rzR RL))), (33, .c (I (rzR RL).length)), (34, .c (I (i + 1 : Nat)))]) (fun _ => [linB gp gv (zc c) q, runB (xp : Int) xr xa xb, .arr 54 2 c1 (paR pl ++ [ownR A3 (P ++ ptsL c.st q (xr, xa, xb)).length cc]), .arr 107 2 cc (sR (P ++ ptsL c.st q (xr, xa, xb))), .eqv (.o 3 0 (P ++ ptsL c.st q (xr, xa, xb)).length cc) (.slice A3 (P ++ ptsL c.st q (xr, xa, xb)).length cc)]) (by decide) (ZNL hE) (by rw [e9]; exact ZCF) (by rw [e8, e7, ← hset]; exact ZCG) (fun _ => ?_)
    exact ⟨m - 1, by omega, .inr ⟨i + 1, pl, O, P ++ ptsL c.st q (xr, xa, xb), A3, cc, c1, xp, xr, xa, xb, by omega, by omega, hpl, hzs, by omega, by omega, by omega, by omega, rfl, rfl⟩⟩)
  | false =>
   rw [if_neg (by simp)] at hzs
   refine zd rfl ?_
   refine ZZ ?_
   have epl : paR (pl ++ [((.slice A P.length cp, P, false) : Pth)]) = paR pl ++ [[.r (.slice A P.length cp) (sR P), B false]] := List.map_append
   have epn : (paR pl ++ [ownR A P.length cp]).length = (paR (pl ++ [((.slice A P.length cp, P, false) : Pth)])).length := by simp
   refine zC1 (zh (K := fun F H => F = [(10, .p 0 0 0), (13, .o 2 0 (paR (pl ++ [((.slice A P.length cp, P, false) : Pth)])).length c1), (14, .p 1 0 0), (16, .p 3 0 0), (17, .o 4 0 (ptsL c.st q (xr, xa, xb)).length cq), (32, .c (.r vr (rzR RL))), (33, .c (I (rzR RL).length)), (34, .c (I i))] ∧ H = [linB gp gv (zc c) q, runB pp pr pa pb, .arr 54 2 c1 (paR (pl ++ [((.slice A P.length cp, P, false) : Pth)])), .box [.c (I xp), .c (I xr), .c (I xa), .c (I xb)], .arr 107 2 cq (sR (ptsL c.st q (xr, xa, xb)))]) [some 0, some 1, some 2, some 5, some 6] (fun _ => [(10, .p 0 0 0), (13, .o 2 0 (paR (pl ++ [((.slice A P.length cp, P, false) : Pth)])).length c1), (14, .p 1 0 0), (16, .p 3 0 0), (17, .o 4 0 (ptsL c.st q (xr, xa, xb)).length cq), (32, .c (.r vr (rzR RL))), (33, .c (I (rzR RL).length)), (34, .c (I i))]) (fun _ => [linB gp gv (zc c) q, runB pp pr pa pb, .arr 54 2 c1 (paR (pl ++ [((.slice A P.length cp, P, false) : Pth)])), .box [.c (I xp), .c (I xr), .c (I xa), .c (I xb)], .arr 107 2 cq (sR (ptsL c.st q (xr, xa, xb)))]) (by decide) (ZNL hE) (by rw [← epn]; exact ZCF) (by rw [epl]; exact fun _ => .box rfl (C0 rfl) (.box rfl (C0 rfl) (.arrz rfl (.last (.cons (.frz (q := 4) rfl (.frz rfl rfl (by rw [List.drop_zero, List.take_of_length_le (by simp)]) (by simp) rfl)) (.cons (.same _) .nil))) (.box rfl (C0 rfl) (.arr rfl rfl .nil))))) (fun _ => ⟨rfl, rfl⟩)) ?_
   rintro F H ⟨rfl, rfl⟩
   have elm : (paR (pl ++ [((.slice A P.length cp, P, false) : Pth)])).length ≤ 1000000 := by simp; omega
   refine aw_ghost (i := 17) rfl fun A2 => ?_
   refine WR ?_
   refine zf rfl (Zapp (KA (t := 33) rfl)) ?_
   rintro _ _ ⟨_, cc, hcc, rfl, rfl⟩
   refine WE ?_
   refine WA ?_
   refine WA ?_
   refine zh [some 0, some 1, some 2, some 4, some 5] (fun _ => [(10, .p 0 0 0), (13, .o 2 0 (paR (pl ++ [((.slice A P.length cp, P, false) : Pth)]) ++ [ownR A2 (ptsL c.st q (xr, xa, xb)).length cq]).length cc), (14, .p 1 0 0), (32, .c (.r vr (rzR RL))), (33, .c (I (rzR RL).length)), (34, .c (I (i + 1 : Nat)))]) (fun _ => [linB gp gv (zc c) q, runB (xp : Int) xr xa xb, .arr 54 2 cc (paR (pl ++ [((.slice A P.length cp, P, false) : Pth)]) ++ [ownR A2 (ptsL c.st q (xr, xa, xb)).length cq]), .arr 107 2 cq (sR (ptsL c.st q (xr, xa, xb))), .eqv (.o 3 0 (ptsL c.st q (xr, xa, xb)).length cq) (.slice A2 (ptsL c.st q (xr, xa, xb)).length cq)]) (by decide) (ZNL hE) ZCF ZCG (fun _ => ?_)
   exact ⟨m - 1, by omega, .inr ⟨i + 1, pl ++ [((.slice A P.length cp, P, false) : Pth)], O ++ [P], _, A2, cq, cc, xp, xr, xa, xb, by omega, by omega, by rw [List.map_append, List.map_append, hpl]; rfl, hzs, by omega, by omega, by omega, by simp; omega, rfl, rfl⟩⟩
 obtain rfl : i = RL.length := by omega
 rw [List.take_length] at hzg
 rw [hzg]
 refine ZZ ?_
 have epl : paR (pl ++ [((.slice A P.length cp, P, false) : Pth)]) = paR pl ++ [[.r (.slice A P.length cp) (sR P), B false]] := List.map_append
 have epn : (paR pl ++ [ownR A P.length cp]).length = (paR (pl ++ [((.slice A P.length cp, P, false) : Pth)])).length := by simp
 refine zC1 (zh (K := fun F H => F = [(13, .o 0 0 (paR (pl ++ [((.slice A P.length cp, P, false) : Pth)])).length c1)] ∧ H = [.arr 54 2 c1 (paR (pl ++ [((.slice A P.length cp, P, false) : Pth)]))]) [some 2] (fun _ => [(13, .o 0 0 (paR (pl ++ [((.slice A P.length cp, P, false) : Pth)])).length c1)]) (fun _ => [.arr 54 2 c1 (paR (pl ++ [((.slice A P.length cp, P, false) : Pth)]))]) (by decide) (ZNL hE) (by rw [← epn]; exact ZCF) (by rw [epl]; exact fun _ => .arrz rfl (.last (.cons (.frz (q := 4) rfl (.frz rfl rfl (by rw [List.drop_zero, List.take_of_length_le (by simp)]) (by simp) rfl)) (.cons (.same _) .nil))) .nil) (fun _ => ⟨rfl, rfl⟩)) ?_
 rintro F H ⟨rfl, rfl⟩
 refine WA ?_
 exact aret_f2 [] _ rfl rfl rfl rfl rfl rfl (by rw [List.drop_zero, List.take_of_length_le (Nat.le_refl _)]) rfl rfl (by decide) (ZNK rfl) (fun _ => .nil) (fun q => ⟨q, (pl ++ [((.slice A P.length cp, P, false) : Pth)]), rfl, by rw [List.map_append, List.map_append, hpl]; rfl, rfl⟩)
end Go.Proofs.YtfilfijammemfaaGreatDoor
-- NEWM
namespace Go.Proofs.YtfilfijammemfaaGreatDoor
open Go Go.RowKit
set_option maxRecDepth 100000
set_option maxHeartbeats 2000000 in
theorem zigzag_v (va : Value) (c : Cel) (q ev ph : Int) (hl : c.rows.length ≤ 1000000000) (hr : ∀ r ∈ c.rows, r.length ≤ 1000000000) : ACalls Tryz.prog 9 [celA va c, .c (I q), .c (I ev), .c (I ph)] [] fun u H => ∃ (v : Value) (pl : List Pth), u = .t [.c (.r v (paR pl)), .c (I (lnF c q ev ph))] ∧ (lnF c q ev ph ≠ 0 → pl = []) ∧ (lnF c q ev ph = 0 → pl.map Prod.snd = (zigF c.st q (linG (zc c) q ev ph)).map fun P => (P, false)) ∧ H = [] := by
 obtain ⟨fz, hfz⟩ : ∃ z, lnF c q ev ph = z := ⟨_, rfl⟩
 by_cases hz : lnF c q ev ph ≠ 0
 ·rw [hfz]
  refine ze (N := 93) Tryz.func9 rfl rfl (by simp) fun E hE => ?_
  refine WA ?_
  refine WR ?_
  refine zf rfl (za false (fun _ => lined_v va c q ev ph hl hr) rfl .fn rfl (by decide) (by kernel_rfl) rfl (fun _ => C0 rfl) (by simp)) ?_
  rintro _ _ ⟨_, _, _, ⟨hu1, hu2, rfl⟩, hF, hH⟩
  rw [hu1 hz, hfz] at hF
  (refine NST hF hH ?_; clear hF hH; rintro rfl rfl)
  refine WE ?_
  rw [hfz] at hz
  refine WA ?_
  refine zb rfl ?_
  refine WA ?_
  exact aret_2 [] _ rfl rfl rfl rfl rfl (by decide) (ZNK rfl) (fun _ => .nil) ⟨.slice none 0 0, [], rfl, fun _ => rfl, fun e => absurd e hz, rfl⟩
 ·obtain rfl : fz = 0 := by rw [← hfz]; simpa using hz
  have hcf : celF c = 0 := Classical.byContradiction fun e => by rw [lnF, if_pos e] at hfz; exact e hfz
  have hc := celF_0.1 hcf
  have hlb := lin_len hc q ev ph
  have hbd := fun l h => @lin_bd (zc c) (za1 hc) q ev ph l h
  rw [hfz]
  have hs := @linG_le (zc c) q ev ph
  have h1 := rnz_bd (l := linG (zc c) q ev ph) (by omega) (fun y hy => hbd y hy)
  have h2 : (rnzF (grpF (linG (zc c) q ev ph))).length ≤ 100000 := by
   unfold rnzF
   rw [(rnzK_sum (st := 0) (q := 0) (Nat.le_refl _)).2, List.take_length, (grp_len rfl hs).2]
   omega
  refine (zigzag_r va c q ev ph hc hfz (rnzF (grpF (linG (zc c) q ev ph))) h2 h1 (fun v => runs_v v _ hs (by omega))).mono ?_
  rintro u H ⟨v, pl, hu, hpl, hH⟩
  exact ⟨v, pl, hu, fun e => absurd rfl e, fun _ => hpl, hH⟩
theorem ln_bd {c : Cel} {q ev ph : Int} {pl : List Pth} (h1 : lnF c q ev ph ≠ 0 → pl = []) (h2 : lnF c q ev ph = 0 → pl.map Prod.snd = (linG (zc c) q ev ph).map fun l => (ptsL c.st q l, false)) : pl.length ≤ 1000000000 ∧ ∀ p ∈ pl, p.2.1.length ≤ 1000000000 := by
 by_cases h : lnF c q ev ph = 0
 ·have hcf : celF c = 0 := Classical.byContradiction fun e => by rw [lnF, if_pos e] at h; exact e h
  have hlb := lin_len (celF_0.1 hcf) q ev ph
  have h3 := h2 h
  refine ⟨by have := congrArg List.length h3; simp at this; omega, fun p hp => ?_⟩
  have h4 : p.2 ∈ pl.map Prod.snd := List.mem_map_of_mem hp
  rw [h3] at h4
  obtain ⟨l, _, hl⟩ := List.mem_map.1 h4
  rw [← hl]
  simp only
  unfold ptsL; split <;> simp
 ·rw [h1 h]; exact ⟨Nat.zero_le _, fun p hp => by cases hp⟩
theorem pts_sum {st q : Int} : ∀ l : List Lin, (l.map fun x => (ptsL st q x).length).sum ≤ 2 * l.length
 | [] => Nat.le_refl _
 | x :: l => by
  have := pts_sum (st := st) (q := q) l
  have h2 : (ptsL st q x).length ≤ 2 := by unfold ptsL; split <;> simp
  simp only [List.map_cons, List.sum_cons, List.length_cons]
  omega
theorem le_sum_len {l : List (List Spot)} {P : List Spot} (h : P ∈ l) : P.length ≤ (l.map List.length).sum := by
 obtain ⟨A, B, rfl⟩ := List.append_of_mem h
 simp; omega
theorem zg_bd {c : Cel} {q ev ph : Int} {pl : List Pth} (h1 : lnF c q ev ph ≠ 0 → pl = []) (h2 : lnF c q ev ph = 0 → pl.map Prod.snd = (zigF c.st q (linG (zc c) q ev ph)).map fun P => (P, false)) : pl.length ≤ 1000000000 ∧ ∀ p ∈ pl, p.2.1.length ≤ 1000000000 := by
 by_cases h : lnF c q ev ph = 0
 ·have hcf : celF c = 0 := Classical.byContradiction fun e => by rw [lnF, if_pos e] at h; exact e h
  have hlb := lin_len (celF_0.1 hcf) q ev ph
  have h3 := h2 h
  obtain ⟨h5, h6⟩ := zig_sum (st := c.st) (q := q) (@linG_le (zc c) q ev ph)
  have h7 := pts_sum (st := c.st) (q := q) (linG (zc c) q ev ph)
  refine ⟨by have := congrArg List.length h3; simp at this; omega, fun p hp => ?_⟩
  have h4 : p.2 ∈ pl.map Prod.snd := List.mem_map_of_mem hp
  rw [h3] at h4
  obtain ⟨P, hP, hl⟩ := List.mem_map.1 h4
  have h8 := le_sum_len hP
  rw [← hl]
  simp only
  omega
 ·rw [h1 h]; exact ⟨Nat.zero_le _, fun p hp => by cases hp⟩
end Go.Proofs.YtfilfijammemfaaGreatDoor
namespace Go.Proofs.YtfilfijammemfaaGreatDoor
theorem run_of {f : Int → Bool} {x0 : Int} {W : Nat} (h0 : f (x0 - 1) = false) : ∀ kc : Nat, kc < W → f (x0 + (kc : Nat)) = true → ∃ k : Nat, k ≤ kc ∧ f (x0 + (k : Nat)) = true ∧ f (x0 + (k : Nat) - 1) = false ∧ ∀ j : Nat, k ≤ j → j ≤ kc → f (x0 + (j : Nat)) = true := by
 intro kc
 induction kc with
 | zero => exact fun _ h => ⟨0, Nat.le_refl _, h, by simpa using h0, fun j h1 h2 => by obtain rfl : j = 0 := (by omega); exact h⟩
 | succ n ih =>
  intro hlt h
  cases hp : f (x0 + (n : Nat)) with
  | false => exact ⟨n + 1, Nat.le_refl _, h, by rw [show x0 + ((n + 1 : Nat) : Int) - 1 = x0 + (n : Nat) by omega]; exact hp, fun j h1 h2 => by obtain rfl : j = n + 1 := (by omega); exact h⟩
  | true =>
   obtain ⟨k, h1, h2, h3, h4⟩ := ih (by omega) hp
   refine ⟨k, by omega, h2, h3, fun j h5 h6 => ?_⟩
   rcases Nat.lt_or_ge n j with h7 | h7
   ·obtain rfl : j = n + 1 := by omega
    exact h
   ·exact h4 j h5 h7
theorem lnC_hit {f : Int → Bool} {r x0 : Int} {W : Nat} (h0 : f (x0 - 1) = false) {kc : Nat} (hk : kc < W) (h : f (x0 + (kc : Nat)) = true) : ∃ t ∈ lnC f r x0 W W, t.1 = r ∧ t.2.1 ≤ x0 + (kc : Nat) ∧ x0 + (kc : Nat) ≤ t.2.2 := by
 obtain ⟨k, h1, h2, h3, h4⟩ := run_of (W := W) h0 kc hk h
 refine ⟨_, lnC_mem.2 ⟨k, by omega, h2, h3, rfl⟩, rfl, by simp only; omega, ?_⟩
 obtain ⟨s1, s2, s3, s4⟩ := @rE_spec f (W - 1 - k) (x0 + (k : Nat))
 simp only
 refine Decidable.byContradiction fun hn => ?_
 have h5 := s4 (by omega)
 obtain ⟨j, hj⟩ : ∃ j : Nat, rE f (W - 1 - k) (x0 + (k : Nat)) + 1 = x0 + (j : Nat) := ⟨(rE f (W - 1 - k) (x0 + (k : Nat)) + 1 - x0).toNat, by omega⟩
 rw [hj, h4 j (by omega) (by omega)] at h5
 cases h5
theorem lin_hit {g : Grd} (hl : g.on.length = g.w * g.h) {q ph : Int} {p : Spot} (hp : p ∈ covG g) : ∃ t ∈ linG g q 1 ph, t.1 = (trQ q p).2 ∧ t.2.1 ≤ (trQ q p).1 ∧ (trQ q p).1 ≤ t.2.2 := by
 have hb := covG_box hl hp
 obtain ⟨⟨b1, b2⟩, b3, b4⟩ := hb
 have hat : atQ g q (trQ q p).2 (trQ q p).1 = true := (atQ_iff hl).2 (by rw [show ((trQ q p).1, (trQ q p).2) = trQ q p from rfl, trQ_tr]; exact hp)
 obtain ⟨i, hi, hr⟩ : ∃ i : Nat, i < hQ g q ∧ (trQ q p).2 = yQ g q + (i : Nat) := by
  unfold trQ hQ yQ
  split
  ·exact ⟨(p.1 - g.x).toNat, by omega, by simp only; omega⟩
  ·exact ⟨(p.2 - g.y).toNat, by omega, by omega⟩
 obtain ⟨k, hk, hc⟩ : ∃ k : Nat, k < wQ g q ∧ (trQ q p).1 = xQ g q + (k : Nat) := by
  unfold trQ wQ xQ
  split
  ·exact ⟨(p.2 - g.y).toNat, by omega, by simp only; omega⟩
  ·exact ⟨(p.1 - g.x).toNat, by omega, by omega⟩
 obtain ⟨t, h1, h2, h3, h4⟩ := lnC_hit (f := atQ g q (yQ g q + (i : Nat))) (r := yQ g q + (i : Nat)) (x0 := xQ g q) (W := wQ g q) (atQ_out (.inl (by omega))) hk (by rw [← hr, ← hc]; exact hat)
 refine ⟨t, lnS_mem.2 ⟨i, hi, by rw [Int.tmod_one], h1⟩, by rw [h2, hr], by omega, by omega⟩
theorem lin_one {g : Grd} {q ph : Int} : linG g q 1 ph = linG g q 1 0 := by
 unfold linG lnS
 simp only [Int.tmod_one]
theorem ctrS_tr {st q : Int} {p : Spot} : ctrS st p = ctr st q (trQ q p).2 (trQ q p).1 := by unfold ctrS ctr trQ; split <;> rfl
theorem pts_led {st q : Int} (hst : 0 ≤ st) {t : Lin} {c : Int} {v : Value} (h1 : t.2.1 ≤ c) (h2 : c ≤ t.2.2) : ledW ⟨v, ptsL st q t, false⟩ (ctr st q t.1 c) := by
 obtain ⟨r, a, b⟩ := t
 simp only at h1 h2 ⊢
 have m1 : a * st ≤ c * st := Int.mul_le_mul_of_nonneg_right h1 hst
 have m2 : c * st ≤ b * st := Int.mul_le_mul_of_nonneg_right h2 hst
 by_cases hne : b ≠ a
 ·have hp : ptsL st q (r, a, b) = [ctr st q r a, ctr st q r b] := if_pos hne
  refine ⟨1, by simp [hp], ?_⟩
  simp only [hp]
  show onS (ctr st q r a) (ctr st q r b) (ctr st q r c)
  unfold onS ctr
  split
  ·simp only
   refine ⟨by simp, by omega, by omega⟩
  ·simp only
   refine ⟨by simp, by omega, by omega⟩
 ·have hp : ptsL st q (r, a, b) = [ctr st q r a] := if_neg hne
  obtain rfl : c = a := by omega
  refine ⟨0, by simp [hp], ?_⟩
  simp only [hp]
  exact onS_fst _ _
theorem cov_lines {c : Cel} (h : NCel c) {q ph : Int} {wl : List Wy} (hw : wl.map (fun w => (w.pts, w.cl)) = (linG (zc c) q 1 ph).map fun l => (ptsL c.st q l, false)) : normC c.st (covT wl c) = (c, 0) := by
 have hst := h.r.st
 have e : covT wl c = covL c := by
  refine List.filter_eq_self.2 fun p hp => ledB_iff.2 ?_
  obtain ⟨t, ht, h1, h2, h3⟩ := lin_hit (grdOf_len h.r) (q := q) (ph := ph) ((zN h.r).2 hp)
  have hm : (ptsL c.st q t, false) ∈ wl.map (fun w => (w.pts, w.cl)) := by rw [hw]; exact List.mem_map_of_mem ht
  obtain ⟨w, hwm, hwe⟩ := List.mem_map.1 hm
  injection hwe with e1 e2
  refine ⟨w, hwm, ?_⟩
  have := pts_led (st := c.st) (q := q) (v := w.w) (by omega) h2 h3
  rw [← e1, ← e2] at this
  rw [ctrS_tr (q := q), ← h1]
  exact this
 rw [e, (normC_ok h fun _ hp => hp).1, celN_self h.r]
theorem cov_lef {c : Cel} (h : NCel c) (wl : List Wy) : normC c.st (covL (celN c.st (covT wl c)) ++ covL (celN c.st (lefT wl c))) = (c, 0) ∧ normC c.st (botL (covL (celN c.st (covT wl c))) (covL (celN c.st (lefT wl c)))) = (⟨c.st, 0, 0, []⟩, 0) := by
 have hst : 0 < c.st := by have := h.r.st; omega
 refine ⟨?_, ?_⟩
 ·rw [normC_is h (S := covL c) (fun _ hp => hp) fun p => ?_, celN_self h.r]
  rw [List.mem_append, covL_celN hst, covL_celN hst]
  constructor
  ·rintro (q | q)
   ·exact (List.mem_filter.1 q).1
   ·exact (List.mem_filter.1 q).1
  ·intro q
   cases hb : ledB wl (ctrS c.st p) with
   | true => exact .inl (List.mem_filter.2 ⟨q, hb⟩)
   | false => exact .inr (List.mem_filter.2 ⟨q, by rw [hb]; rfl⟩)
 ·have e : botL (covL (celN c.st (covT wl c))) (covL (celN c.st (lefT wl c))) = [] := List.eq_nil_iff_forall_not_mem.2 fun p hp => by
   obtain ⟨h1, h2⟩ := List.mem_filter.1 hp
   rw [decide_eq_true_iff, covL_celN hst] at h2
   rw [covL_celN hst] at h1
   have h3 := (List.mem_filter.1 h1).2
   have h4 := (List.mem_filter.1 h2).2
   rw [h3] at h4
   cases h4
  rw [e]; rfl
end Go.Proofs.YtfilfijammemfaaGreatDoor
