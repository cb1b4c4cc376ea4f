/- cmp.Compare of numbers, by value. -/
import Derived.Test.YtfilfijammemfaaGreatDoorQbg
import Derived.Test.YtfilfijammemfaaGreatDoorQbe
import Derived.Test.YtfilfijammemfaaGreatDoorQba
import Derived.Test.YtfilfijammemfaaGreatDoorQbf
import Derived.Test.YtfilfijammemfaaGreatDoorQat
import Derived.Test.YtfilfijammemfaaGreatDoorQaq
set_option linter.unusedSimpArgs false
set_option linter.unusedVariables false
/- The program's Lines, filled, by value. -/
-- NEWM
namespace Go.Proofs.YtfilfijammemfaaGreatDoor
open Go Go.RowKit
set_option maxRecDepth 100000
def lnF (c : Cel) (q ev ph : Int) : Int := if celF c ≠ 0 then celF c else if outB q 0 1 = true then 4 else if (outB ev 1 200 || outB ph (-1000) 1000) = true then 1 else 0
theorem grd_wh {c : Cel} (h : RCel c) (q : Int) : wQ (grdOf c) q ≤ 200 ∧ hQ (grdOf c) q ≤ 200 := by
 have h1 := h.w
 have h2 := h.h
 have h3 : (grdOf c).w ≤ 200 ∧ (grdOf c).h ≤ 200 := by
  unfold grdOf
  split
  ·exact ⟨Nat.zero_le _, Nat.zero_le _⟩
  ·exact ⟨h1, h2⟩
 unfold wQ hQ
 split <;> (constructor <;> omega)
theorem lin_len {c : Cel} (h : RCel c) (q ev ph : Int) : (linG (grdOf c) q ev ph).length ≤ 40000 := by
 obtain ⟨h1, h2⟩ := grd_wh h q
 have := lnS_len (atQ (grdOf c) q) (yQ (grdOf c) q) (xQ (grdOf c) q) (wQ (grdOf c) q) ev ph (hQ (grdOf c) q)
 have h3 : hQ (grdOf c) q * wQ (grdOf c) q ≤ 200 * 200 := Nat.mul_le_mul h2 h1
 unfold linG
 omega
theorem lin_bd {g : Grd} (hg : GOk g) {q ev ph : Int} {l : Lin} (h : l ∈ linG g q ev ph) : (-20000000 ≤ l.1 ∧ l.1 ≤ 20000000) ∧ (-20000000 ≤ l.2.1 ∧ l.2.1 ≤ 20000000) ∧ (-20000000 ≤ l.2.2 ∧ l.2.2 ≤ 20000000) := by
 have hgx := hg.x
 have hgy := hg.y
 have hgw := hg.w
 have hgh := hg.h
 have hYb : -10000000 ≤ yQ g q ∧ yQ g q ≤ 10000000 := by unfold yQ; split <;> omega
 have hXb : -10000000 ≤ xQ g q ∧ xQ g q ≤ 10000000 := by unfold xQ; split <;> omega
 have hWb : wQ g q ≤ 1000 := by unfold wQ; split <;> omega
 have hHb : hQ g q ≤ 1000 := by unfold hQ; split <;> omega
 unfold linG lnS at h
 obtain ⟨i, hi, h2⟩ := List.mem_flatMap.1 h
 rw [List.mem_range] at hi
 split at h2
 ·cases h2
 ·unfold lnC at h2
  obtain ⟨k, hk, rfl⟩ := List.mem_map.1 h2
  have hk2 := List.mem_range.1 (List.mem_filter.1 hk).1
  obtain ⟨s1, s2, _, _⟩ := @rE_spec (atQ g q (yQ g q + (i : Nat))) (wQ g q - 1 - k) (xQ g q + (k : Nat))
  simp only
  omega
set_option maxHeartbeats 2000000 in
theorem lined_v (va : Value) (c : Cel) (q ev ph : Int) (hl : c.rows.length ≤ 1000000000) (hr : ∀ r ∈ c.rows, r.length ≤ 1000000000) : ACalls Tryz.prog 36 [celA va c, .c (I q), .c (I ev), .c (I ph)] [] fun u H => (lnF c q ev ph ≠ 0 → u = .t [.a [.c (.s (.pointer none)), .c (I 0)], .c (.r (.slice none 0 0) []), .c (I (lnF c q ev ph))]) ∧ (lnF c q ev ph = 0 → ∃ gp gv lv, u = .t [linA gp gv (grdOf c) q, .c (.r lv (lnR (linG (grdOf c) q ev ph))), .c (I 0)]) ∧ H = [] := by
 obtain ⟨cf, hcf⟩ : ∃ z, celF c = z := ⟨_, rfl⟩
 obtain ⟨b1, h1⟩ : ∃ z, outB q 0 1 = z := ⟨_, rfl⟩
 obtain ⟨b2, h2⟩ : ∃ z, outB ev 1 200 = z := ⟨_, rfl⟩
 obtain ⟨b3, h3⟩ : ∃ z, outB ph (-1000) 1000 = z := ⟨_, rfl⟩
 have hF0 : lnF c q ev ph = if cf ≠ 0 then cf else if b1 = true then 4 else if (b2 || b3) = true then 1 else 0 := by rw [lnF, hcf, h1, h2, h3]
 rw [hF0]
 refine acalls_of (N := 44) Tryz.func36 rfl rfl (by simp) fun E hE => ?_
 refine WA ?_
 refine WR ?_
 refine al_ef rfl (ef_call0 false (fun _ => check_v va c hl hr) rfl .fn rfl (by decide) (by kernel_rfl) rfl (fun _ => C0 rfl) (by simp)) ?_
 rintro _ _ ⟨_, _, _, ⟨rfl, rfl⟩, hF, hH⟩
 rw [hcf] at hF
 (refine NST hF hH ?_; clear hF hH; rintro rfl rfl)
 refine WE ?_
 refine WA ?_
 refine aw_if rfl (fun hz => ?_) (fun hz => ?_)
 ·rw [if_pos hz]
  refine WA ?_
  exact aret_of (us := [.a [.c (.s (.pointer none)), .c (I 0)], .c (.r (.slice none 0 0) []), .c (I (cf))]) [] (fun _ => .t [.a [.c (.s (.pointer none)), .c (I 0)], .c (.r (.slice none 0 0) []), .c (I (cf))]) (fun _ => []) (.cella (n := 2) rfl (by kernel_rfl) (Cells.box rfl) (by first | (simp; done) | exact Nat.le_refl 2) (by (try simp only [nm, putL, Nat.reduceAdd, cellsOf, cvOf]) <;> rfl) (.tmp rfl (.tmp rfl .nil))) (by decide) (fun i hi => absurd hi (Nat.not_lt_zero i)) (fun _ => cvt_clo _ _ _ _ _ rfl) (fun _ => .nil) (fun _ => ⟨fun _ => rfl, fun e => absurd e (hz), rfl⟩)
 rw [if_neg hz]
 obtain rfl : cf = 0 := by omega
 have hc := celF_0.1 hcf
 refine ZZ ?_
 cases b1 with
 | true =>
  refine WR ?_
  refine al_ef rfl (ef_call0 false (fun _ => out_v _ _ _) rfl .fn rfl (by decide) (by kernel_rfl) rfl (fun _ => C0 rfl) (by simp)) ?_
  rintro _ _ ⟨_, _, _, ⟨rfl, rfl⟩, hF, hH⟩
  rw [h1] at hF
  (refine NST hF hH ?_; clear hF hH; rintro rfl rfl)
  refine WE ?_
  refine aw_cond_t rfl ?_
  refine WA ?_
  exact aret_of (us := [.a [.c (.s (.pointer none)), .c (I 0)], .c (.r (.slice none 0 0) []), .c (I (4))]) [] (fun _ => .t [.a [.c (.s (.pointer none)), .c (I 0)], .c (.r (.slice none 0 0) []), .c (I (4))]) (fun _ => []) (.cella (n := 2) rfl (by kernel_rfl) (Cells.box rfl) (by first | (simp; done) | exact Nat.le_refl 2) (by (try simp only [nm, putL, Nat.reduceAdd, cellsOf, cvOf]) <;> rfl) (.tmp rfl (.tmp rfl .nil))) (by decide) (fun i hi => absurd hi (Nat.not_lt_zero i)) (fun _ => cvt_clo _ _ _ _ _ rfl) (fun _ => .nil) (fun _ => ⟨fun _ => rfl, fun e => absurd e ((by decide : (4 : Int) ≠ 0)), rfl⟩)
 | false =>
 refine WR ?_
 refine al_ef rfl (ef_call0 false (fun _ => out_v _ _ _) rfl .fn rfl (by decide) (by kernel_rfl) rfl (fun _ => C0 rfl) (by simp)) ?_
 rintro _ _ ⟨_, _, _, ⟨rfl, rfl⟩, hF, hH⟩
 rw [h1] at hF
 (refine NST hF hH ?_; clear hF hH; rintro rfl rfl)
 refine WE ?_
 refine aw_cond_f rfl ?_
 refine ZZ ?_
 cases b2 with
 | true =>
  refine WR ?_
  refine al_ef rfl (ef_call0 false (fun _ => out_v _ _ _) rfl .fn rfl (by decide) (by kernel_rfl) rfl (fun _ => C0 rfl) (by simp)) ?_
  rintro _ _ ⟨_, _, _, ⟨rfl, rfl⟩, hF, hH⟩
  rw [h2] at hF
  (refine NST hF hH ?_; clear hF hH; rintro rfl rfl)
  refine WO ?_
  first | refine ZS ?_ | (refine G1 rfl ?_; refine al_ef rfl (ef_call0 false (fun _ => out_v _ _ _) rfl .fn rfl (by decide) (by kernel_rfl) rfl (fun _ => C0 rfl) (by simp)) ?_; rintro _ _ ⟨_, _, _, ⟨rfl, rfl⟩, hF, hH⟩; rw [h3] at hF; (refine NST hF hH ?_; clear hF hH; rintro rfl rfl)) | skip
  refine WE ?_
  refine aw_cond_t rfl ?_
  refine WA ?_
  exact aret_of (us := [.a [.c (.s (.pointer none)), .c (I 0)], .c (.r (.slice none 0 0) []), .c (I (1))]) [] (fun _ => .t [.a [.c (.s (.pointer none)), .c (I 0)], .c (.r (.slice none 0 0) []), .c (I (1))]) (fun _ => []) (.cella (n := 2) rfl (by kernel_rfl) (Cells.box rfl) (by first | (simp; done) | exact Nat.le_refl 2) (by (try simp only [nm, putL, Nat.reduceAdd, cellsOf, cvOf]) <;> rfl) (.tmp rfl (.tmp rfl .nil))) (by decide) (fun i hi => absurd hi (Nat.not_lt_zero i)) (fun _ => cvt_clo _ _ _ _ _ rfl) (fun _ => .nil) (fun _ => ⟨fun _ => rfl, fun e => absurd e ((by decide : (1 : Int) ≠ 0)), rfl⟩)
 | false =>
 cases b3 with
 | true =>
  refine WR ?_
  refine al_ef rfl (ef_call0 false (fun _ => out_v _ _ _) rfl .fn rfl (by decide) (by kernel_rfl) rfl (fun _ => C0 rfl) (by simp)) ?_
  rintro _ _ ⟨_, _, _, ⟨rfl, rfl⟩, hF, hH⟩
  rw [h2] at hF
  (refine NST hF hH ?_; clear hF hH; rintro rfl rfl)
  refine WO ?_
  first | refine ZS ?_ | (refine G1 rfl ?_; refine al_ef rfl (ef_call0 false (fun _ => out_v _ _ _) rfl .fn rfl (by decide) (by kernel_rfl) rfl (fun _ => C0 rfl) (by simp)) ?_; rintro _ _ ⟨_, _, _, ⟨rfl, rfl⟩, hF, hH⟩; rw [h3] at hF; (refine NST hF hH ?_; clear hF hH; rintro rfl rfl)) | skip
  refine WE ?_
  refine aw_cond_t rfl ?_
  refine WA ?_
  exact aret_of (us := [.a [.c (.s (.pointer none)), .c (I 0)], .c (.r (.slice none 0 0) []), .c (I (1))]) [] (fun _ => .t [.a [.c (.s (.pointer none)), .c (I 0)], .c (.r (.slice none 0 0) []), .c (I (1))]) (fun _ => []) (.cella (n := 2) rfl (by kernel_rfl) (Cells.box rfl) (by first | (simp; done) | exact Nat.le_refl 2) (by (try simp only [nm, putL, Nat.reduceAdd, cellsOf, cvOf]) <;> rfl) (.tmp rfl (.tmp rfl .nil))) (by decide) (fun i hi => absurd hi (Nat.not_lt_zero i)) (fun _ => cvt_clo _ _ _ _ _ rfl) (fun _ => .nil) (fun _ => ⟨fun _ => rfl, fun e => absurd e ((by decide : (1 : Int) ≠ 0)), rfl⟩)
 | false =>
 have hev1 : 1 ≤ ev := by simp [outB] at h2; omega
 have hph1 : -1000000 ≤ ph ∧ ph ≤ 1000000 := by simp [outB] at h3; omega
 refine WR ?_
 refine al_ef rfl (ef_call0 false (fun _ => out_v _ _ _) rfl .fn rfl (by decide) (by kernel_rfl) rfl (fun _ => C0 rfl) (by simp)) ?_
 rintro _ _ ⟨_, _, _, ⟨rfl, rfl⟩, hF, hH⟩
 rw [h2] at hF
 (refine NST hF hH ?_; clear hF hH; rintro rfl rfl)
 refine WO ?_
 first | refine ZS ?_ | (refine G1 rfl ?_; refine al_ef rfl (ef_call0 false (fun _ => out_v _ _ _) rfl .fn rfl (by decide) (by kernel_rfl) rfl (fun _ => C0 rfl) (by simp)) ?_; rintro _ _ ⟨_, _, _, ⟨rfl, rfl⟩, hF, hH⟩; rw [h3] at hF; (refine NST hF hH ?_; clear hF hH; rintro rfl rfl)) | skip
 refine WE ?_
 refine aw_cond_f rfl ?_
 refine ZZ ?_
 refine WR ?_
 refine al_ef rfl (ef_call0 false (fun _ => gridof_v va c hc) rfl .fn rfl (by decide) (by kernel_rfl) rfl (fun _ => C0 rfl) (by simp)) ?_
 rintro _ _ ⟨_, _, _, ⟨gp, gv, rfl, rfl⟩, hF, hH⟩
 (refine NST hF hH ?_; clear hF hH; rintro rfl rfl)
 refine WE ?_
 have hlen := lin_len hc q ev ph
 refine WR ?_
 refine al_ef rfl (ef_call0 false (fun _ => llines_v gp gv (grdOf c) q ev ph (grdOf_ok hc) hev1 hph1) rfl .fn rfl (by decide) (by kernel_rfl) rfl (fun _ => C0 rfl) (by simp)) ?_
 rintro _ _ ⟨_, _, _, ⟨lv, rfl, rfl⟩, hF, hH⟩
 (refine NST hF hH ?_; clear hF hH; rintro rfl rfl)
 refine WE ?_
 generalize linG (grdOf c) q ev ph = LL at *
 have e1 : (lnR LL).length = LL.length := by simp
 have hle : ¬ (100000 : Int) < ((lnR LL).length : Int) := by omega
 refine WA ?_
 refine aw_cond_f rfl ?_
 refine ZZ ?_
 refine WA ?_
 exact aret_of (us := [linA gp gv (grdOf c) q, .c (.r lv (lnR LL)), .c (I 0)]) [] (fun _ => .t [linA gp gv (grdOf c) q, .c (.r lv (lnR LL)), .c (I 0)]) (fun _ => []) (.cella (n := 2) rfl (by kernel_rfl) (Cells.box rfl) (by first | (simp; done) | exact Nat.le_refl 2) (by (try simp only [nm, putL, Nat.reduceAdd, cellsOf, cvOf]) <;> rfl) (.tmp rfl (.tmp rfl .nil))) (by decide) (fun i hi => absurd hi (Nat.not_lt_zero i)) (fun _ => cvt_clo _ _ _ _ _ rfl) (fun _ => .nil) (fun _ => ⟨fun e => absurd rfl e, fun _ => ⟨gp, gv, lv, rfl⟩, rfl⟩)
abbrev Pth := Value × List Spot × Bool
abbrev pthR (p : Pth) : List CV := [.r p.1 (sR p.2.1), B p.2.2]
abbrev paR (l : List Pth) : List (List CV) := l.map pthR
set_option maxHeartbeats 2000000 in
theorem lines_v (va : Value) (c : Cel) (q ev ph : Int) (hl : c.rows.length ≤ 1000000000) (hr : ∀ r ∈ c.rows, r.length ≤ 1000000000) : ACalls Tryz.prog 8 [celA va c, .c (I q), .c (I ev), .c (I ph)] [] fun u H => ∃ (v : Value) (pl : List Pth), u = .t [.c (.r v (paR pl)), .c (I (lnF c q ev ph))] ∧ (lnF c q ev ph ≠ 0 → pl = []) ∧ (lnF c q ev ph = 0 → pl.map Prod.snd = (linG (grdOf c) q ev ph).map fun l => (ptsL c.st q l, false)) ∧ H = [] := by
 obtain ⟨fz, hfz⟩ : ∃ z, lnF c q ev ph = z := ⟨_, rfl⟩
 by_cases hz : lnF c q ev ph ≠ 0
 ·rw [hfz]
  refine acalls_of (N := 48) Tryz.func8 rfl rfl (by simp) fun E hE => ?_
  refine WA ?_
  refine WR ?_
  refine al_ef rfl (ef_call0 false (fun _ => lined_v va c q ev ph hl hr) rfl .fn rfl (by decide) (by kernel_rfl) rfl (fun _ => C0 rfl) (by simp)) ?_
  rintro _ _ ⟨_, _, _, ⟨hu1, hu2, rfl⟩, hF, hH⟩
  rw [hu1 hz, hfz] at hF
  (refine NST hF hH ?_; clear hF hH; rintro rfl rfl)
  refine WE ?_
  rw [hfz] at hz
  refine WA ?_
  refine aw_cond_t rfl ?_
  refine WA ?_
  exact aret_2 [] _ rfl rfl rfl rfl rfl (by decide) (ZNK rfl) (fun _ => .nil) ⟨.slice none 0 0, [], rfl, fun _ => rfl, fun e => absurd e hz, rfl⟩
 ·obtain rfl : fz = 0 := by rw [← hfz]; simpa using hz
  have hcf : celF c = 0 := Classical.byContradiction fun e => by rw [lnF, if_pos e] at hfz; exact e hfz
  have hc := celF_0.1 hcf
  have hgo := grdOf_ok hc
  have hst := hc.st
  have hgs : 0 ≤ (grdOf c).st ∧ (grdOf c).st ≤ 10000 := by rw [grdOf_st]; omega
  have hlb := lin_len hc q ev ph
  have hbd := fun l h => @lin_bd (grdOf c) hgo q ev ph l h
  have hgst := grdOf_st c
  rw [hfz]
  refine acalls_of (N := 48) Tryz.func8 rfl rfl (by simp) fun E hE => ?_
  refine WA ?_
  refine WR ?_
  refine al_ef rfl (ef_call0 false (fun _ => lined_v va c q ev ph hl hr) rfl .fn rfl (by decide) (by kernel_rfl) rfl (fun _ => C0 rfl) (by simp)) ?_
  rintro _ _ ⟨_, _, _, ⟨hu1, hu2, rfl⟩, hF, hH⟩
  obtain ⟨gp, gv, lv, hu3⟩ := hu2 hfz
  rw [hu3] at hF
  (refine NST hF hH ?_; clear hF hH; rintro rfl rfl)
  refine WE ?_
  generalize linG (grdOf c) q ev ph = LL at *
  have e1 : (lnR LL).length = LL.length := by simp
  refine WA ?_
  refine aw_cond_f rfl ?_
  refine ZZ ?_
  refine WA ?_
  refine WA ?_
  refine aw_loopw (fun m F H => ∃ (i cp : Nat) (pl : List Pth), m + i = LL.length ∧ pl.map Prod.snd = (LL.take i).map (fun l => (ptsL c.st q l, false)) ∧ F = [(10, .p 0 0 0), (13, .o 1 0 pl.length cp), (28, .c (.r lv (lnR LL))), (29, .c (I (lnR LL).length)), (30, .c (I i))] ∧ H = [linB gp gv (grdOf c) q, .arr 54 2 cp (paR pl)]) ?_ ?_
  ·refine wk_of [some 1, none] (fun _ => [(10, .p 0 0 0), (13, .o 1 0 0 0), (28, .c (.r lv (lnR LL))), (29, .c (I (lnR LL).length)), (30, .c (I (0 : Nat)))]) (fun _ => [linB gp gv (grdOf c) q, .arr 54 2 0 (paR [])]) (by decide) (ZNL hE) ZCF ZCH (fun _ => ?_)
   exact ⟨LL.length, 0, 0, [], by omega, rfl, rfl, rfl⟩
  rintro m F H ⟨i, cp, pl, hi, hpl, rfl, rfl⟩
  have hpll : pl.length = i := by have := congrArg List.length hpl; simp at this; omega
  refine WA ?_
  refine aw_if rfl (fun hlt => ?_) (fun hge => ?_)
  ·obtain ⟨⟨r, a, b⟩, hli⟩ : ∃ e, LL[i]? = some e := ⟨_, List.getElem?_eq_getElem (by omega)⟩
   have hrow : (lnR LL)[i]? = some [I r, I a, I b] := by rw [List.getElem?_map, hli]; rfl
   obtain ⟨hb1, hb2, hb3⟩ := hbd _ (List.mem_of_getElem? hli)
   have htk : LL.take (i + 1) = LL.take i ++ [(r, a, b)] := by rw [List.take_add_one, hli]; rfl
   refine WA ?_
   refine WR ?_
   refine al_ef rfl (ef_call0 false (fun _ => points_v gp gv (grdOf c) q (r, a, b) hgs hb1 hb2 hb3) rfl .fn rfl (by decide) (by kernel_rfl) rfl (fun _ => C0 rfl) (by simp)) ?_
   rintro _ _ ⟨_, _, _, ⟨vp, rfl, rfl⟩, hF, hH⟩
   (refine NST hF hH ?_; clear hF hH; rintro rfl rfl)
   refine WO ?_
   refine al_ef rfl (Zapp (KA (t := 33) rfl)) ?_
   rintro _ _ ⟨_, cc, hcc, rfl, rfl⟩
   refine WE ?_
   refine WA ?_
   refine wk_of [some 0, some 1] (fun _ => [(10, .p 0 0 0), (13, .o 1 0 (pl ++ [((vp, ptsL (grdOf c).st q (r, a, b), false) : Pth)]).length cc), (28, .c (.r lv (lnR LL))), (29, .c (I (lnR LL).length)), (30, .c (I (i + 1 : Nat)))]) (fun _ => [linB gp gv (grdOf c) q, .arr 54 2 cc (paR (pl ++ [((vp, ptsL (grdOf c).st q (r, a, b), false) : Pth)]))]) (by decide) (ZNL hE) ZCF ZCH (fun _ => ?_)
   exact ⟨m - 1, by omega, i + 1, cc, pl ++ [((vp, ptsL (grdOf c).st q (r, a, b), false) : Pth)], by omega, by rw [List.map_append, hpl, htk, List.map_append, hgst]; rfl, rfl, rfl⟩
  obtain rfl : i = LL.length := by omega
  rw [List.take_length] at hpl
  refine ZZ ?_
  refine WA ?_
  exact aret_f2 [] _ rfl rfl rfl rfl rfl rfl (by rw [List.drop_zero, List.take_of_length_le (by simp)]) (by simp) rfl (by decide) (ZNK rfl) (fun _ => .nil) (fun q => ⟨q, pl, rfl, fun e => absurd rfl e, fun _ => hpl, rfl⟩)
def cel2 : Cel := ⟨10, 0, 0, [[35, 35]]⟩
theorem cel2_lin : lnF cel2 0 1 0 = 0 ∧ ((linG (grdOf cel2) 0 1 0).map fun l => (ptsL cel2.st 0 l, false)) = [([(5, 5), (15, 5)], false)] := ⟨by decide +kernel, by decide +kernel⟩
theorem lines2_v (va : Value) : ACalls Tryz.prog 8 [.a [.c (I 10), .c (I 0), .c (I 0), .c (.r va [[T [35, 35]]])], .c (I 0), .c (I 1), .c (I 0)] [] fun u H => ∃ v vp, u = .t [.c (.r v [[.r vp (sR [(5, 5), (15, 5)]), B false]]), .c (I 0)] ∧ H = [] := by
 refine (lines_v va cel2 0 1 0 (by decide) (by decide)).mono fun u H h => ?_
 obtain ⟨v, pl, hu, _, h2, h3⟩ := h
 rw [cel2_lin.1] at hu h2
 rw [cel2_lin.2] at h2
 have h4 := h2 rfl
 match pl, h4 with
 | [(vp, pts, b)], h4 =>
  simp only [List.map_cons, List.map_nil, List.cons.injEq, and_true, Prod.mk.injEq] at h4
  obtain ⟨rfl, rfl⟩ := h4
  exact ⟨v, vp, hu, h3⟩
theorem filled_v : ACalls Tryz.prog 19 [] [] fun u H => u = .c (B true) ∧ H = [] := by
 refine acalls_of (N := 24) Tryz.func19 rfl rfl (by simp) fun E hE => ?_
 refine WA ?_
 refine WR ?_
 refine al_wk (wk_of (K := fun F H => ∃ vz, F = [(5, .a [.c (I 10), .c (I 0), .c (I 0), .c (.r vz [[T [35, 35]]])])] ∧ H = []) [] (fun g => [(5, .a [.c (I 10), .c (I 0), .c (I 0), .c (.r (g (.o 0 0 1 1)) [[T [35, 35]]])])]) (fun _ => []) (by decide) (ZNL hE) (fun _g => .cons rfl (.aL (.cons (.c rfl) (.cons (.c rfl) (.cons (.c rfl) (.cons (.frz rfl rfl rfl rfl rfl) .nil))))) .nil) (fun _ => .nil) (fun _ => ⟨_, rfl, rfl⟩)) ?_
 rintro F H ⟨vz, rfl, rfl⟩
 refine al_ef rfl (ef_call0 false (fun _ => lines2_v vz) rfl .fn rfl (by decide) (by kernel_rfl) rfl (fun _ => C0 rfl) (by simp)) ?_
 rintro _ _ ⟨_, _, _, ⟨v, vp, rfl, rfl⟩, hF, hH⟩
 (refine NST hF hH ?_; clear hF hH; rintro rfl rfl)
 refine WE ?_
 have z0 : (0 : Int) = 0 := rfl
 have z1 : ((([[CV.r vp (sR [(5, 5), (15, 5)]), B false]] : List (List CV)).length : Nat) : Int) = 1 := rfl
 have z2 : (((sR [(5, 5), (15, 5)]).length : Nat) : Int) = 2 := rfl
 have hrow : ([[CV.r vp (sR [(5, 5), (15, 5)]), B false]] : List (List CV))[0]? = some [CV.r vp (sR [(5, 5), (15, 5)]), B false] := rfl
 refine WA ?_
 exact aret_1 [] _ rfl rfl rfl (by decide) (ZNK rfl) (fun _ => .nil) ⟨rfl, rfl⟩
end Go.Proofs.YtfilfijammemfaaGreatDoor

/- The reference's plan, by value: PlanOf. -/
namespace Go.Proofs.YtfilfijammemfaaGreatDoor
open Go Go.RowKit
set_option maxRecDepth 100000
end Go.Proofs.YtfilfijammemfaaGreatDoor

/- Stacks and styles of the stream, by value. -/
-- NEWM
namespace Go.Proofs.YtfilfijammemfaaGreatDoor
open Go Go.RowKit
set_option maxRecDepth 100000
end Go.Proofs.YtfilfijammemfaaGreatDoor

/- Right cells and right stacks of the stream, by value. -/
-- NEWM
namespace Go.Proofs.YtfilfijammemfaaGreatDoor
open Go Go.RowKit
set_option maxRecDepth 100000
end Go.Proofs.YtfilfijammemfaaGreatDoor

/- Walls of near cells; cells of the same step, by value. -/
-- NEWM
namespace Go.Proofs.YtfilfijammemfaaGreatDoor
open Go Go.RowKit
set_option maxRecDepth 100000
end Go.Proofs.YtfilfijammemfaaGreatDoor

/- Whole, by value: the walk over one part's cells. -/
-- NEWM
namespace Go.Proofs.YtfilfijammemfaaGreatDoor
open Go Go.RowKit
set_option maxRecDepth 100000
end Go.Proofs.YtfilfijammemfaaGreatDoor

/- Whole, by value. -/
-- NEWM
namespace Go.Proofs.YtfilfijammemfaaGreatDoor
open Go Go.RowKit
set_option maxRecDepth 100000
end Go.Proofs.YtfilfijammemfaaGreatDoor

/- Fillings are whole: plain. -/
namespace Go.Proofs.YtfilfijammemfaaGreatDoor
end Go.Proofs.YtfilfijammemfaaGreatDoor

/- Counting covered cells: plain. -/
namespace Go.Proofs.YtfilfijammemfaaGreatDoor
theorem hitR_nodup {y : Int} : ∀ {r : List UInt8} {x : Int}, (hitR x y r).Nodup
 | [], _ => by simp [hitR]
 | b :: r, x => by
  have ih := hitR_nodup (y := y) (r := r) (x := x + 1)
  have hm : (x, y) ∉ hitR (x + 1) y r := fun h => by
   obtain ⟨k, _, e⟩ := hitR_mem.1 h
   have := (Prod.mk.inj e).1
   omega
  unfold hitR
  split
  ·exact List.nodup_cons.2 ⟨hm, ih⟩
  ·exact ih
theorem hitC_nodup {x : Int} : ∀ {rs : List (List UInt8)} {y : Int}, (hitC x y rs).Nodup
 | [], _ => by simp [hitC]
 | r :: rs, y => by
  rw [hitC]
  refine List.nodup_append.2 ⟨hitR_nodup, hitC_nodup, fun a ha b hb e => ?_⟩
  subst e
  obtain ⟨k, _, e1⟩ := hitR_mem.1 ha
  obtain ⟨i, k2, r2, _, _, e2⟩ := hitC_mem.1 hb
  rw [e1] at e2
  have := (Prod.mk.inj e2).2
  omega
theorem covL_nodup {c : Cel} : (covL c).Nodup := hitC_nodup
theorem len_mem {A D : List Spot} (h1 : A.Nodup) (h2 : D.Nodup) (h : ∀ p, p ∈ A ↔ p ∈ D) : A.length = D.length := ((List.perm_ext_iff_of_nodup h1 h2).2 h).length_eq
end Go.Proofs.YtfilfijammemfaaGreatDoor

/- Lines in the document's form and of a grid are alike: plain. -/
namespace Go.Proofs.YtfilfijammemfaaGreatDoor
theorem rE_eq {f : Int → Bool} {x : Int} (hx : ∀ j, x ≤ j → f j = false) : ∀ {n m : Nat} {c : Int}, x ≤ c + n + 1 → x ≤ c + m + 1 → rE f n c = rE f m c
 | 0, 0, _, _, _ => rfl
 | 0, m + 1, c, h, _ => by rw [rE, rE, if_neg (by rw [hx (c + 1) (by omega)]; simp)]
 | n + 1, 0, c, _, h => by rw [rE, rE, if_neg (by rw [hx (c + 1) (by omega)]; simp)]
 | n + 1, m + 1, c, h1, h2 => by
  rw [rE, rE]
  split
  ·exact rE_eq hx (by omega) (by omega)
  ·rfl
theorem lnC_mem {f : Int → Bool} {r c0 : Int} {W n : Nat} {t : Lin} : t ∈ lnC f r c0 W n ↔ ∃ k : Nat, k < n ∧ f (c0 + (k : Nat)) = true ∧ f (c0 + (k : Nat) - 1) = false ∧ t = (r, c0 + (k : Nat), rE f (W - 1 - k) (c0 + (k : Nat))) := by
 unfold lnC
 simp only [List.mem_map, List.mem_filter, List.mem_range, Bool.and_eq_true, Bool.not_eq_true']
 constructor
 ·rintro ⟨k, ⟨h1, h2, h3⟩, rfl⟩
  exact ⟨k, h1, h2, h3, rfl⟩
 ·rintro ⟨k, h1, h2, h3, rfl⟩
  exact ⟨k, ⟨h1, h2, h3⟩, rfl⟩
theorem lnS_mem {f : Int → Int → Bool} {y x : Int} {W : Nat} {ev ph : Int} {n : Nat} {t : Lin} : t ∈ lnS f y x W ev ph n ↔ ∃ i : Nat, i < n ∧ ((y + (i : Nat)) - ph).tmod ev = 0 ∧ t ∈ lnC (f (y + (i : Nat))) (y + (i : Nat)) x W W := by
 unfold lnS
 simp only [List.mem_flatMap, List.mem_range]
 constructor
 ·rintro ⟨i, h1, h2⟩
  split at h2
  ·cases h2
  ·rename_i h3
   exact ⟨i, h1, Classical.not_not.1 h3, h2⟩
 ·rintro ⟨i, h1, h2, h3⟩
  exact ⟨i, h1, by rw [if_neg (by simpa using h2)]; exact h3⟩
def ltL (a b : Lin) : Prop := a.1 < b.1 ∨ (a.1 = b.1 ∧ a.2.1 < b.2.1)
def leL (a b : Lin) : Prop := a.1 < b.1 ∨ (a.1 = b.1 ∧ a.2.1 ≤ b.2.1)
theorem lnC_sorted {f : Int → Bool} {r c0 : Int} {W n : Nat} : (lnC f r c0 W n).Pairwise ltL := by
 unfold lnC
 rw [List.pairwise_map]
 refine List.Pairwise.sublist List.filter_sublist ?_
 refine List.Pairwise.imp ?_ List.pairwise_lt_range
 intro a b h
 right
 exact ⟨rfl, by simp only; omega⟩
theorem lnC_row {f : Int → Bool} {r c0 : Int} {W n : Nat} {t : Lin} (h : t ∈ lnC f r c0 W n) : t.1 = r := by
 obtain ⟨k, _, _, _, rfl⟩ := lnC_mem.1 h
 rfl
theorem lnS_sorted {f : Int → Int → Bool} {y x : Int} {W : Nat} {ev ph : Int} : ∀ {n : Nat}, (lnS f y x W ev ph n).Pairwise ltL
 | 0 => by simp [lnS]
 | n + 1 => by
  rw [lnS_succ, List.pairwise_append]
  refine ⟨lnS_sorted, ?_, ?_⟩
  ·split
   ·exact .nil
   ·exact lnC_sorted
  ·intro a ha b hb
   split at hb
   ·cases hb
   obtain ⟨i, h1, _, h2⟩ := lnS_mem.1 ha
   have e1 := lnC_row h2
   have e2 := lnC_row hb
   left
   omega
theorem ltL_irr {a : Lin} : ¬ ltL a a := fun h => by unfold ltL at h; omega
theorem ltL_nodup {l : List Lin} (h : l.Pairwise ltL) : l.Nodup := List.Pairwise.imp (fun {a b} h e => by subst e; exact ltL_irr h) h
def trQ (q : Int) (p : Spot) : Spot := if q = 1 then (p.2, p.1) else p
theorem trQ_tr {q : Int} {p : Spot} : trQ q (trQ q p) = p := by unfold trQ; split <;> rfl
theorem atQ_iff {g : Grd} (hl : g.on.length = g.w * g.h) {q r c : Int} : atQ g q r c = true ↔ trQ q (c, r) ∈ covG g := by
 unfold atQ trQ
 split
 ·exact atG_iff hl
 ·exact atG_iff hl
abbrev hasL (L : List Spot) (r c : Int) : Bool := decide ((c, r) ∈ L)
def begL (L : List Spot) (ev ph : Int) (p : Spot) : Bool := decide ((p.2 - ph).tmod ev = 0) && !hasL L p.2 (p.1 - 1)
def linL (A L : List Spot) (ev ph : Int) : List Lin := (L.filter (begL A ev ph)).map fun p => (p.2, p.1, rE (hasL A p.2) 1000 p.1)
theorem linL_mem {A L : List Spot} {ev ph : Int} {t : Lin} : t ∈ linL A L ev ph ↔ ∃ p ∈ L, begL A ev ph p = true ∧ t = (p.2, p.1, rE (hasL A p.2) 1000 p.1) := by
 unfold linL
 simp only [List.mem_map, List.mem_filter]
 constructor
 ·rintro ⟨p, ⟨h1, h2⟩, rfl⟩; exact ⟨p, h1, h2, rfl⟩
 ·rintro ⟨p, h1, h2, rfl⟩; exact ⟨p, ⟨h1, h2⟩, rfl⟩
theorem linL_nodup {A L : List Spot} {ev ph : Int} (h : L.Nodup) : (linL A L ev ph).Nodup := by
 unfold linL
 rw [List.nodup_iff_pairwise_ne, List.pairwise_map]
 refine List.Pairwise.imp ?_ (h.filter _)
 intro a b hab e
 obtain ⟨e1, e2⟩ := Prod.mk.inj e
 obtain ⟨e2, _⟩ := Prod.mk.inj e2
 exact hab (Prod.ext e2 e1)
theorem linL_snoc {A L : List Spot} {ev ph : Int} {p : Spot} : linL A (L ++ [p]) ev ph = linL A L ev ph ++ (if begL A ev ph p = true then [(p.2, p.1, rE (hasL A p.2) 1000 p.1)] else []) := by
 unfold linL
 rw [List.filter_append, List.map_append]
 congr 1
 simp only [List.filter_cons, List.filter_nil]
 split <;> rfl
theorem linG_mem {g : Grd} (hl : g.on.length = g.w * g.h) {q : Int} (hw : wQ g q ≤ 999) {L : List Spot} {ev ph : Int} (hL : ∀ p, p ∈ L ↔ trQ q p ∈ covG g) {t : Lin} : t ∈ linG g q ev ph ↔ t ∈ linL L L ev ph := by
 have hat : ∀ r c, atQ g q r c = hasL L r c := fun r c => by
  rw [Bool.eq_iff_iff, atQ_iff hl, ← hL, decide_eq_true_iff]
 have hin : ∀ p, p ∈ L → xQ g q ≤ p.1 ∧ p.1 < xQ g q + (wQ g q : Nat) ∧ yQ g q ≤ p.2 ∧ p.2 < yQ g q + (hQ g q : Nat) := fun p hp => by
  have h1 : atQ g q p.2 p.1 = true := by rw [hat]; simpa using hp
  have h2 := atQ_in h1
  refine ⟨h2.1, h2.2, ?_⟩
  unfold atQ atG at h1
  unfold yQ hQ
  split at h1
  ·rename_i e
   simp only [Bool.and_eq_true, decide_eq_true_iff] at h1
   rw [if_pos e, if_pos e]; omega
  ·rename_i e
   simp only [Bool.and_eq_true, decide_eq_true_iff] at h1
   rw [if_neg e, if_neg e]; omega
 unfold linG
 rw [lnS_mem, linL_mem]
 constructor
 ·rintro ⟨i, h1, h2, h3⟩
  obtain ⟨k, k1, k2, k3, rfl⟩ := lnC_mem.1 h3
  rw [hat] at k2 k3
  have hm : (xQ g q + (k : Nat), yQ g q + (i : Nat)) ∈ L := by simpa using k2
  refine ⟨_, hm, ?_, ?_⟩
  ·unfold begL
   simp only [h2, decide_true, Bool.true_and, k3, Bool.not_false]
  ·simp only
   have e : atQ g q (yQ g q + (i : Nat)) = hasL L (yQ g q + (i : Nat)) := funext fun c => hat _ _
   rw [e]
   rw [rE_eq (f := hasL L (yQ g q + (i : Nat))) (x := xQ g q + (wQ g q : Nat)) (n := wQ g q - 1 - k) (m := 1000) (c := xQ g q + (k : Nat))]
   ·intro j hj
    rw [← hat]
    exact atQ_out (.inr hj)
   ·omega
   ·omega
 ·rintro ⟨p, h1, h2, rfl⟩
  unfold begL at h2
  simp only [Bool.and_eq_true, decide_eq_true_iff, Bool.not_eq_true'] at h2
  obtain ⟨h2, h3⟩ := h2
  obtain ⟨b1, b2, b3, b4⟩ := hin p h1
  obtain ⟨i, hi⟩ : ∃ i : Nat, p.2 = yQ g q + i := ⟨(p.2 - yQ g q).toNat, by omega⟩
  obtain ⟨k, hk⟩ : ∃ k : Nat, p.1 = xQ g q + k := ⟨(p.1 - xQ g q).toNat, by omega⟩
  obtain ⟨a, b⟩ := p
  simp only at hi hk h1 h2 h3 b1 b2 b3 b4
  subst hi; subst hk
  refine ⟨i, by omega, h2, lnC_mem.2 ⟨k, by omega, ?_, ?_, ?_⟩⟩
  ·rw [hat]; simpa using h1
  ·rw [hat]; exact h3
  ·simp only
   have e : atQ g q (yQ g q + (i : Nat)) = hasL L (yQ g q + (i : Nat)) := funext fun c => hat _ _
   rw [e]
   rw [rE_eq (f := hasL L (yQ g q + (i : Nat))) (x := xQ g q + (wQ g q : Nat)) (n := wQ g q - 1 - k) (m := 1000) (c := xQ g q + (k : Nat))]
   ·intro j hj
    rw [← hat]
    exact atQ_out (.inr hj)
   ·omega
   ·omega
theorem linG_is {g : Grd} (hl : g.on.length = g.w * g.h) {q : Int} (hw : wQ g q ≤ 999) {L : List Spot} {ev ph : Int} (hL : ∀ p, p ∈ L ↔ trQ q p ∈ covG g) (hn : L.Nodup) {l : List Lin} (hp : l.Perm (linL L L ev ph)) (hs : l.Pairwise leL) : l = linG g q ev ph := by
 have hsg : (linG g q ev ph).Pairwise ltL := lnS_sorted
 have h2 : l.Perm (linG g q ev ph) := hp.trans ((List.perm_ext_iff_of_nodup (linL_nodup hn) (ltL_nodup hsg)).2 fun t => (linG_mem hl hw hL).symm)
 refine List.Perm.eq_of_pairwise (le := leL) ?_ hs (hsg.imp fun {a b} h => by unfold leL; unfold ltL at h; omega) h2
 intro a b ha hb h3 h4
 have ha' := h2.subset ha
 have e1 : a.1 = b.1 ∧ a.2.1 = b.2.1 := by unfold leL at h3 h4; omega
 apply Classical.byContradiction
 intro hne
 obtain ⟨i, hi, rfl⟩ := List.getElem_of_mem ha'
 obtain ⟨j, hj, rfl⟩ := List.getElem_of_mem hb
 rcases Nat.lt_trichotomy i j with h | h | h
 ·have := List.pairwise_iff_getElem.1 hsg i j hi hj h
  unfold ltL at this; omega
 ·subst h; exact hne rfl
 ·have := List.pairwise_iff_getElem.1 hsg j i hj hi h
  unfold ltL at this; omega
end Go.Proofs.YtfilfijammemfaaGreatDoor

/- cmp.Compare of numbers, by value. -/
namespace Go.Proofs.YtfilfijammemfaaGreatDoor
open Go Go.RowKit
set_option maxRecDepth 100000
def cmpI (m n : Int) : Int := if m < n then -1 else if n < m then 1 else 0
theorem nanI_v (n : Int) : ACalls Tryz.prog 182 [.c (I n)] [] fun u H => u = .c (B false) ∧ H = [] := by
 have hn : ¬ n ≠ n := fun h => h rfl
 refine acalls_of (N := 6) Tryz.func182 rfl rfl (by simp) fun E hE => ?_
 repeat' (first
  | (with_reducible refine aw_seq ?_) | (with_reducible refine aseq_n ?_) | (with_reducible refine aseq_r ?_) | (with_reducible refine ablk_n ?_) | (with_reducible refine ablk_r ?_) | (with_reducible refine ablk_e ?_) | (with_reducible refine ablk_o rfl ?_) | (with_reducible refine aseq_e ?_) | (with_reducible refine aw_skip ?_) | (with_reducible refine aw_block ?_) | (with_reducible refine aw_ret ?_) | (with_reducible refine aw_exit ?_)
  | refine aw_cond_t rfl ?_ | refine aw_cond_f rfl ?_ | refine aw_if_t rfl (by assumption) ?_ | refine aw_if_f rfl (by assumption) ?_ | refine aw_if rfl (fun _ => ?_) (fun _ => ?_) | refine aw_cond rfl (fun _ => ?_) (fun _ => ?_)
  | (refine aw_region ?_; refine WE ?_))
 exact aret_1 [] _ rfl rfl rfl (by decide) (ZNK rfl) (fun _ => .nil) ⟨by simp, rfl⟩
theorem cmpI_v (m n : Int) : ACalls Tryz.prog 139 [.c (I m), .c (I n)] [] fun u H => u = .c (I (cmpI m n)) ∧ H = [] := by
 refine acalls_of (N := 20) Tryz.func139 rfl rfl (by simp) fun E hE => ?_
 repeat' (first
  | (with_reducible refine aw_seq ?_) | (with_reducible refine aseq_n ?_) | (with_reducible refine aseq_r ?_) | (with_reducible refine ablk_n ?_) | (with_reducible refine ablk_r ?_) | (with_reducible refine ablk_e ?_) | (with_reducible refine ablk_o rfl ?_) | (with_reducible refine aseq_e ?_) | (with_reducible refine aw_skip ?_) | (with_reducible refine aw_block ?_) | (with_reducible refine aw_ret ?_) | (with_reducible refine aw_exit ?_)
  | refine aw_cond_t rfl ?_ | refine aw_cond_f rfl ?_ | refine aw_if_t rfl (by assumption) ?_ | refine aw_if_f rfl (by assumption) ?_ | refine aw_if rfl (fun _ => ?_) (fun _ => ?_) | refine aw_cond rfl (fun _ => ?_) (fun _ => ?_)
  | (refine aw_region (id := 1) ?_
     refine WO ?_
     refine al_ef rfl (ef_call0 false (fun _ => nanI_v _) rfl .fn rfl (by decide) (by kernel_rfl) rfl (fun _g => .cons (.c rfl) .nil) (by simp)) ?_
     rintro _ _ ⟨_, _, _, ⟨rfl, rfl⟩, hF, hH⟩
     (refine NST hF hH ?_; clear hF hH; rintro rfl rfl)
     refine WE ?_)
  | (refine aw_region (id := 2) ?_
     refine WO ?_
     refine al_ef rfl (ef_call0 false (fun _ => nanI_v _) rfl .fn rfl (by decide) (by kernel_rfl) rfl (fun _g => .cons (.c rfl) .nil) (by simp)) ?_
     rintro _ _ ⟨_, _, _, ⟨rfl, rfl⟩, hF, hH⟩
     (refine NST hF hH ?_; clear hF hH; rintro rfl rfl)
     refine WE ?_)
  | (refine aw_region ?_; refine WE ?_))
 all_goals (refine aret_1 [] _ rfl rfl rfl (by decide) (ZNK rfl) (fun _ => .nil) ⟨?_, rfl⟩)
 all_goals (unfold cmpI; first | rw [if_pos (by omega)] | rw [if_neg (by omega), if_pos (by omega)] | rw [if_neg (by omega), if_neg (by omega)])
end Go.Proofs.YtfilfijammemfaaGreatDoor
