/- Right cells and right stacks of the stream, by value. -/
import Derived.Test.YtniolldgidgffaaGreatDoorQbj
set_option linter.unusedSimpArgs false
set_option linter.unusedVariables false
/- The program's Lines, filled, by value. -/
-- NEWM
namespace Go.Proofs.YtniolldgidgffaaGreatDoor
open Go Go.RowKit
set_option maxRecDepth 100000
def lnF (c : Cel) (q ev ph : Int) : Int := if celF c ≠ 0 then celF c else if outB q 0 1 = true then 4 else if (outB ev 1 200 || outB ph (-1000) 1000) = true then 1 else 0
theorem grd_wh {c : Cel} (h : RCel c) (q : Int) : wQ (grdOf c) q ≤ 200 ∧ hQ (grdOf c) q ≤ 200 := by
 have h1 := h.w
 have h2 := h.h
 have h3 : (grdOf c).w ≤ 200 ∧ (grdOf c).h ≤ 200 := by
  unfold grdOf
  split
  ·exact ⟨Nat.zero_le _, Nat.zero_le _⟩
  ·exact ⟨h1, h2⟩
 unfold wQ hQ
 split <;> (constructor <;> omega)
theorem lin_len {c : Cel} (h : RCel c) (q ev ph : Int) : (linG (grdOf c) q ev ph).length ≤ 40000 := by
 obtain ⟨h1, h2⟩ := grd_wh h q
 have := lnS_len (atQ (grdOf c) q) (yQ (grdOf c) q) (xQ (grdOf c) q) (wQ (grdOf c) q) ev ph (hQ (grdOf c) q)
 have h3 : hQ (grdOf c) q * wQ (grdOf c) q ≤ 200 * 200 := Nat.mul_le_mul h2 h1
 unfold linG
 omega
theorem lin_bd {g : Grd} (hg : GOk g) {q ev ph : Int} {l : Lin} (h : l ∈ linG g q ev ph) : (-20000000 ≤ l.1 ∧ l.1 ≤ 20000000) ∧ (-20000000 ≤ l.2.1 ∧ l.2.1 ≤ 20000000) ∧ (-20000000 ≤ l.2.2 ∧ l.2.2 ≤ 20000000) := by
 have hgx := hg.x
 have hgy := hg.y
 have hgw := hg.w
 have hgh := hg.h
 have hYb : -10000000 ≤ yQ g q ∧ yQ g q ≤ 10000000 := by unfold yQ; split <;> omega
 have hXb : -10000000 ≤ xQ g q ∧ xQ g q ≤ 10000000 := by unfold xQ; split <;> omega
 have hWb : wQ g q ≤ 1000 := by unfold wQ; split <;> omega
 have hHb : hQ g q ≤ 1000 := by unfold hQ; split <;> omega
 unfold linG lnS at h
 obtain ⟨i, hi, h2⟩ := List.mem_flatMap.1 h
 rw [List.mem_range] at hi
 split at h2
 ·cases h2
 ·unfold lnC at h2
  obtain ⟨k, hk, rfl⟩ := List.mem_map.1 h2
  have hk2 := List.mem_range.1 (List.mem_filter.1 hk).1
  obtain ⟨s1, s2, _, _⟩ := @rE_spec (atQ g q (yQ g q + (i : Nat))) (wQ g q - 1 - k) (xQ g q + (k : Nat))
  simp only
  omega
set_option maxHeartbeats 2000000 in
theorem lined_v (va : Value) (c : Cel) (q ev ph : Int) (hl : c.rows.length ≤ 1000000000) (hr : ∀ r ∈ c.rows, r.length ≤ 1000000000) : ACalls Tryz.prog 62 [celA va c, .c (I q), .c (I ev), .c (I ph)] [] fun u H => (lnF c q ev ph ≠ 0 → u = .t [.a [.c (.s (.pointer none)), .c (I 0)], .c (.r (.slice none 0 0) []), .c (I (lnF c q ev ph))]) ∧ (lnF c q ev ph = 0 → ∃ gp gv lv, u = .t [linA gp gv (grdOf c) q, .c (.r lv (lnR (linG (grdOf c) q ev ph))), .c (I 0)]) ∧ H = [] := by
 obtain ⟨cf, hcf⟩ : ∃ z, celF c = z := ⟨_, rfl⟩
 obtain ⟨b1, h1⟩ : ∃ z, outB q 0 1 = z := ⟨_, rfl⟩
 obtain ⟨b2, h2⟩ : ∃ z, outB ev 1 200 = z := ⟨_, rfl⟩
 obtain ⟨b3, h3⟩ : ∃ z, outB ph (-1000) 1000 = z := ⟨_, rfl⟩
 have hF0 : lnF c q ev ph = if cf ≠ 0 then cf else if b1 = true then 4 else if (b2 || b3) = true then 1 else 0 := by rw [lnF, hcf, h1, h2, h3]
 rw [hF0]
 refine acalls_of (N := 44) Tryz.func62 rfl rfl (by simp) fun E hE => ?_
 refine WA ?_
 refine WR ?_
 refine al_ef rfl (ef_call0 false (fun _ => check_v va c hl hr) rfl .fn rfl (by decide) (by kernel_rfl) rfl (fun _ => C0 rfl) (by simp)) ?_
 rintro _ _ ⟨_, _, _, ⟨rfl, rfl⟩, hF, hH⟩
 rw [hcf] at hF
 (refine NST hF hH ?_; clear hF hH; rintro rfl rfl)
 refine WE ?_
 refine WA ?_
 refine aw_if rfl (fun hz => ?_) (fun hz => ?_)
 ·rw [if_pos hz]
  refine WA ?_
  exact aret_of (us := [.a [.c (.s (.pointer none)), .c (I 0)], .c (.r (.slice none 0 0) []), .c (I (cf))]) [] (fun _ => .t [.a [.c (.s (.pointer none)), .c (I 0)], .c (.r (.slice none 0 0) []), .c (I (cf))]) (fun _ => []) (.cella (n := 2) rfl (by kernel_rfl) (Cells.box rfl) (by first | (simp; done) | exact Nat.le_refl 2) (by (try simp only [nm, putL, Nat.reduceAdd, cellsOf, cvOf]) <;> rfl) (.tmp rfl (.tmp rfl .nil))) (by decide) (fun i hi => absurd hi (Nat.not_lt_zero i)) (fun _ => cvt_clo _ _ _ _ _ rfl) (fun _ => .nil) (fun _ => ⟨fun _ => rfl, fun e => absurd e (hz), rfl⟩)
 rw [if_neg hz]
 obtain rfl : cf = 0 := by omega
 have hc := celF_0.1 hcf
 refine ZZ ?_
 cases b1 with
 | true =>
  refine WR ?_
  refine al_ef rfl (ef_call0 false (fun _ => out_v _ _ _) rfl .fn rfl (by decide) (by kernel_rfl) rfl (fun _ => C0 rfl) (by simp)) ?_
  rintro _ _ ⟨_, _, _, ⟨rfl, rfl⟩, hF, hH⟩
  rw [h1] at hF
  (refine NST hF hH ?_; clear hF hH; rintro rfl rfl)
  refine WE ?_
  refine aw_cond_t rfl ?_
  refine WA ?_
  exact aret_of (us := [.a [.c (.s (.pointer none)), .c (I 0)], .c (.r (.slice none 0 0) []), .c (I (4))]) [] (fun _ => .t [.a [.c (.s (.pointer none)), .c (I 0)], .c (.r (.slice none 0 0) []), .c (I (4))]) (fun _ => []) (.cella (n := 2) rfl (by kernel_rfl) (Cells.box rfl) (by first | (simp; done) | exact Nat.le_refl 2) (by (try simp only [nm, putL, Nat.reduceAdd, cellsOf, cvOf]) <;> rfl) (.tmp rfl (.tmp rfl .nil))) (by decide) (fun i hi => absurd hi (Nat.not_lt_zero i)) (fun _ => cvt_clo _ _ _ _ _ rfl) (fun _ => .nil) (fun _ => ⟨fun _ => rfl, fun e => absurd e ((by decide : (4 : Int) ≠ 0)), rfl⟩)
 | false =>
 refine WR ?_
 refine al_ef rfl (ef_call0 false (fun _ => out_v _ _ _) rfl .fn rfl (by decide) (by kernel_rfl) rfl (fun _ => C0 rfl) (by simp)) ?_
 rintro _ _ ⟨_, _, _, ⟨rfl, rfl⟩, hF, hH⟩
 rw [h1] at hF
 (refine NST hF hH ?_; clear hF hH; rintro rfl rfl)
 refine WE ?_
 refine aw_cond_f rfl ?_
 refine ZZ ?_
 cases b2 with
 | true =>
  refine WR ?_
  refine al_ef rfl (ef_call0 false (fun _ => out_v _ _ _) rfl .fn rfl (by decide) (by kernel_rfl) rfl (fun _ => C0 rfl) (by simp)) ?_
  rintro _ _ ⟨_, _, _, ⟨rfl, rfl⟩, hF, hH⟩
  rw [h2] at hF
  (refine NST hF hH ?_; clear hF hH; rintro rfl rfl)
  refine WO ?_
  first | refine ZS ?_ | (refine G1 rfl ?_; refine al_ef rfl (ef_call0 false (fun _ => out_v _ _ _) rfl .fn rfl (by decide) (by kernel_rfl) rfl (fun _ => C0 rfl) (by simp)) ?_; rintro _ _ ⟨_, _, _, ⟨rfl, rfl⟩, hF, hH⟩; rw [h3] at hF; (refine NST hF hH ?_; clear hF hH; rintro rfl rfl)) | skip
  refine WE ?_
  refine aw_cond_t rfl ?_
  refine WA ?_
  exact aret_of (us := [.a [.c (.s (.pointer none)), .c (I 0)], .c (.r (.slice none 0 0) []), .c (I (1))]) [] (fun _ => .t [.a [.c (.s (.pointer none)), .c (I 0)], .c (.r (.slice none 0 0) []), .c (I (1))]) (fun _ => []) (.cella (n := 2) rfl (by kernel_rfl) (Cells.box rfl) (by first | (simp; done) | exact Nat.le_refl 2) (by (try simp only [nm, putL, Nat.reduceAdd, cellsOf, cvOf]) <;> rfl) (.tmp rfl (.tmp rfl .nil))) (by decide) (fun i hi => absurd hi (Nat.not_lt_zero i)) (fun _ => cvt_clo _ _ _ _ _ rfl) (fun _ => .nil) (fun _ => ⟨fun _ => rfl, fun e => absurd e ((by decide : (1 : Int) ≠ 0)), rfl⟩)
 | false =>
 cases b3 with
 | true =>
  refine WR ?_
  refine al_ef rfl (ef_call0 false (fun _ => out_v _ _ _) rfl .fn rfl (by decide) (by kernel_rfl) rfl (fun _ => C0 rfl) (by simp)) ?_
  rintro _ _ ⟨_, _, _, ⟨rfl, rfl⟩, hF, hH⟩
  rw [h2] at hF
  (refine NST hF hH ?_; clear hF hH; rintro rfl rfl)
  refine WO ?_
  first | refine ZS ?_ | (refine G1 rfl ?_; refine al_ef rfl (ef_call0 false (fun _ => out_v _ _ _) rfl .fn rfl (by decide) (by kernel_rfl) rfl (fun _ => C0 rfl) (by simp)) ?_; rintro _ _ ⟨_, _, _, ⟨rfl, rfl⟩, hF, hH⟩; rw [h3] at hF; (refine NST hF hH ?_; clear hF hH; rintro rfl rfl)) | skip
  refine WE ?_
  refine aw_cond_t rfl ?_
  refine WA ?_
  exact aret_of (us := [.a [.c (.s (.pointer none)), .c (I 0)], .c (.r (.slice none 0 0) []), .c (I (1))]) [] (fun _ => .t [.a [.c (.s (.pointer none)), .c (I 0)], .c (.r (.slice none 0 0) []), .c (I (1))]) (fun _ => []) (.cella (n := 2) rfl (by kernel_rfl) (Cells.box rfl) (by first | (simp; done) | exact Nat.le_refl 2) (by (try simp only [nm, putL, Nat.reduceAdd, cellsOf, cvOf]) <;> rfl) (.tmp rfl (.tmp rfl .nil))) (by decide) (fun i hi => absurd hi (Nat.not_lt_zero i)) (fun _ => cvt_clo _ _ _ _ _ rfl) (fun _ => .nil) (fun _ => ⟨fun _ => rfl, fun e => absurd e ((by decide : (1 : Int) ≠ 0)), rfl⟩)
 | false =>
 have hev1 : 1 ≤ ev := by simp [outB] at h2; omega
 have hph1 : -1000000 ≤ ph ∧ ph ≤ 1000000 := by simp [outB] at h3; omega
 refine WR ?_
 refine al_ef rfl (ef_call0 false (fun _ => out_v _ _ _) rfl .fn rfl (by decide) (by kernel_rfl) rfl (fun _ => C0 rfl) (by simp)) ?_
 rintro _ _ ⟨_, _, _, ⟨rfl, rfl⟩, hF, hH⟩
 rw [h2] at hF
 (refine NST hF hH ?_; clear hF hH; rintro rfl rfl)
 refine WO ?_
 first | refine ZS ?_ | (refine G1 rfl ?_; refine al_ef rfl (ef_call0 false (fun _ => out_v _ _ _) rfl .fn rfl (by decide) (by kernel_rfl) rfl (fun _ => C0 rfl) (by simp)) ?_; rintro _ _ ⟨_, _, _, ⟨rfl, rfl⟩, hF, hH⟩; rw [h3] at hF; (refine NST hF hH ?_; clear hF hH; rintro rfl rfl)) | skip
 refine WE ?_
 refine aw_cond_f rfl ?_
 refine ZZ ?_
 refine WR ?_
 refine al_ef rfl (ef_call0 false (fun _ => gridof_v va c hc) rfl .fn rfl (by decide) (by kernel_rfl) rfl (fun _ => C0 rfl) (by simp)) ?_
 rintro _ _ ⟨_, _, _, ⟨gp, gv, rfl, rfl⟩, hF, hH⟩
 (refine NST hF hH ?_; clear hF hH; rintro rfl rfl)
 refine WE ?_
 have hlen := lin_len hc q ev ph
 refine WR ?_
 refine al_ef rfl (ef_call0 false (fun _ => llines_v gp gv (grdOf c) q ev ph (grdOf_ok hc) hev1 hph1) rfl .fn rfl (by decide) (by kernel_rfl) rfl (fun _ => C0 rfl) (by simp)) ?_
 rintro _ _ ⟨_, _, _, ⟨lv, rfl, rfl⟩, hF, hH⟩
 (refine NST hF hH ?_; clear hF hH; rintro rfl rfl)
 refine WE ?_
 generalize linG (grdOf c) q ev ph = LL at *
 have e1 : (lnR LL).length = LL.length := by simp
 have hle : ¬ (100000 : Int) < ((lnR LL).length : Int) := by omega
 refine WA ?_
 refine aw_cond_f rfl ?_
 refine ZZ ?_
 refine WA ?_
 exact aret_of (us := [linA gp gv (grdOf c) q, .c (.r lv (lnR LL)), .c (I 0)]) [] (fun _ => .t [linA gp gv (grdOf c) q, .c (.r lv (lnR LL)), .c (I 0)]) (fun _ => []) (.cella (n := 2) rfl (by kernel_rfl) (Cells.box rfl) (by first | (simp; done) | exact Nat.le_refl 2) (by (try simp only [nm, putL, Nat.reduceAdd, cellsOf, cvOf]) <;> rfl) (.tmp rfl (.tmp rfl .nil))) (by decide) (fun i hi => absurd hi (Nat.not_lt_zero i)) (fun _ => cvt_clo _ _ _ _ _ rfl) (fun _ => .nil) (fun _ => ⟨fun e => absurd rfl e, fun _ => ⟨gp, gv, lv, rfl⟩, rfl⟩)
abbrev Pth := Value × List Spot × Bool
abbrev pthR (p : Pth) : List CV := [.r p.1 (sR p.2.1), B p.2.2]
abbrev paR (l : List Pth) : List (List CV) := l.map pthR
set_option maxHeartbeats 2000000 in
theorem lines_v (va : Value) (c : Cel) (q ev ph : Int) (hl : c.rows.length ≤ 1000000000) (hr : ∀ r ∈ c.rows, r.length ≤ 1000000000) : ACalls Tryz.prog 14 [celA va c, .c (I q), .c (I ev), .c (I ph)] [] fun u H => ∃ (v : Value) (pl : List Pth), u = .t [.c (.r v (paR pl)), .c (I (lnF c q ev ph))] ∧ (lnF c q ev ph ≠ 0 → pl = []) ∧ (lnF c q ev ph = 0 → pl.map Prod.snd = (linG (grdOf c) q ev ph).map fun l => (ptsL c.st q l, false)) ∧ H = [] := by
 obtain ⟨fz, hfz⟩ : ∃ z, lnF c q ev ph = z := ⟨_, rfl⟩
 by_cases hz : lnF c q ev ph ≠ 0
 ·rw [hfz]
  refine acalls_of (N := 48) Tryz.func14 rfl rfl (by simp) fun E hE => ?_
  refine WA ?_
  refine WR ?_
  refine al_ef rfl (ef_call0 false (fun _ => lined_v va c q ev ph hl hr) rfl .fn rfl (by decide) (by kernel_rfl) rfl (fun _ => C0 rfl) (by simp)) ?_
  rintro _ _ ⟨_, _, _, ⟨hu1, hu2, rfl⟩, hF, hH⟩
  rw [hu1 hz, hfz] at hF
  (refine NST hF hH ?_; clear hF hH; rintro rfl rfl)
  refine WE ?_
  rw [hfz] at hz
  refine WA ?_
  refine aw_cond_t rfl ?_
  refine WA ?_
  exact aret_2 [] _ rfl rfl rfl rfl rfl (by decide) (ZNK rfl) (fun _ => .nil) ⟨.slice none 0 0, [], rfl, fun _ => rfl, fun e => absurd e hz, rfl⟩
 ·obtain rfl : fz = 0 := by rw [← hfz]; simpa using hz
  have hcf : celF c = 0 := Classical.byContradiction fun e => by rw [lnF, if_pos e] at hfz; exact e hfz
  have hc := celF_0.1 hcf
  have hgo := grdOf_ok hc
  have hst := hc.st
  have hgs : 0 ≤ (grdOf c).st ∧ (grdOf c).st ≤ 10000 := by rw [grdOf_st]; omega
  have hlb := lin_len hc q ev ph
  have hbd := fun l h => @lin_bd (grdOf c) hgo q ev ph l h
  have hgst := grdOf_st c
  rw [hfz]
  refine acalls_of (N := 48) Tryz.func14 rfl rfl (by simp) fun E hE => ?_
  refine WA ?_
  refine WR ?_
  refine al_ef rfl (ef_call0 false (fun _ => lined_v va c q ev ph hl hr) rfl .fn rfl (by decide) (by kernel_rfl) rfl (fun _ => C0 rfl) (by simp)) ?_
  rintro _ _ ⟨_, _, _, ⟨hu1, hu2, rfl⟩, hF, hH⟩
  obtain ⟨gp, gv, lv, hu3⟩ := hu2 hfz
  rw [hu3] at hF
  (refine NST hF hH ?_; clear hF hH; rintro rfl rfl)
  refine WE ?_
  generalize linG (grdOf c) q ev ph = LL at *
  have e1 : (lnR LL).length = LL.length := by simp
  refine WA ?_
  refine aw_cond_f rfl ?_
  refine ZZ ?_
  refine WA ?_
  refine WA ?_
  refine aw_loopw (fun m F H => ∃ (i cp : Nat) (pl : List Pth), m + i = LL.length ∧ pl.map Prod.snd = (LL.take i).map (fun l => (ptsL c.st q l, false)) ∧ F = [(10, .p 0 0 0), (13, .o 1 0 pl.length cp), (28, .c (.r lv (lnR LL))), (29, .c (I (lnR LL).length)), (30, .c (I i))] ∧ H = [linB gp gv (grdOf c) q, .arr 80 2 cp (paR pl)]) ?_ ?_
  ·refine wk_of [some 1, none] (fun _ => [(10, .p 0 0 0), (13, .o 1 0 0 0), (28, .c (.r lv (lnR LL))), (29, .c (I (lnR LL).length)), (30, .c (I (0 : Nat)))]) (fun _ => [linB gp gv (grdOf c) q, .arr 80 2 0 (paR [])]) (by decide) (ZNL hE) ZCF ZCH (fun _ => ?_)
   exact ⟨LL.length, 0, 0, [], by omega, rfl, rfl, rfl⟩
  rintro m F H ⟨i, cp, pl, hi, hpl, rfl, rfl⟩
  have hpll : pl.length = i := by have := congrArg List.length hpl; simp at this; omega
  refine WA ?_
  refine aw_if rfl (fun hlt => ?_) (fun hge => ?_)
  ·obtain ⟨⟨r, a, b⟩, hli⟩ : ∃ e, LL[i]? = some e := ⟨_, List.getElem?_eq_getElem (by omega)⟩
   have hrow : (lnR LL)[i]? = some [I r, I a, I b] := by rw [List.getElem?_map, hli]; rfl
   obtain ⟨hb1, hb2, hb3⟩ := hbd _ (List.mem_of_getElem? hli)
   have htk : LL.take (i + 1) = LL.take i ++ [(r, a, b)] := by rw [List.take_add_one, hli]; rfl
   refine WA ?_
   refine WR ?_
   refine al_ef rfl (ef_call0 false (fun _ => points_v gp gv (grdOf c) q (r, a, b) hgs hb1 hb2 hb3) rfl .fn rfl (by decide) (by kernel_rfl) rfl (fun _ => C0 rfl) (by simp)) ?_
   rintro _ _ ⟨_, _, _, ⟨vp, rfl, rfl⟩, hF, hH⟩
   (refine NST hF hH ?_; clear hF hH; rintro rfl rfl)
   refine WO ?_
   refine al_ef rfl (Zapp (KA (t := 33) rfl)) ?_
   rintro _ _ ⟨_, cc, hcc, rfl, rfl⟩
   refine WE ?_
   refine WA ?_
   refine wk_of [some 0, some 1] (fun _ => [(10, .p 0 0 0), (13, .o 1 0 (pl ++ [((vp, ptsL (grdOf c).st q (r, a, b), false) : Pth)]).length cc), (28, .c (.r lv (lnR LL))), (29, .c (I (lnR LL).length)), (30, .c (I (i + 1 : Nat)))]) (fun _ => [linB gp gv (grdOf c) q, .arr 80 2 cc (paR (pl ++ [((vp, ptsL (grdOf c).st q (r, a, b), false) : Pth)]))]) (by decide) (ZNL hE) ZCF ZCH (fun _ => ?_)
   exact ⟨m - 1, by omega, i + 1, cc, pl ++ [((vp, ptsL (grdOf c).st q (r, a, b), false) : Pth)], by omega, by rw [List.map_append, hpl, htk, List.map_append, hgst]; rfl, rfl, rfl⟩
  obtain rfl : i = LL.length := by omega
  rw [List.take_length] at hpl
  refine ZZ ?_
  refine WA ?_
  exact aret_f2 [] _ rfl rfl rfl rfl rfl rfl (by rw [List.drop_zero, List.take_of_length_le (by simp)]) (by simp) rfl (by decide) (ZNK rfl) (fun _ => .nil) (fun q => ⟨q, pl, rfl, fun e => absurd rfl e, fun _ => hpl, rfl⟩)
def cel2 : Cel := ⟨10, 0, 0, [[35, 35]]⟩
theorem cel2_lin : lnF cel2 0 1 0 = 0 ∧ ((linG (grdOf cel2) 0 1 0).map fun l => (ptsL cel2.st 0 l, false)) = [([(5, 5), (15, 5)], false)] := ⟨by decide +kernel, by decide +kernel⟩
theorem lines2_v (va : Value) : ACalls Tryz.prog 14 [.a [.c (I 10), .c (I 0), .c (I 0), .c (.r va [[T [35, 35]]])], .c (I 0), .c (I 1), .c (I 0)] [] fun u H => ∃ v vp, u = .t [.c (.r v [[.r vp (sR [(5, 5), (15, 5)]), B false]]), .c (I 0)] ∧ H = [] := by
 refine (lines_v va cel2 0 1 0 (by decide) (by decide)).mono fun u H h => ?_
 obtain ⟨v, pl, hu, _, h2, h3⟩ := h
 rw [cel2_lin.1] at hu h2
 rw [cel2_lin.2] at h2
 have h4 := h2 rfl
 match pl, h4 with
 | [(vp, pts, b)], h4 =>
  simp only [List.map_cons, List.map_nil, List.cons.injEq, and_true, Prod.mk.injEq] at h4
  obtain ⟨rfl, rfl⟩ := h4
  exact ⟨v, vp, hu, h3⟩
theorem filled_v : ACalls Tryz.prog 25 [] [] fun u H => u = .c (B true) ∧ H = [] := by
 refine acalls_of (N := 24) Tryz.func25 rfl rfl (by simp) fun E hE => ?_
 refine WA ?_
 refine WR ?_
 refine al_wk (wk_of (K := fun F H => ∃ vz, F = [(5, .a [.c (I 10), .c (I 0), .c (I 0), .c (.r vz [[T [35, 35]]])])] ∧ H = []) [] (fun g => [(5, .a [.c (I 10), .c (I 0), .c (I 0), .c (.r (g (.o 0 0 1 1)) [[T [35, 35]]])])]) (fun _ => []) (by decide) (ZNL hE) (fun _g => .cons rfl (.aL (.cons (.c rfl) (.cons (.c rfl) (.cons (.c rfl) (.cons (.frz rfl rfl rfl rfl rfl) .nil))))) .nil) (fun _ => .nil) (fun _ => ⟨_, rfl, rfl⟩)) ?_
 rintro F H ⟨vz, rfl, rfl⟩
 refine al_ef rfl (ef_call0 false (fun _ => lines2_v vz) rfl .fn rfl (by decide) (by kernel_rfl) rfl (fun _ => C0 rfl) (by simp)) ?_
 rintro _ _ ⟨_, _, _, ⟨v, vp, rfl, rfl⟩, hF, hH⟩
 (refine NST hF hH ?_; clear hF hH; rintro rfl rfl)
 refine WE ?_
 have z0 : (0 : Int) = 0 := rfl
 have z1 : ((([[CV.r vp (sR [(5, 5), (15, 5)]), B false]] : List (List CV)).length : Nat) : Int) = 1 := rfl
 have z2 : (((sR [(5, 5), (15, 5)]).length : Nat) : Int) = 2 := rfl
 have hrow : ([[CV.r vp (sR [(5, 5), (15, 5)]), B false]] : List (List CV))[0]? = some [CV.r vp (sR [(5, 5), (15, 5)]), B false] := rfl
 refine WA ?_
 exact aret_1 [] _ rfl rfl rfl (by decide) (ZNK rfl) (fun _ => .nil) ⟨rfl, rfl⟩
end Go.Proofs.YtniolldgidgffaaGreatDoor

/- The reference's plan, by value: PlanOf. -/
namespace Go.Proofs.YtniolldgidgffaaGreatDoor
open Go Go.RowKit
set_option maxRecDepth 100000
theorem frzfL {g : AV → Value} {m : List (Option Nat)} {H : List OB} {fz : Bool} {fn : Fn} {l : List AV} {row : List CV} (hc : CvL g m H fz l (row.map .c)) : Cvt g m H fz (.f fn l) (.c (.f (g (.f fn l)) fn row)) :=
 .frzf (by have := hc.both.1; simpa using this) (fun i x u hx hu => hc.both.2 i x (.c u) hx (by rw [List.getElem?_map, hu]; rfl))
end Go.Proofs.YtniolldgidgffaaGreatDoor

/- Stacks and styles of the stream, by value. -/
-- NEWM
namespace Go.Proofs.YtniolldgidgffaaGreatDoor
open Go Go.RowKit
set_option maxRecDepth 100000
end Go.Proofs.YtniolldgidgffaaGreatDoor

/- Right cells and right stacks of the stream, by value. -/
-- NEWM
namespace Go.Proofs.YtniolldgidgffaaGreatDoor
open Go Go.RowKit
set_option maxRecDepth 100000
theorem ncel_nil {st : Int} (hst : 2 ≤ st ∧ st ≤ 100 ∧ st.tmod 2 = 0) : NCel ⟨st, 0, 0, []⟩ := by
 have h := celN_ok (st := st) (L := []) ⟨hst.1, by omega, hst.2.2⟩ (by decide) (by decide) (by simp [x0, mnL, cols]) (by simp [y0, mnL, rws])
 exact ⟨h, ⟨(by decide : -10000 ≤ (0 : Int)), (by decide : (0 : Int) ≤ 10000)⟩, ⟨(by decide : -10000 ≤ (0 : Int)), (by decide : (0 : Int) ≤ 10000)⟩⟩
set_option maxHeartbeats 2000000 in
theorem rightcells_v (st : Int) (hst : 2 ≤ st ∧ st ≤ 100 ∧ st.tmod 2 = 0) (v : Value) (zs : List Int) (a : Int) (hs : StrOk zs) (h0 : 0 ≤ a) (h1 : a ≤ 700000000) : ACalls Tryz.prog 44 [.p 0 0 0, .c (I st)] [strm v zs a] fun u H => ∃ (v' : Value) (c : Cel) (a' : Int), u = celA v' c ∧ H = [strm v zs a'] ∧ a ≤ a' ∧ a' ≤ a + 1200 ∧ NCel c ∧ c.st = st := by
 have hst1 : 1 ≤ st ∧ st ≤ 100 := by omega
 refine acalls_of (N := 18) Tryz.func44 rfl rfl (by simp) fun E hE => ?_
 refine WA ?_
 refine WA ?_
 refine aw_loopw (fun m F H => ∃ (k : Nat) (a' : Int), m + k = 6 ∧ a ≤ a' ∧ a' ≤ a + 200 * k ∧ F = [(0, .p 0 0 0), (1, .c (I st)), (4, .p 1 0 0), (6, .c (I k))] ∧ H = [strm v zs a', .box [.c (I 0), .c (I 0), .c (I 0), .c (.r (.slice none 0 0) [])]]) ?_ ?_
 ·refine wk_of [some 0, some 1] (fun _ => [(0, .p 0 0 0), (1, .c (I st)), (4, .p 1 0 0), (6, .c (I (0 : Nat)))]) (fun _ => [strm v zs a, .box [.c (I 0), .c (I 0), .c (I 0), .c (.r (.slice none 0 0) [])]]) (by decide) (ZNL hE) ZCF ZCH (fun _ => ?_)
  exact ⟨6, 0, a, by omega, by omega, by omega, rfl, rfl⟩
 rintro m F H ⟨k, a', hk, ha1, ha2, rfl, rfl⟩
 refine WA ?_
 refine aw_if rfl (fun hlt => ?_) (fun hge => ?_)
 ·refine WR ?_
  refine al_ef rfl (ef_callm false (fun _ => acells_w st hst1 _ _ _ hs (by omega) (by omega)) rfl .fn rfl (by decide) (by kernel_rfl) rfl rfl (fun _g => .cons (.p rfl) (.cons (.c rfl) .nil)) (fun _g => .cons (.c rfl) (.cons (.c rfl) .nil)) (by simp)) ?_
  rintro F1 H1 ⟨_, _, _, _, ⟨vc, c, ac, rfl, hq, hac1, hac2, hcs, hcst⟩, hF, hH⟩
  injection hq with hq1 hq2; subst hq1; subst hq2
  (refine NST hF hH ?_; clear hF hH; rintro rfl rfl)
  refine WE ?_
  refine WR ?_
  refine al_ef rfl (ef_call0 false (fun _ => rcheck_v vc c (by have := hcs.h; omega) (fun r hr => by have := hcs.r r hr; omega)) rfl .fn rfl (by decide) (by kernel_rfl) rfl (fun _ => C0 rfl) (by simp)) ?_
  rintro _ _ ⟨_, _, _, ⟨rfl, rfl⟩, hF, hH⟩
  (refine NST hF hH ?_; clear hF hH; rintro rfl rfl)
  refine WE ?_
  refine aw_if rfl (fun hz => ?_) (fun hz => ?_)
  ·have hr := celF_0.1 hz
   have hn := hcs.near hr
   have hcs2 := hcst hr
   refine WA ?_
   exact aret_a [some 0] _ rfl (KK (t := 28) rfl) rfl (Cells.box rfl) (by first | (simp; done) | exact Nat.le_refl 4) (by (try simp only [nm, putL, Nat.reduceAdd, cellsOf, cvOf]) <;> rfl) (by decide) (ZNK rfl) (fun _ => C0 rfl) ZCH ⟨vc, c, ac, rfl, rfl, by omega, by omega, hn, hcs2⟩
  ·refine ZZ ?_
   refine WA ?_
   refine wk_of [some 0, some 1] (fun _ => [(0, .p 0 0 0), (1, .c (I st)), (4, .p 1 0 0), (6, .c (I (k + 1 : Nat)))]) (fun _ => [strm v zs ac, .box [.c (I 0), .c (I 0), .c (I 0), .c (.r (.slice none 0 0) [])]]) (by decide) (ZNL hE) ZCF ZCH (fun _ => ?_)
   exact ⟨m - 1, by omega, k + 1, ac, by omega, by omega, by omega, rfl, rfl⟩
 refine ZZ ?_
 refine WA ?_
 exact aret_a [some 0] _ rfl (KK (t := 28) rfl) rfl (Cells.box rfl) (by first | (simp; done) | exact Nat.le_refl 4) (by (try simp only [nm, putL, Nat.reduceAdd, cellsOf, cvOf]) <;> rfl) (by decide) (ZNK rfl) (fun _ => C0 rfl) ZCH ⟨.slice none 0 0, ⟨st, 0, 0, []⟩, a', rfl, rfl, by omega, by omega, ncel_nil hst, rfl⟩
theorem stk1_v (v pv : Value) (c : Cel) : ACalls Tryz.prog 131 [celA v c, .c (.p pv [I c.st])] [] fun u H => u = .c (B false) ∧ H = [] := by
 obtain ⟨st, x, y, rows⟩ := c
 refine acalls_of (N := 8) Tryz.func131 rfl rfl (by simp) fun E hE => ?_
 repeat' (first
  | (with_reducible refine aw_seq ?_) | (with_reducible refine aseq_n ?_) | (with_reducible refine aseq_r ?_) | (with_reducible refine ablk_n ?_) | (with_reducible refine ablk_r ?_) | (with_reducible refine ablk_e ?_) | (with_reducible refine ablk_o rfl ?_) | (with_reducible refine aseq_e ?_) | (with_reducible refine aw_skip ?_) | (with_reducible refine aw_block ?_) | (with_reducible refine aw_ret ?_) | (with_reducible refine aw_exit ?_)
  | refine aw_cond_t rfl ?_ | refine aw_cond_f rfl ?_ | refine aw_if_t rfl (by assumption) ?_ | refine aw_if_f rfl (by assumption) ?_ | refine aw_if rfl (fun _ => ?_) (fun _ => ?_) | refine aw_cond rfl (fun _ => ?_) (fun _ => ?_)
  | (refine aw_region (id := 1) ?_
     iterate 2 refine WX1 ?_
     refine ZA (rd_ldcp rfl (by kernel_rfl) rfl rfl) ?_
     refine WE ?_)
  | (refine aw_region ?_; refine WE ?_))
 exact aret_1 [] _ rfl rfl rfl (by decide) (ZNK rfl) (fun _ => .nil) ⟨congrArg (fun z => AV.c (B z)) (by simp), rfl⟩
set_option maxHeartbeats 1000000 in
theorem idxst_v (v pv : Value) (st : Int) (l : List (Value × Cel)) (hl : l.length ≤ 1000000) (hst : ∀ p ∈ l, p.2.st = st) : ACalls Tryz.prog 144 [.c (.r v (cR l)), .f (.func 131) [.c (.p pv [I st])]] [] fun u H => u = .c (I (-1)) ∧ H = [] := by
 have e1 : (cR l).length = l.length := by simp
 refine acalls_of (N := 19) Tryz.func144 rfl rfl (by simp) fun E hE => ?_
 refine WA ?_
 refine WA ?_
 refine aw_loopw (fun m F H => ∃ (k : Nat), m + k = l.length ∧ F = [(0, .c (.r v (cR l))), (1, .f (.func 131) [.c (.p pv [I st])]), (7, .c (I (cR l).length)), (8, .c (I k))] ∧ H = []) ?_ ?_
 ·refine wk_of [] (fun _ => [(0, .c (.r v (cR l))), (1, .f (.func 131) [.c (.p pv [I st])]), (7, .c (I (cR l).length)), (8, .c (I (0 : Nat)))]) (fun _ => []) (by decide) (ZNL hE) ZCF (fun _ => .nil) (fun _ => ?_)
  exact ⟨l.length, 0, by omega, rfl, rfl⟩
 rintro m F H ⟨k, hk, rfl, rfl⟩
 refine WA ?_
 refine aw_if rfl (fun hlt => ?_) (fun hge => ?_)
 ·obtain ⟨⟨w, c⟩, hz⟩ : ∃ e, l[k]? = some e := ⟨_, List.getElem?_eq_getElem (by omega)⟩
  have hrow : (cR l)[k]? = some (celR w c) := by rw [List.getElem?_map, hz]; rfl
  obtain rfl : c.st = st := hst _ (List.mem_of_getElem? hz)
  refine WA ?_
  refine WR ?_
  refine al_ef rfl (ef_call0 false (fun _ => stk1_v w pv c) rfl (.clo rfl) rfl (by decide) (by kernel_rfl) rfl (fun _ => C0 rfl) (by simp)) ?_
  rintro _ _ ⟨_, _, _, ⟨rfl, rfl⟩, hF, hH⟩
  (refine NST hF hH ?_; clear hF hH; rintro rfl rfl)
  refine WE ?_
  refine aw_cond_f rfl ?_
  refine ZZ ?_
  refine WA ?_
  refine wk_of [] (fun _ => [(0, .c (.r v (cR l))), (1, .f (.func 131) [.c (.p pv [I c.st])]), (7, .c (I (cR l).length)), (8, .c (I (k + 1 : Nat)))]) (fun _ => []) (by decide) (ZNL hE) ZCF (fun _ => .nil) (fun _ => ?_)
  exact ⟨m - 1, by omega, k + 1, by omega, rfl, rfl⟩
 refine ZZ ?_
 refine WA ?_
 exact aret_1 [] _ rfl rfl rfl (by decide) (ZNK rfl) (fun _ => .nil) ⟨rfl, rfl⟩
theorem delst_v (v pv : Value) (st : Int) (l : List (Value × Cel)) (hl : l.length ≤ 1000000) (hst : ∀ p ∈ l, p.2.st = st) : ACalls Tryz.prog 130 [.c (.r v (cR l)), .f (.func 131) [.c (.p pv [I st])]] [] fun u H => u = .c (.r v (cR l)) ∧ H = [] := by
 refine acalls_of (N := 42) Tryz.func130 rfl rfl (by simp) fun E hE => ?_
 refine WA ?_
 refine WR ?_
 refine al_ef rfl (ef_call0 false (fun _ => idxst_v v pv st l hl hst) rfl .fn rfl (by decide) (by kernel_rfl) rfl (fun _ => C0 rfl) (by simp)) ?_
 rintro _ _ ⟨_, _, _, ⟨rfl, rfl⟩, hF, hH⟩
 (refine NST hF hH ?_; clear hF hH; rintro rfl rfl)
 refine WE ?_
 refine WA ?_
 refine aw_cond_t rfl ?_
 refine WA ?_
 exact aret_1 [] _ rfl rfl rfl (by decide) (ZNK rfl) (fun _ => .nil) ⟨rfl, rfl⟩
set_option maxHeartbeats 2000000 in
theorem rightstack_v (most : Int) (hm : 1 ≤ most ∧ most ≤ 10) (v : Value) (zs : List Int) (a : Int) (hs : StrOk zs) (h0 : 0 ≤ a) (h1 : a ≤ 600000000) : ACalls Tryz.prog 53 [.p 0 0 0, .c (I most)] [strm v zs a] fun u H => ∃ (v' : Value) (l : List (Value × Cel)) (st a' : Int), u = .c (.r v' (cR l)) ∧ H = [strm v zs a'] ∧ a ≤ a' ∧ a' ≤ a + 20000 ∧ (l.length : Int) ≤ most ∧ 1 ≤ l.length ∧ ∀ p ∈ l, NCel p.2 ∧ p.2.st = st := by
 refine acalls_of (N := 25) Tryz.func53 rfl rfl (by simp) fun E hE => ?_
 refine WA ?_
 refine WA ?_
 refine aw_cut (fun F H => ∃ stp : Int, (2 ≤ stp ∧ stp ≤ 100 ∧ stp.tmod 2 = 0) ∧ F = [(0, .p 0 0 0), (1, .c (I most)), (5, .c (.r (.slice none 0 0) [])), (6, .p 1 0 0)] ∧ H = [strm v zs (a + 1), .box [.c (I stp)]]) ?_ ?_ wk_aw
 ·refine WR ?_
  refine al_ef rfl (ef_callm true (fun _ => pick_a [2, 10] _ _ _ _ hs (by omega) (by omega) (by simp) (by simp)) rfl .fn rfl (by decide) (by kernel_rfl) rfl rfl (fun _g => .cons (.p rfl) (.cons (.frz rfl rfl rfl rfl rfl) .nil)) (fun _g => .cons (.c rfl) (.cons (.c rfl) .nil)) (fun _ _ _ _ ⟨_, hu, hH, _⟩ => by rw [hu, hH]; exact ⟨.c (.inl trivial), strm_flat (.inr ⟨0, _, rfl, by simp⟩)⟩)) ?_
  rintro F1 H1 ⟨_, _, _, _, ⟨stp, rfl, hq, hrm⟩, hF, hH⟩
  injection hq with hq1 hq2; subst hq1; subst hq2
  (refine NST hF hH ?_; clear hF hH; rintro rfl rfl)
  simp only [List.mem_cons, List.not_mem_nil, or_false] at hrm
  refine WE ?_
  all_goals (
   have hst : 2 ≤ stp ∧ stp ≤ 100 ∧ stp.tmod 2 = 0 := by rcases hrm with rfl | rfl <;> decide
   clear hrm
   first
   | exact wk_of [some 0, some 1] (fun _ => [(0, .p 0 0 0), (1, .c (I most)), (5, .c (.r (.slice none 0 0) [])), (6, .p 1 0 0)]) (fun _ => [strm v zs (a + 1), .box [.c (I stp)]]) (by decide) (ZNL hE) ZCF ZCH (fun _ => ⟨stp, hst, rfl, rfl⟩)
   | exact wk_of [some 0, some 2] (fun _ => [(0, .p 0 0 0), (1, .c (I most)), (5, .c (.r (.slice none 0 0) [])), (6, .p 1 0 0)]) (fun _ => [strm v zs (a + 1), .box [.c (I stp)]]) (by decide) (ZNL hE) ZCF ZCH (fun _ => ⟨stp, hst, rfl, rfl⟩))
 rintro F H ⟨stp, hst, rfl, rfl⟩
 refine WR ?_
 refine al_ef rfl (ef_callm false (fun _ => range_a 1 _ _ _ _ hs (by omega) (by omega) (by omega) (by omega) (by omega) (by omega)) rfl .fn rfl (by decide) (by kernel_rfl) rfl rfl (fun _g => .cons (.p rfl) (.cons (.c rfl) (.cons (.c rfl) .nil))) (fun _g => .cons (.c rfl) (.cons (.c rfl) .nil)) (by simp)) ?_
 rintro F1 H1 ⟨_, _, _, _, ⟨rr, ar, rfl, hq, hr3, hr4, hr1, hr2, _⟩, hF, hH⟩
 injection hq with hq1 hq2; subst hq1; subst hq2
 (refine NST hF hH ?_; clear hF hH; rintro rfl rfl)
 have h64r : in64 rr := by simp only [in64]; omega
 refine WE ?_
 obtain ⟨nr, rfl⟩ : ∃ nr : Nat, rr = nr := ⟨rr.toNat, by omega⟩
 have hnr : 1 ≤ nr ∧ (nr : Int) ≤ most := by omega
 have haa : a ≤ ar ∧ ar ≤ a + 4 := by omega
 generalize har : ar = a1 at *
 refine aw_loopw (fun m F H => ∃ (i cp : Nat) (l : List (Value × Cel)) (a' : Int), m + i = nr ∧ l.length = i ∧ (∀ p ∈ l, NCel p.2 ∧ p.2.st = stp) ∧ a1 ≤ a' ∧ a' ≤ a1 + 1200 * i ∧ F = [(0, .p 0 0 0), (5, .o 2 0 l.length cp), (6, .p 1 0 0), (12, .c (I nr)), (13, .c (I i))] ∧ H = [strm v zs a', .box [.c (I stp)], .arr 28 4 cp (cR l)]) ?_ ?_
 ·refine wk_of [some 0, some 1, none] (fun _ => [(0, .p 0 0 0), (5, .o 2 0 0 0), (6, .p 1 0 0), (12, .c (I nr)), (13, .c (I (0 : Nat)))]) (fun _ => [strm v zs a1, .box [.c (I stp)], .arr 28 4 0 (cR [])]) (by decide) (ZNL hE) ZCF ZCH (fun _ => ?_)
  exact ⟨nr, 0, 0, [], a1, by omega, rfl, fun r h => (by cases h), by omega, by omega, rfl, rfl⟩
 rintro m F H ⟨i, cp, l, a', hi, hli, hlc, ha1, ha2, rfl, rfl⟩
 refine WA ?_
 refine aw_if rfl (fun hlt => ?_) (fun hge => ?_)
 ·refine WR ?_
  refine al_ef rfl (ef_callm false (fun _ => rightcells_v stp hst _ _ _ hs (by omega) (by omega)) rfl .fn rfl (by decide) (by kernel_rfl) rfl rfl (fun _g => .cons (.p rfl) (.cons (.c rfl) .nil)) (fun _g => .cons (.c rfl) (.cons (.c rfl) .nil)) (by simp)) ?_
  rintro F1 H1 ⟨_, _, _, _, ⟨vc, c, ac, rfl, hq, hac1, hac2, hcn, hcst⟩, hF, hH⟩
  injection hq with hq1 hq2; subst hq1; subst hq2
  (refine NST hF hH ?_; clear hF hH; rintro rfl rfl)
  refine WO ?_
  refine al_ef rfl (Zapp (KA (t := 58) rfl)) ?_
  rintro _ _ ⟨_, cc, hcc, rfl, rfl⟩
  refine WE ?_
  refine WA ?_
  refine wk_of [some 0, some 1, some 2] (fun _ => [(0, .p 0 0 0), (5, .o 2 0 (l ++ [(vc, c)]).length cc), (6, .p 1 0 0), (12, .c (I nr)), (13, .c (I (i + 1 : Nat)))]) (fun _ => [strm v zs ac, .box [.c (I stp)], .arr 28 4 cc (cR (l ++ [(vc, c)]))]) (by decide) (ZNL hE) ZCF ZCH (fun _ => ?_)
  exact ⟨m - 1, by omega, i + 1, cc, l ++ [(vc, c)], ac, by omega, by rw [List.length_append]; simp; omega, fun q hq => by
   rcases List.mem_append.1 hq with hq | hq
   ·exact hlc q hq
   ·rw [List.mem_singleton.1 hq]; exact ⟨hcn, hcst⟩, by omega, by omega, rfl, rfl⟩
 obtain rfl : i = nr := by omega
 have hl1 : l.length ≤ 1000000 := by omega
 have hlc1 : ∀ p ∈ l, p.2.st = stp := fun p hp => (hlc p hp).2
 refine ZZ ?_
 refine aw_wk (wk_of (K := fun F H => ∃ vo po, F = [(5, .c (.r vo (cR l))), (6, .c (.p po [I stp]))] ∧ H = [strm v zs a']) [some 0] (fun g => [(5, .c (.r (g (.o 2 0 l.length cp)) (cR l))), (6, .c (.p (g (.p 1 0 0)) [I stp]))]) (fun _ => [strm v zs a']) (by decide) (ZNL hE) (fun _ => .cons rfl (.frz (b := 2) rfl rfl (by rw [List.drop_zero, List.take_of_length_le (by simp)]) (by simp) rfl) (.cons rfl (frzpL rfl rfl (.cons (.c rfl) .nil)) .nil)) ZCH (fun _ => ⟨_, _, rfl, rfl⟩)) ?_
 rintro F H ⟨vo, po, rfl, rfl⟩
 refine WR ?_
 refine al_ef rfl (ef_call0 false (fun _ => delst_v vo po stp l hl1 hlc1) rfl .fn rfl (by decide) (by kernel_rfl) rfl (fun _ => C0 rfl) (by simp)) ?_
 rintro _ _ ⟨_, _, _, ⟨rfl, rfl⟩, hF, hH⟩
 (refine NST hF hH ?_; clear hF hH; rintro rfl rfl)
 refine WE ?_
 exact aret_1 [some 0] _ rfl rfl rfl (by decide) (ZNK rfl) ZCH ⟨vo, l, stp, a', rfl, rfl, by omega, by omega, by omega, by omega, hlc⟩
end Go.Proofs.YtniolldgidgffaaGreatDoor
