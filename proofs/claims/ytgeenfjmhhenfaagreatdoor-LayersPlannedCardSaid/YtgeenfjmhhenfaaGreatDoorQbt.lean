/- The reference's plan, by value: PlanOf. -/
import Derived.Test.YtgeenfjmhhenfaaGreatDoorQbs
set_option linter.unusedSimpArgs false
set_option linter.unusedVariables false
/- The program's Lines, filled, by value. -/
-- NEWM
namespace Go.Proofs.YtgeenfjmhhenfaaGreatDoor
open Go Go.RowKit
set_option maxRecDepth 100000
def lnF (c : Cel) (q ev ph : Int) : Int := if celF c ≠ 0 then celF c else if outB q 0 1 = true then 4 else if (outB ev 1 200 || outB ph (-1000) 1000) = true then 1 else 0
theorem grd_wh {c : Cel} (h : RCel c) (q : Int) : wQ (grdOf c) q ≤ 200 ∧ hQ (grdOf c) q ≤ 200 := by
 have h1 := h.w
 have h2 := h.h
 have h3 : (grdOf c).w ≤ 200 ∧ (grdOf c).h ≤ 200 := by
  unfold grdOf
  split
  ·exact ⟨Nat.zero_le _, Nat.zero_le _⟩
  ·exact ⟨h1, h2⟩
 unfold wQ hQ
 split <;> (constructor <;> omega)
theorem lin_len {c : Cel} (h : RCel c) (q ev ph : Int) : (linG (grdOf c) q ev ph).length ≤ 40000 := by
 obtain ⟨h1, h2⟩ := grd_wh h q
 have := lnS_len (atQ (grdOf c) q) (yQ (grdOf c) q) (xQ (grdOf c) q) (wQ (grdOf c) q) ev ph (hQ (grdOf c) q)
 have h3 : hQ (grdOf c) q * wQ (grdOf c) q ≤ 200 * 200 := Nat.mul_le_mul h2 h1
 unfold linG
 omega
theorem lin_bd {g : Grd} (hg : GOk g) {q ev ph : Int} {l : Lin} (h : l ∈ linG g q ev ph) : (-20000000 ≤ l.1 ∧ l.1 ≤ 20000000) ∧ (-20000000 ≤ l.2.1 ∧ l.2.1 ≤ 20000000) ∧ (-20000000 ≤ l.2.2 ∧ l.2.2 ≤ 20000000) := by
 have hgx := hg.x
 have hgy := hg.y
 have hgw := hg.w
 have hgh := hg.h
 have hYb : -10000000 ≤ yQ g q ∧ yQ g q ≤ 10000000 := by unfold yQ; split <;> omega
 have hXb : -10000000 ≤ xQ g q ∧ xQ g q ≤ 10000000 := by unfold xQ; split <;> omega
 have hWb : wQ g q ≤ 1000 := by unfold wQ; split <;> omega
 have hHb : hQ g q ≤ 1000 := by unfold hQ; split <;> omega
 unfold linG lnS at h
 obtain ⟨i, hi, h2⟩ := List.mem_flatMap.1 h
 rw [List.mem_range] at hi
 split at h2
 ·cases h2
 ·unfold lnC at h2
  obtain ⟨k, hk, rfl⟩ := List.mem_map.1 h2
  have hk2 := List.mem_range.1 (List.mem_filter.1 hk).1
  obtain ⟨s1, s2, _, _⟩ := @rE_spec (atQ g q (yQ g q + (i : Nat))) (wQ g q - 1 - k) (xQ g q + (k : Nat))
  simp only
  omega
set_option maxHeartbeats 2000000 in
theorem lined_v (va : Value) (c : Cel) (q ev ph : Int) (hl : c.rows.length ≤ 1000000000) (hr : ∀ r ∈ c.rows, r.length ≤ 1000000000) : ACalls Tryz.prog 88 [celA va c, .c (I q), .c (I ev), .c (I ph)] [] fun u H => (lnF c q ev ph ≠ 0 → u = .t [.a [.c (.s (.pointer none)), .c (I 0)], .c (.r (.slice none 0 0) []), .c (I (lnF c q ev ph))]) ∧ (lnF c q ev ph = 0 → ∃ gp gv lv, u = .t [linA gp gv (grdOf c) q, .c (.r lv (lnR (linG (grdOf c) q ev ph))), .c (I 0)]) ∧ H = [] := by
 obtain ⟨cf, hcf⟩ : ∃ z, celF c = z := ⟨_, rfl⟩
 obtain ⟨b1, h1⟩ : ∃ z, outB q 0 1 = z := ⟨_, rfl⟩
 obtain ⟨b2, h2⟩ : ∃ z, outB ev 1 200 = z := ⟨_, rfl⟩
 obtain ⟨b3, h3⟩ : ∃ z, outB ph (-1000) 1000 = z := ⟨_, rfl⟩
 have hF0 : lnF c q ev ph = if cf ≠ 0 then cf else if b1 = true then 4 else if (b2 || b3) = true then 1 else 0 := by rw [lnF, hcf, h1, h2, h3]
 rw [hF0]
 refine acalls_of (N := 44) Tryz.func88 rfl rfl (by simp) fun E hE => ?_
 refine WA ?_
 refine WR ?_
 refine al_ef rfl (ef_call0 false (fun _ => check_v va c hl hr) rfl .fn rfl (by decide) (by kernel_rfl) rfl (fun _ => C0 rfl) (by simp)) ?_
 rintro _ _ ⟨_, _, _, ⟨rfl, rfl⟩, hF, hH⟩
 rw [hcf] at hF
 (refine NST hF hH ?_; clear hF hH; rintro rfl rfl)
 refine WE ?_
 refine WA ?_
 refine aw_if rfl (fun hz => ?_) (fun hz => ?_)
 ·rw [if_pos hz]
  refine WA ?_
  exact aret_of (us := [.a [.c (.s (.pointer none)), .c (I 0)], .c (.r (.slice none 0 0) []), .c (I (cf))]) [] (fun _ => .t [.a [.c (.s (.pointer none)), .c (I 0)], .c (.r (.slice none 0 0) []), .c (I (cf))]) (fun _ => []) (.cella (n := 2) rfl (by kernel_rfl) (Cells.box rfl) (by first | (simp; done) | exact Nat.le_refl 2) (by (try simp only [nm, putL, Nat.reduceAdd, cellsOf, cvOf]) <;> rfl) (.tmp rfl (.tmp rfl .nil))) (by decide) (fun i hi => absurd hi (Nat.not_lt_zero i)) (fun _ => cvt_clo _ _ _ _ _ rfl) (fun _ => .nil) (fun _ => ⟨fun _ => rfl, fun e => absurd e (hz), rfl⟩)
 rw [if_neg hz]
 obtain rfl : cf = 0 := by omega
 have hc := celF_0.1 hcf
 refine ZZ ?_
 cases b1 with
 | true =>
  refine WR ?_
  refine al_ef rfl (ef_call0 false (fun _ => out_v _ _ _) rfl .fn rfl (by decide) (by kernel_rfl) rfl (fun _ => C0 rfl) (by simp)) ?_
  rintro _ _ ⟨_, _, _, ⟨rfl, rfl⟩, hF, hH⟩
  rw [h1] at hF
  (refine NST hF hH ?_; clear hF hH; rintro rfl rfl)
  refine WE ?_
  refine aw_cond_t rfl ?_
  refine WA ?_
  exact aret_of (us := [.a [.c (.s (.pointer none)), .c (I 0)], .c (.r (.slice none 0 0) []), .c (I (4))]) [] (fun _ => .t [.a [.c (.s (.pointer none)), .c (I 0)], .c (.r (.slice none 0 0) []), .c (I (4))]) (fun _ => []) (.cella (n := 2) rfl (by kernel_rfl) (Cells.box rfl) (by first | (simp; done) | exact Nat.le_refl 2) (by (try simp only [nm, putL, Nat.reduceAdd, cellsOf, cvOf]) <;> rfl) (.tmp rfl (.tmp rfl .nil))) (by decide) (fun i hi => absurd hi (Nat.not_lt_zero i)) (fun _ => cvt_clo _ _ _ _ _ rfl) (fun _ => .nil) (fun _ => ⟨fun _ => rfl, fun e => absurd e ((by decide : (4 : Int) ≠ 0)), rfl⟩)
 | false =>
 refine WR ?_
 refine al_ef rfl (ef_call0 false (fun _ => out_v _ _ _) rfl .fn rfl (by decide) (by kernel_rfl) rfl (fun _ => C0 rfl) (by simp)) ?_
 rintro _ _ ⟨_, _, _, ⟨rfl, rfl⟩, hF, hH⟩
 rw [h1] at hF
 (refine NST hF hH ?_; clear hF hH; rintro rfl rfl)
 refine WE ?_
 refine aw_cond_f rfl ?_
 refine ZZ ?_
 cases b2 with
 | true =>
  refine WR ?_
  refine al_ef rfl (ef_call0 false (fun _ => out_v _ _ _) rfl .fn rfl (by decide) (by kernel_rfl) rfl (fun _ => C0 rfl) (by simp)) ?_
  rintro _ _ ⟨_, _, _, ⟨rfl, rfl⟩, hF, hH⟩
  rw [h2] at hF
  (refine NST hF hH ?_; clear hF hH; rintro rfl rfl)
  refine WO ?_
  first | refine ZS ?_ | (refine G1 rfl ?_; refine al_ef rfl (ef_call0 false (fun _ => out_v _ _ _) rfl .fn rfl (by decide) (by kernel_rfl) rfl (fun _ => C0 rfl) (by simp)) ?_; rintro _ _ ⟨_, _, _, ⟨rfl, rfl⟩, hF, hH⟩; rw [h3] at hF; (refine NST hF hH ?_; clear hF hH; rintro rfl rfl)) | skip
  refine WE ?_
  refine aw_cond_t rfl ?_
  refine WA ?_
  exact aret_of (us := [.a [.c (.s (.pointer none)), .c (I 0)], .c (.r (.slice none 0 0) []), .c (I (1))]) [] (fun _ => .t [.a [.c (.s (.pointer none)), .c (I 0)], .c (.r (.slice none 0 0) []), .c (I (1))]) (fun _ => []) (.cella (n := 2) rfl (by kernel_rfl) (Cells.box rfl) (by first | (simp; done) | exact Nat.le_refl 2) (by (try simp only [nm, putL, Nat.reduceAdd, cellsOf, cvOf]) <;> rfl) (.tmp rfl (.tmp rfl .nil))) (by decide) (fun i hi => absurd hi (Nat.not_lt_zero i)) (fun _ => cvt_clo _ _ _ _ _ rfl) (fun _ => .nil) (fun _ => ⟨fun _ => rfl, fun e => absurd e ((by decide : (1 : Int) ≠ 0)), rfl⟩)
 | false =>
 cases b3 with
 | true =>
  refine WR ?_
  refine al_ef rfl (ef_call0 false (fun _ => out_v _ _ _) rfl .fn rfl (by decide) (by kernel_rfl) rfl (fun _ => C0 rfl) (by simp)) ?_
  rintro _ _ ⟨_, _, _, ⟨rfl, rfl⟩, hF, hH⟩
  rw [h2] at hF
  (refine NST hF hH ?_; clear hF hH; rintro rfl rfl)
  refine WO ?_
  first | refine ZS ?_ | (refine G1 rfl ?_; refine al_ef rfl (ef_call0 false (fun _ => out_v _ _ _) rfl .fn rfl (by decide) (by kernel_rfl) rfl (fun _ => C0 rfl) (by simp)) ?_; rintro _ _ ⟨_, _, _, ⟨rfl, rfl⟩, hF, hH⟩; rw [h3] at hF; (refine NST hF hH ?_; clear hF hH; rintro rfl rfl)) | skip
  refine WE ?_
  refine aw_cond_t rfl ?_
  refine WA ?_
  exact aret_of (us := [.a [.c (.s (.pointer none)), .c (I 0)], .c (.r (.slice none 0 0) []), .c (I (1))]) [] (fun _ => .t [.a [.c (.s (.pointer none)), .c (I 0)], .c (.r (.slice none 0 0) []), .c (I (1))]) (fun _ => []) (.cella (n := 2) rfl (by kernel_rfl) (Cells.box rfl) (by first | (simp; done) | exact Nat.le_refl 2) (by (try simp only [nm, putL, Nat.reduceAdd, cellsOf, cvOf]) <;> rfl) (.tmp rfl (.tmp rfl .nil))) (by decide) (fun i hi => absurd hi (Nat.not_lt_zero i)) (fun _ => cvt_clo _ _ _ _ _ rfl) (fun _ => .nil) (fun _ => ⟨fun _ => rfl, fun e => absurd e ((by decide : (1 : Int) ≠ 0)), rfl⟩)
 | false =>
 have hev1 : 1 ≤ ev := by simp [outB] at h2; omega
 have hph1 : -1000000 ≤ ph ∧ ph ≤ 1000000 := by simp [outB] at h3; omega
 refine WR ?_
 refine al_ef rfl (ef_call0 false (fun _ => out_v _ _ _) rfl .fn rfl (by decide) (by kernel_rfl) rfl (fun _ => C0 rfl) (by simp)) ?_
 rintro _ _ ⟨_, _, _, ⟨rfl, rfl⟩, hF, hH⟩
 rw [h2] at hF
 (refine NST hF hH ?_; clear hF hH; rintro rfl rfl)
 refine WO ?_
 first | refine ZS ?_ | (refine G1 rfl ?_; refine al_ef rfl (ef_call0 false (fun _ => out_v _ _ _) rfl .fn rfl (by decide) (by kernel_rfl) rfl (fun _ => C0 rfl) (by simp)) ?_; rintro _ _ ⟨_, _, _, ⟨rfl, rfl⟩, hF, hH⟩; rw [h3] at hF; (refine NST hF hH ?_; clear hF hH; rintro rfl rfl)) | skip
 refine WE ?_
 refine aw_cond_f rfl ?_
 refine ZZ ?_
 refine WR ?_
 refine al_ef rfl (ef_call0 false (fun _ => gridof_v va c hc) rfl .fn rfl (by decide) (by kernel_rfl) rfl (fun _ => C0 rfl) (by simp)) ?_
 rintro _ _ ⟨_, _, _, ⟨gp, gv, rfl, rfl⟩, hF, hH⟩
 (refine NST hF hH ?_; clear hF hH; rintro rfl rfl)
 refine WE ?_
 have hlen := lin_len hc q ev ph
 refine WR ?_
 refine al_ef rfl (ef_call0 false (fun _ => llines_v gp gv (grdOf c) q ev ph (grdOf_ok hc) hev1 hph1) rfl .fn rfl (by decide) (by kernel_rfl) rfl (fun _ => C0 rfl) (by simp)) ?_
 rintro _ _ ⟨_, _, _, ⟨lv, rfl, rfl⟩, hF, hH⟩
 (refine NST hF hH ?_; clear hF hH; rintro rfl rfl)
 refine WE ?_
 generalize linG (grdOf c) q ev ph = LL at *
 have e1 : (lnR LL).length = LL.length := by simp
 have hle : ¬ (100000 : Int) < ((lnR LL).length : Int) := by omega
 refine WA ?_
 refine aw_cond_f rfl ?_
 refine ZZ ?_
 refine WA ?_
 exact aret_of (us := [linA gp gv (grdOf c) q, .c (.r lv (lnR LL)), .c (I 0)]) [] (fun _ => .t [linA gp gv (grdOf c) q, .c (.r lv (lnR LL)), .c (I 0)]) (fun _ => []) (.cella (n := 2) rfl (by kernel_rfl) (Cells.box rfl) (by first | (simp; done) | exact Nat.le_refl 2) (by (try simp only [nm, putL, Nat.reduceAdd, cellsOf, cvOf]) <;> rfl) (.tmp rfl (.tmp rfl .nil))) (by decide) (fun i hi => absurd hi (Nat.not_lt_zero i)) (fun _ => cvt_clo _ _ _ _ _ rfl) (fun _ => .nil) (fun _ => ⟨fun e => absurd rfl e, fun _ => ⟨gp, gv, lv, rfl⟩, rfl⟩)
abbrev Pth := Value × List Spot × Bool
abbrev pthR (p : Pth) : List CV := [.r p.1 (sR p.2.1), B p.2.2]
abbrev paR (l : List Pth) : List (List CV) := l.map pthR
set_option maxHeartbeats 2000000 in
theorem lines_v (va : Value) (c : Cel) (q ev ph : Int) (hl : c.rows.length ≤ 1000000000) (hr : ∀ r ∈ c.rows, r.length ≤ 1000000000) : ACalls Tryz.prog 29 [celA va c, .c (I q), .c (I ev), .c (I ph)] [] fun u H => ∃ (v : Value) (pl : List Pth), u = .t [.c (.r v (paR pl)), .c (I (lnF c q ev ph))] ∧ (lnF c q ev ph ≠ 0 → pl = []) ∧ (lnF c q ev ph = 0 → pl.map Prod.snd = (linG (grdOf c) q ev ph).map fun l => (ptsL c.st q l, false)) ∧ H = [] := by
 obtain ⟨fz, hfz⟩ : ∃ z, lnF c q ev ph = z := ⟨_, rfl⟩
 by_cases hz : lnF c q ev ph ≠ 0
 ·rw [hfz]
  refine acalls_of (N := 48) Tryz.func29 rfl rfl (by simp) fun E hE => ?_
  refine WA ?_
  refine WR ?_
  refine al_ef rfl (ef_call0 false (fun _ => lined_v va c q ev ph hl hr) rfl .fn rfl (by decide) (by kernel_rfl) rfl (fun _ => C0 rfl) (by simp)) ?_
  rintro _ _ ⟨_, _, _, ⟨hu1, hu2, rfl⟩, hF, hH⟩
  rw [hu1 hz, hfz] at hF
  (refine NST hF hH ?_; clear hF hH; rintro rfl rfl)
  refine WE ?_
  rw [hfz] at hz
  refine WA ?_
  refine aw_cond_t rfl ?_
  refine WA ?_
  exact aret_2 [] _ rfl rfl rfl rfl rfl (by decide) (ZNK rfl) (fun _ => .nil) ⟨.slice none 0 0, [], rfl, fun _ => rfl, fun e => absurd e hz, rfl⟩
 ·obtain rfl : fz = 0 := by rw [← hfz]; simpa using hz
  have hcf : celF c = 0 := Classical.byContradiction fun e => by rw [lnF, if_pos e] at hfz; exact e hfz
  have hc := celF_0.1 hcf
  have hgo := grdOf_ok hc
  have hst := hc.st
  have hgs : 0 ≤ (grdOf c).st ∧ (grdOf c).st ≤ 10000 := by rw [grdOf_st]; omega
  have hlb := lin_len hc q ev ph
  have hbd := fun l h => @lin_bd (grdOf c) hgo q ev ph l h
  have hgst := grdOf_st c
  rw [hfz]
  refine acalls_of (N := 48) Tryz.func29 rfl rfl (by simp) fun E hE => ?_
  refine WA ?_
  refine WR ?_
  refine al_ef rfl (ef_call0 false (fun _ => lined_v va c q ev ph hl hr) rfl .fn rfl (by decide) (by kernel_rfl) rfl (fun _ => C0 rfl) (by simp)) ?_
  rintro _ _ ⟨_, _, _, ⟨hu1, hu2, rfl⟩, hF, hH⟩
  obtain ⟨gp, gv, lv, hu3⟩ := hu2 hfz
  rw [hu3] at hF
  (refine NST hF hH ?_; clear hF hH; rintro rfl rfl)
  refine WE ?_
  generalize linG (grdOf c) q ev ph = LL at *
  have e1 : (lnR LL).length = LL.length := by simp
  refine WA ?_
  refine aw_cond_f rfl ?_
  refine ZZ ?_
  refine WA ?_
  refine WA ?_
  refine aw_loopw (fun m F H => ∃ (i cp : Nat) (pl : List Pth), m + i = LL.length ∧ pl.map Prod.snd = (LL.take i).map (fun l => (ptsL c.st q l, false)) ∧ F = [(10, .p 0 0 0), (13, .o 1 0 pl.length cp), (28, .c (.r lv (lnR LL))), (29, .c (I (lnR LL).length)), (30, .c (I i))] ∧ H = [linB gp gv (grdOf c) q, .arr 127 2 cp (paR pl)]) ?_ ?_
  ·refine wk_of [some 1, none] (fun _ => [(10, .p 0 0 0), (13, .o 1 0 0 0), (28, .c (.r lv (lnR LL))), (29, .c (I (lnR LL).length)), (30, .c (I (0 : Nat)))]) (fun _ => [linB gp gv (grdOf c) q, .arr 127 2 0 (paR [])]) (by decide) (ZNL hE) ZCF ZCH (fun _ => ?_)
   exact ⟨LL.length, 0, 0, [], by omega, rfl, rfl, rfl⟩
  rintro m F H ⟨i, cp, pl, hi, hpl, rfl, rfl⟩
  have hpll : pl.length = i := by have := congrArg List.length hpl; simp at this; omega
  refine WA ?_
  refine aw_if rfl (fun hlt => ?_) (fun hge => ?_)
  ·obtain ⟨⟨r, a, b⟩, hli⟩ : ∃ e, LL[i]? = some e := ⟨_, List.getElem?_eq_getElem (by omega)⟩
   have hrow : (lnR LL)[i]? = some [I r, I a, I b] := by rw [List.getElem?_map, hli]; rfl
   obtain ⟨hb1, hb2, hb3⟩ := hbd _ (List.mem_of_getElem? hli)
   have htk : LL.take (i + 1) = LL.take i ++ [(r, a, b)] := by rw [List.take_add_one, hli]; rfl
   refine WA ?_
   refine WR ?_
   refine al_ef rfl (ef_call0 false (fun _ => points_v gp gv (grdOf c) q (r, a, b) hgs hb1 hb2 hb3) rfl .fn rfl (by decide) (by kernel_rfl) rfl (fun _ => C0 rfl) (by simp)) ?_
   rintro _ _ ⟨_, _, _, ⟨vp, rfl, rfl⟩, hF, hH⟩
   (refine NST hF hH ?_; clear hF hH; rintro rfl rfl)
   refine WO ?_
   refine al_ef rfl (Zapp (KA (t := 64) rfl)) ?_
   rintro _ _ ⟨_, cc, hcc, rfl, rfl⟩
   refine WE ?_
   refine WA ?_
   refine wk_of [some 0, some 1] (fun _ => [(10, .p 0 0 0), (13, .o 1 0 (pl ++ [((vp, ptsL (grdOf c).st q (r, a, b), false) : Pth)]).length cc), (28, .c (.r lv (lnR LL))), (29, .c (I (lnR LL).length)), (30, .c (I (i + 1 : Nat)))]) (fun _ => [linB gp gv (grdOf c) q, .arr 127 2 cc (paR (pl ++ [((vp, ptsL (grdOf c).st q (r, a, b), false) : Pth)]))]) (by decide) (ZNL hE) ZCF ZCH (fun _ => ?_)
   exact ⟨m - 1, by omega, i + 1, cc, pl ++ [((vp, ptsL (grdOf c).st q (r, a, b), false) : Pth)], by omega, by rw [List.map_append, hpl, htk, List.map_append, hgst]; rfl, rfl, rfl⟩
  obtain rfl : i = LL.length := by omega
  rw [List.take_length] at hpl
  refine ZZ ?_
  refine WA ?_
  exact aret_f2 [] _ rfl rfl rfl rfl rfl rfl (by rw [List.drop_zero, List.take_of_length_le (by simp)]) (by simp) rfl (by decide) (ZNK rfl) (fun _ => .nil) (fun q => ⟨q, pl, rfl, fun e => absurd rfl e, fun _ => hpl, rfl⟩)
def cel2 : Cel := ⟨10, 0, 0, [[35, 35]]⟩
theorem cel2_lin : lnF cel2 0 1 0 = 0 ∧ ((linG (grdOf cel2) 0 1 0).map fun l => (ptsL cel2.st 0 l, false)) = [([(5, 5), (15, 5)], false)] := ⟨by decide +kernel, by decide +kernel⟩
theorem lines2_v (va : Value) : ACalls Tryz.prog 29 [.a [.c (I 10), .c (I 0), .c (I 0), .c (.r va [[T [35, 35]]])], .c (I 0), .c (I 1), .c (I 0)] [] fun u H => ∃ v vp, u = .t [.c (.r v [[.r vp (sR [(5, 5), (15, 5)]), B false]]), .c (I 0)] ∧ H = [] := by
 refine (lines_v va cel2 0 1 0 (by decide) (by decide)).mono fun u H h => ?_
 obtain ⟨v, pl, hu, _, h2, h3⟩ := h
 rw [cel2_lin.1] at hu h2
 rw [cel2_lin.2] at h2
 have h4 := h2 rfl
 match pl, h4 with
 | [(vp, pts, b)], h4 =>
  simp only [List.map_cons, List.map_nil, List.cons.injEq, and_true, Prod.mk.injEq] at h4
  obtain ⟨rfl, rfl⟩ := h4
  exact ⟨v, vp, hu, h3⟩
theorem filled_v : ACalls Tryz.prog 27 [] [] fun u H => u = .c (B true) ∧ H = [] := by
 refine acalls_of (N := 24) Tryz.func27 rfl rfl (by simp) fun E hE => ?_
 refine WA ?_
 refine WR ?_
 refine al_wk (wk_of (K := fun F H => ∃ vz, F = [(5, .a [.c (I 10), .c (I 0), .c (I 0), .c (.r vz [[T [35, 35]]])])] ∧ H = []) [] (fun g => [(5, .a [.c (I 10), .c (I 0), .c (I 0), .c (.r (g (.o 0 0 1 1)) [[T [35, 35]]])])]) (fun _ => []) (by decide) (ZNL hE) (fun _g => .cons rfl (.aL (.cons (.c rfl) (.cons (.c rfl) (.cons (.c rfl) (.cons (.frz rfl rfl rfl rfl rfl) .nil))))) .nil) (fun _ => .nil) (fun _ => ⟨_, rfl, rfl⟩)) ?_
 rintro F H ⟨vz, rfl, rfl⟩
 refine al_ef rfl (ef_call0 false (fun _ => lines2_v vz) rfl .fn rfl (by decide) (by kernel_rfl) rfl (fun _ => C0 rfl) (by simp)) ?_
 rintro _ _ ⟨_, _, _, ⟨v, vp, rfl, rfl⟩, hF, hH⟩
 (refine NST hF hH ?_; clear hF hH; rintro rfl rfl)
 refine WE ?_
 have z0 : (0 : Int) = 0 := rfl
 have z1 : ((([[CV.r vp (sR [(5, 5), (15, 5)]), B false]] : List (List CV)).length : Nat) : Int) = 1 := rfl
 have z2 : (((sR [(5, 5), (15, 5)]).length : Nat) : Int) = 2 := rfl
 have hrow : ([[CV.r vp (sR [(5, 5), (15, 5)]), B false]] : List (List CV))[0]? = some [CV.r vp (sR [(5, 5), (15, 5)]), B false] := rfl
 refine WA ?_
 exact aret_1 [] _ rfl rfl rfl (by decide) (ZNK rfl) (fun _ => .nil) ⟨rfl, rfl⟩
end Go.Proofs.YtgeenfjmhhenfaaGreatDoor

/- The reference's plan, by value: PlanOf. -/
namespace Go.Proofs.YtgeenfjmhhenfaaGreatDoor
open Go Go.RowKit
set_option maxRecDepth 100000
theorem frzfL {g : AV → Value} {m : List (Option Nat)} {H : List OB} {fz : Bool} {fn : Fn} {l : List AV} {row : List CV} (hc : CvL g m H fz l (row.map .c)) : Cvt g m H fz (.f fn l) (.c (.f (g (.f fn l)) fn row)) :=
 .frzf (by have := hc.both.1; simpa using this) (fun i x u hx hu => hc.both.2 i x (.c u) hx (by rw [List.getElem?_map, hu]; rfl))
set_option maxHeartbeats 4000000 in
theorem planof_v (va : Value) (l : List (Value × Cel)) (wn : Nat) (t b e : Int) (hw10 : wn ≤ 10) (ht50 : 0 ≤ t ∧ t ≤ 50) (hb50 : 0 ≤ b ∧ b ≤ 50) (hl : l.length ≤ 50) (hnn : ∀ p ∈ l, NCel p.2) : ACalls Tryz.prog 22 [.c (.r va (cR l)), .a [.c (I wn), .c (I t), .c (I b), .c (I e)]] [] fun u H => ∃ (v : Value) (fl : List Fil), u = .c (.r v (fR fl)) ∧ fl.map filC = plnL (l.map Prod.snd) wn t b l.length ∧ H = [] := by
 have e1 : (cR l).length = l.length := by simp
 refine acalls_of (N := 48) Tryz.func22 rfl rfl (by simp) fun E hE => ?_
 refine WA ?_
 refine WA ?_
 refine WA ?_
 refine aw_loopw (fun m F H => ∃ (i cp : Nat) (fl : List Fil), m + i = l.length ∧ fl.map filC = plnL (l.map Prod.snd) wn t b i ∧ F = [(0, .c (.r va (cR l))), (3, .p 0 0 0), (5, .o 1 0 fl.length cp), (12, .c (.r va (cR l))), (13, .c (I (cR l).length)), (14, .c (I i))] ∧ H = [.box [.c (I wn), .c (I t), .c (I b), .c (I e)], .arr 58 9 cp (fR fl)]) ?_ ?_
 ·refine wk_of [some 0, none] (fun _ => [(0, .c (.r va (cR l))), (3, .p 0 0 0), (5, .o 1 0 0 0), (12, .c (.r va (cR l))), (13, .c (I (cR l).length)), (14, .c (I (0 : Nat)))]) (fun _ => [.box [.c (I wn), .c (I t), .c (I b), .c (I e)], .arr 58 9 0 (fR [])]) (by decide) (ZNL hE) ZCF ZCH (fun _ => ?_)
  exact ⟨l.length, 0, 0, [], by omega, rfl, rfl, rfl⟩
 rintro m F H ⟨i, cp, fl, hi, hfl, rfl, rfl⟩
 have hfll : fl.length = i := by have := congrArg List.length hfl; simpa [plnL] using this
 refine WA ?_
 refine aw_if rfl (fun hlt => ?_) (fun hge => ?_)
 ·obtain ⟨⟨vc, c⟩, hic⟩ : ∃ e, l[i]? = some e := ⟨_, List.getElem?_eq_getElem (by omega)⟩
  have hrow : (cR l)[i]? = some (celR vc c) := by rw [List.getElem?_map, hic]; rfl
  have hnc : NCel c := hnn _ (List.mem_of_getElem? hic)
  have hicc : (l.map Prod.snd)[i]? = some c := by rw [List.getElem?_map, hic]; rfl
  have hwal := wallsof_v vc c hnc wn hw10
  have hsol := solidof_v va l i t b ht50 hb50 hl hnn c vc hic
  have hrS : RCel (celN c.st (solL (l.map Prod.snd) i t b)) := (normC_ok hnc (sol_sub hicc)).2
  have hrR : RCel (celN c.st (shrL wn (covL c))) := (normC_ok hnc shr_sub).2
  obtain ⟨hb1, _⟩ := both_eq hnc (A := shrL wn (covL c)) (B' := solL (l.map Prod.snd) i t b) shr_sub
  obtain ⟨hm1, _⟩ := min_eq hnc (A := shrL wn (covL c)) (B' := solL (l.map Prod.snd) i t b) shr_sub
  have hlS := covL_len hrS
  have hth1 : ∀ pv vp v1, ACalls Tryz.prog 80 [celA v1 (celN c.st (shrL wn (covL c))), .f (.func 84) [.c (.p pv [.r vp (sR (covL (celN c.st (solL (l.map Prod.snd) i t b))))])]] [] fun u H => ∃ v', u = celA v' (celN c.st (botL (shrL wn (covL c)) (solL (l.map Prod.snd) i t b))) ∧ H = [] := fun pv vp v1 => by
   have := these_v 84 [.c (.p pv [.r vp (sR (covL (celN c.st (solL (l.map Prod.snd) i t b))))])] rfl (by kernel_rfl) (fun q => decide (q ∈ covL (celN c.st (solL (l.map Prod.snd) i t b)))) v1 _ hrR (fun x y _ => isin_v pv vp _ hlS x y)
   have h7 := hb1
   unfold botL at h7
   rw [h7] at this
   exact this
  have hth2 : ∀ qv fv pv vp v1, ACalls Tryz.prog 80 [celA v1 (celN c.st (shrL wn (covL c))), .f (.func 85) [.c (.p qv [.f fv (.func 84) [.p pv [.r vp (sR (covL (celN c.st (solL (l.map Prod.snd) i t b))))]]])]] [] fun u H => ∃ v', u = celA v' (celN c.st (minL (shrL wn (covL c)) (solL (l.map Prod.snd) i t b))) ∧ H = [] := fun qv fv pv vp v1 => by
   have := these_v 85 [.c (.p qv [.f fv (.func 84) [.p pv [.r vp (sR (covL (celN c.st (solL (l.map Prod.snd) i t b))))]]])] rfl (by kernel_rfl) (fun q => !decide (q ∈ covL (celN c.st (solL (l.map Prod.snd) i t b)))) v1 _ hrR (fun x y _ => isnot_v qv fv pv vp _ hlS x y)
   have h7 := hm1
   unfold minL at h7
   rw [h7] at this
   exact this
  have hnx : plnL (l.map Prod.snd) wn t b (i + 1) = plnL (l.map Prod.snd) wn t b i ++ [((List.range wn).map (walC c), celN c.st (botL (shrL wn (covL c)) (solL (l.map Prod.snd) i t b)), celN c.st (minL (shrL wn (covL c)) (solL (l.map Prod.snd) i t b)))] := plnL_succ hicc
  clear hrR hb1 hm1
  generalize celN c.st (botL (shrL wn (covL c)) (solL (l.map Prod.snd) i t b)) = SB at *
  generalize celN c.st (minL (shrL wn (covL c)) (solL (l.map Prod.snd) i t b)) = SM at *
  generalize celN c.st (solL (l.map Prod.snd) i t b) = SS at *
  generalize celN c.st (shrL wn (covL c)) = SR at *
  generalize (List.range wn).map (walC c) = WW at *
  refine WA ?_
  refine WR ?_
  refine al_ef rfl (ef_call0 false (fun _ => hwal) rfl .fn rfl (by decide) (by kernel_rfl) rfl (fun _ => C0 rfl) (by simp)) ?_
  rintro _ _ ⟨_, _, _, ⟨vr, vw, lw, rfl, hlw, rfl⟩, hF, hH⟩
  (refine NST hF hH ?_; clear hF hH; rintro rfl rfl)
  refine WE ?_
  refine WR ?_
  refine al_ef rfl (ef_call0 false (fun _ => hsol) rfl .fn rfl (by decide) (by kernel_rfl) rfl (fun _ => C0 rfl) (by simp)) ?_
  rintro _ _ ⟨_, _, _, ⟨vsl, rfl, rfl⟩, hF, hH⟩
  (refine NST hF hH ?_; clear hF hH; rintro rfl rfl)
  refine al_ef rfl (ef_call0 false (fun _ => places_r vsl SS hrS) rfl .fn rfl (by decide) (by kernel_rfl) rfl (fun _ => C0 rfl) (by simp)) ?_
  rintro _ _ ⟨_, _, _, ⟨vp, rfl, rfl⟩, hF, hH⟩
  (refine NST hF hH ?_; clear hF hH; rintro rfl rfl)
  refine WE ?_
  refine WA ?_
  refine aw_wk (wk_of (K := fun F H => ∃ qv fv pv, F = [(0, .c (.r va (cR l))), (3, .p 0 0 0), (5, .o 1 0 fl.length cp), (8, .c (.r vw (cR lw))), (9, .p 2 0 0), (11, .c (.p qv [.f fv (.func 84) [.p pv [.r vp (sR (covL SS))]]])), (12, .c (.r va (cR l))), (13, .c (I (cR l).length)), (14, .c (I i))] ∧ H = [.box [.c (I wn), .c (I t), .c (I b), .c (I e)], .arr 58 9 cp (fR fl), celB vr SR]) [some 0, some 1, some 3] (fun g => [(0, .c (.r va (cR l))), (3, .p 0 0 0), (5, .o 1 0 fl.length cp), (8, .c (.r vw (cR lw))), (9, .p 2 0 0), (11, .c (.p (g (.p 5 0 0)) [.f (g (.f (.func 84) [.p 4 0 0])) (.func 84) [.p (g (.p 4 0 0)) [.r vp (sR (covL SS))]]])), (12, .c (.r va (cR l))), (13, .c (I (cR l).length)), (14, .c (I i))]) (fun _ => [.box [.c (I wn), .c (I t), .c (I b), .c (I e)], .arr 58 9 cp (fR fl), celB vr SR]) (by decide) (ZNL hE) (fun g => .cons rfl (.c rfl) (.cons rfl (.p rfl) (.cons rfl (.o rfl rfl) (.cons rfl (.c rfl) (.cons rfl (.p rfl) (.cons rfl (frzpL rfl rfl (.cons (frzfL (.cons (frzpL rfl rfl (.cons (.c rfl) .nil)) .nil)) .nil)) (.cons rfl (.c rfl) (.cons rfl (.c rfl) (.cons rfl (.c rfl) .nil))))))))) ZCH (fun _ => ⟨_, _, _, rfl, rfl⟩)) ?_
  rintro F H ⟨qv, fv, pv, rfl, rfl⟩
  refine ZZ ?_
  refine aw_regionT [(0, none), (1, none), (2, none), (3, none), (5, none), (6, none), (4, some [0, 1, 5, 6]), (7, some [0, 1]), (8, none), (9, some [0]), (10, some []), (11, none)] hMixed (by kernel_rfl) ?_
  iterate 3 refine WX2 ?_
  refine ZT rfl (rd_ldcp rfl (by kernel_rfl) rfl rfl) ?_
  refine WP ?_
  refine at_ef rfl rfl (ef_call0 false (fun _ => hth1 pv vp vr) rfl .fn rfl (by decide) (by kernel_rfl) rfl (fun _ => .cons (cvt_clo _ _ _ _ _ rfl) (.cons .unf .nil)) (by simp)) ?_
  rintro _ _ ⟨_, _, _, ⟨vs, rfl, rfl⟩, hF, hH⟩
  (refine NST hF hH ?_; clear hF hH; rintro rfl rfl)
  refine ⟨ag_cons (by first | exact ag_rd rfl rfl rfl (rd_move rfl rfl) rfl) (ag_cons (by first | exact ag_rd rfl rfl rfl (rd_move rfl rfl) rfl) (ag_cons (by first | exact ag_rd rfl rfl rfl (ZK (KK (t := 28) rfl)) rfl) (ag_cons (by first | exact ag_rd rfl rfl rfl (rd_makeFunc rfl rfl) rfl) (ag_none)))), ?_⟩
  refine at_ef rfl rfl (ef_call0 false (fun _ => hth2 qv fv pv vp vr) rfl .fn rfl (by decide) (by kernel_rfl) rfl (fun _ => C0 rfl) (by simp)) ?_
  rintro _ _ ⟨_, _, _, ⟨vm, rfl, rfl⟩, hF, hH⟩
  (refine NST hF hH ?_; clear hF hH; rintro rfl rfl)
  refine ⟨ag_cons (by first | exact ag_rd rfl rfl rfl (rd_move rfl rfl) rfl) (ag_cons (by first | exact ag_rd rfl rfl rfl (rd_move rfl rfl) rfl) (ag_none)), ?_⟩
  refine WP ?_
  refine at_ef rfl rfl (Zapp (KA (t := 41) rfl)) ?_
  rintro _ _ ⟨_, cc, hcc, rfl, rfl⟩
  refine ⟨ag_none, ?_⟩
  refine WQ ?_
  all_goals (
   refine WA ?_
   refine wk_of [some 0, some 1] (fun _ => [(0, .c (.r va (cR l))), (3, .p 0 0 0), (5, .o 1 0 (fl ++ [(Fil.mk vw lw (vs, SB) (vm, SM))]).length cc), (12, .c (.r va (cR l))), (13, .c (I (cR l).length)), (14, .c (I (i + 1 : Nat)))]) (fun _ => [.box [.c (I wn), .c (I t), .c (I b), .c (I e)], .arr 58 9 cc (fR (fl ++ [(Fil.mk vw lw (vs, SB) (vm, SM))]))]) (by decide) (ZNL hE) ZCF ZCH (fun _ => ?_)
   have hfc : filC (Fil.mk vw lw (vs, SB) (vm, SM)) = (WW, SB, SM) := by rw [filC, hlw]
   exact ⟨m - 1, by omega, i + 1, cc, fl ++ [(Fil.mk vw lw (vs, SB) (vm, SM))], by omega, by rw [List.map_append, hfl, hnx, List.map_singleton, hfc], rfl, rfl⟩)
 obtain rfl : i = l.length := by omega
 refine ZZ ?_
 refine WA ?_
 exact aret_f1 [] _ rfl rfl rfl rfl (by rw [List.drop_zero, List.take_of_length_le (by simp)]) (by simp) rfl (by decide) (ZNK rfl) (fun _ => .nil) (fun q => ⟨q, fl, rfl, hfl, rfl⟩)
end Go.Proofs.YtgeenfjmhhenfaaGreatDoor
