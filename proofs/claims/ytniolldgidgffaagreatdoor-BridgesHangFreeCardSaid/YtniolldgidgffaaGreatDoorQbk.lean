/- Parts of cells: plain. -/
import Derived.Test.YtniolldgidgffaaGreatDoorQbj
import Derived.Test.YtniolldgidgffaaGreatDoorQbh
import Derived.Test.YtniolldgidgffaaGreatDoorQbb
import Derived.Test.YtniolldgidgffaaGreatDoorQbi
set_option linter.unusedSimpArgs false
set_option linter.unusedVariables false
/- The program's Lines, filled, by value. -/
-- NEWM
namespace Go.Proofs.YtniolldgidgffaaGreatDoor
open Go Go.RowKit
set_option maxRecDepth 100000
def lnF (c : Cel) (q ev ph : Int) : Int := if celF c ≠ 0 then celF c else if outB q 0 1 = true then 4 else if (outB ev 1 200 || outB ph (-1000) 1000) = true then 1 else 0
theorem grd_wh {c : Cel} (h : RCel c) (q : Int) : wQ (grdOf c) q ≤ 200 ∧ hQ (grdOf c) q ≤ 200 := by
 have h1 := h.w
 have h2 := h.h
 have h3 : (grdOf c).w ≤ 200 ∧ (grdOf c).h ≤ 200 := by
  unfold grdOf
  split
  ·exact ⟨Nat.zero_le _, Nat.zero_le _⟩
  ·exact ⟨h1, h2⟩
 unfold wQ hQ
 split <;> (constructor <;> omega)
theorem lin_len {c : Cel} (h : RCel c) (q ev ph : Int) : (linG (grdOf c) q ev ph).length ≤ 40000 := by
 obtain ⟨h1, h2⟩ := grd_wh h q
 have := lnS_len (atQ (grdOf c) q) (yQ (grdOf c) q) (xQ (grdOf c) q) (wQ (grdOf c) q) ev ph (hQ (grdOf c) q)
 have h3 : hQ (grdOf c) q * wQ (grdOf c) q ≤ 200 * 200 := Nat.mul_le_mul h2 h1
 unfold linG
 omega
theorem lin_bd {g : Grd} (hg : GOk g) {q ev ph : Int} {l : Lin} (h : l ∈ linG g q ev ph) : (-20000000 ≤ l.1 ∧ l.1 ≤ 20000000) ∧ (-20000000 ≤ l.2.1 ∧ l.2.1 ≤ 20000000) ∧ (-20000000 ≤ l.2.2 ∧ l.2.2 ≤ 20000000) := by
 have hgx := hg.x
 have hgy := hg.y
 have hgw := hg.w
 have hgh := hg.h
 have hYb : -10000000 ≤ yQ g q ∧ yQ g q ≤ 10000000 := by unfold yQ; split <;> omega
 have hXb : -10000000 ≤ xQ g q ∧ xQ g q ≤ 10000000 := by unfold xQ; split <;> omega
 have hWb : wQ g q ≤ 1000 := by unfold wQ; split <;> omega
 have hHb : hQ g q ≤ 1000 := by unfold hQ; split <;> omega
 unfold linG lnS at h
 obtain ⟨i, hi, h2⟩ := List.mem_flatMap.1 h
 rw [List.mem_range] at hi
 split at h2
 ·cases h2
 ·unfold lnC at h2
  obtain ⟨k, hk, rfl⟩ := List.mem_map.1 h2
  have hk2 := List.mem_range.1 (List.mem_filter.1 hk).1
  obtain ⟨s1, s2, _, _⟩ := @rE_spec (atQ g q (yQ g q + (i : Nat))) (wQ g q - 1 - k) (xQ g q + (k : Nat))
  simp only
  omega
set_option maxHeartbeats 2000000 in
theorem lined_v (va : Value) (c : Cel) (q ev ph : Int) (hl : c.rows.length ≤ 1000000000) (hr : ∀ r ∈ c.rows, r.length ≤ 1000000000) : ACalls Tryz.prog 62 [celA va c, .c (I q), .c (I ev), .c (I ph)] [] fun u H => (lnF c q ev ph ≠ 0 → u = .t [.a [.c (.s (.pointer none)), .c (I 0)], .c (.r (.slice none 0 0) []), .c (I (lnF c q ev ph))]) ∧ (lnF c q ev ph = 0 → ∃ gp gv lv, u = .t [linA gp gv (grdOf c) q, .c (.r lv (lnR (linG (grdOf c) q ev ph))), .c (I 0)]) ∧ H = [] := by
 obtain ⟨cf, hcf⟩ : ∃ z, celF c = z := ⟨_, rfl⟩
 obtain ⟨b1, h1⟩ : ∃ z, outB q 0 1 = z := ⟨_, rfl⟩
 obtain ⟨b2, h2⟩ : ∃ z, outB ev 1 200 = z := ⟨_, rfl⟩
 obtain ⟨b3, h3⟩ : ∃ z, outB ph (-1000) 1000 = z := ⟨_, rfl⟩
 have hF0 : lnF c q ev ph = if cf ≠ 0 then cf else if b1 = true then 4 else if (b2 || b3) = true then 1 else 0 := by rw [lnF, hcf, h1, h2, h3]
 rw [hF0]
 refine acalls_of (N := 44) Tryz.func62 rfl rfl (by simp) fun E hE => ?_
 refine WA ?_
 refine WR ?_
 refine al_ef rfl (ef_call0 false (fun _ => check_v va c hl hr) rfl .fn rfl (by decide) (by kernel_rfl) rfl (fun _ => C0 rfl) (by simp)) ?_
 rintro _ _ ⟨_, _, _, ⟨rfl, rfl⟩, hF, hH⟩
 rw [hcf] at hF
 (refine NST hF hH ?_; clear hF hH; rintro rfl rfl)
 refine WE ?_
 refine WA ?_
 refine aw_if rfl (fun hz => ?_) (fun hz => ?_)
 ·rw [if_pos hz]
  refine WA ?_
  exact aret_of (us := [.a [.c (.s (.pointer none)), .c (I 0)], .c (.r (.slice none 0 0) []), .c (I (cf))]) [] (fun _ => .t [.a [.c (.s (.pointer none)), .c (I 0)], .c (.r (.slice none 0 0) []), .c (I (cf))]) (fun _ => []) (.cella (n := 2) rfl (by kernel_rfl) (Cells.box rfl) (by first | (simp; done) | exact Nat.le_refl 2) (by (try simp only [nm, putL, Nat.reduceAdd, cellsOf, cvOf]) <;> rfl) (.tmp rfl (.tmp rfl .nil))) (by decide) (fun i hi => absurd hi (Nat.not_lt_zero i)) (fun _ => cvt_clo _ _ _ _ _ rfl) (fun _ => .nil) (fun _ => ⟨fun _ => rfl, fun e => absurd e (hz), rfl⟩)
 rw [if_neg hz]
 obtain rfl : cf = 0 := by omega
 have hc := celF_0.1 hcf
 refine ZZ ?_
 cases b1 with
 | true =>
  refine WR ?_
  refine al_ef rfl (ef_call0 false (fun _ => out_v _ _ _) rfl .fn rfl (by decide) (by kernel_rfl) rfl (fun _ => C0 rfl) (by simp)) ?_
  rintro _ _ ⟨_, _, _, ⟨rfl, rfl⟩, hF, hH⟩
  rw [h1] at hF
  (refine NST hF hH ?_; clear hF hH; rintro rfl rfl)
  refine WE ?_
  refine aw_cond_t rfl ?_
  refine WA ?_
  exact aret_of (us := [.a [.c (.s (.pointer none)), .c (I 0)], .c (.r (.slice none 0 0) []), .c (I (4))]) [] (fun _ => .t [.a [.c (.s (.pointer none)), .c (I 0)], .c (.r (.slice none 0 0) []), .c (I (4))]) (fun _ => []) (.cella (n := 2) rfl (by kernel_rfl) (Cells.box rfl) (by first | (simp; done) | exact Nat.le_refl 2) (by (try simp only [nm, putL, Nat.reduceAdd, cellsOf, cvOf]) <;> rfl) (.tmp rfl (.tmp rfl .nil))) (by decide) (fun i hi => absurd hi (Nat.not_lt_zero i)) (fun _ => cvt_clo _ _ _ _ _ rfl) (fun _ => .nil) (fun _ => ⟨fun _ => rfl, fun e => absurd e ((by decide : (4 : Int) ≠ 0)), rfl⟩)
 | false =>
 refine WR ?_
 refine al_ef rfl (ef_call0 false (fun _ => out_v _ _ _) rfl .fn rfl (by decide) (by kernel_rfl) rfl (fun _ => C0 rfl) (by simp)) ?_
 rintro _ _ ⟨_, _, _, ⟨rfl, rfl⟩, hF, hH⟩
 rw [h1] at hF
 (refine NST hF hH ?_; clear hF hH; rintro rfl rfl)
 refine WE ?_
 refine aw_cond_f rfl ?_
 refine ZZ ?_
 cases b2 with
 | true =>
  refine WR ?_
  refine al_ef rfl (ef_call0 false (fun _ => out_v _ _ _) rfl .fn rfl (by decide) (by kernel_rfl) rfl (fun _ => C0 rfl) (by simp)) ?_
  rintro _ _ ⟨_, _, _, ⟨rfl, rfl⟩, hF, hH⟩
  rw [h2] at hF
  (refine NST hF hH ?_; clear hF hH; rintro rfl rfl)
  refine WO ?_
  first | refine ZS ?_ | (refine G1 rfl ?_; refine al_ef rfl (ef_call0 false (fun _ => out_v _ _ _) rfl .fn rfl (by decide) (by kernel_rfl) rfl (fun _ => C0 rfl) (by simp)) ?_; rintro _ _ ⟨_, _, _, ⟨rfl, rfl⟩, hF, hH⟩; rw [h3] at hF; (refine NST hF hH ?_; clear hF hH; rintro rfl rfl)) | skip
  refine WE ?_
  refine aw_cond_t rfl ?_
  refine WA ?_
  exact aret_of (us := [.a [.c (.s (.pointer none)), .c (I 0)], .c (.r (.slice none 0 0) []), .c (I (1))]) [] (fun _ => .t [.a [.c (.s (.pointer none)), .c (I 0)], .c (.r (.slice none 0 0) []), .c (I (1))]) (fun _ => []) (.cella (n := 2) rfl (by kernel_rfl) (Cells.box rfl) (by first | (simp; done) | exact Nat.le_refl 2) (by (try simp only [nm, putL, Nat.reduceAdd, cellsOf, cvOf]) <;> rfl) (.tmp rfl (.tmp rfl .nil))) (by decide) (fun i hi => absurd hi (Nat.not_lt_zero i)) (fun _ => cvt_clo _ _ _ _ _ rfl) (fun _ => .nil) (fun _ => ⟨fun _ => rfl, fun e => absurd e ((by decide : (1 : Int) ≠ 0)), rfl⟩)
 | false =>
 cases b3 with
 | true =>
  refine WR ?_
  refine al_ef rfl (ef_call0 false (fun _ => out_v _ _ _) rfl .fn rfl (by decide) (by kernel_rfl) rfl (fun _ => C0 rfl) (by simp)) ?_
  rintro _ _ ⟨_, _, _, ⟨rfl, rfl⟩, hF, hH⟩
  rw [h2] at hF
  (refine NST hF hH ?_; clear hF hH; rintro rfl rfl)
  refine WO ?_
  first | refine ZS ?_ | (refine G1 rfl ?_; refine al_ef rfl (ef_call0 false (fun _ => out_v _ _ _) rfl .fn rfl (by decide) (by kernel_rfl) rfl (fun _ => C0 rfl) (by simp)) ?_; rintro _ _ ⟨_, _, _, ⟨rfl, rfl⟩, hF, hH⟩; rw [h3] at hF; (refine NST hF hH ?_; clear hF hH; rintro rfl rfl)) | skip
  refine WE ?_
  refine aw_cond_t rfl ?_
  refine WA ?_
  exact aret_of (us := [.a [.c (.s (.pointer none)), .c (I 0)], .c (.r (.slice none 0 0) []), .c (I (1))]) [] (fun _ => .t [.a [.c (.s (.pointer none)), .c (I 0)], .c (.r (.slice none 0 0) []), .c (I (1))]) (fun _ => []) (.cella (n := 2) rfl (by kernel_rfl) (Cells.box rfl) (by first | (simp; done) | exact Nat.le_refl 2) (by (try simp only [nm, putL, Nat.reduceAdd, cellsOf, cvOf]) <;> rfl) (.tmp rfl (.tmp rfl .nil))) (by decide) (fun i hi => absurd hi (Nat.not_lt_zero i)) (fun _ => cvt_clo _ _ _ _ _ rfl) (fun _ => .nil) (fun _ => ⟨fun _ => rfl, fun e => absurd e ((by decide : (1 : Int) ≠ 0)), rfl⟩)
 | false =>
 have hev1 : 1 ≤ ev := by simp [outB] at h2; omega
 have hph1 : -1000000 ≤ ph ∧ ph ≤ 1000000 := by simp [outB] at h3; omega
 refine WR ?_
 refine al_ef rfl (ef_call0 false (fun _ => out_v _ _ _) rfl .fn rfl (by decide) (by kernel_rfl) rfl (fun _ => C0 rfl) (by simp)) ?_
 rintro _ _ ⟨_, _, _, ⟨rfl, rfl⟩, hF, hH⟩
 rw [h2] at hF
 (refine NST hF hH ?_; clear hF hH; rintro rfl rfl)
 refine WO ?_
 first | refine ZS ?_ | (refine G1 rfl ?_; refine al_ef rfl (ef_call0 false (fun _ => out_v _ _ _) rfl .fn rfl (by decide) (by kernel_rfl) rfl (fun _ => C0 rfl) (by simp)) ?_; rintro _ _ ⟨_, _, _, ⟨rfl, rfl⟩, hF, hH⟩; rw [h3] at hF; (refine NST hF hH ?_; clear hF hH; rintro rfl rfl)) | skip
 refine WE ?_
 refine aw_cond_f rfl ?_
 refine ZZ ?_
 refine WR ?_
 refine al_ef rfl (ef_call0 false (fun _ => gridof_v va c hc) rfl .fn rfl (by decide) (by kernel_rfl) rfl (fun _ => C0 rfl) (by simp)) ?_
 rintro _ _ ⟨_, _, _, ⟨gp, gv, rfl, rfl⟩, hF, hH⟩
 (refine NST hF hH ?_; clear hF hH; rintro rfl rfl)
 refine WE ?_
 have hlen := lin_len hc q ev ph
 refine WR ?_
 refine al_ef rfl (ef_call0 false (fun _ => llines_v gp gv (grdOf c) q ev ph (grdOf_ok hc) hev1 hph1) rfl .fn rfl (by decide) (by kernel_rfl) rfl (fun _ => C0 rfl) (by simp)) ?_
 rintro _ _ ⟨_, _, _, ⟨lv, rfl, rfl⟩, hF, hH⟩
 (refine NST hF hH ?_; clear hF hH; rintro rfl rfl)
 refine WE ?_
 generalize linG (grdOf c) q ev ph = LL at *
 have e1 : (lnR LL).length = LL.length := by simp
 have hle : ¬ (100000 : Int) < ((lnR LL).length : Int) := by omega
 refine WA ?_
 refine aw_cond_f rfl ?_
 refine ZZ ?_
 refine WA ?_
 exact aret_of (us := [linA gp gv (grdOf c) q, .c (.r lv (lnR LL)), .c (I 0)]) [] (fun _ => .t [linA gp gv (grdOf c) q, .c (.r lv (lnR LL)), .c (I 0)]) (fun _ => []) (.cella (n := 2) rfl (by kernel_rfl) (Cells.box rfl) (by first | (simp; done) | exact Nat.le_refl 2) (by (try simp only [nm, putL, Nat.reduceAdd, cellsOf, cvOf]) <;> rfl) (.tmp rfl (.tmp rfl .nil))) (by decide) (fun i hi => absurd hi (Nat.not_lt_zero i)) (fun _ => cvt_clo _ _ _ _ _ rfl) (fun _ => .nil) (fun _ => ⟨fun e => absurd rfl e, fun _ => ⟨gp, gv, lv, rfl⟩, rfl⟩)
abbrev Pth := Value × List Spot × Bool
abbrev pthR (p : Pth) : List CV := [.r p.1 (sR p.2.1), B p.2.2]
abbrev paR (l : List Pth) : List (List CV) := l.map pthR
set_option maxHeartbeats 2000000 in
theorem lines_v (va : Value) (c : Cel) (q ev ph : Int) (hl : c.rows.length ≤ 1000000000) (hr : ∀ r ∈ c.rows, r.length ≤ 1000000000) : ACalls Tryz.prog 14 [celA va c, .c (I q), .c (I ev), .c (I ph)] [] fun u H => ∃ (v : Value) (pl : List Pth), u = .t [.c (.r v (paR pl)), .c (I (lnF c q ev ph))] ∧ (lnF c q ev ph ≠ 0 → pl = []) ∧ (lnF c q ev ph = 0 → pl.map Prod.snd = (linG (grdOf c) q ev ph).map fun l => (ptsL c.st q l, false)) ∧ H = [] := by
 obtain ⟨fz, hfz⟩ : ∃ z, lnF c q ev ph = z := ⟨_, rfl⟩
 by_cases hz : lnF c q ev ph ≠ 0
 ·rw [hfz]
  refine acalls_of (N := 48) Tryz.func14 rfl rfl (by simp) fun E hE => ?_
  refine WA ?_
  refine WR ?_
  refine al_ef rfl (ef_call0 false (fun _ => lined_v va c q ev ph hl hr) rfl .fn rfl (by decide) (by kernel_rfl) rfl (fun _ => C0 rfl) (by simp)) ?_
  rintro _ _ ⟨_, _, _, ⟨hu1, hu2, rfl⟩, hF, hH⟩
  rw [hu1 hz, hfz] at hF
  (refine NST hF hH ?_; clear hF hH; rintro rfl rfl)
  refine WE ?_
  rw [hfz] at hz
  refine WA ?_
  refine aw_cond_t rfl ?_
  refine WA ?_
  exact aret_2 [] _ rfl rfl rfl rfl rfl (by decide) (ZNK rfl) (fun _ => .nil) ⟨.slice none 0 0, [], rfl, fun _ => rfl, fun e => absurd e hz, rfl⟩
 ·obtain rfl : fz = 0 := by rw [← hfz]; simpa using hz
  have hcf : celF c = 0 := Classical.byContradiction fun e => by rw [lnF, if_pos e] at hfz; exact e hfz
  have hc := celF_0.1 hcf
  have hgo := grdOf_ok hc
  have hst := hc.st
  have hgs : 0 ≤ (grdOf c).st ∧ (grdOf c).st ≤ 10000 := by rw [grdOf_st]; omega
  have hlb := lin_len hc q ev ph
  have hbd := fun l h => @lin_bd (grdOf c) hgo q ev ph l h
  have hgst := grdOf_st c
  rw [hfz]
  refine acalls_of (N := 48) Tryz.func14 rfl rfl (by simp) fun E hE => ?_
  refine WA ?_
  refine WR ?_
  refine al_ef rfl (ef_call0 false (fun _ => lined_v va c q ev ph hl hr) rfl .fn rfl (by decide) (by kernel_rfl) rfl (fun _ => C0 rfl) (by simp)) ?_
  rintro _ _ ⟨_, _, _, ⟨hu1, hu2, rfl⟩, hF, hH⟩
  obtain ⟨gp, gv, lv, hu3⟩ := hu2 hfz
  rw [hu3] at hF
  (refine NST hF hH ?_; clear hF hH; rintro rfl rfl)
  refine WE ?_
  generalize linG (grdOf c) q ev ph = LL at *
  have e1 : (lnR LL).length = LL.length := by simp
  refine WA ?_
  refine aw_cond_f rfl ?_
  refine ZZ ?_
  refine WA ?_
  refine WA ?_
  refine aw_loopw (fun m F H => ∃ (i cp : Nat) (pl : List Pth), m + i = LL.length ∧ pl.map Prod.snd = (LL.take i).map (fun l => (ptsL c.st q l, false)) ∧ F = [(10, .p 0 0 0), (13, .o 1 0 pl.length cp), (28, .c (.r lv (lnR LL))), (29, .c (I (lnR LL).length)), (30, .c (I i))] ∧ H = [linB gp gv (grdOf c) q, .arr 80 2 cp (paR pl)]) ?_ ?_
  ·refine wk_of [some 1, none] (fun _ => [(10, .p 0 0 0), (13, .o 1 0 0 0), (28, .c (.r lv (lnR LL))), (29, .c (I (lnR LL).length)), (30, .c (I (0 : Nat)))]) (fun _ => [linB gp gv (grdOf c) q, .arr 80 2 0 (paR [])]) (by decide) (ZNL hE) ZCF ZCH (fun _ => ?_)
   exact ⟨LL.length, 0, 0, [], by omega, rfl, rfl, rfl⟩
  rintro m F H ⟨i, cp, pl, hi, hpl, rfl, rfl⟩
  have hpll : pl.length = i := by have := congrArg List.length hpl; simp at this; omega
  refine WA ?_
  refine aw_if rfl (fun hlt => ?_) (fun hge => ?_)
  ·obtain ⟨⟨r, a, b⟩, hli⟩ : ∃ e, LL[i]? = some e := ⟨_, List.getElem?_eq_getElem (by omega)⟩
   have hrow : (lnR LL)[i]? = some [I r, I a, I b] := by rw [List.getElem?_map, hli]; rfl
   obtain ⟨hb1, hb2, hb3⟩ := hbd _ (List.mem_of_getElem? hli)
   have htk : LL.take (i + 1) = LL.take i ++ [(r, a, b)] := by rw [List.take_add_one, hli]; rfl
   refine WA ?_
   refine WR ?_
   refine al_ef rfl (ef_call0 false (fun _ => points_v gp gv (grdOf c) q (r, a, b) hgs hb1 hb2 hb3) rfl .fn rfl (by decide) (by kernel_rfl) rfl (fun _ => C0 rfl) (by simp)) ?_
   rintro _ _ ⟨_, _, _, ⟨vp, rfl, rfl⟩, hF, hH⟩
   (refine NST hF hH ?_; clear hF hH; rintro rfl rfl)
   refine WO ?_
   refine al_ef rfl (Zapp (KA (t := 33) rfl)) ?_
   rintro _ _ ⟨_, cc, hcc, rfl, rfl⟩
   refine WE ?_
   refine WA ?_
   refine wk_of [some 0, some 1] (fun _ => [(10, .p 0 0 0), (13, .o 1 0 (pl ++ [((vp, ptsL (grdOf c).st q (r, a, b), false) : Pth)]).length cc), (28, .c (.r lv (lnR LL))), (29, .c (I (lnR LL).length)), (30, .c (I (i + 1 : Nat)))]) (fun _ => [linB gp gv (grdOf c) q, .arr 80 2 cc (paR (pl ++ [((vp, ptsL (grdOf c).st q (r, a, b), false) : Pth)]))]) (by decide) (ZNL hE) ZCF ZCH (fun _ => ?_)
   exact ⟨m - 1, by omega, i + 1, cc, pl ++ [((vp, ptsL (grdOf c).st q (r, a, b), false) : Pth)], by omega, by rw [List.map_append, hpl, htk, List.map_append, hgst]; rfl, rfl, rfl⟩
  obtain rfl : i = LL.length := by omega
  rw [List.take_length] at hpl
  refine ZZ ?_
  refine WA ?_
  exact aret_f2 [] _ rfl rfl rfl rfl rfl rfl (by rw [List.drop_zero, List.take_of_length_le (by simp)]) (by simp) rfl (by decide) (ZNK rfl) (fun _ => .nil) (fun q => ⟨q, pl, rfl, fun e => absurd rfl e, fun _ => hpl, rfl⟩)
end Go.Proofs.YtniolldgidgffaaGreatDoor

/- The reference's plan, by value: PlanOf. -/
namespace Go.Proofs.YtniolldgidgffaaGreatDoor
open Go Go.RowKit
set_option maxRecDepth 100000
end Go.Proofs.YtniolldgidgffaaGreatDoor

/- Stacks and styles of the stream, by value. -/
-- NEWM
namespace Go.Proofs.YtniolldgidgffaaGreatDoor
open Go Go.RowKit
set_option maxRecDepth 100000
end Go.Proofs.YtniolldgidgffaaGreatDoor

/- Right cells and right stacks of the stream, by value. -/
-- NEWM
namespace Go.Proofs.YtniolldgidgffaaGreatDoor
open Go Go.RowKit
set_option maxRecDepth 100000
theorem ncel_nil {st : Int} (hst : 2 ≤ st ∧ st ≤ 100 ∧ st.tmod 2 = 0) : NCel ⟨st, 0, 0, []⟩ := by
 have h := celN_ok (st := st) (L := []) ⟨hst.1, by omega, hst.2.2⟩ (by decide) (by decide) (by simp [x0, mnL, cols]) (by simp [y0, mnL, rws])
 exact ⟨h, ⟨(by decide : -10000 ≤ (0 : Int)), (by decide : (0 : Int) ≤ 10000)⟩, ⟨(by decide : -10000 ≤ (0 : Int)), (by decide : (0 : Int) ≤ 10000)⟩⟩
set_option maxHeartbeats 2000000 in
theorem rightcells_v (st : Int) (hst : 2 ≤ st ∧ st ≤ 100 ∧ st.tmod 2 = 0) (v : Value) (zs : List Int) (a : Int) (hs : StrOk zs) (h0 : 0 ≤ a) (h1 : a ≤ 700000000) : ACalls Tryz.prog 44 [.p 0 0 0, .c (I st)] [strm v zs a] fun u H => ∃ (v' : Value) (c : Cel) (a' : Int), u = celA v' c ∧ H = [strm v zs a'] ∧ a ≤ a' ∧ a' ≤ a + 1200 ∧ NCel c ∧ c.st = st := by
 have hst1 : 1 ≤ st ∧ st ≤ 100 := by omega
 refine acalls_of (N := 18) Tryz.func44 rfl rfl (by simp) fun E hE => ?_
 refine WA ?_
 refine WA ?_
 refine aw_loopw (fun m F H => ∃ (k : Nat) (a' : Int), m + k = 6 ∧ a ≤ a' ∧ a' ≤ a + 200 * k ∧ F = [(0, .p 0 0 0), (1, .c (I st)), (4, .p 1 0 0), (6, .c (I k))] ∧ H = [strm v zs a', .box [.c (I 0), .c (I 0), .c (I 0), .c (.r (.slice none 0 0) [])]]) ?_ ?_
 ·refine wk_of [some 0, some 1] (fun _ => [(0, .p 0 0 0), (1, .c (I st)), (4, .p 1 0 0), (6, .c (I (0 : Nat)))]) (fun _ => [strm v zs a, .box [.c (I 0), .c (I 0), .c (I 0), .c (.r (.slice none 0 0) [])]]) (by decide) (ZNL hE) ZCF ZCH (fun _ => ?_)
  exact ⟨6, 0, a, by omega, by omega, by omega, rfl, rfl⟩
 rintro m F H ⟨k, a', hk, ha1, ha2, rfl, rfl⟩
 refine WA ?_
 refine aw_if rfl (fun hlt => ?_) (fun hge => ?_)
 ·refine WR ?_
  refine al_ef rfl (ef_callm false (fun _ => acells_w st hst1 _ _ _ hs (by omega) (by omega)) rfl .fn rfl (by decide) (by kernel_rfl) rfl rfl (fun _g => .cons (.p rfl) (.cons (.c rfl) .nil)) (fun _g => .cons (.c rfl) (.cons (.c rfl) .nil)) (by simp)) ?_
  rintro F1 H1 ⟨_, _, _, _, ⟨vc, c, ac, rfl, hq, hac1, hac2, hcs, hcst⟩, hF, hH⟩
  injection hq with hq1 hq2; subst hq1; subst hq2
  (refine NST hF hH ?_; clear hF hH; rintro rfl rfl)
  refine WE ?_
  refine WR ?_
  refine al_ef rfl (ef_call0 false (fun _ => rcheck_v vc c (by have := hcs.h; omega) (fun r hr => by have := hcs.r r hr; omega)) rfl .fn rfl (by decide) (by kernel_rfl) rfl (fun _ => C0 rfl) (by simp)) ?_
  rintro _ _ ⟨_, _, _, ⟨rfl, rfl⟩, hF, hH⟩
  (refine NST hF hH ?_; clear hF hH; rintro rfl rfl)
  refine WE ?_
  refine aw_if rfl (fun hz => ?_) (fun hz => ?_)
  ·have hr := celF_0.1 hz
   have hn := hcs.near hr
   have hcs2 := hcst hr
   refine WA ?_
   exact aret_a [some 0] _ rfl (KK (t := 28) rfl) rfl (Cells.box rfl) (by first | (simp; done) | exact Nat.le_refl 4) (by (try simp only [nm, putL, Nat.reduceAdd, cellsOf, cvOf]) <;> rfl) (by decide) (ZNK rfl) (fun _ => C0 rfl) ZCH ⟨vc, c, ac, rfl, rfl, by omega, by omega, hn, hcs2⟩
  ·refine ZZ ?_
   refine WA ?_
   refine wk_of [some 0, some 1] (fun _ => [(0, .p 0 0 0), (1, .c (I st)), (4, .p 1 0 0), (6, .c (I (k + 1 : Nat)))]) (fun _ => [strm v zs ac, .box [.c (I 0), .c (I 0), .c (I 0), .c (.r (.slice none 0 0) [])]]) (by decide) (ZNL hE) ZCF ZCH (fun _ => ?_)
   exact ⟨m - 1, by omega, k + 1, ac, by omega, by omega, by omega, rfl, rfl⟩
 refine ZZ ?_
 refine WA ?_
 exact aret_a [some 0] _ rfl (KK (t := 28) rfl) rfl (Cells.box rfl) (by first | (simp; done) | exact Nat.le_refl 4) (by (try simp only [nm, putL, Nat.reduceAdd, cellsOf, cvOf]) <;> rfl) (by decide) (ZNK rfl) (fun _ => C0 rfl) ZCH ⟨.slice none 0 0, ⟨st, 0, 0, []⟩, a', rfl, rfl, by omega, by omega, ncel_nil hst, rfl⟩
end Go.Proofs.YtniolldgidgffaaGreatDoor

/- Walls of near cells; cells of the same step, by value. -/
-- NEWM
namespace Go.Proofs.YtniolldgidgffaaGreatDoor
open Go Go.RowKit
set_option maxRecDepth 100000
theorem unionr_v (va vb : Value) (ca cb S : Cel) (ha : RCel ca) (hb : RCel cb) (hs : ca.st = cb.st) (hu : normC ca.st (covL ca ++ covL cb) = (S, 0)) : ACalls Tryz.prog 49 [celA va ca, celA vb cb] [] fun u H => ∃ v', u = .t [celA v' S, .c (I 0)] ∧ H = [] := by
 have := union_v va vb ca cb ha hb hs
 rw [hu] at this
 exact this
end Go.Proofs.YtniolldgidgffaaGreatDoor

/- Whole, by value: the walk over one part's cells. -/
-- NEWM
namespace Go.Proofs.YtniolldgidgffaaGreatDoor
open Go Go.RowKit
set_option maxRecDepth 100000
end Go.Proofs.YtniolldgidgffaaGreatDoor

/- Whole, by value. -/
-- NEWM
namespace Go.Proofs.YtniolldgidgffaaGreatDoor
open Go Go.RowKit
set_option maxRecDepth 100000
end Go.Proofs.YtniolldgidgffaaGreatDoor

/- Fillings are whole: plain. -/
namespace Go.Proofs.YtniolldgidgffaaGreatDoor
end Go.Proofs.YtniolldgidgffaaGreatDoor

/- Counting covered cells: plain. -/
namespace Go.Proofs.YtniolldgidgffaaGreatDoor
end Go.Proofs.YtniolldgidgffaaGreatDoor

/- Parts of cells: plain. -/
namespace Go.Proofs.YtniolldgidgffaaGreatDoor
def ltS (a b : Spot) : Prop := a.2 < b.2 ∨ (a.2 = b.2 ∧ a.1 < b.1)
theorem ltS_uniq {l l' : List Spot} (h : l.Pairwise ltS) (h' : l'.Pairwise ltS) (hm : ∀ p, p ∈ l ↔ p ∈ l') : l = l' := by
 have hn : ∀ {l : List Spot}, l.Pairwise ltS → l.Nodup := fun h => List.Pairwise.imp (fun {a b} h e => by subst e; unfold ltS at h; omega) h
 refine List.Perm.eq_of_pairwise (le := ltS) ?_ h h' ((List.perm_ext_iff_of_nodup (hn h) (hn h')).2 hm)
 intro a b _ _ h3 h4
 unfold ltS at h3 h4
 omega
theorem hitR_sorted {y : Int} : ∀ {r : List UInt8} {x : Int}, (hitR x y r).Pairwise ltS
 | [], x => .nil
 | b :: r, x => by
  rw [hitR]
  split
  ·refine List.pairwise_cons.2 ⟨fun p hp => ?_, hitR_sorted⟩
   obtain ⟨k, _, rfl⟩ := hitR_mem.1 hp
   right
   exact ⟨rfl, by simp only; omega⟩
  ·exact hitR_sorted
theorem hitC_sorted {x : Int} : ∀ {rs : List (List UInt8)} {y : Int}, (hitC x y rs).Pairwise ltS
 | [], y => .nil
 | r :: rs, y => by
  rw [hitC, List.pairwise_append]
  refine ⟨hitR_sorted, hitC_sorted, fun a ha b hb => ?_⟩
  obtain ⟨k, _, rfl⟩ := hitR_mem.1 ha
  obtain ⟨i, j, r', _, _, rfl⟩ := hitC_mem.1 hb
  unfold ltS
  simp only
  omega
theorem covL_sorted {c : Cel} : (covL c).Pairwise ltS := hitC_sorted
theorem covG_sorted {g : Grd} (hl : g.on.length = g.w * g.h) : (covG g).Pairwise ltS := by
 by_cases hw : g.w = 0
 ·have e : covG g = [] := List.eq_nil_iff_forall_not_mem.2 fun p hp => by
   obtain ⟨i, h1, _⟩ := covG_mem.1 hp
   have := (List.getElem?_eq_some_iff.1 h1).1
   rw [hl, hw] at this
   simp at this
  rw [e]; exact .nil
 ·unfold covG covK
  rw [List.pairwise_map]
  refine List.Pairwise.sublist List.filter_sublist ?_
  refine List.Pairwise.imp ?_ List.pairwise_lt_range
  intro a b h
  unfold ltS spt
  simp only
  have e1 := Nat.div_add_mod a g.w
  have e2 := Nat.div_add_mod b g.w
  have h1 : a / g.w ≤ b / g.w := Nat.div_le_div_right (by omega)
  by_cases e : a / g.w = b / g.w
  ·rw [e] at e1 ⊢
   right
   omega
  ·left
   omega
theorem covG_is {c : Cel} (h : RCel c) : covG (grdOf c) = covL c := ltS_uniq (covG_sorted (grdOf_len h)) covL_sorted fun _ => grdOf_cov h
def nbS (p : Spot) : List Spot := [(p.1, p.2 - 1), (p.1 - 1, p.2), (p.1 + 1, p.2), (p.1, p.2 + 1)]
theorem nbS_mem {p q : Spot} : q ∈ nbS p ↔ (q.1 = p.1 ∧ q.2 = p.2 - 1) ∨ (q.1 = p.1 - 1 ∧ q.2 = p.2) ∨ (q.1 = p.1 + 1 ∧ q.2 = p.2) ∨ (q.1 = p.1 ∧ q.2 = p.2 + 1) := by
 obtain ⟨a, b⟩ := p
 obtain ⟨x, y⟩ := q
 unfold nbS
 simp
theorem nbS_symm {p q : Spot} (h : q ∈ nbS p) : p ∈ nbS q := by
 rw [nbS_mem] at h ⊢
 omega
inductive Conn (L : List Spot) (k : Spot) : Spot → Prop
 | here : k ∈ L → Conn L k k
 | step {p q : Spot} : Conn L k p → q ∈ nbS p → q ∈ L → Conn L k q
theorem Conn.mem {L : List Spot} {k q : Spot} : Conn L k q → q ∈ L
 | .here h => h
 | .step _ _ h => h
def Clo (L S : List Spot) : Prop := ∀ p ∈ S, ∀ q ∈ nbS p, q ∈ L → q ∈ S
theorem conn_end {L S T : List Spot} {k : Spot} (hS : Clo L S) (hk : k ∈ T) (hd : ∀ p ∈ T, p ∉ S) (hc : ∀ p ∈ T, Conn L k p) (hn : ∀ p ∈ T, ∀ q ∈ nbS p, q ∈ L → q ∈ S ∨ q ∈ T) (q : Spot) : q ∈ T ↔ Conn L k q := by
 refine ⟨hc q, fun h => ?_⟩
 induction h with
 | here _ => exact hk
 | step h1 h2 h3 ih =>
  rcases hn _ ih _ h2 h3 with h | h
  ·exact absurd (hS _ h _ (nbS_symm h2) h1.mem) (hd _ ih)
  ·exact h
noncomputable def gangL (L : List Spot) (k : Spot) : List Spot := L.filter fun q => @decide (Conn L k q) (Classical.propDecidable _)
theorem gangL_mem {L : List Spot} {k q : Spot} : q ∈ gangL L k ↔ Conn L k q := by
 unfold gangL
 rw [List.mem_filter, @decide_eq_true_iff _ (Classical.propDecidable _)]
 exact ⟨fun h => h.2, fun h => ⟨h.mem, h⟩⟩
theorem gangL_clo {L : List Spot} {k : Spot} : Clo L (gangL L k) := fun _ hp _ hq hL => gangL_mem.2 (.step (gangL_mem.1 hp) hq hL)
theorem gangL_sub {L : List Spot} {k : Spot} : ∀ p ∈ gangL L k, p ∈ L := fun _ hp => (gangL_mem.1 hp).mem
noncomputable def prtS (L A : List Spot) : List Spot × List (List Spot) := A.foldl (fun s p => if p ∈ s.1 then s else (s.1 ++ gangL L p, s.2 ++ [gangL L p])) ([], [])
theorem prtS_snoc {L A : List Spot} {p : Spot} : prtS L (A ++ [p]) = if p ∈ (prtS L A).1 then prtS L A else ((prtS L A).1 ++ gangL L p, (prtS L A).2 ++ [gangL L p]) := by
 unfold prtS
 rw [List.foldl_append]
 rfl
structure PrtOk (L A : List Spot) : Prop where
 clo : Clo L (prtS L A).1
 sub : ∀ q ∈ (prtS L A).1, q ∈ L
 all : ∀ q ∈ A, q ∈ (prtS L A).1
 flat : (prtS L A).1 = (prtS L A).2.flatten
 dis : (prtS L A).2.Pairwise fun X Y => ∀ p ∈ X, p ∉ Y
 part : ∀ X ∈ (prtS L A).2, X ≠ [] ∧ ∃ k ∈ L, X = gangL L k
 len : (prtS L A).2.length ≤ A.length
theorem prtS_ok {L : List Spot} : ∀ {n : Nat} {A : List Spot}, A.length = n → (∀ q ∈ A, q ∈ L) → PrtOk L A
 | 0, A, hn, _ => by
  rw [List.eq_nil_of_length_eq_zero hn]
  exact ⟨fun _ h => by simp [prtS] at h, fun _ h => by simp [prtS] at h, fun _ h => by simp at h, rfl, .nil, fun _ h => by simp [prtS] at h, by simp [prtS]⟩
 | n + 1, A, hn, hA => by
  obtain ⟨B, p, rfl⟩ : ∃ B p, A = B ++ [p] := by
   rcases List.eq_nil_or_concat A with h | ⟨B, p, h⟩
   ·subst h; simp at hn
   ·exact ⟨B, p, by rw [h, List.concat_eq_append]⟩
  have h := prtS_ok (L := L) (n := n) (A := B) (by simpa using hn) fun q hq => hA q (List.mem_append_left _ hq)
  have hp : p ∈ L := hA p (by simp)
  have e := prtS_snoc (L := L) (A := B) (p := p)
  by_cases hs : p ∈ (prtS L B).1
  ·rw [if_pos hs] at e
   refine ⟨?_, ?_, ?_, ?_, ?_, ?_, ?_⟩ <;> rw [e]
   ·exact h.clo
   ·exact h.sub
   ·intro q hq
    rcases List.mem_append.1 hq with hq | hq
    ·exact h.all q hq
    ·rw [List.mem_singleton.1 hq]; exact hs
   ·exact h.flat
   ·exact h.dis
   ·exact h.part
   ·have := h.len
    simp; omega
  ·rw [if_neg hs] at e
   have hpc : p ∈ gangL L p := gangL_mem.2 (.here hp)
   refine ⟨?_, ?_, ?_, ?_, ?_, ?_, ?_⟩ <;> rw [e] <;> simp only
   ·intro a ha b hb hL
    rcases List.mem_append.1 ha with ha | ha
    ·exact List.mem_append_left _ (h.clo a ha b hb hL)
    ·exact List.mem_append_right _ (gangL_clo a ha b hb hL)
   ·intro q hq
    rcases List.mem_append.1 hq with hq | hq
    ·exact h.sub q hq
    ·exact gangL_sub q hq
   ·intro q hq
    rcases List.mem_append.1 hq with hq | hq
    ·exact List.mem_append_left _ (h.all q hq)
    ·rw [List.mem_singleton.1 hq]; exact List.mem_append_right _ hpc
   ·rw [h.flat]; simp
   ·rw [List.pairwise_append]
    refine ⟨h.dis, List.pairwise_singleton _ _, fun X hX Y hY q hq hq2 => ?_⟩
    rw [List.mem_singleton.1 hY] at hq2
    have hqs : q ∈ (prtS L B).1 := by rw [h.flat, List.mem_flatten]; exact ⟨X, hX, hq⟩
    exact hs (conn_back h.clo (gangL_mem.1 hq2) hqs)
   ·intro X hX
    rcases List.mem_append.1 hX with hX | hX
    ·exact h.part X hX
    ·rw [List.mem_singleton.1 hX]
     exact ⟨fun e => (by rw [e] at hpc; cases hpc), p, hp, rfl⟩
   ·have := h.len
    simp; omega
where
 conn_back {L S : List Spot} {k : Spot} (hS : Clo L S) {q : Spot} (h : Conn L k q) (hq : q ∈ S) : k ∈ S := by
  induction h with
  | here _ => exact hq
  | step h1 h2 h3 ih => exact ih (hS _ hq _ (nbS_symm h2) h1.mem)
noncomputable def partL (L : List Spot) : List (List Spot) := (prtS L L).2
theorem partL_ok (L : List Spot) : PrtOk L L := prtS_ok rfl fun _ h => h
end Go.Proofs.YtniolldgidgffaaGreatDoor
