/- The program's Quarter and Bridges, by value. -/
import Derived.Test.YtniolldgidgffaaGreatDoorQbm
import Derived.Test.YtniolldgidgffaaGreatDoorQbh
import Derived.Test.YtniolldgidgffaaGreatDoorQbk
import Derived.Test.YtniolldgidgffaaGreatDoorQbe
import Derived.Test.YtniolldgidgffaaGreatDoorQbd
set_option linter.unusedSimpArgs false
set_option linter.unusedVariables false
/- The reference's LinesOf, by value: paths of lines. -/
-- NEWM
namespace Go.Proofs.YtniolldgidgffaaGreatDoor
open Go Go.RowKit
set_option maxRecDepth 100000
theorem lin_ab {g : Grd} {q ev ph : Int} {l : Lin} (h : l ∈ linG g q ev ph) : l.2.1 ≤ l.2.2 := by
 obtain ⟨i, _, _, h2⟩ := lnS_mem.1 h
 obtain ⟨k, _, _, _, rfl⟩ := lnC_mem.1 h2
 exact rE_spec.1
end Go.Proofs.YtniolldgidgffaaGreatDoor

/- The better direction of lines: the program's best, by value. -/
-- NEWM
namespace Go.Proofs.YtniolldgidgffaaGreatDoor
open Go Go.RowKit
set_option maxRecDepth 100000
def lenL (l : Lin) : Int := l.2.2 - l.2.1
def lngL (l : List Lin) : Int := l.foldl (fun n x => max n (x.2.2 - x.2.1 + 1)) 0
theorem lngL_snoc {l : List Lin} {x : Lin} : lngL (l ++ [x]) = max (lngL l) (x.2.2 - x.2.1 + 1) := by unfold lngL; rw [List.foldl_append]; rfl
theorem lngL_ge {x : Lin} : ∀ {n : Nat} {l : List Lin}, l.length = n → 0 ≤ lngL l ∧ (x ∈ l → lenL x + 1 ≤ lngL l)
 | 0, l, hn => by rw [List.eq_nil_of_length_eq_zero hn]; exact ⟨Int.le_refl _, fun h => (by cases h)⟩
 | n + 1, l, hn => by
  obtain ⟨A, z, rfl⟩ : ∃ A z, l = A ++ [z] := by
   rcases List.eq_nil_or_concat l with h | ⟨B, p, h⟩
   ·subst h; simp at hn
   ·exact ⟨B, p, by rw [h, List.concat_eq_append]⟩
  obtain ⟨h1, h2⟩ := lngL_ge (x := x) (n := n) (l := A) (by simpa using hn)
  rw [lngL_snoc]
  refine ⟨by omega, fun h => ?_⟩
  rcases List.mem_append.1 h with h | h
  ·have := h2 h; omega
  ·rw [← List.mem_singleton.1 h]; unfold lenL; omega
theorem lngL_le {M : Int} : ∀ {n : Nat} {l : List Lin}, l.length = n → 0 ≤ M → (∀ x ∈ l, lenL x + 1 ≤ M) → lngL l ≤ M
 | 0, l, hn, h0, _ => by rw [List.eq_nil_of_length_eq_zero hn]; exact h0
 | n + 1, l, hn, h0, h => by
  obtain ⟨A, z, rfl⟩ : ∃ A z, l = A ++ [z] := by
   rcases List.eq_nil_or_concat l with h | ⟨B, p, h⟩
   ·subst h; simp at hn
   ·exact ⟨B, p, by rw [h, List.concat_eq_append]⟩
  have h1 := lngL_le (n := n) (l := A) (by simpa using hn) h0 fun x hx => h x (List.mem_append_left _ hx)
  have h2 := h z (by simp)
  rw [lngL_snoc]
  unfold lenL at h2
  omega
theorem lngL_is {l : List Lin} {m : Lin} (hm : m ∈ l) (h0 : 0 ≤ lenL m) (h : ∀ x ∈ l, lenL x ≤ lenL m) : lngL l = lenL m + 1 := by
 have h1 := (lngL_ge (x := m) (l := l) rfl).2 hm
 have h2 := lngL_le (l := l) (M := lenL m + 1) rfl (by omega) fun x hx => by have := h x hx; omega
 omega
def longQ (c : Cel) (q : Int) : Int := lngL (linG (grdOf c) q 1 0)
def bestF (c : Cel) : Int × Int := if longQ c 1 < longQ c 0 then (1, longQ c 1) else (0, longQ c 0)
theorem lin_ne {c : Cel} (hc : RCel c) (hne : covL c ≠ []) (q : Int) : linG (grdOf c) q 1 0 ≠ [] := by
 have hT : trL q (covL c) ≠ [] := by simpa using hne
 obtain ⟨⟨p, hp, e⟩, _⟩ := x0_at hT
 have hw : wQ (grdOf c) q ≤ 999 := by have := (grd_wh hc q).1; omega
 intro h0
 have hmem : (p.2, p.1, rE (hasL (trL q (covL c)) p.2) 1000 p.1) ∈ linL (trL q (covL c)) (trL q (covL c)) 1 0 := by
  refine linL_mem.2 ⟨p, hp, ?_, rfl⟩
  unfold begL
  simp only [Int.sub_zero, Int.tmod_one, decide_true, Bool.true_and, Bool.not_eq_true', decide_eq_false_iff_not]
  intro h
  have := x0_le h
  simp only at this
  omega
 rw [← linG_mem (grdOf_len hc) hw (fun p => by rw [trL_in, grdOf_cov hc]), h0] at hmem
 cases hmem
theorem best1_v (a b : Lin) (ha : (-20000000 ≤ a.2.1 ∧ a.2.1 ≤ 20000000) ∧ (-20000000 ≤ a.2.2 ∧ a.2.2 ≤ 20000000)) (hb : (-20000000 ≤ b.2.1 ∧ b.2.1 ≤ 20000000) ∧ (-20000000 ≤ b.2.2 ∧ b.2.2 ≤ 20000000)) : ACalls Tryz.prog 172 [.a [.c (I a.1), .c (I a.2.1), .c (I a.2.2)], .a [.c (I b.1), .c (I b.2.1), .c (I b.2.2)]] [] fun u H => u = .c (I (cmpI (lenL a) (lenL b))) ∧ H = [] := by
 obtain ⟨a1, a2, a3⟩ := a
 obtain ⟨b1, b2, b3⟩ := b
 simp only at ha hb
 unfold lenL
 refine acalls_of (N := 16) Tryz.func172 rfl rfl (by simp) fun E hE => ?_
 refine WA ?_
 refine WR ?_
 refine al_ef rfl (ef_call0 false (fun _ => cmpI_v (a3 - a2) (b3 - b2)) rfl .fn rfl (by decide) (by kernel_rfl) rfl (fun _g => .cons (.c rfl) (.cons (.c rfl) .nil)) (by simp)) ?_
 rintro _ _ ⟨_, _, _, ⟨rfl, rfl⟩, hF, hH⟩
 (refine NST hF hH ?_; clear hF hH; rintro rfl rfl)
 refine WE ?_
 exact aret_1 [] _ rfl rfl rfl (by decide) (ZNK rfl) (fun _ => .nil) ⟨rfl, rfl⟩
set_option maxHeartbeats 2000000 in
theorem maxfunc_v (l : List Lin) (v : Value) (hl : l.length ≤ 1000000) (hne : l ≠ []) (hb : ∀ x ∈ l, (-20000000 ≤ x.2.1 ∧ x.2.1 ≤ 20000000) ∧ (-20000000 ≤ x.2.2 ∧ x.2.2 ≤ 20000000)) : ACalls Tryz.prog 171 [.c (.r v (lnR l)), .f (.func 172) []] [] fun u H => ∃ m : Lin, u = .a [.c (I m.1), .c (I m.2.1), .c (I m.2.2)] ∧ (m ∈ l ∧ ∀ x ∈ l, lenL x ≤ lenL m) ∧ H = [] := by
 have e1 : (lnR l).length = l.length := by simp
 have hpos : 0 < l.length := List.length_pos_iff.2 hne
 have hlt1 : ¬ ((lnR l).length : Int) < 1 := by omega
 obtain ⟨⟨r0, a0, b0⟩, hx0⟩ : ∃ e, l[0]? = some e := ⟨_, List.getElem?_eq_getElem hpos⟩
 have hrow0 : (lnR l)[0]? = some [I r0, I a0, I b0] := by rw [List.getElem?_map, hx0]; rfl
 refine acalls_of (N := 33) Tryz.func171 rfl rfl (by simp) fun E hE => ?_
 refine WA ?_
 refine WA ?_
 refine aw_cond_f rfl ?_
 refine ZZ ?_
 refine WA ?_
 refine WA ?_
 refine aw_loopw (fun q F H => ∃ (i : Nat) (m : Lin), q + i = l.length ∧ 1 ≤ i ∧ m ∈ l ∧ (∀ x ∈ l.take i, lenL x ≤ lenL m) ∧ F = [(0, .c (.r v (lnR l))), (1, .f (.func 172) []), (4, .p 0 0 0), (5, .p 1 0 0), (6, .c (I i))] ∧ H = [.box [.c (I 0), .c (I 0), .c (I 0)], .box [.c (I m.1), .c (I m.2.1), .c (I m.2.2)]]) ?_ ?_
 ·refine wk_of [some 0, some 1] (fun _ => [(0, .c (.r v (lnR l))), (1, .f (.func 172) []), (4, .p 0 0 0), (5, .p 1 0 0), (6, .c (I (1 : Nat)))]) (fun _ => [.box [.c (I 0), .c (I 0), .c (I 0)], .box [.c (I r0), .c (I a0), .c (I b0)]]) (by decide) (ZNL hE) ZCF ZCH (fun _ => ?_)
  refine ⟨l.length - 1, 1, (r0, a0, b0), by omega, by omega, List.mem_of_getElem? hx0, fun x hx => ?_, rfl, rfl⟩
  rw [List.take_add_one, hx0] at hx
  simp at hx
  rw [hx]; exact Int.le_refl _
 rintro q F H ⟨i, ⟨mr, ma, mb⟩, hq, hi1, hm, hmx, rfl, rfl⟩
 have hmb := hb _ hm
 simp only at hmb
 refine WA ?_
 refine aw_if rfl (fun hlt => ?_) (fun hge => ?_)
 ·obtain ⟨⟨r, a, b⟩, hx⟩ : ∃ e, l[i]? = some e := ⟨_, List.getElem?_eq_getElem (by omega)⟩
  have hrow : (lnR l)[i]? = some [I r, I a, I b] := by rw [List.getElem?_map, hx]; rfl
  have hxb := hb _ (List.mem_of_getElem? hx)
  have hcl := @cmpN_lt (lenL (mr, ma, mb)) (lenL (r, a, b))
  have hcg : 0 < cmpI (lenL (r, a, b)) (lenL (mr, ma, mb)) ↔ lenL (mr, ma, mb) < lenL (r, a, b) := by unfold cmpI; split <;> (try split) <;> omega
  have htk : ∀ x ∈ l.take (i + 1), x ∈ l.take i ∨ x = (r, a, b) := fun x hx2 => by
   rw [List.take_add_one, hx] at hx2
   simpa using hx2
  obtain ⟨z, hz⟩ : ∃ z, cmpI (lenL (r, a, b)) (lenL (mr, ma, mb)) = z := ⟨_, rfl⟩
  rw [hz] at hcg
  refine ZZ ?_
  refine aw_regionT [(0, none), (1, none), (2, none), (3, none), (4, none), (5, none), (6, some []), (7, none)] hMixed (by kernel_rfl) ?_
  refine WP ?_
  refine at_ef rfl rfl (ef_call0 false (fun _ => best1_v (r, a, b) (mr, ma, mb) hxb hmb) rfl (.clo rfl) rfl (by decide) (by kernel_rfl) rfl (fun _g => .cons (.aL (C0 rfl)) (.cons (.aL (C0 rfl)) .nil)) (by simp)) ?_
  rintro _ _ ⟨_, _, _, ⟨rfl, rfl⟩, hF, hH⟩
  rw [hz] at hF
  (refine NST hF hH ?_; clear hF hH; rintro rfl rfl)
  refine ⟨ag_none, ?_⟩
  refine WQ ?_
  refine aw_if rfl (fun hgt => ?_) (fun hgt => ?_)
  ·have hgt2 := hcg.1 (by omega)
   refine WA ?_
   refine WA ?_
   refine wk_of [some 0, some 1] (fun _ => [(0, .c (.r v (lnR l))), (1, .f (.func 172) []), (4, .p 0 0 0), (5, .p 1 0 0), (6, .c (I (i + 1 : Nat)))]) (fun _ => [.box [.c (I 0), .c (I 0), .c (I 0)], .box [.c (I r), .c (I a), .c (I b)]]) (by decide) (ZNL hE) ZCF ZCH (fun _ => ?_)
   refine ⟨q - 1, by omega, i + 1, (r, a, b), by omega, by omega, List.mem_of_getElem? hx, fun x hx2 => ?_, rfl, rfl⟩
   rcases htk x hx2 with h | h
   ·have := hmx x h; omega
   ·rw [h]; exact Int.le_refl _
  ·have hgt2 : lenL (r, a, b) ≤ lenL (mr, ma, mb) := by
    by_cases h : lenL (mr, ma, mb) < lenL (r, a, b)
    ·have := hcg.2 h; omega
    ·omega
   refine ZZ ?_
   refine WA ?_
   refine wk_of [some 0, some 1] (fun _ => [(0, .c (.r v (lnR l))), (1, .f (.func 172) []), (4, .p 0 0 0), (5, .p 1 0 0), (6, .c (I (i + 1 : Nat)))]) (fun _ => [.box [.c (I 0), .c (I 0), .c (I 0)], .box [.c (I mr), .c (I ma), .c (I mb)]]) (by decide) (ZNL hE) ZCF ZCH (fun _ => ?_)
   refine ⟨q - 1, by omega, i + 1, (mr, ma, mb), by omega, by omega, hm, fun x hx2 => ?_, rfl, rfl⟩
   rcases htk x hx2 with h | h
   ·exact hmx x h
   ·rw [h]; exact hgt2
 rw [List.take_of_length_le (by omega)] at hmx
 refine ZZ ?_
 refine WA ?_
 exact aret_a [] _ rfl (KK (t := 102) rfl) rfl (Cells.box rfl) (by first | (simp; done) | exact Nat.le_refl 3) (by (try simp only [nm, putL, Nat.reduceAdd, cellsOf, cvOf]) <;> rfl) (by decide) (ZNK rfl) (fun _ => C0 rfl) (fun _ => .nil) ⟨(mr, ma, mb), rfl, ⟨hm, hmx⟩, rfl⟩
set_option maxHeartbeats 2000000 in
theorem best_v (va : Value) (c : Cel) (hc : RCel c) (hne : covL c ≠ []) : ACalls Tryz.prog 111 [celA va c] [] fun u H => u = .t [.c (I (bestF c).1), .c (I (bestF c).2)] ∧ H = [] := by
 have hg := grdOf_ok hc
 have hll := fun q => lin_len hc q 1 0
 have hbf : bestF c = if longQ c 1 < longQ c 0 then (1, longQ c 1) else (0, longQ c 0) := rfl
 rw [hbf]
 refine acalls_of (N := 38) Tryz.func111 rfl rfl (by simp) fun E hE => ?_
 refine WA ?_
 refine WR ?_
 refine al_ef rfl (ef_call0 false (fun _ => gridof_v va c hc) rfl .fn rfl (by decide) (by kernel_rfl) rfl (fun _ => C0 rfl) (by simp)) ?_
 rintro _ _ ⟨_, _, _, ⟨pg, vg, rfl, rfl⟩, hF, hH⟩
 (refine NST hF hH ?_; clear hF hH; rintro rfl rfl)
 refine WE ?_
 refine WA ?_
 refine WA ?_
 refine aw_loopw (fun m F H => ∃ (j : Nat) (x y : Int), m + j = 2 ∧ ((j = 0 ∧ x = 0 ∧ y = 0) ∨ (j = 1 ∧ x = longQ c 0 ∧ y = 0) ∨ (j = 2 ∧ x = longQ c 0 ∧ y = longQ c 1)) ∧ F = [(4, gV pg vg (grdOf c)), (5, .p 0 0 0), (11, .c (I j))] ∧ H = [.box [.c (I x), .c (I y)]]) ?_ ?_
 ·refine wk_of [some 1] (fun _ => [(4, gV pg vg (grdOf c)), (5, .p 0 0 0), (11, .c (I (0 : Nat)))]) (fun _ => [.box [.c (I 0), .c (I 0)]]) (by decide) (ZNL hE) ZCF ZCH (fun _ => ?_)
  exact ⟨2, 0, 0, 0, by omega, .inl ⟨rfl, rfl, rfl⟩, rfl, rfl⟩
 rintro m F H ⟨j, x, y, hm, hj, rfl, rfl⟩
 refine WA ?_
 refine aw_if rfl (fun hlt => ?_) (fun hge => ?_)
 ·rcases hj with ⟨rfl, rfl, rfl⟩ | ⟨rfl, rfl, rfl⟩ | ⟨rfl, rfl, rfl⟩
  ·refine WA ?_
   refine WR ?_
   refine al_ef rfl (ef_call0 false (fun _ => llines_v pg vg (grdOf c) 0 1 0 hg (by omega) (by omega)) rfl .fn rfl (by decide) (by kernel_rfl) rfl (fun _g => .cons (.aL (C0 rfl)) (.cons (.c rfl) (.cons (.c rfl) .nil))) (by simp)) ?_
   rintro _ _ ⟨_, _, _, ⟨vl, rfl, rfl⟩, hF, hH⟩
   (refine NST hF hH ?_; clear hF hH; rintro rfl rfl)
   refine WE ?_
   refine WR ?_
   refine al_ef rfl (ef_call0 false (fun _ => maxfunc_v (linG (grdOf c) 0 1 0) vl (by have := hll 0; omega) (lin_ne hc hne 0) (fun x hx => (lin_bd hg hx).2)) rfl .fn rfl (by decide) (by kernel_rfl) rfl (fun _ => C0 rfl) (by simp)) ?_
   rintro _ _ ⟨_, _, _, ⟨mx, rfl, ⟨hm1, hm2⟩, rfl⟩, hF, hH⟩
   (refine NST hF hH ?_; clear hF hH; rintro rfl rfl)
   refine WE ?_
   have hv : mx.2.2 - mx.2.1 + 1 = longQ c 0 := (lngL_is hm1 (by have := lin_ab hm1; unfold lenL; omega) hm2).symm
   obtain ⟨hmb1, hmb2⟩ := (lin_bd hg hm1).2
   refine ZR ?_
   iterate 7 refine WX1 ?_
   refine ZA (rd_ixa (i := 0) (n := 2) (e := 3) (sz := 1) rfl (by kernel_rfl) rfl rfl rfl (by decide)) ?_
   refine WE ?_
   refine WA ?_
   rw [hv]
   refine wk_of [some 0] (fun _ => [(4, gV pg vg (grdOf c)), (5, .p 0 0 0), (11, .c (I (1 : Nat)))]) (fun _ => [.box [.c (I (longQ c 0)), .c (I 0)]]) (by decide) (ZNL hE) ZCF ZCH (fun _ => ?_)
   exact ⟨m - 1, by omega, 1, _, _, by omega, .inr (.inl ⟨rfl, rfl, rfl⟩), rfl, rfl⟩
  ·refine WA ?_
   refine WR ?_
   refine al_ef rfl (ef_call0 false (fun _ => llines_v pg vg (grdOf c) 1 1 0 hg (by omega) (by omega)) rfl .fn rfl (by decide) (by kernel_rfl) rfl (fun _g => .cons (.aL (C0 rfl)) (.cons (.c rfl) (.cons (.c rfl) .nil))) (by simp)) ?_
   rintro _ _ ⟨_, _, _, ⟨vl, rfl, rfl⟩, hF, hH⟩
   (refine NST hF hH ?_; clear hF hH; rintro rfl rfl)
   refine WE ?_
   refine WR ?_
   refine al_ef rfl (ef_call0 false (fun _ => maxfunc_v (linG (grdOf c) 1 1 0) vl (by have := hll 1; omega) (lin_ne hc hne 1) (fun x hx => (lin_bd hg hx).2)) rfl .fn rfl (by decide) (by kernel_rfl) rfl (fun _ => C0 rfl) (by simp)) ?_
   rintro _ _ ⟨_, _, _, ⟨mx, rfl, ⟨hm1, hm2⟩, rfl⟩, hF, hH⟩
   (refine NST hF hH ?_; clear hF hH; rintro rfl rfl)
   refine WE ?_
   have hv : mx.2.2 - mx.2.1 + 1 = longQ c 1 := (lngL_is hm1 (by have := lin_ab hm1; unfold lenL; omega) hm2).symm
   obtain ⟨hmb1, hmb2⟩ := (lin_bd hg hm1).2
   refine ZR ?_
   iterate 7 refine WX1 ?_
   refine ZA (rd_ixa (i := 1) (n := 2) (e := 3) (sz := 1) rfl (by kernel_rfl) rfl rfl rfl (by decide)) ?_
   refine WE ?_
   refine WA ?_
   rw [hv]
   refine wk_of [some 0] (fun _ => [(4, gV pg vg (grdOf c)), (5, .p 0 0 0), (11, .c (I (2 : Nat)))]) (fun _ => [.box [.c (I (longQ c 0)), .c (I (longQ c 1))]]) (by decide) (ZNL hE) ZCF ZCH (fun _ => ?_)
   exact ⟨m - 1, by omega, 2, _, _, by omega, .inr (.inr ⟨rfl, rfl, rfl⟩), rfl, rfl⟩
  ·exfalso; omega
 obtain ⟨rfl, rfl, rfl⟩ : j = 2 ∧ x = longQ c 0 ∧ y = longQ c 1 := by omega
 refine ZZ ?_
 refine ZR ?_
 refine ZA (rd_ixa (i := 1) (n := 2) (e := 3) (sz := 1) rfl (by kernel_rfl) rfl rfl rfl (by decide)) ?_
 refine WX1 ?_
 refine ZA (rd_ixa (i := 0) (n := 2) (e := 3) (sz := 1) rfl (by kernel_rfl) rfl rfl rfl (by decide)) ?_
 refine WE ?_
 refine aw_if rfl (fun hlt => ?_) (fun hge => ?_)
 ·rw [if_pos (by omega)]
  refine ZZ ?_
  refine aw_regionT [(0, none), (1, none), (2, none), (3, none)] hMixed (by kernel_rfl) ?_
  refine ZT rfl (rd_ixa (i := 1) (n := 2) (e := 3) (sz := 1) rfl (by kernel_rfl) rfl rfl rfl (by decide)) ?_
  refine WQ ?_
  exact aret_2 [] _ rfl rfl rfl rfl rfl (by decide) (ZNK rfl) (fun _ => .nil) ⟨rfl, rfl⟩
 ·rw [if_neg (by omega)]
  refine ZZ ?_
  refine aw_regionT [(0, none), (1, none), (2, none), (3, none)] hMixed (by kernel_rfl) ?_
  refine ZT rfl (rd_ixa (i := 0) (n := 2) (e := 3) (sz := 1) rfl (by kernel_rfl) rfl rfl rfl (by decide)) ?_
  refine WQ ?_
  exact aret_2 [] _ rfl rfl rfl rfl rfl (by decide) (ZNK rfl) (fun _ => .nil) ⟨rfl, rfl⟩
end Go.Proofs.YtniolldgidgffaaGreatDoor

/- The program's Quarter and Bridges, by value. -/
-- NEWM
namespace Go.Proofs.YtniolldgidgffaaGreatDoor
open Go Go.RowKit
set_option maxRecDepth 100000
theorem cov_ne {c : Cel} (h : RCel c) (hr : c.rows ≠ []) : covL c ≠ [] := by
 have hs := span_tight (fun r hr => (h.row r hr).1) hr
 rw [h.tight hr] at hs
 unfold spanB at hs
 simp only [Bool.and_eq_true, decide_eq_true_iff] at hs
 exact hs.1.1.1.1
theorem cov_e {c : Cel} (hr : c.rows = []) : covL c = [] := by unfold covL; rw [hr]; rfl
def quaF (c : Cel) : Int × Int × Int := if celF c ≠ 0 then (0, 0, celF c) else if c.rows = [] then (0, 0, 8) else ((bestF c).1, (bestF c).2, 0)
set_option maxHeartbeats 1000000 in
theorem quarter_v (va : Value) (c : Cel) (hcl : c.rows.length ≤ 1000000000) (hcr : ∀ r ∈ c.rows, r.length ≤ 1000000000) : ACalls Tryz.prog 37 [celA va c] [] fun u H => u = .t [.c (I (quaF c).1), .c (I (quaF c).2.1), .c (I (quaF c).2.2)] ∧ H = [] := by
 obtain ⟨e, he⟩ : ∃ e, celF c = e := ⟨_, rfl⟩
 by_cases h0 : e ≠ 0
 ·have hq : quaF c = (0, 0, e) := by unfold quaF; rw [he, if_pos h0]
  rw [hq]
  refine acalls_of (N := 24) Tryz.func37 rfl rfl (by simp) fun E hE => ?_
  refine WA ?_
  refine WR ?_
  refine al_ef rfl (ef_call0 false (fun _ => check_v va c hcl hcr) rfl .fn rfl (by decide) (by kernel_rfl) rfl (fun _ => C0 rfl) (by simp)) ?_
  rintro _ _ ⟨_, _, _, ⟨rfl, rfl⟩, hF, hH⟩
  rw [he] at hF
  (refine NST hF hH ?_; clear hF hH; rintro rfl rfl)
  refine WE ?_
  refine WA ?_
  refine aw_cond_t rfl ?_
  refine WA ?_
  exact aret_of (us := [.c (I 0), .c (I 0), .c (I e)]) [] (fun _ => .t [.c (I 0), .c (I 0), .c (I e)]) (fun _ => []) (.tmp rfl (.tmp rfl (.tmp rfl .nil))) (by decide) (fun i hi => absurd hi (Nat.not_lt_zero i)) (fun g' => .tL (.cons (.c rfl) (.cons (.c rfl) (.cons (.c rfl) .nil)))) (fun _ => .nil) (fun g' => ⟨rfl, rfl⟩)
 obtain rfl : e = 0 := by omega
 have hc := celF_0.1 he
 by_cases hr : c.rows = []
 ·have hq : quaF c = (0, 0, 8) := by unfold quaF; rw [if_neg (by simp [he]), if_pos hr]
  have e1 : (tR c.rows).length = 0 := by rw [hr]; rfl
  rw [hq]
  refine acalls_of (N := 24) Tryz.func37 rfl rfl (by simp) fun E hE => ?_
  refine WA ?_
  refine WR ?_
  refine al_ef rfl (ef_call0 false (fun _ => check_v va c hcl hcr) rfl .fn rfl (by decide) (by kernel_rfl) rfl (fun _ => C0 rfl) (by simp)) ?_
  rintro _ _ ⟨_, _, _, ⟨rfl, rfl⟩, hF, hH⟩
  rw [he] at hF
  (refine NST hF hH ?_; clear hF hH; rintro rfl rfl)
  refine WE ?_
  refine WA ?_
  refine aw_cond_f rfl ?_
  refine ZZ ?_
  refine WA ?_
  refine aw_cond_t rfl ?_
  refine WA ?_
  exact aret_of (us := [.c (I 0), .c (I 0), .c (I 8)]) [] (fun _ => .t [.c (I 0), .c (I 0), .c (I 8)]) (fun _ => []) (.tmp rfl (.tmp rfl (.tmp rfl .nil))) (by decide) (fun i hi => absurd hi (Nat.not_lt_zero i)) (fun g' => .tL (.cons (.c rfl) (.cons (.c rfl) (.cons (.c rfl) .nil)))) (fun _ => .nil) (fun g' => ⟨rfl, rfl⟩)
 ·have hq : quaF c = ((bestF c).1, (bestF c).2, 0) := by unfold quaF; rw [if_neg (by simp [he]), if_neg hr]
  have e1 : (tR c.rows).length ≠ 0 := by simpa using hr
  have e2 : ¬ ((tR c.rows).length : Int) = 0 := by omega
  rw [hq]
  have hbe := best_v va c hc (cov_ne hc hr)
  generalize bestF c = bf at *
  refine acalls_of (N := 24) Tryz.func37 rfl rfl (by simp) fun E hE => ?_
  refine WA ?_
  refine WR ?_
  refine al_ef rfl (ef_call0 false (fun _ => check_v va c hcl hcr) rfl .fn rfl (by decide) (by kernel_rfl) rfl (fun _ => C0 rfl) (by simp)) ?_
  rintro _ _ ⟨_, _, _, ⟨rfl, rfl⟩, hF, hH⟩
  rw [he] at hF
  (refine NST hF hH ?_; clear hF hH; rintro rfl rfl)
  refine WE ?_
  refine WA ?_
  refine aw_cond_f rfl ?_
  refine ZZ ?_
  refine WA ?_
  refine aw_cond_f rfl ?_
  refine ZZ ?_
  refine WR ?_
  refine al_ef rfl (ef_call0 false (fun _ => hbe) rfl .fn rfl (by decide) (by kernel_rfl) rfl (fun _ => C0 rfl) (by simp)) ?_
  rintro _ _ ⟨_, _, _, ⟨rfl, rfl⟩, hF, hH⟩
  (refine NST hF hH ?_; clear hF hH; rintro rfl rfl)
  refine WE ?_
  refine WA ?_
  exact aret_of (us := [.c (I bf.1), .c (I bf.2), .c (I 0)]) [] (fun _ => .t [.c (I bf.1), .c (I bf.2), .c (I 0)]) (fun _ => []) (.tmp rfl (.tmp rfl (.tmp rfl .nil))) (by decide) (fun i hi => absurd hi (Nat.not_lt_zero i)) (fun g' => .tL (.cons (.c rfl) (.cons (.c rfl) (.cons (.c rfl) .nil)))) (fun _ => .nil) (fun g' => ⟨rfl, rfl⟩)
abbrev Brg := (Value × Cel) × Int × Int
abbrev brgR (l : List Brg) : List (List CV) := l.map fun b => [I b.1.2.st, I b.1.2.x, I b.1.2.y, .r b.1.1 (tR b.1.2.rows), I b.2.1, I b.2.2]
noncomputable def brgL (a b : Cel) : List (Cel × Int × Int) := (partF (celN b.st (minL (covL b) (covL a)))).map fun c => (c, bestF c)
structure PrtR (c : Cel) : Prop where
 n : (partF c).length ≤ 100000
 r : ∀ d ∈ partF c, RCel d ∧ d.st = c.st ∧ covL d ≠ []
theorem prt_r {b c : Cel} (hb : NCel b) (h : RCel c) (hs : c.st = b.st) (hsub : ∀ p ∈ covL c, p ∈ covL b) : PrtR c := by
 have hst : 0 < c.st := by have := h.st; omega
 have hok := partL_ok (covL c)
 refine ⟨?_, fun d hd => ?_⟩
 ·have h1 := hok.len
  have h2 : (covL c).length ≤ 40000 := by
   have h3 := h.h
   have h4 := h.w
   have := hitC_len (x := c.x.tdiv c.st) (M := 200) (rs := c.rows) (y := c.y.tdiv c.st) (fun r hr => by rw [(h.row r hr).1]; exact h4)
   have h5 : c.rows.length * 200 ≤ 200 * 200 := Nat.mul_le_mul_right _ h3
   unfold covL
   omega
  unfold partF partL
  rw [List.length_map]
  omega
 ·obtain ⟨X, hX, rfl⟩ := List.mem_map.1 hd
  obtain ⟨h1, k, hk, rfl⟩ := hok.part X hX
  have h2 := normC_ok hb (L := gangL (covL c) k) fun p hp => hsub p (gangL_sub p hp)
  unfold prtC
  rw [hs, h2.1]
  refine ⟨h2.2, celN_st _ _, fun e => h1 ?_⟩
  exact List.eq_nil_iff_forall_not_mem.2 fun q hq => by
   have := (covL_celN (st := b.st) (by omega) (L := gangL (covL c) k) (p := q)).2 hq
   rw [e] at this; cases this
set_option maxHeartbeats 4000000 in
theorem bridges_v (va vb : Value) (a b : Cel) (ha : RCel a) (hb : NCel b) (hs : a.st = b.st) : ACalls Tryz.prog 38 [celA va a, celA vb b] [] fun u H => ∃ (v : Value) (l : List Brg), u = .t [.c (.r v (brgR l)), .c (I 0)] ∧ (l.map fun x => (x.1.2, x.2)) = brgL a b ∧ H = [] := by
 have hsub : ∀ p ∈ minL (covL b) (covL a), p ∈ covL b := fun p hp => (List.mem_filter.1 hp).1
 have hmin := (normC_ok hb hsub).1
 have hD : RCel (celN b.st (minL (covL b) (covL a))) := (normC_ok hb hsub).2
 have hbl : brgL a b = (partF (celN b.st (minL (covL b) (covL a)))).map fun c => (c, bestF c) := rfl
 rw [hbl]
 have hpr := prt_r hb hD (celN_st _ _) fun p hp => hsub p ((covL_celN (by have := hb.r.st; omega)).1 hp)
 have hfm := fmin_v vb va b a hb.r ha hs.symm hmin
 generalize hDe : celN b.st (minL (covL b) (covL a)) = D at *
 refine acalls_of (N := 62) Tryz.func38 rfl rfl (by simp) fun E hE => ?_
 refine WA ?_
 refine WA ?_
 refine aw_loopw (fun m F H => ∃ k : Nat, m + k = 2 ∧ F = [(2, .p 0 0 0), (3, .p 1 0 0), (18, .o 2 0 2 2), (19, .c (I 2)), (20, .c (I k))] ∧ H = [celB va a, celB vb b, .arr 28 4 2 [celR va a, celR vb b]]) ?_ ?_
 ·refine wk_of [some 0, some 1, some 2] (fun _ => [(2, .p 0 0 0), (3, .p 1 0 0), (18, .o 2 0 2 2), (19, .c (I 2)), (20, .c (I (0 : Nat)))]) (fun _ => [celB va a, celB vb b, .arr 28 4 2 [celR va a, celR vb b]]) (by decide) (ZNL hE) ZCF ZCH (fun _ => ?_)
  exact ⟨2, 0, by omega, rfl, rfl⟩
 rintro m F H ⟨k, hk, rfl, rfl⟩
 refine WA ?_
 refine aw_if rfl (fun hlt => ?_) (fun hge => ?_)
 ·obtain ⟨w, c, hrow, hc⟩ : ∃ w c, [celR va a, celR vb b][k]? = some (celR w c) ∧ RCel c := by
   obtain rfl | rfl : k = 0 ∨ k = 1 := by omega
   ·exact ⟨va, a, rfl, ha⟩
   ·exact ⟨vb, b, rfl, hb.r⟩
  refine WA ?_
  refine WR ?_
  refine al_ef rfl (ef_call0 false (fun _ => check_r w c hc) rfl .fn rfl (by decide) (by kernel_rfl) rfl (fun _ => C0 rfl) (by simp)) ?_
  rintro _ _ ⟨_, _, _, ⟨rfl, rfl⟩, hF, hH⟩
  (refine NST hF hH ?_; clear hF hH; rintro rfl rfl)
  refine WE ?_
  refine WA ?_
  refine aw_cond_f rfl ?_
  refine ZZ ?_
  refine WA ?_
  refine wk_of [some 0, some 1, some 2] (fun _ => [(2, .p 0 0 0), (3, .p 1 0 0), (18, .o 2 0 2 2), (19, .c (I 2)), (20, .c (I (k + 1 : Nat)))]) (fun _ => [celB va a, celB vb b, .arr 28 4 2 [celR va a, celR vb b]]) (by decide) (ZNL hE) ZCF ZCH (fun _ => ?_)
  exact ⟨m - 1, by omega, k + 1, by omega, rfl, rfl⟩
 refine ZZ ?_
 refine WA ?_
 refine aw_cond_f rfl ?_
 refine ZZ ?_
 refine WR ?_
 refine al_ef rfl (ef_call0 false (fun _ => hfm) rfl .fn rfl (by decide) (by kernel_rfl) rfl (fun _ => C0 rfl) (by simp)) ?_
 rintro _ _ ⟨_, _, _, ⟨vm, rfl, rfl⟩, hF, hH⟩
 (refine NST hF hH ?_; clear hF hH; rintro rfl rfl)
 refine al_ef rfl (ef_call0 false (fun _ => parts_v vm D hD) rfl .fn rfl (by decide) (by kernel_rfl) rfl (fun _ => C0 rfl) (by simp)) ?_
 rintro _ _ ⟨_, _, _, ⟨vp, lp, rfl, hlp, rfl⟩, hF, hH⟩
 (refine NST hF hH ?_; clear hF hH; rintro rfl rfl)
 refine WE ?_
 have hnp := hpr.n
 have hrp := hpr.r
 rw [← hlp] at hnp hrp ⊢
 have e1 : (cR lp).length = lp.length := by simp
 have hnl : lp.length ≤ 100000 := by simpa using hnp
 refine WA ?_
 refine WA ?_
 refine aw_loopw (fun m F H => ∃ (i cp : Nat) (l : List Brg), m + i = lp.length ∧ (l.map fun x => (x.1.2, x.2)) = ((lp.map Prod.snd).take i).map (fun c => (c, bestF c)) ∧ F = [(11, .o 0 0 l.length cp), (42, .c (.r vp (cR lp))), (43, .c (I (cR lp).length)), (44, .c (I i))] ∧ H = [.arr 71 6 cp (brgR l)]) ?_ ?_
 ·refine wk_of [none] (fun _ => [(11, .o 0 0 0 0), (42, .c (.r vp (cR lp))), (43, .c (I (cR lp).length)), (44, .c (I (0 : Nat)))]) (fun _ => [.arr 71 6 0 (brgR [])]) (by decide) (ZNL hE) ZCF ZCH (fun _ => ?_)
  exact ⟨lp.length, 0, 0, [], by omega, rfl, rfl, rfl⟩
 rintro m F H ⟨i, cp, l, hi, hl, rfl, rfl⟩
 have hll : l.length = i := by have := congrArg List.length hl; simp at this; omega
 refine WA ?_
 refine aw_if rfl (fun hlt => ?_) (fun hge => ?_)
 ·obtain ⟨⟨w, c⟩, hx⟩ : ∃ e, lp[i]? = some e := ⟨_, List.getElem?_eq_getElem (by omega)⟩
  have hrow : (cR lp)[i]? = some (celR w c) := by rw [List.getElem?_map, hx]; rfl
  have hxc : (lp.map Prod.snd)[i]? = some c := by rw [List.getElem?_map, hx]; rfl
  have hc := hrp c (List.mem_of_getElem? hxc)
  have htk : (lp.map Prod.snd).take (i + 1) = (lp.map Prod.snd).take i ++ [c] := by rw [List.take_add_one, hxc]; rfl
  refine WA ?_
  refine WR ?_
  refine al_ef rfl (ef_call0 false (fun _ => best_v w c hc.1 hc.2.2) rfl .fn rfl (by decide) (by kernel_rfl) rfl (fun _ => C0 rfl) (by simp)) ?_
  rintro _ _ ⟨_, _, _, ⟨rfl, rfl⟩, hF, hH⟩
  (refine NST hF hH ?_; clear hF hH; rintro rfl rfl)
  refine WE ?_
  refine WR ?_
  refine al_ef rfl (Zapp (KA (t := 65) rfl)) ?_
  rintro _ _ ⟨_, cc, hcc, rfl, rfl⟩
  refine WE ?_
  refine WA ?_
  refine wk_of [some 0] (fun _ => [(11, .o 0 0 (l ++ [(((w, c), bestF c) : Brg)]).length cc), (42, .c (.r vp (cR lp))), (43, .c (I (cR lp).length)), (44, .c (I (i + 1 : Nat)))]) (fun _ => [.arr 71 6 cc (brgR (l ++ [(((w, c), bestF c) : Brg)]))]) (by decide) (ZNL hE) ZCF ZCH (fun _ => ?_)
  exact ⟨m - 1, by omega, i + 1, cc, l ++ [((w, c), bestF c)], by omega, by rw [htk, List.map_append, List.map_append, hl]; rfl, rfl, rfl⟩
 obtain rfl : i = lp.length := by omega
 rw [List.take_of_length_le (by simp)] at hl
 refine ZZ ?_
 refine WA ?_
 exact aret_f2 [] _ rfl rfl rfl rfl rfl rfl (by rw [List.drop_zero, List.take_of_length_le (by simp)]) (by simp) rfl (by decide) (ZNK rfl) (fun _ => .nil) (fun q => ⟨q, l, rfl, hl, rfl⟩)
end Go.Proofs.YtniolldgidgffaaGreatDoor
