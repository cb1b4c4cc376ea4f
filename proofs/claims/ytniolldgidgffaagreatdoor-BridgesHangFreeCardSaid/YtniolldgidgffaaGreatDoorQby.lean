/- The law BridgesHangFree, walked. -/
import Derived.Test.YtniolldgidgffaaGreatDoorQbn
import Derived.Test.YtniolldgidgffaaGreatDoorQbx
import Derived.Test.YtniolldgidgffaaGreatDoorQat
set_option linter.unusedSimpArgs false
set_option linter.unusedVariables false
/- The law BridgesHangFree, walked. -/
-- NEWM
namespace Go.Proofs.YtniolldgidgffaaGreatDoor
open Go Go.RowKit
set_option maxRecDepth 100000
def wdL (l : List Lin) : Int := l.foldl (fun n x => max n (x.2.2 - x.2.1)) 0
theorem wdL_snoc {l : List Lin} {x : Lin} : wdL (l ++ [x]) = max (wdL l) (x.2.2 - x.2.1) := by unfold wdL; rw [List.foldl_append]; rfl
theorem wdL_lng : ∀ {n : Nat} {l : List Lin}, l.length = n → (∀ x ∈ l, 0 ≤ lenL x) → 0 ≤ wdL l ∧ (l ≠ [] → lngL l = wdL l + 1)
 | 0, l, hn, _ => by rw [List.eq_nil_of_length_eq_zero hn]; exact ⟨Int.le_refl _, fun h => absurd rfl h⟩
 | n + 1, l, hn, h => by
  obtain ⟨A, z, rfl⟩ : ∃ A z, l = A ++ [z] := by
   rcases List.eq_nil_or_concat l with h | ⟨B, p, h⟩
   ·subst h; simp at hn
   ·exact ⟨B, p, by rw [h, List.concat_eq_append]⟩
  obtain ⟨h1, h2⟩ := wdL_lng (n := n) (l := A) (by simpa using hn) fun x hx => h x (List.mem_append_left _ hx)
  have hz := h z (by simp)
  unfold lenL at hz
  rw [wdL_snoc, lngL_snoc]
  refine ⟨by omega, fun _ => ?_⟩
  by_cases e : A = []
  ·subst e
   have w0 : wdL [] = 0 := rfl
   have g0 : lngL [] = 0 := rfl
   omega
  ·have := h2 e; omega
theorem best_is {c : Cel} (hc : RCel c) (hne : covL c ≠ []) : 1 ≤ (bestF c).2 ∧ ((bestF c).1 = 0 ∨ (bestF c).1 = 1) ∧ ∀ k : Int, k = 0 ∨ k = 1 → (bestF c).2 ≤ longQ c k ∧ (k = (bestF c).1 → longQ c k = (bestF c).2) := by
 have h1 : ∀ k, 1 ≤ longQ c k := fun k => by
  have hn := lin_ne hc hne k
  obtain ⟨x, hx⟩ := List.exists_mem_of_ne_nil _ hn
  have h2 := (lngL_ge (x := x) (l := linG (grdOf c) k 1 0) rfl).2 hx
  have h3 := lin_ab hx
  unfold longQ
  unfold lenL at h2
  omega
 have b0 := h1 0
 have b1 := h1 1
 unfold bestF
 split
 ·refine ⟨b1, .inr rfl, fun k hk => ?_⟩
  rcases hk with rfl | rfl
  ·exact ⟨by simp only; omega, fun e => by simp at e⟩
  ·exact ⟨Int.le_refl _, fun _ => rfl⟩
 ·refine ⟨b0, .inl rfl, fun k hk => ?_⟩
  rcases hk with rfl | rfl
  ·exact ⟨Int.le_refl _, fun _ => rfl⟩
  ·exact ⟨by simp only; omega, fun e => by simp at e⟩
theorem ctr_dif {st q r a b : Int} : (ctr st q r b).1 - (ctr st q r a).1 + (ctr st q r b).2 - (ctr st q r a).2 = st * (b - a) := by
 have e : st * (b - a) = b * st - a * st := by rw [Int.mul_sub, Int.mul_comm st b, Int.mul_comm st a]
 unfold ctr
 split <;> (simp only; omega)
noncomputable def upP (st : Int) (C : List Spot) (j : Nat) : Cel := celN st ((partL C).take j).flatten
theorem upP_un {b : Cel} (hb : NCel b) {C : List Spot} (hC : ∀ p ∈ C, p ∈ covL b) {j : Nat} {X : List Spot} (hX : (partL C)[j]? = some X) : normC b.st (covL (upP b.st C j) ++ covL (celN b.st X)) = (upP b.st C (j + 1), 0) := by
 have hst : 0 < b.st := by have := hb.r.st; omega
 have hok := partL_ok C
 have hin : ∀ Y ∈ partL C, ∀ p ∈ Y, p ∈ covL b := fun Y hY p hp => hC p (hok.sub p (by rw [hok.flat, List.mem_flatten]; exact ⟨Y, hY, hp⟩))
 refine normC_is hb (fun p hp => ?_) fun p => ?_
 ·obtain ⟨Y, hY, hp⟩ := List.mem_flatten.1 hp
  exact hin Y (List.mem_of_mem_take hY) p hp
 ·unfold upP
  rw [List.mem_append, covL_celN hst, covL_celN hst, List.take_add_one, hX]
  simp
theorem upP_r {b : Cel} (hb : NCel b) {C : List Spot} (hC : ∀ p ∈ C, p ∈ covL b) (j : Nat) : RCel (upP b.st C j) := by
 have hok := partL_ok C
 refine (normC_ok hb fun p hp => ?_).2
 obtain ⟨Y, hY, hp⟩ := List.mem_flatten.1 hp
 exact hC p (hok.sub p (by rw [hok.flat, List.mem_flatten]; exact ⟨Y, List.mem_of_mem_take hY, hp⟩))
theorem upP_n {st : Int} {C : List Spot} : upP st C (partL C).length = celN st C := by
 have hok := partL_ok C
 unfold upP
 rw [List.take_length]
 refine celN_mem fun p => ?_
 have h : (partL C).flatten = (prtS C C).1 := hok.flat.symm
 rw [h]
 exact ⟨hok.sub p, hok.all p⟩
set_option maxHeartbeats 8000000 in
theorem law_bridges (v : Value) (zs : List Int) (hs : StrOk zs) : ACalls Tryz.prog 7 [.c (.r v (zs.map fun z => [I z]))] [] fun u H => u = .c (B true) := by
 refine acalls_of (N := 168) Tryz.func7 rfl rfl (by simp) fun E hE => ?_
 refine WA ?_
 refine WA ?_
 refine aw_cut (fun F H => ∃ va a vb b, NCel a ∧ a.st = 10 ∧ NCel b ∧ b.st = 10 ∧ F = [(4, .p 0 0 0), (5, .p 1 0 0)] ∧ H = [celB va a, celB vb b]) ?_ ?_ wk_aw
 ·refine WR ?_
  refine al_ef rfl (ef_callm false (fun _ => rightcells_v 10 (by decide) _ _ _ hs (by omega) (by omega)) rfl .fn rfl (by decide) (by kernel_rfl) rfl rfl (fun _g => .cons (.p rfl) (.cons (.c rfl) .nil)) (fun _g => .cons (.c rfl) (.cons (.c rfl) .nil)) (by simp)) ?_
  rintro F1 H1 ⟨_, _, _, _, ⟨va, a, ka, rfl, hq, hac1a, hac2a, ha, hsta⟩, hF, hH⟩
  injection hq with hq1 hq2; subst hq1; subst hq2
  (refine NST hF hH ?_; clear hF hH; rintro rfl rfl)
  refine WO ?_
  refine al_ef rfl (ef_callm false (fun _ => rightcells_v 10 (by decide) _ _ _ hs (by omega) (by omega)) rfl .fn rfl (by decide) (by kernel_rfl) rfl rfl (fun _g => .cons (.p rfl) (.cons (.c rfl) .nil)) (fun _g => .cons (.c rfl) (.cons (.c rfl) .nil)) (by simp)) ?_
  rintro F1 H1 ⟨_, _, _, _, ⟨vb, b, kb, rfl, hq, hac1b, hac2b, hb, hstb⟩, hF, hH⟩
  injection hq with hq1 hq2; subst hq1; subst hq2
  (refine NST hF hH ?_; clear hF hH; rintro rfl rfl)
  refine WE ?_
  all_goals (first | exact wk_of [some 1, some 2] (fun _ => [(4, .p 0 0 0), (5, .p 1 0 0)]) (fun _ => [celB va a, celB vb b]) (by decide) (ZNL hE) ZCF ZCH (fun _ => ⟨va, a, vb, b, ha, hsta, hb, hstb, rfl, rfl⟩) | exact wk_of [some 2, some 1] (fun _ => [(4, .p 0 0 0), (5, .p 1 0 0)]) (fun _ => [celB va a, celB vb b]) (by decide) (ZNL hE) ZCF ZCH (fun _ => ⟨va, a, vb, b, ha, hsta, hb, hstb, rfl, rfl⟩))
 rintro F H ⟨va, a, vb, b, ha, hsta, hb, hstb, rfl, rfl⟩
 refine ZZ ?_
 clear hs
 have hsub : ∀ p ∈ minL (covL b) (covL a), p ∈ covL b := fun p hp => (List.mem_filter.1 hp).1
 have hbr := bridges_v va vb a b ha.r hb (by omega)
 have hmi := minus_v vb va b a hb.r ha.r (by omega)
 have hno := normC_ok hb hsub
 rw [hno.1] at hmi
 have hst : 0 < b.st := by have := hb.r.st; omega
 have hDs : ∀ p ∈ covL (celN b.st (minL (covL b) (covL a))), p ∈ covL b := fun p hp => hsub p ((covL_celN hst).1 hp)
 have hpr := prt_r hb hno.2 (celN_st _ _) hDs
 have hbl : brgL a b = (partF (celN b.st (minL (covL b) (covL a)))).map fun c => (c, bestF c) := rfl
 have hpe : ∀ (j : Nat) (d : Cel), (partF (celN b.st (minL (covL b) (covL a))))[j]? = some d → ∃ X, (partL (covL (celN b.st (minL (covL b) (covL a)))))[j]? = some X ∧ d = celN b.st X := fun j d hd => by
  unfold partF at hd
  rw [List.getElem?_map] at hd
  cases hX : (partL (covL (celN b.st (minL (covL b) (covL a)))))[j]? with
  | none => rw [hX] at hd; cases hd
  | some X =>
   rw [hX] at hd
   simp only [Option.map_some, Option.some.injEq] at hd
   refine ⟨X, rfl, ?_⟩
   have hok := partL_ok (covL (celN b.st (minL (covL b) (covL a))))
   rw [← hd]
   unfold prtC
   rw [celN_st, (normC_ok hb fun p hp => hDs p (hok.sub p (by rw [hok.flat, List.mem_flatten]; exact ⟨X, List.mem_of_getElem? hX, hp⟩))).1]
 have hupn : upP b.st (covL (celN b.st (minL (covL b) (covL a)))) (partF (celN b.st (minL (covL b) (covL a)))).length = celN b.st (minL (covL b) (covL a)) := by
  unfold partF
  rw [List.length_map, upP_n]
  exact celN_mem fun p => covL_celN hst
 have hup0 : upP b.st (covL (celN b.st (minL (covL b) (covL a)))) 0 = ⟨10, 0, 0, []⟩ := by rw [hstb]; rfl
 have hupu := fun (j : Nat) (X : List Spot) (hX : (partL (covL (celN b.st (minL (covL b) (covL a)))))[j]? = some X) => upP_un hb hDs hX
 have hupr := upP_r hb hDs
 have hups : ∀ j, (upP b.st (covL (celN b.st (minL (covL b) (covL a)))) j).st = b.st := fun j => celN_st _ _
 rw [hbl] at hbr
 have hDr := hno.2
 clear hno hbl hsub hDs
 generalize celN b.st (minL (covL b) (covL a)) = D at *
 generalize hU : (fun j => upP b.st (covL D) j) = U at *
 have hUe : ∀ j, upP b.st (covL D) j = U j := fun j => by rw [← hU]
 rw [hUe] at hupn hup0
 simp only [hUe] at hupu hupr hups
 clear hUe hU
 refine WR ?_
 refine al_ef rfl (ef_call0 false (fun _ => hbr) rfl .fn rfl (by decide) (by kernel_rfl) rfl (fun _ => C0 rfl) (by simp)) ?_
 rintro _ _ ⟨_, _, _, ⟨vx, lx, rfl, hlx, rfl⟩, hF, hH⟩
 (refine NST hF hH ?_; clear hF hH; rintro rfl rfl)
 refine WE ?_
 refine WR ?_
 refine al_ef rfl (ef_call0 false (fun _ => hmi) rfl .fn rfl (by decide) (by kernel_rfl) rfl (fun _ => C0 rfl) (by simp)) ?_
 rintro _ _ ⟨_, _, _, ⟨vm, rfl, rfl⟩, hF, hH⟩
 (refine NST hF hH ?_; clear hF hH; rintro rfl rfl)
 refine WE ?_
 refine WA ?_
 refine WA ?_
 have nl : lx.length = (partF D).length := by have := congrArg List.length hlx; simpa using this
 have hnl := hpr.n
 have e1 : (brgR lx).length = lx.length := by simp
 refine aw_loopw (fun m F H => ∃ (j : Nat) (w : Value), m + j = lx.length ∧ F = [(7, .c (I 0)), (8, .p 0 0 0), (9, .c (I 0)), (10, .p 1 0 0), (44, .c (.r vx (brgR lx))), (45, .c (I (brgR lx).length)), (46, .c (I j))] ∧ H = [celB vm D, celB w (U j)]) ?_ ?_
 ·refine wk_of [some 2, some 3] (fun _ => [(7, .c (I 0)), (8, .p 0 0 0), (9, .c (I 0)), (10, .p 1 0 0), (44, .c (.r vx (brgR lx))), (45, .c (I (brgR lx).length)), (46, .c (I (0 : Nat)))]) (fun _ => [celB vm D, celB (.slice none 0 0) ⟨10, 0, 0, []⟩]) (by decide) (ZNL hE) ZCF ZCH (fun _ => ?_)
  exact ⟨lx.length, 0, _, by omega, rfl, by rw [hup0]⟩
 rintro m F H ⟨j, w, hj, rfl, rfl⟩
 refine WA ?_
 refine aw_if rfl (fun hlt => ?_) (fun hge => ?_)
 ·obtain ⟨⟨⟨vd, d⟩, q, n⟩, hx⟩ : ∃ e, lx[j]? = some e := ⟨_, List.getElem?_eq_getElem (by omega)⟩
  have hrow : (brgR lx)[j]? = some [I d.st, I d.x, I d.y, .r vd (tR d.rows), I q, I n] := by rw [List.getElem?_map, hx]; rfl
  obtain ⟨hdj, hbq⟩ : (partF D)[j]? = some d ∧ bestF d = (q, n) := by
   have h1 : (lx.map fun x => (x.1.2, x.2))[j]? = some (d, (q, n)) := by rw [List.getElem?_map, hx]; rfl
   rw [hlx, List.getElem?_map] at h1
   cases h2 : (partF D)[j]? with
   | none => rw [h2] at h1; cases h1
   | some c =>
    rw [h2] at h1
    simp only [Option.map_some, Option.some.injEq, Prod.mk.injEq] at h1
    obtain ⟨rfl, h3⟩ := h1
    exact ⟨rfl, h3⟩
  obtain ⟨hdr, hds, hdn⟩ := hpr.r d (List.mem_of_getElem? hdj)
  obtain ⟨X, hX, hdX⟩ := hpe j d hdj
  obtain ⟨b1, b2, b3⟩ := best_is hdr hdn
  rw [hbq] at b1 b2 b3
  simp only at b1 b2 b3
  have hun := hupu j X hX
  rw [← hdX] at hun
  have hcu := unionr_v w vd (U j) d (U (j + 1)) (hupr j) hdr (by rw [hups, hdX, celN_st]) (by rw [hups]; exact hun)
  have hdcl : d.rows.length ≤ 1000000000 := by have := hdr.h; omega
  have hdcr : ∀ r ∈ d.rows, r.length ≤ 1000000000 := fun r hr => by
   have := hdr.w
   rw [(hdr.row r hr).1]; omega
  have hrne : d.rows ≠ [] := fun e => hdn (cov_e e)
  have hqu := quarter_v vd d hdcl hdcr
  have hqf : quaF d = (q, n, 0) := by unfold quaF; rw [if_neg (by simp [celF_0.2 hdr]), if_neg hrne, hbq]
  rw [hqf] at hqu
  simp only at hqu
  have hd10 : d.st = 10 := by rw [hdX, celN_st]; exact hstb
  have h00 : fstN [0, 0] = 0 := rfl
  have z1 : q = q := rfl
  have z2 : n = n := rfl
  clear hun hX hdX hx hqf hdj
  refine WA ?_
  refine WR ?_
  refine al_ef rfl (ef_call0 false (fun _ => hcu) rfl .fn rfl (by decide) (by kernel_rfl) rfl (fun _ => C0 rfl) (by simp)) ?_
  rintro _ _ ⟨_, _, _, ⟨w2, rfl, rfl⟩, hF, hH⟩
  (refine NST hF hH ?_; clear hF hH; rintro rfl rfl)
  refine WE ?_
  refine WR ?_
  refine al_ef rfl (ef_call0 false (fun _ => hqu) rfl .fn rfl (by decide) (by kernel_rfl) rfl (fun _ => C0 rfl) (by simp)) ?_
  rintro _ _ ⟨_, _, _, ⟨rfl, rfl⟩, hF, hH⟩
  (refine NST hF hH ?_; clear hF hH; rintro rfl rfl)
  refine WE ?_
  refine WR ?_
  refine al_ef rfl (ef_call0 true (fun g => kerrs_v [0, 0] (g (.o _ 0 2 2)) (by simp)) rfl .fn rfl (by decide) (by kernel_rfl) rfl (fun _ => .cons (.frz rfl rfl rfl rfl rfl) .nil) (fun _ _ _ _ ⟨hu, hH⟩ => by rw [hu, hH]; exact ⟨.c (.inl trivial), by simp⟩)) ?_
  rintro _ _ ⟨_, _, _, ⟨rfl, rfl⟩, hF, hH⟩
  rw [h00] at hF
  (refine NST hF hH ?_; clear hF hH; rintro rfl rfl)
  refine WE ?_
  refine aw_cond_f rfl ?_
  refine ZZ ?_
  refine WA ?_
  refine WA ?_
  refine aw_loopw (fun m2 F H => ∃ (k : Nat), m2 + k = 2 ∧ F = [(7, .c (I 0)), (8, .p 0 0 0), (9, .c (I 0)), (10, .p 1 0 0), (12, .p 2 0 0), (15, .c (I q)), (16, .c (I n)), (44, .c (.r vx (brgR lx))), (45, .c (I (brgR lx).length)), (46, .c (I j)), (86, .c (I k))] ∧ H = [celB vm D, celB w2 (U (j + 1)), .box [.c (I d.st), .c (I d.x), .c (I d.y), .c (.r vd (tR d.rows)), .c (I q), .c (I n)]]) ?_ ?_
  ·refine wk_of [some 0, some 1, some 2] (fun _ => [(7, .c (I 0)), (8, .p 0 0 0), (9, .c (I 0)), (10, .p 1 0 0), (12, .p 2 0 0), (15, .c (I q)), (16, .c (I n)), (44, .c (.r vx (brgR lx))), (45, .c (I (brgR lx).length)), (46, .c (I j)), (86, .c (I (0 : Nat)))]) (fun _ => [celB vm D, celB w2 (U (j + 1)), .box [.c (I d.st), .c (I d.x), .c (I d.y), .c (.r vd (tR d.rows)), .c (I q), .c (I n)]]) (by decide) (ZNL hE) ZCF ZCH (fun _ => ?_)
   exact ⟨2, 0, by omega, rfl, rfl⟩
  rintro m2 F H ⟨k, hk, rfl, rfl⟩
  refine WA ?_
  refine aw_if rfl (fun hlt2 => ?_) (fun hge2 => ?_)
  ·obtain ⟨c1, c2⟩ := b3 k (by omega)
   have hfz : lnF d k 1 0 = 0 := by
    unfold lnF
    rw [if_neg (by simp [celF_0.2 hdr]), if_neg (by simp [outB]; omega), if_neg (by simp [outB])]
   have hli : ACalls Tryz.prog 14 [celA vd d, .c (I k), .c (I 1), .c (I 0)] [] fun u H => ∃ (v : Value) (pl : List Pth), u = .t [.c (.r v (paR pl)), .c (I 0)] ∧ (pl.map Prod.snd = (linG (grdOf d) k 1 0).map fun l => (ptsL d.st k l, false)) ∧ H = [] := (lines_v vd d k 1 0 hdcl hdcr).mono fun u H hq => by
    obtain ⟨v, pl, h1, _, h3, h4⟩ := hq
    exact ⟨v, pl, by rw [h1, hfz], h3 hfz, h4⟩
   have hlq : longQ d k = wdL (linG (grdOf d) k 1 0) + 1 := (wdL_lng (l := linG (grdOf d) k 1 0) rfl fun x hx => by have := lin_ab hx; unfold lenL; omega).2 (lin_ne hdr hdn k)
   have hwb : ∀ i, 0 ≤ wdL ((linG (grdOf d) k 1 0).take i) := fun i => (wdL_lng (l := (linG (grdOf d) k 1 0).take i) rfl fun x hx => by have := lin_ab (List.mem_of_mem_take hx); unfold lenL; omega).1
   have hbd := fun l h => @lin_bd (grdOf d) (grdOf_ok hdr) k 1 0 l h
   have hba := fun l h => @lin_ab (grdOf d) k 1 0 l h
   have hlen := lin_len hdr k 1 0
   rw [hd10] at hli
   generalize linG (grdOf d) k 1 0 = LL at *
   refine WA ?_
   refine WR ?_
   refine al_ef rfl (ef_call0 false (fun _ => hli) rfl .fn rfl (by decide) (by kernel_rfl) rfl (fun _ => C0 rfl) (by simp)) ?_
   rintro _ _ ⟨_, _, _, ⟨vl, pl, rfl, hpl, rfl⟩, hF, hH⟩
   (refine NST hF hH ?_; clear hF hH; rintro rfl rfl)
   refine WE ?_
   have npl : pl.length = LL.length := by have := congrArg List.length hpl; simpa using this
   have e2 : (paR pl).length = pl.length := by simp
   refine WA ?_
   refine WA ?_
   refine aw_loopw (fun m3 F H => ∃ (i : Nat) (w : Int), m3 + i = LL.length ∧ w = wdL (LL.take i) ∧ w ≤ 100000000 ∧ F = [(7, .c (I 0)), (8, .p 0 0 0), (9, .c (I 0)), (10, .p 1 0 0), (12, .p 2 0 0), (15, .c (I q)), (16, .c (I n)), (18, .c (I k)), (20, .c (I 0)), (21, .c (I (10 * w))), (44, .c (.r vx (brgR lx))), (45, .c (I (brgR lx).length)), (46, .c (I j)), (86, .c (I k)), (96, .c (.r vl (paR pl))), (97, .c (I (paR pl).length)), (98, .c (I i))] ∧ H = [celB vm D, celB w2 (U (j + 1)), .box [.c (I d.st), .c (I d.x), .c (I d.y), .c (.r vd (tR d.rows)), .c (I q), .c (I n)]]) ?_ ?_
   ·refine wk_of [some 0, some 1, some 2] (fun _ => [(7, .c (I 0)), (8, .p 0 0 0), (9, .c (I 0)), (10, .p 1 0 0), (12, .p 2 0 0), (15, .c (I q)), (16, .c (I n)), (18, .c (I k)), (20, .c (I 0)), (21, .c (I (10 * 0))), (44, .c (.r vx (brgR lx))), (45, .c (I (brgR lx).length)), (46, .c (I j)), (86, .c (I k)), (96, .c (.r vl (paR pl))), (97, .c (I (paR pl).length)), (98, .c (I (0 : Nat)))]) (fun _ => [celB vm D, celB w2 (U (j + 1)), .box [.c (I d.st), .c (I d.x), .c (I d.y), .c (.r vd (tR d.rows)), .c (I q), .c (I n)]]) (by decide) (ZNL hE) ZCF ZCH (fun _ => ?_)
    exact ⟨LL.length, 0, 0, by omega, rfl, by omega, rfl, rfl⟩
   rintro m3 F H ⟨i, w, hi, hwi, hwm, rfl, rfl⟩
   have hw0 := hwb i
   rw [← hwi] at hw0
   refine WA ?_
   refine aw_if rfl (fun hlt3 => ?_) (fun hge3 => ?_)
   ·obtain ⟨⟨r, s, t⟩, hsi⟩ : ∃ e, LL[i]? = some e := ⟨_, List.getElem?_eq_getElem (by omega)⟩
    obtain ⟨⟨vp, pts, cl⟩, hpi⟩ : ∃ e, pl[i]? = some e := ⟨_, List.getElem?_eq_getElem (by omega)⟩
    have hpp : (pts, cl) = (ptsL 10 k (r, s, t), false) := by
     have h1 : (pl.map Prod.snd)[i]? = some (pts, cl) := by rw [List.getElem?_map, hpi]; rfl
     rw [hpl, List.getElem?_map, hsi] at h1
     simpa using h1.symm
    obtain ⟨hp1, hp2⟩ := Prod.mk.inj hpp
    obtain ⟨g1, g2, g3⟩ := hbd _ (List.mem_of_getElem? hsi)
    have hst2 := hba _ (List.mem_of_getElem? hsi)
    simp only at g1 g2 g3 hst2
    have htk : wdL (LL.take (i + 1)) = max w (t - s) := by rw [List.take_add_one, hsi, hwi]; exact wdL_snoc
    have hdif := ctr_dif (st := 10) (q := k) (r := r) (a := s) (b := t)
    have hctr : ∀ x : Int, -20000000 ≤ x ∧ x ≤ 20000000 → (-1000000000 ≤ (ctr 10 k r x).1 ∧ (ctr 10 k r x).1 ≤ 1000000000) ∧ (-1000000000 ≤ (ctr 10 k r x).2 ∧ (ctr 10 k r x).2 ≤ 1000000000) := fun x hx => by
     unfold ctr; split <;> (simp only; omega)
    have hc1 := hctr s (by omega)
    have hc2 := hctr t (by omega)
    subst hp1
    by_cases hne : t ≠ s
    ·have hpe2 : ptsL 10 k (r, s, t) = [ctr 10 k r s, ctr 10 k r t] := if_pos hne
     rw [hpe2] at hpi
     generalize ctr 10 k r s = P1 at *
     generalize ctr 10 k r t = P2 at *
     obtain ⟨p1, p2⟩ := P1
     obtain ⟨p3, p4⟩ := P2
     simp only at hdif hc1 hc2
     have hrow3 : (paR pl)[i]? = some [.r vp (sR [(p1, p2), (p3, p4)]), B cl] := by rw [List.getElem?_map, hpi]; rfl
     have hq0 : (sR [(p1, p2), (p3, p4)])[0]? = some [I p1, I p2] := rfl
     have hq1 : (sR [(p1, p2), (p3, p4)])[1]? = some [I p3, I p4] := rfl
     refine WA ?_
     refine WA ?_
     refine aw_cond_t rfl ?_
     refine ZZ ?_
     refine aw_regionT [(0, none), (1, none), (2, none), (3, none), (4, none), (5, none), (6, none), (7, none), (8, none), (9, none), (10, none), (11, none), (12, none), (13, none), (14, none), (15, none), (16, none), (17, none), (18, none), (19, none), (20, none), (21, none), (22, none), (23, none), (24, none), (25, none)] hMixed (by kernel_rfl) ?_
     iterate 3 refine WX2 ?_
     refine ZT rfl (rd_indexq (i := 1) rfl (KE (t := 78) rfl) rfl rfl rfl hq1 rfl) ?_
     iterate 4 refine WX2 ?_
     refine ZT rfl (rd_indexq (i := 0) rfl (KE (t := 78) rfl) rfl rfl rfl hq0 rfl) ?_
     iterate 5 refine WX2 ?_
     refine ZT rfl (rd_indexq (i := 1) rfl (KE (t := 78) rfl) rfl rfl rfl hq1 rfl) ?_
     iterate 5 refine WX2 ?_
     refine ZT rfl (rd_indexq (i := 0) rfl (KE (t := 78) rfl) rfl rfl rfl hq0 rfl) ?_
     refine WQ ?_
     refine WA ?_
     rw [hdif, show max (10 * w) (10 * (t - s)) = 10 * max w (t - s) by omega]
     refine wk_of [some 0, some 1, some 2] (fun _ => [(7, .c (I 0)), (8, .p 0 0 0), (9, .c (I 0)), (10, .p 1 0 0), (12, .p 2 0 0), (15, .c (I q)), (16, .c (I n)), (18, .c (I k)), (20, .c (I 0)), (21, .c (I (10 * max w (t - s)))), (44, .c (.r vx (brgR lx))), (45, .c (I (brgR lx).length)), (46, .c (I j)), (86, .c (I k)), (96, .c (.r vl (paR pl))), (97, .c (I (paR pl).length)), (98, .c (I (i + 1 : Nat)))]) (fun _ => [celB vm D, celB w2 (U (j + 1)), .box [.c (I d.st), .c (I d.x), .c (I d.y), .c (.r vd (tR d.rows)), .c (I q), .c (I n)]]) (by decide) (ZNL hE) ZCF ZCH (fun _ => ?_)
     exact ⟨m3 - 1, by omega, i + 1, max w (t - s), by omega, htk.symm, by omega, rfl, rfl⟩
    ·obtain rfl : t = s := by omega
     have hpe2 : ptsL 10 k (r, t, t) = [ctr 10 k r t] := if_neg (by simp)
     rw [hpe2] at hpi
     have hrow3 : (paR pl)[i]? = some [.r vp (sR [ctr 10 k r t]), B cl] := by rw [List.getElem?_map, hpi]; rfl
     refine WA ?_
     refine WA ?_
     refine aw_cond_f rfl ?_
     refine ZZ ?_
     refine WA ?_
     refine wk_of [some 0, some 1, some 2] (fun _ => [(7, .c (I 0)), (8, .p 0 0 0), (9, .c (I 0)), (10, .p 1 0 0), (12, .p 2 0 0), (15, .c (I q)), (16, .c (I n)), (18, .c (I k)), (20, .c (I 0)), (21, .c (I (10 * w))), (44, .c (.r vx (brgR lx))), (45, .c (I (brgR lx).length)), (46, .c (I j)), (86, .c (I k)), (96, .c (.r vl (paR pl))), (97, .c (I (paR pl).length)), (98, .c (I (i + 1 : Nat)))]) (fun _ => [celB vm D, celB w2 (U (j + 1)), .box [.c (I d.st), .c (I d.x), .c (I d.y), .c (.r vd (tR d.rows)), .c (I q), .c (I n)]]) (by decide) (ZNL hE) ZCF ZCH (fun _ => ?_)
     exact ⟨m3 - 1, by omega, i + 1, w, by omega, by rw [htk]; omega, by omega, rfl, rfl⟩
   obtain rfl : i = LL.length := by omega
   rw [List.take_length] at hwi
   rw [← hwi] at hlq
   have hw10 : wrap64 ((10 * w).tdiv 10) = w := by
    rw [Int.mul_tdiv_cancel_left _ (by decide)]
    exact IntWalk.wrap64_in _ (by constructor <;> omega)
   have hge3 : ¬ w + 1 < n := by omega
   refine ZZ ?_
   by_cases hkq : (k : Int) = q
   ·have hlk := c2 hkq
    have heq : w + 1 = n := by omega
    refine ZR ?_
    iterate 4 refine WX1 ?_
    first | refine ZP (rd_quoP (z := w) rfl rfl rfl (by decide) hw10) ?_ | refine ZS ?_
    iterate 10 refine WX1 ?_
    first | refine ZP (rd_quoP (z := w) rfl rfl rfl (by decide) hw10) ?_ | refine ZS ?_
    refine WE ?_
    refine aw_cond_f rfl ?_
    refine ZZ ?_
    refine WA ?_
    refine wk_of [some 0, some 1, some 2] (fun _ => [(7, .c (I 0)), (8, .p 0 0 0), (9, .c (I 0)), (10, .p 1 0 0), (12, .p 2 0 0), (15, .c (I q)), (16, .c (I n)), (44, .c (.r vx (brgR lx))), (45, .c (I (brgR lx).length)), (46, .c (I j)), (86, .c (I (k + 1 : Nat)))]) (fun _ => [celB vm D, celB w2 (U (j + 1)), .box [.c (I d.st), .c (I d.x), .c (I d.y), .c (.r vd (tR d.rows)), .c (I q), .c (I n)]]) (by decide) (ZNL hE) ZCF ZCH (fun _ => ?_)
    exact ⟨m2 - 1, by omega, k + 1, by omega, rfl, rfl⟩
   ·refine ZR ?_
    iterate 4 refine WX1 ?_
    first | refine ZP (rd_quoP (z := w) rfl rfl rfl (by decide) hw10) ?_ | refine ZS ?_
    iterate 10 refine WX1 ?_
    first | refine ZP (rd_quoP (z := w) rfl rfl rfl (by decide) hw10) ?_ | refine ZS ?_
    refine WE ?_
    refine aw_cond_f rfl ?_
    refine ZZ ?_
    refine WA ?_
    refine wk_of [some 0, some 1, some 2] (fun _ => [(7, .c (I 0)), (8, .p 0 0 0), (9, .c (I 0)), (10, .p 1 0 0), (12, .p 2 0 0), (15, .c (I q)), (16, .c (I n)), (44, .c (.r vx (brgR lx))), (45, .c (I (brgR lx).length)), (46, .c (I j)), (86, .c (I (k + 1 : Nat)))]) (fun _ => [celB vm D, celB w2 (U (j + 1)), .box [.c (I d.st), .c (I d.x), .c (I d.y), .c (.r vd (tR d.rows)), .c (I q), .c (I n)]]) (by decide) (ZNL hE) ZCF ZCH (fun _ => ?_)
    exact ⟨m2 - 1, by omega, k + 1, by omega, rfl, rfl⟩
  obtain rfl : k = 2 := by omega
  refine ZZ ?_
  refine WA ?_
  refine wk_of [some 0, some 1] (fun _ => [(7, .c (I 0)), (8, .p 0 0 0), (9, .c (I 0)), (10, .p 1 0 0), (44, .c (.r vx (brgR lx))), (45, .c (I (brgR lx).length)), (46, .c (I (j + 1 : Nat)))]) (fun _ => [celB vm D, celB w2 (U (j + 1))]) (by decide) (ZNL hE) ZCF ZCH (fun _ => ?_)
  exact ⟨m - 1, by omega, j + 1, w2, by omega, rfl, rfl⟩
 obtain rfl : j = (partF D).length := by omega
 rw [hupn]
 have hDl : D.rows.length ≤ 1000000000 := by have := hDr.h; omega
 have h00 : fstN [0, 0] = 0 := rfl
 refine ZZ ?_
 refine WR ?_
 refine al_ef rfl (ef_call0 true (fun g => kerrs_v [0, 0] (g (.o _ 0 2 2)) (by simp)) rfl .fn rfl (by decide) (by kernel_rfl) rfl (fun _ => .cons (.frz rfl rfl rfl rfl rfl) .nil) (fun _ _ _ _ ⟨hu, hH⟩ => by rw [hu, hH]; exact ⟨.c (.inl trivial), by simp⟩)) ?_
 rintro _ _ ⟨_, _, _, ⟨rfl, rfl⟩, hF, hH⟩
 rw [h00] at hF
 (refine NST hF hH ?_; clear hF hH; rintro rfl rfl)
 refine WO ?_
 refine G1 rfl ?_
 refine al_ef rfl (ef_call0 false (fun _ => samec_v w vm D hDl) rfl .fn rfl (by decide) (by kernel_rfl) rfl (fun _ => C0 rfl) (by simp)) ?_
 rintro _ _ ⟨_, _, _, ⟨rfl, rfl⟩, hF, hH⟩
 (refine NST hF hH ?_; clear hF hH; rintro rfl rfl)
 refine WO ?_
 refine G1 rfl ?_
 refine al_ef rfl (ef_call0 false (fun _ => ready_a) rfl .fn rfl (by decide) (by kernel_rfl) rfl (fun _ => C0 rfl) (by simp)) ?_
 rintro _ _ ⟨_, _, _, ⟨rfl, rfl⟩, hF, hH⟩
 (refine NST hF hH ?_; clear hF hH; rintro rfl rfl)
 refine WE ?_
 exact aret_1 [] [] rfl rfl rfl (by decide) (ZNK rfl) (fun _ => .nil) rfl
end Go.Proofs.YtniolldgidgffaaGreatDoor
