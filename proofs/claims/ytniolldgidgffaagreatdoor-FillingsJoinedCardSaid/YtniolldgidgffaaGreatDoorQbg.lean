/- Walls are shells: plain. -/
import Derived.Test.YtniolldgidgffaaGreatDoorQbd
import Derived.Test.YtniolldgidgffaaGreatDoorQbf
import Derived.Test.YtniolldgidgffaaGreatDoorQar
import Derived.Test.YtniolldgidgffaaGreatDoorQaz
import Derived.Test.YtniolldgidgffaaGreatDoorQba
import Derived.Test.YtniolldgidgffaaGreatDoorQas
import Derived.Test.YtniolldgidgffaaGreatDoorQay
import Derived.Test.YtniolldgidgffaaGreatDoorQbe
set_option linter.unusedSimpArgs false
set_option linter.unusedVariables false
/- The reference's Combined, with "or": two maps lie in a slice, said by their values. -/
-- NEWM
namespace Go.Proofs.YtniolldgidgffaaGreatDoor
open Go Go.RowKit
set_option maxRecDepth 100000
section
variable {P : Program} {N : Nat} {E : Env} {F : Fm} {H : List OB} {Q : Exit → Fm → List OB → Prop}
theorem aw_ghostm {i b : Nat} {c : Code} (hx : F.lookup i = some (.mp b)) (h : ∀ A : Option Nat, AW P N E c ((i, .c (.s (.map A))) :: F) (H ++ [.eqv (.mp b) (.map A)]) Q) : AW P N E c F H Q :=
 aw_wk (wk_ghost (K := fun F' H' => ∃ A : Option Nat, F' = (i, .c (.s (.map A))) :: F ∧ H' = H ++ [.eqv (.mp b) (.map A)]) hx fun ρ => ⟨_, rfl, rfl⟩) fun F' H' ⟨A, h1, h2⟩ => by subst h1; subst h2; exact h A
end
theorem or_v (x y : Bool) : ACalls Tryz.prog 116 [.c (B x), .c (B y)] [] fun u H => u = .c (B (x || y)) ∧ H = [] := by
 refine acalls_of (N := 9) Tryz.func116 rfl rfl (by simp) fun E hE => ?_
 cases x with
 | true =>
  refine WA ?_
  refine WA ?_
  exact aret_1 [] _ rfl rfl rfl (by decide) (ZNK rfl) (fun _ => .nil) ⟨rfl, rfl⟩
 | false =>
  refine WA ?_
  refine WA ?_
  exact aret_1 [] _ rfl rfl rfl (by decide) (ZNK rfl) (fun _ => .nil) ⟨rfl, rfl⟩
theorem setof_r (va : Value) (c : Cel) (h : RCel c) : ACalls Tryz.prog 75 [celA va c] [] fun u H => ∃ es ck, SetOk es ck (covL c) ∧ u = .mp 0 ∧ H = [mpO encP encT es ck] := by
 have h1 := h.st
 have h2 := h.far
 have h3 := h.h
 exact setof_v va c (by omega) (by omega) (by omega) (by omega) fun r hr => ⟨by have := (rcel_rows h r hr).1; omega, (rcel_rows h r hr).2⟩
abbrev celZ : OB := .box [.c (I 0), .c (I 0), .c (I 0), .c (.r (.slice none 0 0) [])]
abbrev mpS (es : SE) (ck : Nat) : OB := mpO encP encT es ck
set_option maxHeartbeats 8000000 in
theorem combined_v (va vb : Value) (a b : Cel) (ha : RCel a) (hb : RCel b) : ACalls Tryz.prog 115 [celA va a, celA vb b, .f (.func 116) []] [] fun u H => ∃ v', u = .t [celA v' (normC a.st (covL a ++ covL b)).1, .c (I (normC a.st (covL a ++ covL b)).2)] ∧ H = [] := by
 have hst5 : -1000000 ≤ a.st ∧ a.st ≤ 1000000 := by have := ha.st; omega
 have hbd : ∀ c, RCel c → ∀ p ∈ covL c, (-10000000 ≤ p.1 ∧ p.1 ≤ 10000000) ∧ (-10000000 ≤ p.2 ∧ p.2 ≤ 10000000) := fun c hc => by
  have h1 := hc.st
  have h2 := hc.far
  have h3 := hc.h
  exact cov_bd (by omega) (by omega) (by omega) (by omega) fun r hr => (rcel_rows hc r hr).1
 have hba := hbd a ha
 have hbb := hbd b hb
 refine acalls_of (N := 50) Tryz.func115 rfl rfl (by simp) fun E hE => ?_
 refine WA ?_
 refine aw_cut (fun F H => ∃ es1 ck1 es2 ck2, SetOk es1 ck1 (covL a) ∧ SetOk es2 ck2 (covL b) ∧ F = [(2, .f (.func 116) []), (3, .p 0 0 0), (6, .p 1 0 0), (8, .mp 2), (9, .mp 3), (10, .mp 4)] ∧ H = [celB va a, celZ, mpS es1 ck1, mpS es2 ck2, mpS [] 0]) ?_ ?_ wk_aw
 ·refine ZZ ?_
  refine aw_regionM [[(0, none), (2, none), (1, some [2]), (3, some []), (5, none), (6, none), (4, some [0, 2, 5, 6]), (7, none)], [(0, none), (2, none), (1, some [2]), (4, some [0, 2]), (3, some []), (5, none), (6, none), (7, none)], [(0, none), (2, none), (4, some [0, 2]), (1, some [2]), (3, some []), (5, none), (6, none), (7, none)]] hMixed (by kernel_rfl) ?_
  focus
   refine WM ?_
   refine am_two (by rfl) (by rfl) (by rfl) ?_ ?_
   rotate_left
   refine am_ef (i := 4) (by rfl) (by rfl) rfl rfl (ef_mkmap rfl rfl (by decide)) ?_
   rintro _ _ ⟨rfl, rfl⟩
   refine ⟨AGX, ?_⟩
   refine am_ef (i := 1) (by rfl) (by rfl) rfl rfl (ef_call0 false (fun _ => setof_r va a ha) rfl .fn rfl (by decide) (by kernel_rfl) rfl (fun _ => C0 rfl) (by simp)) ?_
   rintro _ _ ⟨_, _, _, ⟨es1, ck1, hok1, rfl, rfl⟩, hF, hH⟩
   (refine NSU hF hH ?_; clear hF hH; rintro rfl rfl)
   refine ⟨AGX, ?_⟩
   refine am_ef (i := 3) (by rfl) (by rfl) rfl rfl (ef_call0 false (fun _ => setof_r vb b hb) rfl .fn rfl (by decide) (by kernel_rfl) rfl (fun _ => C0 rfl) (by simp)) ?_
   rintro _ _ ⟨_, _, _, ⟨es2, ck2, hok2, rfl, rfl⟩, hF, hH⟩
   (refine NSU hF hH ?_; clear hF hH; rintro rfl rfl)
   refine ⟨AGX, ?_⟩
   refine WN ?_
   rotate_right
   refine am_ef (i := 1) (by rfl) (by rfl) rfl rfl (ef_call0 false (fun _ => setof_r va a ha) rfl .fn rfl (by decide) (by kernel_rfl) rfl (fun _ => C0 rfl) (by simp)) ?_
   rintro _ _ ⟨_, _, _, ⟨es1, ck1, hok1, rfl, rfl⟩, hF, hH⟩
   (refine NSU hF hH ?_; clear hF hH; rintro rfl rfl)
   refine ⟨AGX, ?_⟩
   refine am_two (by rfl) (by rfl) (by rfl) ?_ ?_
   rotate_left
   refine am_ef (i := 4) (by rfl) (by rfl) rfl rfl (ef_mkmap rfl rfl (by decide)) ?_
   rintro _ _ ⟨rfl, rfl⟩
   refine ⟨AGX, ?_⟩
   refine am_ef (i := 3) (by rfl) (by rfl) rfl rfl (ef_call0 false (fun _ => setof_r vb b hb) rfl .fn rfl (by decide) (by kernel_rfl) rfl (fun _ => C0 rfl) (by simp)) ?_
   rintro _ _ ⟨_, _, _, ⟨es2, ck2, hok2, rfl, rfl⟩, hF, hH⟩
   (refine NSU hF hH ?_; clear hF hH; rintro rfl rfl)
   refine ⟨AGX, ?_⟩
   refine WN ?_
   rotate_right
   refine am_ef (i := 3) (by rfl) (by rfl) rfl rfl (ef_call0 false (fun _ => setof_r vb b hb) rfl .fn rfl (by decide) (by kernel_rfl) rfl (fun _ => C0 rfl) (by simp)) ?_
   rintro _ _ ⟨_, _, _, ⟨es2, ck2, hok2, rfl, rfl⟩, hF, hH⟩
   (refine NSU hF hH ?_; clear hF hH; rintro rfl rfl)
   refine ⟨AGX, ?_⟩
   iterate 2 refine WX3 ?_
   refine am_ef (i := 4) (by rfl) (by rfl) rfl rfl (ef_mkmap rfl rfl (by decide)) ?_
   rintro _ _ ⟨rfl, rfl⟩
   refine ⟨AGX, ?_⟩
   refine WN ?_
  all_goals (first | exact wk_of [some 0, some 2, some 3, some 4, some 5] (fun _ => [(2, .f (.func 116) []), (3, .p 0 0 0), (6, .p 1 0 0), (8, .mp 2), (9, .mp 3), (10, .mp 4)]) (fun _ => [celB va a, celZ, mpS es1 ck1, mpS es2 ck2, mpS [] 0]) (by decide) (ZNL hE) ZCF ZCH (fun _ => ⟨es1, ck1, es2, ck2, hok1, hok2, rfl, rfl⟩) | exact wk_of [some 0, some 2, some 4, some 5, some 3] (fun _ => [(2, .f (.func 116) []), (3, .p 0 0 0), (6, .p 1 0 0), (8, .mp 2), (9, .mp 3), (10, .mp 4)]) (fun _ => [celB va a, celZ, mpS es1 ck1, mpS es2 ck2, mpS [] 0]) (by decide) (ZNL hE) ZCF ZCH (fun _ => ⟨es1, ck1, es2, ck2, hok1, hok2, rfl, rfl⟩) | exact wk_of [some 0, some 2, some 3, some 5, some 4] (fun _ => [(2, .f (.func 116) []), (3, .p 0 0 0), (6, .p 1 0 0), (8, .mp 2), (9, .mp 3), (10, .mp 4)]) (fun _ => [celB va a, celZ, mpS es1 ck1, mpS es2 ck2, mpS [] 0]) (by decide) (ZNL hE) ZCF ZCH (fun _ => ⟨es1, ck1, es2, ck2, hok1, hok2, rfl, rfl⟩))
 rintro F H ⟨es1, ck1, es2, ck2, hok1, hok2, rfl, rfl⟩
 refine ZZ ?_
 refine aw_ghostm (i := 8) rfl fun A => ?_
 refine aw_ghostm (i := 9) rfl fun B' => ?_
 refine WA ?_
 refine aw_thaw (i := 8) (b := 5) rfl rfl ?_
 refine aw_thaw (i := 9) (b := 6) rfl rfl ?_
 refine aw_loopw (fun m F H => ∃ (k : Nat) (es3 : SE) (ck3 : Nat) (L3 : List Spot), m + k = 2 ∧ SetOk es3 ck3 L3 ∧ (∀ p, p ∈ L3 ↔ (1 ≤ k ∧ p ∈ covL a) ∨ (2 ≤ k ∧ p ∈ covL b)) ∧ F = [(2, .f (.func 116) []), (3, .p 0 0 0), (6, .p 1 0 0), (8, .mp 2), (9, .mp 3), (10, .mp 4), (21, .o 7 0 2 2), (22, .c (I 2)), (23, .c (I k))] ∧ H = [celB va a, celZ, mpS es1 ck1, mpS es2 ck2, mpS es3 ck3, .eqv (.mp 2) (.map A), .eqv (.mp 3) (.map B'), .arr 122 1 2 [[.s (.map A)], [.s (.map B')]]]) ?_ ?_
 ·refine wk_of [some 0, some 1, some 2, some 3, some 4, some 5, some 6, some 7] (fun _ => [(2, .f (.func 116) []), (3, .p 0 0 0), (6, .p 1 0 0), (8, .mp 2), (9, .mp 3), (10, .mp 4), (21, .o 7 0 2 2), (22, .c (I 2)), (23, .c (I (0 : Nat)))]) (fun _ => [celB va a, celZ, mpS es1 ck1, mpS es2 ck2, mpS [] 0, .eqv (.mp 2) (.map A), .eqv (.mp 3) (.map B'), .arr 122 1 2 [[.s (.map A)], [.s (.map B')]]]) (by decide) (ZNL hE) ZCF ZCG (fun _ => ?_)
  exact ⟨2, 0, [], 0, [], rfl, .nil, fun p => by simp, rfl, rfl⟩
 rintro m F H ⟨k, es3, ck3, L3, hm, hok3, hL3, rfl, rfl⟩
 have hr0 : [[CV.s (.map A)], [CV.s (.map B')]][0]? = some [.s (.map A)] := rfl
 have hr1 : [[CV.s (.map A)], [CV.s (.map B')]][1]? = some [.s (.map B')] := rfl
 refine WA ?_
 refine aw_if rfl (fun hlt => ?_) (fun hge => ?_)
 ·have hk : k = 0 ∨ k = 1 := by omega
  rcases hk with rfl | rfl
  ·refine WA ?_
   refine aw_thaw (i := 12) (b := 5) rfl rfl ?_
   refine ZR ?_
   refine WX1 ?_
   refine al_ef rfl (ef_range (ke := encP) (ve := encT) (l := es1) (ck := ck1) rfl rfl (by decide) Tryz.underlying122 rfl rfl) ?_
   rintro _ _ ⟨rfl, rfl⟩
   refine WE ?_
   refine aw_loopw (fun q F H => ∃ (seen : List Nat) (T : List Spot) (es4 : SE) (ck4 : Nat) (L4 : List Spot), unseen es1 seen = q ∧ (∀ p, p ∈ T ↔ p ∈ seenT es1 seen) ∧ SetOk es4 ck4 L4 ∧ (∀ p, p ∈ L4 ↔ p ∈ L3 ∨ p ∈ T) ∧ F = [(2, .f (.func 116) []), (3, .p 0 0 0), (6, .p 1 0 0), (8, .mp 2), (9, .mp 3), (10, .mp 4), (21, .o 7 0 2 2), (22, .c (I 2)), (23, .c (I 0)), (28, .p 8 0 0)] ∧ H = [celB va a, celZ, mpS es1 ck1, mpS es2 ck2, mpS es4 ck4, .eqv (.mp 2) (.map A), .eqv (.mp 3) (.map B'), .arr 122 1 2 [[.s (.map A)], [.s (.map B')]], .itr 2 ck1 seen ck1]) ?_ ?_
   ·refine wk_of [some 0, some 1, some 2, some 3, some 4, some 5, some 6, some 7, some 8] (fun _ => [(2, .f (.func 116) []), (3, .p 0 0 0), (6, .p 1 0 0), (8, .mp 2), (9, .mp 3), (10, .mp 4), (21, .o 7 0 2 2), (22, .c (I 2)), (23, .c (I 0)), (28, .p 8 0 0)]) (fun _ => [celB va a, celZ, mpS es1 ck1, mpS es2 ck2, mpS es3 ck3, .eqv (.mp 2) (.map A), .eqv (.mp 3) (.map B'), .arr 122 1 2 [[.s (.map A)], [.s (.map B')]], .itr 2 ck1 [] ck1]) (by decide) (ZNL hE) ZCF ZCG (fun _ => ?_)
    exact ⟨_, [], [], es3, ck3, L3, rfl, fun p => by simp [seenT], hok3, fun p => by simp, rfl, rfl⟩
   rintro q F H ⟨seen, T, es4, ck4, L4, hq, hT, hok4, hL4, rfl, rfl⟩
   refine ZR ?_
   refine al_ef rfl (ef_nextP (l := es1) hok1 rfl rfl (by decide) rfl rfl rfl) ?_
   rintro _ _ (⟨eb, ex, ey, he, hne, rfl, rfl⟩ | ⟨hall, rfl, rfl⟩)
   all_goals (refine WE ?_)
   ·refine aw_cond_t rfl ?_
    have hlt := unseen_lt he hne
    have hT' : ∀ p, p ∈ T ++ [(ex, ey)] ↔ p ∈ seenT es1 (seen ++ [eb]) := fun p => by
     rw [seenT_snoc hok1.nb he, List.mem_append, List.mem_append, hT]
    have hel := (hok1.hm _).1 (List.mem_map_of_mem he)
    simp only at hel
    obtain ⟨x1, hd1⟩ : ∃ x, decide ((ex, ey) ∈ covL a) = x := ⟨_, rfl⟩
    obtain ⟨x2, hd2⟩ : ∃ x, decide ((ex, ey) ∈ covL b) = x := ⟨_, rfl⟩
    have hor : (x1 || x2) = true := by rw [← hd1, ← hd2]; simp [hel]
    have hs4 := hok4.set (ex, ey)
    refine ZR ?_
    refine ZA (rd_entryP (l := es1) hok1 rfl rfl rfl rfl he) ?_
    refine WE ?_
    refine ZZ ?_
    refine aw_regionT [(0, none), (1, none), (2, none), (3, none), (4, none), (5, none), (6, none), (7, some [])] hMixed (by kernel_rfl) ?_
    iterate 3 refine WX2 ?_
    refine ZT rfl (rd_lookPq (l := es1) hd1 hok1 keyP rfl Tryz.underlying122 (by kernel_rfl) rfl rfl rfl) ?_
    iterate 2 refine WX2 ?_
    refine ZT rfl (rd_lookPq (l := es2) hd2 hok2 keyP rfl Tryz.underlying122 (by kernel_rfl) rfl rfl rfl) ?_
    refine at_ef rfl rfl (ef_call0 false (fun _ => or_v x1 x2) rfl (.clo rfl) rfl (by decide) (by kernel_rfl) rfl (fun _ => C0 rfl) (by simp)) ?_
    rintro _ _ ⟨_, _, _, ⟨rfl, rfl⟩, hF, hH⟩
    rw [hor] at hF
    (refine NST hF hH ?_; clear hF hH; rintro rfl rfl)
    refine ⟨ag_none, ?_⟩
    refine WQ ?_
    refine aw_cond_t rfl ?_
    refine ZR ?_
    iterate 2 refine WX1 ?_
    refine al_ef rfl (ef_setP (p := ex) (q := ey) (l := es4) (ck := ck4) keyP rfl rfl Tryz.underlying122 rfl rfl rfl rfl) ?_
    rintro _ _ ⟨rfl, rfl⟩
    refine WE ?_
    refine wk_of [some 0, some 1, some 2, some 3, some 4, some 5, some 6, some 7, some 8] (fun _ => [(2, .f (.func 116) []), (3, .p 0 0 0), (6, .p 1 0 0), (8, .mp 2), (9, .mp 3), (10, .mp 4), (21, .o 7 0 2 2), (22, .c (I 2)), (23, .c (I 0)), (28, .p 8 0 0)]) (fun _ => [celB va a, celZ, mpS es1 ck1, mpS es2 ck2, mpS (mset ck4 (ex, ey) true es4) (mclk ck4 (ex, ey) es4), .eqv (.mp 2) (.map A), .eqv (.mp 3) (.map B'), .arr 122 1 2 [[.s (.map A)], [.s (.map B')]], .itr 2 ck1 (seen ++ [eb]) ck1]) (by decide) (ZNL hE) ZCF ZCG (fun _ => ?_)
    exact ⟨_, by rw [← hq]; exact hlt, seen ++ [eb], T ++ [(ex, ey)], _, _, _, rfl, hT', hs4, fun p => by rw [List.mem_append, List.mem_append, hL4, or_assoc], rfl, rfl⟩
   refine aw_cond_f rfl ?_
   have hTL := fun p => (hT p).trans (seenT_end hok1 hall)
   refine ZZ ?_
   refine WA ?_
   refine wk_of [some 0, some 1, some 2, some 3, some 4, some 5, some 6, some 7] (fun _ => [(2, .f (.func 116) []), (3, .p 0 0 0), (6, .p 1 0 0), (8, .mp 2), (9, .mp 3), (10, .mp 4), (21, .o 7 0 2 2), (22, .c (I 2)), (23, .c (I (0 + 1 : Nat)))]) (fun _ => [celB va a, celZ, mpS es1 ck1, mpS es2 ck2, mpS es4 ck4, .eqv (.mp 2) (.map A), .eqv (.mp 3) (.map B'), .arr 122 1 2 [[.s (.map A)], [.s (.map B')]]]) (by decide) (ZNL hE) ZCF ZCG (fun _ => ?_)
   exact ⟨m - 1, by omega, 0 + 1, es4, ck4, L4, by omega, hok4, fun p => by rw [hL4, hTL, hL3]; simp, rfl, rfl⟩
  ·refine WA ?_
   refine aw_thaw (i := 12) (b := 6) rfl rfl ?_
   refine ZR ?_
   refine WX1 ?_
   refine al_ef rfl (ef_range (ke := encP) (ve := encT) (l := es2) (ck := ck2) rfl rfl (by decide) Tryz.underlying122 rfl rfl) ?_
   rintro _ _ ⟨rfl, rfl⟩
   refine WE ?_
   refine aw_loopw (fun q F H => ∃ (seen : List Nat) (T : List Spot) (es4 : SE) (ck4 : Nat) (L4 : List Spot), unseen es2 seen = q ∧ (∀ p, p ∈ T ↔ p ∈ seenT es2 seen) ∧ SetOk es4 ck4 L4 ∧ (∀ p, p ∈ L4 ↔ p ∈ L3 ∨ p ∈ T) ∧ F = [(2, .f (.func 116) []), (3, .p 0 0 0), (6, .p 1 0 0), (8, .mp 2), (9, .mp 3), (10, .mp 4), (21, .o 7 0 2 2), (22, .c (I 2)), (23, .c (I 1)), (28, .p 8 0 0)] ∧ H = [celB va a, celZ, mpS es1 ck1, mpS es2 ck2, mpS es4 ck4, .eqv (.mp 2) (.map A), .eqv (.mp 3) (.map B'), .arr 122 1 2 [[.s (.map A)], [.s (.map B')]], .itr 3 ck2 seen ck2]) ?_ ?_
   ·refine wk_of [some 0, some 1, some 2, some 3, some 4, some 5, some 6, some 7, some 8] (fun _ => [(2, .f (.func 116) []), (3, .p 0 0 0), (6, .p 1 0 0), (8, .mp 2), (9, .mp 3), (10, .mp 4), (21, .o 7 0 2 2), (22, .c (I 2)), (23, .c (I 1)), (28, .p 8 0 0)]) (fun _ => [celB va a, celZ, mpS es1 ck1, mpS es2 ck2, mpS es3 ck3, .eqv (.mp 2) (.map A), .eqv (.mp 3) (.map B'), .arr 122 1 2 [[.s (.map A)], [.s (.map B')]], .itr 3 ck2 [] ck2]) (by decide) (ZNL hE) ZCF ZCG (fun _ => ?_)
    exact ⟨_, [], [], es3, ck3, L3, rfl, fun p => by simp [seenT], hok3, fun p => by simp, rfl, rfl⟩
   rintro q F H ⟨seen, T, es4, ck4, L4, hq, hT, hok4, hL4, rfl, rfl⟩
   refine ZR ?_
   refine al_ef rfl (ef_nextP (l := es2) hok2 rfl rfl (by decide) rfl rfl rfl) ?_
   rintro _ _ (⟨eb, ex, ey, he, hne, rfl, rfl⟩ | ⟨hall, rfl, rfl⟩)
   all_goals (refine WE ?_)
   ·refine aw_cond_t rfl ?_
    have hlt := unseen_lt he hne
    have hT' : ∀ p, p ∈ T ++ [(ex, ey)] ↔ p ∈ seenT es2 (seen ++ [eb]) := fun p => by
     rw [seenT_snoc hok2.nb he, List.mem_append, List.mem_append, hT]
    have hel := (hok2.hm _).1 (List.mem_map_of_mem he)
    simp only at hel
    obtain ⟨x1, hd1⟩ : ∃ x, decide ((ex, ey) ∈ covL a) = x := ⟨_, rfl⟩
    obtain ⟨x2, hd2⟩ : ∃ x, decide ((ex, ey) ∈ covL b) = x := ⟨_, rfl⟩
    have hor : (x1 || x2) = true := by rw [← hd1, ← hd2]; simp [hel]
    have hs4 := hok4.set (ex, ey)
    refine ZR ?_
    refine ZA (rd_entryP (l := es2) hok2 rfl rfl rfl rfl he) ?_
    refine WE ?_
    refine ZZ ?_
    refine aw_regionT [(0, none), (1, none), (2, none), (3, none), (4, none), (5, none), (6, none), (7, some [])] hMixed (by kernel_rfl) ?_
    iterate 3 refine WX2 ?_
    refine ZT rfl (rd_lookPq (l := es1) hd1 hok1 keyP rfl Tryz.underlying122 (by kernel_rfl) rfl rfl rfl) ?_
    iterate 2 refine WX2 ?_
    refine ZT rfl (rd_lookPq (l := es2) hd2 hok2 keyP rfl Tryz.underlying122 (by kernel_rfl) rfl rfl rfl) ?_
    refine at_ef rfl rfl (ef_call0 false (fun _ => or_v x1 x2) rfl (.clo rfl) rfl (by decide) (by kernel_rfl) rfl (fun _ => C0 rfl) (by simp)) ?_
    rintro _ _ ⟨_, _, _, ⟨rfl, rfl⟩, hF, hH⟩
    rw [hor] at hF
    (refine NST hF hH ?_; clear hF hH; rintro rfl rfl)
    refine ⟨ag_none, ?_⟩
    refine WQ ?_
    refine aw_cond_t rfl ?_
    refine ZR ?_
    iterate 2 refine WX1 ?_
    refine al_ef rfl (ef_setP (p := ex) (q := ey) (l := es4) (ck := ck4) keyP rfl rfl Tryz.underlying122 rfl rfl rfl rfl) ?_
    rintro _ _ ⟨rfl, rfl⟩
    refine WE ?_
    refine wk_of [some 0, some 1, some 2, some 3, some 4, some 5, some 6, some 7, some 8] (fun _ => [(2, .f (.func 116) []), (3, .p 0 0 0), (6, .p 1 0 0), (8, .mp 2), (9, .mp 3), (10, .mp 4), (21, .o 7 0 2 2), (22, .c (I 2)), (23, .c (I 1)), (28, .p 8 0 0)]) (fun _ => [celB va a, celZ, mpS es1 ck1, mpS es2 ck2, mpS (mset ck4 (ex, ey) true es4) (mclk ck4 (ex, ey) es4), .eqv (.mp 2) (.map A), .eqv (.mp 3) (.map B'), .arr 122 1 2 [[.s (.map A)], [.s (.map B')]], .itr 3 ck2 (seen ++ [eb]) ck2]) (by decide) (ZNL hE) ZCF ZCG (fun _ => ?_)
    exact ⟨_, by rw [← hq]; exact hlt, seen ++ [eb], T ++ [(ex, ey)], _, _, _, rfl, hT', hs4, fun p => by rw [List.mem_append, List.mem_append, hL4, or_assoc], rfl, rfl⟩
   refine aw_cond_f rfl ?_
   have hTL := fun p => (hT p).trans (seenT_end hok2 hall)
   refine ZZ ?_
   refine WA ?_
   refine wk_of [some 0, some 1, some 2, some 3, some 4, some 5, some 6, some 7] (fun _ => [(2, .f (.func 116) []), (3, .p 0 0 0), (6, .p 1 0 0), (8, .mp 2), (9, .mp 3), (10, .mp 4), (21, .o 7 0 2 2), (22, .c (I 2)), (23, .c (I (1 + 1 : Nat)))]) (fun _ => [celB va a, celZ, mpS es1 ck1, mpS es2 ck2, mpS es4 ck4, .eqv (.mp 2) (.map A), .eqv (.mp 3) (.map B'), .arr 122 1 2 [[.s (.map A)], [.s (.map B')]]]) (by decide) (ZNL hE) ZCF ZCG (fun _ => ?_)
   exact ⟨m - 1, by omega, 1 + 1, es4, ck4, L4, by omega, hok4, fun p => by rw [hL4, hTL, hL3]; simp, rfl, rfl⟩
 obtain rfl : k = 2 := by omega
 have hok4 : SetOk es3 ck3 (covL a ++ covL b) := hok3.to fun p => by rw [hL3, List.mem_append]; simp
 have hbd3 : ∀ p ∈ covL a ++ covL b, (-10000000 ≤ p.1 ∧ p.1 ≤ 10000000) ∧ (-10000000 ≤ p.2 ∧ p.2 ≤ 10000000) := fun p hp => by
  rcases List.mem_append.1 hp with h | h
  ·exact hba p h
  ·exact hbb p h
 generalize covL a ++ covL b = L at *
 refine ZZ ?_
 refine WR ?_
 refine al_ef rfl (ef_call [4] (fun _ => [mpS es3 ck3]) false (fun _ => cellsof_v es3 ck3 _ hok4 a.st hst5 hbd3) rfl .fn rfl (by decide) (by kernel_rfl) rfl ZCH (by decide) ZCH (by simp)) ?_
 rintro F1 H1 ⟨_, _, _, _, ⟨v', rfl, rfl⟩, hF, hH⟩
 (refine NSU hF hH ?_; clear hF hH; rintro rfl rfl)
 refine WE ?_
 exact aret_of (us := [celA v' (normC a.st L).1, .c (I (normC a.st L).2)]) [] (fun _ => .t [celA v' (normC a.st L).1, .c (I (normC a.st L).2)]) (fun _ => []) (.cella (n := 4) rfl (by kernel_rfl) (Cells.box rfl) (by first | (simp; done) | exact Nat.le_refl 4) (by (try simp only [nm, putL, Nat.reduceAdd, cellsOf, cvOf]) <;> rfl) (.tmp rfl .nil)) (by decide) (fun i hi => absurd hi (Nat.not_lt_zero i)) (fun g' => .tL (.cons (.aL (.cons (.c rfl) (.cons (.c rfl) (.cons (.c rfl) (.cons (.c rfl) .nil))))) (.cons (.c rfl) .nil))) (fun _ => .nil) (fun g' => ⟨v', rfl, rfl⟩)
end Go.Proofs.YtniolldgidgffaaGreatDoor

/- The union of two grids: plain. -/
namespace Go.Proofs.YtniolldgidgffaaGreatDoor
def ixG (x y : Int) (w : Nat) (p : Spot) : Nat := ((p.2 - y) * (w : Int) + p.1 - x).toNat
def putG (x y : Int) (w : Nat) : List Bool → List Spot → List Bool
 | on, [] => on
 | on, p :: L => putG x y w (on.set (ixG x y w p) true) L
theorem putG_app {x y : Int} {w : Nat} : ∀ {L : List Spot} {M : List Spot} {on : List Bool}, putG x y w on (L ++ M) = putG x y w (putG x y w on L) M
 | [], _, _ => rfl
 | p :: L, M, on => by rw [List.cons_append, putG, putG, putG_app]
theorem putG_snoc {x y : Int} {w : Nat} {L : List Spot} {p : Spot} {on : List Bool} : putG x y w on (L ++ [p]) = (putG x y w on L).set (ixG x y w p) true := by rw [putG_app]; rfl
theorem putG_len {x y : Int} {w : Nat} : ∀ {L : List Spot} {on : List Bool}, (putG x y w on L).length = on.length
 | [], _ => rfl
 | p :: L, on => by rw [putG, putG_len, List.length_set]
def inBox (x y : Int) (w h : Nat) (p : Spot) : Prop := (x ≤ p.1 ∧ p.1 < x + w) ∧ (y ≤ p.2 ∧ p.2 < y + h)
theorem ix_box {x y : Int} {w h : Nat} {p : Spot} (hp : inBox x y w h p) : (p.2 - y) * (w : Int) + p.1 - x = ixG x y w p ∧ ixG x y w p < w * h ∧ ixG x y w p = (p.2 - y).toNat * w + (p.1 - x).toNat := by
 obtain ⟨⟨h1, h2⟩, h3, h4⟩ := hp
 obtain ⟨a, ha⟩ : ∃ a : Nat, p.1 = x + a := ⟨(p.1 - x).toNat, by omega⟩
 obtain ⟨b, hb⟩ : ∃ b : Nat, p.2 = y + b := ⟨(p.2 - y).toNat, by omega⟩
 have e : (p.2 - y) * (w : Int) + p.1 - x = ((b * w + a : Nat) : Int) := by
  rw [ha, hb, show y + (b : Int) - y = b by omega]
  push_cast
  omega
 have hlt : b * w + a < w * h := by
  have h5 : (b + 1) * w ≤ h * w := Nat.mul_le_mul_right _ (by omega)
  rw [Nat.succ_mul] at h5
  rw [Nat.mul_comm w h]
  omega
 unfold ixG
 rw [e, Int.toNat_natCast]
 exact ⟨rfl, hlt, by rw [hb, ha, show y + (b : Int) - y = b by omega, show x + (a : Int) - x = a by omega]; rfl⟩
theorem spt_ixG {g : Grd} {p : Spot} (hp : inBox g.x g.y g.w g.h p) : spt g (ixG g.x g.y g.w p) = p := by
 rw [(ix_box hp).2.2]
 obtain ⟨⟨h1, h2⟩, h3, h4⟩ := hp
 rw [spt_at (by omega)]
 ext <;> simp only <;> omega
theorem set_cov {g : Grd} {i : Nat} (hi : i < g.on.length) {q : Spot} : q ∈ covG { g with on := g.on.set i true } ↔ q ∈ covG g ∨ q = spt g i := by
 rw [covG_mem, covG_mem]
 simp only
 constructor
 ·rintro ⟨j, h1, rfl⟩
  by_cases e : i = j
  ·subst e; exact .inr rfl
  ·rw [List.getElem?_set_ne e] at h1; exact .inl ⟨j, h1, rfl⟩
 ·rintro (⟨j, h1, rfl⟩ | rfl)
  ·by_cases e : i = j
   ·subst e; exact ⟨i, by rw [List.getElem?_set_self hi], rfl⟩
   ·exact ⟨j, by rw [List.getElem?_set_ne e]; exact h1, rfl⟩
  ·exact ⟨i, by rw [List.getElem?_set_self hi], rfl⟩
theorem put_cov : ∀ {L : List Spot} {g : Grd}, g.on.length = g.w * g.h → (∀ p ∈ L, inBox g.x g.y g.w g.h p) → ∀ {q : Spot}, q ∈ covG { g with on := putG g.x g.y g.w g.on L } ↔ q ∈ covG g ∨ q ∈ L
 | [], g, _, _, q => by simp [putG]
 | p :: L, g, hl, hL, q => by
  have hp := hL p List.mem_cons_self
  have hi : ixG g.x g.y g.w p < g.on.length := by rw [hl]; exact (ix_box hp).2.1
  have ih := put_cov (L := L) (g := { g with on := g.on.set (ixG g.x g.y g.w p) true }) (by simpa using hl) (fun r hr => hL r (List.mem_cons_of_mem _ hr)) (q := q)
  simp only at ih
  rw [putG, ih, set_cov hi, spt_ixG hp, List.mem_cons]
  constructor
  ·rintro ((h | h) | h)
   ·exact .inl h
   ·exact .inr (.inl h)
   ·exact .inr (.inr h)
  ·rintro (h | h | h)
   ·exact .inl (.inl h)
   ·exact .inl (.inr h)
   ·exact .inr h
theorem cov_none {st x y : Int} {w h n : Nat} {q : Spot} : ¬ q ∈ covG ⟨st, x, y, w, h, List.replicate n false⟩ := fun hq => by
 obtain ⟨i, h1, _⟩ := covG_mem.1 hq
 simp only at h1
 rw [List.getElem?_replicate] at h1
 split at h1 <;> simp at h1
def unG (st x y : Int) (w h : Nat) (A B : List Spot) : Grd := ⟨st, x, y, w, h, putG x y w (putG x y w (List.replicate (w * h) false) A) B⟩
theorem unG_cov {st x y : Int} {w h : Nat} {A B : List Spot} (hA : ∀ p ∈ A, inBox x y w h p) (hB : ∀ p ∈ B, inBox x y w h p) {q : Spot} : q ∈ covG (unG st x y w h A B) ↔ q ∈ A ++ B := by
 have h1 := put_cov (L := B) (g := ⟨st, x, y, w, h, putG x y w (List.replicate (w * h) false) A⟩) (by simp [putG_len]) hB (q := q)
 have h2 := put_cov (L := A) (g := ⟨st, x, y, w, h, List.replicate (w * h) false⟩) (by simp) hA (q := q)
 simp only at h1 h2
 unfold unG
 rw [h1, h2, List.mem_append]
 constructor
 ·rintro ((h | h) | h)
  ·exact absurd h cov_none
  ·exact .inl h
  ·exact .inr h
 ·rintro (h | h)
  ·exact .inl (.inr h)
  ·exact .inr h
theorem unG_len {st x y : Int} {w h : Nat} {A B : List Spot} : (unG st x y w h A B).on.length = w * h := by simp [unG, putG_len]
theorem grd_tight {c : Cel} (h : RCel c) (hw : (grdOf c).w ≠ 0) : covG (grdOf c) ≠ [] ∧ x0 (covG (grdOf c)) = (grdOf c).x ∧ x1 (covG (grdOf c)) = (grdOf c).x + ((grdOf c).w : Int) - 1 ∧ y0 (covG (grdOf c)) = (grdOf c).y ∧ y1 (covG (grdOf c)) = (grdOf c).y + ((grdOf c).h : Int) - 1 := by
 have hne : c.rows ≠ [] := fun e => hw (by rw [grdOf, if_pos e])
 have hs := span_tight (fun r hr => (h.row r hr).1) hne
 rw [h.tight hne] at hs
 unfold spanB at hs
 simp only [Bool.and_eq_true, decide_eq_true_iff] at hs
 obtain ⟨⟨⟨⟨s1, s2⟩, s3⟩, s4⟩, s5⟩ := hs
 obtain ⟨m1, m2, m3, m4⟩ := x0_mem (L := covG (grdOf c)) (L' := covL c) fun p => grdOf_cov h
 have hg : (grdOf c).x = c.x.tdiv c.st ∧ (grdOf c).y = c.y.tdiv c.st ∧ (grdOf c).w = wid c.rows ∧ (grdOf c).h = c.rows.length := by
  unfold grdOf; rw [if_neg hne]; exact ⟨rfl, rfl, rfl, rfl⟩
 obtain ⟨g1, g2, g3, g4⟩ := hg
 refine ⟨fun e => s1 (List.eq_nil_iff_forall_not_mem.2 fun p hp => ?_), by rw [m1, s2, g1], by rw [m2, s4, g1, g3], by rw [m3, s3, g2], by rw [m4, s5, g2, g4]⟩
 rw [← grdOf_cov h, e] at hp
 cases hp
theorem grd_nil {c : Cel} (h : RCel c) (hw : (grdOf c).w = 0) : covG (grdOf c) = [] := List.eq_nil_iff_forall_not_mem.2 fun p hp => by
 obtain ⟨i, h1, _⟩ := covG_mem.1 hp
 have := (List.getElem?_eq_some_iff.1 h1).1
 rw [grdOf_len h, hw] at this
 simp at this
theorem x0_app {A B : List Spot} (hA : A ≠ []) (hB : B ≠ []) : x0 (A ++ B) = min (x0 A) (x0 B) ∧ x1 (A ++ B) = max (x1 A) (x1 B) ∧ y0 (A ++ B) = min (y0 A) (y0 B) ∧ y1 (A ++ B) = max (y1 A) (y1 B) := by
 have mn : ∀ {l m : List Int}, l ≠ [] → m ≠ [] → mnL (l ++ m) = min (mnL l) (mnL m) := fun {l m} h1 h2 => by
  obtain ⟨a1, a2⟩ := mnL_spec h1
  obtain ⟨b1, b2⟩ := mnL_spec h2
  obtain ⟨c1, c2⟩ := mnL_spec (l := l ++ m) (by simp [h1])
  have d1 := c2 _ (List.mem_append_left _ a1)
  have d2 := c2 _ (List.mem_append_right _ b1)
  rcases List.mem_append.1 c1 with h | h
  ·have := a2 _ h; omega
  ·have := b2 _ h; omega
 have mx : ∀ {l m : List Int}, l ≠ [] → m ≠ [] → mxL (l ++ m) = max (mxL l) (mxL m) := fun {l m} h1 h2 => by
  obtain ⟨a1, a2⟩ := mxL_spec h1
  obtain ⟨b1, b2⟩ := mxL_spec h2
  obtain ⟨c1, c2⟩ := mxL_spec (l := l ++ m) (by simp [h1])
  have d1 := c2 _ (List.mem_append_left _ a1)
  have d2 := c2 _ (List.mem_append_right _ b1)
  rcases List.mem_append.1 c1 with h | h
  ·have := a2 _ h; omega
  ·have := b2 _ h; omega
 have cA : cols A ≠ [] := by simpa [cols] using hA
 have cB : cols B ≠ [] := by simpa [cols] using hB
 have rA : rws A ≠ [] := by simpa [rws] using hA
 have rB : rws B ≠ [] := by simpa [rws] using hB
 have e1 : cols (A ++ B) = cols A ++ cols B := by simp [cols]
 have e2 : rws (A ++ B) = rws A ++ rws B := by simp [rws]
 unfold x0 x1 y0 y1
 rw [e1, e2]
 exact ⟨mn cA cB, mx cA cB, mn rA rB, mx rA rB⟩
end Go.Proofs.YtniolldgidgffaaGreatDoor

/- Walls are shells: plain. -/
namespace Go.Proofs.YtniolldgidgffaaGreatDoor
end Go.Proofs.YtniolldgidgffaaGreatDoor
