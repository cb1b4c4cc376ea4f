/- What is wrong with layers and styles, by value. -/
import Derived.Test.YtniolldgidgffaaGreatDoorQax
set_option linter.unusedSimpArgs false
set_option linter.unusedVariables false
/- The cells of a grid that a function chooses: one that holds two values. -/
-- NEWM
namespace Go.Proofs.YtniolldgidgffaaGreatDoor
open Go Go.RowKit
set_option maxRecDepth 100000
set_option maxHeartbeats 1000000 in
theorem chosen21_v (fn : FuncId) (fv : Fn) (e e2 : CV) (A : List AV → List AV) (p : Spot → Bool) (hfn : okFn Tryz.prog fn = true) (hcal : ∀ (F : Fm) (x : Operand) (vs : List AV), ev F x = some (.f fv [.c e, .c e2]) → Callee' F x fn vs (A vs)) (hA : ∀ a b : Int, AV.cloL (A [.c (I a), .c (I b)]) = true) (hp : ∀ a b : Int, (-20000000 ≤ a ∧ a ≤ 20000000) → (-20000000 ≤ b ∧ b ≤ 20000000) → ACalls Tryz.prog fn (A [.c (I a), .c (I b)]) [] fun u H => u = .c (B (p (a, b))) ∧ H = []) (g : Grd) (hg : GOk g) (on : List Bool) (k : Nat) (hk : k < g.on.length) (hon : on.length = g.w * g.h) (a b : Int) (ha : a = g.x + (k : Int) % g.w) (hb : b = g.y + (k : Int) / g.w) : ACalls Tryz.prog 176 [.c (I a), .c (I b), .p 0 0 0, .p 1 0 0] [.box [.f fv [.c e, .c e2]], .box [.p 2 0 0], gB g.st g.x g.y g.w g.h 3 (g.w * g.h), gArr (g.w * g.h) on] fun u H => u = .t [] ∧ H = [.box [.f fv [.c e, .c e2]], .box [.p 2 0 0], gB g.st g.x g.y g.w g.h 3 (g.w * g.h), gArr (g.w * g.h) (if p (a, b) = true then on.set k true else on)] := by
 obtain ⟨w1, ⟨w2, w3⟩, w4, w5⟩ := each_at hg hk
 have hgx := hg.x
 have hgy := hg.y
 have hi := spt_ix w1 ha hb
 have hnb : g.w * g.h ≤ 1000000 := Nat.le_trans (Nat.mul_le_mul hg.w hg.h) (by decide)
 have hkn : k < g.w * g.h := by rw [← hg.len]; exact hk
 obtain ⟨q, hq⟩ : ∃ q, p (a, b) = q := ⟨_, rfl⟩
 rw [hq]
 refine acallsx_of false (N := 14) Tryz.func176 rfl rfl (by simp) fun E hE hP => ?_
 cases q with
 | true =>
  refine WR ?_
  refine al_ef rfl (ef_call0 false (fun _ => hp a b (by omega) (by omega)) rfl (hcal _ _ _ rfl) rfl (by decide) hfn rfl (fun _ => C0 (hA a b)) (by simp)) ?_
  rintro _ _ ⟨_, _, _, ⟨rfl, rfl⟩, hF, hH⟩
  rw [hq] at hF
  (refine NST hF hH ?_; clear hF hH; rintro rfl rfl)
  refine WE ?_
  refine aw_cond_t rfl ?_
  refine WR ?_
  refine al_ef rfl (ef_callp [2, 3] (fun _ => [gB g.st g.x g.y g.w g.h 1 (g.w * g.h), gArr (g.w * g.h) on]) false (fun _ => set_v g.st g.x g.y g.w g.h on (g.w * g.h) a b k hon hi (by omega) hnb (by omega) (by omega) hgx hgy) rfl .fn rfl (by decide) (by kernel_rfl) rfl (fun _ => .cons (.p rfl) (.cons (.c rfl) (.cons (.c rfl) .nil))) (by decide) ZCH (by simp)) ?_
  rintro F1 H1 ⟨_, _, _, _, ⟨rfl, rfl⟩, hF, hH⟩
  rw [killF_nil] at hF; (refine NSU hF hH ?_; clear hF hH; rintro rfl rfl)
  refine WE ?_
  exact aret_0 [some 0, some 1, some 2, some 3] (fun _ => [.box [.f fv [.c e, .c e2]], .box [.p 2 0 0], gB g.st g.x g.y g.w g.h 3 (g.w * g.h), gArr (g.w * g.h) (on.set k true)]) (.inr rfl) rfl (by decide) (ZNK rfl) ZCH (fun _ => ⟨rfl, rfl⟩)
 | false =>
  refine WR ?_
  refine al_ef rfl (ef_call0 false (fun _ => hp a b (by omega) (by omega)) rfl (hcal _ _ _ rfl) rfl (by decide) hfn rfl (fun _ => C0 (hA a b)) (by simp)) ?_
  rintro _ _ ⟨_, _, _, ⟨rfl, rfl⟩, hF, hH⟩
  rw [hq] at hF
  (refine NST hF hH ?_; clear hF hH; rintro rfl rfl)
  refine WE ?_
  refine aw_cond_f rfl ?_
  refine ZZ ?_
  exact aret_0 [some 0, some 1, some 2, some 3] (fun _ => [.box [.f fv [.c e, .c e2]], .box [.p 2 0 0], gB g.st g.x g.y g.w g.h 3 (g.w * g.h), gArr (g.w * g.h) on]) (.inr rfl) rfl (by decide) (ZNK rfl) ZCH (fun _ => ⟨rfl, rfl⟩)
set_option maxHeartbeats 1000000 in
theorem each_chosen2 (g : Grd) (pv v : Value) (fn : FuncId) (fv : Fn) (e e2 : CV) (A : List AV → List AV) (p : Spot → Bool) (hfn : okFn Tryz.prog fn = true) (hcal : ∀ (F : Fm) (x : Operand) (vs : List AV), ev F x = some (.f fv [.c e, .c e2]) → Callee' F x fn vs (A vs)) (hA : ∀ a b : Int, AV.cloL (A [.c (I a), .c (I b)]) = true) (hp : ∀ a b : Int, (-20000000 ≤ a ∧ a ≤ 20000000) → (-20000000 ≤ b ∧ b ≤ 20000000) → ACalls Tryz.prog fn (A [.c (I a), .c (I b)]) [] fun u H => u = .c (B (p (a, b))) ∧ H = []) (hg : GOk g)  : ACalls Tryz.prog 95 [gV pv v g, .f (.func 176) [.p 0 0 0, .p 1 0 0]] [.box [.f fv [.c e, .c e2]], .box [.p 2 0 0], gB g.st g.x g.y g.w g.h 3 (g.w * g.h), gArr (g.w * g.h) (filK g p 0)] fun u H => u = .t [] ∧ H = [.box [.f fv [.c e, .c e2]], .box [.p 2 0 0], gB g.st g.x g.y g.w g.h 3 (g.w * g.h), gArr (g.w * g.h) ((filG g p).on)] := by
 have hn := hg.n
 have hgx := hg.x
 have hgy := hg.y
 have eo : (oR g.on).length = g.on.length := by simp
 refine acallsx_of false (N := 42) Tryz.func95 rfl rfl (by simp) fun E hE hP => ?_
 refine WA ?_
 refine aw_loopw (fun m F H => ∃ k : Nat, m + k = g.on.length ∧ F = [(0, gV pv v g), (1, .f (.func 176) [.p 0 0 0, .p 1 0 0]), (9, .c (.r v (oR g.on))), (10, .c (I (oR g.on).length)), (11, .c (I k))] ∧ H = [.box [.f fv [.c e, .c e2]], .box [.p 2 0 0], gB g.st g.x g.y g.w g.h 3 (g.w * g.h), gArr (g.w * g.h) (filK g p k)]) ?_ ?_
 ·refine wk_of [some 0, some 1, some 2, some 3] (fun _ => [(0, gV pv v g), (1, .f (.func 176) [.p 0 0 0, .p 1 0 0]), (9, .c (.r v (oR g.on))), (10, .c (I (oR g.on).length)), (11, .c (I (0 : Nat)))]) (fun _ => [.box [.f fv [.c e, .c e2]], .box [.p 2 0 0], gB g.st g.x g.y g.w g.h 3 (g.w * g.h), gArr (g.w * g.h) (filK g p 0)]) (by decide) (ZNL hE) ZCF ZCH (fun _ => ?_)
  exact ⟨g.on.length, 0, by omega, rfl, rfl⟩
 rintro m F H ⟨k, hk, rfl, rfl⟩
 refine WA ?_
 refine aw_if rfl (fun hlt => ?_) (fun hge => ?_)
 ·have hkn : k < g.on.length := by omega
  obtain ⟨b, hb⟩ : ∃ b, g.on[k]? = some b := ⟨_, List.getElem?_eq_getElem hkn⟩
  have hrow : (oR g.on)[k]? = some [B b] := by rw [List.getElem?_map, hb]; rfl
  obtain ⟨w1, ⟨w2, w3⟩, w4, w5⟩ := each_at hg hkn
  refine WA ?_
  refine WA ?_
  cases b with
  | true =>
   refine aw_cond_t rfl ?_
   have hnx : filK g p (k + 1) = if p (spt g k) = true then (filK g p k).set k true else filK g p k := by rw [filK_next hb, Bool.true_and]
   refine ZZ ?_
   refine aw_regionT [(0, none), (1, none), (2, none), (3, none), (4, none), (5, none), (6, none), (7, none), (8, none), (9, none), (10, none), (11, none), (12, none), (13, none), (14, none), (15, none), (16, none), (17, none), (18, none), (19, none), (20, none), (21, none), (22, none), (23, some [])] hMixed (by kernel_rfl) ?_
   refine WP ?_
   refine at_ef rfl rfl (ef_call [0, 1, 2, 3] (fun _ => [.box [.f fv [.c e, .c e2]], .box [.p 2 0 0], gB g.st g.x g.y g.w g.h 3 (g.w * g.h), gArr (g.w * g.h) (filK g p k)]) false (fun _ => chosen21_v fn fv e e2 A p hfn hcal hA hp g hg (filK g p k) k hkn (by rw [filK_len (by omega)]; exact hg.len) _ _ rfl rfl) rfl (.clo rfl) rfl (by decide) (by kernel_rfl) rfl ZCH (by decide) ZCH (by simp)) ?_
   rintro F1 H1 ⟨_, _, _, _, ⟨rfl, rfl⟩, hF, hH⟩
   rw [spt_eq, ← hnx] at hH
   (refine NSU hF hH ?_; clear hF hH; rintro rfl rfl)
   refine ⟨ag_none, ?_⟩
   refine WQ ?_
   refine WA ?_
   refine wk_of [some 0, some 1, some 2, some 3] (fun _ => [(0, gV pv v g), (1, .f (.func 176) [.p 0 0 0, .p 1 0 0]), (9, .c (.r v (oR g.on))), (10, .c (I (oR g.on).length)), (11, .c (I (k + 1 : Nat)))]) (fun _ => [.box [.f fv [.c e, .c e2]], .box [.p 2 0 0], gB g.st g.x g.y g.w g.h 3 (g.w * g.h), gArr (g.w * g.h) (filK g p (k + 1))]) (by decide) (ZNL hE) ZCF ZCH (fun _ => ?_)
   exact ⟨m - 1, by omega, k + 1, by omega, rfl, rfl⟩
  | false =>
   refine aw_cond_f rfl ?_
   refine ZZ ?_
   refine WA ?_
   refine wk_of [some 0, some 1, some 2, some 3] (fun _ => [(0, gV pv v g), (1, .f (.func 176) [.p 0 0 0, .p 1 0 0]), (9, .c (.r v (oR g.on))), (10, .c (I (oR g.on).length)), (11, .c (I (k + 1 : Nat)))]) (fun _ => [.box [.f fv [.c e, .c e2]], .box [.p 2 0 0], gB g.st g.x g.y g.w g.h 3 (g.w * g.h), gArr (g.w * g.h) (filK g p (k + 1))]) (by decide) (ZNL hE) ZCF (by rw [show filK g p (k + 1) = filK g p k by rw [filK_next hb, if_neg (by simp)]]; exact ZCH) (fun _ => ?_)
   exact ⟨m - 1, by omega, k + 1, by omega, rfl, rfl⟩
 obtain rfl : k = g.on.length := by omega
 refine ZZ ?_
 rw [filK_end]
 exact aret_0 [some 0, some 1, some 2, some 3] (fun _ => [.box [.f fv [.c e, .c e2]], .box [.p 2 0 0], gB g.st g.x g.y g.w g.h 3 (g.w * g.h), gArr (g.w * g.h) ((filG g p).on)]) (.inr rfl) rfl (by decide) (ZNK rfl) ZCH (fun _ => ⟨rfl, rfl⟩)
set_option maxHeartbeats 2000000 in
theorem chosen2_v (fn : FuncId) (fv : Fn) (e e2 : CV) (A : List AV → List AV) (p : Spot → Bool) (hfn : okFn Tryz.prog fn = true) (hcal : ∀ (F : Fm) (x : Operand) (vs : List AV), ev F x = some (.f fv [.c e, .c e2]) → Callee' F x fn vs (A vs)) (hA : ∀ a b : Int, AV.cloL (A [.c (I a), .c (I b)]) = true) (hp : ∀ a b : Int, (-20000000 ≤ a ∧ a ≤ 20000000) → (-20000000 ≤ b ∧ b ≤ 20000000) → ACalls Tryz.prog fn (A [.c (I a), .c (I b)]) [] fun u H => u = .c (B (p (a, b))) ∧ H = []) (g : Grd) (pv v : Value) (hg : GOk g) (hst : 0 ≤ g.st ∧ g.st ≤ 10000) : ACalls Tryz.prog 123 [gV pv v g, .f fv [.c e, .c e2]] [] fun u H => ∃ v', u = .t [celA v' (normC g.st (covG (filG g p))).1, .c (I (normC g.st (covG (filG g p))).2)] ∧ H = [] := by
 have hgx := hg.x
 have hgy := hg.y
 have hgw := hg.w
 have hgh := hg.h
 refine acalls_of (N := 35) Tryz.func123 rfl rfl (by simp) fun E hE => ?_
 refine WA ?_
 refine aw_cut (fun F H => F = [(0, gV pv v g), (3, .p 0 0 0), (4, .p 1 0 0), (6, .p 4 0 0)] ∧ H = [.box [.f fv [.c e, .c e2]], .box [.c (I 0), .c (I 0), .c (I 0), .c (.r (.slice none 0 0) [])], gB g.st g.x g.y g.w g.h 3 (g.w * g.h), gArr (g.w * g.h) (filK g p 0), .box [.p 2 0 0]]) ?_ ?_ wk_aw
 ·have hf0 : filK g p 0 = List.replicate (g.w * g.h) false := by rw [filK_0, hg.len]
  refine ZZ ?_
  refine aw_regionM [[(0, none), (1, none), (2, none), (3, none), (4, none), (5, none), (6, none), (7, none), (8, none), (9, none), (10, none), (11, none), (12, none), (13, none), (14, none), (15, none), (16, none), (17, none), (18, none), (19, none), (20, some []), (21, some [0, 1, 2, 3, 4, 5, 6, 7, 8, 9, 10, 11, 12, 13, 14, 15, 16, 17, 18, 19]), (22, some [])], [(0, none), (1, none), (2, none), (3, none), (4, none), (5, none), (6, none), (7, none), (8, none), (9, none), (10, none), (11, none), (12, none), (13, none), (14, none), (15, none), (16, none), (17, none), (18, none), (19, none), (21, some [0, 1, 2, 3, 4, 5, 6, 7, 8, 9, 10, 11, 12, 13, 14, 15, 16, 17, 18, 19]), (20, some []), (22, some [])]] hMixed (by kernel_rfl) ?_
  focus
   refine WM ?_
   refine am_two (by rfl) (by rfl) (by rfl) ?_ ?_
   rotate_left
   refine WM ?_
   refine am_ef (i := 20) (by rfl) (by rfl) rfl rfl (ef_call0 false (fun _ => newgrid_v g.st g.x g.y g.w g.h hg.w hg.h) rfl .fn rfl (by decide) (by kernel_rfl) rfl (fun _ => C0 rfl) (by simp)) ?_
   rintro _ _ ⟨_, _, _, ⟨rfl, rfl⟩, hF, hH⟩
   (refine NST hF hH ?_; clear hF hH; rintro rfl rfl)
   refine ⟨AGX, ?_⟩
   refine WN ?_
   rotate_right
   refine am_ef (i := 20) (by rfl) (by rfl) rfl rfl (ef_call0 false (fun _ => newgrid_v g.st g.x g.y g.w g.h hg.w hg.h) rfl .fn rfl (by decide) (by kernel_rfl) rfl (fun _ => C0 rfl) (by simp)) ?_
   rintro _ _ ⟨_, _, _, ⟨rfl, rfl⟩, hF, hH⟩
   (refine NST hF hH ?_; clear hF hH; rintro rfl rfl)
   refine ⟨AGX, ?_⟩
   refine WN ?_
  ·exact wk_of [some 0, some 1, some 2, some 3, some 4] (fun _ => [(0, gV pv v g), (3, .p 0 0 0), (4, .p 1 0 0), (6, .p 4 0 0)]) (fun _ => [.box [.f fv [.c e, .c e2]], .box [.c (I 0), .c (I 0), .c (I 0), .c (.r (.slice none 0 0) [])], gB g.st g.x g.y g.w g.h 3 (g.w * g.h), gArr (g.w * g.h) (filK g p 0), .box [.p 2 0 0]]) (by decide) (ZNL hE) ZCF (by rw [hf0]; exact ZCH) (fun _ => ⟨rfl, rfl⟩)
  ·exact wk_of [some 0, some 1, some 3, some 4, some 2] (fun _ => [(0, gV pv v g), (3, .p 0 0 0), (4, .p 1 0 0), (6, .p 4 0 0)]) (fun _ => [.box [.f fv [.c e, .c e2]], .box [.c (I 0), .c (I 0), .c (I 0), .c (.r (.slice none 0 0) [])], gB g.st g.x g.y g.w g.h 3 (g.w * g.h), gArr (g.w * g.h) (filK g p 0), .box [.p 2 0 0]]) (by decide) (ZNL hE) ZCF (by rw [hf0]; exact ZCH) (fun _ => ⟨rfl, rfl⟩)
 rintro F H ⟨rfl, rfl⟩
 refine ZZ ?_
 refine WR ?_
 refine al_ef rfl (ef_call [0, 4, 2, 3] (fun _ => [.box [.f fv [.c e, .c e2]], .box [.p 2 0 0], gB g.st g.x g.y g.w g.h 3 (g.w * g.h), gArr (g.w * g.h) (filK g p 0)]) false (fun _ => each_chosen2 g pv v fn fv e e2 A p hfn hcal hA hp hg) rfl .fn rfl (by decide) (by kernel_rfl) rfl ZCH (by decide) ZCH (by simp)) ?_
 rintro F1 H1 ⟨_, _, _, _, ⟨rfl, rfl⟩, hF, hH⟩
 (refine NSU hF hH ?_; clear hF hH; rintro rfl rfl)
 refine WE ?_
 refine aw_wk (wk_of (K := fun F H => ∃ pv1 v1, F = [(4, .p 0 0 0), (6, .p 1 0 0)] ∧ H = [.box [.c (I 0), .c (I 0), .c (I 0), .c (.r (.slice none 0 0) [])], .box [gV pv1 v1 (filG g p)]]) [some 1, some 4] (fun _ => [(4, .p 0 0 0), (6, .p 1 0 0)]) (fun f => [.box [.c (I 0), .c (I 0), .c (I 0), .c (.r (.slice none 0 0) [])], .box [gV (f (.p 2 0 0)) (f (.o 3 0 (g.w * g.h) (g.w * g.h))) (filG g p)]]) (by decide) (ZNL hE) ZCF (fun _ => .box rfl (C0 rfl) (.box rfl (.cons (frzG rfl rfl (by simp [filG, hg.len]) rfl rfl) .nil) .nil)) (fun _ => ⟨_, _, rfl, rfl⟩)) ?_
 rintro F H ⟨pv1, v1, rfl, rfl⟩
 refine WR ?_
 refine al_ef rfl (ef_call0 false (fun _ => cells_v (filG g p) pv1 v1 (filG_ok hg p) hst) rfl .fn rfl (by decide) (by kernel_rfl) rfl (fun _ => C0 rfl) (by simp)) ?_
 rintro _ _ ⟨_, _, _, ⟨v2, rfl, rfl⟩, hF, hH⟩
 (refine NST hF hH ?_; clear hF hH; rintro rfl rfl)
 refine WE ?_
 exact aret_of (us := [celA v2 (normC g.st (covG (filG g p))).1, .c (I (normC g.st (covG (filG g p))).2)]) [] (fun _ => .t [celA v2 (normC g.st (covG (filG g p))).1, .c (I (normC g.st (covG (filG g p))).2)]) (fun _ => []) (.cella (n := 4) rfl (by kernel_rfl) (Cells.box rfl) (by simp) (by (try simp only [nm, putL, Nat.reduceAdd, cellsOf, cvOf]) <;> rfl) (.tmp rfl .nil)) (by decide) (fun i hi => absurd hi (Nat.not_lt_zero i)) (fun g' => .tL (.cons (.aL (.cons (.c rfl) (.cons (.c rfl) (.cons (.c rfl) (.cons (.c rfl) .nil))))) (.cons (.c rfl) .nil))) (fun _ => .nil) (fun g' => ⟨v2, rfl, rfl⟩)
end Go.Proofs.YtniolldgidgffaaGreatDoor

/- Shrinking, by value: the second closure; Each with the first one. -/
-- NEWM
namespace Go.Proofs.YtniolldgidgffaaGreatDoor
open Go Go.RowKit
set_option maxRecDepth 100000
set_option maxHeartbeats 2000000 in
theorem shrunk2_v (n : Nat) (hn : n ≤ 20) (pn pa p2 o2 : Value) (L : List Spot) (g : Grd) (hg : GOk g) (hat : ∀ a b, atG g a b = decide ((a, b) ∈ L)) (a b : Int) (ha : -100000000 ≤ a ∧ a ≤ 100000000) (hb : -99999000 ≤ b ∧ b ≤ 99999000) : ACalls Tryz.prog 262 [.c (I a), .c (I b), .c (.p pn [I n]), .c (.p pa [.p p2 (gRow g o2)])] [] fun u H => u = .c (B (colP n L (a, b))) ∧ H = [] := by
 have hPP : colP n L (a, b) = allU (fun k => decide ((a, b + k) ∈ L)) (2 * n + 1) (-(n : Int)) := rfl
 generalize colP n L (a, b) = P at *
 refine acalls_of (N := 22) Tryz.func262 rfl rfl (by simp) fun E hE => ?_
 refine WA ?_
 refine ZR ?_
 refine ZA (rd_ldcp rfl (by kernel_rfl) rfl rfl) ?_
 refine WE ?_
 refine aw_loopw (fun m F H => ∃ k : Int, k + m = n + 1 ∧ -(n : Int) ≤ k ∧ allU (fun k => decide ((a, b + k) ∈ L)) m k = P ∧ F = [(0, .c (I a)), (1, .c (I b)), (2, .c (.p pn [I n])), (3, .c (.p pa [.p p2 (gRow g o2)])), (7, .c (I k))] ∧ H = []) ?_ ?_
 ·refine wk_of [] (fun _ => [(0, .c (I a)), (1, .c (I b)), (2, .c (.p pn [I n])), (3, .c (.p pa [.p p2 (gRow g o2)])), (7, .c (I (-(n : Int))))]) (fun _ => []) (by decide) (ZNL hE) ZCF (fun _ => .nil) (fun _ => ?_)
  exact ⟨2 * n + 1, -(n : Int), by omega, by omega, hPP.symm, rfl, rfl⟩
 rintro m F H ⟨k, hk, hkn, hal, rfl, rfl⟩
 refine ZR ?_
 refine WX1 ?_
 refine ZA (rd_ldcp rfl (by kernel_rfl) rfl rfl) ?_
 refine WE ?_
 refine aw_if rfl (fun hlt => ?_) (fun hge => ?_)
 ·obtain ⟨m, rfl⟩ : ∃ m', m = m' + 1 := ⟨m - 1, by omega⟩
  rw [allU] at hal
  obtain ⟨q, hq⟩ : ∃ q, decide ((a, b + k) ∈ L) = q := ⟨_, rfl⟩
  rw [hq] at hal
  cases q with
  | true =>
   refine ZR ?_
   refine ZA (rd_ldcp rfl (by kernel_rfl) rfl rfl) ?_
   refine WO ?_
   refine al_ef rfl (ef_call0 false (fun _ => at_v g p2 o2 a (b + k) hg ha (by omega)) rfl .fn rfl (by decide) (by kernel_rfl) rfl (fun _ => C0 rfl) (by simp)) ?_
   rintro _ _ ⟨_, _, _, ⟨rfl, rfl⟩, hF, hH⟩
   rw [hat, hq] at hF
   (refine NST hF hH ?_; clear hF hH; rintro rfl rfl)
   refine WE ?_
   refine aw_cond_f rfl ?_
   refine ZZ ?_
   refine WA ?_
   refine wk_of [] (fun _ => [(0, .c (I a)), (1, .c (I b)), (2, .c (.p pn [I n])), (3, .c (.p pa [.p p2 (gRow g o2)])), (7, .c (I (k + 1)))]) (fun _ => []) (by decide) (ZNL hE) ZCF (fun _ => .nil) (fun _ => ?_)
   exact ⟨m, by omega, k + 1, by omega, by omega, by simpa using hal, rfl, rfl⟩
  | false =>
   obtain rfl : P = false := by simpa using hal.symm
   refine ZR ?_
   refine ZA (rd_ldcp rfl (by kernel_rfl) rfl rfl) ?_
   refine WO ?_
   refine al_ef rfl (ef_call0 false (fun _ => at_v g p2 o2 a (b + k) hg ha (by omega)) rfl .fn rfl (by decide) (by kernel_rfl) rfl (fun _ => C0 rfl) (by simp)) ?_
   rintro _ _ ⟨_, _, _, ⟨rfl, rfl⟩, hF, hH⟩
   rw [hat, hq] at hF
   (refine NST hF hH ?_; clear hF hH; rintro rfl rfl)
   refine WE ?_
   refine aw_cond_t rfl ?_
   refine WA ?_
   exact aret_1 [] _ rfl rfl rfl (by decide) (ZNK rfl) (fun _ => .nil) ⟨rfl, rfl⟩
 obtain rfl : m = 0 := by omega
 obtain rfl : P = true := hal.symm
 refine ZZ ?_
 refine WA ?_
 exact aret_1 [] _ rfl rfl rfl (by decide) (ZNK rfl) (fun _ => .nil) ⟨rfl, rfl⟩
set_option maxHeartbeats 1000000 in
theorem each_shrunk (g : Grd) (pv v : Value) (n : Nat) (hnn : n ≤ 20) (L : List Spot) (hat : ∀ a b, atG g a b = decide ((a, b) ∈ L)) (hg : GOk g)  : ACalls Tryz.prog 95 [gV pv v g, .f (.func 261) [.p 0 0 0, .p 1 0 0, .p 2 0 0]] [.box [.c (I n)], .box [gV pv v g], .box [.p 3 0 0], gB g.st g.x g.y g.w g.h 4 (g.w * g.h), gArr (g.w * g.h) (filK g (rowP n L) 0)] fun u H => u = .t [] ∧ H = [.box [.c (I n)], .box [gV pv v g], .box [.p 3 0 0], gB g.st g.x g.y g.w g.h 4 (g.w * g.h), gArr (g.w * g.h) (filG g (rowP n L)).on] := by
 have hn := hg.n
 have hgx := hg.x
 have hgy := hg.y
 have eo : (oR g.on).length = g.on.length := by simp
 refine acallsx_of false (N := 42) Tryz.func95 rfl rfl (by simp) fun E hE hP => ?_
 refine WA ?_
 refine aw_loopw (fun m F H => ∃ k : Nat, m + k = g.on.length ∧ F = [(0, gV pv v g), (1, .f (.func 261) [.p 0 0 0, .p 1 0 0, .p 2 0 0]), (9, .c (.r v (oR g.on))), (10, .c (I (oR g.on).length)), (11, .c (I k))] ∧ H = [.box [.c (I n)], .box [gV pv v g], .box [.p 3 0 0], gB g.st g.x g.y g.w g.h 4 (g.w * g.h), gArr (g.w * g.h) (filK g (rowP n L) k)]) ?_ ?_
 ·refine wk_of [some 0, some 1, some 2, some 3, some 4] (fun _ => [(0, gV pv v g), (1, .f (.func 261) [.p 0 0 0, .p 1 0 0, .p 2 0 0]), (9, .c (.r v (oR g.on))), (10, .c (I (oR g.on).length)), (11, .c (I (0 : Nat)))]) (fun _ => [.box [.c (I n)], .box [gV pv v g], .box [.p 3 0 0], gB g.st g.x g.y g.w g.h 4 (g.w * g.h), gArr (g.w * g.h) (filK g (rowP n L) 0)]) (by decide) (ZNL hE) ZCF ZCH (fun _ => ?_)
  exact ⟨g.on.length, 0, by omega, rfl, rfl⟩
 rintro m F H ⟨k, hk, rfl, rfl⟩
 refine WA ?_
 refine aw_if rfl (fun hlt => ?_) (fun hge => ?_)
 ·have hkn : k < g.on.length := by omega
  obtain ⟨b, hb⟩ : ∃ b, g.on[k]? = some b := ⟨_, List.getElem?_eq_getElem hkn⟩
  have hrow : (oR g.on)[k]? = some [B b] := by rw [List.getElem?_map, hb]; rfl
  obtain ⟨w1, ⟨w2, w3⟩, w4, w5⟩ := each_at hg hkn
  refine WA ?_
  refine WA ?_
  cases b with
  | true =>
   refine aw_cond_t rfl ?_
   have hnx : filK g (rowP n L) (k + 1) = if rowP n L (spt g k) = true then (filK g (rowP n L) k).set k true else filK g (rowP n L) k := by rw [filK_next hb, Bool.true_and]
   refine ZZ ?_
   refine aw_regionT [(0, none), (1, none), (2, none), (3, none), (4, none), (5, none), (6, none), (7, none), (8, none), (9, none), (10, none), (11, none), (12, none), (13, none), (14, none), (15, none), (16, none), (17, none), (18, none), (19, none), (20, none), (21, none), (22, none), (23, some [])] hMixed (by kernel_rfl) ?_
   refine WP ?_
   refine at_ef rfl rfl (ef_call [0, 1, 2, 3, 4] (fun _ => [.box [.c (I n)], .box [gV pv v g], .box [.p 3 0 0], gB g.st g.x g.y g.w g.h 4 (g.w * g.h), gArr (g.w * g.h) (filK g (rowP n L) k)]) false (fun _ => shrunk1_v n hnn pv v L g hg hat (filK g (rowP n L) k) k hkn (by rw [filK_len (by omega)]; exact hg.len) _ _ rfl rfl) rfl (.clo rfl) rfl (by decide) (by kernel_rfl) rfl ZCH (by decide) ZCH (by simp)) ?_
   rintro F1 H1 ⟨_, _, _, _, ⟨rfl, rfl⟩, hF, hH⟩
   rw [spt_eq, ← hnx] at hH
   (refine NSU hF hH ?_; clear hF hH; rintro rfl rfl)
   refine ⟨ag_none, ?_⟩
   refine WQ ?_
   refine WA ?_
   refine wk_of [some 0, some 1, some 2, some 3, some 4] (fun _ => [(0, gV pv v g), (1, .f (.func 261) [.p 0 0 0, .p 1 0 0, .p 2 0 0]), (9, .c (.r v (oR g.on))), (10, .c (I (oR g.on).length)), (11, .c (I (k + 1 : Nat)))]) (fun _ => [.box [.c (I n)], .box [gV pv v g], .box [.p 3 0 0], gB g.st g.x g.y g.w g.h 4 (g.w * g.h), gArr (g.w * g.h) (filK g (rowP n L) (k + 1))]) (by decide) (ZNL hE) ZCF ZCH (fun _ => ?_)
   exact ⟨m - 1, by omega, k + 1, by omega, rfl, rfl⟩
  | false =>
   refine aw_cond_f rfl ?_
   refine ZZ ?_
   refine WA ?_
   refine wk_of [some 0, some 1, some 2, some 3, some 4] (fun _ => [(0, gV pv v g), (1, .f (.func 261) [.p 0 0 0, .p 1 0 0, .p 2 0 0]), (9, .c (.r v (oR g.on))), (10, .c (I (oR g.on).length)), (11, .c (I (k + 1 : Nat)))]) (fun _ => [.box [.c (I n)], .box [gV pv v g], .box [.p 3 0 0], gB g.st g.x g.y g.w g.h 4 (g.w * g.h), gArr (g.w * g.h) (filK g (rowP n L) (k + 1))]) (by decide) (ZNL hE) ZCF (by rw [show filK g (rowP n L) (k + 1) = filK g (rowP n L) k by rw [filK_next hb, if_neg (by simp)]]; exact ZCH) (fun _ => ?_)
   exact ⟨m - 1, by omega, k + 1, by omega, rfl, rfl⟩
 obtain rfl : k = g.on.length := by omega
 refine ZZ ?_
 rw [filK_end]
 exact aret_0 [some 0, some 1, some 2, some 3, some 4] (fun _ => [.box [.c (I n)], .box [gV pv v g], .box [.p 3 0 0], gB g.st g.x g.y g.w g.h 4 (g.w * g.h), gArr (g.w * g.h) (filG g (rowP n L)).on]) (.inr rfl) rfl (by decide) (ZNK rfl) ZCH (fun _ => ⟨rfl, rfl⟩)
end Go.Proofs.YtniolldgidgffaaGreatDoor

/- Shrinking, by value. -/
-- NEWM
namespace Go.Proofs.YtniolldgidgffaaGreatDoor
open Go Go.RowKit
set_option maxRecDepth 100000
abbrev shrP (n : Nat) (L : List Spot) (q : Spot) : Bool := rowP n L q && colP n (L.filter (rowP n L)) q
abbrev shrL (n : Nat) (L : List Spot) : List Spot := L.filter (shrP n L)
theorem growf_v (va : Value) (ca : Cel) (ha : RCel ca) (n : Nat) (hn : n ≤ 20) : ACalls Tryz.prog 260 [celA va ca, .c (I n)] [] fun u H => u = .c (I 0) ∧ H = [] := by
 have ho : outB (n : Int) 0 20 = false := by simp [outB]; omega
 refine acalls_of (N := 13) Tryz.func260 rfl rfl (by simp) fun E hE => ?_
 refine WA ?_
 refine WR ?_
 refine al_ef rfl (ef_call0 false (fun _ => check_r va ca ha) rfl .fn rfl (by decide) (by kernel_rfl) rfl (fun _ => C0 rfl) (by simp)) ?_
 rintro _ _ ⟨_, _, _, ⟨rfl, rfl⟩, hF, hH⟩
 (refine NST hF hH ?_; clear hF hH; rintro rfl rfl)
 refine WE ?_
 refine WA ?_
 refine aw_cond_f rfl ?_
 refine ZZ ?_
 refine WR ?_
 refine al_ef rfl (ef_call0 false (fun _ => out_v _ _ _) rfl .fn rfl (by decide) (by kernel_rfl) rfl (fun _ => C0 rfl) (by simp)) ?_
 rintro _ _ ⟨_, _, _, ⟨rfl, rfl⟩, hF, hH⟩
 rw [ho] at hF
 (refine NST hF hH ?_; clear hF hH; rintro rfl rfl)
 refine WE ?_
 refine aw_cond_f rfl ?_
 refine ZZ ?_
 refine WA ?_
 exact aret_1 [] _ rfl rfl rfl (by decide) (ZNK rfl) (fun _ => .nil) ⟨rfl, rfl⟩
set_option maxHeartbeats 2000000 in
theorem shrunk_v (va : Value) (ca : Cel) (ha : RCel ca) (n : Nat) (hn : n ≤ 20) : ACalls Tryz.prog 221 [celA va ca, .c (I n)] [] fun u H => ∃ v', u = .t [celA v' (normC ca.st (shrL n (covL ca))).1, .c (I (normC ca.st (shrL n (covL ca))).2)] ∧ H = [] := by
 have hst := ha.st
 have hg := grdOf_ok ha
 have hat := at_cov ha
 have hst0 := grdOf_st ca
 have hnf : normC (filG (grdOf ca) (rowP n (covL ca))).st (covG (filG (filG (grdOf ca) (rowP n (covL ca))) (colP n ((covL ca).filter (rowP n (covL ca)))))) = normC ca.st (shrL n (covL ca)) := by
  show normC (grdOf ca).st _ = _
  rw [grdOf_st]
  exact normC_mem fun q => by rw [filG_cov, filG_cov, grdOf_cov ha, List.mem_filter, Bool.and_eq_true, and_assoc]
 have hat1 : ∀ a b, atG (filG (grdOf ca) (rowP n (covL ca))) a b = decide ((a, b) ∈ (covL ca).filter (rowP n (covL ca))) := fun a b => by
  rw [atG_eq (filG_ok hg _).len]
  simp only [filG_cov, grdOf_cov ha, List.mem_filter]
 have hg1 := filG_ok hg (rowP n (covL ca))
 generalize normC ca.st (shrL n (covL ca)) = R at *
 generalize (covL ca).filter (rowP n (covL ca)) = Lr at *
 refine acalls_of (N := 47) Tryz.func221 rfl rfl (by simp) fun E hE => ?_
 refine WA ?_
 refine WR ?_
 refine al_ef rfl (ef_call0 false (fun _ => growf_v va ca ha n hn) rfl .fn rfl (by decide) (by kernel_rfl) rfl (fun _ => C0 rfl) (by simp)) ?_
 rintro _ _ ⟨_, _, _, ⟨rfl, rfl⟩, hF, hH⟩
 (refine NST hF hH ?_; clear hF hH; rintro rfl rfl)
 refine WE ?_
 refine WA ?_
 refine aw_cond_f rfl ?_
 refine ZZ ?_
 refine WR ?_
 refine al_ef rfl (ef_call0 false (fun _ => gridof_v va ca ha) rfl .fn rfl (by decide) (by kernel_rfl) rfl (fun _ => C0 rfl) (by simp)) ?_
 rintro _ _ ⟨_, _, _, ⟨pv, v, rfl, rfl⟩, hF, hH⟩
 (refine NST hF hH ?_; clear hF hH; rintro rfl rfl)
 refine WE ?_
 generalize hL : covL ca = L at *
 generalize grdOf ca = g at *
 refine aw_cut (fun F H => F = [(3, .p 0 0 0), (4, .p 1 0 0), (7, .p 2 0 0), (8, .p 5 0 0)] ∧ H = [.box [.c (I n)], .box [.c (I 0), .c (I 0), .c (I 0), .c (.r (.slice none 0 0) [])], .box [gV pv v g], gB g.st g.x g.y g.w g.h 4 (g.w * g.h), gArr (g.w * g.h) (filK g (rowP n L) 0), .box [.p 3 0 0]]) ?_ ?_ wk_aw
 ·have hf0 : filK g (rowP n L) 0 = List.replicate (g.w * g.h) false := by rw [filK_0, hg.len]
  refine ZZ ?_
  refine aw_regionM [[(0, none), (1, none), (2, none), (3, none), (4, none), (5, none), (6, none), (7, none), (8, none), (9, none), (10, none), (11, none), (12, none), (13, none), (14, none), (15, none), (16, none), (17, none), (18, none), (19, none), (20, some []), (21, some [0, 1, 2, 3, 4, 5, 6, 7, 8, 9, 10, 11, 12, 13, 14, 15, 16, 17, 18, 19]), (22, some [])], [(0, none), (1, none), (2, none), (3, none), (4, none), (5, none), (6, none), (7, none), (8, none), (9, none), (10, none), (11, none), (12, none), (13, none), (14, none), (15, none), (16, none), (17, none), (18, none), (19, none), (21, some [0, 1, 2, 3, 4, 5, 6, 7, 8, 9, 10, 11, 12, 13, 14, 15, 16, 17, 18, 19]), (20, some []), (22, some [])]] hMixed (by kernel_rfl) ?_
  focus
   refine WM ?_
   refine am_two (by rfl) (by rfl) (by rfl) ?_ ?_
   rotate_left
   refine WM ?_
   refine am_ef (i := 20) (by rfl) (by rfl) rfl rfl (ef_call0 false (fun _ => newgrid_v g.st g.x g.y g.w g.h hg.w hg.h) rfl .fn rfl (by decide) (by kernel_rfl) rfl (fun _ => C0 rfl) (by simp)) ?_
   rintro _ _ ⟨_, _, _, ⟨rfl, rfl⟩, hF, hH⟩
   (refine NST hF hH ?_; clear hF hH; rintro rfl rfl)
   refine ⟨AGX, ?_⟩
   refine WN ?_
   rotate_right
   refine am_ef (i := 20) (by rfl) (by rfl) rfl rfl (ef_call0 false (fun _ => newgrid_v g.st g.x g.y g.w g.h hg.w hg.h) rfl .fn rfl (by decide) (by kernel_rfl) rfl (fun _ => C0 rfl) (by simp)) ?_
   rintro _ _ ⟨_, _, _, ⟨rfl, rfl⟩, hF, hH⟩
   (refine NST hF hH ?_; clear hF hH; rintro rfl rfl)
   refine ⟨AGX, ?_⟩
   refine WN ?_
  ·exact wk_of [some 1, some 2, some 3, some 4, some 5, some 6] (fun _ => [(3, .p 0 0 0), (4, .p 1 0 0), (7, .p 2 0 0), (8, .p 5 0 0)]) (fun _ => [.box [.c (I n)], .box [.c (I 0), .c (I 0), .c (I 0), .c (.r (.slice none 0 0) [])], .box [gV pv v g], gB g.st g.x g.y g.w g.h 4 (g.w * g.h), gArr (g.w * g.h) (filK g (rowP n L) 0), .box [.p 3 0 0]]) (by decide) (ZNL hE) ZCF (by rw [hf0]; exact ZCH) (fun _ => ⟨rfl, rfl⟩)
  ·exact wk_of [some 1, some 2, some 3, some 5, some 6, some 4] (fun _ => [(3, .p 0 0 0), (4, .p 1 0 0), (7, .p 2 0 0), (8, .p 5 0 0)]) (fun _ => [.box [.c (I n)], .box [.c (I 0), .c (I 0), .c (I 0), .c (.r (.slice none 0 0) [])], .box [gV pv v g], gB g.st g.x g.y g.w g.h 4 (g.w * g.h), gArr (g.w * g.h) (filK g (rowP n L) 0), .box [.p 3 0 0]]) (by decide) (ZNL hE) ZCF (by rw [hf0]; exact ZCH) (fun _ => ⟨rfl, rfl⟩)
 rintro F H ⟨rfl, rfl⟩
 refine ZZ ?_
 refine WR ?_
 refine al_ef rfl (ef_call [0, 2, 5, 3, 4] (fun _ => [.box [.c (I n)], .box [gV pv v g], .box [.p 3 0 0], gB g.st g.x g.y g.w g.h 4 (g.w * g.h), gArr (g.w * g.h) (filK g (rowP n L) 0)]) false (fun _ => each_shrunk g pv v n hn L hat hg) rfl .fn rfl (by decide) (by kernel_rfl) rfl ZCH (by decide) ZCH (by simp)) ?_
 rintro F1 H1 ⟨_, _, _, _, ⟨rfl, rfl⟩, hF, hH⟩
 (refine NSU hF hH ?_; clear hF hH; rintro rfl rfl)
 refine WE ?_
 generalize hg1e : filG g (rowP n L) = g1 at *
 have hst1 : g1.st = ca.st := by rw [← hg1e]; exact hst0
 have hw1 : g1.st = g.st ∧ g1.x = g.x ∧ g1.y = g.y ∧ g1.w = g.w ∧ g1.h = g.h := by rw [← hg1e]; exact ⟨rfl, rfl, rfl, rfl, rfl⟩
 obtain ⟨w1, w2, w3, w4, w5⟩ := hw1
 have hln := hg1.len
 rw [← w1, ← w2, ← w3, ← w4, ← w5]
 refine aw_wk (wk_of (K := fun F H => ∃ pn pa p2 o2, F = [(3, .c (.p pn [I n])), (4, .p 0 0 0), (8, .c (.p pa [.p p2 (gRow g1 o2)]))] ∧ H = [.box [.c (I 0), .c (I 0), .c (I 0), .c (.r (.slice none 0 0) [])]]) [some 1] (fun f => [(3, .c (.p (f (.p 0 0 0)) [I n])), (4, .p 0 0 0), (8, .c (.p (f (.p 5 0 0)) [.p (f (.p 3 0 0)) (gRow g1 (f (.o 4 0 (g1.w * g1.h) (g1.w * g1.h))))]))]) (fun _ => [.box [.c (I 0), .c (I 0), .c (I 0), .c (.r (.slice none 0 0) [])]]) (by decide) (ZNL hE) (fun _ => .cons rfl (frzpL rfl rfl (.cons (.c rfl) .nil)) (.cons rfl (.p rfl) (.cons rfl (frzpL rfl rfl (.cons (frzG rfl rfl hln rfl rfl) .nil)) .nil))) ZCH (fun _ => ⟨_, _, _, _, rfl, rfl⟩)) ?_
 rintro F H ⟨pn, pa, p2, o2, rfl, rfl⟩
 refine ZR ?_
 refine ZA (rd_ldcp rfl (by kernel_rfl) rfl rfl) ?_
 refine WO ?_
 refine al_ef rfl (ef_call0 false (fun _ => chosen2_v 262 (.func 262) (.p pn [I n]) (.p pa [.p p2 (gRow g1 o2)]) (fun (vs : List AV) => vs ++ [AV.c (CV.p pn [I n]), AV.c (CV.p pa [CV.p p2 (gRow g1 o2)])]) (colP n Lr) (by kernel_rfl) (fun F x vs h => .clo h) (fun _ _ => rfl) (fun a b h1 h2 => shrunk2_v n hn pn pa p2 o2 Lr g1 hg1 hat1 a b (by omega) (by omega)) g1 p2 o2 hg1 (by rw [hst1]; omega)) rfl .fn rfl (by decide) (by kernel_rfl) rfl (fun _ => C0 rfl) (by simp)) ?_
 rintro _ _ ⟨_, _, _, ⟨v', rfl, rfl⟩, hF, hH⟩
 rw [hnf] at hF
 (refine NST hF hH ?_; clear hF hH; rintro rfl rfl)
 refine WE ?_
 exact aret_of (us := [celA v' R.1, .c (I R.2)]) [] (fun _ => .t [celA v' R.1, .c (I R.2)]) (fun _ => []) (.cella (n := 4) rfl (by kernel_rfl) (Cells.box rfl) (by simp) (by (try simp only [nm, putL, Nat.reduceAdd, cellsOf, cvOf]) <;> rfl) (.tmp rfl .nil)) (by decide) (fun i hi => absurd hi (Nat.not_lt_zero i)) (fun g' => .tL (.cons (.aL (.cons (.c rfl) (.cons (.c rfl) (.cons (.c rfl) (.cons (.c rfl) .nil))))) (.cons (.c rfl) .nil))) (fun _ => .nil) (fun g' => ⟨v', rfl, rfl⟩)
end Go.Proofs.YtniolldgidgffaaGreatDoor

/- Walls of near cells: shrinking and minus without faults, by value. -/
-- NEWM
namespace Go.Proofs.YtniolldgidgffaaGreatDoor
open Go Go.RowKit
set_option maxRecDepth 100000
theorem fshr_v (va : Value) (ca : Cel) (h : NCel ca) (n : Nat) (hn : n ≤ 20) : ACalls Tryz.prog 175 [celA va ca, .c (I n)] [] fun u H => ∃ v', u = celA v' (celN ca.st (shrL n (covL ca))) ∧ H = [] := by
 have hok := (normC_ok h (L := shrL n (covL ca)) (fun p hp => (List.mem_filter.1 hp).1)).1
 generalize celN ca.st (shrL n (covL ca)) = R at *
 refine acalls_of (N := 12) Tryz.func175 rfl rfl (by simp) fun E hE => ?_
 refine WA ?_
 refine WR ?_
 refine al_ef rfl (ef_call0 false (fun _ => shrunk_v va ca h.r n hn) rfl .fn rfl (by decide) (by kernel_rfl) rfl (fun _ => C0 rfl) (by simp)) ?_
 rintro _ _ ⟨_, _, _, ⟨v', rfl, rfl⟩, hF, hH⟩
 rw [hok] at hF
 (refine NST hF hH ?_; clear hF hH; rintro rfl rfl)
 refine WE ?_
 refine WA ?_
 exact aret_a [] [] rfl (k := 4) (by kernel_rfl) rfl (Cells.box rfl) (by simp) (by (try simp only [nm, putL, Nat.reduceAdd, cellsOf, cvOf]) <;> rfl) (by decide) (ZNK rfl) (fun _ => C0 rfl) (fun _ => .nil) ⟨v', rfl, rfl⟩
theorem fmin_v (va vb : Value) (ca cb : Cel) (ha : RCel ca) (hb : RCel cb) (hs : ca.st = cb.st) (hok : normC ca.st (minL (covL ca) (covL cb)) = (celN ca.st (minL (covL ca) (covL cb)), 0)) : ACalls Tryz.prog 112 [celA va ca, celA vb cb] [] fun u H => ∃ v', u = celA v' (celN ca.st (minL (covL ca) (covL cb))) ∧ H = [] := by
 generalize celN ca.st (minL (covL ca) (covL cb)) = R at *
 refine acalls_of (N := 14) Tryz.func112 rfl rfl (by simp) fun E hE => ?_
 refine WA ?_
 refine WR ?_
 refine al_ef rfl (ef_call0 false (fun _ => minus_v va vb ca cb ha hb hs) rfl .fn rfl (by decide) (by kernel_rfl) rfl (fun _ => C0 rfl) (by simp)) ?_
 rintro _ _ ⟨_, _, _, ⟨v', rfl, rfl⟩, hF, hH⟩
 rw [hok] at hF
 (refine NST hF hH ?_; clear hF hH; rintro rfl rfl)
 refine WE ?_
 refine WA ?_
 exact aret_a [] [] rfl (k := 4) (by kernel_rfl) rfl (Cells.box rfl) (by simp) (by (try simp only [nm, putL, Nat.reduceAdd, cellsOf, cvOf]) <;> rfl) (by decide) (ZNK rfl) (fun _ => C0 rfl) (fun _ => .nil) ⟨v', rfl, rfl⟩
end Go.Proofs.YtniolldgidgffaaGreatDoor

/- Walls of near cells, by value. -/
-- NEWM
namespace Go.Proofs.YtniolldgidgffaaGreatDoor
open Go Go.RowKit
set_option maxRecDepth 100000
theorem celN_st (st : Int) (L : List Spot) : (celN st L).st = st := by unfold celN; split <;> rfl
abbrev walC (c : Cel) (k : Nat) : Cel := celN c.st (minL (shrL k (covL c)) (shrL (k + 1) (covL c)))
theorem wal_eq {c : Cel} (h : NCel c) (k : Nat) : RCel (celN c.st (shrL k (covL c))) ∧ minL (covL (celN c.st (shrL k (covL c)))) (covL (celN c.st (shrL (k + 1) (covL c)))) ⊆ covL c ∧ celN c.st (minL (covL (celN c.st (shrL k (covL c)))) (covL (celN c.st (shrL (k + 1) (covL c))))) = walC c k := by
 have hst : 0 < c.st := by have := h.r.st; omega
 have hm : ∀ q, q ∈ minL (covL (celN c.st (shrL k (covL c)))) (covL (celN c.st (shrL (k + 1) (covL c)))) ↔ q ∈ minL (shrL k (covL c)) (shrL (k + 1) (covL c)) := fun q => by
  unfold minL
  rw [List.mem_filter, List.mem_filter, covL_celN hst]
  simp only [Bool.not_eq_true', decide_eq_false_iff_not, covL_celN hst]
 exact ⟨(normC_ok h (fun p hp => (List.mem_filter.1 hp).1)).2, fun p hp => (List.mem_filter.1 (List.mem_filter.1 ((hm p).1 hp)).1).1, celN_mem hm⟩
abbrev cR (l : List (Value × Cel)) : List (List CV) := l.map fun p => celR p.1 p.2
end Go.Proofs.YtniolldgidgffaaGreatDoor

/- Walls, by value. -/
-- NEWM
namespace Go.Proofs.YtniolldgidgffaaGreatDoor
open Go Go.RowKit
set_option maxRecDepth 100000
end Go.Proofs.YtniolldgidgffaaGreatDoor

/- Grids of layers; what is wrong with layers, by value. -/
-- NEWM
namespace Go.Proofs.YtniolldgidgffaaGreatDoor
open Go Go.RowKit
set_option maxRecDepth 100000
end Go.Proofs.YtniolldgidgffaaGreatDoor

/- What is wrong with layers and styles, by value. -/
-- NEWM
namespace Go.Proofs.YtniolldgidgffaaGreatDoor
open Go Go.RowKit
set_option maxRecDepth 100000
end Go.Proofs.YtniolldgidgffaaGreatDoor
