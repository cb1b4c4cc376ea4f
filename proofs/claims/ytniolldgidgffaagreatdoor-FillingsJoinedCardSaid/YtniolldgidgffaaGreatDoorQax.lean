/- Shrinking: what is near, the closures, by value. -/
import Derived.Test.YtniolldgidgffaaGreatDoorQaw
set_option linter.unusedSimpArgs false
set_option linter.unusedVariables false
/- The cells of a grid that a function chooses, by value. -/
-- NEWM
namespace Go.Proofs.YtniolldgidgffaaGreatDoor
open Go Go.RowKit
set_option maxRecDepth 100000
theorem rd_ldcp {P : Program} {N : Nat} {E : Env} {F : Fm} {H : List OB} {o : Oper} {t : TypeId} {x : Operand} {v : Value} {row : List CV} {y : CV} (ho : o.op = .load t x) (ht : ldk P t = some none) (hx : ev F x = some (.c (.p v row))) (hn : row[0]? = some y) : Rd P N E o F H (.c y) := fun S ρ a w hR => by
 obtain ⟨h1, h2⟩ := hR.ev hx
 cases h2 with
 | c g =>
  cases g with
  | p row B off hS hcell hg =>
   have h3 := hcell 0 y hn
   rw [Nat.add_zero] at h3
   refine ⟨?_, .c (hg y (List.mem_of_getElem? hn))⟩
   simp [execOp, ho, h1, AV.den, CV.den, Instr.loadAt, Instr.sureAddr, loadVar, (ldk_none (w := w) ht).1, h3]
theorem spt_ix {g : Grd} {k : Nat} (h : 1 ≤ (g.w : Int)) {a b : Int} (ha : a = g.x + (k : Int) % g.w) (hb : b = g.y + (k : Int) / g.w) : (b - g.y) * (g.w : Int) + a - g.x = k := by
 have := Int.mul_ediv_add_emod k g.w
 rw [ha, hb, show g.y + (k : Int) / g.w - g.y = (k : Int) / g.w by omega, Int.mul_comm]
 omega
set_option maxHeartbeats 1000000 in
theorem chosen1_v (fn : FuncId) (fv : Fn) (e : CV) (A : List AV → List AV) (p : Spot → Bool) (hfn : okFn Tryz.prog fn = true) (hcal : ∀ (F : Fm) (x : Operand) (vs : List AV), ev F x = some (.f fv [.c e]) → Callee' F x fn vs (A vs)) (hA : ∀ a b : Int, AV.cloL (A [.c (I a), .c (I b)]) = true) (hp : ∀ a b : Int, (-20000000 ≤ a ∧ a ≤ 20000000) → (-20000000 ≤ b ∧ b ≤ 20000000) → ACalls Tryz.prog fn (A [.c (I a), .c (I b)]) [] fun u H => u = .c (B (p (a, b))) ∧ H = []) (g : Grd) (hg : GOk g) (on : List Bool) (k : Nat) (hk : k < g.on.length) (hon : on.length = g.w * g.h) (a b : Int) (ha : a = g.x + (k : Int) % g.w) (hb : b = g.y + (k : Int) / g.w) : ACalls Tryz.prog 176 [.c (I a), .c (I b), .p 0 0 0, .p 1 0 0] [.box [.f fv [.c e]], .box [.p 2 0 0], gB g.st g.x g.y g.w g.h 3 (g.w * g.h), gArr (g.w * g.h) on] fun u H => u = .t [] ∧ H = [.box [.f fv [.c e]], .box [.p 2 0 0], gB g.st g.x g.y g.w g.h 3 (g.w * g.h), gArr (g.w * g.h) (if p (a, b) = true then on.set k true else on)] := by
 obtain ⟨w1, ⟨w2, w3⟩, w4, w5⟩ := each_at hg hk
 have hgx := hg.x
 have hgy := hg.y
 have hi := spt_ix w1 ha hb
 have hnb : g.w * g.h ≤ 1000000 := Nat.le_trans (Nat.mul_le_mul hg.w hg.h) (by decide)
 have hkn : k < g.w * g.h := by rw [← hg.len]; exact hk
 obtain ⟨q, hq⟩ : ∃ q, p (a, b) = q := ⟨_, rfl⟩
 rw [hq]
 refine acallsx_of false (N := 14) Tryz.func176 rfl rfl (by simp) fun E hE hP => ?_
 cases q with
 | true =>
  refine WR ?_
  refine al_ef rfl (ef_call0 false (fun _ => hp a b (by omega) (by omega)) rfl (hcal _ _ _ rfl) rfl (by decide) hfn rfl (fun _ => C0 (hA a b)) (by simp)) ?_
  rintro _ _ ⟨_, _, _, ⟨rfl, rfl⟩, hF, hH⟩
  rw [hq] at hF
  (refine NST hF hH ?_; clear hF hH; rintro rfl rfl)
  refine WE ?_
  refine aw_cond_t rfl ?_
  refine WR ?_
  refine al_ef rfl (ef_callp [2, 3] (fun _ => [gB g.st g.x g.y g.w g.h 1 (g.w * g.h), gArr (g.w * g.h) on]) false (fun _ => set_v g.st g.x g.y g.w g.h on (g.w * g.h) a b k hon hi (by omega) hnb (by omega) (by omega) hgx hgy) rfl .fn rfl (by decide) (by kernel_rfl) rfl (fun _ => .cons (.p rfl) (.cons (.c rfl) (.cons (.c rfl) .nil))) (by decide) ZCH (by simp)) ?_
  rintro F1 H1 ⟨_, _, _, _, ⟨rfl, rfl⟩, hF, hH⟩
  rw [killF_nil] at hF; (refine NSU hF hH ?_; clear hF hH; rintro rfl rfl)
  refine WE ?_
  exact aret_0 [some 0, some 1, some 2, some 3] (fun _ => [.box [.f fv [.c e]], .box [.p 2 0 0], gB g.st g.x g.y g.w g.h 3 (g.w * g.h), gArr (g.w * g.h) (on.set k true)]) (.inr rfl) rfl (by decide) (ZNK rfl) ZCH (fun _ => ⟨rfl, rfl⟩)
 | false =>
  refine WR ?_
  refine al_ef rfl (ef_call0 false (fun _ => hp a b (by omega) (by omega)) rfl (hcal _ _ _ rfl) rfl (by decide) hfn rfl (fun _ => C0 (hA a b)) (by simp)) ?_
  rintro _ _ ⟨_, _, _, ⟨rfl, rfl⟩, hF, hH⟩
  rw [hq] at hF
  (refine NST hF hH ?_; clear hF hH; rintro rfl rfl)
  refine WE ?_
  refine aw_cond_f rfl ?_
  refine ZZ ?_
  exact aret_0 [some 0, some 1, some 2, some 3] (fun _ => [.box [.f fv [.c e]], .box [.p 2 0 0], gB g.st g.x g.y g.w g.h 3 (g.w * g.h), gArr (g.w * g.h) on]) (.inr rfl) rfl (by decide) (ZNK rfl) ZCH (fun _ => ⟨rfl, rfl⟩)
end Go.Proofs.YtniolldgidgffaaGreatDoor

/- The cells of a grid that a function chooses, by value: the walk. -/
-- NEWM
namespace Go.Proofs.YtniolldgidgffaaGreatDoor
open Go Go.RowKit
set_option maxRecDepth 100000
theorem filK_next {g : Grd} {p : Spot → Bool} {k : Nat} {b : Bool} (h : g.on[k]? = some b) : filK g p (k + 1) = if (b && p (spt g k)) = true then (filK g p k).set k true else filK g p k := by
 have hk := (List.getElem?_eq_some_iff.1 h).1
 have hd : g.on.getD k false = b := by rw [List.getD_eq_getElem?_getD, h]; rfl
 split
 ·rename_i hy; exact filK_yes hk (by rw [hd]; exact hy)
 ·rename_i hn; exact filK_no hk (by rw [hd]; simpa using hn)
set_option maxHeartbeats 1000000 in
theorem each_chosen (g : Grd) (pv v : Value) (fn : FuncId) (fv : Fn) (e : CV) (A : List AV → List AV) (p : Spot → Bool) (hfn : okFn Tryz.prog fn = true) (hcal : ∀ (F : Fm) (x : Operand) (vs : List AV), ev F x = some (.f fv [.c e]) → Callee' F x fn vs (A vs)) (hA : ∀ a b : Int, AV.cloL (A [.c (I a), .c (I b)]) = true) (hp : ∀ a b : Int, (-20000000 ≤ a ∧ a ≤ 20000000) → (-20000000 ≤ b ∧ b ≤ 20000000) → ACalls Tryz.prog fn (A [.c (I a), .c (I b)]) [] fun u H => u = .c (B (p (a, b))) ∧ H = []) (hg : GOk g)  : ACalls Tryz.prog 95 [gV pv v g, .f (.func 176) [.p 0 0 0, .p 1 0 0]] [.box [.f fv [.c e]], .box [.p 2 0 0], gB g.st g.x g.y g.w g.h 3 (g.w * g.h), gArr (g.w * g.h) (filK g p 0)] fun u H => u = .t [] ∧ H = [.box [.f fv [.c e]], .box [.p 2 0 0], gB g.st g.x g.y g.w g.h 3 (g.w * g.h), gArr (g.w * g.h) ((filG g p).on)] := by
 have hn := hg.n
 have hgx := hg.x
 have hgy := hg.y
 have eo : (oR g.on).length = g.on.length := by simp
 refine acallsx_of false (N := 42) Tryz.func95 rfl rfl (by simp) fun E hE hP => ?_
 refine WA ?_
 refine aw_loopw (fun m F H => ∃ k : Nat, m + k = g.on.length ∧ F = [(0, gV pv v g), (1, .f (.func 176) [.p 0 0 0, .p 1 0 0]), (9, .c (.r v (oR g.on))), (10, .c (I (oR g.on).length)), (11, .c (I k))] ∧ H = [.box [.f fv [.c e]], .box [.p 2 0 0], gB g.st g.x g.y g.w g.h 3 (g.w * g.h), gArr (g.w * g.h) (filK g p k)]) ?_ ?_
 ·refine wk_of [some 0, some 1, some 2, some 3] (fun _ => [(0, gV pv v g), (1, .f (.func 176) [.p 0 0 0, .p 1 0 0]), (9, .c (.r v (oR g.on))), (10, .c (I (oR g.on).length)), (11, .c (I (0 : Nat)))]) (fun _ => [.box [.f fv [.c e]], .box [.p 2 0 0], gB g.st g.x g.y g.w g.h 3 (g.w * g.h), gArr (g.w * g.h) (filK g p 0)]) (by decide) (ZNL hE) ZCF ZCH (fun _ => ?_)
  exact ⟨g.on.length, 0, by omega, rfl, rfl⟩
 rintro m F H ⟨k, hk, rfl, rfl⟩
 refine WA ?_
 refine aw_if rfl (fun hlt => ?_) (fun hge => ?_)
 ·have hkn : k < g.on.length := by omega
  obtain ⟨b, hb⟩ : ∃ b, g.on[k]? = some b := ⟨_, List.getElem?_eq_getElem hkn⟩
  have hrow : (oR g.on)[k]? = some [B b] := by rw [List.getElem?_map, hb]; rfl
  obtain ⟨w1, ⟨w2, w3⟩, w4, w5⟩ := each_at hg hkn
  refine WA ?_
  refine WA ?_
  cases b with
  | true =>
   refine aw_cond_t rfl ?_
   have hnx : filK g p (k + 1) = if p (spt g k) = true then (filK g p k).set k true else filK g p k := by rw [filK_next hb, Bool.true_and]
   refine ZZ ?_
   refine aw_regionT [(0, none), (1, none), (2, none), (3, none), (4, none), (5, none), (6, none), (7, none), (8, none), (9, none), (10, none), (11, none), (12, none), (13, none), (14, none), (15, none), (16, none), (17, none), (18, none), (19, none), (20, none), (21, none), (22, none), (23, some [])] hMixed (by kernel_rfl) ?_
   refine WP ?_
   refine at_ef rfl rfl (ef_call [0, 1, 2, 3] (fun _ => [.box [.f fv [.c e]], .box [.p 2 0 0], gB g.st g.x g.y g.w g.h 3 (g.w * g.h), gArr (g.w * g.h) (filK g p k)]) false (fun _ => chosen1_v fn fv e A p hfn hcal hA hp g hg (filK g p k) k hkn (by rw [filK_len (by omega)]; exact hg.len) _ _ rfl rfl) rfl (.clo rfl) rfl (by decide) (by kernel_rfl) rfl ZCH (by decide) ZCH (by simp)) ?_
   rintro F1 H1 ⟨_, _, _, _, ⟨rfl, rfl⟩, hF, hH⟩
   rw [spt_eq, ← hnx] at hH
   (refine NSU hF hH ?_; clear hF hH; rintro rfl rfl)
   refine ⟨ag_none, ?_⟩
   refine WQ ?_
   refine WA ?_
   refine wk_of [some 0, some 1, some 2, some 3] (fun _ => [(0, gV pv v g), (1, .f (.func 176) [.p 0 0 0, .p 1 0 0]), (9, .c (.r v (oR g.on))), (10, .c (I (oR g.on).length)), (11, .c (I (k + 1 : Nat)))]) (fun _ => [.box [.f fv [.c e]], .box [.p 2 0 0], gB g.st g.x g.y g.w g.h 3 (g.w * g.h), gArr (g.w * g.h) (filK g p (k + 1))]) (by decide) (ZNL hE) ZCF ZCH (fun _ => ?_)
   exact ⟨m - 1, by omega, k + 1, by omega, rfl, rfl⟩
  | false =>
   refine aw_cond_f rfl ?_
   refine ZZ ?_
   refine WA ?_
   refine wk_of [some 0, some 1, some 2, some 3] (fun _ => [(0, gV pv v g), (1, .f (.func 176) [.p 0 0 0, .p 1 0 0]), (9, .c (.r v (oR g.on))), (10, .c (I (oR g.on).length)), (11, .c (I (k + 1 : Nat)))]) (fun _ => [.box [.f fv [.c e]], .box [.p 2 0 0], gB g.st g.x g.y g.w g.h 3 (g.w * g.h), gArr (g.w * g.h) (filK g p (k + 1))]) (by decide) (ZNL hE) ZCF (by rw [show filK g p (k + 1) = filK g p k by rw [filK_next hb, if_neg (by simp)]]; exact ZCH) (fun _ => ?_)
   exact ⟨m - 1, by omega, k + 1, by omega, rfl, rfl⟩
 obtain rfl : k = g.on.length := by omega
 refine ZZ ?_
 rw [filK_end]
 exact aret_0 [some 0, some 1, some 2, some 3] (fun _ => [.box [.f fv [.c e]], .box [.p 2 0 0], gB g.st g.x g.y g.w g.h 3 (g.w * g.h), gArr (g.w * g.h) ((filG g p).on)]) (.inr rfl) rfl (by decide) (ZNK rfl) ZCH (fun _ => ⟨rfl, rfl⟩)
end Go.Proofs.YtniolldgidgffaaGreatDoor

/- The cells of a grid that a function chooses, by value: chosen. -/
-- NEWM
namespace Go.Proofs.YtniolldgidgffaaGreatDoor
open Go Go.RowKit
set_option maxRecDepth 100000
theorem frzpL {g : AV → Value} {m : List (Option Nat)} {H : List OB} {b : Nat} {l : List AV} {row : List CV} (h : H[b]? = some (.box l)) (hm : m.contains (some b) = false) (hc : CvL g m H true l (row.map .c)) : Cvt g m H true (.p b 0 0) (.c (.p (g (.p b 0 0)) row)) :=
 .frzp rfl h (by have := hc.both.1; simpa using this) (fun i x u hx hu => hc.both.2 i x (.c u) hx (by rw [List.getElem?_map, hu]; rfl)) hm
theorem frzG {f : AV → Value} {m : List (Option Nat)} {H : List OB} {b k n : Nat} {g : Grd} (h : H[b]? = some (gB g.st g.x g.y g.w g.h k n)) (ha : H[k]? = some (gArr n g.on)) (hn : g.on.length = n) (hm : m.contains (some b) = false) (hk : m.contains (some k) = false) : Cvt f m H true (.p b 0 0) (gV (f (.p b 0 0)) (f (.o k 0 n n)) g) :=
 frzpL h hm (.cons (.c rfl) (.cons (.c rfl) (.cons (.c rfl) (.cons (.c rfl) (.cons (.c rfl) (.cons (.frz rfl ha (by rw [← hn, oR_take]) (by rw [List.length_map]; exact hn) hk) .nil))))))
theorem filG_ok {g : Grd} (hg : GOk g) (p : Spot → Bool) : GOk (filG g p) := by
 have hl : (filG g p).on.length = g.on.length := by simp [filG]
 exact ⟨by rw [hl]; exact hg.len, hg.w, hg.h, hg.x, hg.y⟩
set_option maxHeartbeats 2000000 in
theorem chosen_v (fn : FuncId) (fv : Fn) (e : CV) (A : List AV → List AV) (p : Spot → Bool) (hfn : okFn Tryz.prog fn = true) (hcal : ∀ (F : Fm) (x : Operand) (vs : List AV), ev F x = some (.f fv [.c e]) → Callee' F x fn vs (A vs)) (hA : ∀ a b : Int, AV.cloL (A [.c (I a), .c (I b)]) = true) (hp : ∀ a b : Int, (-20000000 ≤ a ∧ a ≤ 20000000) → (-20000000 ≤ b ∧ b ≤ 20000000) → ACalls Tryz.prog fn (A [.c (I a), .c (I b)]) [] fun u H => u = .c (B (p (a, b))) ∧ H = []) (g : Grd) (pv v : Value) (hg : GOk g) (hst : 0 ≤ g.st ∧ g.st ≤ 10000) : ACalls Tryz.prog 123 [gV pv v g, .f fv [.c e]] [] fun u H => ∃ v', u = .t [celA v' (normC g.st (covG (filG g p))).1, .c (I (normC g.st (covG (filG g p))).2)] ∧ H = [] := by
 have hgx := hg.x
 have hgy := hg.y
 have hgw := hg.w
 have hgh := hg.h
 refine acalls_of (N := 35) Tryz.func123 rfl rfl (by simp) fun E hE => ?_
 refine WA ?_
 refine aw_cut (fun F H => F = [(0, gV pv v g), (3, .p 0 0 0), (4, .p 1 0 0), (6, .p 4 0 0)] ∧ H = [.box [.f fv [.c e]], .box [.c (I 0), .c (I 0), .c (I 0), .c (.r (.slice none 0 0) [])], gB g.st g.x g.y g.w g.h 3 (g.w * g.h), gArr (g.w * g.h) (filK g p 0), .box [.p 2 0 0]]) ?_ ?_ wk_aw
 ·have hf0 : filK g p 0 = List.replicate (g.w * g.h) false := by rw [filK_0, hg.len]
  refine ZZ ?_
  refine aw_regionM [[(0, none), (1, none), (2, none), (3, none), (4, none), (5, none), (6, none), (7, none), (8, none), (9, none), (10, none), (11, none), (12, none), (13, none), (14, none), (15, none), (16, none), (17, none), (18, none), (19, none), (20, some []), (21, some [0, 1, 2, 3, 4, 5, 6, 7, 8, 9, 10, 11, 12, 13, 14, 15, 16, 17, 18, 19]), (22, some [])], [(0, none), (1, none), (2, none), (3, none), (4, none), (5, none), (6, none), (7, none), (8, none), (9, none), (10, none), (11, none), (12, none), (13, none), (14, none), (15, none), (16, none), (17, none), (18, none), (19, none), (21, some [0, 1, 2, 3, 4, 5, 6, 7, 8, 9, 10, 11, 12, 13, 14, 15, 16, 17, 18, 19]), (20, some []), (22, some [])]] hMixed (by kernel_rfl) ?_
  focus
   refine WM ?_
   refine am_two (by rfl) (by rfl) (by rfl) ?_ ?_
   rotate_left
   refine WM ?_
   refine am_ef (i := 20) (by rfl) (by rfl) rfl rfl (ef_call0 false (fun _ => newgrid_v g.st g.x g.y g.w g.h hg.w hg.h) rfl .fn rfl (by decide) (by kernel_rfl) rfl (fun _ => C0 rfl) (by simp)) ?_
   rintro _ _ ⟨_, _, _, ⟨rfl, rfl⟩, hF, hH⟩
   (refine NST hF hH ?_; clear hF hH; rintro rfl rfl)
   refine ⟨AGX, ?_⟩
   refine WN ?_
   rotate_right
   refine am_ef (i := 20) (by rfl) (by rfl) rfl rfl (ef_call0 false (fun _ => newgrid_v g.st g.x g.y g.w g.h hg.w hg.h) rfl .fn rfl (by decide) (by kernel_rfl) rfl (fun _ => C0 rfl) (by simp)) ?_
   rintro _ _ ⟨_, _, _, ⟨rfl, rfl⟩, hF, hH⟩
   (refine NST hF hH ?_; clear hF hH; rintro rfl rfl)
   refine ⟨AGX, ?_⟩
   refine WN ?_
  ·exact wk_of [some 0, some 1, some 2, some 3, some 4] (fun _ => [(0, gV pv v g), (3, .p 0 0 0), (4, .p 1 0 0), (6, .p 4 0 0)]) (fun _ => [.box [.f fv [.c e]], .box [.c (I 0), .c (I 0), .c (I 0), .c (.r (.slice none 0 0) [])], gB g.st g.x g.y g.w g.h 3 (g.w * g.h), gArr (g.w * g.h) (filK g p 0), .box [.p 2 0 0]]) (by decide) (ZNL hE) ZCF (by rw [hf0]; exact ZCH) (fun _ => ⟨rfl, rfl⟩)
  ·exact wk_of [some 0, some 1, some 3, some 4, some 2] (fun _ => [(0, gV pv v g), (3, .p 0 0 0), (4, .p 1 0 0), (6, .p 4 0 0)]) (fun _ => [.box [.f fv [.c e]], .box [.c (I 0), .c (I 0), .c (I 0), .c (.r (.slice none 0 0) [])], gB g.st g.x g.y g.w g.h 3 (g.w * g.h), gArr (g.w * g.h) (filK g p 0), .box [.p 2 0 0]]) (by decide) (ZNL hE) ZCF (by rw [hf0]; exact ZCH) (fun _ => ⟨rfl, rfl⟩)
 rintro F H ⟨rfl, rfl⟩
 refine ZZ ?_
 refine WR ?_
 refine al_ef rfl (ef_call [0, 4, 2, 3] (fun _ => [.box [.f fv [.c e]], .box [.p 2 0 0], gB g.st g.x g.y g.w g.h 3 (g.w * g.h), gArr (g.w * g.h) (filK g p 0)]) false (fun _ => each_chosen g pv v fn fv e A p hfn hcal hA hp hg) rfl .fn rfl (by decide) (by kernel_rfl) rfl ZCH (by decide) ZCH (by simp)) ?_
 rintro F1 H1 ⟨_, _, _, _, ⟨rfl, rfl⟩, hF, hH⟩
 (refine NSU hF hH ?_; clear hF hH; rintro rfl rfl)
 refine WE ?_
 refine aw_wk (wk_of (K := fun F H => ∃ pv1 v1, F = [(4, .p 0 0 0), (6, .p 1 0 0)] ∧ H = [.box [.c (I 0), .c (I 0), .c (I 0), .c (.r (.slice none 0 0) [])], .box [gV pv1 v1 (filG g p)]]) [some 1, some 4] (fun _ => [(4, .p 0 0 0), (6, .p 1 0 0)]) (fun f => [.box [.c (I 0), .c (I 0), .c (I 0), .c (.r (.slice none 0 0) [])], .box [gV (f (.p 2 0 0)) (f (.o 3 0 (g.w * g.h) (g.w * g.h))) (filG g p)]]) (by decide) (ZNL hE) ZCF (fun _ => .box rfl (C0 rfl) (.box rfl (.cons (frzG rfl rfl (by simp [filG, hg.len]) rfl rfl) .nil) .nil)) (fun _ => ⟨_, _, rfl, rfl⟩)) ?_
 rintro F H ⟨pv1, v1, rfl, rfl⟩
 refine WR ?_
 refine al_ef rfl (ef_call0 false (fun _ => cells_v (filG g p) pv1 v1 (filG_ok hg p) hst) rfl .fn rfl (by decide) (by kernel_rfl) rfl (fun _ => C0 rfl) (by simp)) ?_
 rintro _ _ ⟨_, _, _, ⟨v2, rfl, rfl⟩, hF, hH⟩
 (refine NST hF hH ?_; clear hF hH; rintro rfl rfl)
 refine WE ?_
 exact aret_of (us := [celA v2 (normC g.st (covG (filG g p))).1, .c (I (normC g.st (covG (filG g p))).2)]) [] (fun _ => .t [celA v2 (normC g.st (covG (filG g p))).1, .c (I (normC g.st (covG (filG g p))).2)]) (fun _ => []) (.cella (n := 4) rfl (by kernel_rfl) (Cells.box rfl) (by simp) (by (try simp only [nm, putL, Nat.reduceAdd, cellsOf, cvOf]) <;> rfl) (.tmp rfl .nil)) (by decide) (fun i hi => absurd hi (Nat.not_lt_zero i)) (fun g' => .tL (.cons (.aL (.cons (.c rfl) (.cons (.c rfl) (.cons (.c rfl) (.cons (.c rfl) .nil))))) (.cons (.c rfl) .nil))) (fun _ => .nil) (fun g' => ⟨v2, rfl, rfl⟩)
end Go.Proofs.YtniolldgidgffaaGreatDoor

/- Pairs of grids; the cells of one that are not of another one; of both, by value. -/
-- NEWM
namespace Go.Proofs.YtniolldgidgffaaGreatDoor
open Go Go.RowKit
set_option maxRecDepth 100000
theorem check_r (v : Value) (c : Cel) (h : RCel c) : ACalls Tryz.prog 65 [celA v c] [] fun u H => u = .c (I 0) ∧ H = [] := by
 have hh := h.h
 have hw := h.w
 have := check_v v c (by omega) (fun r hr => by rw [(h.row r hr).1]; omega)
 rw [celF_0.2 h] at this
 exact this
abbrev celR (v : Value) (c : Cel) : List CV := [I c.st, I c.x, I c.y, .r v (tR c.rows)]
set_option maxHeartbeats 2000000 in
theorem pair_v (va vb : Value) (ca cb : Cel) (ha : RCel ca) (hb : RCel cb) (hs : ca.st = cb.st) : ACalls Tryz.prog 120 [celA va ca, celA vb cb] [] fun u H => ∃ p1 o1 p2 o2, u = .t [gV p1 o1 (grdOf ca), gV p2 o2 (grdOf cb), .c (I 0)] ∧ H = [] := by
 refine acalls_of (N := 33) Tryz.func120 rfl rfl (by simp) fun E hE => ?_
 refine WA ?_
 refine WA ?_
 refine aw_loopw (fun m F H => ∃ k : Nat, m + k = 2 ∧ F = [(2, .p 0 0 0), (3, .p 1 0 0), (12, .o 2 0 2 2), (13, .c (I 2)), (14, .c (I k))] ∧ H = [celB va ca, celB vb cb, .arr 28 4 2 [celR va ca, celR vb cb]]) ?_ ?_
 ·refine wk_of [some 0, some 1, some 2] (fun _ => [(2, .p 0 0 0), (3, .p 1 0 0), (12, .o 2 0 2 2), (13, .c (I 2)), (14, .c (I (0 : Nat)))]) (fun _ => [celB va ca, celB vb cb, .arr 28 4 2 [celR va ca, celR vb cb]]) (by decide) (ZNL hE) ZCF ZCH (fun _ => ?_)
  exact ⟨2, 0, by omega, rfl, rfl⟩
 rintro m F H ⟨k, hk, rfl, rfl⟩
 refine WA ?_
 refine aw_if rfl (fun hlt => ?_) (fun hge => ?_)
 ·obtain ⟨w, c, hrow, hc⟩ : ∃ w c, [celR va ca, celR vb cb][k]? = some (celR w c) ∧ RCel c := by
   obtain rfl | rfl : k = 0 ∨ k = 1 := by omega
   ·exact ⟨va, ca, rfl, ha⟩
   ·exact ⟨vb, cb, rfl, hb⟩
  refine WA ?_
  refine WR ?_
  refine al_ef rfl (ef_call0 false (fun _ => check_r w c hc) rfl .fn rfl (by decide) (by kernel_rfl) rfl (fun _ => C0 rfl) (by simp)) ?_
  rintro _ _ ⟨_, _, _, ⟨rfl, rfl⟩, hF, hH⟩
  (refine NST hF hH ?_; clear hF hH; rintro rfl rfl)
  refine WE ?_
  refine WA ?_
  refine aw_cond_f rfl ?_
  refine ZZ ?_
  refine WA ?_
  refine wk_of [some 0, some 1, some 2] (fun _ => [(2, .p 0 0 0), (3, .p 1 0 0), (12, .o 2 0 2 2), (13, .c (I 2)), (14, .c (I (k + 1 : Nat)))]) (fun _ => [celB va ca, celB vb cb, .arr 28 4 2 [celR va ca, celR vb cb]]) (by decide) (ZNL hE) ZCF ZCH (fun _ => ?_)
  exact ⟨m - 1, by omega, k + 1, by omega, rfl, rfl⟩
 refine ZZ ?_
 refine WA ?_
 refine aw_cond_f rfl ?_
 refine ZZ ?_
 refine aw_regionT [(0, none), (2, none), (1, some [2]), (3, some []), (4, none), (5, none), (6, none)] hMixed (by kernel_rfl) ?_
 refine WP ?_
 refine at_ef rfl rfl (ef_call0 false (fun _ => gridof_v va ca ha) rfl .fn rfl (by decide) (by kernel_rfl) rfl (fun _ => C0 rfl) (by simp)) ?_
 rintro _ _ ⟨_, _, _, ⟨p1, o1, rfl, rfl⟩, hF, hH⟩
 (refine NST hF hH ?_; clear hF hH; rintro rfl rfl)
 refine ⟨ag_cons (by first | exact ag_rd rfl rfl rfl (ZK (KK (t := 28) rfl)) rfl) (ag_none), ?_⟩
 refine at_ef rfl rfl (ef_call0 false (fun _ => gridof_v vb cb hb) rfl .fn rfl (by decide) (by kernel_rfl) rfl (fun _ => C0 rfl) (by simp)) ?_
 rintro _ _ ⟨_, _, _, ⟨p2, o2, rfl, rfl⟩, hF, hH⟩
 (refine NST hF hH ?_; clear hF hH; rintro rfl rfl)
 refine ⟨ag_none, ?_⟩
 refine WQ ?_
 all_goals (exact aret_of (us := [gV p1 o1 (grdOf ca), gV p2 o2 (grdOf cb), .c (I 0)]) [] (fun _ => .t [gV p1 o1 (grdOf ca), gV p2 o2 (grdOf cb), .c (I 0)]) (fun _ => []) (.tmp rfl (.tmp rfl (.tmp rfl .nil))) (by decide) (fun i hi => absurd hi (Nat.not_lt_zero i)) (fun g' => .tL (.cons (.c rfl) (.cons (.c rfl) (.cons (.c rfl) .nil)))) (fun _ => .nil) (fun g' => ⟨p1, o1, p2, o2, rfl, rfl⟩))
end Go.Proofs.YtniolldgidgffaaGreatDoor

/- The cells of one that are not of another one; of both, by value. -/
-- NEWM
namespace Go.Proofs.YtniolldgidgffaaGreatDoor
open Go Go.RowKit
set_option maxRecDepth 100000
theorem grdOf_st (c : Cel) : (grdOf c).st = c.st := by unfold grdOf; split <;> rfl
abbrev minL (A B : List Spot) : List Spot := A.filter fun q => !decide (q ∈ B)
abbrev botL (A B : List Spot) : List Spot := A.filter fun q => decide (q ∈ B)
theorem normC_fil {c : Cel} (h : RCel c) {p : Spot → Bool} {L : List Spot} (hL : ∀ q, q ∈ L ↔ q ∈ covL c ∧ p q = true) : normC (grdOf c).st (covG (filG (grdOf c) p)) = normC c.st L := by
 rw [grdOf_st]
 exact normC_mem fun q => by rw [filG_cov, grdOf_cov h, hL]
theorem at_cov {c : Cel} (h : RCel c) (a b : Int) : atG (grdOf c) a b = decide ((a, b) ∈ covL c) := by
 rw [atG_eq (grdOf_len h)]
 simp only [grdOf_cov h]
theorem minus1_v (pv p2 o2 : Value) (c : Cel) (h : RCel c) (a b : Int) (ha : -100000000 ≤ a ∧ a ≤ 100000000) (hb : -100000000 ≤ b ∧ b ≤ 100000000) : ACalls Tryz.prog 129 [.c (I a), .c (I b), .c (.p pv [.p p2 (gRow (grdOf c) o2)])] [] fun u H => u = .c (B (!decide ((a, b) ∈ covL c))) ∧ H = [] := by
 refine acalls_of (N := 11) Tryz.func129 rfl rfl (by simp) fun E hE => ?_
 repeat' (first
  | (with_reducible refine aw_seq ?_) | (with_reducible refine aseq_n ?_) | (with_reducible refine aseq_r ?_) | (with_reducible refine ablk_n ?_) | (with_reducible refine ablk_r ?_) | (with_reducible refine ablk_e ?_) | (with_reducible refine ablk_o rfl ?_) | (with_reducible refine aseq_e ?_) | (with_reducible refine aw_skip ?_) | (with_reducible refine aw_block ?_) | (with_reducible refine aw_ret ?_) | (with_reducible refine aw_exit ?_)
  | refine aw_cond_t rfl ?_ | refine aw_cond_f rfl ?_ | refine aw_if_t rfl (by assumption) ?_ | refine aw_if_f rfl (by assumption) ?_ | refine aw_if rfl (fun _ => ?_) (fun _ => ?_) | refine aw_cond rfl (fun _ => ?_) (fun _ => ?_)
  | (refine aw_region (id := 1) ?_
     refine ZA (rd_ldcp rfl (by kernel_rfl) rfl rfl) ?_
     refine WO ?_
     refine al_ef rfl (ef_call0 false (fun _ => at_v (grdOf c) p2 o2 a b (grdOf_ok h) ha hb) rfl .fn rfl (by decide) (by kernel_rfl) rfl (fun _ => C0 rfl) (by simp)) ?_
     rintro _ _ ⟨_, _, _, ⟨rfl, rfl⟩, hF, hH⟩
     (refine NST hF hH ?_; clear hF hH; rintro rfl rfl)
     refine WE ?_)
  | (refine aw_region ?_; refine WE ?_))
 exact aret_1 [] _ rfl rfl rfl (by decide) (ZNK rfl) (fun _ => .nil) ⟨congrArg (fun z => AV.c (B (!z))) (at_cov h a b), rfl⟩
set_option maxHeartbeats 2000000 in
theorem minus_v (va vb : Value) (ca cb : Cel) (ha : RCel ca) (hb : RCel cb) (hs : ca.st = cb.st) : ACalls Tryz.prog 52 [celA va ca, celA vb cb] [] fun u H => ∃ v', u = .t [celA v' (normC ca.st (minL (covL ca) (covL cb))).1, .c (I (normC ca.st (minL (covL ca) (covL cb))).2)] ∧ H = [] := by
 have hst := ha.st
 have hnf := normC_fil ha (p := fun q => !decide (q ∈ covL cb)) (L := minL (covL ca) (covL cb)) (fun q => by rw [List.mem_filter])
 generalize normC ca.st (minL (covL ca) (covL cb)) = R at *
 refine acalls_of (N := 25) Tryz.func52 rfl rfl (by simp) fun E hE => ?_
 refine WA ?_
 refine WR ?_
 refine al_ef rfl (ef_call0 false (fun _ => pair_v va vb ca cb ha hb hs) rfl .fn rfl (by decide) (by kernel_rfl) rfl (fun _ => C0 rfl) (by simp)) ?_
 rintro _ _ ⟨_, _, _, ⟨p1, o1, p2, o2, rfl, rfl⟩, hF, hH⟩
 (refine NST hF hH ?_; clear hF hH; rintro rfl rfl)
 refine WE ?_
 refine WA ?_
 refine aw_cond_f rfl ?_
 refine ZZ ?_
 refine aw_wk (wk_of (K := fun F H => ∃ pv, F = [(4, .p 0 0 0), (6, gV p1 o1 (grdOf ca)), (7, .c (.p pv [.p p2 (gRow (grdOf cb) o2)]))] ∧ H = [.box [.c (I 0), .c (I 0), .c (I 0), .c (.r (.slice none 0 0) [])]]) [some 2] (fun f => [(4, .p 0 0 0), (6, gV p1 o1 (grdOf ca)), (7, .c (.p (f (.p 3 0 0)) [.p p2 (gRow (grdOf cb) o2)]))]) (fun _ => [.box [.c (I 0), .c (I 0), .c (I 0), .c (.r (.slice none 0 0) [])]]) (by decide) (ZNL hE) (fun _ => .cons rfl (.p rfl) (.cons rfl (.c rfl) (.cons rfl (frzpL rfl rfl (.cons (.c rfl) .nil)) .nil))) ZCH (fun _ => ⟨_, rfl, rfl⟩)) ?_
 rintro F H ⟨pv, rfl, rfl⟩
 refine WR ?_
 refine al_ef rfl (ef_call0 false (fun _ => chosen_v 129 (.func 129) (.p pv [.p p2 (gRow (grdOf cb) o2)]) (fun (vs : List AV) => vs ++ [AV.c (CV.p pv [CV.p p2 (gRow (grdOf cb) o2)])]) (fun q => !decide (q ∈ covL cb)) (by kernel_rfl) (fun F x vs h => .clo h) (fun _ _ => rfl) (fun a b h1 h2 => minus1_v pv p2 o2 cb hb a b (by omega) (by omega)) (grdOf ca) p1 o1 (grdOf_ok ha) (by rw [grdOf_st]; omega)) rfl .fn rfl (by decide) (by kernel_rfl) rfl (fun _ => C0 rfl) (by simp)) ?_
 rintro _ _ ⟨_, _, _, ⟨v', rfl, rfl⟩, hF, hH⟩
 rw [hnf] at hF
 (refine NST hF hH ?_; clear hF hH; rintro rfl rfl)
 refine WE ?_
 exact aret_of (us := [celA v' R.1, .c (I R.2)]) [] (fun _ => .t [celA v' R.1, .c (I R.2)]) (fun _ => []) (.cella (n := 4) rfl (by kernel_rfl) (Cells.box rfl) (by simp) (by (try simp only [nm, putL, Nat.reduceAdd, cellsOf, cvOf]) <;> rfl) (.tmp rfl .nil)) (by decide) (fun i hi => absurd hi (Nat.not_lt_zero i)) (fun g' => .tL (.cons (.aL (.cons (.c rfl) (.cons (.c rfl) (.cons (.c rfl) (.cons (.c rfl) .nil))))) (.cons (.c rfl) .nil))) (fun _ => .nil) (fun g' => ⟨v', rfl, rfl⟩)
end Go.Proofs.YtniolldgidgffaaGreatDoor

/- Shrinking: what is near, the closures, by value. -/
-- NEWM
namespace Go.Proofs.YtniolldgidgffaaGreatDoor
open Go Go.RowKit
set_option maxRecDepth 100000
def allU (f : Int → Bool) : Nat → Int → Bool
 | 0, _ => true
 | m + 1, k => f k && allU f m (k + 1)
theorem allU_iff {f : Int → Bool} : ∀ {m : Nat} {k : Int}, allU f m k = true ↔ ∀ j : Int, k ≤ j → j < k + m → f j = true
 | 0, k => by
  rw [allU]
  exact ⟨fun _ j h1 h2 => by omega, fun _ => rfl⟩
 | m + 1, k => by
  rw [allU, Bool.and_eq_true, allU_iff (m := m)]
  constructor
  ·rintro ⟨h1, h2⟩ j h3 h4
   by_cases e : j = k
   ·rw [e]; exact h1
   ·exact h2 j (by omega) (by omega)
  ·intro h
   exact ⟨h k (by omega) (by omega), fun j h3 h4 => h j (by omega) (by omega)⟩
abbrev rowP (n : Nat) (L : List Spot) (q : Spot) : Bool := allU (fun k => decide ((q.1 + k, q.2) ∈ L)) (2 * n + 1) (-(n : Int))
abbrev colP (n : Nat) (L : List Spot) (q : Spot) : Bool := allU (fun k => decide ((q.1, q.2 + k) ∈ L)) (2 * n + 1) (-(n : Int))
set_option maxHeartbeats 2000000 in
theorem shrunk1_v (n : Nat) (hn : n ≤ 20) (pv v : Value) (L : List Spot) (g : Grd) (hg : GOk g) (hat : ∀ a b, atG g a b = decide ((a, b) ∈ L)) (on : List Bool) (j : Nat) (hj : j < g.on.length) (hon : on.length = g.w * g.h) (a b : Int) (ha : a = g.x + (j : Int) % g.w) (hbb : b = g.y + (j : Int) / g.w) : ACalls Tryz.prog 261 [.c (I a), .c (I b), .p 0 0 0, .p 1 0 0, .p 2 0 0] [.box [.c (I n)], .box [gV pv v g], .box [.p 3 0 0], gB g.st g.x g.y g.w g.h 4 (g.w * g.h), gArr (g.w * g.h) on] fun u H => u = .t [] ∧ H = [.box [.c (I n)], .box [gV pv v g], .box [.p 3 0 0], gB g.st g.x g.y g.w g.h 4 (g.w * g.h), gArr (g.w * g.h) (if rowP n L (a, b) = true then on.set j true else on)] := by
 obtain ⟨w1, ⟨w2, w3⟩, w4, w5⟩ := each_at hg hj
 have hgx := hg.x
 have hgy := hg.y
 have hi := spt_ix w1 ha hbb
 have hnb : g.w * g.h ≤ 1000000 := Nat.le_trans (Nat.mul_le_mul hg.w hg.h) (by decide)
 have hjn : j < g.w * g.h := by rw [← hg.len]; exact hj
 have hab : -20000000 ≤ a ∧ a ≤ 20000000 := by omega
 have hb : -100000000 ≤ b ∧ b ≤ 100000000 := by omega
 have hb2 : -20000000 ≤ b ∧ b ≤ 20000000 := by omega
 clear ha hbb w1 w2 w3 w4 w5
 have hPP : rowP n L (a, b) = allU (fun k => decide ((a + k, b) ∈ L)) (2 * n + 1) (-(n : Int)) := rfl
 generalize rowP n L (a, b) = P at *
 refine acallsx_of false (N := 26) Tryz.func261 rfl rfl (by simp) fun E hE hP => ?_
 refine WA ?_
 refine aw_loopw (fun m F H => ∃ k : Int, k + m = n + 1 ∧ -(n : Int) ≤ k ∧ allU (fun k => decide ((a + k, b) ∈ L)) m k = P ∧ F = [(0, .c (I a)), (1, .c (I b)), (2, .p 0 0 0), (3, .p 1 0 0), (4, .p 2 0 0), (7, .c (I k))] ∧ H = [.box [.c (I n)], .box [gV pv v g], .box [.p 3 0 0], gB g.st g.x g.y g.w g.h 4 (g.w * g.h), gArr (g.w * g.h) on]) ?_ ?_
 ·refine wk_of [some 0, some 1, some 2, some 3, some 4] (fun _ => [(0, .c (I a)), (1, .c (I b)), (2, .p 0 0 0), (3, .p 1 0 0), (4, .p 2 0 0), (7, .c (I (-(n : Int))))]) (fun _ => [.box [.c (I n)], .box [gV pv v g], .box [.p 3 0 0], gB g.st g.x g.y g.w g.h 4 (g.w * g.h), gArr (g.w * g.h) on]) (by decide) (ZNL hE) ZCF ZCH (fun _ => ?_)
  exact ⟨2 * n + 1, -(n : Int), by omega, by omega, hPP.symm, rfl, rfl⟩
 rintro m F H ⟨k, hk, hkn, hal, rfl, rfl⟩
 refine WA ?_
 refine aw_if rfl (fun hlt => ?_) (fun hge => ?_)
 ·obtain ⟨m, rfl⟩ : ∃ m', m = m' + 1 := ⟨m - 1, by omega⟩
  rw [allU] at hal
  obtain ⟨q, hq⟩ : ∃ q, decide ((a + k, b) ∈ L) = q := ⟨_, rfl⟩
  rw [hq] at hal
  cases q with
  | true =>
   refine WR ?_
   refine al_ef rfl (ef_call0 false (fun _ => at_v g pv v (a + k) b hg (by omega) hb) rfl .fn rfl (by decide) (by kernel_rfl) rfl (fun _ => C0 rfl) (by simp)) ?_
   rintro _ _ ⟨_, _, _, ⟨rfl, rfl⟩, hF, hH⟩
   rw [hat, hq] at hF
   (refine NST hF hH ?_; clear hF hH; rintro rfl rfl)
   refine WE ?_
   refine aw_cond_f rfl ?_
   refine ZZ ?_
   refine WA ?_
   refine wk_of [some 0, some 1, some 2, some 3, some 4] (fun _ => [(0, .c (I a)), (1, .c (I b)), (2, .p 0 0 0), (3, .p 1 0 0), (4, .p 2 0 0), (7, .c (I (k + 1)))]) (fun _ => [.box [.c (I n)], .box [gV pv v g], .box [.p 3 0 0], gB g.st g.x g.y g.w g.h 4 (g.w * g.h), gArr (g.w * g.h) on]) (by decide) (ZNL hE) ZCF ZCH (fun _ => ?_)
   exact ⟨m, by omega, k + 1, by omega, by omega, by simpa using hal, rfl, rfl⟩
  | false =>
   obtain rfl : P = false := by simpa using hal.symm
   refine WR ?_
   refine al_ef rfl (ef_call0 false (fun _ => at_v g pv v (a + k) b hg (by omega) hb) rfl .fn rfl (by decide) (by kernel_rfl) rfl (fun _ => C0 rfl) (by simp)) ?_
   rintro _ _ ⟨_, _, _, ⟨rfl, rfl⟩, hF, hH⟩
   rw [hat, hq] at hF
   (refine NST hF hH ?_; clear hF hH; rintro rfl rfl)
   refine WE ?_
   refine aw_cond_t rfl ?_
   refine ZZ ?_
   exact aret_0 [some 0, some 1, some 2, some 3, some 4] (fun _ => [.box [.c (I n)], .box [gV pv v g], .box [.p 3 0 0], gB g.st g.x g.y g.w g.h 4 (g.w * g.h), gArr (g.w * g.h) on]) (.inl rfl) rfl (by decide) (ZNK rfl) ZCH (fun _ => ⟨rfl, rfl⟩)
 obtain rfl : m = 0 := by omega
 obtain rfl : P = true := hal.symm
 refine ZZ ?_
 refine WR ?_
 refine al_ef rfl (ef_callp [3, 4] (fun _ => [gB g.st g.x g.y g.w g.h 1 (g.w * g.h), gArr (g.w * g.h) on]) false (fun _ => set_v g.st g.x g.y g.w g.h on (g.w * g.h) a b j hon hi (by omega) hnb (by omega) (by omega) hgx hgy) rfl .fn rfl (by decide) (by kernel_rfl) rfl (fun _ => .cons (.p rfl) (.cons (.c rfl) (.cons (.c rfl) .nil))) (by decide) ZCH (by simp)) ?_
 rintro F1 H1 ⟨_, _, _, _, ⟨rfl, rfl⟩, hF, hH⟩
 rw [killF_nil] at hF; (refine NSU hF hH ?_; clear hF hH; rintro rfl rfl)
 refine WE ?_
 exact aret_0 [some 0, some 1, some 2, some 3, some 4] (fun _ => [.box [.c (I n)], .box [gV pv v g], .box [.p 3 0 0], gB g.st g.x g.y g.w g.h 4 (g.w * g.h), gArr (g.w * g.h) (on.set j true)]) (.inr rfl) rfl (by decide) (ZNK rfl) ZCH (fun _ => ⟨rfl, rfl⟩)
end Go.Proofs.YtniolldgidgffaaGreatDoor
