/- Shrinking, by value: the second closure; Each with the first one. -/
import Derived.Test.YtniolldgidgffaaGreatDoorQbb
import Derived.Test.YtniolldgidgffaaGreatDoorQaz
set_option linter.unusedSimpArgs false
set_option linter.unusedVariables false
/- Covered, by value. -/
-- NEWM
-- NILC
namespace Go.Proofs.YtniolldgidgffaaGreatDoor
open Go Go.RowKit
set_option maxRecDepth 100000
instance (a b p : Spot) : Decidable (onS a b p) := by unfold onS; infer_instance
end Go.Proofs.YtniolldgidgffaaGreatDoor

/- Left, by value. -/
-- NEWM
-- NILC
namespace Go.Proofs.YtniolldgidgffaaGreatDoor
open Go Go.RowKit
set_option maxRecDepth 100000
end Go.Proofs.YtniolldgidgffaaGreatDoor

/- Fractions in lowest terms, by value: Lowest of the program and of its document. The same names as in XMf: import one of both. -/
namespace Go.Proofs.YtniolldgidgffaaGreatDoor
open Go Go.RowKit
set_option maxRecDepth 100000
end Go.Proofs.YtniolldgidgffaaGreatDoor

/- Density, by value. -/
-- NEWM
-- NILC
namespace Go.Proofs.YtniolldgidgffaaGreatDoor
open Go Go.RowKit
set_option maxRecDepth 100000
def cntG (g : Grd) (k : Nat) : Nat := (covK g k).length
def cntH (g h : Grd) (k : Nat) : Nat := ((covK g k).filter fun q => decide (q ∈ covG h)).length
theorem cnt_le {g h : Grd} : ∀ k : Nat, cntG g k ≤ k ∧ cntH g h k ≤ k
 | 0 => ⟨Nat.le_refl _, Nat.le_refl _⟩
 | k + 1 => by
  obtain ⟨h1, h2⟩ := cnt_le (g := g) (h := h) k
  unfold cntG cntH at *
  rw [covK_snoc]
  split
  ·rw [List.length_append, List.filter_append, List.length_append]
   have : ([spt g k].filter fun q => decide (q ∈ covG h)).length ≤ 1 := List.length_filter_le _ _
   simp only [List.length_cons, List.length_nil] at *
   omega
  ·rw [List.append_nil]; omega
end Go.Proofs.YtniolldgidgffaaGreatDoor

/- Shrinking: what is near, the closures, by value. -/
-- NEWM
namespace Go.Proofs.YtniolldgidgffaaGreatDoor
open Go Go.RowKit
set_option maxRecDepth 100000
def allU (f : Int → Bool) : Nat → Int → Bool
 | 0, _ => true
 | m + 1, k => f k && allU f m (k + 1)
abbrev rowP (n : Nat) (L : List Spot) (q : Spot) : Bool := allU (fun k => decide ((q.1 + k, q.2) ∈ L)) (2 * n + 1) (-(n : Int))
abbrev colP (n : Nat) (L : List Spot) (q : Spot) : Bool := allU (fun k => decide ((q.1, q.2 + k) ∈ L)) (2 * n + 1) (-(n : Int))
set_option maxHeartbeats 2000000 in
theorem shrunk1_v (n : Nat) (hn : n ≤ 20) (pv v : Value) (L : List Spot) (g : Grd) (hg : GOk g) (hat : ∀ a b, atG g a b = decide ((a, b) ∈ L)) (on : List Bool) (j : Nat) (hj : j < g.on.length) (hon : on.length = g.w * g.h) (a b : Int) (ha : a = g.x + (j : Int) % g.w) (hbb : b = g.y + (j : Int) / g.w) : ACalls Tryz.prog 261 [.c (I a), .c (I b), .p 0 0 0, .p 1 0 0, .p 2 0 0] [.box [.c (I n)], .box [gV pv v g], .box [.p 3 0 0], gB g.st g.x g.y g.w g.h 4 (g.w * g.h), gArr (g.w * g.h) on] fun u H => u = .t [] ∧ H = [.box [.c (I n)], .box [gV pv v g], .box [.p 3 0 0], gB g.st g.x g.y g.w g.h 4 (g.w * g.h), gArr (g.w * g.h) (if rowP n L (a, b) = true then on.set j true else on)] := by
 obtain ⟨w1, ⟨w2, w3⟩, w4, w5⟩ := each_at hg hj
 have hgx := hg.x
 have hgy := hg.y
 have hi := spt_ix w1 ha hbb
 have hnb : g.w * g.h ≤ 1000000 := Nat.le_trans (Nat.mul_le_mul hg.w hg.h) (by decide)
 have hjn : j < g.w * g.h := by rw [← hg.len]; exact hj
 have hab : -20000000 ≤ a ∧ a ≤ 20000000 := by omega
 have hb : -100000000 ≤ b ∧ b ≤ 100000000 := by omega
 have hb2 : -20000000 ≤ b ∧ b ≤ 20000000 := by omega
 clear ha hbb w1 w2 w3 w4 w5
 have hPP : rowP n L (a, b) = allU (fun k => decide ((a + k, b) ∈ L)) (2 * n + 1) (-(n : Int)) := rfl
 generalize rowP n L (a, b) = P at *
 refine acallsx_of false (N := 26) Tryz.func261 rfl rfl (by simp) fun E hE hP => ?_
 refine WA ?_
 refine aw_loopw (fun m F H => ∃ k : Int, k + m = n + 1 ∧ -(n : Int) ≤ k ∧ allU (fun k => decide ((a + k, b) ∈ L)) m k = P ∧ F = [(0, .c (I a)), (1, .c (I b)), (2, .p 0 0 0), (3, .p 1 0 0), (4, .p 2 0 0), (7, .c (I k))] ∧ H = [.box [.c (I n)], .box [gV pv v g], .box [.p 3 0 0], gB g.st g.x g.y g.w g.h 4 (g.w * g.h), gArr (g.w * g.h) on]) ?_ ?_
 ·refine wk_of [some 0, some 1, some 2, some 3, some 4] (fun _ => [(0, .c (I a)), (1, .c (I b)), (2, .p 0 0 0), (3, .p 1 0 0), (4, .p 2 0 0), (7, .c (I (-(n : Int))))]) (fun _ => [.box [.c (I n)], .box [gV pv v g], .box [.p 3 0 0], gB g.st g.x g.y g.w g.h 4 (g.w * g.h), gArr (g.w * g.h) on]) (by decide) (ZNL hE) ZCF ZCH (fun _ => ?_)
  exact ⟨2 * n + 1, -(n : Int), by omega, by omega, hPP.symm, rfl, rfl⟩
 rintro m F H ⟨k, hk, hkn, hal, rfl, rfl⟩
 refine WA ?_
 refine aw_if rfl (fun hlt => ?_) (fun hge => ?_)
 ·obtain ⟨m, rfl⟩ : ∃ m', m = m' + 1 := ⟨m - 1, by omega⟩
  rw [allU] at hal
  obtain ⟨q, hq⟩ : ∃ q, decide ((a + k, b) ∈ L) = q := ⟨_, rfl⟩
  rw [hq] at hal
  cases q with
  | true =>
   refine WR ?_
   refine al_ef rfl (ef_call0 false (fun _ => at_v g pv v (a + k) b hg (by omega) hb) rfl .fn rfl (by decide) (by kernel_rfl) rfl (fun _ => C0 rfl) (by simp)) ?_
   rintro _ _ ⟨_, _, _, ⟨rfl, rfl⟩, hF, hH⟩
   rw [hat, hq] at hF
   (refine NST hF hH ?_; clear hF hH; rintro rfl rfl)
   refine WE ?_
   refine aw_cond_f rfl ?_
   refine ZZ ?_
   refine WA ?_
   refine wk_of [some 0, some 1, some 2, some 3, some 4] (fun _ => [(0, .c (I a)), (1, .c (I b)), (2, .p 0 0 0), (3, .p 1 0 0), (4, .p 2 0 0), (7, .c (I (k + 1)))]) (fun _ => [.box [.c (I n)], .box [gV pv v g], .box [.p 3 0 0], gB g.st g.x g.y g.w g.h 4 (g.w * g.h), gArr (g.w * g.h) on]) (by decide) (ZNL hE) ZCF ZCH (fun _ => ?_)
   exact ⟨m, by omega, k + 1, by omega, by omega, by simpa using hal, rfl, rfl⟩
  | false =>
   obtain rfl : P = false := by simpa using hal.symm
   refine WR ?_
   refine al_ef rfl (ef_call0 false (fun _ => at_v g pv v (a + k) b hg (by omega) hb) rfl .fn rfl (by decide) (by kernel_rfl) rfl (fun _ => C0 rfl) (by simp)) ?_
   rintro _ _ ⟨_, _, _, ⟨rfl, rfl⟩, hF, hH⟩
   rw [hat, hq] at hF
   (refine NST hF hH ?_; clear hF hH; rintro rfl rfl)
   refine WE ?_
   refine aw_cond_t rfl ?_
   refine ZZ ?_
   exact aret_0 [some 0, some 1, some 2, some 3, some 4] (fun _ => [.box [.c (I n)], .box [gV pv v g], .box [.p 3 0 0], gB g.st g.x g.y g.w g.h 4 (g.w * g.h), gArr (g.w * g.h) on]) (.inl rfl) rfl (by decide) (ZNK rfl) ZCH (fun _ => ⟨rfl, rfl⟩)
 obtain rfl : m = 0 := by omega
 obtain rfl : P = true := hal.symm
 refine ZZ ?_
 refine WR ?_
 refine al_ef rfl (ef_callp [3, 4] (fun _ => [gB g.st g.x g.y g.w g.h 1 (g.w * g.h), gArr (g.w * g.h) on]) false (fun _ => set_v g.st g.x g.y g.w g.h on (g.w * g.h) a b j hon hi (by omega) hnb (by omega) (by omega) hgx hgy) rfl .fn rfl (by decide) (by kernel_rfl) rfl (fun _ => .cons (.p rfl) (.cons (.c rfl) (.cons (.c rfl) .nil))) (by decide) ZCH (by simp)) ?_
 rintro F1 H1 ⟨_, _, _, _, ⟨rfl, rfl⟩, hF, hH⟩
 rw [killF_nil] at hF; (refine NSU hF hH ?_; clear hF hH; rintro rfl rfl)
 refine WE ?_
 exact aret_0 [some 0, some 1, some 2, some 3, some 4] (fun _ => [.box [.c (I n)], .box [gV pv v g], .box [.p 3 0 0], gB g.st g.x g.y g.w g.h 4 (g.w * g.h), gArr (g.w * g.h) (on.set j true)]) (.inr rfl) rfl (by decide) (ZNK rfl) ZCH (fun _ => ⟨rfl, rfl⟩)
end Go.Proofs.YtniolldgidgffaaGreatDoor

/- The cells of a grid that a function chooses: one that holds two values. -/
-- NEWM
namespace Go.Proofs.YtniolldgidgffaaGreatDoor
open Go Go.RowKit
set_option maxRecDepth 100000
set_option maxHeartbeats 1000000 in
theorem chosen21_v (fn : FuncId) (fv : Fn) (e e2 : CV) (A : List AV → List AV) (p : Spot → Bool) (hfn : okFn Tryz.prog fn = true) (hcal : ∀ (F : Fm) (x : Operand) (vs : List AV), ev F x = some (.f fv [.c e, .c e2]) → Callee' F x fn vs (A vs)) (hA : ∀ a b : Int, AV.cloL (A [.c (I a), .c (I b)]) = true) (hp : ∀ a b : Int, (-20000000 ≤ a ∧ a ≤ 20000000) → (-20000000 ≤ b ∧ b ≤ 20000000) → ACalls Tryz.prog fn (A [.c (I a), .c (I b)]) [] fun u H => u = .c (B (p (a, b))) ∧ H = []) (g : Grd) (hg : GOk g) (on : List Bool) (k : Nat) (hk : k < g.on.length) (hon : on.length = g.w * g.h) (a b : Int) (ha : a = g.x + (k : Int) % g.w) (hb : b = g.y + (k : Int) / g.w) : ACalls Tryz.prog 176 [.c (I a), .c (I b), .p 0 0 0, .p 1 0 0] [.box [.f fv [.c e, .c e2]], .box [.p 2 0 0], gB g.st g.x g.y g.w g.h 3 (g.w * g.h), gArr (g.w * g.h) on] fun u H => u = .t [] ∧ H = [.box [.f fv [.c e, .c e2]], .box [.p 2 0 0], gB g.st g.x g.y g.w g.h 3 (g.w * g.h), gArr (g.w * g.h) (if p (a, b) = true then on.set k true else on)] := by
 obtain ⟨w1, ⟨w2, w3⟩, w4, w5⟩ := each_at hg hk
 have hgx := hg.x
 have hgy := hg.y
 have hi := spt_ix w1 ha hb
 have hnb : g.w * g.h ≤ 1000000 := Nat.le_trans (Nat.mul_le_mul hg.w hg.h) (by decide)
 have hkn : k < g.w * g.h := by rw [← hg.len]; exact hk
 obtain ⟨q, hq⟩ : ∃ q, p (a, b) = q := ⟨_, rfl⟩
 rw [hq]
 refine acallsx_of false (N := 14) Tryz.func176 rfl rfl (by simp) fun E hE hP => ?_
 cases q with
 | true =>
  refine WR ?_
  refine al_ef rfl (ef_call0 false (fun _ => hp a b (by omega) (by omega)) rfl (hcal _ _ _ rfl) rfl (by decide) hfn rfl (fun _ => C0 (hA a b)) (by simp)) ?_
  rintro _ _ ⟨_, _, _, ⟨rfl, rfl⟩, hF, hH⟩
  rw [hq] at hF
  (refine NST hF hH ?_; clear hF hH; rintro rfl rfl)
  refine WE ?_
  refine aw_cond_t rfl ?_
  refine WR ?_
  refine al_ef rfl (ef_callp [2, 3] (fun _ => [gB g.st g.x g.y g.w g.h 1 (g.w * g.h), gArr (g.w * g.h) on]) false (fun _ => set_v g.st g.x g.y g.w g.h on (g.w * g.h) a b k hon hi (by omega) hnb (by omega) (by omega) hgx hgy) rfl .fn rfl (by decide) (by kernel_rfl) rfl (fun _ => .cons (.p rfl) (.cons (.c rfl) (.cons (.c rfl) .nil))) (by decide) ZCH (by simp)) ?_
  rintro F1 H1 ⟨_, _, _, _, ⟨rfl, rfl⟩, hF, hH⟩
  rw [killF_nil] at hF; (refine NSU hF hH ?_; clear hF hH; rintro rfl rfl)
  refine WE ?_
  exact aret_0 [some 0, some 1, some 2, some 3] (fun _ => [.box [.f fv [.c e, .c e2]], .box [.p 2 0 0], gB g.st g.x g.y g.w g.h 3 (g.w * g.h), gArr (g.w * g.h) (on.set k true)]) (.inr rfl) rfl (by decide) (ZNK rfl) ZCH (fun _ => ⟨rfl, rfl⟩)
 | false =>
  refine WR ?_
  refine al_ef rfl (ef_call0 false (fun _ => hp a b (by omega) (by omega)) rfl (hcal _ _ _ rfl) rfl (by decide) hfn rfl (fun _ => C0 (hA a b)) (by simp)) ?_
  rintro _ _ ⟨_, _, _, ⟨rfl, rfl⟩, hF, hH⟩
  rw [hq] at hF
  (refine NST hF hH ?_; clear hF hH; rintro rfl rfl)
  refine WE ?_
  refine aw_cond_f rfl ?_
  refine ZZ ?_
  exact aret_0 [some 0, some 1, some 2, some 3] (fun _ => [.box [.f fv [.c e, .c e2]], .box [.p 2 0 0], gB g.st g.x g.y g.w g.h 3 (g.w * g.h), gArr (g.w * g.h) on]) (.inr rfl) rfl (by decide) (ZNK rfl) ZCH (fun _ => ⟨rfl, rfl⟩)
set_option maxHeartbeats 1000000 in
theorem each_chosen2 (g : Grd) (pv v : Value) (fn : FuncId) (fv : Fn) (e e2 : CV) (A : List AV → List AV) (p : Spot → Bool) (hfn : okFn Tryz.prog fn = true) (hcal : ∀ (F : Fm) (x : Operand) (vs : List AV), ev F x = some (.f fv [.c e, .c e2]) → Callee' F x fn vs (A vs)) (hA : ∀ a b : Int, AV.cloL (A [.c (I a), .c (I b)]) = true) (hp : ∀ a b : Int, (-20000000 ≤ a ∧ a ≤ 20000000) → (-20000000 ≤ b ∧ b ≤ 20000000) → ACalls Tryz.prog fn (A [.c (I a), .c (I b)]) [] fun u H => u = .c (B (p (a, b))) ∧ H = []) (hg : GOk g)  : ACalls Tryz.prog 95 [gV pv v g, .f (.func 176) [.p 0 0 0, .p 1 0 0]] [.box [.f fv [.c e, .c e2]], .box [.p 2 0 0], gB g.st g.x g.y g.w g.h 3 (g.w * g.h), gArr (g.w * g.h) (filK g p 0)] fun u H => u = .t [] ∧ H = [.box [.f fv [.c e, .c e2]], .box [.p 2 0 0], gB g.st g.x g.y g.w g.h 3 (g.w * g.h), gArr (g.w * g.h) ((filG g p).on)] := by
 have hn := hg.n
 have hgx := hg.x
 have hgy := hg.y
 have eo : (oR g.on).length = g.on.length := by simp
 refine acallsx_of false (N := 42) Tryz.func95 rfl rfl (by simp) fun E hE hP => ?_
 refine WA ?_
 refine aw_loopw (fun m F H => ∃ k : Nat, m + k = g.on.length ∧ F = [(0, gV pv v g), (1, .f (.func 176) [.p 0 0 0, .p 1 0 0]), (9, .c (.r v (oR g.on))), (10, .c (I (oR g.on).length)), (11, .c (I k))] ∧ H = [.box [.f fv [.c e, .c e2]], .box [.p 2 0 0], gB g.st g.x g.y g.w g.h 3 (g.w * g.h), gArr (g.w * g.h) (filK g p k)]) ?_ ?_
 ·refine wk_of [some 0, some 1, some 2, some 3] (fun _ => [(0, gV pv v g), (1, .f (.func 176) [.p 0 0 0, .p 1 0 0]), (9, .c (.r v (oR g.on))), (10, .c (I (oR g.on).length)), (11, .c (I (0 : Nat)))]) (fun _ => [.box [.f fv [.c e, .c e2]], .box [.p 2 0 0], gB g.st g.x g.y g.w g.h 3 (g.w * g.h), gArr (g.w * g.h) (filK g p 0)]) (by decide) (ZNL hE) ZCF ZCH (fun _ => ?_)
  exact ⟨g.on.length, 0, by omega, rfl, rfl⟩
 rintro m F H ⟨k, hk, rfl, rfl⟩
 refine WA ?_
 refine aw_if rfl (fun hlt => ?_) (fun hge => ?_)
 ·have hkn : k < g.on.length := by omega
  obtain ⟨b, hb⟩ : ∃ b, g.on[k]? = some b := ⟨_, List.getElem?_eq_getElem hkn⟩
  have hrow : (oR g.on)[k]? = some [B b] := by rw [List.getElem?_map, hb]; rfl
  obtain ⟨w1, ⟨w2, w3⟩, w4, w5⟩ := each_at hg hkn
  refine WA ?_
  refine WA ?_
  cases b with
  | true =>
   refine aw_cond_t rfl ?_
   have hnx : filK g p (k + 1) = if p (spt g k) = true then (filK g p k).set k true else filK g p k := by rw [filK_next hb, Bool.true_and]
   refine ZZ ?_
   refine aw_regionT [(0, none), (1, none), (2, none), (3, none), (4, none), (5, none), (6, none), (7, none), (8, none), (9, none), (10, none), (11, none), (12, none), (13, none), (14, none), (15, none), (16, none), (17, none), (18, none), (19, none), (20, none), (21, none), (22, none), (23, some [])] hMixed (by kernel_rfl) ?_
   refine WP ?_
   refine at_ef rfl rfl (ef_call [0, 1, 2, 3] (fun _ => [.box [.f fv [.c e, .c e2]], .box [.p 2 0 0], gB g.st g.x g.y g.w g.h 3 (g.w * g.h), gArr (g.w * g.h) (filK g p k)]) false (fun _ => chosen21_v fn fv e e2 A p hfn hcal hA hp g hg (filK g p k) k hkn (by rw [filK_len (by omega)]; exact hg.len) _ _ rfl rfl) rfl (.clo rfl) rfl (by decide) (by kernel_rfl) rfl ZCH (by decide) ZCH (by simp)) ?_
   rintro F1 H1 ⟨_, _, _, _, ⟨rfl, rfl⟩, hF, hH⟩
   rw [spt_eq, ← hnx] at hH
   (refine NSU hF hH ?_; clear hF hH; rintro rfl rfl)
   refine ⟨ag_none, ?_⟩
   refine WQ ?_
   refine WA ?_
   refine wk_of [some 0, some 1, some 2, some 3] (fun _ => [(0, gV pv v g), (1, .f (.func 176) [.p 0 0 0, .p 1 0 0]), (9, .c (.r v (oR g.on))), (10, .c (I (oR g.on).length)), (11, .c (I (k + 1 : Nat)))]) (fun _ => [.box [.f fv [.c e, .c e2]], .box [.p 2 0 0], gB g.st g.x g.y g.w g.h 3 (g.w * g.h), gArr (g.w * g.h) (filK g p (k + 1))]) (by decide) (ZNL hE) ZCF ZCH (fun _ => ?_)
   exact ⟨m - 1, by omega, k + 1, by omega, rfl, rfl⟩
  | false =>
   refine aw_cond_f rfl ?_
   refine ZZ ?_
   refine WA ?_
   refine wk_of [some 0, some 1, some 2, some 3] (fun _ => [(0, gV pv v g), (1, .f (.func 176) [.p 0 0 0, .p 1 0 0]), (9, .c (.r v (oR g.on))), (10, .c (I (oR g.on).length)), (11, .c (I (k + 1 : Nat)))]) (fun _ => [.box [.f fv [.c e, .c e2]], .box [.p 2 0 0], gB g.st g.x g.y g.w g.h 3 (g.w * g.h), gArr (g.w * g.h) (filK g p (k + 1))]) (by decide) (ZNL hE) ZCF (by rw [show filK g p (k + 1) = filK g p k by rw [filK_next hb, if_neg (by simp)]]; exact ZCH) (fun _ => ?_)
   exact ⟨m - 1, by omega, k + 1, by omega, rfl, rfl⟩
 obtain rfl : k = g.on.length := by omega
 refine ZZ ?_
 rw [filK_end]
 exact aret_0 [some 0, some 1, some 2, some 3] (fun _ => [.box [.f fv [.c e, .c e2]], .box [.p 2 0 0], gB g.st g.x g.y g.w g.h 3 (g.w * g.h), gArr (g.w * g.h) ((filG g p).on)]) (.inr rfl) rfl (by decide) (ZNK rfl) ZCH (fun _ => ⟨rfl, rfl⟩)
set_option maxHeartbeats 2000000 in
theorem chosen2_v (fn : FuncId) (fv : Fn) (e e2 : CV) (A : List AV → List AV) (p : Spot → Bool) (hfn : okFn Tryz.prog fn = true) (hcal : ∀ (F : Fm) (x : Operand) (vs : List AV), ev F x = some (.f fv [.c e, .c e2]) → Callee' F x fn vs (A vs)) (hA : ∀ a b : Int, AV.cloL (A [.c (I a), .c (I b)]) = true) (hp : ∀ a b : Int, (-20000000 ≤ a ∧ a ≤ 20000000) → (-20000000 ≤ b ∧ b ≤ 20000000) → ACalls Tryz.prog fn (A [.c (I a), .c (I b)]) [] fun u H => u = .c (B (p (a, b))) ∧ H = []) (g : Grd) (pv v : Value) (hg : GOk g) (hst : 0 ≤ g.st ∧ g.st ≤ 10000) : ACalls Tryz.prog 123 [gV pv v g, .f fv [.c e, .c e2]] [] fun u H => ∃ v', u = .t [celA v' (normC g.st (covG (filG g p))).1, .c (I (normC g.st (covG (filG g p))).2)] ∧ H = [] := by
 have hgx := hg.x
 have hgy := hg.y
 have hgw := hg.w
 have hgh := hg.h
 refine acalls_of (N := 35) Tryz.func123 rfl rfl (by simp) fun E hE => ?_
 refine WA ?_
 refine aw_cut (fun F H => F = [(0, gV pv v g), (3, .p 0 0 0), (4, .p 1 0 0), (6, .p 4 0 0)] ∧ H = [.box [.f fv [.c e, .c e2]], .box [.c (I 0), .c (I 0), .c (I 0), .c (.r (.slice none 0 0) [])], gB g.st g.x g.y g.w g.h 3 (g.w * g.h), gArr (g.w * g.h) (filK g p 0), .box [.p 2 0 0]]) ?_ ?_ wk_aw
 ·have hf0 : filK g p 0 = List.replicate (g.w * g.h) false := by rw [filK_0, hg.len]
  refine ZZ ?_
  refine aw_regionM [[(0, none), (1, none), (2, none), (3, none), (4, none), (5, none), (6, none), (7, none), (8, none), (9, none), (10, none), (11, none), (12, none), (13, none), (14, none), (15, none), (16, none), (17, none), (18, none), (19, none), (20, some []), (21, some [0, 1, 2, 3, 4, 5, 6, 7, 8, 9, 10, 11, 12, 13, 14, 15, 16, 17, 18, 19]), (22, some [])], [(0, none), (1, none), (2, none), (3, none), (4, none), (5, none), (6, none), (7, none), (8, none), (9, none), (10, none), (11, none), (12, none), (13, none), (14, none), (15, none), (16, none), (17, none), (18, none), (19, none), (21, some [0, 1, 2, 3, 4, 5, 6, 7, 8, 9, 10, 11, 12, 13, 14, 15, 16, 17, 18, 19]), (20, some []), (22, some [])]] hMixed (by kernel_rfl) ?_
  focus
   refine WM ?_
   refine am_two (by rfl) (by rfl) (by rfl) ?_ ?_
   rotate_left
   refine WM ?_
   refine am_ef (i := 20) (by rfl) (by rfl) rfl rfl (ef_call0 false (fun _ => newgrid_v g.st g.x g.y g.w g.h hg.w hg.h) rfl .fn rfl (by decide) (by kernel_rfl) rfl (fun _ => C0 rfl) (by simp)) ?_
   rintro _ _ ⟨_, _, _, ⟨rfl, rfl⟩, hF, hH⟩
   (refine NST hF hH ?_; clear hF hH; rintro rfl rfl)
   refine ⟨AGX, ?_⟩
   refine WN ?_
   rotate_right
   refine am_ef (i := 20) (by rfl) (by rfl) rfl rfl (ef_call0 false (fun _ => newgrid_v g.st g.x g.y g.w g.h hg.w hg.h) rfl .fn rfl (by decide) (by kernel_rfl) rfl (fun _ => C0 rfl) (by simp)) ?_
   rintro _ _ ⟨_, _, _, ⟨rfl, rfl⟩, hF, hH⟩
   (refine NST hF hH ?_; clear hF hH; rintro rfl rfl)
   refine ⟨AGX, ?_⟩
   refine WN ?_
  ·exact wk_of [some 0, some 1, some 2, some 3, some 4] (fun _ => [(0, gV pv v g), (3, .p 0 0 0), (4, .p 1 0 0), (6, .p 4 0 0)]) (fun _ => [.box [.f fv [.c e, .c e2]], .box [.c (I 0), .c (I 0), .c (I 0), .c (.r (.slice none 0 0) [])], gB g.st g.x g.y g.w g.h 3 (g.w * g.h), gArr (g.w * g.h) (filK g p 0), .box [.p 2 0 0]]) (by decide) (ZNL hE) ZCF (by rw [hf0]; exact ZCH) (fun _ => ⟨rfl, rfl⟩)
  ·exact wk_of [some 0, some 1, some 3, some 4, some 2] (fun _ => [(0, gV pv v g), (3, .p 0 0 0), (4, .p 1 0 0), (6, .p 4 0 0)]) (fun _ => [.box [.f fv [.c e, .c e2]], .box [.c (I 0), .c (I 0), .c (I 0), .c (.r (.slice none 0 0) [])], gB g.st g.x g.y g.w g.h 3 (g.w * g.h), gArr (g.w * g.h) (filK g p 0), .box [.p 2 0 0]]) (by decide) (ZNL hE) ZCF (by rw [hf0]; exact ZCH) (fun _ => ⟨rfl, rfl⟩)
 rintro F H ⟨rfl, rfl⟩
 refine ZZ ?_
 refine WR ?_
 refine al_ef rfl (ef_call [0, 4, 2, 3] (fun _ => [.box [.f fv [.c e, .c e2]], .box [.p 2 0 0], gB g.st g.x g.y g.w g.h 3 (g.w * g.h), gArr (g.w * g.h) (filK g p 0)]) false (fun _ => each_chosen2 g pv v fn fv e e2 A p hfn hcal hA hp hg) rfl .fn rfl (by decide) (by kernel_rfl) rfl ZCH (by decide) ZCH (by simp)) ?_
 rintro F1 H1 ⟨_, _, _, _, ⟨rfl, rfl⟩, hF, hH⟩
 (refine NSU hF hH ?_; clear hF hH; rintro rfl rfl)
 refine WE ?_
 refine aw_wk (wk_of (K := fun F H => ∃ pv1 v1, F = [(4, .p 0 0 0), (6, .p 1 0 0)] ∧ H = [.box [.c (I 0), .c (I 0), .c (I 0), .c (.r (.slice none 0 0) [])], .box [gV pv1 v1 (filG g p)]]) [some 1, some 4] (fun _ => [(4, .p 0 0 0), (6, .p 1 0 0)]) (fun f => [.box [.c (I 0), .c (I 0), .c (I 0), .c (.r (.slice none 0 0) [])], .box [gV (f (.p 2 0 0)) (f (.o 3 0 (g.w * g.h) (g.w * g.h))) (filG g p)]]) (by decide) (ZNL hE) ZCF (fun _ => .box rfl (C0 rfl) (.box rfl (.cons (frzG rfl rfl (by simp [filG, hg.len]) rfl rfl) .nil) .nil)) (fun _ => ⟨_, _, rfl, rfl⟩)) ?_
 rintro F H ⟨pv1, v1, rfl, rfl⟩
 refine WR ?_
 refine al_ef rfl (ef_call0 false (fun _ => cells_v (filG g p) pv1 v1 (filG_ok hg p) hst) rfl .fn rfl (by decide) (by kernel_rfl) rfl (fun _ => C0 rfl) (by simp)) ?_
 rintro _ _ ⟨_, _, _, ⟨v2, rfl, rfl⟩, hF, hH⟩
 (refine NST hF hH ?_; clear hF hH; rintro rfl rfl)
 refine WE ?_
 exact aret_of (us := [celA v2 (normC g.st (covG (filG g p))).1, .c (I (normC g.st (covG (filG g p))).2)]) [] (fun _ => .t [celA v2 (normC g.st (covG (filG g p))).1, .c (I (normC g.st (covG (filG g p))).2)]) (fun _ => []) (.cella (n := 4) rfl (by kernel_rfl) (Cells.box rfl) (by simp) (by (try simp only [nm, putL, Nat.reduceAdd, cellsOf, cvOf]) <;> rfl) (.tmp rfl .nil)) (by decide) (fun i hi => absurd hi (Nat.not_lt_zero i)) (fun g' => .tL (.cons (.aL (.cons (.c rfl) (.cons (.c rfl) (.cons (.c rfl) (.cons (.c rfl) .nil))))) (.cons (.c rfl) .nil))) (fun _ => .nil) (fun g' => ⟨v2, rfl, rfl⟩)
end Go.Proofs.YtniolldgidgffaaGreatDoor

/- Shrinking, by value: the second closure; Each with the first one. -/
-- NEWM
namespace Go.Proofs.YtniolldgidgffaaGreatDoor
open Go Go.RowKit
set_option maxRecDepth 100000
set_option maxHeartbeats 2000000 in
theorem shrunk2_v (n : Nat) (hn : n ≤ 20) (pn pa p2 o2 : Value) (L : List Spot) (g : Grd) (hg : GOk g) (hat : ∀ a b, atG g a b = decide ((a, b) ∈ L)) (a b : Int) (ha : -100000000 ≤ a ∧ a ≤ 100000000) (hb : -99999000 ≤ b ∧ b ≤ 99999000) : ACalls Tryz.prog 262 [.c (I a), .c (I b), .c (.p pn [I n]), .c (.p pa [.p p2 (gRow g o2)])] [] fun u H => u = .c (B (colP n L (a, b))) ∧ H = [] := by
 have hPP : colP n L (a, b) = allU (fun k => decide ((a, b + k) ∈ L)) (2 * n + 1) (-(n : Int)) := rfl
 generalize colP n L (a, b) = P at *
 refine acalls_of (N := 22) Tryz.func262 rfl rfl (by simp) fun E hE => ?_
 refine WA ?_
 refine ZR ?_
 refine ZA (rd_ldcp rfl (by kernel_rfl) rfl rfl) ?_
 refine WE ?_
 refine aw_loopw (fun m F H => ∃ k : Int, k + m = n + 1 ∧ -(n : Int) ≤ k ∧ allU (fun k => decide ((a, b + k) ∈ L)) m k = P ∧ F = [(0, .c (I a)), (1, .c (I b)), (2, .c (.p pn [I n])), (3, .c (.p pa [.p p2 (gRow g o2)])), (7, .c (I k))] ∧ H = []) ?_ ?_
 ·refine wk_of [] (fun _ => [(0, .c (I a)), (1, .c (I b)), (2, .c (.p pn [I n])), (3, .c (.p pa [.p p2 (gRow g o2)])), (7, .c (I (-(n : Int))))]) (fun _ => []) (by decide) (ZNL hE) ZCF (fun _ => .nil) (fun _ => ?_)
  exact ⟨2 * n + 1, -(n : Int), by omega, by omega, hPP.symm, rfl, rfl⟩
 rintro m F H ⟨k, hk, hkn, hal, rfl, rfl⟩
 refine ZR ?_
 refine WX1 ?_
 refine ZA (rd_ldcp rfl (by kernel_rfl) rfl rfl) ?_
 refine WE ?_
 refine aw_if rfl (fun hlt => ?_) (fun hge => ?_)
 ·obtain ⟨m, rfl⟩ : ∃ m', m = m' + 1 := ⟨m - 1, by omega⟩
  rw [allU] at hal
  obtain ⟨q, hq⟩ : ∃ q, decide ((a, b + k) ∈ L) = q := ⟨_, rfl⟩
  rw [hq] at hal
  cases q with
  | true =>
   refine ZR ?_
   refine ZA (rd_ldcp rfl (by kernel_rfl) rfl rfl) ?_
   refine WO ?_
   refine al_ef rfl (ef_call0 false (fun _ => at_v g p2 o2 a (b + k) hg ha (by omega)) rfl .fn rfl (by decide) (by kernel_rfl) rfl (fun _ => C0 rfl) (by simp)) ?_
   rintro _ _ ⟨_, _, _, ⟨rfl, rfl⟩, hF, hH⟩
   rw [hat, hq] at hF
   (refine NST hF hH ?_; clear hF hH; rintro rfl rfl)
   refine WE ?_
   refine aw_cond_f rfl ?_
   refine ZZ ?_
   refine WA ?_
   refine wk_of [] (fun _ => [(0, .c (I a)), (1, .c (I b)), (2, .c (.p pn [I n])), (3, .c (.p pa [.p p2 (gRow g o2)])), (7, .c (I (k + 1)))]) (fun _ => []) (by decide) (ZNL hE) ZCF (fun _ => .nil) (fun _ => ?_)
   exact ⟨m, by omega, k + 1, by omega, by omega, by simpa using hal, rfl, rfl⟩
  | false =>
   obtain rfl : P = false := by simpa using hal.symm
   refine ZR ?_
   refine ZA (rd_ldcp rfl (by kernel_rfl) rfl rfl) ?_
   refine WO ?_
   refine al_ef rfl (ef_call0 false (fun _ => at_v g p2 o2 a (b + k) hg ha (by omega)) rfl .fn rfl (by decide) (by kernel_rfl) rfl (fun _ => C0 rfl) (by simp)) ?_
   rintro _ _ ⟨_, _, _, ⟨rfl, rfl⟩, hF, hH⟩
   rw [hat, hq] at hF
   (refine NST hF hH ?_; clear hF hH; rintro rfl rfl)
   refine WE ?_
   refine aw_cond_t rfl ?_
   refine WA ?_
   exact aret_1 [] _ rfl rfl rfl (by decide) (ZNK rfl) (fun _ => .nil) ⟨rfl, rfl⟩
 obtain rfl : m = 0 := by omega
 obtain rfl : P = true := hal.symm
 refine ZZ ?_
 refine WA ?_
 exact aret_1 [] _ rfl rfl rfl (by decide) (ZNK rfl) (fun _ => .nil) ⟨rfl, rfl⟩
set_option maxHeartbeats 1000000 in
theorem each_shrunk (g : Grd) (pv v : Value) (n : Nat) (hnn : n ≤ 20) (L : List Spot) (hat : ∀ a b, atG g a b = decide ((a, b) ∈ L)) (hg : GOk g)  : ACalls Tryz.prog 95 [gV pv v g, .f (.func 261) [.p 0 0 0, .p 1 0 0, .p 2 0 0]] [.box [.c (I n)], .box [gV pv v g], .box [.p 3 0 0], gB g.st g.x g.y g.w g.h 4 (g.w * g.h), gArr (g.w * g.h) (filK g (rowP n L) 0)] fun u H => u = .t [] ∧ H = [.box [.c (I n)], .box [gV pv v g], .box [.p 3 0 0], gB g.st g.x g.y g.w g.h 4 (g.w * g.h), gArr (g.w * g.h) (filG g (rowP n L)).on] := by
 have hn := hg.n
 have hgx := hg.x
 have hgy := hg.y
 have eo : (oR g.on).length = g.on.length := by simp
 refine acallsx_of false (N := 42) Tryz.func95 rfl rfl (by simp) fun E hE hP => ?_
 refine WA ?_
 refine aw_loopw (fun m F H => ∃ k : Nat, m + k = g.on.length ∧ F = [(0, gV pv v g), (1, .f (.func 261) [.p 0 0 0, .p 1 0 0, .p 2 0 0]), (9, .c (.r v (oR g.on))), (10, .c (I (oR g.on).length)), (11, .c (I k))] ∧ H = [.box [.c (I n)], .box [gV pv v g], .box [.p 3 0 0], gB g.st g.x g.y g.w g.h 4 (g.w * g.h), gArr (g.w * g.h) (filK g (rowP n L) k)]) ?_ ?_
 ·refine wk_of [some 0, some 1, some 2, some 3, some 4] (fun _ => [(0, gV pv v g), (1, .f (.func 261) [.p 0 0 0, .p 1 0 0, .p 2 0 0]), (9, .c (.r v (oR g.on))), (10, .c (I (oR g.on).length)), (11, .c (I (0 : Nat)))]) (fun _ => [.box [.c (I n)], .box [gV pv v g], .box [.p 3 0 0], gB g.st g.x g.y g.w g.h 4 (g.w * g.h), gArr (g.w * g.h) (filK g (rowP n L) 0)]) (by decide) (ZNL hE) ZCF ZCH (fun _ => ?_)
  exact ⟨g.on.length, 0, by omega, rfl, rfl⟩
 rintro m F H ⟨k, hk, rfl, rfl⟩
 refine WA ?_
 refine aw_if rfl (fun hlt => ?_) (fun hge => ?_)
 ·have hkn : k < g.on.length := by omega
  obtain ⟨b, hb⟩ : ∃ b, g.on[k]? = some b := ⟨_, List.getElem?_eq_getElem hkn⟩
  have hrow : (oR g.on)[k]? = some [B b] := by rw [List.getElem?_map, hb]; rfl
  obtain ⟨w1, ⟨w2, w3⟩, w4, w5⟩ := each_at hg hkn
  refine WA ?_
  refine WA ?_
  cases b with
  | true =>
   refine aw_cond_t rfl ?_
   have hnx : filK g (rowP n L) (k + 1) = if rowP n L (spt g k) = true then (filK g (rowP n L) k).set k true else filK g (rowP n L) k := by rw [filK_next hb, Bool.true_and]
   refine ZZ ?_
   refine aw_regionT [(0, none), (1, none), (2, none), (3, none), (4, none), (5, none), (6, none), (7, none), (8, none), (9, none), (10, none), (11, none), (12, none), (13, none), (14, none), (15, none), (16, none), (17, none), (18, none), (19, none), (20, none), (21, none), (22, none), (23, some [])] hMixed (by kernel_rfl) ?_
   refine WP ?_
   refine at_ef rfl rfl (ef_call [0, 1, 2, 3, 4] (fun _ => [.box [.c (I n)], .box [gV pv v g], .box [.p 3 0 0], gB g.st g.x g.y g.w g.h 4 (g.w * g.h), gArr (g.w * g.h) (filK g (rowP n L) k)]) false (fun _ => shrunk1_v n hnn pv v L g hg hat (filK g (rowP n L) k) k hkn (by rw [filK_len (by omega)]; exact hg.len) _ _ rfl rfl) rfl (.clo rfl) rfl (by decide) (by kernel_rfl) rfl ZCH (by decide) ZCH (by simp)) ?_
   rintro F1 H1 ⟨_, _, _, _, ⟨rfl, rfl⟩, hF, hH⟩
   rw [spt_eq, ← hnx] at hH
   (refine NSU hF hH ?_; clear hF hH; rintro rfl rfl)
   refine ⟨ag_none, ?_⟩
   refine WQ ?_
   refine WA ?_
   refine wk_of [some 0, some 1, some 2, some 3, some 4] (fun _ => [(0, gV pv v g), (1, .f (.func 261) [.p 0 0 0, .p 1 0 0, .p 2 0 0]), (9, .c (.r v (oR g.on))), (10, .c (I (oR g.on).length)), (11, .c (I (k + 1 : Nat)))]) (fun _ => [.box [.c (I n)], .box [gV pv v g], .box [.p 3 0 0], gB g.st g.x g.y g.w g.h 4 (g.w * g.h), gArr (g.w * g.h) (filK g (rowP n L) (k + 1))]) (by decide) (ZNL hE) ZCF ZCH (fun _ => ?_)
   exact ⟨m - 1, by omega, k + 1, by omega, rfl, rfl⟩
  | false =>
   refine aw_cond_f rfl ?_
   refine ZZ ?_
   refine WA ?_
   refine wk_of [some 0, some 1, some 2, some 3, some 4] (fun _ => [(0, gV pv v g), (1, .f (.func 261) [.p 0 0 0, .p 1 0 0, .p 2 0 0]), (9, .c (.r v (oR g.on))), (10, .c (I (oR g.on).length)), (11, .c (I (k + 1 : Nat)))]) (fun _ => [.box [.c (I n)], .box [gV pv v g], .box [.p 3 0 0], gB g.st g.x g.y g.w g.h 4 (g.w * g.h), gArr (g.w * g.h) (filK g (rowP n L) (k + 1))]) (by decide) (ZNL hE) ZCF (by rw [show filK g (rowP n L) (k + 1) = filK g (rowP n L) k by rw [filK_next hb, if_neg (by simp)]]; exact ZCH) (fun _ => ?_)
   exact ⟨m - 1, by omega, k + 1, by omega, rfl, rfl⟩
 obtain rfl : k = g.on.length := by omega
 refine ZZ ?_
 rw [filK_end]
 exact aret_0 [some 0, some 1, some 2, some 3, some 4] (fun _ => [.box [.c (I n)], .box [gV pv v g], .box [.p 3 0 0], gB g.st g.x g.y g.w g.h 4 (g.w * g.h), gArr (g.w * g.h) (filG g (rowP n L)).on]) (.inr rfl) rfl (by decide) (ZNK rfl) ZCH (fun _ => ⟨rfl, rfl⟩)
end Go.Proofs.YtniolldgidgffaaGreatDoor
