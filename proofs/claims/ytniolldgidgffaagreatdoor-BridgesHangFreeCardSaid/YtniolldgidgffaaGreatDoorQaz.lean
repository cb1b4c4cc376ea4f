/- The reference's fault of cells is the program's: plain. -/
import Derived.Test.YtniolldgidgffaaGreatDoorQay
import Derived.Test.YtniolldgidgffaaGreatDoorQau
set_option linter.unusedSimpArgs false
set_option linter.unusedVariables false
/- The cells of a grid that a function chooses, by value: chosen. -/
-- NEWM
namespace Go.Proofs.YtniolldgidgffaaGreatDoor
open Go Go.RowKit
set_option maxRecDepth 100000
theorem frzpL {g : AV → Value} {m : List (Option Nat)} {H : List OB} {b : Nat} {l : List AV} {row : List CV} (h : H[b]? = some (.box l)) (hm : m.contains (some b) = false) (hc : CvL g m H true l (row.map .c)) : Cvt g m H true (.p b 0 0) (.c (.p (g (.p b 0 0)) row)) :=
 .frzp rfl h (by have := hc.both.1; simpa using this) (fun i x u hx hu => hc.both.2 i x (.c u) hx (by rw [List.getElem?_map, hu]; rfl)) hm
theorem frzG {f : AV → Value} {m : List (Option Nat)} {H : List OB} {b k n : Nat} {g : Grd} (h : H[b]? = some (gB g.st g.x g.y g.w g.h k n)) (ha : H[k]? = some (gArr n g.on)) (hn : g.on.length = n) (hm : m.contains (some b) = false) (hk : m.contains (some k) = false) : Cvt f m H true (.p b 0 0) (gV (f (.p b 0 0)) (f (.o k 0 n n)) g) :=
 frzpL h hm (.cons (.c rfl) (.cons (.c rfl) (.cons (.c rfl) (.cons (.c rfl) (.cons (.c rfl) (.cons (.frz rfl ha (by rw [← hn, oR_take]) (by rw [List.length_map]; exact hn) hk) .nil))))))
theorem filG_ok {g : Grd} (hg : GOk g) (p : Spot → Bool) : GOk (filG g p) := by
 have hl : (filG g p).on.length = g.on.length := by simp [filG]
 exact ⟨by rw [hl]; exact hg.len, hg.w, hg.h, hg.x, hg.y⟩
set_option maxHeartbeats 2000000 in
theorem chosen_v (fn : FuncId) (fv : Fn) (e : CV) (A : List AV → List AV) (p : Spot → Bool) (hfn : okFn Tryz.prog fn = true) (hcal : ∀ (F : Fm) (x : Operand) (vs : List AV), ev F x = some (.f fv [.c e]) → Callee' F x fn vs (A vs)) (hA : ∀ a b : Int, AV.cloL (A [.c (I a), .c (I b)]) = true) (hp : ∀ a b : Int, (-20000000 ≤ a ∧ a ≤ 20000000) → (-20000000 ≤ b ∧ b ≤ 20000000) → ACalls Tryz.prog fn (A [.c (I a), .c (I b)]) [] fun u H => u = .c (B (p (a, b))) ∧ H = []) (g : Grd) (pv v : Value) (hg : GOk g) (hst : 0 ≤ g.st ∧ g.st ≤ 10000) : ACalls Tryz.prog 123 [gV pv v g, .f fv [.c e]] [] fun u H => ∃ v', u = .t [celA v' (normC g.st (covG (filG g p))).1, .c (I (normC g.st (covG (filG g p))).2)] ∧ H = [] := by
 have hgx := hg.x
 have hgy := hg.y
 have hgw := hg.w
 have hgh := hg.h
 refine acalls_of (N := 35) Tryz.func123 rfl rfl (by simp) fun E hE => ?_
 refine WA ?_
 refine aw_cut (fun F H => F = [(0, gV pv v g), (3, .p 0 0 0), (4, .p 1 0 0), (6, .p 4 0 0)] ∧ H = [.box [.f fv [.c e]], .box [.c (I 0), .c (I 0), .c (I 0), .c (.r (.slice none 0 0) [])], gB g.st g.x g.y g.w g.h 3 (g.w * g.h), gArr (g.w * g.h) (filK g p 0), .box [.p 2 0 0]]) ?_ ?_ wk_aw
 ·have hf0 : filK g p 0 = List.replicate (g.w * g.h) false := by rw [filK_0, hg.len]
  refine ZZ ?_
  refine aw_regionM [[(0, none), (1, none), (2, none), (3, none), (4, none), (5, none), (6, none), (7, none), (8, none), (9, none), (10, none), (11, none), (12, none), (13, none), (14, none), (15, none), (16, none), (17, none), (18, none), (19, none), (20, some []), (21, some [0, 1, 2, 3, 4, 5, 6, 7, 8, 9, 10, 11, 12, 13, 14, 15, 16, 17, 18, 19]), (22, some [])], [(0, none), (1, none), (2, none), (3, none), (4, none), (5, none), (6, none), (7, none), (8, none), (9, none), (10, none), (11, none), (12, none), (13, none), (14, none), (15, none), (16, none), (17, none), (18, none), (19, none), (21, some [0, 1, 2, 3, 4, 5, 6, 7, 8, 9, 10, 11, 12, 13, 14, 15, 16, 17, 18, 19]), (20, some []), (22, some [])]] hMixed (by kernel_rfl) ?_
  focus
   refine WM ?_
   refine am_two (by rfl) (by rfl) (by rfl) ?_ ?_
   rotate_left
   refine WM ?_
   refine am_ef (i := 20) (by rfl) (by rfl) rfl rfl (ef_call0 false (fun _ => newgrid_v g.st g.x g.y g.w g.h hg.w hg.h) rfl .fn rfl (by decide) (by kernel_rfl) rfl (fun _ => C0 rfl) (by simp)) ?_
   rintro _ _ ⟨_, _, _, ⟨rfl, rfl⟩, hF, hH⟩
   (refine NST hF hH ?_; clear hF hH; rintro rfl rfl)
   refine ⟨AGX, ?_⟩
   refine WN ?_
   rotate_right
   refine am_ef (i := 20) (by rfl) (by rfl) rfl rfl (ef_call0 false (fun _ => newgrid_v g.st g.x g.y g.w g.h hg.w hg.h) rfl .fn rfl (by decide) (by kernel_rfl) rfl (fun _ => C0 rfl) (by simp)) ?_
   rintro _ _ ⟨_, _, _, ⟨rfl, rfl⟩, hF, hH⟩
   (refine NST hF hH ?_; clear hF hH; rintro rfl rfl)
   refine ⟨AGX, ?_⟩
   refine WN ?_
  ·exact wk_of [some 0, some 1, some 2, some 3, some 4] (fun _ => [(0, gV pv v g), (3, .p 0 0 0), (4, .p 1 0 0), (6, .p 4 0 0)]) (fun _ => [.box [.f fv [.c e]], .box [.c (I 0), .c (I 0), .c (I 0), .c (.r (.slice none 0 0) [])], gB g.st g.x g.y g.w g.h 3 (g.w * g.h), gArr (g.w * g.h) (filK g p 0), .box [.p 2 0 0]]) (by decide) (ZNL hE) ZCF (by rw [hf0]; exact ZCH) (fun _ => ⟨rfl, rfl⟩)
  ·exact wk_of [some 0, some 1, some 3, some 4, some 2] (fun _ => [(0, gV pv v g), (3, .p 0 0 0), (4, .p 1 0 0), (6, .p 4 0 0)]) (fun _ => [.box [.f fv [.c e]], .box [.c (I 0), .c (I 0), .c (I 0), .c (.r (.slice none 0 0) [])], gB g.st g.x g.y g.w g.h 3 (g.w * g.h), gArr (g.w * g.h) (filK g p 0), .box [.p 2 0 0]]) (by decide) (ZNL hE) ZCF (by rw [hf0]; exact ZCH) (fun _ => ⟨rfl, rfl⟩)
 rintro F H ⟨rfl, rfl⟩
 refine ZZ ?_
 refine WR ?_
 refine al_ef rfl (ef_call [0, 4, 2, 3] (fun _ => [.box [.f fv [.c e]], .box [.p 2 0 0], gB g.st g.x g.y g.w g.h 3 (g.w * g.h), gArr (g.w * g.h) (filK g p 0)]) false (fun _ => each_chosen g pv v fn fv e A p hfn hcal hA hp hg) rfl .fn rfl (by decide) (by kernel_rfl) rfl ZCH (by decide) ZCH (by simp)) ?_
 rintro F1 H1 ⟨_, _, _, _, ⟨rfl, rfl⟩, hF, hH⟩
 (refine NSU hF hH ?_; clear hF hH; rintro rfl rfl)
 refine WE ?_
 refine aw_wk (wk_of (K := fun F H => ∃ pv1 v1, F = [(4, .p 0 0 0), (6, .p 1 0 0)] ∧ H = [.box [.c (I 0), .c (I 0), .c (I 0), .c (.r (.slice none 0 0) [])], .box [gV pv1 v1 (filG g p)]]) [some 1, some 4] (fun _ => [(4, .p 0 0 0), (6, .p 1 0 0)]) (fun f => [.box [.c (I 0), .c (I 0), .c (I 0), .c (.r (.slice none 0 0) [])], .box [gV (f (.p 2 0 0)) (f (.o 3 0 (g.w * g.h) (g.w * g.h))) (filG g p)]]) (by decide) (ZNL hE) ZCF (fun _ => .box rfl (C0 rfl) (.box rfl (.cons (frzG rfl rfl (by simp [filG, hg.len]) rfl rfl) .nil) .nil)) (fun _ => ⟨_, _, rfl, rfl⟩)) ?_
 rintro F H ⟨pv1, v1, rfl, rfl⟩
 refine WR ?_
 refine al_ef rfl (ef_call0 false (fun _ => cells_v (filG g p) pv1 v1 (filG_ok hg p) hst) rfl .fn rfl (by decide) (by kernel_rfl) rfl (fun _ => C0 rfl) (by simp)) ?_
 rintro _ _ ⟨_, _, _, ⟨v2, rfl, rfl⟩, hF, hH⟩
 (refine NST hF hH ?_; clear hF hH; rintro rfl rfl)
 refine WE ?_
 exact aret_of (us := [celA v2 (normC g.st (covG (filG g p))).1, .c (I (normC g.st (covG (filG g p))).2)]) [] (fun _ => .t [celA v2 (normC g.st (covG (filG g p))).1, .c (I (normC g.st (covG (filG g p))).2)]) (fun _ => []) (.cella (n := 4) rfl (by kernel_rfl) (Cells.box rfl) (by simp) (by (try simp only [nm, putL, Nat.reduceAdd, cellsOf, cvOf]) <;> rfl) (.tmp rfl .nil)) (by decide) (fun i hi => absurd hi (Nat.not_lt_zero i)) (fun g' => .tL (.cons (.aL (.cons (.c rfl) (.cons (.c rfl) (.cons (.c rfl) (.cons (.c rfl) .nil))))) (.cons (.c rfl) .nil))) (fun _ => .nil) (fun g' => ⟨v2, rfl, rfl⟩)
end Go.Proofs.YtniolldgidgffaaGreatDoor

/- Pairs of grids; the cells of one that are not of another one; of both, by value. -/
-- NEWM
namespace Go.Proofs.YtniolldgidgffaaGreatDoor
open Go Go.RowKit
set_option maxRecDepth 100000
theorem check_r (v : Value) (c : Cel) (h : RCel c) : ACalls Tryz.prog 65 [celA v c] [] fun u H => u = .c (I 0) ∧ H = [] := by
 have hh := h.h
 have hw := h.w
 have := check_v v c (by omega) (fun r hr => by rw [(h.row r hr).1]; omega)
 rw [celF_0.2 h] at this
 exact this
abbrev celR (v : Value) (c : Cel) : List CV := [I c.st, I c.x, I c.y, .r v (tR c.rows)]
set_option maxHeartbeats 2000000 in
theorem pair_v (va vb : Value) (ca cb : Cel) (ha : RCel ca) (hb : RCel cb) (hs : ca.st = cb.st) : ACalls Tryz.prog 120 [celA va ca, celA vb cb] [] fun u H => ∃ p1 o1 p2 o2, u = .t [gV p1 o1 (grdOf ca), gV p2 o2 (grdOf cb), .c (I 0)] ∧ H = [] := by
 refine acalls_of (N := 33) Tryz.func120 rfl rfl (by simp) fun E hE => ?_
 refine WA ?_
 refine WA ?_
 refine aw_loopw (fun m F H => ∃ k : Nat, m + k = 2 ∧ F = [(2, .p 0 0 0), (3, .p 1 0 0), (12, .o 2 0 2 2), (13, .c (I 2)), (14, .c (I k))] ∧ H = [celB va ca, celB vb cb, .arr 28 4 2 [celR va ca, celR vb cb]]) ?_ ?_
 ·refine wk_of [some 0, some 1, some 2] (fun _ => [(2, .p 0 0 0), (3, .p 1 0 0), (12, .o 2 0 2 2), (13, .c (I 2)), (14, .c (I (0 : Nat)))]) (fun _ => [celB va ca, celB vb cb, .arr 28 4 2 [celR va ca, celR vb cb]]) (by decide) (ZNL hE) ZCF ZCH (fun _ => ?_)
  exact ⟨2, 0, by omega, rfl, rfl⟩
 rintro m F H ⟨k, hk, rfl, rfl⟩
 refine WA ?_
 refine aw_if rfl (fun hlt => ?_) (fun hge => ?_)
 ·obtain ⟨w, c, hrow, hc⟩ : ∃ w c, [celR va ca, celR vb cb][k]? = some (celR w c) ∧ RCel c := by
   obtain rfl | rfl : k = 0 ∨ k = 1 := by omega
   ·exact ⟨va, ca, rfl, ha⟩
   ·exact ⟨vb, cb, rfl, hb⟩
  refine WA ?_
  refine WR ?_
  refine al_ef rfl (ef_call0 false (fun _ => check_r w c hc) rfl .fn rfl (by decide) (by kernel_rfl) rfl (fun _ => C0 rfl) (by simp)) ?_
  rintro _ _ ⟨_, _, _, ⟨rfl, rfl⟩, hF, hH⟩
  (refine NST hF hH ?_; clear hF hH; rintro rfl rfl)
  refine WE ?_
  refine WA ?_
  refine aw_cond_f rfl ?_
  refine ZZ ?_
  refine WA ?_
  refine wk_of [some 0, some 1, some 2] (fun _ => [(2, .p 0 0 0), (3, .p 1 0 0), (12, .o 2 0 2 2), (13, .c (I 2)), (14, .c (I (k + 1 : Nat)))]) (fun _ => [celB va ca, celB vb cb, .arr 28 4 2 [celR va ca, celR vb cb]]) (by decide) (ZNL hE) ZCF ZCH (fun _ => ?_)
  exact ⟨m - 1, by omega, k + 1, by omega, rfl, rfl⟩
 refine ZZ ?_
 refine WA ?_
 refine aw_cond_f rfl ?_
 refine ZZ ?_
 refine aw_regionT [(0, none), (2, none), (1, some [2]), (3, some []), (4, none), (5, none), (6, none)] hMixed (by kernel_rfl) ?_
 refine WP ?_
 refine at_ef rfl rfl (ef_call0 false (fun _ => gridof_v va ca ha) rfl .fn rfl (by decide) (by kernel_rfl) rfl (fun _ => C0 rfl) (by simp)) ?_
 rintro _ _ ⟨_, _, _, ⟨p1, o1, rfl, rfl⟩, hF, hH⟩
 (refine NST hF hH ?_; clear hF hH; rintro rfl rfl)
 refine ⟨ag_cons (by first | exact ag_rd rfl rfl rfl (ZK (KK (t := 28) rfl)) rfl) (ag_none), ?_⟩
 refine at_ef rfl rfl (ef_call0 false (fun _ => gridof_v vb cb hb) rfl .fn rfl (by decide) (by kernel_rfl) rfl (fun _ => C0 rfl) (by simp)) ?_
 rintro _ _ ⟨_, _, _, ⟨p2, o2, rfl, rfl⟩, hF, hH⟩
 (refine NST hF hH ?_; clear hF hH; rintro rfl rfl)
 refine ⟨ag_none, ?_⟩
 refine WQ ?_
 all_goals (exact aret_of (us := [gV p1 o1 (grdOf ca), gV p2 o2 (grdOf cb), .c (I 0)]) [] (fun _ => .t [gV p1 o1 (grdOf ca), gV p2 o2 (grdOf cb), .c (I 0)]) (fun _ => []) (.tmp rfl (.tmp rfl (.tmp rfl .nil))) (by decide) (fun i hi => absurd hi (Nat.not_lt_zero i)) (fun g' => .tL (.cons (.c rfl) (.cons (.c rfl) (.cons (.c rfl) .nil)))) (fun _ => .nil) (fun g' => ⟨p1, o1, p2, o2, rfl, rfl⟩))
end Go.Proofs.YtniolldgidgffaaGreatDoor

/- The cells of one that are not of another one; of both, by value. -/
-- NEWM
namespace Go.Proofs.YtniolldgidgffaaGreatDoor
open Go Go.RowKit
set_option maxRecDepth 100000
theorem grdOf_st (c : Cel) : (grdOf c).st = c.st := by unfold grdOf; split <;> rfl
abbrev minL (A B : List Spot) : List Spot := A.filter fun q => !decide (q ∈ B)
theorem normC_fil {c : Cel} (h : RCel c) {p : Spot → Bool} {L : List Spot} (hL : ∀ q, q ∈ L ↔ q ∈ covL c ∧ p q = true) : normC (grdOf c).st (covG (filG (grdOf c) p)) = normC c.st L := by
 rw [grdOf_st]
 exact normC_mem fun q => by rw [filG_cov, grdOf_cov h, hL]
theorem at_cov {c : Cel} (h : RCel c) (a b : Int) : atG (grdOf c) a b = decide ((a, b) ∈ covL c) := by
 rw [atG_eq (grdOf_len h)]
 simp only [grdOf_cov h]
theorem minus1_v (pv p2 o2 : Value) (c : Cel) (h : RCel c) (a b : Int) (ha : -100000000 ≤ a ∧ a ≤ 100000000) (hb : -100000000 ≤ b ∧ b ≤ 100000000) : ACalls Tryz.prog 129 [.c (I a), .c (I b), .c (.p pv [.p p2 (gRow (grdOf c) o2)])] [] fun u H => u = .c (B (!decide ((a, b) ∈ covL c))) ∧ H = [] := by
 refine acalls_of (N := 11) Tryz.func129 rfl rfl (by simp) fun E hE => ?_
 repeat' (first
  | (with_reducible refine aw_seq ?_) | (with_reducible refine aseq_n ?_) | (with_reducible refine aseq_r ?_) | (with_reducible refine ablk_n ?_) | (with_reducible refine ablk_r ?_) | (with_reducible refine ablk_e ?_) | (with_reducible refine ablk_o rfl ?_) | (with_reducible refine aseq_e ?_) | (with_reducible refine aw_skip ?_) | (with_reducible refine aw_block ?_) | (with_reducible refine aw_ret ?_) | (with_reducible refine aw_exit ?_)
  | refine aw_cond_t rfl ?_ | refine aw_cond_f rfl ?_ | refine aw_if_t rfl (by assumption) ?_ | refine aw_if_f rfl (by assumption) ?_ | refine aw_if rfl (fun _ => ?_) (fun _ => ?_) | refine aw_cond rfl (fun _ => ?_) (fun _ => ?_)
  | (refine aw_region (id := 1) ?_
     refine ZA (rd_ldcp rfl (by kernel_rfl) rfl rfl) ?_
     refine WO ?_
     refine al_ef rfl (ef_call0 false (fun _ => at_v (grdOf c) p2 o2 a b (grdOf_ok h) ha hb) rfl .fn rfl (by decide) (by kernel_rfl) rfl (fun _ => C0 rfl) (by simp)) ?_
     rintro _ _ ⟨_, _, _, ⟨rfl, rfl⟩, hF, hH⟩
     (refine NST hF hH ?_; clear hF hH; rintro rfl rfl)
     refine WE ?_)
  | (refine aw_region ?_; refine WE ?_))
 exact aret_1 [] _ rfl rfl rfl (by decide) (ZNK rfl) (fun _ => .nil) ⟨congrArg (fun z => AV.c (B (!z))) (at_cov h a b), rfl⟩
set_option maxHeartbeats 2000000 in
theorem minus_v (va vb : Value) (ca cb : Cel) (ha : RCel ca) (hb : RCel cb) (hs : ca.st = cb.st) : ACalls Tryz.prog 52 [celA va ca, celA vb cb] [] fun u H => ∃ v', u = .t [celA v' (normC ca.st (minL (covL ca) (covL cb))).1, .c (I (normC ca.st (minL (covL ca) (covL cb))).2)] ∧ H = [] := by
 have hst := ha.st
 have hnf := normC_fil ha (p := fun q => !decide (q ∈ covL cb)) (L := minL (covL ca) (covL cb)) (fun q => by rw [List.mem_filter])
 generalize normC ca.st (minL (covL ca) (covL cb)) = R at *
 refine acalls_of (N := 25) Tryz.func52 rfl rfl (by simp) fun E hE => ?_
 refine WA ?_
 refine WR ?_
 refine al_ef rfl (ef_call0 false (fun _ => pair_v va vb ca cb ha hb hs) rfl .fn rfl (by decide) (by kernel_rfl) rfl (fun _ => C0 rfl) (by simp)) ?_
 rintro _ _ ⟨_, _, _, ⟨p1, o1, p2, o2, rfl, rfl⟩, hF, hH⟩
 (refine NST hF hH ?_; clear hF hH; rintro rfl rfl)
 refine WE ?_
 refine WA ?_
 refine aw_cond_f rfl ?_
 refine ZZ ?_
 refine aw_wk (wk_of (K := fun F H => ∃ pv, F = [(4, .p 0 0 0), (6, gV p1 o1 (grdOf ca)), (7, .c (.p pv [.p p2 (gRow (grdOf cb) o2)]))] ∧ H = [.box [.c (I 0), .c (I 0), .c (I 0), .c (.r (.slice none 0 0) [])]]) [some 2] (fun f => [(4, .p 0 0 0), (6, gV p1 o1 (grdOf ca)), (7, .c (.p (f (.p 3 0 0)) [.p p2 (gRow (grdOf cb) o2)]))]) (fun _ => [.box [.c (I 0), .c (I 0), .c (I 0), .c (.r (.slice none 0 0) [])]]) (by decide) (ZNL hE) (fun _ => .cons rfl (.p rfl) (.cons rfl (.c rfl) (.cons rfl (frzpL rfl rfl (.cons (.c rfl) .nil)) .nil))) ZCH (fun _ => ⟨_, rfl, rfl⟩)) ?_
 rintro F H ⟨pv, rfl, rfl⟩
 refine WR ?_
 refine al_ef rfl (ef_call0 false (fun _ => chosen_v 129 (.func 129) (.p pv [.p p2 (gRow (grdOf cb) o2)]) (fun (vs : List AV) => vs ++ [AV.c (CV.p pv [CV.p p2 (gRow (grdOf cb) o2)])]) (fun q => !decide (q ∈ covL cb)) (by kernel_rfl) (fun F x vs h => .clo h) (fun _ _ => rfl) (fun a b h1 h2 => minus1_v pv p2 o2 cb hb a b (by omega) (by omega)) (grdOf ca) p1 o1 (grdOf_ok ha) (by rw [grdOf_st]; omega)) rfl .fn rfl (by decide) (by kernel_rfl) rfl (fun _ => C0 rfl) (by simp)) ?_
 rintro _ _ ⟨_, _, _, ⟨v', rfl, rfl⟩, hF, hH⟩
 rw [hnf] at hF
 (refine NST hF hH ?_; clear hF hH; rintro rfl rfl)
 refine WE ?_
 exact aret_of (us := [celA v' R.1, .c (I R.2)]) [] (fun _ => .t [celA v' R.1, .c (I R.2)]) (fun _ => []) (.cella (n := 4) rfl (by kernel_rfl) (Cells.box rfl) (by simp) (by (try simp only [nm, putL, Nat.reduceAdd, cellsOf, cvOf]) <;> rfl) (.tmp rfl .nil)) (by decide) (fun i hi => absurd hi (Nat.not_lt_zero i)) (fun g' => .tL (.cons (.aL (.cons (.c rfl) (.cons (.c rfl) (.cons (.c rfl) (.cons (.c rfl) .nil))))) (.cons (.c rfl) .nil))) (fun _ => .nil) (fun g' => ⟨v', rfl, rfl⟩)
end Go.Proofs.YtniolldgidgffaaGreatDoor

/- The reference's fault of cells is the program's: plain. -/
namespace Go.Proofs.YtniolldgidgffaaGreatDoor
theorem hit_of {c : Cel} {i k : Nat} {r : List UInt8} (h1 : c.rows[i]? = some r) (h2 : r[k]? = some 35) : ((c.x.tdiv c.st + (k : Nat), c.y.tdiv c.st + (i : Nat)) : Spot) ∈ covL c := hitC_mem.2 ⟨i, k, r, h1, h2, rfl⟩
def spanB (c : Cel) : Bool := decide (covL c ≠ []) && decide (x0 (covL c) = c.x.tdiv c.st) && decide (y0 (covL c) = c.y.tdiv c.st) && decide (x1 (covL c) = c.x.tdiv c.st + (wid c.rows : Int) - 1) && decide (y1 (covL c) = c.y.tdiv c.st + (c.rows.length : Int) - 1)
theorem headD_at {α : Type} {l : List α} {d a : α} (h : l[0]? = some a) : l.headD d = a := by
 cases l with
 | nil => cases h
 | cons b l => simpa using h
theorem lastD_at {α : Type} {l : List α} {d a : α} {n : Nat} (hn : l.length = n + 1) (h : l[n]? = some a) : l.getLastD d = a := by
 have : l ≠ [] := by intro e; rw [e] at hn; cases hn
 rw [List.getLastD_eq_getLast?, List.getLast?_eq_getElem?, hn, Nat.add_sub_cancel, h]; rfl
theorem span_tight {c : Cel} (hr : ∀ r ∈ c.rows, r.length = wid c.rows) (hne : c.rows ≠ []) : spanB c = tightB c.rows := by
 obtain ⟨n, hn⟩ : ∃ n, c.rows.length = n + 1 := ⟨c.rows.length - 1, by have := List.length_pos_iff.2 hne; omega⟩
 obtain ⟨r0, h0⟩ : ∃ r, c.rows[0]? = some r := ⟨_, List.getElem?_eq_getElem (by omega)⟩
 obtain ⟨rn, hrn⟩ : ∃ r, c.rows[n]? = some r := ⟨_, List.getElem?_eq_getElem (by omega)⟩
 have hb : ∀ p ∈ covL c, ∃ (i k : Nat) (r : List UInt8), c.rows[i]? = some r ∧ r[k]? = some 35 ∧ i ≤ n ∧ k < wid c.rows ∧ p.1 = c.x.tdiv c.st + (k : Nat) ∧ p.2 = c.y.tdiv c.st + (i : Nat) := fun p hp => by
  obtain ⟨i, k, r, h1, h2, rfl⟩ := hitC_mem.1 hp
  have e1 := (List.getElem?_eq_some_iff.1 h1).1
  have e2 := (List.getElem?_eq_some_iff.1 h2).1
  rw [hr r (List.mem_of_getElem? h1)] at e2
  exact ⟨i, k, r, h1, h2, by omega, e2, rfl, rfl⟩
 have hT : tightB c.rows = (r0.contains 35 && rn.contains 35 && (c.rows.any fun r => r[0]? == some 35) && (c.rows.any fun r => r[wid c.rows - 1]? == some 35)) := by
  rw [tightB, headD_at h0, lastD_at hn hrn]
 rw [hT]
 by_cases hc : covL c = []
 ·have hno : r0.contains 35 = false := by
   cases e : r0.contains 35 with
   | false => rfl
   | true =>
    obtain ⟨k, hk⟩ := List.getElem?_of_mem (List.contains_iff_mem.1 e)
    have := hit_of h0 hk
    rw [hc] at this; cases this
  rw [hno]
  unfold spanB
  rw [decide_eq_false (by simp [hc])]
  rfl
 obtain ⟨⟨p1, hp1, e1⟩, ⟨p2, hp2, e2⟩, ⟨p3, hp3, e3⟩, ⟨p4, hp4, e4⟩⟩ := x0_at hc
 have k1 : decide (y0 (covL c) = c.y.tdiv c.st) = r0.contains 35 := by
  rw [Bool.eq_iff_iff, decide_eq_true_iff, List.contains_iff_mem]
  obtain ⟨i, k, r, q1, q2, q3, q4, q5, q6⟩ := hb p3 hp3
  constructor
  ·intro e
   obtain rfl : i = 0 := by omega
   rw [h0] at q1
   obtain rfl := Option.some.inj q1
   exact List.mem_of_getElem? q2
  ·intro h
   obtain ⟨k', hk'⟩ := List.getElem?_of_mem h
   have := (x0_le (hit_of h0 hk')).2.2.1
   simp only at this
   omega
 have k2 : decide (y1 (covL c) = c.y.tdiv c.st + (c.rows.length : Int) - 1) = rn.contains 35 := by
  rw [Bool.eq_iff_iff, decide_eq_true_iff, List.contains_iff_mem]
  obtain ⟨i, k, r, q1, q2, q3, q4, q5, q6⟩ := hb p4 hp4
  constructor
  ·intro e
   obtain rfl : i = n := by omega
   rw [hrn] at q1
   obtain rfl := Option.some.inj q1
   exact List.mem_of_getElem? q2
  ·intro h
   obtain ⟨k', hk'⟩ := List.getElem?_of_mem h
   have := (x0_le (hit_of hrn hk')).2.2.2
   simp only at this
   omega
 have k3 : decide (x0 (covL c) = c.x.tdiv c.st) = (c.rows.any fun r => r[0]? == some 35) := by
  rw [Bool.eq_iff_iff, decide_eq_true_iff, List.any_eq_true]
  obtain ⟨i, k, r, q1, q2, q3, q4, q5, q6⟩ := hb p1 hp1
  constructor
  ·intro e
   obtain rfl : k = 0 := by omega
   exact ⟨r, List.mem_of_getElem? q1, by rw [q2]; rfl⟩
  ·rintro ⟨r', hr', h⟩
   obtain ⟨i', hi'⟩ := List.getElem?_of_mem hr'
   have := (x0_le (hit_of hi' (by simpa using h))).1
   simp only at this
   omega
 have k4 : decide (x1 (covL c) = c.x.tdiv c.st + (wid c.rows : Int) - 1) = (c.rows.any fun r => r[wid c.rows - 1]? == some 35) := by
  rw [Bool.eq_iff_iff, decide_eq_true_iff, List.any_eq_true]
  obtain ⟨i, k, r, q1, q2, q3, q4, q5, q6⟩ := hb p2 hp2
  constructor
  ·intro e
   obtain rfl : k = wid c.rows - 1 := by omega
   exact ⟨r, List.mem_of_getElem? q1, by rw [q2]; rfl⟩
  ·rintro ⟨r', hr', h⟩
   obtain ⟨i', hi'⟩ := List.getElem?_of_mem hr'
   have := (x0_le (hit_of hi' (by simpa using h))).2.1
   simp only at this
   omega
 unfold spanB
 rw [decide_eq_true hc, k1, k2, k3, k4, Bool.true_and]
 generalize r0.contains 35 = b1
 generalize rn.contains 35 = b2
 generalize (c.rows.any fun r => r[0]? == some 35) = b3
 generalize (c.rows.any fun r => r[wid c.rows - 1]? == some 35) = b4
 revert b1 b2 b3 b4
 decide
def rowsR (rows : List (List UInt8)) : Int := if 200 < rows.length then 2 else if rowsF (wid rows) rows ≠ 0 then rowsF (wid rows) rows else if rows ≠ [] ∧ 200 < wid rows then 2 else 0
def celR2 (c : Cel) : Int :=
 if stepB c.st = true then 1
 else if c.rows = [] ∧ (c.x ≠ 0 ∨ c.y ≠ 0) then 3
 else if rowsR c.rows ≠ 0 then rowsR c.rows
 else if (farB c.x || farB c.y) = true then 1
 else if c.x.tmod c.st ≠ 0 ∨ c.y.tmod c.st ≠ 0 then 3
 else if c.rows = [] then 0
 else if spanB c = true then 0 else 3
theorem celR2_eq (c : Cel) : celR2 c = celF c := by
 unfold celR2 celF
 by_cases h1 : stepB c.st = true
 ·rw [if_pos h1, if_pos h1]
 rw [if_neg h1, if_neg h1]
 by_cases h2 : c.rows = [] ∧ (c.x ≠ 0 ∨ c.y ≠ 0)
 ·rw [if_pos h2, if_pos h2]
 rw [if_neg h2, if_neg h2]
 by_cases h3 : 200 < c.rows.length
 ·have : rowsR c.rows = 2 := by rw [rowsR, if_pos h3]
  rw [this, if_pos (by decide), if_pos h3]
 rw [if_neg h3]
 by_cases h4 : c.rows = []
 ·have hxy : c.x = 0 ∧ c.y = 0 := by
   refine ⟨?_, ?_⟩
   ·apply Classical.byContradiction; intro e; exact h2 ⟨h4, .inl e⟩
   ·apply Classical.byContradiction; intro e; exact h2 ⟨h4, .inr e⟩
  have : rowsR c.rows = 0 := by rw [h4]; rfl
  rw [this, hxy.1, hxy.2, if_pos h4, if_pos h4, if_neg (by decide), if_neg (by decide), if_neg (by simp)]
 rw [if_neg h4, if_neg h4]
 by_cases h5 : rowsF (wid c.rows) c.rows ≠ 0
 ·have : rowsR c.rows = rowsF (wid c.rows) c.rows := by rw [rowsR, if_neg h3, if_pos h5]
  rw [this, if_pos h5, if_pos h5]
 rw [if_neg h5]
 by_cases h6 : 200 < wid c.rows
 ·have : rowsR c.rows = 2 := by rw [rowsR, if_neg h3, if_neg h5, if_pos ⟨h4, h6⟩]
  rw [this, if_pos (by decide), if_pos h6]
 have : rowsR c.rows = 0 := by rw [rowsR, if_neg h3, if_neg h5, if_neg (fun h => h6 h.2)]
 rw [this, if_neg (by decide), if_neg h6]
 by_cases h7 : (farB c.x || farB c.y) = true
 ·rw [if_pos h7, if_pos h7]
 rw [if_neg h7, if_neg h7, span_tight (fun r hr => (rowsF_0.1 (by simpa using h5) r hr).1) h4]
 by_cases h8 : c.x.tmod c.st ≠ 0 ∨ c.y.tmod c.st ≠ 0
 ·rw [if_pos h8, if_pos (by rcases h8 with h | h <;> first | exact .inl h | exact .inr (.inl h))]
 rw [if_neg h8]
 cases ht : tightB c.rows with
 | true => rw [if_pos rfl, if_neg]; exact (fun h => by rcases h with h | h | h <;> first | exact h8 (.inl h) | exact h8 (.inr h) | simp at h)
 | false => rw [if_neg (by simp), if_pos (.inr (.inr rfl))]
end Go.Proofs.YtniolldgidgffaaGreatDoor
