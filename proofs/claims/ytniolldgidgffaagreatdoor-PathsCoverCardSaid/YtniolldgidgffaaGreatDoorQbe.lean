/- A way over a grid, by value: pass. -/
import Derived.Test.YtniolldgidgffaaGreatDoorQbd
set_option linter.unusedSimpArgs false
set_option linter.unusedVariables false
/- A way over a grid, by value: pass. -/
-- NEWM
-- NILC
namespace Go.Proofs.YtniolldgidgffaaGreatDoor
open Go Go.RowKit
set_option maxRecDepth 100000
set_option maxHeartbeats 4000000 in
theorem pass_v (g : Grd) (pv v : Value) (hg : GOk g) (hs : 1 ≤ g.st ∧ g.st ≤ 10000) (on : List Bool) (ho : on.length = g.w * g.h) (a b : Spot) (ha : (-2000000 ≤ a.1 ∧ a.1 ≤ 2000000) ∧ (-2000000 ≤ a.2 ∧ a.2 ≤ 2000000)) (hb : (-2000000 ≤ b.1 ∧ b.1 ≤ 2000000) ∧ (-2000000 ≤ b.2 ∧ b.2 ≤ 2000000)) : ACallsX true Tryz.prog 158 [gV pv v g, .p 0 0 0, .a [.c (I a.1), .c (I a.2)], .a [.c (I b.1), .c (I b.2)]] [gB g.st g.x g.y g.w g.h 1 (g.w * g.h), gArr (g.w * g.h) (on)] fun u H => ∃ on' : List Bool, u = .t [] ∧ H = [gB g.st g.x g.y g.w g.h 1 (g.w * g.h), gArr (g.w * g.h) (on')] ∧ on'.length = g.w * g.h ∧ ∀ q, q ∈ covG { g with on := on' } ↔ q ∈ covG { g with on := on } ∨ (q ∈ covG g ∧ onS a b (ctrS g.st q)) := by
 have ehf : wrap64 (g.st.tdiv 2) = g.st / 2 := by
  rw [Int.tdiv_eq_ediv_of_nonneg (by omega)]
  exact IntWalk.wrap64_in _ (by constructor <;> omega)
 have hhf : 0 ≤ g.st / 2 ∧ g.st / 2 ≤ 5000 := by omega
 have hgx := hg.x
 have hgy := hg.y
 have hgw := hg.w
 have hgh := hg.h
 have hmul : ∀ z : Int, -20000000 ≤ z ∧ z ≤ 20000000 → -200000000000 ≤ z * g.st ∧ z * g.st ≤ 200000000000 := fun z hz => by
  have h : (z * g.st).natAbs ≤ 20000000 * 10000 := by rw [Int.natAbs_mul]; exact Nat.mul_le_mul (by omega) (by omega)
  omega
 refine acallsx_of true (N := 151) Tryz.func158 rfl rfl (by simp) fun E hE hP => ?_
 refine WA ?_
 refine ZR ?_
 iterate 4 refine WX1 ?_
 refine ZA (rd_quoP (z := g.st / 2) rfl rfl rfl (by decide) ehf) ?_
 refine WE ?_
 refine aw_wk (wk_of (K := fun F H => ∃ p4 p6 p7 p8, F = [(4, .c (.p p4 [.p pv (gRow g v)])), (5, .p 2 0 0), (6, .c (.p p6 [I a.1, I a.2])), (7, .c (.p p7 [I b.1, I b.2])), (8, .c (.p p8 [I (g.st / 2)]))] ∧ H = [gB g.st g.x g.y g.w g.h 1 (g.w * g.h), gArr (g.w * g.h) (on), .box [.p 0 0 0]]) [some 0, some 1, some 3] (fun f => [(4, .c (.p (f (.p 2 0 0)) [.p pv (gRow g v)])), (5, .p 2 0 0), (6, .c (.p (f (.p 4 0 0)) [I a.1, I a.2])), (7, .c (.p (f (.p 5 0 0)) [I b.1, I b.2])), (8, .c (.p (f (.p 6 0 0)) [I (g.st / 2)]))]) (fun _ => [gB g.st g.x g.y g.w g.h 1 (g.w * g.h), gArr (g.w * g.h) (on), .box [.p 0 0 0]]) (by decide) (ZNL hE) (fun _ => .cons rfl (frzpL rfl rfl (.cons (.c rfl) .nil)) (.cons rfl (.p rfl) (.cons rfl (frzpL rfl rfl (.cons (.c rfl) (.cons (.c rfl) .nil))) (.cons rfl (frzpL rfl rfl (.cons (.c rfl) (.cons (.c rfl) .nil))) (.cons rfl (frzpL rfl rfl (.cons (.c rfl) .nil)) .nil))))) ZCH (fun _ => ⟨_, _, _, _, rfl, rfl⟩)) ?_
 rintro F H ⟨p4, p6, p7, p8, rfl, rfl⟩
 refine WA ?_
 refine WA ?_
 refine aw_wk (wk_of (K := fun F H => F = [(4, .c (.p p4 [.p pv (gRow g v)])), (6, .c (.p p6 [I a.1, I a.2])), (7, .c (.p p7 [I b.1, I b.2])), (8, .c (.p p8 [I (g.st / 2)])), (9, .f (.func 210) [.c (.p p4 [.p pv (gRow g v)]), .p 2 0 0]), (10, .f (.func 212) [.c (.p p4 [.p pv (gRow g v)]), .c (.p p8 [I (g.st / 2)])])] ∧ H = [gB g.st g.x g.y g.w g.h 1 (g.w * g.h), gArr (g.w * g.h) (on), .box [.p 0 0 0]]) [some 0, some 1, some 2] (fun _ => [(4, .c (.p p4 [.p pv (gRow g v)])), (6, .c (.p p6 [I a.1, I a.2])), (7, .c (.p p7 [I b.1, I b.2])), (8, .c (.p p8 [I (g.st / 2)])), (9, .f (.func 210) [.c (.p p4 [.p pv (gRow g v)]), .p 2 0 0]), (10, .f (.func 212) [.c (.p p4 [.p pv (gRow g v)]), .c (.p p8 [I (g.st / 2)])])]) (fun _ => [gB g.st g.x g.y g.w g.h 1 (g.w * g.h), gArr (g.w * g.h) (on), .box [.p 0 0 0]]) (by decide) (ZNL hE) ZCF ZCH (fun _ => ⟨rfl, rfl⟩)) ?_
 rintro F H ⟨rfl, rfl⟩
 refine WA ?_
 refine aw_if rfl (fun hh => ?_) (fun hh => ?_)
 ·by_cases hce : a.2 / g.st * g.st + g.st / 2 = a.2
  ·have hcd : decide (a.2 / g.st * g.st + g.st / 2 = a.2) = true := decide_eq_true hce
   refine WR ?_
   refine al_ef rfl (ef_call0 false (fun _ => pass2_v g pv v p4 p8 hs a.2 (by omega)) rfl (.clo rfl) rfl (by decide) (by kernel_rfl) rfl (fun _ => C0 rfl) (by simp)) ?_
   rintro _ _ ⟨_, _, _, ⟨rfl, rfl⟩, hF, hH⟩
   rw [hcd] at hF
   (refine NST hF hH ?_; clear hF hH; rintro rfl rfl)
   refine WE ?_
   refine aw_cond_f rfl ?_
   refine ZZ ?_
   refine ZR ?_
   refine ZA (rd_ldcp rfl (by kernel_rfl) rfl rfl) ?_
   refine WE ?_
   refine aw_loopw (fun m F H => ∃ (k : Nat) (on1 : List Bool), m + k = g.w ∧ on1.length = g.w * g.h ∧ InvH g on a b k on1 ∧ F = [(4, .c (.p p4 [.p pv (gRow g v)])), (6, .c (.p p6 [I a.1, I a.2])), (7, .c (.p p7 [I b.1, I b.2])), (8, .c (.p p8 [I (g.st / 2)])), (9, .f (.func 210) [.c (.p p4 [.p pv (gRow g v)]), .p 2 0 0]), (10, .f (.func 212) [.c (.p p4 [.p pv (gRow g v)]), .c (.p p8 [I (g.st / 2)])]), (37, .c (I g.w)), (38, .c (I k))] ∧ H = [gB g.st g.x g.y g.w g.h 1 (g.w * g.h), gArr (g.w * g.h) (on1), .box [.p 0 0 0]]) ?_ ?_
   ·refine wk_of [some 0, some 1, some 2] (fun _ => [(4, .c (.p p4 [.p pv (gRow g v)])), (6, .c (.p p6 [I a.1, I a.2])), (7, .c (.p p7 [I b.1, I b.2])), (8, .c (.p p8 [I (g.st / 2)])), (9, .f (.func 210) [.c (.p p4 [.p pv (gRow g v)]), .p 2 0 0]), (10, .f (.func 212) [.c (.p p4 [.p pv (gRow g v)]), .c (.p p8 [I (g.st / 2)])]), (37, .c (I g.w)), (38, .c (I (0 : Nat)))]) (fun _ => [gB g.st g.x g.y g.w g.h 1 (g.w * g.h), gArr (g.w * g.h) (on), .box [.p 0 0 0]]) (by decide) (ZNL hE) ZCF ZCH (fun _ => ?_)
    exact ⟨g.w, 0, on, by omega, ho, invH_0 hg.len, rfl, rfl⟩
   rintro m F H ⟨k, on1, hk, hl1, hinv, rfl, rfl⟩
   refine WA ?_
   refine aw_if rfl (fun hlt => ?_) (fun hge => ?_)
   ·have hm := hmul (g.x + (k : Nat)) (by omega)
    have hst := fun q (hq : q.1 = g.x + (k : Nat)) => stepH (q := q) hs.1 hh hce hq
    have hcd1 := ctr_div (m := g.x + (k : Nat)) hs.1
    refine WA ?_
    refine ZZ ?_
    refine aw_regionT [(0, none), (1, none), (2, none), (3, none), (4, none), (5, none), (6, none), (7, none), (8, none), (9, none), (10, none), (11, none), (12, none), (13, none)] hMixed (by kernel_rfl) ?_
    refine ZT rfl (rd_ldcp rfl (by kernel_rfl) rfl rfl) ?_
    iterate 5 refine WX2 ?_
    refine ZT rfl (rd_ldcp rfl (by kernel_rfl) rfl rfl) ?_
    iterate 4 refine WX2 ?_
    refine ZT rfl (rd_ldcp rfl (by kernel_rfl) rfl rfl) ?_
    refine WQ ?_
    generalize hX : (g.x + (k : Nat)) * g.st + g.st / 2 = X at *
    by_cases h1 : min a.1 b.1 ≤ X
    ·by_cases h2 : X ≤ max a.1 b.1
     ·have hyes := invH_yes hg.len hl1 (p := (g.x + (k : Nat), a.2 / g.st)) hinv rfl (fun q _ hq => (hst q hq).trans ⟨fun h => h.1, fun h => ⟨h, h1, h2⟩⟩)
      have hln : (setQ g on1 (X / g.st, a.2 / g.st)).length = g.w * g.h := by rw [setQ_len, hl1]
      refine WA ?_
      refine aw_cond_t rfl ?_
      refine WR ?_
      refine al_ef rfl (ef_callp [0, 1, 2] (fun _ => [gB g.st g.x g.y g.w g.h 1 (g.w * g.h), gArr (g.w * g.h) on1, .box [.p 0 0 0]]) false (fun _ => pass1_v g pv v p4 hg hs on1 hl1 X a.2 (by omega) (by omega)) rfl (.clo rfl) rfl (by decide) (by kernel_rfl) rfl ZCH (by decide) ZCH (by simp)) ?_
      rintro F1 H1 ⟨_, _, _, _, ⟨rfl, rfl⟩, hF, hH⟩
      rw [killF_nil] at hF; (refine NSU hF hH ?_; clear hF hH; rintro rfl rfl)
      refine WE ?_
      refine WA ?_
      refine wk_of [some 0, some 1, some 2] (fun _ => [(4, .c (.p p4 [.p pv (gRow g v)])), (6, .c (.p p6 [I a.1, I a.2])), (7, .c (.p p7 [I b.1, I b.2])), (8, .c (.p p8 [I (g.st / 2)])), (9, .f (.func 210) [.c (.p p4 [.p pv (gRow g v)]), .p 2 0 0]), (10, .f (.func 212) [.c (.p p4 [.p pv (gRow g v)]), .c (.p p8 [I (g.st / 2)])]), (37, .c (I g.w)), (38, .c (I (k + 1 : Nat)))]) (fun _ => [gB g.st g.x g.y g.w g.h 1 (g.w * g.h), gArr (g.w * g.h) (setQ g on1 (X / g.st, a.2 / g.st)), .box [.p 0 0 0]]) (by decide) (ZNL hE) ZCF ZCH (fun _ => ?_)
      exact ⟨m - 1, by omega, k + 1, _, by omega, hln, by rw [hcd1]; exact hyes, rfl, rfl⟩
     ·have hno := invH_no hinv (fun q _ hq h => h2 ((hst q hq).1 h).2.2)
      refine WA ?_
      refine aw_cond_f rfl ?_
      refine ZZ ?_
      refine WA ?_
      refine wk_of [some 0, some 1, some 2] (fun _ => [(4, .c (.p p4 [.p pv (gRow g v)])), (6, .c (.p p6 [I a.1, I a.2])), (7, .c (.p p7 [I b.1, I b.2])), (8, .c (.p p8 [I (g.st / 2)])), (9, .f (.func 210) [.c (.p p4 [.p pv (gRow g v)]), .p 2 0 0]), (10, .f (.func 212) [.c (.p p4 [.p pv (gRow g v)]), .c (.p p8 [I (g.st / 2)])]), (37, .c (I g.w)), (38, .c (I (k + 1 : Nat)))]) (fun _ => [gB g.st g.x g.y g.w g.h 1 (g.w * g.h), gArr (g.w * g.h) (on1), .box [.p 0 0 0]]) (by decide) (ZNL hE) ZCF ZCH (fun _ => ?_)
      exact ⟨m - 1, by omega, k + 1, on1, by omega, hl1, hno, rfl, rfl⟩
    ·have hno := invH_no hinv (fun q _ hq h => h1 ((hst q hq).1 h).2.1)
     refine WA ?_
     refine aw_cond_f rfl ?_
     refine ZZ ?_
     refine WA ?_
     refine wk_of [some 0, some 1, some 2] (fun _ => [(4, .c (.p p4 [.p pv (gRow g v)])), (6, .c (.p p6 [I a.1, I a.2])), (7, .c (.p p7 [I b.1, I b.2])), (8, .c (.p p8 [I (g.st / 2)])), (9, .f (.func 210) [.c (.p p4 [.p pv (gRow g v)]), .p 2 0 0]), (10, .f (.func 212) [.c (.p p4 [.p pv (gRow g v)]), .c (.p p8 [I (g.st / 2)])]), (37, .c (I g.w)), (38, .c (I (k + 1 : Nat)))]) (fun _ => [gB g.st g.x g.y g.w g.h 1 (g.w * g.h), gArr (g.w * g.h) (on1), .box [.p 0 0 0]]) (by decide) (ZNL hE) ZCF ZCH (fun _ => ?_)
     exact ⟨m - 1, by omega, k + 1, on1, by omega, hl1, hno, rfl, rfl⟩
   obtain rfl : k = g.w := by omega
   refine ZZ ?_
   exact aret_0 [some 0, some 1] (fun _ => [gB g.st g.x g.y g.w g.h 1 (g.w * g.h), gArr (g.w * g.h) (on1)]) (.inl rfl) rfl (by decide) (ZNK rfl) ZCH (fun _ => ⟨on1, rfl, rfl, hl1, invH_n hg.len hinv⟩)
  ·have hcd : decide (a.2 / g.st * g.st + g.st / 2 = a.2) = false := decide_eq_false hce
   refine WR ?_
   refine al_ef rfl (ef_call0 false (fun _ => pass2_v g pv v p4 p8 hs a.2 (by omega)) rfl (.clo rfl) rfl (by decide) (by kernel_rfl) rfl (fun _ => C0 rfl) (by simp)) ?_
   rintro _ _ ⟨_, _, _, ⟨rfl, rfl⟩, hF, hH⟩
   rw [hcd] at hF
   (refine NST hF hH ?_; clear hF hH; rintro rfl rfl)
   refine WE ?_
   refine aw_cond_t rfl ?_
   refine ZZ ?_
   refine aret_0 [some 0, some 1] (fun _ => [gB g.st g.x g.y g.w g.h 1 (g.w * g.h), gArr (g.w * g.h) (on)]) (.inl rfl) rfl (by decide) (ZNK rfl) ZCH (fun _ => ⟨on, rfl, rfl, ho, fun q => ⟨.inl, fun h => h.elim id fun h => absurd ?_ hce⟩⟩)
   have h2 := ((onS_h hh).1 h.2).1
   unfold ctrS at h2
   simp only at h2
   rw [h2, ctr_div hs.1]
 ·refine ZZ ?_
  refine ZR ?_
  refine ZA (rd_ldcp rfl (by kernel_rfl) rfl rfl) ?_
  refine WE ?_
  refine aw_loopw (fun m F H => ∃ (k : Nat) (on1 : List Bool), m + k = g.h ∧ on1.length = g.w * g.h ∧ InvV g on a b k on1 ∧ F = [(4, .c (.p p4 [.p pv (gRow g v)])), (6, .c (.p p6 [I a.1, I a.2])), (7, .c (.p p7 [I b.1, I b.2])), (8, .c (.p p8 [I (g.st / 2)])), (9, .f (.func 210) [.c (.p p4 [.p pv (gRow g v)]), .p 2 0 0]), (10, .f (.func 212) [.c (.p p4 [.p pv (gRow g v)]), .c (.p p8 [I (g.st / 2)])]), (79, .c (I g.h)), (80, .c (I k))] ∧ H = [gB g.st g.x g.y g.w g.h 1 (g.w * g.h), gArr (g.w * g.h) (on1), .box [.p 0 0 0]]) ?_ ?_
  ·refine wk_of [some 0, some 1, some 2] (fun _ => [(4, .c (.p p4 [.p pv (gRow g v)])), (6, .c (.p p6 [I a.1, I a.2])), (7, .c (.p p7 [I b.1, I b.2])), (8, .c (.p p8 [I (g.st / 2)])), (9, .f (.func 210) [.c (.p p4 [.p pv (gRow g v)]), .p 2 0 0]), (10, .f (.func 212) [.c (.p p4 [.p pv (gRow g v)]), .c (.p p8 [I (g.st / 2)])]), (79, .c (I g.h)), (80, .c (I (0 : Nat)))]) (fun _ => [gB g.st g.x g.y g.w g.h 1 (g.w * g.h), gArr (g.w * g.h) (on), .box [.p 0 0 0]]) (by decide) (ZNL hE) ZCF ZCH (fun _ => ?_)
   exact ⟨g.h, 0, on, by omega, ho, invV_0 hg.len, rfl, rfl⟩
  rintro m F H ⟨k, on1, hk, hl1, hinv, rfl, rfl⟩
  refine WA ?_
  refine aw_if rfl (fun hlt => ?_) (fun hge => ?_)
  ·have hm := hmul (g.y + (k : Nat)) (by omega)
   refine WA ?_
   refine ZZ ?_
   refine aw_regionT [(0, none), (1, none), (2, none), (3, none), (4, none), (5, none), (6, none), (7, none), (8, none), (9, none), (10, none), (11, none), (12, none), (13, none)] hMixed (by kernel_rfl) ?_
   refine ZT rfl (rd_ldcp rfl (by kernel_rfl) rfl rfl) ?_
   iterate 5 refine WX2 ?_
   refine ZT rfl (rd_ldcp rfl (by kernel_rfl) rfl rfl) ?_
   iterate 4 refine WX2 ?_
   refine ZT rfl (rd_ldcp rfl (by kernel_rfl) rfl rfl) ?_
   refine WQ ?_
   generalize hX : (g.y + (k : Nat)) * g.st + g.st / 2 = Y at *
   have hst := fun q (hq : q.2 = g.y + (k : Nat)) => stepV (q := q) hs.1 hh hX hq
   by_cases h1 : Y < min a.2 b.2
   ·have hno := invV_no hinv (fun q _ hq h => by have := ((hst q hq).1 h).1; omega)
    refine WA ?_
    refine aw_cond_t rfl ?_
    refine ZZ ?_
    refine WA ?_
    refine wk_of [some 0, some 1, some 2] (fun _ => [(4, .c (.p p4 [.p pv (gRow g v)])), (6, .c (.p p6 [I a.1, I a.2])), (7, .c (.p p7 [I b.1, I b.2])), (8, .c (.p p8 [I (g.st / 2)])), (9, .f (.func 210) [.c (.p p4 [.p pv (gRow g v)]), .p 2 0 0]), (10, .f (.func 212) [.c (.p p4 [.p pv (gRow g v)]), .c (.p p8 [I (g.st / 2)])]), (79, .c (I g.h)), (80, .c (I (k + 1 : Nat)))]) (fun _ => [gB g.st g.x g.y g.w g.h 1 (g.w * g.h), gArr (g.w * g.h) (on1), .box [.p 0 0 0]]) (by decide) (ZNL hE) ZCF ZCH (fun _ => ?_)
    exact ⟨m - 1, by omega, k + 1, on1, by omega, hl1, hno, rfl, rfl⟩
   by_cases h2 : max a.2 b.2 < Y
   ·have hno := invV_no hinv (fun q _ hq h => by have := ((hst q hq).1 h).1; omega)
    refine WA ?_
    refine aw_cond_t rfl ?_
    refine ZZ ?_
    refine WA ?_
    refine wk_of [some 0, some 1, some 2] (fun _ => [(4, .c (.p p4 [.p pv (gRow g v)])), (6, .c (.p p6 [I a.1, I a.2])), (7, .c (.p p7 [I b.1, I b.2])), (8, .c (.p p8 [I (g.st / 2)])), (9, .f (.func 210) [.c (.p p4 [.p pv (gRow g v)]), .p 2 0 0]), (10, .f (.func 212) [.c (.p p4 [.p pv (gRow g v)]), .c (.p p8 [I (g.st / 2)])]), (79, .c (I g.h)), (80, .c (I (k + 1 : Nat)))]) (fun _ => [gB g.st g.x g.y g.w g.h 1 (g.w * g.h), gArr (g.w * g.h) (on1), .box [.p 0 0 0]]) (by decide) (ZNL hE) ZCF ZCH (fun _ => ?_)
    exact ⟨m - 1, by omega, k + 1, on1, by omega, hl1, hno, rfl, rfl⟩
   have hden : b.2 - a.2 ≠ 0 := by omega
   have hQb := tdiv_le hden (t := Y - a.2) (e := b.1 - a.1) (by omega)
   have hpr : -100000000000000 ≤ (Y - a.2) * (b.1 - a.1) ∧ (Y - a.2) * (b.1 - a.1) ≤ 100000000000000 := by
    have h : ((Y - a.2) * (b.1 - a.1)).natAbs ≤ 10000000 * 10000000 := by rw [Int.natAbs_mul]; exact Nat.mul_le_mul (by omega) (by omega)
    omega
   refine WA ?_
   refine aw_cond_f rfl ?_
   refine ZZ ?_
   refine aw_regionT [(0, none), (1, none), (2, none), (3, none), (4, none), (5, none), (6, none), (7, none), (8, none), (9, none), (10, none), (11, none), (12, none), (13, none), (14, none), (15, none), (16, none)] hMixed (by kernel_rfl) ?_
   refine WQ ?_
   generalize hN : (Y - a.2) * (b.1 - a.1) = N at *
   generalize hD : b.2 - a.2 = D at *
   obtain ⟨Q, hQ⟩ : ∃ Q, N.tdiv D = Q := ⟨_, rfl⟩
   rw [hQ] at hQb
   simp only [hQ] at hst
   have hQe : wrap64 (N.tdiv D) = Q := by rw [hQ]; exact IntWalk.wrap64_in _ (by constructor <;> omega)
   by_cases hz : N.tmod D = 0
   ·by_cases hce : (a.1 + Q) / g.st * g.st + g.st / 2 = a.1 + Q
    ·have hcd : decide ((a.1 + Q) / g.st * g.st + g.st / 2 = a.1 + Q) = true := decide_eq_true hce
     have hyes := invV_yes hg.len hl1 (p := ((a.1 + Q) / g.st, g.y + (k : Nat))) hinv rfl (fun q _ hq => (hst q hq).trans ⟨fun h => h.2.2.2, fun h => ⟨by omega, hz, hce, h⟩⟩)
     have hYd : Y / g.st = g.y + (k : Nat) := by rw [← hX]; exact ctr_div hs.1
     have hln : (setQ g on1 ((a.1 + Q) / g.st, Y / g.st)).length = g.w * g.h := by rw [setQ_len, hl1]
     refine ZZ ?_
     refine aw_regionT [(0, none), (1, none), (2, none), (3, none), (4, none), (5, none), (6, none), (7, none), (8, none), (9, none), (10, none), (11, none), (12, some []), (13, none)] hMixed (by kernel_rfl) ?_
     iterate 2 refine WX2 ?_
     refine ZT rfl (rd_remP (z := 0) rfl rfl rfl hden hz) ?_
     iterate 7 refine WX2 ?_
     first | refine ZU rfl (rd_quoP (z := Q) rfl rfl rfl hden hQe) ?_ | refine ZV ?_
     refine WP ?_
     first | refine at_efN rfl rfl rfl (by decide) ⟨ag_none, ?_⟩ | (refine at_efK rfl (ef_call0 false (fun _ => pass2_v g pv v p4 p8 hs (a.1 + Q) (by omega)) rfl (.clo rfl) rfl (by decide) (by kernel_rfl) rfl (fun _ => C0 rfl) (by simp)) ?_; rintro _ _ ⟨_, _, _, ⟨rfl, rfl⟩, hF, hH⟩; rw [hcd] at hF; (refine NST hF hH ?_; clear hF hH; rintro rfl rfl); refine ⟨ag_none, ?_⟩)
     refine WQ ?_
     refine aw_cond_t rfl ?_
     refine ZZ ?_
     refine aw_regionT [(0, none), (1, none), (2, none), (3, none), (4, none), (5, none), (6, none), (7, none), (8, some [])] hMixed (by kernel_rfl) ?_
     iterate 5 refine WX2 ?_
     refine ZT rfl (rd_quoP (z := Q) rfl rfl rfl hden hQe) ?_
     refine WP ?_
     refine at_ef rfl rfl (ef_callp [0, 1, 2] (fun _ => [gB g.st g.x g.y g.w g.h 1 (g.w * g.h), gArr (g.w * g.h) on1, .box [.p 0 0 0]]) false (fun _ => pass1_v g pv v p4 hg hs on1 hl1 (a.1 + Q) Y (by omega) (by omega)) rfl (.clo rfl) rfl (by decide) (by kernel_rfl) rfl ZCH (by decide) ZCH (by simp)) ?_
     rintro F1 H1 ⟨_, _, _, _, ⟨rfl, rfl⟩, hF, hH⟩
     rw [killF_nil] at hF; (refine NSU hF hH ?_; clear hF hH; rintro rfl rfl)
     refine ⟨ag_none, ?_⟩
     refine WQ ?_
     refine WA ?_
     refine wk_of [some 0, some 1, some 2] (fun _ => [(4, .c (.p p4 [.p pv (gRow g v)])), (6, .c (.p p6 [I a.1, I a.2])), (7, .c (.p p7 [I b.1, I b.2])), (8, .c (.p p8 [I (g.st / 2)])), (9, .f (.func 210) [.c (.p p4 [.p pv (gRow g v)]), .p 2 0 0]), (10, .f (.func 212) [.c (.p p4 [.p pv (gRow g v)]), .c (.p p8 [I (g.st / 2)])]), (79, .c (I g.h)), (80, .c (I (k + 1 : Nat)))]) (fun _ => [gB g.st g.x g.y g.w g.h 1 (g.w * g.h), gArr (g.w * g.h) (setQ g on1 ((a.1 + Q) / g.st, Y / g.st)), .box [.p 0 0 0]]) (by decide) (ZNL hE) ZCF ZCH (fun _ => ?_)
     exact ⟨m - 1, by omega, k + 1, _, by omega, hln, by rw [hYd]; exact hyes, rfl, rfl⟩
    ·have hcd : decide ((a.1 + Q) / g.st * g.st + g.st / 2 = a.1 + Q) = false := decide_eq_false hce
     have hno := invV_no hinv (fun q _ hq h => hce ((hst q hq).1 h).2.2.1)
     refine ZZ ?_
     refine aw_regionT [(0, none), (1, none), (2, none), (3, none), (4, none), (5, none), (6, none), (7, none), (8, none), (9, none), (10, none), (11, none), (12, some []), (13, none)] hMixed (by kernel_rfl) ?_
     iterate 2 refine WX2 ?_
     refine ZT rfl (rd_remP (z := 0) rfl rfl rfl hden hz) ?_
     iterate 7 refine WX2 ?_
     first | refine ZU rfl (rd_quoP (z := Q) rfl rfl rfl hden hQe) ?_ | refine ZV ?_
     refine WP ?_
     first | refine at_efN rfl rfl rfl (by decide) ⟨ag_none, ?_⟩ | (refine at_efK rfl (ef_call0 false (fun _ => pass2_v g pv v p4 p8 hs (a.1 + Q) (by omega)) rfl (.clo rfl) rfl (by decide) (by kernel_rfl) rfl (fun _ => C0 rfl) (by simp)) ?_; rintro _ _ ⟨_, _, _, ⟨rfl, rfl⟩, hF, hH⟩; rw [hcd] at hF; (refine NST hF hH ?_; clear hF hH; rintro rfl rfl); refine ⟨ag_none, ?_⟩)
     refine WQ ?_
     refine aw_cond_f rfl ?_
     refine ZZ ?_
     refine WA ?_
     refine wk_of [some 0, some 1, some 2] (fun _ => [(4, .c (.p p4 [.p pv (gRow g v)])), (6, .c (.p p6 [I a.1, I a.2])), (7, .c (.p p7 [I b.1, I b.2])), (8, .c (.p p8 [I (g.st / 2)])), (9, .f (.func 210) [.c (.p p4 [.p pv (gRow g v)]), .p 2 0 0]), (10, .f (.func 212) [.c (.p p4 [.p pv (gRow g v)]), .c (.p p8 [I (g.st / 2)])]), (79, .c (I g.h)), (80, .c (I (k + 1 : Nat)))]) (fun _ => [gB g.st g.x g.y g.w g.h 1 (g.w * g.h), gArr (g.w * g.h) (on1), .box [.p 0 0 0]]) (by decide) (ZNL hE) ZCF ZCH (fun _ => ?_)
     exact ⟨m - 1, by omega, k + 1, on1, by omega, hl1, hno, rfl, rfl⟩
   ·have hno := invV_no hinv (fun q _ hq h => hz ((hst q hq).1 h).2.1)
    obtain ⟨M, hM⟩ : ∃ M, N.tmod D = M := ⟨_, rfl⟩
    have hM0 : ¬ M = 0 := by rw [← hM]; exact hz
    have hcd : decide (0 = (0 : Int)) = true := rfl
    refine ZZ ?_
    refine aw_regionT [(0, none), (1, none), (2, none), (3, none), (4, none), (5, none), (6, none), (7, none), (8, none), (9, none), (10, none), (11, none), (12, some []), (13, none)] hMixed (by kernel_rfl) ?_
    iterate 2 refine WX2 ?_
    refine ZT rfl (rd_remP (z := M) rfl rfl rfl hden hM) ?_
    iterate 7 refine WX2 ?_
    first | refine ZU rfl (rd_quoP (z := Q) rfl rfl rfl hden hQe) ?_ | refine ZV ?_
    refine WP ?_
    first | refine at_efN rfl rfl rfl (by decide) ⟨ag_none, ?_⟩ | (refine at_efK rfl (ef_call0 false (fun _ => pass2_v g pv v p4 p8 hs (a.1 + Q) (by omega)) rfl (.clo rfl) rfl (by decide) (by kernel_rfl) rfl (fun _ => C0 rfl) (by simp)) ?_; rintro _ _ ⟨_, _, _, ⟨rfl, rfl⟩, hF, hH⟩; rw [hcd] at hF; (refine NST hF hH ?_; clear hF hH; rintro rfl rfl); refine ⟨ag_none, ?_⟩)
    refine WQ ?_
    refine aw_cond_f rfl ?_
    refine ZZ ?_
    refine WA ?_
    refine wk_of [some 0, some 1, some 2] (fun _ => [(4, .c (.p p4 [.p pv (gRow g v)])), (6, .c (.p p6 [I a.1, I a.2])), (7, .c (.p p7 [I b.1, I b.2])), (8, .c (.p p8 [I (g.st / 2)])), (9, .f (.func 210) [.c (.p p4 [.p pv (gRow g v)]), .p 2 0 0]), (10, .f (.func 212) [.c (.p p4 [.p pv (gRow g v)]), .c (.p p8 [I (g.st / 2)])]), (79, .c (I g.h)), (80, .c (I (k + 1 : Nat)))]) (fun _ => [gB g.st g.x g.y g.w g.h 1 (g.w * g.h), gArr (g.w * g.h) (on1), .box [.p 0 0 0]]) (by decide) (ZNL hE) ZCF ZCH (fun _ => ?_)
    exact ⟨m - 1, by omega, k + 1, on1, by omega, hl1, hno, rfl, rfl⟩
  obtain rfl : k = g.h := by omega
  refine ZZ ?_
  exact aret_0 [some 0, some 1] (fun _ => [gB g.st g.x g.y g.w g.h 1 (g.w * g.h), gArr (g.w * g.h) (on1)]) (.inr rfl) rfl (by decide) (ZNK rfl) ZCH (fun _ => ⟨on1, rfl, rfl, hl1, invV_n hg.len hinv⟩)
end Go.Proofs.YtniolldgidgffaaGreatDoor
