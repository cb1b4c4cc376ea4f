/- What is wrong with paths that cover, by value: the program's pathsFault. -/
import Derived.Test.YtfilfijammemfaaGreatDoorQaz
set_option linter.unusedSimpArgs false
set_option linter.unusedVariables false
-- NEWM
-- NILC
namespace Go.Proofs.YtfilfijammemfaaGreatDoor
open Go Go.RowKit
set_option maxRecDepth 100000
set_option maxHeartbeats 4000000 in
theorem pass_v (g : Grd) (pv v : Value) (hg : GOk g) (hs : 1 ≤ g.st ∧ g.st ≤ 10000) (on : List Bool) (ho : on.length = g.w * g.h) (a b : Spot) (ha : (-2000000 ≤ a.1 ∧ a.1 ≤ 2000000) ∧ (-2000000 ≤ a.2 ∧ a.2 ≤ 2000000)) (hb : (-2000000 ≤ b.1 ∧ b.1 ≤ 2000000) ∧ (-2000000 ≤ b.2 ∧ b.2 ≤ 2000000)) : ACallsX true Tryz.prog 115 [gV pv v g, .p 0 0 0, .a [.c (I a.1), .c (I a.2)], .a [.c (I b.1), .c (I b.2)]] [gB g.st g.x g.y g.w g.h 1 (g.w * g.h), gArr (g.w * g.h) (on)] fun u H => ∃ on' : List Bool, u = .t [] ∧ H = [gB g.st g.x g.y g.w g.h 1 (g.w * g.h), gArr (g.w * g.h) (on')] ∧ on'.length = g.w * g.h ∧ ∀ q, q ∈ covG { g with on := on' } ↔ q ∈ covG { g with on := on } ∨ (q ∈ covG g ∧ onS a b (ctrS g.st q)) := by
 have ehf : wrap64 (g.st.tdiv 2) = g.st / 2 := by
  rw [Int.tdiv_eq_ediv_of_nonneg (by omega)]
  exact IntWalk.wrap64_in _ (by constructor <;> omega)
 have hhf : 0 ≤ g.st / 2 ∧ g.st / 2 ≤ 5000 := by omega
 have hgx := hg.x
 have hgy := hg.y
 have hgw := hg.w
 have hgh := hg.h
 have hmul : ∀ z : Int, -20000000 ≤ z ∧ z ≤ 20000000 → -200000000000 ≤ z * g.st ∧ z * g.st ≤ 200000000000 := fun z hz => by
  have h : (z * g.st).natAbs ≤ 20000000 * 10000 := by rw [Int.natAbs_mul]; exact Nat.mul_le_mul (by omega) (by omega)
  omega
 refine zK true (N := 151) Tryz.func115 rfl rfl (by simp) fun E hE hP => ?_
 refine WA ?_
 refine ZR ?_
 iterate 4 refine WX1 ?_
 refine ZA (rd_quoP (z := g.st / 2) rfl rfl rfl (by decide) ehf) ?_
 refine WE ?_
 refine zC1 (zh (K := fun F H => ∃ p4 p6 p7 p8, F = [(4, .c (.p p4 [.p pv (gRow g v)])), (5, .p 2 0 0), (6, .c (.p p6 [I a.1, I a.2])), (7, .c (.p p7 [I b.1, I b.2])), (8, .c (.p p8 [I (g.st / 2)]))] ∧ H = [gB g.st g.x g.y g.w g.h 1 (g.w * g.h), gArr (g.w * g.h) (on), .box [.p 0 0 0]]) [some 0, some 1, some 3] (fun f => [(4, .c (.p (f (.p 2 0 0)) [.p pv (gRow g v)])), (5, .p 2 0 0), (6, .c (.p (f (.p 4 0 0)) [I a.1, I a.2])), (7, .c (.p (f (.p 5 0 0)) [I b.1, I b.2])), (8, .c (.p (f (.p 6 0 0)) [I (g.st / 2)]))]) (fun _ => [gB g.st g.x g.y g.w g.h 1 (g.w * g.h), gArr (g.w * g.h) (on), .box [.p 0 0 0]]) (by decide) (ZNL hE) (fun _ => .cons rfl (frzpL rfl rfl (.cons (.c rfl) .nil)) (.cons rfl (.p rfl) (.cons rfl (frzpL rfl rfl (.cons (.c rfl) (.cons (.c rfl) .nil))) (.cons rfl (frzpL rfl rfl (.cons (.c rfl) (.cons (.c rfl) .nil))) (.cons rfl (frzpL rfl rfl (.cons (.c rfl) .nil)) .nil))))) ZCH (fun _ => ⟨_, _, _, _, rfl, rfl⟩)) ?_
 rintro F H ⟨p4, p6, p7, p8, rfl, rfl⟩
 refine WA ?_
 refine WA ?_
 refine zC1 (zh (K := fun F H => F = [(4, .c (.p p4 [.p pv (gRow g v)])), (6, .c (.p p6 [I a.1, I a.2])), (7, .c (.p p7 [I b.1, I b.2])), (8, .c (.p p8 [I (g.st / 2)])), (9, .f (.func 159) [.c (.p p4 [.p pv (gRow g v)]), .p 2 0 0]), (10, .f (.func 161) [.c (.p p4 [.p pv (gRow g v)]), .c (.p p8 [I (g.st / 2)])])] ∧ H = [gB g.st g.x g.y g.w g.h 1 (g.w * g.h), gArr (g.w * g.h) (on), .box [.p 0 0 0]]) [some 0, some 1, some 2] (fun _ => [(4, .c (.p p4 [.p pv (gRow g v)])), (6, .c (.p p6 [I a.1, I a.2])), (7, .c (.p p7 [I b.1, I b.2])), (8, .c (.p p8 [I (g.st / 2)])), (9, .f (.func 159) [.c (.p p4 [.p pv (gRow g v)]), .p 2 0 0]), (10, .f (.func 161) [.c (.p p4 [.p pv (gRow g v)]), .c (.p p8 [I (g.st / 2)])])]) (fun _ => [gB g.st g.x g.y g.w g.h 1 (g.w * g.h), gArr (g.w * g.h) (on), .box [.p 0 0 0]]) (by decide) (ZNL hE) ZCF ZCH (fun _ => ⟨rfl, rfl⟩)) ?_
 rintro F H ⟨rfl, rfl⟩
 refine WA ?_
 refine zl rfl (fun hh => ?_) (fun hh => ?_)
 ·by_cases hce : a.2 / g.st * g.st + g.st / 2 = a.2
  ·have hcd : decide (a.2 / g.st * g.st + g.st / 2 = a.2) = true := decide_eq_true hce
   refine WR ?_
   refine zf rfl (za false (fun _ => pass2_v g pv v p4 p8 hs a.2 (by omega)) rfl (.clo rfl) rfl (by decide) (by kernel_rfl) rfl (fun _ => C0 rfl) (by simp)) ?_
   rintro _ _ ⟨_, _, _, ⟨rfl, rfl⟩, hF, hH⟩
   rw [hcd] at hF
   (refine NST hF hH ?_; clear hF hH; rintro rfl rfl)
   refine WE ?_
   refine zd rfl ?_
   refine ZZ ?_
   refine ZR ?_
   refine ZA (zO rfl (by kernel_rfl) rfl rfl) ?_
   refine WE ?_
   refine zk (fun m F H => ∃ (k : Nat) (on1 : List Bool), m + k = g.w ∧ on1.length = g.w * g.h ∧ InvH g on a b k on1 ∧ F = [(4, .c (.p p4 [.p pv (gRow g v)])), (6, .c (.p p6 [I a.1, I a.2])), (7, .c (.p p7 [I b.1, I b.2])), (8, .c (.p p8 [I (g.st / 2)])), (9, .f (.func 159) [.c (.p p4 [.p pv (gRow g v)]), .p 2 0 0]), (10, .f (.func 161) [.c (.p p4 [.p pv (gRow g v)]), .c (.p p8 [I (g.st / 2)])]), (37, .c (I g.w)), (38, .c (I k))] ∧ H = [gB g.st g.x g.y g.w g.h 1 (g.w * g.h), gArr (g.w * g.h) (on1), .box [.p 0 0 0]]) ?_ ?_
   ·refine zh [some 0, some 1, some 2] (fun _ => [(4, .c (.p p4 [.p pv (gRow g v)])), (6, .c (.p p6 [I a.1, I a.2])), (7, .c (.p p7 [I b.1, I b.2])), (8, .c (.p p8 [I (g.st / 2)])), (9, .f (.func 159) [.c (.p p4 [.p pv (gRow g v)]), .p 2 0 0]), (10, .f (.func 161) [.c (.p p4 [.p pv (gRow g v)]), .c (.p p8 [I (g.st / 2)])]), (37, .c (I g.w)), (38, .c (I (0 : Nat)))]) (fun _ => [gB g.st g.x g.y g.w g.h 1 (g.w * g.h), gArr (g.w * g.h) (on), .box [.p 0 0 0]]) (by decide) (ZNL hE) ZCF ZCH (fun _ => ?_)
    exact ⟨g.w, 0, on, by omega, ho, invH_0 hg.len, rfl, rfl⟩
   rintro m F H ⟨k, on1, hk, hl1, hinv, rfl, rfl⟩
   refine WA ?_
   refine zl rfl (fun hlt => ?_) (fun hge => ?_)
   ·have hm := hmul (g.x + (k : Nat)) (by omega)
    have hst := fun q (hq : q.1 = g.x + (k : Nat)) => stepH (q := q) hs.1 hh hce hq
    have hcd1 := ctr_div (m := g.x + (k : Nat)) hs.1
    refine WA ?_
    refine ZZ ?_
    refine zg [(0, none), (1, none), (2, none), (3, none), (4, none), (5, none), (6, none), (7, none), (8, none), (9, none), (10, none), (11, none), (12, none), (13, none)] zn (by kernel_rfl) ?_
    refine ZT rfl (zO rfl (by kernel_rfl) rfl rfl) ?_
    iterate 5 refine WX2 ?_
    refine ZT rfl (zO rfl (by kernel_rfl) rfl rfl) ?_
    iterate 4 refine WX2 ?_
    refine ZT rfl (zO rfl (by kernel_rfl) rfl rfl) ?_
    refine WQ ?_
    generalize hX : (g.x + (k : Nat)) * g.st + g.st / 2 = X at *
    by_cases h1 : min a.1 b.1 ≤ X
    ·by_cases h2 : X ≤ max a.1 b.1
     ·have hyes := invH_yes hg.len hl1 (p := (g.x + (k : Nat), a.2 / g.st)) hinv rfl (fun q _ hq => (hst q hq).trans ⟨fun h => h.1, fun h => ⟨h, h1, h2⟩⟩)
      have hln : (setQ g on1 (X / g.st, a.2 / g.st)).length = g.w * g.h := by rw [setQ_len, hl1]
      refine WA ?_
      refine zb rfl ?_
      refine WR ?_
      refine zf rfl (zb1 [0, 1, 2] (fun _ => [gB g.st g.x g.y g.w g.h 1 (g.w * g.h), gArr (g.w * g.h) on1, .box [.p 0 0 0]]) false (fun _ => pass1_v g pv v p4 hg hs on1 hl1 X a.2 (by omega) (by omega)) rfl (.clo rfl) rfl (by decide) (by kernel_rfl) rfl ZCH (by decide) ZCH (by simp)) ?_
      rintro F1 H1 ⟨_, _, _, _, ⟨rfl, rfl⟩, hF, hH⟩
      rw [zI] at hF; (refine NSU hF hH ?_; clear hF hH; rintro rfl rfl)
      refine WE ?_
      refine WA ?_
      refine zh [some 0, some 1, some 2] (fun _ => [(4, .c (.p p4 [.p pv (gRow g v)])), (6, .c (.p p6 [I a.1, I a.2])), (7, .c (.p p7 [I b.1, I b.2])), (8, .c (.p p8 [I (g.st / 2)])), (9, .f (.func 159) [.c (.p p4 [.p pv (gRow g v)]), .p 2 0 0]), (10, .f (.func 161) [.c (.p p4 [.p pv (gRow g v)]), .c (.p p8 [I (g.st / 2)])]), (37, .c (I g.w)), (38, .c (I (k + 1 : Nat)))]) (fun _ => [gB g.st g.x g.y g.w g.h 1 (g.w * g.h), gArr (g.w * g.h) (setQ g on1 (X / g.st, a.2 / g.st)), .box [.p 0 0 0]]) (by decide) (ZNL hE) ZCF ZCH (fun _ => ?_)
      exact ⟨m - 1, by omega, k + 1, _, by omega, hln, by rw [hcd1]; exact hyes, rfl, rfl⟩
     ·have hno := invH_no hinv (fun q _ hq h => h2 ((hst q hq).1 h).2.2)
      refine WA ?_
      refine zd rfl ?_
      refine ZZ ?_
      refine WA ?_
      refine zh [some 0, some 1, some 2] (fun _ => [(4, .c (.p p4 [.p pv (gRow g v)])), (6, .c (.p p6 [I a.1, I a.2])), (7, .c (.p p7 [I b.1, I b.2])), (8, .c (.p p8 [I (g.st / 2)])), (9, .f (.func 159) [.c (.p p4 [.p pv (gRow g v)]), .p 2 0 0]), (10, .f (.func 161) [.c (.p p4 [.p pv (gRow g v)]), .c (.p p8 [I (g.st / 2)])]), (37, .c (I g.w)), (38, .c (I (k + 1 : Nat)))]) (fun _ => [gB g.st g.x g.y g.w g.h 1 (g.w * g.h), gArr (g.w * g.h) (on1), .box [.p 0 0 0]]) (by decide) (ZNL hE) ZCF ZCH (fun _ => ?_)
      exact ⟨m - 1, by omega, k + 1, on1, by omega, hl1, hno, rfl, rfl⟩
    ·have hno := invH_no hinv (fun q _ hq h => h1 ((hst q hq).1 h).2.1)
     refine WA ?_
     refine zd rfl ?_
     refine ZZ ?_
     refine WA ?_
     refine zh [some 0, some 1, some 2] (fun _ => [(4, .c (.p p4 [.p pv (gRow g v)])), (6, .c (.p p6 [I a.1, I a.2])), (7, .c (.p p7 [I b.1, I b.2])), (8, .c (.p p8 [I (g.st / 2)])), (9, .f (.func 159) [.c (.p p4 [.p pv (gRow g v)]), .p 2 0 0]), (10, .f (.func 161) [.c (.p p4 [.p pv (gRow g v)]), .c (.p p8 [I (g.st / 2)])]), (37, .c (I g.w)), (38, .c (I (k + 1 : Nat)))]) (fun _ => [gB g.st g.x g.y g.w g.h 1 (g.w * g.h), gArr (g.w * g.h) (on1), .box [.p 0 0 0]]) (by decide) (ZNL hE) ZCF ZCH (fun _ => ?_)
     exact ⟨m - 1, by omega, k + 1, on1, by omega, hl1, hno, rfl, rfl⟩
   obtain rfl : k = g.w := by omega
   refine ZZ ?_
   exact zF1 [some 0, some 1] (fun _ => [gB g.st g.x g.y g.w g.h 1 (g.w * g.h), gArr (g.w * g.h) (on1)]) (.inl rfl) rfl (by decide) (ZNK rfl) ZCH (fun _ => ⟨on1, rfl, rfl, hl1, invH_n hg.len hinv⟩)
  ·have hcd : decide (a.2 / g.st * g.st + g.st / 2 = a.2) = false := decide_eq_false hce
   refine WR ?_
   refine zf rfl (za false (fun _ => pass2_v g pv v p4 p8 hs a.2 (by omega)) rfl (.clo rfl) rfl (by decide) (by kernel_rfl) rfl (fun _ => C0 rfl) (by simp)) ?_
   rintro _ _ ⟨_, _, _, ⟨rfl, rfl⟩, hF, hH⟩
   rw [hcd] at hF
   (refine NST hF hH ?_; clear hF hH; rintro rfl rfl)
   refine WE ?_
   refine zb rfl ?_
   refine ZZ ?_
   refine zF1 [some 0, some 1] (fun _ => [gB g.st g.x g.y g.w g.h 1 (g.w * g.h), gArr (g.w * g.h) (on)]) (.inl rfl) rfl (by decide) (ZNK rfl) ZCH (fun _ => ⟨on, rfl, rfl, ho, fun q => ⟨.inl, fun h => h.elim id fun h => absurd ?_ hce⟩⟩)
   have h2 := ((onS_h hh).1 h.2).1
   unfold ctrS at h2
   simp only at h2
   rw [h2, ctr_div hs.1]
 ·refine ZZ ?_
  refine ZR ?_
  refine ZA (zO rfl (by kernel_rfl) rfl rfl) ?_
  refine WE ?_
  refine zk (fun m F H => ∃ (k : Nat) (on1 : List Bool), m + k = g.h ∧ on1.length = g.w * g.h ∧ InvV g on a b k on1 ∧ F = [(4, .c (.p p4 [.p pv (gRow g v)])), (6, .c (.p p6 [I a.1, I a.2])), (7, .c (.p p7 [I b.1, I b.2])), (8, .c (.p p8 [I (g.st / 2)])), (9, .f (.func 159) [.c (.p p4 [.p pv (gRow g v)]), .p 2 0 0]), (10, .f (.func 161) [.c (.p p4 [.p pv (gRow g v)]), .c (.p p8 [I (g.st / 2)])]), (79, .c (I g.h)), (80, .c (I k))] ∧ H = [gB g.st g.x g.y g.w g.h 1 (g.w * g.h), gArr (g.w * g.h) (on1), .box [.p 0 0 0]]) ?_ ?_
  ·refine zh [some 0, some 1, some 2] (fun _ => [(4, .c (.p p4 [.p pv (gRow g v)])), (6, .c (.p p6 [I a.1, I a.2])), (7, .c (.p p7 [I b.1, I b.2])), (8, .c (.p p8 [I (g.st / 2)])), (9, .f (.func 159) [.c (.p p4 [.p pv (gRow g v)]), .p 2 0 0]), (10, .f (.func 161) [.c (.p p4 [.p pv (gRow g v)]), .c (.p p8 [I (g.st / 2)])]), (79, .c (I g.h)), (80, .c (I (0 : Nat)))]) (fun _ => [gB g.st g.x g.y g.w g.h 1 (g.w * g.h), gArr (g.w * g.h) (on), .box [.p 0 0 0]]) (by decide) (ZNL hE) ZCF ZCH (fun _ => ?_)
   exact ⟨g.h, 0, on, by omega, ho, invV_0 hg.len, rfl, rfl⟩
  rintro m F H ⟨k, on1, hk, hl1, hinv, rfl, rfl⟩
  refine WA ?_
  refine zl rfl (fun hlt => ?_) (fun hge => ?_)
  ·have hm := hmul (g.y + (k : Nat)) (by omega)
   refine WA ?_
   refine ZZ ?_
   refine zg [(0, none), (1, none), (2, none), (3, none), (4, none), (5, none), (6, none), (7, none), (8, none), (9, none), (10, none), (11, none), (12, none), (13, none)] zn (by kernel_rfl) ?_
   refine ZT rfl (zO rfl (by kernel_rfl) rfl rfl) ?_
   iterate 5 refine WX2 ?_
   refine ZT rfl (zO rfl (by kernel_rfl) rfl rfl) ?_
   iterate 4 refine WX2 ?_
   refine ZT rfl (zO rfl (by kernel_rfl) rfl rfl) ?_
   refine WQ ?_
   generalize hX : (g.y + (k : Nat)) * g.st + g.st / 2 = Y at *
   have hst := fun q (hq : q.2 = g.y + (k : Nat)) => stepV (q := q) hs.1 hh hX hq
   by_cases h1 : Y < min a.2 b.2
   ·have hno := invV_no hinv (fun q _ hq h => by have := ((hst q hq).1 h).1; omega)
    refine WA ?_
    refine zb rfl ?_
    refine ZZ ?_
    refine WA ?_
    refine zh [some 0, some 1, some 2] (fun _ => [(4, .c (.p p4 [.p pv (gRow g v)])), (6, .c (.p p6 [I a.1, I a.2])), (7, .c (.p p7 [I b.1, I b.2])), (8, .c (.p p8 [I (g.st / 2)])), (9, .f (.func 159) [.c (.p p4 [.p pv (gRow g v)]), .p 2 0 0]), (10, .f (.func 161) [.c (.p p4 [.p pv (gRow g v)]), .c (.p p8 [I (g.st / 2)])]), (79, .c (I g.h)), (80, .c (I (k + 1 : Nat)))]) (fun _ => [gB g.st g.x g.y g.w g.h 1 (g.w * g.h), gArr (g.w * g.h) (on1), .box [.p 0 0 0]]) (by decide) (ZNL hE) ZCF ZCH (fun _ => ?_)
    exact ⟨m - 1, by omega, k + 1, on1, by omega, hl1, hno, rfl, rfl⟩
   by_cases h2 : max a.2 b.2 < Y
   ·have hno := invV_no hinv (fun q _ hq h => by have := ((hst q hq).1 h).1; omega)
    refine WA ?_
    refine zb rfl ?_
    refine ZZ ?_
    refine WA ?_
    refine zh [some 0, some 1, some 2] (fun _ => [(4, .c (.p p4 [.p pv (gRow g v)])), (6, .c (.p p6 [I a.1, I a.2])), (7, .c (.p p7 [I b.1, I b.2])), (8, .c (.p p8 [I (g.st / 2)])), (9, .f (.func 159) [.c (.p p4 [.p pv (gRow g v)]), .p 2 0 0]), (10, .f (.func 161) [.c (.p p4 [.p pv (gRow g v)]), .c (.p p8 [I (g.st / 2)])]), (79, .c (I g.h)), (80, .c (I (k + 1 : Nat)))]) (fun _ => [gB g.st g.x g.y g.w g.h 1 (g.w * g.h), gArr (g.w * g.h) (on1), .box [.p 0 0 0]]) (by decide) (ZNL hE) ZCF ZCH (fun _ => ?_)
    exact ⟨m - 1, by omega, k + 1, on1, by omega, hl1, hno, rfl, rfl⟩
   have hden : b.2 - a.2 ≠ 0 := by omega
   have hQb := tdiv_le hden (t := Y - a.2) (e := b.1 - a.1) (by omega)
   have hpr : -100000000000000 ≤ (Y - a.2) * (b.1 - a.1) ∧ (Y - a.2) * (b.1 - a.1) ≤ 100000000000000 := by
    have h : ((Y - a.2) * (b.1 - a.1)).natAbs ≤ 10000000 * 10000000 := by rw [Int.natAbs_mul]; exact Nat.mul_le_mul (by omega) (by omega)
    omega
   refine WA ?_
   refine zd rfl ?_
   refine ZZ ?_
   refine zg [(0, none), (1, none), (2, none), (3, none), (4, none), (5, none), (6, none), (7, none), (8, none), (9, none), (10, none), (11, none), (12, none), (13, none), (14, none), (15, none), (16, none)] zn (by kernel_rfl) ?_
   refine WQ ?_
   generalize hN : (Y - a.2) * (b.1 - a.1) = N at *
   generalize hD : b.2 - a.2 = D at *
   obtain ⟨Q, hQ⟩ : ∃ Q, N.tdiv D = Q := ⟨_, rfl⟩
   rw [hQ] at hQb
   simp only [hQ] at hst
   have hQe : wrap64 (N.tdiv D) = Q := by rw [hQ]; exact IntWalk.wrap64_in _ (by constructor <;> omega)
   by_cases hz : N.tmod D = 0
   ·by_cases hce : (a.1 + Q) / g.st * g.st + g.st / 2 = a.1 + Q
    ·have hcd : decide ((a.1 + Q) / g.st * g.st + g.st / 2 = a.1 + Q) = true := decide_eq_true hce
     have hyes := invV_yes hg.len hl1 (p := ((a.1 + Q) / g.st, g.y + (k : Nat))) hinv rfl (fun q _ hq => (hst q hq).trans ⟨fun h => h.2.2.2, fun h => ⟨by omega, hz, hce, h⟩⟩)
     have hYd : Y / g.st = g.y + (k : Nat) := by rw [← hX]; exact ctr_div hs.1
     have hln : (setQ g on1 ((a.1 + Q) / g.st, Y / g.st)).length = g.w * g.h := by rw [setQ_len, hl1]
     refine ZZ ?_
     refine zg [(0, none), (1, none), (2, none), (3, none), (4, none), (5, none), (6, none), (7, none), (8, none), (9, none), (10, none), (11, none), (12, some []), (13, none)] zn (by kernel_rfl) ?_
     iterate 2 refine WX2 ?_
     refine ZT rfl (rd_remP (z := 0) rfl rfl rfl hden hz) ?_
     iterate 7 refine WX2 ?_
     first | refine ZU rfl (rd_quoP (z := Q) rfl rfl rfl hden hQe) ?_ | refine ZV ?_
     refine WP ?_
     first | refine at_efN rfl rfl rfl (by decide) ⟨zm, ?_⟩ | (refine at_efK rfl (za false (fun _ => pass2_v g pv v p4 p8 hs (a.1 + Q) (by omega)) rfl (.clo rfl) rfl (by decide) (by kernel_rfl) rfl (fun _ => C0 rfl) (by simp)) ?_; rintro _ _ ⟨_, _, _, ⟨rfl, rfl⟩, hF, hH⟩; rw [hcd] at hF; (refine NST hF hH ?_; clear hF hH; rintro rfl rfl); refine ⟨zm, ?_⟩)
     refine WQ ?_
     refine zb rfl ?_
     refine ZZ ?_
     refine zg [(0, none), (1, none), (2, none), (3, none), (4, none), (5, none), (6, none), (7, none), (8, some [])] zn (by kernel_rfl) ?_
     iterate 5 refine WX2 ?_
     refine ZT rfl (rd_quoP (z := Q) rfl rfl rfl hden hQe) ?_
     refine WP ?_
     refine zY rfl rfl (zb1 [0, 1, 2] (fun _ => [gB g.st g.x g.y g.w g.h 1 (g.w * g.h), gArr (g.w * g.h) on1, .box [.p 0 0 0]]) false (fun _ => pass1_v g pv v p4 hg hs on1 hl1 (a.1 + Q) Y (by omega) (by omega)) rfl (.clo rfl) rfl (by decide) (by kernel_rfl) rfl ZCH (by decide) ZCH (by simp)) ?_
     rintro F1 H1 ⟨_, _, _, _, ⟨rfl, rfl⟩, hF, hH⟩
     rw [zI] at hF; (refine NSU hF hH ?_; clear hF hH; rintro rfl rfl)
     refine ⟨zm, ?_⟩
     refine WQ ?_
     refine WA ?_
     refine zh [some 0, some 1, some 2] (fun _ => [(4, .c (.p p4 [.p pv (gRow g v)])), (6, .c (.p p6 [I a.1, I a.2])), (7, .c (.p p7 [I b.1, I b.2])), (8, .c (.p p8 [I (g.st / 2)])), (9, .f (.func 159) [.c (.p p4 [.p pv (gRow g v)]), .p 2 0 0]), (10, .f (.func 161) [.c (.p p4 [.p pv (gRow g v)]), .c (.p p8 [I (g.st / 2)])]), (79, .c (I g.h)), (80, .c (I (k + 1 : Nat)))]) (fun _ => [gB g.st g.x g.y g.w g.h 1 (g.w * g.h), gArr (g.w * g.h) (setQ g on1 ((a.1 + Q) / g.st, Y / g.st)), .box [.p 0 0 0]]) (by decide) (ZNL hE) ZCF ZCH (fun _ => ?_)
     exact ⟨m - 1, by omega, k + 1, _, by omega, hln, by rw [hYd]; exact hyes, rfl, rfl⟩
    ·have hcd : decide ((a.1 + Q) / g.st * g.st + g.st / 2 = a.1 + Q) = false := decide_eq_false hce
     have hno := invV_no hinv (fun q _ hq h => hce ((hst q hq).1 h).2.2.1)
     refine ZZ ?_
     refine zg [(0, none), (1, none), (2, none), (3, none), (4, none), (5, none), (6, none), (7, none), (8, none), (9, none), (10, none), (11, none), (12, some []), (13, none)] zn (by kernel_rfl) ?_
     iterate 2 refine WX2 ?_
     refine ZT rfl (rd_remP (z := 0) rfl rfl rfl hden hz) ?_
     iterate 7 refine WX2 ?_
     first | refine ZU rfl (rd_quoP (z := Q) rfl rfl rfl hden hQe) ?_ | refine ZV ?_
     refine WP ?_
     first | refine at_efN rfl rfl rfl (by decide) ⟨zm, ?_⟩ | (refine at_efK rfl (za false (fun _ => pass2_v g pv v p4 p8 hs (a.1 + Q) (by omega)) rfl (.clo rfl) rfl (by decide) (by kernel_rfl) rfl (fun _ => C0 rfl) (by simp)) ?_; rintro _ _ ⟨_, _, _, ⟨rfl, rfl⟩, hF, hH⟩; rw [hcd] at hF; (refine NST hF hH ?_; clear hF hH; rintro rfl rfl); refine ⟨zm, ?_⟩)
     refine WQ ?_
     refine zd rfl ?_
     refine ZZ ?_
     refine WA ?_
     refine zh [some 0, some 1, some 2] (fun _ => [(4, .c (.p p4 [.p pv (gRow g v)])), (6, .c (.p p6 [I a.1, I a.2])), (7, .c (.p p7 [I b.1, I b.2])), (8, .c (.p p8 [I (g.st / 2)])), (9, .f (.func 159) [.c (.p p4 [.p pv (gRow g v)]), .p 2 0 0]), (10, .f (.func 161) [.c (.p p4 [.p pv (gRow g v)]), .c (.p p8 [I (g.st / 2)])]), (79, .c (I g.h)), (80, .c (I (k + 1 : Nat)))]) (fun _ => [gB g.st g.x g.y g.w g.h 1 (g.w * g.h), gArr (g.w * g.h) (on1), .box [.p 0 0 0]]) (by decide) (ZNL hE) ZCF ZCH (fun _ => ?_)
     exact ⟨m - 1, by omega, k + 1, on1, by omega, hl1, hno, rfl, rfl⟩
   ·have hno := invV_no hinv (fun q _ hq h => hz ((hst q hq).1 h).2.1)
    obtain ⟨M, hM⟩ : ∃ M, N.tmod D = M := ⟨_, rfl⟩
    have hM0 : ¬ M = 0 := by rw [← hM]; exact hz
    have hcd : decide (0 = (0 : Int)) = true := rfl
    refine ZZ ?_
    refine zg [(0, none), (1, none), (2, none), (3, none), (4, none), (5, none), (6, none), (7, none), (8, none), (9, none), (10, none), (11, none), (12, some []), (13, none)] zn (by kernel_rfl) ?_
    iterate 2 refine WX2 ?_
    refine ZT rfl (rd_remP (z := M) rfl rfl rfl hden hM) ?_
    iterate 7 refine WX2 ?_
    first | refine ZU rfl (rd_quoP (z := Q) rfl rfl rfl hden hQe) ?_ | refine ZV ?_
    refine WP ?_
    first | refine at_efN rfl rfl rfl (by decide) ⟨zm, ?_⟩ | (refine at_efK rfl (za false (fun _ => pass2_v g pv v p4 p8 hs (a.1 + Q) (by omega)) rfl (.clo rfl) rfl (by decide) (by kernel_rfl) rfl (fun _ => C0 rfl) (by simp)) ?_; rintro _ _ ⟨_, _, _, ⟨rfl, rfl⟩, hF, hH⟩; rw [hcd] at hF; (refine NST hF hH ?_; clear hF hH; rintro rfl rfl); refine ⟨zm, ?_⟩)
    refine WQ ?_
    refine zd rfl ?_
    refine ZZ ?_
    refine WA ?_
    refine zh [some 0, some 1, some 2] (fun _ => [(4, .c (.p p4 [.p pv (gRow g v)])), (6, .c (.p p6 [I a.1, I a.2])), (7, .c (.p p7 [I b.1, I b.2])), (8, .c (.p p8 [I (g.st / 2)])), (9, .f (.func 159) [.c (.p p4 [.p pv (gRow g v)]), .p 2 0 0]), (10, .f (.func 161) [.c (.p p4 [.p pv (gRow g v)]), .c (.p p8 [I (g.st / 2)])]), (79, .c (I g.h)), (80, .c (I (k + 1 : Nat)))]) (fun _ => [gB g.st g.x g.y g.w g.h 1 (g.w * g.h), gArr (g.w * g.h) (on1), .box [.p 0 0 0]]) (by decide) (ZNL hE) ZCF ZCH (fun _ => ?_)
    exact ⟨m - 1, by omega, k + 1, on1, by omega, hl1, hno, rfl, rfl⟩
  obtain rfl : k = g.h := by omega
  refine ZZ ?_
  exact zF1 [some 0, some 1] (fun _ => [gB g.st g.x g.y g.w g.h 1 (g.w * g.h), gArr (g.w * g.h) (on1)]) (.inr rfl) rfl (by decide) (ZNK rfl) ZCH (fun _ => ⟨on1, rfl, rfl, hl1, invV_n hg.len hinv⟩)
end Go.Proofs.YtfilfijammemfaaGreatDoor
-- NEWM
namespace Go.Proofs.YtfilfijammemfaaGreatDoor
open Go Go.RowKit
set_option maxRecDepth 100000
structure Wy where
 w : Value
 pts : List Spot
 cl : Bool
abbrev ptR (l : List Spot) : List (List CV) := l.map fun p => [I p.1, I p.2]
abbrev wyR (l : List Wy) : List (List CV) := l.map fun p => [.r p.w (ptR p.pts), B p.cl]
def farS (p : Spot) : Bool := outB p.1 (-100000) 100000 || outB p.2 (-100000) 100000
def wyG : List (List Spot) → Int
 | [] => 0
 | p :: l => if p.length = 0 then 8 else if 500 < p.length then 2 else if (p.any farS) = true then 1 else wyG l
def wyF (l : List (List Spot)) : Int := if 200 < l.length then 2 else wyG l
theorem wyG_drop {l : List (List Spot)} {k : Nat} {p : List Spot} (h : l[k]? = some p) : wyG (l.drop k) = if p.length = 0 then 8 else if 500 < p.length then 2 else if (p.any farS) = true then 1 else wyG (l.drop (k + 1)) := by
 obtain ⟨h1, h2⟩ := List.getElem?_eq_some_iff.1 h
 rw [List.drop_eq_getElem_cons h1, h2]; rfl
theorem farS_f {p : Spot} : farS p = false ↔ (-100000 ≤ p.1 ∧ p.1 ≤ 100000) ∧ (-100000 ≤ p.2 ∧ p.2 ≤ 100000) := by
 unfold farS outB
 simp only [Bool.or_eq_false_iff, decide_eq_false_iff_not]
 omega
theorem wyG_0 : ∀ {l : List (List Spot)}, wyG l = 0 → ∀ p ∈ l, (0 < p.length ∧ p.length ≤ 500) ∧ ∀ q ∈ p, (-100000 ≤ q.1 ∧ q.1 ≤ 100000) ∧ (-100000 ≤ q.2 ∧ q.2 ≤ 100000)
 | [], _, p, hp => (by cases hp)
 | d :: l, h, p, hp => by
  unfold wyG at h
  split at h
  ·cases h
  split at h
  ·cases h
  split at h
  ·cases h
  rename_i h1 h2 h3
  rcases List.mem_cons.1 hp with rfl | hp
  ·refine ⟨by omega, fun q hq => farS_f.1 ?_⟩
   rw [← Bool.not_eq_true]
   intro e
   exact h3 (List.any_eq_true.2 ⟨q, hq, e⟩)
  ·exact wyG_0 h p hp
theorem isfar_v (p : Spot) : ACalls Tryz.prog 158 [.a [.c (I p.1), .c (I p.2)]] [] fun u H => u = .c (B (farS p)) ∧ H = [] := by
 obtain ⟨x, y⟩ := p
 obtain ⟨b1, h1⟩ : ∃ q, outB x (-100000) 100000 = q := ⟨_, rfl⟩
 have hf : farS (x, y) = (b1 || outB y (-100000) 100000) := by rw [← h1]; rfl
 obtain ⟨b2, h2⟩ : ∃ q, outB y (-100000) 100000 = q := ⟨_, rfl⟩
 rw [hf, h2]
 refine ze (N := 11) Tryz.func158 rfl rfl (by simp) fun E hE => ?_
 cases b1 with
 | true =>
  repeat' (first
   | (with_reducible refine zt1 ?_) | (with_reducible refine zw1 ?_) | (with_reducible refine zv1 ?_) | (with_reducible refine zA1 ?_) | (with_reducible refine zy1 ?_) | (with_reducible refine zB1 ?_) | (with_reducible refine zz1 rfl ?_) | (with_reducible refine zx1 ?_) | (with_reducible refine zV ?_) | (with_reducible refine zM ?_) | (with_reducible refine zu1 ?_) | (with_reducible refine zX ?_)
   | refine zb rfl ?_ | refine zd rfl ?_ | refine zW rfl (by assumption) ?_ | refine zP rfl (by assumption) ?_ | refine zl rfl (fun _ => ?_) (fun _ => ?_) | refine zC rfl (fun _ => ?_) (fun _ => ?_)
   | (refine zo (id := 1) ?_
      refine WO ?_
      refine zf rfl (za false (fun _ => out_v _ _ _) rfl .fn rfl (by decide) (by kernel_rfl) rfl (fun _ => C0 rfl) (by simp)) ?_
      rintro _ _ ⟨_, _, _, ⟨rfl, rfl⟩, hF, hH⟩
      rw [h1] at hF
      (refine NST hF hH ?_; clear hF hH; rintro rfl rfl)
      refine WO ?_
      first | refine ZS ?_ | (refine G1 rfl ?_; refine zf rfl (za false (fun _ => out_v _ _ _) rfl .fn rfl (by decide) (by kernel_rfl) rfl (fun _ => C0 rfl) (by simp)) ?_; rintro _ _ ⟨_, _, _, ⟨rfl, rfl⟩, hF, hH⟩; rw [h2] at hF; (refine NST hF hH ?_; clear hF hH; rintro rfl rfl)) | skip
      refine WE ?_)
   | (refine zo ?_; refine WE ?_))
  exact zi [] _ rfl rfl rfl (by decide) (ZNK rfl) (fun _ => .nil) ⟨rfl, rfl⟩
 | false =>
  repeat' (first
   | (with_reducible refine zt1 ?_) | (with_reducible refine zw1 ?_) | (with_reducible refine zv1 ?_) | (with_reducible refine zA1 ?_) | (with_reducible refine zy1 ?_) | (with_reducible refine zB1 ?_) | (with_reducible refine zz1 rfl ?_) | (with_reducible refine zx1 ?_) | (with_reducible refine zV ?_) | (with_reducible refine zM ?_) | (with_reducible refine zu1 ?_) | (with_reducible refine zX ?_)
   | refine zb rfl ?_ | refine zd rfl ?_ | refine zW rfl (by assumption) ?_ | refine zP rfl (by assumption) ?_ | refine zl rfl (fun _ => ?_) (fun _ => ?_) | refine zC rfl (fun _ => ?_) (fun _ => ?_)
   | (refine zo (id := 1) ?_
      refine WO ?_
      refine zf rfl (za false (fun _ => out_v _ _ _) rfl .fn rfl (by decide) (by kernel_rfl) rfl (fun _ => C0 rfl) (by simp)) ?_
      rintro _ _ ⟨_, _, _, ⟨rfl, rfl⟩, hF, hH⟩
      rw [h1] at hF
      (refine NST hF hH ?_; clear hF hH; rintro rfl rfl)
      refine WO ?_
      first | refine ZS ?_ | (refine G1 rfl ?_; refine zf rfl (za false (fun _ => out_v _ _ _) rfl .fn rfl (by decide) (by kernel_rfl) rfl (fun _ => C0 rfl) (by simp)) ?_; rintro _ _ ⟨_, _, _, ⟨rfl, rfl⟩, hF, hH⟩; rw [h2] at hF; (refine NST hF hH ?_; clear hF hH; rintro rfl rfl)) | skip
      refine WE ?_)
   | (refine zo ?_; refine WE ?_))
  exact zi [] _ rfl rfl rfl (by decide) (ZNK rfl) (fun _ => .nil) ⟨by rw [Bool.false_or], rfl⟩
set_option maxHeartbeats 1000000 in
theorem idxfar_v (v : Value) (l : List Spot) (hl : l.length ≤ 1000000) : ACalls Tryz.prog 210 [.c (.r v (ptR l)), .f (.func 158) []] [] fun u H => ∃ r : Int, u = .c (I r) ∧ H = [] ∧ (0 ≤ r ↔ l.any farS = true) := by
 have e1 : (ptR l).length = l.length := by simp
 refine ze (N := 19) Tryz.func210 rfl rfl (by simp) fun E hE => ?_
 refine WA ?_
 refine WA ?_
 refine zk (fun m F H => ∃ (k : Nat), m + k = l.length ∧ (l.drop k).any farS = l.any farS ∧ F = [(0, .c (.r v (ptR l))), (1, .f (.func 158) []), (7, .c (I (ptR l).length)), (8, .c (I k))] ∧ H = []) ?_ ?_
 ·refine zh [] (fun _ => [(0, .c (.r v (ptR l))), (1, .f (.func 158) []), (7, .c (I (ptR l).length)), (8, .c (I (0 : Nat)))]) (fun _ => []) (by decide) (ZNL hE) ZCF (fun _ => .nil) (fun _ => ?_)
  exact ⟨l.length, 0, by omega, rfl, rfl, rfl⟩
 rintro m F H ⟨k, hk, hf, rfl, rfl⟩
 refine WA ?_
 refine zl rfl (fun hlt => ?_) (fun hge => ?_)
 ·obtain ⟨⟨sx, sy⟩, hz⟩ : ∃ e, l[k]? = some e := ⟨_, List.getElem?_eq_getElem (by omega)⟩
  have hrow : (ptR l)[k]? = some [I sx, I sy] := by rw [List.getElem?_map, hz]; rfl
  have hfd : (l.drop k).any farS = (farS (sx, sy) || (l.drop (k + 1)).any farS) := by
   obtain ⟨h1, h2⟩ := List.getElem?_eq_some_iff.1 hz
   rw [List.drop_eq_getElem_cons h1, h2]; rfl
  refine WA ?_
  refine WR ?_
  refine zf rfl (za false (fun _ => isfar_v (sx, sy)) rfl (.clo rfl) rfl (by decide) (by kernel_rfl) rfl (fun _ => C0 rfl) (by simp)) ?_
  rintro _ _ ⟨_, _, _, ⟨rfl, rfl⟩, hF, hH⟩
  (refine NST hF hH ?_; clear hF hH; rintro rfl rfl)
  refine WE ?_
  refine zC rfl (fun hpz => ?_) (fun hpz => ?_)
  ·refine WA ?_
   refine zi [] _ rfl rfl rfl (by decide) (ZNK rfl) (fun _ => .nil) ⟨_, rfl, rfl, ?_⟩
   rw [← hf, hfd, hpz]
   simp
  ·refine ZZ ?_
   refine WA ?_
   refine zh [] (fun _ => [(0, .c (.r v (ptR l))), (1, .f (.func 158) []), (7, .c (I (ptR l).length)), (8, .c (I (k + 1 : Nat)))]) (fun _ => []) (by decide) (ZNL hE) ZCF (fun _ => .nil) (fun _ => ?_)
   exact ⟨m - 1, by omega, k + 1, by omega, by rw [← hf, hfd, hpz]; rfl, rfl, rfl⟩
 refine ZZ ?_
 refine WA ?_
 refine zi [] _ rfl rfl rfl (by decide) (ZNK rfl) (fun _ => .nil) ⟨_, rfl, rfl, ?_⟩
 rw [← hf, List.drop_eq_nil_of_le (by omega)]; simp
theorem contfar_v (v : Value) (l : List Spot) (hl : l.length ≤ 1000000) : ACalls Tryz.prog 157 [.c (.r v (ptR l)), .f (.func 158) []] [] fun u H => u = .c (B (l.any farS)) ∧ H = [] := by
 refine ze (N := 9) Tryz.func157 rfl rfl (by simp) fun E hE => ?_
 repeat' (first
  | (with_reducible refine zt1 ?_) | (with_reducible refine zw1 ?_) | (with_reducible refine zv1 ?_) | (with_reducible refine zA1 ?_) | (with_reducible refine zy1 ?_) | (with_reducible refine zB1 ?_) | (with_reducible refine zz1 rfl ?_) | (with_reducible refine zx1 ?_) | (with_reducible refine zV ?_) | (with_reducible refine zM ?_) | (with_reducible refine zu1 ?_) | (with_reducible refine zX ?_)
  | refine zb rfl ?_ | refine zd rfl ?_ | refine zW rfl (by assumption) ?_ | refine zP rfl (by assumption) ?_ | refine zl rfl (fun _ => ?_) (fun _ => ?_) | refine zC rfl (fun _ => ?_) (fun _ => ?_)
  | (refine zo (id := 1) ?_
     refine WO ?_
     refine zf rfl (za false (fun _ => idxfar_v v l hl) rfl .fn rfl (by decide) (by kernel_rfl) rfl (fun _ => C0 rfl) (by simp)) ?_
     rintro _ _ ⟨_, _, _, ⟨r, rfl, rfl, hr⟩, hF, hH⟩
     (refine NST hF hH ?_; clear hF hH; rintro rfl rfl)
     refine WE ?_)
  | (refine zo ?_; refine WE ?_))
 exact zi [] _ rfl rfl rfl (by decide) (ZNK rfl) (fun _ => .nil) ⟨congrArg (fun z => AV.c (B z)) (by rw [Bool.eq_iff_iff, ← hr]; simp), rfl⟩
set_option maxHeartbeats 2000000 in
theorem pfault_v (v : Value) (l : List Wy) (hl : l.length ≤ 1000000) (hp : ∀ p ∈ l, p.pts.length ≤ 1000000) : ACalls Tryz.prog 114 [.c (.r v (wyR l))] [] fun u H => u = .c (I (wyF (l.map (·.pts)))) ∧ H = [] := by
 have e1 : (wyR l).length = l.length := by simp
 have e2 : (l.map (·.pts)).length = l.length := by simp
 refine ze (N := 29) Tryz.func114 rfl rfl (by simp) fun E hE => ?_
 refine WA ?_
 refine WA ?_
 refine zl rfl (fun hlong => ?_) (fun hlong => ?_)
 ·have hw : wyF (l.map (·.pts)) = 2 := by unfold wyF; rw [if_pos (by omega)]
  rw [hw]
  refine WA ?_
  exact zi [] _ rfl rfl rfl (by decide) (ZNK rfl) (fun _ => .nil) ⟨rfl, rfl⟩
 have hw : wyF (l.map (·.pts)) = wyG (l.map (·.pts)) := by unfold wyF; rw [if_neg (by omega)]
 rw [hw]
 clear hw
 refine ZZ ?_
 refine WA ?_
 refine zk (fun m F H => ∃ (k : Nat), m + k = l.length ∧ wyG ((l.map (·.pts)).drop k) = wyG (l.map (·.pts)) ∧ F = [(8, .c (.r v (wyR l))), (9, .c (I (wyR l).length)), (10, .c (I k))] ∧ H = []) ?_ ?_
 ·refine zh [] (fun _ => [(8, .c (.r v (wyR l))), (9, .c (I (wyR l).length)), (10, .c (I (0 : Nat)))]) (fun _ => []) (by decide) (ZNL hE) ZCF (fun _ => .nil) (fun _ => ?_)
  exact ⟨l.length, 0, by omega, rfl, rfl, rfl⟩
 rintro m F H ⟨k, hk, hf, rfl, rfl⟩
 refine WA ?_
 refine zl rfl (fun hlt => ?_) (fun hge => ?_)
 ·obtain ⟨⟨pw, pp, pc⟩, hz⟩ : ∃ e, l[k]? = some e := ⟨_, List.getElem?_eq_getElem (by omega)⟩
  have hrow : (wyR l)[k]? = some [.r pw (ptR pp), B pc] := by rw [List.getElem?_map, hz]; rfl
  have hzc : (l.map (·.pts))[k]? = some pp := by rw [List.getElem?_map, hz]; rfl
  have hd := wyG_drop hzc
  have hpl : pp.length ≤ 1000000 := hp _ (List.mem_of_getElem? hz)
  have e3 : (ptR pp).length = pp.length := by simp
  refine WA ?_
  refine WA ?_
  refine zl rfl (fun h1 => ?_) (fun h1 => ?_)
  ·have hv : wyG (l.map (·.pts)) = 8 := by rw [← hf, hd, if_pos (by omega)]
   rw [hv]
   refine WA ?_
   exact zi [] _ rfl rfl rfl (by decide) (ZNK rfl) (fun _ => .nil) ⟨rfl, rfl⟩
  rw [if_neg (by omega)] at hd
  refine WA ?_
  refine zl rfl (fun h2 => ?_) (fun h2 => ?_)
  ·have hv : wyG (l.map (·.pts)) = 2 := by rw [← hf, hd, if_pos (by omega)]
   rw [hv]
   refine WA ?_
   exact zi [] _ rfl rfl rfl (by decide) (ZNK rfl) (fun _ => .nil) ⟨rfl, rfl⟩
  rw [if_neg (by omega)] at hd
  obtain ⟨bf, hbf⟩ : ∃ q, pp.any farS = q := ⟨_, rfl⟩
  cases bf with
  | true =>
   have hv : wyG (l.map (·.pts)) = 1 := by rw [← hf, hd, if_pos hbf]
   rw [hv]
   refine WR ?_
   refine zf rfl (za false (fun _ => contfar_v pw pp (by omega)) rfl .fn rfl (by decide) (by kernel_rfl) rfl (fun _ => C0 rfl) (by simp)) ?_
   rintro _ _ ⟨_, _, _, ⟨rfl, rfl⟩, hF, hH⟩
   rw [hbf] at hF
   (refine NST hF hH ?_; clear hF hH; rintro rfl rfl)
   refine WE ?_
   refine zb rfl ?_
   refine WA ?_
   exact zi [] _ rfl rfl rfl (by decide) (ZNK rfl) (fun _ => .nil) ⟨rfl, rfl⟩
  | false =>
   rw [if_neg (by rw [hbf]; simp)] at hd
   refine WR ?_
   refine zf rfl (za false (fun _ => contfar_v pw pp (by omega)) rfl .fn rfl (by decide) (by kernel_rfl) rfl (fun _ => C0 rfl) (by simp)) ?_
   rintro _ _ ⟨_, _, _, ⟨rfl, rfl⟩, hF, hH⟩
   rw [hbf] at hF
   (refine NST hF hH ?_; clear hF hH; rintro rfl rfl)
   refine WE ?_
   refine zd rfl ?_
   refine ZZ ?_
   refine WA ?_
   refine zh [] (fun _ => [(8, .c (.r v (wyR l))), (9, .c (I (wyR l).length)), (10, .c (I (k + 1 : Nat)))]) (fun _ => []) (by decide) (ZNL hE) ZCF (fun _ => .nil) (fun _ => ?_)
   exact ⟨m - 1, by omega, k + 1, by omega, by rw [← hd, hf], rfl, rfl⟩
 obtain rfl : k = l.length := by omega
 rw [List.drop_eq_nil_of_le (by omega)] at hf
 have hv : wyG (l.map (·.pts)) = 0 := hf.symm
 rw [hv]
 refine ZZ ?_
 refine WA ?_
 exact zi [] _ rfl rfl rfl (by decide) (ZNK rfl) (fun _ => .nil) ⟨rfl, rfl⟩
end Go.Proofs.YtfilfijammemfaaGreatDoor
