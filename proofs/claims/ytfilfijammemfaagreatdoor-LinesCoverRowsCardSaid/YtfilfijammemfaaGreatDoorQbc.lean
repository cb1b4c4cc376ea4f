/- Walks through strings; sets of spots in the logic. -/
import Derived.Test.YtfilfijammemfaaGreatDoorQbb
import Derived.Test.YtfilfijammemfaaGreatDoorQax
import Derived.Test.YtfilfijammemfaaGreatDoorQaw
import Derived.Test.YtfilfijammemfaaGreatDoorQay
import Derived.Test.YtfilfijammemfaaGreatDoorQam
set_option linter.unusedSimpArgs false
set_option linter.unusedVariables false
-- NEWM
-- NILC
namespace Go.Proofs.YtfilfijammemfaaGreatDoor
open Go Go.RowKit
set_option maxRecDepth 100000
abbrev notG (h : Grd) (q : Spot) : Bool := !decide (q ∈ covG h)
set_option maxHeartbeats 1000000 in
theorem without1_v (h : Grd) (hh : GOk h) (p2 o2 p3 : Value) (g : Grd) (hg : GOk g) (on : List Bool) (k : Nat) (hk : k < g.on.length) (hon : on.length = g.w * g.h) (a b : Int) (ha : a = g.x + (k : Int) % g.w) (hb : b = g.y + (k : Int) / g.w) : ACalls Tryz.prog 120 [.c (I a), .c (I b), .c (.p p3 [.p p2 (gRow h o2)]), .p 0 0 0] [.box [.p 1 0 0], gB g.st g.x g.y g.w g.h 2 (g.w * g.h), gArr (g.w * g.h) on] fun u H => u = .t [] ∧ H = [.box [.p 1 0 0], gB g.st g.x g.y g.w g.h 2 (g.w * g.h), gArr (g.w * g.h) (if notG h (a, b) = true then on.set k true else on)] := by
 obtain ⟨w1, ⟨w2, w3⟩, w4, w5⟩ := each_at hg hk
 have hgx := hg.x
 have hgy := hg.y
 have hi := spt_ix w1 ha hb
 have hnb : g.w * g.h ≤ 1000000 := Nat.le_trans (Nat.mul_le_mul hg.w hg.h) (by decide)
 have hkn : k < g.w * g.h := by rw [← hg.len]; exact hk
 obtain ⟨q, hq⟩ : ∃ q, decide ((a, b) ∈ covG h) = q := ⟨_, rfl⟩
 rw [show notG h (a, b) = !q by rw [← hq]]
 refine zK false (N := 15) Tryz.func120 rfl rfl (by simp) fun E hE hP => ?_
 cases q with
 | false =>
  refine ZR ?_
  refine ZA (zO rfl (by kernel_rfl) rfl rfl) ?_
  refine WO ?_
  refine zf rfl (za false (fun _ => at_v h p2 o2 a b hh (by omega) (by omega)) rfl .fn rfl (by decide) (by kernel_rfl) rfl (fun _ => C0 rfl) (by simp)) ?_
  rintro _ _ ⟨_, _, _, ⟨rfl, rfl⟩, hF, hH⟩
  rw [atG_eq hh.len, hq] at hF
  (refine NST hF hH ?_; clear hF hH; rintro rfl rfl)
  refine WE ?_
  refine zb rfl ?_
  refine WR ?_
  refine zf rfl (zb1 [1, 2] (fun _ => [gB g.st g.x g.y g.w g.h 1 (g.w * g.h), gArr (g.w * g.h) on]) false (fun _ => set_v g.st g.x g.y g.w g.h on (g.w * g.h) a b k hon hi (by omega) hnb (by omega) (by omega) hgx hgy) rfl .fn rfl (by decide) (by kernel_rfl) rfl (fun _ => .cons (.p rfl) (.cons (.c rfl) (.cons (.c rfl) .nil))) (by decide) ZCH (by simp)) ?_
  rintro F1 H1 ⟨_, _, _, _, ⟨rfl, rfl⟩, hF, hH⟩
  rw [zI] at hF; (refine NSU hF hH ?_; clear hF hH; rintro rfl rfl)
  refine WE ?_
  exact zF1 [some 0, some 1, some 2] (fun _ => [.box [.p 1 0 0], gB g.st g.x g.y g.w g.h 2 (g.w * g.h), gArr (g.w * g.h) (on.set k true)]) (.inr rfl) rfl (by decide) (ZNK rfl) ZCH (fun _ => ⟨rfl, rfl⟩)
 | true =>
  refine ZR ?_
  refine ZA (zO rfl (by kernel_rfl) rfl rfl) ?_
  refine WO ?_
  refine zf rfl (za false (fun _ => at_v h p2 o2 a b hh (by omega) (by omega)) rfl .fn rfl (by decide) (by kernel_rfl) rfl (fun _ => C0 rfl) (by simp)) ?_
  rintro _ _ ⟨_, _, _, ⟨rfl, rfl⟩, hF, hH⟩
  rw [atG_eq hh.len, hq] at hF
  (refine NST hF hH ?_; clear hF hH; rintro rfl rfl)
  refine WE ?_
  refine zd rfl ?_
  refine ZZ ?_
  exact zF1 [some 0, some 1, some 2] (fun _ => [.box [.p 1 0 0], gB g.st g.x g.y g.w g.h 2 (g.w * g.h), gArr (g.w * g.h) on]) (.inr rfl) rfl (by decide) (ZNK rfl) ZCH (fun _ => ⟨rfl, rfl⟩)
set_option maxHeartbeats 1000000 in
theorem each_without (g : Grd) (pv v : Value) (h : Grd) (hh : GOk h) (p2 o2 p3 : Value) (hg : GOk g)  : ACalls Tryz.prog 78 [gV pv v g, .f (.func 120) [.c (.p p3 [.p p2 (gRow h o2)]), .p 0 0 0]] [.box [.p 1 0 0], gB g.st g.x g.y g.w g.h 2 (g.w * g.h), gArr (g.w * g.h) (filK g (notG h) 0)] fun u H => u = .t [] ∧ H = [.box [.p 1 0 0], gB g.st g.x g.y g.w g.h 2 (g.w * g.h), gArr (g.w * g.h) ((filG g (notG h)).on)] := by
 have hn := hg.n
 have hgx := hg.x
 have hgy := hg.y
 have eo : (oR g.on).length = g.on.length := by simp
 refine zK false (N := 42) Tryz.func78 rfl rfl (by simp) fun E hE hP => ?_
 refine WA ?_
 refine zk (fun m F H => ∃ k : Nat, m + k = g.on.length ∧ F = [(0, gV pv v g), (1, .f (.func 120) [.c (.p p3 [.p p2 (gRow h o2)]), .p 0 0 0]), (9, .c (.r v (oR g.on))), (10, .c (I (oR g.on).length)), (11, .c (I k))] ∧ H = [.box [.p 1 0 0], gB g.st g.x g.y g.w g.h 2 (g.w * g.h), gArr (g.w * g.h) (filK g (notG h) k)]) ?_ ?_
 ·refine zh [some 0, some 1, some 2] (fun _ => [(0, gV pv v g), (1, .f (.func 120) [.c (.p p3 [.p p2 (gRow h o2)]), .p 0 0 0]), (9, .c (.r v (oR g.on))), (10, .c (I (oR g.on).length)), (11, .c (I (0 : Nat)))]) (fun _ => [.box [.p 1 0 0], gB g.st g.x g.y g.w g.h 2 (g.w * g.h), gArr (g.w * g.h) (filK g (notG h) 0)]) (by decide) (ZNL hE) ZCF ZCH (fun _ => ?_)
  exact ⟨g.on.length, 0, by omega, rfl, rfl⟩
 rintro m F H ⟨k, hk, rfl, rfl⟩
 refine WA ?_
 refine zl rfl (fun hlt => ?_) (fun hge => ?_)
 ·have hkn : k < g.on.length := by omega
  obtain ⟨b, hb⟩ : ∃ b, g.on[k]? = some b := ⟨_, List.getElem?_eq_getElem hkn⟩
  have hrow : (oR g.on)[k]? = some [B b] := by rw [List.getElem?_map, hb]; rfl
  obtain ⟨w1, ⟨w2, w3⟩, w4, w5⟩ := each_at hg hkn
  refine WA ?_
  refine WA ?_
  cases b with
  | true =>
   refine zb rfl ?_
   have hnx : filK g (notG h) (k + 1) = if notG h (spt g k) = true then (filK g (notG h) k).set k true else filK g (notG h) k := by rw [filK_next hb, Bool.true_and]
   refine ZZ ?_
   refine zg [(0, none), (1, none), (2, none), (3, none), (4, none), (5, none), (6, none), (7, none), (8, none), (9, none), (10, none), (11, none), (12, none), (13, none), (14, none), (15, none), (16, none), (17, none), (18, none), (19, none), (20, none), (21, none), (22, none), (23, some [])] zn (by kernel_rfl) ?_
   refine WP ?_
   refine zY rfl rfl (zD [0, 1, 2] (fun _ => [.box [.p 1 0 0], gB g.st g.x g.y g.w g.h 2 (g.w * g.h), gArr (g.w * g.h) (filK g (notG h) k)]) false (fun _ => without1_v h hh p2 o2 p3 g hg (filK g (notG h) k) k hkn (by rw [filK_len (by omega)]; exact hg.len) _ _ rfl rfl) rfl (.clo rfl) rfl (by decide) (by kernel_rfl) rfl ZCH (by decide) ZCH (by simp)) ?_
   rintro F1 H1 ⟨_, _, _, _, ⟨rfl, rfl⟩, hF, hH⟩
   rw [spt_eq, ← hnx] at hH
   (refine NSU hF hH ?_; clear hF hH; rintro rfl rfl)
   refine ⟨zm, ?_⟩
   refine WQ ?_
   refine WA ?_
   refine zh [some 0, some 1, some 2] (fun _ => [(0, gV pv v g), (1, .f (.func 120) [.c (.p p3 [.p p2 (gRow h o2)]), .p 0 0 0]), (9, .c (.r v (oR g.on))), (10, .c (I (oR g.on).length)), (11, .c (I (k + 1 : Nat)))]) (fun _ => [.box [.p 1 0 0], gB g.st g.x g.y g.w g.h 2 (g.w * g.h), gArr (g.w * g.h) (filK g (notG h) (k + 1))]) (by decide) (ZNL hE) ZCF ZCH (fun _ => ?_)
   exact ⟨m - 1, by omega, k + 1, by omega, rfl, rfl⟩
  | false =>
   refine zd rfl ?_
   refine ZZ ?_
   refine WA ?_
   refine zh [some 0, some 1, some 2] (fun _ => [(0, gV pv v g), (1, .f (.func 120) [.c (.p p3 [.p p2 (gRow h o2)]), .p 0 0 0]), (9, .c (.r v (oR g.on))), (10, .c (I (oR g.on).length)), (11, .c (I (k + 1 : Nat)))]) (fun _ => [.box [.p 1 0 0], gB g.st g.x g.y g.w g.h 2 (g.w * g.h), gArr (g.w * g.h) (filK g (notG h) (k + 1))]) (by decide) (ZNL hE) ZCF (by rw [show filK g (notG h) (k + 1) = filK g (notG h) k by rw [filK_next hb, if_neg (by simp)]]; exact ZCH) (fun _ => ?_)
   exact ⟨m - 1, by omega, k + 1, by omega, rfl, rfl⟩
 obtain rfl : k = g.on.length := by omega
 refine ZZ ?_
 rw [filK_end]
 exact zF1 [some 0, some 1, some 2] (fun _ => [.box [.p 1 0 0], gB g.st g.x g.y g.w g.h 2 (g.w * g.h), gArr (g.w * g.h) ((filG g (notG h)).on)]) (.inr rfl) rfl (by decide) (ZNK rfl) ZCH (fun _ => ⟨rfl, rfl⟩)
set_option maxHeartbeats 2000000 in
theorem without_v (p1 o1 p2 o2 : Value) (g h : Grd) (hg : GOk g) (hh : GOk h) : ACalls Tryz.prog 75 [gV p1 o1 g, gV p2 o2 h] [] fun u H => ∃ pv v, u = gV pv v (filG g (notG h)) ∧ H = [] := by
 have hgx := hg.x
 have hgy := hg.y
 have hgw := hg.w
 have hgh := hg.h
 have hf0 : filK g (notG h) 0 = List.replicate (g.w * g.h) false := by rw [filK_0, hg.len]
 refine ze (N := 31) Tryz.func75 rfl rfl (by simp) fun E hE => ?_
 refine WA ?_
 refine aw_cut (fun F H => ∃ p3, F = [(0, gV p1 o1 g), (3, .c (.p p3 [.p p2 (gRow h o2)])), (5, .p 0 0 0)] ∧ H = [.box [.p 1 0 0], gB g.st g.x g.y g.w g.h 2 (g.w * g.h), gArr (g.w * g.h) (filK g (notG h) 0)]) ?_ ?_ wk_aw
 ·rw [hf0]
  refine ZZ ?_
  refine aw_regionM [[(0, none), (1, none), (2, none), (3, none), (4, none), (5, none), (6, none), (7, none), (8, none), (9, none), (10, none), (11, none), (12, none), (13, none), (14, none), (15, none), (16, none), (17, none), (18, none), (19, none), (20, some []), (21, some [0, 1, 2, 3, 4, 5, 6, 7, 8, 9, 10, 11, 12, 13, 14, 15, 16, 17, 18, 19]), (22, some [])], [(0, none), (1, none), (2, none), (3, none), (4, none), (5, none), (6, none), (7, none), (8, none), (9, none), (10, none), (11, none), (12, none), (13, none), (14, none), (15, none), (16, none), (17, none), (18, none), (19, none), (21, some [0, 1, 2, 3, 4, 5, 6, 7, 8, 9, 10, 11, 12, 13, 14, 15, 16, 17, 18, 19]), (20, some []), (22, some [])]] zn (by kernel_rfl) ?_
  focus
   refine WM ?_
   refine am_two (by rfl) (by rfl) (by rfl) ?_ ?_
   rotate_left
   refine WM ?_
   refine zW1 (i := 20) (by rfl) (by rfl) rfl rfl (za false (fun _ => zV1 g.st g.x g.y g.w g.h hg.w hg.h) rfl .fn rfl (by decide) (by kernel_rfl) rfl (fun _ => C0 rfl) (by simp)) ?_
   rintro _ _ ⟨_, _, _, ⟨rfl, rfl⟩, hF, hH⟩
   (refine NST hF hH ?_; clear hF hH; rintro rfl rfl)
   refine ⟨AGX, ?_⟩
   refine WN ?_
   rotate_right
   refine zW1 (i := 20) (by rfl) (by rfl) rfl rfl (za false (fun _ => zV1 g.st g.x g.y g.w g.h hg.w hg.h) rfl .fn rfl (by decide) (by kernel_rfl) rfl (fun _ => C0 rfl) (by simp)) ?_
   rintro _ _ ⟨_, _, _, ⟨rfl, rfl⟩, hF, hH⟩
   (refine NST hF hH ?_; clear hF hH; rintro rfl rfl)
   refine ⟨AGX, ?_⟩
   refine WN ?_
  all_goals (first
   | exact zh [some 3, some 1, some 2] (fun f => [(0, gV p1 o1 g), (3, .c (.p (f (.p 0 0 0)) [.p p2 (gRow h o2)])), (5, .p 0 0 0)]) (fun _ => [.box [.p 1 0 0], gB g.st g.x g.y g.w g.h 2 (g.w * g.h), gArr (g.w * g.h) (List.replicate (g.w * g.h) false)]) (by decide) (ZNL hE) (fun _ => .cons rfl (.c rfl) (.cons rfl (frzpL rfl rfl (.cons (.c rfl) .nil)) (.cons rfl (.p rfl) .nil))) ZCH (fun _ => ⟨_, rfl, rfl⟩)
   | exact zh [some 1, some 2, some 3] (fun f => [(0, gV p1 o1 g), (3, .c (.p (f (.p 0 0 0)) [.p p2 (gRow h o2)])), (5, .p 0 0 0)]) (fun _ => [.box [.p 1 0 0], gB g.st g.x g.y g.w g.h 2 (g.w * g.h), gArr (g.w * g.h) (List.replicate (g.w * g.h) false)]) (by decide) (ZNL hE) (fun _ => .cons rfl (.c rfl) (.cons rfl (frzpL rfl rfl (.cons (.c rfl) .nil)) (.cons rfl (.p rfl) .nil))) ZCH (fun _ => ⟨_, rfl, rfl⟩))
 rintro F H ⟨p3, rfl, rfl⟩
 refine ZZ ?_
 refine WR ?_
 refine zf rfl (zD [0, 1, 2] (fun _ => [.box [.p 1 0 0], gB g.st g.x g.y g.w g.h 2 (g.w * g.h), gArr (g.w * g.h) (filK g (notG h) 0)]) false (fun _ => each_without g p1 o1 h hh p2 o2 p3 hg) rfl .fn rfl (by decide) (by kernel_rfl) rfl ZCH (by decide) ZCH (by simp)) ?_
 rintro F1 H1 ⟨_, _, _, _, ⟨rfl, rfl⟩, hF, hH⟩
 (refine NSU hF hH ?_; clear hF hH; rintro rfl rfl)
 refine WE ?_
 refine zC1 (zh (K := fun F H => ∃ pv1 v1, F = [(5, .p 0 0 0)] ∧ H = [.box [gV pv1 v1 (filG g (notG h))]]) [some 0] (fun _ => [(5, .p 0 0 0)]) (fun f => [.box [gV (f (.p 1 0 0)) (f (.o 2 0 (g.w * g.h) (g.w * g.h))) (filG g (notG h))]]) (by decide) (ZNL hE) ZCF (fun _ => .box rfl (.cons (frzG rfl rfl (by simp [filG, hg.len]) rfl rfl) .nil) .nil) (fun _ => ⟨_, _, rfl, rfl⟩)) ?_
 rintro F H ⟨pv1, v1, rfl, rfl⟩
 refine WA ?_
 exact zi [] _ rfl rfl rfl (by decide) (ZNK rfl) (fun _ => .nil) ⟨pv1, v1, rfl, rfl⟩
def lefT (l : List Wy) (c : Cel) : List Spot := (covL c).filter fun q => !ledB l (ctrS c.st q)
def lefF (c : Cel) (l : List Wy) : Cel × Int := if passF c l ≠ 0 then (⟨0, 0, 0, []⟩, passF c l) else normC c.st (lefT l c)
theorem invP_lef {c : Cel} (hc : RCel c) {l : List Wy} {on : List Bool} (h : InvP (zc c) (ledL l) on) : normC (zc c).st (covG (filG (zc c) (notG { (zc c) with on := on }))) = normC c.st (lefT l c) := by
 rw [zQ]
 refine normC_mem fun q => ?_
 rw [filG_cov, notG, Bool.not_eq_true', decide_eq_false_iff_not, h q, lefT, List.mem_filter, Bool.not_eq_true', ← Bool.not_eq_true, ledB_iff, zN hc, zQ]
 constructor
 ·rintro ⟨h1, h2⟩; exact ⟨h1, fun h3 => h2 ⟨h1, h3⟩⟩
 ·rintro ⟨h1, h2⟩; exact ⟨h1, fun h3 => h2 h3.2⟩
set_option maxHeartbeats 2000000 in
theorem left_v (va v : Value) (c : Cel) (l : List Wy) (hcl : c.rows.length ≤ 1000000000) (hcr : ∀ r ∈ c.rows, r.length ≤ 1000000000) (hl : l.length ≤ 1000000) (hp : ∀ p ∈ l, p.pts.length ≤ 1000000) : ACalls Tryz.prog 28 [celA va c, .c (.r v (wyR l))] [] fun u H => ∃ v', u = .t [celA v' (lefF c l).1, .c (I (lefF c l).2)] ∧ H = [] := by
 obtain ⟨e, he⟩ : ∃ e, passF c l = e := ⟨_, rfl⟩
 by_cases h0 : e ≠ 0
 ·have hcv : lefF c l = (⟨0, 0, 0, []⟩, e) := by unfold lefF; rw [he, if_pos h0]
  refine ze (N := 26) Tryz.func28 rfl rfl (by simp) fun E hE => ?_
  refine WA ?_
  refine WR ?_
  refine zf rfl (za false (fun _ => passed_no va v c l hcl hcr hl hp e he h0) rfl .fn rfl (by decide) (by kernel_rfl) rfl (fun _ => C0 rfl) (by simp)) ?_
  rintro _ _ ⟨_, _, _, ⟨rfl, rfl⟩, hF, hH⟩
  (refine NST hF hH ?_; clear hF hH; rintro rfl rfl)
  refine WE ?_
  refine WA ?_
  refine zb rfl ?_
  refine WA ?_
  exact zq (us := [.a [.c (I 0), .c (I 0), .c (I 0), .c (.r (.slice none 0 0) [])], .c (I e)]) [] (fun g' => .t [.a [.c (I 0), .c (I 0), .c (I 0), .c (.r (.slice none 0 0) [])], .c (I e)]) (fun _ => []) (.cella (n := 4) rfl (by kernel_rfl) (Cells.box rfl) (by simp) (by (try simp only [nm, putL, Nat.reduceAdd, cellsOf, cvOf]) <;> rfl) (.tmp rfl .nil)) (by decide) (fun i hi => absurd hi (Nat.not_lt_zero i)) (fun g' => .tL (.cons (.aL (.cons (.c rfl) (.cons (.c rfl) (.cons (.c rfl) (.cons (.c rfl) .nil))))) (.cons (.c rfl) .nil))) (fun _ => .nil) (fun g' => ⟨.slice none 0 0, by rw [hcv]; rfl, rfl⟩)
 obtain rfl : e = 0 := by omega
 obtain ⟨hc, _⟩ := passF_r he
 have hcv : lefF c l = normC c.st (lefT l c) := by unfold lefF; rw [he, if_neg (by omega)]
 have hic := fun on h => invP_lef (on := on) hc (l := l) h
 have hg := za1 hc
 have hs : 0 ≤ (zc c).st ∧ (zc c).st ≤ 10000 := by rw [zQ]; have := hc.st; omega
 rw [hcv]
 generalize normC c.st (lefT l c) = R at *
 refine ze (N := 26) Tryz.func28 rfl rfl (by simp) fun E hE => ?_
 refine WA ?_
 refine WR ?_
 refine zf rfl (za false (fun _ => passed_ok va v c l hcl hcr hl hp he) rfl .fn rfl (by decide) (by kernel_rfl) rfl (fun _ => C0 rfl) (by simp)) ?_
 rintro _ _ ⟨_, _, _, ⟨pg, og, on, rfl, rfl, hlo, hinv⟩, hF, hH⟩
 (refine NST hF hH ?_; clear hF hH; rintro rfl rfl)
 refine WE ?_
 have hnf0 := hic on hinv
 generalize zc c = g at *
 have hnf : normC (filG g (notG { g with on := on })).st (covG (filG g (notG { g with on := on }))) = R := hnf0
 refine WA ?_
 refine zd rfl ?_
 refine ZZ ?_
 refine zC1 (zh (K := fun F H => ∃ pv1 v1, F = [(4, .p 0 0 0), (6, gV pg og g), (7, gV pv1 v1 { g with on := on })] ∧ H = [.box [.c (I 0), .c (I 0), .c (I 0), .c (.r (.slice none 0 0) [])]]) [some 1] (fun f => [(4, .p 0 0 0), (6, gV pg og g), (7, gV (f (.p 2 0 0)) (f (.o 3 0 (g.w * g.h) (g.w * g.h))) { g with on := on })]) (fun _ => [.box [.c (I 0), .c (I 0), .c (I 0), .c (.r (.slice none 0 0) [])]]) (by decide) (ZNL hE) (fun _ => .cons rfl (.p rfl) (.cons rfl (.c rfl) (.cons rfl (frzG (g := { g with on := on }) rfl rfl hlo rfl rfl) .nil))) ZCH (fun _ => ⟨_, _, rfl, rfl⟩)) ?_
 rintro F H ⟨pv1, v1, rfl, rfl⟩
 have hgu : GOk { g with on := on } := ⟨hlo, hg.w, hg.h, hg.x, hg.y⟩
 refine WR ?_
 refine zf rfl (za false (fun _ => without_v pg og pv1 v1 g { g with on := on } hg hgu) rfl .fn rfl (by decide) (by kernel_rfl) rfl (fun _ => C0 rfl) (by simp)) ?_
 rintro _ _ ⟨_, _, _, ⟨pv2, v3, rfl, rfl⟩, hF, hH⟩
 (refine NST hF hH ?_; clear hF hH; rintro rfl rfl)
 refine zf rfl (za false (fun _ => cells_v (filG g (notG { g with on := on })) pv2 v3 (filG_ok hg _) hs) rfl .fn rfl (by decide) (by kernel_rfl) rfl (fun _ => C0 rfl) (by simp)) ?_
 rintro _ _ ⟨_, _, _, ⟨v2, rfl, rfl⟩, hF, hH⟩
 rw [hnf] at hF
 (refine NST hF hH ?_; clear hF hH; rintro rfl rfl)
 refine WE ?_
 exact zq (us := [celA v2 R.1, .c (I R.2)]) [] (fun _ => .t [celA v2 R.1, .c (I R.2)]) (fun _ => []) (.cella (n := 4) rfl (by kernel_rfl) (Cells.box rfl) (by simp) (by (try simp only [nm, putL, Nat.reduceAdd, cellsOf, cvOf]) <;> rfl) (.tmp rfl .nil)) (by decide) (fun i hi => absurd hi (Nat.not_lt_zero i)) (fun g' => .tL (.cons (.aL (.cons (.c rfl) (.cons (.c rfl) (.cons (.c rfl) (.cons (.c rfl) .nil))))) (.cons (.c rfl) .nil))) (fun _ => .nil) (fun g' => ⟨v2, rfl, rfl⟩)
end Go.Proofs.YtfilfijammemfaaGreatDoor
namespace Go.Proofs.YtfilfijammemfaaGreatDoor
open Go Go.RowKit
set_option maxRecDepth 100000
end Go.Proofs.YtfilfijammemfaaGreatDoor
-- NEWM
-- NILC
namespace Go.Proofs.YtfilfijammemfaaGreatDoor
open Go Go.RowKit
set_option maxRecDepth 100000
end Go.Proofs.YtfilfijammemfaaGreatDoor
-- NEWM
namespace Go.Proofs.YtfilfijammemfaaGreatDoor
open Go Go.RowKit
set_option maxRecDepth 100000
end Go.Proofs.YtfilfijammemfaaGreatDoor
-- NEWM
namespace Go.Proofs.YtfilfijammemfaaGreatDoor
open Go Go.RowKit
set_option maxRecDepth 100000
end Go.Proofs.YtfilfijammemfaaGreatDoor
-- NEWM
namespace Go.Proofs.YtfilfijammemfaaGreatDoor
open Go Go.RowKit
set_option maxRecDepth 100000
end Go.Proofs.YtfilfijammemfaaGreatDoor
-- NEWM
namespace Go.Proofs.YtfilfijammemfaaGreatDoor
open Go Go.RowKit
set_option maxRecDepth 100000
end Go.Proofs.YtfilfijammemfaaGreatDoor
-- NEWM
namespace Go.Proofs.YtfilfijammemfaaGreatDoor
open Go Go.RowKit
set_option maxRecDepth 100000
end Go.Proofs.YtfilfijammemfaaGreatDoor
-- NEWM
namespace Go.Proofs.YtfilfijammemfaaGreatDoor
open Go Go.RowKit
set_option maxRecDepth 100000
theorem celN_st (st : Int) (L : List Spot) : (celN st L).st = st := by unfold celN; split <;> rfl
end Go.Proofs.YtfilfijammemfaaGreatDoor
-- NEWM
namespace Go.Proofs.YtfilfijammemfaaGreatDoor
open Go Go.RowKit
set_option maxRecDepth 100000
end Go.Proofs.YtfilfijammemfaaGreatDoor
-- NEWM
namespace Go.Proofs.YtfilfijammemfaaGreatDoor
open Go Go.RowKit
set_option maxRecDepth 100000
end Go.Proofs.YtfilfijammemfaaGreatDoor
-- NEWM
namespace Go.Proofs.YtfilfijammemfaaGreatDoor
open Go Go.RowKit
set_option maxRecDepth 100000
end Go.Proofs.YtfilfijammemfaaGreatDoor
-- NEWM
namespace Go.Proofs.YtfilfijammemfaaGreatDoor
open Go Go.RowKit
set_option maxRecDepth 100000
end Go.Proofs.YtfilfijammemfaaGreatDoor
-- NEWM
namespace Go.Proofs.YtfilfijammemfaaGreatDoor
open Go Go.RowKit
set_option maxRecDepth 100000
end Go.Proofs.YtfilfijammemfaaGreatDoor
-- NEWM
namespace Go.Proofs.YtfilfijammemfaaGreatDoor
open Go Go.RowKit
set_option maxRecDepth 100000
end Go.Proofs.YtfilfijammemfaaGreatDoor
namespace Go.Proofs.YtfilfijammemfaaGreatDoor
open Go Go.RowKit
section
variable {P : Program} {N : Nat} {E : Env} {F : Fm} {H : List OB} {o : Oper} {S : Nat → Prop} {ρ : List (Option Nat)} {a : Act} {w : World} {t : TypeId} {x y : Operand}
theorem ef_ranges {d : Nat} {l : List UInt8} (ho : o.op = .range t x) (hd : o.dst = some d) (hN : d < N) (ht : P.underlying t = some .string) (hx : ev F x = some (.c (T l))) :
    Ef P N E o F H fun F' H' => F' = (d, .p H.length 0 0) :: F ∧ H' = H ++ [.sit (bst l) 0] :=
 ef_of hd hN ⟨rfl, rfl⟩ fun S ρ a w hR => by
  have h1 := (hR.ev hx).1
  simp only [AV.den, CV.den] at h1
  refine ⟨S, ρ ++ [some w.heap.size], w.alloc (.stringIter (bst l) 0), ?_, ?_, wf_snoc_p hR.hp _⟩
  ·rw [den_snoc_p hR.hp]
   simp only [execOp, ho, h1, Instr.range, Sem.run_bind, st_under ht, Result.andThen_ok, Sem.run_pure, run_newObj, World.alloc_eq]
  ·exact hR.newO _ (.sit (bst l) 0) ⟨_, rfl, by rw [za2]⟩
theorem decode_bst {l : List UInt8} {k : Nat} {b : UInt8} (hb : l[k]? = some b) (h : b < 128) : Utf8.decode (bst l) k = (b.toNat, 1) := by
 have hk := (List.getElem?_eq_some_iff.1 hb).1
 have h0 : ((bst l).get! (k + 0)).toNat = b.toNat := by
  congr 1
  show (l.toArray)[k + 0]! = b
  simp [getElem!_def, hb]
 unfold Utf8.decode
 simp only [h0]
 have : b.toNat < 128 := h
 rw [if_pos this]
theorem ef_nexts {bi d k : Nat} {l : List UInt8} {b : UInt8} (ho : o.op = .next x true) (hd : o.dst = some d) (hN : d < N) (hx : ev F x = some (.p bi 0 0)) (hi : H[bi]? = some (.sit (bst l) k)) (hb : l[k]? = some b) (h8 : b < 128) :
    Ef P N E o F H fun F' H' => F' = (d, .t [.c (.s (.bool true)), .c (.s (.int .i64 k)), .c (.s (.int .i32 b.toNat))]) :: F ∧ H' = H.set bi (.sit (bst l) (k + 1)) := fun S ρ a w hR => by
 obtain ⟨h1, _⟩ := hR.ev hx
 obtain ⟨Bi, i1, i2⟩ := hR.hp.blk bi _ hi
 have hz : szAt H bi = 0 := by unfold szAt; rw [hi]; rfl
 simp only [AV.den, i1, hz, Option.map_some, Nat.mul_zero, Nat.add_zero, Nat.zero_add] at h1
 have hk := (List.getElem?_eq_some_iff.1 hb).1
 have hg : (getObj Bi).run P w = .ok (.stringIter (bst l) k) w := by unfold getObj; simp [Sem.run, i2]
 have hs : (setObj Bi (.stringIter (bst l) (k + 1))).run P w = .ok () (zr w Bi (.stringIter (bst l) (k + 1))) := by unfold setObj; simp [Sem.run, i2, zr]
 unfold effO
 have hex : (execOp a.eval o).run P w = .ok (.value (.tuple #[.bool true, .int .i64 k, .int .i32 b.toNat])) (zr w Bi (.stringIter (bst l) (k + 1))) := by
  simp only [execOp, ho, h1, Instr.next, Sem.run_bind, hg, Result.andThen_ok]
  rw [if_pos (by rw [zL1]; exact hk), decode_bst hb h8]
  simp only [Sem.run_bind, hs, Result.andThen_ok, Sem.run_pure]
  rfl
 rw [hex]
 refine ⟨S, ρ, _, _, ⟨rfl, rfl⟩, ?_⟩
 rw [hd]
 have hset := R.set (ob := .sit (bst l) k) (ob' := .sit (bst l) (k + 1)) (cob := .stringIter (bst l) (k + 1)) hR hi i1 rfl rfl (fun h => absurd rfl h) (zr1 _ _) ⟨Bi, rfl, zU1 i2⟩
 have := hset.put (d := d) (x := .t [.c (.s (.bool true)), .c (.s (.int .i64 k)), .c (.s (.int .i32 b.toNat))]) hN (.t fun y hy => by
  simp only [List.mem_cons, List.not_mem_nil, or_false] at hy
  rcases hy with rfl | rfl | rfl <;> exact .c (.s _))
 simpa [AV.den, AV.denL, CV.den] using this
theorem ef_nexte {bi d k : Nat} {l : List UInt8} (ho : o.op = .next x true) (hd : o.dst = some d) (hN : d < N) (hx : ev F x = some (.p bi 0 0)) (hi : H[bi]? = some (.sit (bst l) k)) (hk : l.length ≤ k) :
    Ef P N E o F H fun F' H' => F' = (d, .t [.c (.s (.bool false))]) :: F ∧ H' = H := fun S ρ a w hR => by
 obtain ⟨h1, _⟩ := hR.ev hx
 obtain ⟨Bi, i1, i2⟩ := hR.hp.blk bi _ hi
 have hz : szAt H bi = 0 := by unfold szAt; rw [hi]; rfl
 simp only [AV.den, i1, hz, Option.map_some, Nat.mul_zero, Nat.add_zero, Nat.zero_add] at h1
 have hg : (getObj Bi).run P w = .ok (.stringIter (bst l) k) w := by unfold getObj; simp [Sem.run, i2]
 unfold effO
 have hex : (execOp a.eval o).run P w = .ok (.value (.tuple #[.bool false])) w := by
  simp only [execOp, ho, h1, Instr.next, Sem.run_bind, hg, Result.andThen_ok]
  rw [if_neg (by rw [zL1]; omega)]
  rfl
 rw [hex]
 refine ⟨S, ρ, _, _, ⟨rfl, rfl⟩, ?_⟩
 rw [hd]
 exact hR.put (x := .t [.c (.s (.bool false))]) hN (.t fun y hy => by rw [List.mem_singleton.1 hy]; exact .c (.s _))
theorem ef_nextP {bi b ck d : Nat} {seen : List Nat} {l : SE} {L : List Spot} (hok : SetOk l ck L) (ho : o.op = .next x false) (hd : o.dst = some d) (hN : d < N) (hx : ev F x = some (.p bi 0 0)) (hi : H[bi]? = some (.itr b ck seen ck)) (hH : H[b]? = some (mpO encP encT l ck)) :
    Ef P N E o F H fun F' H' => (∃ eb ex ey, (eb, (ex, ey), true) ∈ l ∧ eb ∉ seen ∧ F' = (d, .t [.c (.s (.bool true)), .a [.c (.s (.int .i64 ex)), .c (.s (.int .i64 ey))], .c (.s (.bool true))]) :: F ∧ H' = H.set bi (.itr b ck (seen ++ [eb]) ck)) ∨ ((∀ e ∈ l, e.1 ∈ seen) ∧ F' = (d, .t [.c (.s (.bool false))]) :: F ∧ H' = H) := fun S ρ a w hR => by
 refine zU (fun a' w' hh => ?_) (ef_next (ke := encP) (ve := encT) ho hd hN hx hi hH hok.hb (Nat.le_refl _) S ρ a w hR)
 obtain ⟨S', ρ', F', H', hk, hR'⟩ := hh
 refine ⟨S', ρ', F', H', ?_, hR'⟩
 rcases hk with ⟨⟨eb, ⟨ex, ey⟩, v⟩, h1, h2, h3, h4⟩ | h
 ·obtain rfl : v = true := hok.hv _ h1
  exact .inl ⟨eb, ex, ey, h1, h2, h3, h4⟩
 ·exact .inr h
theorem rd_entryP {bi b ck eb : Nat} {ex ey : Int} {seen : List Nat} {l : SE} {L : List Spot} (hok : SetOk l ck L) (ho : o.op = .entry x) (hx : ev F x = some (.p bi 0 0)) (hi : H[bi]? = some (.itr b ck (seen ++ [eb]) ck)) (hH : H[b]? = some (mpO encP encT l ck)) (he : (eb, (ex, ey), true) ∈ l) :
    Rd P N E o F H (.t [.a [.c (.s (.int .i64 ex)), .c (.s (.int .i64 ey))], .c (.s (.bool true))]) :=
 rd_entry (ke := encP) (ve := encT) (e := (eb, (ex, ey), true)) ho hx hi hH he hok.nb
theorem rd_lookP {t kt et : TypeId} {ix : Operand} {b ck : Nat} {l : SE} {L : List Spot} {p q : Int} (hok : SetOk l ck L) (hk : KeyOk P kt encP) (ho : o.op = .lookup t x ix false) (ht : P.underlying t = some (.map kt et)) (hz : (P.info? et).bind (·.zero) = some (.bool false))
    (hx : ev F x = some (.mp b)) (hH : H[b]? = some (mpO encP encT l ck)) (hi : ev F ix = some (.a [.c (.s (.int .i64 p)), .c (.s (.int .i64 q))])) : Rd P N E o F H (.c (.s (.bool (decide ((p, q) ∈ L))))) := by
 have := rd_lookup (N := N) (E := E) (ke := encP) (ve := encT) (k := (p, q)) (z := false) hk ho ht hz hx hH hi (fun ρ H => by simp [AV.den, AV.denL, CV.den, encP])
 rw [hok.get] at this
 exact this
end
end Go.Proofs.YtfilfijammemfaaGreatDoor
