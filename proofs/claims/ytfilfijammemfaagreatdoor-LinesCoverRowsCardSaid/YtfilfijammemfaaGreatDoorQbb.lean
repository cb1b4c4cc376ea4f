/- Covered, by value. -/
import Derived.Test.YtfilfijammemfaaGreatDoorQba
set_option linter.unusedSimpArgs false
set_option linter.unusedVariables false
-- NEWM
-- NILC
namespace Go.Proofs.YtfilfijammemfaaGreatDoor
open Go Go.RowKit
set_option maxRecDepth 100000
def segW (pts : List Spot) (cl : Bool) (i : Nat) : Spot × Spot := if 0 < i then (pts.getD (i - 1) (0, 0), pts.getD i (0, 0)) else if cl = true then (pts.getD (pts.length - 1) (0, 0), pts.getD 0 (0, 0)) else (pts.getD 0 (0, 0), pts.getD 0 (0, 0))
def ledW (w : Wy) (p : Spot) : Prop := ∃ i, i < w.pts.length ∧ onS (segW w.pts w.cl i).1 (segW w.pts w.cl i).2 p
def ledL (l : List Wy) (p : Spot) : Prop := ∃ w ∈ l, ledW w p
def passF (c : Cel) (l : List Wy) : Int := if celF c ≠ 0 then celF c else wyF (l.map (·.pts))
def InvP (g : Grd) (S : Spot → Prop) (on : List Bool) : Prop := ∀ q, q ∈ covG { g with on := on } ↔ q ∈ covG g ∧ S (ctrS g.st q)
def preW (w : Wy) (i : Nat) (p : Spot) : Prop := ∃ j, j < i ∧ onS (segW w.pts w.cl j).1 (segW w.pts w.cl j).2 p
theorem invP_step {g : Grd} {l : List Wy} {k i : Nat} {w : Wy} {a b : Spot} {on1 on2 : List Bool} (h : InvP g (fun p => ledL (l.take k) p ∨ preW w i p) on1) (hs : segW w.pts w.cl i = (a, b)) (h2 : ∀ q, q ∈ covG { g with on := on2 } ↔ q ∈ covG { g with on := on1 } ∨ (q ∈ covG g ∧ onS a b (ctrS g.st q))) : InvP g (fun p => ledL (l.take k) p ∨ preW w (i + 1) p) on2 := fun q => by
 rw [h2, h q]
 constructor
 ·rintro (⟨h1, h3 | ⟨j, h3, h4⟩⟩ | ⟨h1, h3⟩)
  ·exact ⟨h1, .inl h3⟩
  ·exact ⟨h1, .inr ⟨j, by omega, h4⟩⟩
  ·exact ⟨h1, .inr ⟨i, by omega, by rw [hs]; exact h3⟩⟩
 ·rintro ⟨h1, h3 | ⟨j, h3, h4⟩⟩
  ·exact .inl ⟨h1, .inl h3⟩
  ·by_cases e : j = i
   ·subst e; rw [hs] at h4; exact .inr ⟨h1, h4⟩
   ·exact .inl ⟨h1, .inr ⟨j, by omega, h4⟩⟩
theorem invP_mem {g : Grd} {S T : Spot → Prop} {on : List Bool} (h : InvP g S on) (e : ∀ p, S p ↔ T p) : InvP g T on := fun q => by rw [h q, e]
theorem invP_none {g : Grd} {n : Nat} : InvP g (fun p => ledL [] p) (List.replicate n false) := fun q => ⟨fun h => absurd h cov_none, fun ⟨_, w, hw, _⟩ => by cases hw⟩
set_option maxHeartbeats 4000000 in
theorem passed_v (va v : Value) (c : Cel) (l : List Wy) (hcl : c.rows.length ≤ 1000000000) (hcr : ∀ r ∈ c.rows, r.length ≤ 1000000000) (hl : l.length ≤ 1000000) (hp : ∀ p ∈ l, p.pts.length ≤ 1000000) : ACalls Tryz.prog 71 [celA va c, .c (.r v (wyR l))] [] fun u H => (passF c l ≠ 0 ∧ u = .t [pnil, pnil, .c (I (passF c l))] ∧ H = []) ∨ (passF c l = 0 ∧ RCel c ∧ ∃ pg og on, u = .t [gV pg og (zc c), .p 0 0 0, .c (I 0)] ∧ H = [gB (zc c).st (zc c).x (zc c).y (zc c).w (zc c).h 1 ((zc c).w * (zc c).h), gArr ((zc c).w * (zc c).h) on] ∧ on.length = (zc c).w * (zc c).h ∧ InvP (zc c) (ledL l) on) := by
 obtain ⟨q1, hq1⟩ : ∃ q, celF c = q := ⟨_, rfl⟩
 obtain ⟨q2, hq2⟩ : ∃ q, wyF (l.map (·.pts)) = q := ⟨_, rfl⟩
 refine ze (N := 97) Tryz.func71 rfl rfl (by simp) fun E hE => ?_
 refine WA ?_
 refine WR ?_
 refine zf rfl (za false (fun _ => check_v va c hcl hcr) rfl .fn rfl (by decide) (by kernel_rfl) rfl (fun _ => C0 rfl) (by simp)) ?_
 rintro _ _ ⟨_, _, _, ⟨rfl, rfl⟩, hF, hH⟩
 rw [hq1] at hF
 (refine NST hF hH ?_; clear hF hH; rintro rfl rfl)
 refine WE ?_
 refine WA ?_
 refine zl rfl (fun h1 => ?_) (fun h1 => ?_)
 ·have hf : passF c l = q1 := by unfold passF; rw [hq1, if_pos (by omega)]
  rw [hf]
  refine WA ?_
  exact zq (us := [pnil, pnil, .c (I q1)]) [] (fun _ => .t [pnil, pnil, .c (I q1)]) (fun _ => []) (.tmp rfl (.tmp rfl (.tmp rfl .nil))) (by decide) (fun i hi => absurd hi (Nat.not_lt_zero i)) (fun g' => .tL (.cons (.c rfl) (.cons (.c rfl) (.cons (.c rfl) .nil)))) (fun _ => .nil) (fun g' => .inl ⟨by omega, rfl, rfl⟩)
 refine ZZ ?_
 refine WR ?_
 refine zf rfl (za false (fun _ => pfault_v v l hl hp) rfl .fn rfl (by decide) (by kernel_rfl) rfl (fun _ => C0 rfl) (by simp)) ?_
 rintro _ _ ⟨_, _, _, ⟨rfl, rfl⟩, hF, hH⟩
 rw [hq2] at hF
 (refine NST hF hH ?_; clear hF hH; rintro rfl rfl)
 refine WE ?_
 refine WA ?_
 refine zl rfl (fun h2 => ?_) (fun h2 => ?_)
 ·have hf : passF c l = q2 := by unfold passF; rw [hq1, if_neg (by omega), hq2]
  rw [hf]
  refine WA ?_
  exact zq (us := [pnil, pnil, .c (I q2)]) [] (fun _ => .t [pnil, pnil, .c (I q2)]) (fun _ => []) (.tmp rfl (.tmp rfl (.tmp rfl .nil))) (by decide) (fun i hi => absurd hi (Nat.not_lt_zero i)) (fun g' => .tL (.cons (.c rfl) (.cons (.c rfl) (.cons (.c rfl) .nil)))) (fun _ => .nil) (fun g' => .inl ⟨by omega, rfl, rfl⟩)
 have hf : passF c l = 0 := by unfold passF; rw [hq1, if_neg (by omega), hq2]; omega
 have hc : RCel c := celF_0.1 (by omega)
 have hwl : (l.map (·.pts)).length ≤ 200 ∧ wyG (l.map (·.pts)) = 0 := by
  unfold wyF at hq2
  split at hq2
  ·omega
  ·exact ⟨by omega, by omega⟩
 have hbd := wyG_0 hwl.2
 have hg := za1 hc
 have hs : 1 ≤ (zc c).st ∧ (zc c).st ≤ 10000 := by rw [zQ]; have := hc.st; omega
 rw [hf]
 refine ZZ ?_
 refine WR ?_
 refine zf rfl (za false (fun _ => gridof_v va c hc) rfl .fn rfl (by decide) (by kernel_rfl) rfl (fun _ => C0 rfl) (by simp)) ?_
 rintro _ _ ⟨_, _, _, ⟨pg, og, rfl, rfl⟩, hF, hH⟩
 (refine NST hF hH ?_; clear hF hH; rintro rfl rfl)
 refine WE ?_
 generalize zc c = g at *
 refine ZZ ?_
 refine zg [(0, none), (1, none), (2, none), (3, none), (4, none), (5, none), (6, none), (7, none), (8, none), (9, none), (10, none), (11, none), (12, none), (13, none), (14, none), (15, none), (16, none), (17, none), (18, none), (19, none), (20, some []), (21, none)] zn (by kernel_rfl) ?_
 refine WP ?_
 refine zY rfl rfl (za false (fun _ => zV1 g.st g.x g.y g.w g.h hg.w hg.h) rfl .fn rfl (by decide) (by kernel_rfl) rfl (fun _ => C0 rfl) (by simp)) ?_
 rintro _ _ ⟨_, _, _, ⟨rfl, rfl⟩, hF, hH⟩
 (refine NST hF hH ?_; clear hF hH; rintro rfl rfl)
 refine ⟨zm, ?_⟩
 refine WQ ?_
 refine zC1 (zh (K := fun F H => F = [(1, .c (.r v (wyR l))), (4, gV pg og g), (5, .p 0 0 0)] ∧ H = [gB g.st g.x g.y g.w g.h 1 (g.w * g.h), gArr (g.w * g.h) (List.replicate (g.w * g.h) false)]) [some 1, some 2] (fun _ => [(1, .c (.r v (wyR l))), (4, gV pg og g), (5, .p 0 0 0)]) (fun _ => [gB g.st g.x g.y g.w g.h 1 (g.w * g.h), gArr (g.w * g.h) (List.replicate (g.w * g.h) false)]) (by decide) (ZNL hE) ZCF ZCH (fun _ => ⟨rfl, rfl⟩)) ?_
 rintro F H ⟨rfl, rfl⟩
 have e1 : (wyR l).length = l.length := by simp
 refine WA ?_
 refine zk (fun m F H => ∃ (k : Nat) (on1 : List Bool), m + k = l.length ∧ on1.length = g.w * g.h ∧ InvP g (ledL (l.take k)) on1 ∧ F = [(4, gV pg og g), (5, .p 0 0 0), (46, .c (.r v (wyR l))), (47, .c (I (wyR l).length)), (48, .c (I k))] ∧ H = [gB g.st g.x g.y g.w g.h 1 (g.w * g.h), gArr (g.w * g.h) (on1)]) ?_ ?_
 ·refine zh [some 0, some 1] (fun _ => [(4, gV pg og g), (5, .p 0 0 0), (46, .c (.r v (wyR l))), (47, .c (I (wyR l).length)), (48, .c (I (0 : Nat)))]) (fun _ => [gB g.st g.x g.y g.w g.h 1 (g.w * g.h), gArr (g.w * g.h) (List.replicate (g.w * g.h) false)]) (by decide) (ZNL hE) ZCF ZCH (fun _ => ?_)
  exact ⟨l.length, 0, _, by omega, by simp, by rw [List.take_zero]; exact invP_none, rfl, rfl⟩
 rintro m F H ⟨k, on1, hk, hl1, hinv, rfl, rfl⟩
 refine WA ?_
 refine zl rfl (fun hlt => ?_) (fun hge => ?_)
 ·obtain ⟨⟨pw, pp, pc⟩, hz⟩ : ∃ e, l[k]? = some e := ⟨_, List.getElem?_eq_getElem (by omega)⟩
  have hrow : (wyR l)[k]? = some [.r pw (ptR pp), B pc] := by rw [List.getElem?_map, hz]; rfl
  obtain ⟨hpl, hpb⟩ := hbd pp (List.mem_map.2 ⟨_, List.mem_of_getElem? hz, rfl⟩)
  have htk : l.take (k + 1) = l.take k ++ [⟨pw, pp, pc⟩] := by rw [List.take_add_one, hz]; rfl
  have e3 : (ptR pp).length = pp.length := by simp
  refine WA ?_
  refine WA ?_
  refine zk (fun m2 F H => ∃ (i : Nat) (on1 : List Bool), m2 + i = pp.length ∧ on1.length = g.w * g.h ∧ InvP g (fun p => ledL (l.take k) p ∨ preW ⟨pw, pp, pc⟩ i p) on1 ∧ F = [(4, gV pg og g), (5, .p 0 0 0), (10, .p 2 0 0), (46, .c (.r v (wyR l))), (47, .c (I (wyR l).length)), (48, .c (I k)), (53, .c (.r pw (ptR pp))), (54, .c (I (ptR pp).length)), (55, .c (I i))] ∧ H = [gB g.st g.x g.y g.w g.h 1 (g.w * g.h), gArr (g.w * g.h) (on1), .box [.c (.r pw (ptR pp)), .c (B pc)]]) ?_ ?_
  ·refine zh [some 0, some 1, some 2] (fun _ => [(4, gV pg og g), (5, .p 0 0 0), (10, .p 2 0 0), (46, .c (.r v (wyR l))), (47, .c (I (wyR l).length)), (48, .c (I k)), (53, .c (.r pw (ptR pp))), (54, .c (I (ptR pp).length)), (55, .c (I (0 : Nat)))]) (fun _ => [gB g.st g.x g.y g.w g.h 1 (g.w * g.h), gArr (g.w * g.h) (on1), .box [.c (.r pw (ptR pp)), .c (B pc)]]) (by decide) (ZNL hE) ZCF ZCH (fun _ => ?_)
   exact ⟨pp.length, 0, on1, by omega, hl1, invP_mem hinv fun p => ⟨.inl, fun h => h.elim id fun ⟨j, h, _⟩ => absurd h (Nat.not_lt_zero j)⟩, rfl, rfl⟩
  clear hinv hl1 on1
  rintro m2 F H ⟨i, on1, hi, hl1, hinv, rfl, rfl⟩
  refine WA ?_
  refine zl rfl (fun hlt2 => ?_) (fun hge2 => ?_)
  ·obtain ⟨⟨bx, by_⟩, hzi⟩ : ∃ e, pp[i]? = some e := ⟨_, List.getElem?_eq_getElem (by omega)⟩
   have hrowi : (ptR pp)[i]? = some [I bx, I by_] := by rw [List.getElem?_map, hzi]; rfl
   have hbi := hpb _ (List.mem_of_getElem? hzi)
   have hgi : pp.getD i (0, 0) = (bx, by_) := by rw [List.getD_eq_getElem?_getD, hzi]; rfl
   simp only at hbi
   refine WA ?_
   by_cases hi0 : 0 < i
   ·obtain ⟨j, rfl⟩ : ∃ j, i = j + 1 := ⟨i - 1, by omega⟩
    obtain ⟨⟨ax, ay⟩, hzj⟩ : ∃ e, pp[j]? = some e := ⟨_, List.getElem?_eq_getElem (by omega)⟩
    have hrowj : (ptR pp)[j]? = some [I ax, I ay] := by rw [List.getElem?_map, hzj]; rfl
    have hbj := hpb _ (List.mem_of_getElem? hzj)
    have hgj : pp.getD j (0, 0) = (ax, ay) := by rw [List.getD_eq_getElem?_getD, hzj]; rfl
    simp only at hbj
    have hsg : segW pp pc (j + 1) = ((ax, ay), (bx, by_)) := by unfold segW; rw [if_pos (by omega), Nat.add_sub_cancel, hgj, hgi]
    refine WA ?_
    refine zb rfl ?_
    refine ZZ ?_
    refine zg [(0, none), (1, none), (2, none), (3, none), (4, none), (5, none), (6, none), (7, none), (8, none), (9, some [])] zn (by kernel_rfl) ?_
    iterate 6 refine WX2 ?_
    refine ZT rfl (zR1 rfl (KE (t := 52) rfl) rfl rfl (i := j) (by omega) hrowj rfl) ?_
    refine WP ?_
    refine zY rfl rfl (zb1 [0, 1] (fun _ => [gB g.st g.x g.y g.w g.h 1 (g.w * g.h), gArr (g.w * g.h) (on1)]) false (fun _ => pass_v g pg og hg hs on1 hl1 (ax, ay) (bx, by_) (by simp only; omega) (by simp only; omega)) rfl .fn rfl (by decide) (by kernel_rfl) rfl ZCH (by decide) ZCH (by simp)) ?_
    rintro F1 H1 ⟨_, _, _, _, ⟨on2, rfl, rfl, hl2, hi2⟩, hF, hH⟩
    rw [zI] at hF; (refine NSU hF hH ?_; clear hF hH; rintro rfl rfl)
    refine ⟨zm, ?_⟩
    refine WQ ?_
    refine WA ?_
    refine zh [some 0, some 1, some 2] (fun _ => [(4, gV pg og g), (5, .p 0 0 0), (10, .p 2 0 0), (46, .c (.r v (wyR l))), (47, .c (I (wyR l).length)), (48, .c (I k)), (53, .c (.r pw (ptR pp))), (54, .c (I (ptR pp).length)), (55, .c (I (j + 1 + 1 : Nat)))]) (fun _ => [gB g.st g.x g.y g.w g.h 1 (g.w * g.h), gArr (g.w * g.h) (on2), .box [.c (.r pw (ptR pp)), .c (B pc)]]) (by decide) (ZNL hE) ZCF ZCH (fun _ => ?_)
    exact ⟨m2 - 1, by omega, j + 1 + 1, on2, by omega, hl2, invP_step hinv hsg hi2, rfl, rfl⟩
   obtain rfl : i = 0 := by omega
   refine WA ?_
   refine zd rfl ?_
   cases pc with
   | true =>
    obtain ⟨n, hn⟩ : ∃ n, pp.length = n + 1 := ⟨pp.length - 1, by omega⟩
    obtain ⟨⟨ax, ay⟩, hzj⟩ : ∃ e, pp[n]? = some e := ⟨_, List.getElem?_eq_getElem (by omega)⟩
    have hrowj : (ptR pp)[n]? = some [I ax, I ay] := by rw [List.getElem?_map, hzj]; rfl
    have hbj := hpb _ (List.mem_of_getElem? hzj)
    have hgj : pp.getD n (0, 0) = (ax, ay) := by rw [List.getD_eq_getElem?_getD, hzj]; rfl
    simp only at hbj
    have hsg : segW pp true 0 = ((ax, ay), (bx, by_)) := by unfold segW; rw [if_neg (by omega), if_pos rfl, hn, Nat.add_sub_cancel, hgj, hgi]
    refine ZZ ?_
    refine WA ?_
    refine zb rfl ?_
    refine ZZ ?_
    refine zg [(0, none), (1, none), (2, none), (3, none), (4, none), (5, none), (6, none), (7, none), (8, none), (9, none), (10, none), (11, some [])] zn (by kernel_rfl) ?_
    iterate 8 refine WX2 ?_
    refine ZT rfl (zR1 rfl (KE (t := 52) rfl) rfl rfl (i := n) (by omega) hrowj rfl) ?_
    refine WP ?_
    refine zY rfl rfl (zb1 [0, 1] (fun _ => [gB g.st g.x g.y g.w g.h 1 (g.w * g.h), gArr (g.w * g.h) (on1)]) false (fun _ => pass_v g pg og hg hs on1 hl1 (ax, ay) (bx, by_) (by simp only; omega) (by simp only; omega)) rfl .fn rfl (by decide) (by kernel_rfl) rfl ZCH (by decide) ZCH (by simp)) ?_
    rintro F1 H1 ⟨_, _, _, _, ⟨on2, rfl, rfl, hl2, hi2⟩, hF, hH⟩
    rw [zI] at hF; (refine NSU hF hH ?_; clear hF hH; rintro rfl rfl)
    refine ⟨zm, ?_⟩
    refine WQ ?_
    refine WA ?_
    refine zh [some 0, some 1, some 2] (fun _ => [(4, gV pg og g), (5, .p 0 0 0), (10, .p 2 0 0), (46, .c (.r v (wyR l))), (47, .c (I (wyR l).length)), (48, .c (I k)), (53, .c (.r pw (ptR pp))), (54, .c (I (ptR pp).length)), (55, .c (I (0 + 1 : Nat)))]) (fun _ => [gB g.st g.x g.y g.w g.h 1 (g.w * g.h), gArr (g.w * g.h) (on2), .box [.c (.r pw (ptR pp)), .c (B true)]]) (by decide) (ZNL hE) ZCF ZCH (fun _ => ?_)
    exact ⟨m2 - 1, by omega, 0 + 1, on2, by omega, hl2, invP_step hinv hsg hi2, rfl, rfl⟩
   | false =>
    have hsg : segW pp false 0 = ((bx, by_), (bx, by_)) := by unfold segW; rw [if_neg (by omega), if_neg (by simp), hgi]
    refine ZZ ?_
    refine WA ?_
    refine zd rfl ?_
    refine ZZ ?_
    refine WR ?_
    refine zf rfl (zb1 [0, 1] (fun _ => [gB g.st g.x g.y g.w g.h 1 (g.w * g.h), gArr (g.w * g.h) (on1)]) false (fun _ => pass_v g pg og hg hs on1 hl1 (bx, by_) (bx, by_) (by simp only; omega) (by simp only; omega)) rfl .fn rfl (by decide) (by kernel_rfl) rfl ZCH (by decide) ZCH (by simp)) ?_
    rintro F1 H1 ⟨_, _, _, _, ⟨on2, rfl, rfl, hl2, hi2⟩, hF, hH⟩
    rw [zI] at hF; (refine NSU hF hH ?_; clear hF hH; rintro rfl rfl)
    refine WE ?_
    refine WA ?_
    refine zh [some 0, some 1, some 2] (fun _ => [(4, gV pg og g), (5, .p 0 0 0), (10, .p 2 0 0), (46, .c (.r v (wyR l))), (47, .c (I (wyR l).length)), (48, .c (I k)), (53, .c (.r pw (ptR pp))), (54, .c (I (ptR pp).length)), (55, .c (I (0 + 1 : Nat)))]) (fun _ => [gB g.st g.x g.y g.w g.h 1 (g.w * g.h), gArr (g.w * g.h) (on2), .box [.c (.r pw (ptR pp)), .c (B false)]]) (by decide) (ZNL hE) ZCF ZCH (fun _ => ?_)
    exact ⟨m2 - 1, by omega, 0 + 1, on2, by omega, hl2, invP_step hinv hsg hi2, rfl, rfl⟩
  obtain rfl : i = pp.length := by omega
  refine ZZ ?_
  refine WA ?_
  refine zh [some 0, some 1] (fun _ => [(4, gV pg og g), (5, .p 0 0 0), (46, .c (.r v (wyR l))), (47, .c (I (wyR l).length)), (48, .c (I (k + 1 : Nat)))]) (fun _ => [gB g.st g.x g.y g.w g.h 1 (g.w * g.h), gArr (g.w * g.h) (on1)]) (by decide) (ZNL hE) ZCF ZCH (fun _ => ?_)
  refine ⟨m - 1, by omega, k + 1, on1, by omega, hl1, invP_mem hinv fun p => ?_, rfl, rfl⟩
  rw [htk]
  constructor
  ·rintro (⟨w, hw, h⟩ | ⟨j, hj, h⟩)
   ·exact ⟨w, List.mem_append_left _ hw, h⟩
   ·exact ⟨_, List.mem_append_right _ (List.mem_singleton.2 rfl), j, hj, h⟩
  ·rintro ⟨w, hw, h⟩
   rcases List.mem_append.1 hw with hw | hw
   ·exact .inl ⟨w, hw, h⟩
   ·rw [List.mem_singleton.1 hw] at h
    obtain ⟨j, hj, h⟩ := h
    exact .inr ⟨j, hj, h⟩
 obtain rfl : k = l.length := by omega
 rw [List.take_length] at hinv
 refine ZZ ?_
 refine WA ?_
 exact zq (us := [gV pg og g, .p 0 0 0, .c (I 0)]) [some 0, some 1] (fun _ => .t [gV pg og g, .p 0 0 0, .c (I 0)]) (fun _ => [gB g.st g.x g.y g.w g.h 1 (g.w * g.h), gArr (g.w * g.h) (on1)]) (.tmp rfl (.tmp rfl (.tmp rfl .nil))) (by decide) (fun i hi => absurd hi (Nat.not_lt_zero i)) (fun g' => .tL (.cons (.c rfl) (.cons (.p rfl) (.cons (.c rfl) .nil)))) ZCH (fun g' => .inr ⟨rfl, hc, pg, og, on1, rfl, rfl, hl1, hinv⟩)
end Go.Proofs.YtfilfijammemfaaGreatDoor
-- NEWM
-- NILC
namespace Go.Proofs.YtfilfijammemfaaGreatDoor
open Go Go.RowKit
set_option maxRecDepth 100000
instance (a b p : Spot) : Decidable (onS a b p) := by unfold onS; infer_instance
def ledB (l : List Wy) (p : Spot) : Bool := l.any fun w => (List.range w.pts.length).any fun i => decide (onS (segW w.pts w.cl i).1 (segW w.pts w.cl i).2 p)
theorem ledB_iff {l : List Wy} {p : Spot} : ledB l p = true ↔ ledL l p := by
 unfold ledB ledL ledW
 rw [List.any_eq_true]
 simp only [List.any_eq_true, List.mem_range, decide_eq_true_iff]
def covT (l : List Wy) (c : Cel) : List Spot := (covL c).filter fun q => ledB l (ctrS c.st q)
theorem invP_cov {c : Cel} (hc : RCel c) {l : List Wy} {on : List Bool} (h : InvP (zc c) (ledL l) on) : normC (zc c).st (covG { (zc c) with on := on }) = normC c.st (covT l c) := by
 rw [zQ]
 refine normC_mem fun q => ?_
 rw [h q, covT, List.mem_filter, ledB_iff, zN hc, zQ]
theorem passed_no (va v : Value) (c : Cel) (l : List Wy) (hcl : c.rows.length ≤ 1000000000) (hcr : ∀ r ∈ c.rows, r.length ≤ 1000000000) (hl : l.length ≤ 1000000) (hp : ∀ p ∈ l, p.pts.length ≤ 1000000) (e : Int) (he : passF c l = e) (h0 : e ≠ 0) : ACalls Tryz.prog 71 [celA va c, .c (.r v (wyR l))] [] fun u H => u = .t [pnil, pnil, .c (I e)] ∧ H = [] :=
 (passed_v va v c l hcl hcr hl hp).mono fun u H hq => by
  rw [he] at hq
  rcases hq with ⟨_, h1, h2⟩ | ⟨h, _⟩
  ·exact ⟨h1, h2⟩
  ·exact absurd h h0
theorem passed_ok (va v : Value) (c : Cel) (l : List Wy) (hcl : c.rows.length ≤ 1000000000) (hcr : ∀ r ∈ c.rows, r.length ≤ 1000000000) (hl : l.length ≤ 1000000) (hp : ∀ p ∈ l, p.pts.length ≤ 1000000) (he : passF c l = 0) : ACalls Tryz.prog 71 [celA va c, .c (.r v (wyR l))] [] fun u H => ∃ pg og on, u = .t [gV pg og (zc c), .p 0 0 0, .c (I 0)] ∧ H = [gB (zc c).st (zc c).x (zc c).y (zc c).w (zc c).h 1 ((zc c).w * (zc c).h), gArr ((zc c).w * (zc c).h) on] ∧ on.length = (zc c).w * (zc c).h ∧ InvP (zc c) (ledL l) on :=
 (passed_v va v c l hcl hcr hl hp).mono fun u H hq => by
  rcases hq with ⟨h, _⟩ | ⟨_, _, h⟩
  ·exact absurd he h
  ·exact h
theorem passF_r {c : Cel} {l : List Wy} (h : passF c l = 0) : RCel c ∧ wyF (l.map (·.pts)) = 0 := by
 unfold passF at h
 split at h
 ·contradiction
 ·rename_i h1
  exact ⟨celF_0.1 (by simpa using h1), h⟩
def covF (c : Cel) (l : List Wy) : Cel × Int := if passF c l ≠ 0 then (⟨0, 0, 0, []⟩, passF c l) else normC c.st (covT l c)
set_option maxHeartbeats 2000000 in
theorem covered_v (va v : Value) (c : Cel) (l : List Wy) (hcl : c.rows.length ≤ 1000000000) (hcr : ∀ r ∈ c.rows, r.length ≤ 1000000000) (hl : l.length ≤ 1000000) (hp : ∀ p ∈ l, p.pts.length ≤ 1000000) : ACalls Tryz.prog 24 [celA va c, .c (.r v (wyR l))] [] fun u H => ∃ v', u = .t [celA v' (covF c l).1, .c (I (covF c l).2)] ∧ H = [] := by
 obtain ⟨e, he⟩ : ∃ e, passF c l = e := ⟨_, rfl⟩
 by_cases h0 : e ≠ 0
 ·have hcv : covF c l = (⟨0, 0, 0, []⟩, e) := by unfold covF; rw [he, if_pos h0]
  refine ze (N := 24) Tryz.func24 rfl rfl (by simp) fun E hE => ?_
  refine WA ?_
  refine WR ?_
  refine zf rfl (za false (fun _ => passed_no va v c l hcl hcr hl hp e he h0) rfl .fn rfl (by decide) (by kernel_rfl) rfl (fun _ => C0 rfl) (by simp)) ?_
  rintro _ _ ⟨_, _, _, ⟨rfl, rfl⟩, hF, hH⟩
  (refine NST hF hH ?_; clear hF hH; rintro rfl rfl)
  refine WE ?_
  refine WA ?_
  refine zb rfl ?_
  refine WA ?_
  exact zq (us := [.a [.c (I 0), .c (I 0), .c (I 0), .c (.r (.slice none 0 0) [])], .c (I e)]) [] (fun g' => .t [.a [.c (I 0), .c (I 0), .c (I 0), .c (.r (.slice none 0 0) [])], .c (I e)]) (fun _ => []) (.cella (n := 4) rfl (by kernel_rfl) (Cells.box rfl) (by simp) (by (try simp only [nm, putL, Nat.reduceAdd, cellsOf, cvOf]) <;> rfl) (.tmp rfl .nil)) (by decide) (fun i hi => absurd hi (Nat.not_lt_zero i)) (fun g' => .tL (.cons (.aL (.cons (.c rfl) (.cons (.c rfl) (.cons (.c rfl) (.cons (.c rfl) .nil))))) (.cons (.c rfl) .nil))) (fun _ => .nil) (fun g' => ⟨.slice none 0 0, by rw [hcv]; rfl, rfl⟩)
 obtain rfl : e = 0 := by omega
 obtain ⟨hc, _⟩ := passF_r he
 have hcv : covF c l = normC c.st (covT l c) := by unfold covF; rw [he, if_neg (by omega)]
 have hic := fun on h => invP_cov (on := on) hc (l := l) h
 have hg := za1 hc
 have hs : 0 ≤ (zc c).st ∧ (zc c).st ≤ 10000 := by rw [zQ]; have := hc.st; omega
 rw [hcv]
 generalize normC c.st (covT l c) = R at *
 refine ze (N := 24) Tryz.func24 rfl rfl (by simp) fun E hE => ?_
 refine WA ?_
 refine WR ?_
 refine zf rfl (za false (fun _ => passed_ok va v c l hcl hcr hl hp he) rfl .fn rfl (by decide) (by kernel_rfl) rfl (fun _ => C0 rfl) (by simp)) ?_
 rintro _ _ ⟨_, _, _, ⟨pg, og, on, rfl, rfl, hlo, hinv⟩, hF, hH⟩
 (refine NST hF hH ?_; clear hF hH; rintro rfl rfl)
 refine WE ?_
 have hnf := hic on hinv
 generalize zc c = g at *
 refine WA ?_
 refine zd rfl ?_
 refine ZZ ?_
 refine zC1 (zh (K := fun F H => ∃ pv1 v1, F = [(4, .p 0 0 0), (7, gV pv1 v1 { g with on := on })] ∧ H = [.box [.c (I 0), .c (I 0), .c (I 0), .c (.r (.slice none 0 0) [])]]) [some 1] (fun f => [(4, .p 0 0 0), (7, gV (f (.p 2 0 0)) (f (.o 3 0 (g.w * g.h) (g.w * g.h))) { g with on := on })]) (fun _ => [.box [.c (I 0), .c (I 0), .c (I 0), .c (.r (.slice none 0 0) [])]]) (by decide) (ZNL hE) (fun _ => .cons rfl (.p rfl) (.cons rfl (frzG (g := { g with on := on }) rfl rfl hlo rfl rfl) .nil)) ZCH (fun _ => ⟨_, _, rfl, rfl⟩)) ?_
 rintro F H ⟨pv1, v1, rfl, rfl⟩
 have hgu : GOk { g with on := on } := ⟨hlo, hg.w, hg.h, hg.x, hg.y⟩
 refine WR ?_
 refine zf rfl (za false (fun _ => cells_v _ pv1 v1 hgu hs) rfl .fn rfl (by decide) (by kernel_rfl) rfl (fun _ => C0 rfl) (by simp)) ?_
 rintro _ _ ⟨_, _, _, ⟨v2, rfl, rfl⟩, hF, hH⟩
 rw [hnf] at hF
 (refine NST hF hH ?_; clear hF hH; rintro rfl rfl)
 refine WE ?_
 exact zq (us := [celA v2 R.1, .c (I R.2)]) [] (fun _ => .t [celA v2 R.1, .c (I R.2)]) (fun _ => []) (.cella (n := 4) rfl (by kernel_rfl) (Cells.box rfl) (by simp) (by (try simp only [nm, putL, Nat.reduceAdd, cellsOf, cvOf]) <;> rfl) (.tmp rfl .nil)) (by decide) (fun i hi => absurd hi (Nat.not_lt_zero i)) (fun g' => .tL (.cons (.aL (.cons (.c rfl) (.cons (.c rfl) (.cons (.c rfl) (.cons (.c rfl) .nil))))) (.cons (.c rfl) .nil))) (fun _ => .nil) (fun g' => ⟨v2, rfl, rfl⟩)
end Go.Proofs.YtfilfijammemfaaGreatDoor
