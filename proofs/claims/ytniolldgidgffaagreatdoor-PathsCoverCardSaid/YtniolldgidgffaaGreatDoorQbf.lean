/- The cells through whose centers paths lead, by value: passed. -/
import Derived.Test.YtniolldgidgffaaGreatDoorQbe
set_option linter.unusedSimpArgs false
set_option linter.unusedVariables false
/- What is wrong with paths that cover, by value: the program's pathsFault. -/
-- NEWM
namespace Go.Proofs.YtniolldgidgffaaGreatDoor
open Go Go.RowKit
set_option maxRecDepth 100000
structure Wy where
 w : Value
 pts : List Spot
 cl : Bool
abbrev ptR (l : List Spot) : List (List CV) := l.map fun p => [I p.1, I p.2]
abbrev wyR (l : List Wy) : List (List CV) := l.map fun p => [.r p.w (ptR p.pts), B p.cl]
def farS (p : Spot) : Bool := outB p.1 (-100000) 100000 || outB p.2 (-100000) 100000
def wyG : List (List Spot) → Int
 | [] => 0
 | p :: l => if p.length = 0 then 8 else if 500 < p.length then 2 else if (p.any farS) = true then 1 else wyG l
def wyF (l : List (List Spot)) : Int := if 200 < l.length then 2 else wyG l
theorem wyG_drop {l : List (List Spot)} {k : Nat} {p : List Spot} (h : l[k]? = some p) : wyG (l.drop k) = if p.length = 0 then 8 else if 500 < p.length then 2 else if (p.any farS) = true then 1 else wyG (l.drop (k + 1)) := by
 obtain ⟨h1, h2⟩ := List.getElem?_eq_some_iff.1 h
 rw [List.drop_eq_getElem_cons h1, h2]; rfl
theorem farS_f {p : Spot} : farS p = false ↔ (-100000 ≤ p.1 ∧ p.1 ≤ 100000) ∧ (-100000 ≤ p.2 ∧ p.2 ≤ 100000) := by
 unfold farS outB
 simp only [Bool.or_eq_false_iff, decide_eq_false_iff_not]
 omega
theorem wyG_0 : ∀ {l : List (List Spot)}, wyG l = 0 → ∀ p ∈ l, (0 < p.length ∧ p.length ≤ 500) ∧ ∀ q ∈ p, (-100000 ≤ q.1 ∧ q.1 ≤ 100000) ∧ (-100000 ≤ q.2 ∧ q.2 ≤ 100000)
 | [], _, p, hp => (by cases hp)
 | d :: l, h, p, hp => by
  unfold wyG at h
  split at h
  ·cases h
  split at h
  ·cases h
  split at h
  ·cases h
  rename_i h1 h2 h3
  rcases List.mem_cons.1 hp with rfl | hp
  ·refine ⟨by omega, fun q hq => farS_f.1 ?_⟩
   rw [← Bool.not_eq_true]
   intro e
   exact h3 (List.any_eq_true.2 ⟨q, hq, e⟩)
  ·exact wyG_0 h p hp
theorem isfar_v (p : Spot) : ACalls Tryz.prog 209 [.a [.c (I p.1), .c (I p.2)]] [] fun u H => u = .c (B (farS p)) ∧ H = [] := by
 obtain ⟨x, y⟩ := p
 obtain ⟨b1, h1⟩ : ∃ q, outB x (-100000) 100000 = q := ⟨_, rfl⟩
 have hf : farS (x, y) = (b1 || outB y (-100000) 100000) := by rw [← h1]; rfl
 obtain ⟨b2, h2⟩ : ∃ q, outB y (-100000) 100000 = q := ⟨_, rfl⟩
 rw [hf, h2]
 refine acalls_of (N := 11) Tryz.func209 rfl rfl (by simp) fun E hE => ?_
 cases b1 with
 | true =>
  repeat' (first
   | (with_reducible refine aw_seq ?_) | (with_reducible refine aseq_n ?_) | (with_reducible refine aseq_r ?_) | (with_reducible refine ablk_n ?_) | (with_reducible refine ablk_r ?_) | (with_reducible refine ablk_e ?_) | (with_reducible refine ablk_o rfl ?_) | (with_reducible refine aseq_e ?_) | (with_reducible refine aw_skip ?_) | (with_reducible refine aw_block ?_) | (with_reducible refine aw_ret ?_) | (with_reducible refine aw_exit ?_)
   | refine aw_cond_t rfl ?_ | refine aw_cond_f rfl ?_ | refine aw_if_t rfl (by assumption) ?_ | refine aw_if_f rfl (by assumption) ?_ | refine aw_if rfl (fun _ => ?_) (fun _ => ?_) | refine aw_cond rfl (fun _ => ?_) (fun _ => ?_)
   | (refine aw_region (id := 1) ?_
      refine WO ?_
      refine al_ef rfl (ef_call0 false (fun _ => out_v _ _ _) rfl .fn rfl (by decide) (by kernel_rfl) rfl (fun _ => C0 rfl) (by simp)) ?_
      rintro _ _ ⟨_, _, _, ⟨rfl, rfl⟩, hF, hH⟩
      rw [h1] at hF
      (refine NST hF hH ?_; clear hF hH; rintro rfl rfl)
      refine WO ?_
      first | refine ZS ?_ | (refine G1 rfl ?_; refine al_ef rfl (ef_call0 false (fun _ => out_v _ _ _) rfl .fn rfl (by decide) (by kernel_rfl) rfl (fun _ => C0 rfl) (by simp)) ?_; rintro _ _ ⟨_, _, _, ⟨rfl, rfl⟩, hF, hH⟩; rw [h2] at hF; (refine NST hF hH ?_; clear hF hH; rintro rfl rfl)) | skip
      refine WE ?_)
   | (refine aw_region ?_; refine WE ?_))
  exact aret_1 [] _ rfl rfl rfl (by decide) (ZNK rfl) (fun _ => .nil) ⟨rfl, rfl⟩
 | false =>
  repeat' (first
   | (with_reducible refine aw_seq ?_) | (with_reducible refine aseq_n ?_) | (with_reducible refine aseq_r ?_) | (with_reducible refine ablk_n ?_) | (with_reducible refine ablk_r ?_) | (with_reducible refine ablk_e ?_) | (with_reducible refine ablk_o rfl ?_) | (with_reducible refine aseq_e ?_) | (with_reducible refine aw_skip ?_) | (with_reducible refine aw_block ?_) | (with_reducible refine aw_ret ?_) | (with_reducible refine aw_exit ?_)
   | refine aw_cond_t rfl ?_ | refine aw_cond_f rfl ?_ | refine aw_if_t rfl (by assumption) ?_ | refine aw_if_f rfl (by assumption) ?_ | refine aw_if rfl (fun _ => ?_) (fun _ => ?_) | refine aw_cond rfl (fun _ => ?_) (fun _ => ?_)
   | (refine aw_region (id := 1) ?_
      refine WO ?_
      refine al_ef rfl (ef_call0 false (fun _ => out_v _ _ _) rfl .fn rfl (by decide) (by kernel_rfl) rfl (fun _ => C0 rfl) (by simp)) ?_
      rintro _ _ ⟨_, _, _, ⟨rfl, rfl⟩, hF, hH⟩
      rw [h1] at hF
      (refine NST hF hH ?_; clear hF hH; rintro rfl rfl)
      refine WO ?_
      first | refine ZS ?_ | (refine G1 rfl ?_; refine al_ef rfl (ef_call0 false (fun _ => out_v _ _ _) rfl .fn rfl (by decide) (by kernel_rfl) rfl (fun _ => C0 rfl) (by simp)) ?_; rintro _ _ ⟨_, _, _, ⟨rfl, rfl⟩, hF, hH⟩; rw [h2] at hF; (refine NST hF hH ?_; clear hF hH; rintro rfl rfl)) | skip
      refine WE ?_)
   | (refine aw_region ?_; refine WE ?_))
  exact aret_1 [] _ rfl rfl rfl (by decide) (ZNK rfl) (fun _ => .nil) ⟨by rw [Bool.false_or], rfl⟩
set_option maxHeartbeats 1000000 in
theorem idxfar_v (v : Value) (l : List Spot) (hl : l.length ≤ 1000000) : ACalls Tryz.prog 255 [.c (.r v (ptR l)), .f (.func 209) []] [] fun u H => ∃ r : Int, u = .c (I r) ∧ H = [] ∧ (0 ≤ r ↔ l.any farS = true) := by
 have e1 : (ptR l).length = l.length := by simp
 refine acalls_of (N := 19) Tryz.func255 rfl rfl (by simp) fun E hE => ?_
 refine WA ?_
 refine WA ?_
 refine aw_loopw (fun m F H => ∃ (k : Nat), m + k = l.length ∧ (l.drop k).any farS = l.any farS ∧ F = [(0, .c (.r v (ptR l))), (1, .f (.func 209) []), (7, .c (I (ptR l).length)), (8, .c (I k))] ∧ H = []) ?_ ?_
 ·refine wk_of [] (fun _ => [(0, .c (.r v (ptR l))), (1, .f (.func 209) []), (7, .c (I (ptR l).length)), (8, .c (I (0 : Nat)))]) (fun _ => []) (by decide) (ZNL hE) ZCF (fun _ => .nil) (fun _ => ?_)
  exact ⟨l.length, 0, by omega, rfl, rfl, rfl⟩
 rintro m F H ⟨k, hk, hf, rfl, rfl⟩
 refine WA ?_
 refine aw_if rfl (fun hlt => ?_) (fun hge => ?_)
 ·obtain ⟨⟨sx, sy⟩, hz⟩ : ∃ e, l[k]? = some e := ⟨_, List.getElem?_eq_getElem (by omega)⟩
  have hrow : (ptR l)[k]? = some [I sx, I sy] := by rw [List.getElem?_map, hz]; rfl
  have hfd : (l.drop k).any farS = (farS (sx, sy) || (l.drop (k + 1)).any farS) := by
   obtain ⟨h1, h2⟩ := List.getElem?_eq_some_iff.1 hz
   rw [List.drop_eq_getElem_cons h1, h2]; rfl
  refine WA ?_
  refine WR ?_
  refine al_ef rfl (ef_call0 false (fun _ => isfar_v (sx, sy)) rfl (.clo rfl) rfl (by decide) (by kernel_rfl) rfl (fun _ => C0 rfl) (by simp)) ?_
  rintro _ _ ⟨_, _, _, ⟨rfl, rfl⟩, hF, hH⟩
  (refine NST hF hH ?_; clear hF hH; rintro rfl rfl)
  refine WE ?_
  refine aw_cond rfl (fun hpz => ?_) (fun hpz => ?_)
  ·refine WA ?_
   refine aret_1 [] _ rfl rfl rfl (by decide) (ZNK rfl) (fun _ => .nil) ⟨_, rfl, rfl, ?_⟩
   rw [← hf, hfd, hpz]
   simp
  ·refine ZZ ?_
   refine WA ?_
   refine wk_of [] (fun _ => [(0, .c (.r v (ptR l))), (1, .f (.func 209) []), (7, .c (I (ptR l).length)), (8, .c (I (k + 1 : Nat)))]) (fun _ => []) (by decide) (ZNL hE) ZCF (fun _ => .nil) (fun _ => ?_)
   exact ⟨m - 1, by omega, k + 1, by omega, by rw [← hf, hfd, hpz]; rfl, rfl, rfl⟩
 refine ZZ ?_
 refine WA ?_
 refine aret_1 [] _ rfl rfl rfl (by decide) (ZNK rfl) (fun _ => .nil) ⟨_, rfl, rfl, ?_⟩
 rw [← hf, List.drop_eq_nil_of_le (by omega)]; simp
theorem contfar_v (v : Value) (l : List Spot) (hl : l.length ≤ 1000000) : ACalls Tryz.prog 208 [.c (.r v (ptR l)), .f (.func 209) []] [] fun u H => u = .c (B (l.any farS)) ∧ H = [] := by
 refine acalls_of (N := 9) Tryz.func208 rfl rfl (by simp) fun E hE => ?_
 repeat' (first
  | (with_reducible refine aw_seq ?_) | (with_reducible refine aseq_n ?_) | (with_reducible refine aseq_r ?_) | (with_reducible refine ablk_n ?_) | (with_reducible refine ablk_r ?_) | (with_reducible refine ablk_e ?_) | (with_reducible refine ablk_o rfl ?_) | (with_reducible refine aseq_e ?_) | (with_reducible refine aw_skip ?_) | (with_reducible refine aw_block ?_) | (with_reducible refine aw_ret ?_) | (with_reducible refine aw_exit ?_)
  | refine aw_cond_t rfl ?_ | refine aw_cond_f rfl ?_ | refine aw_if_t rfl (by assumption) ?_ | refine aw_if_f rfl (by assumption) ?_ | refine aw_if rfl (fun _ => ?_) (fun _ => ?_) | refine aw_cond rfl (fun _ => ?_) (fun _ => ?_)
  | (refine aw_region (id := 1) ?_
     refine WO ?_
     refine al_ef rfl (ef_call0 false (fun _ => idxfar_v v l hl) rfl .fn rfl (by decide) (by kernel_rfl) rfl (fun _ => C0 rfl) (by simp)) ?_
     rintro _ _ ⟨_, _, _, ⟨r, rfl, rfl, hr⟩, hF, hH⟩
     (refine NST hF hH ?_; clear hF hH; rintro rfl rfl)
     refine WE ?_)
  | (refine aw_region ?_; refine WE ?_))
 exact aret_1 [] _ rfl rfl rfl (by decide) (ZNK rfl) (fun _ => .nil) ⟨congrArg (fun z => AV.c (B z)) (by rw [Bool.eq_iff_iff, ← hr]; simp), rfl⟩
set_option maxHeartbeats 2000000 in
theorem pfault_v (v : Value) (l : List Wy) (hl : l.length ≤ 1000000) (hp : ∀ p ∈ l, p.pts.length ≤ 1000000) : ACalls Tryz.prog 157 [.c (.r v (wyR l))] [] fun u H => u = .c (I (wyF (l.map (·.pts)))) ∧ H = [] := by
 have e1 : (wyR l).length = l.length := by simp
 have e2 : (l.map (·.pts)).length = l.length := by simp
 refine acalls_of (N := 29) Tryz.func157 rfl rfl (by simp) fun E hE => ?_
 refine WA ?_
 refine WA ?_
 refine aw_if rfl (fun hlong => ?_) (fun hlong => ?_)
 ·have hw : wyF (l.map (·.pts)) = 2 := by unfold wyF; rw [if_pos (by omega)]
  rw [hw]
  refine WA ?_
  exact aret_1 [] _ rfl rfl rfl (by decide) (ZNK rfl) (fun _ => .nil) ⟨rfl, rfl⟩
 have hw : wyF (l.map (·.pts)) = wyG (l.map (·.pts)) := by unfold wyF; rw [if_neg (by omega)]
 rw [hw]
 clear hw
 refine ZZ ?_
 refine WA ?_
 refine aw_loopw (fun m F H => ∃ (k : Nat), m + k = l.length ∧ wyG ((l.map (·.pts)).drop k) = wyG (l.map (·.pts)) ∧ F = [(8, .c (.r v (wyR l))), (9, .c (I (wyR l).length)), (10, .c (I k))] ∧ H = []) ?_ ?_
 ·refine wk_of [] (fun _ => [(8, .c (.r v (wyR l))), (9, .c (I (wyR l).length)), (10, .c (I (0 : Nat)))]) (fun _ => []) (by decide) (ZNL hE) ZCF (fun _ => .nil) (fun _ => ?_)
  exact ⟨l.length, 0, by omega, rfl, rfl, rfl⟩
 rintro m F H ⟨k, hk, hf, rfl, rfl⟩
 refine WA ?_
 refine aw_if rfl (fun hlt => ?_) (fun hge => ?_)
 ·obtain ⟨⟨pw, pp, pc⟩, hz⟩ : ∃ e, l[k]? = some e := ⟨_, List.getElem?_eq_getElem (by omega)⟩
  have hrow : (wyR l)[k]? = some [.r pw (ptR pp), B pc] := by rw [List.getElem?_map, hz]; rfl
  have hzc : (l.map (·.pts))[k]? = some pp := by rw [List.getElem?_map, hz]; rfl
  have hd := wyG_drop hzc
  have hpl : pp.length ≤ 1000000 := hp _ (List.mem_of_getElem? hz)
  have e3 : (ptR pp).length = pp.length := by simp
  refine WA ?_
  refine WA ?_
  refine aw_if rfl (fun h1 => ?_) (fun h1 => ?_)
  ·have hv : wyG (l.map (·.pts)) = 8 := by rw [← hf, hd, if_pos (by omega)]
   rw [hv]
   refine WA ?_
   exact aret_1 [] _ rfl rfl rfl (by decide) (ZNK rfl) (fun _ => .nil) ⟨rfl, rfl⟩
  rw [if_neg (by omega)] at hd
  refine WA ?_
  refine aw_if rfl (fun h2 => ?_) (fun h2 => ?_)
  ·have hv : wyG (l.map (·.pts)) = 2 := by rw [← hf, hd, if_pos (by omega)]
   rw [hv]
   refine WA ?_
   exact aret_1 [] _ rfl rfl rfl (by decide) (ZNK rfl) (fun _ => .nil) ⟨rfl, rfl⟩
  rw [if_neg (by omega)] at hd
  obtain ⟨bf, hbf⟩ : ∃ q, pp.any farS = q := ⟨_, rfl⟩
  cases bf with
  | true =>
   have hv : wyG (l.map (·.pts)) = 1 := by rw [← hf, hd, if_pos hbf]
   rw [hv]
   refine WR ?_
   refine al_ef rfl (ef_call0 false (fun _ => contfar_v pw pp (by omega)) rfl .fn rfl (by decide) (by kernel_rfl) rfl (fun _ => C0 rfl) (by simp)) ?_
   rintro _ _ ⟨_, _, _, ⟨rfl, rfl⟩, hF, hH⟩
   rw [hbf] at hF
   (refine NST hF hH ?_; clear hF hH; rintro rfl rfl)
   refine WE ?_
   refine aw_cond_t rfl ?_
   refine WA ?_
   exact aret_1 [] _ rfl rfl rfl (by decide) (ZNK rfl) (fun _ => .nil) ⟨rfl, rfl⟩
  | false =>
   rw [if_neg (by rw [hbf]; simp)] at hd
   refine WR ?_
   refine al_ef rfl (ef_call0 false (fun _ => contfar_v pw pp (by omega)) rfl .fn rfl (by decide) (by kernel_rfl) rfl (fun _ => C0 rfl) (by simp)) ?_
   rintro _ _ ⟨_, _, _, ⟨rfl, rfl⟩, hF, hH⟩
   rw [hbf] at hF
   (refine NST hF hH ?_; clear hF hH; rintro rfl rfl)
   refine WE ?_
   refine aw_cond_f rfl ?_
   refine ZZ ?_
   refine WA ?_
   refine wk_of [] (fun _ => [(8, .c (.r v (wyR l))), (9, .c (I (wyR l).length)), (10, .c (I (k + 1 : Nat)))]) (fun _ => []) (by decide) (ZNL hE) ZCF (fun _ => .nil) (fun _ => ?_)
   exact ⟨m - 1, by omega, k + 1, by omega, by rw [← hd, hf], rfl, rfl⟩
 obtain rfl : k = l.length := by omega
 rw [List.drop_eq_nil_of_le (by omega)] at hf
 have hv : wyG (l.map (·.pts)) = 0 := hf.symm
 rw [hv]
 refine ZZ ?_
 refine WA ?_
 exact aret_1 [] _ rfl rfl rfl (by decide) (ZNK rfl) (fun _ => .nil) ⟨rfl, rfl⟩
end Go.Proofs.YtniolldgidgffaaGreatDoor

/- The cells through whose centers paths lead, by value: passed. -/
-- NEWM
-- NILC
namespace Go.Proofs.YtniolldgidgffaaGreatDoor
open Go Go.RowKit
set_option maxRecDepth 100000
def segW (pts : List Spot) (cl : Bool) (i : Nat) : Spot × Spot := if 0 < i then (pts.getD (i - 1) (0, 0), pts.getD i (0, 0)) else if cl = true then (pts.getD (pts.length - 1) (0, 0), pts.getD 0 (0, 0)) else (pts.getD 0 (0, 0), pts.getD 0 (0, 0))
def ledW (w : Wy) (p : Spot) : Prop := ∃ i, i < w.pts.length ∧ onS (segW w.pts w.cl i).1 (segW w.pts w.cl i).2 p
def ledL (l : List Wy) (p : Spot) : Prop := ∃ w ∈ l, ledW w p
def passF (c : Cel) (l : List Wy) : Int := if celF c ≠ 0 then celF c else wyF (l.map (·.pts))
def InvP (g : Grd) (S : Spot → Prop) (on : List Bool) : Prop := ∀ q, q ∈ covG { g with on := on } ↔ q ∈ covG g ∧ S (ctrS g.st q)
def preW (w : Wy) (i : Nat) (p : Spot) : Prop := ∃ j, j < i ∧ onS (segW w.pts w.cl j).1 (segW w.pts w.cl j).2 p
theorem invP_step {g : Grd} {l : List Wy} {k i : Nat} {w : Wy} {a b : Spot} {on1 on2 : List Bool} (h : InvP g (fun p => ledL (l.take k) p ∨ preW w i p) on1) (hs : segW w.pts w.cl i = (a, b)) (h2 : ∀ q, q ∈ covG { g with on := on2 } ↔ q ∈ covG { g with on := on1 } ∨ (q ∈ covG g ∧ onS a b (ctrS g.st q))) : InvP g (fun p => ledL (l.take k) p ∨ preW w (i + 1) p) on2 := fun q => by
 rw [h2, h q]
 constructor
 ·rintro (⟨h1, h3 | ⟨j, h3, h4⟩⟩ | ⟨h1, h3⟩)
  ·exact ⟨h1, .inl h3⟩
  ·exact ⟨h1, .inr ⟨j, by omega, h4⟩⟩
  ·exact ⟨h1, .inr ⟨i, by omega, by rw [hs]; exact h3⟩⟩
 ·rintro ⟨h1, h3 | ⟨j, h3, h4⟩⟩
  ·exact .inl ⟨h1, .inl h3⟩
  ·by_cases e : j = i
   ·subst e; rw [hs] at h4; exact .inr ⟨h1, h4⟩
   ·exact .inl ⟨h1, .inr ⟨j, by omega, h4⟩⟩
theorem invP_mem {g : Grd} {S T : Spot → Prop} {on : List Bool} (h : InvP g S on) (e : ∀ p, S p ↔ T p) : InvP g T on := fun q => by rw [h q, e]
theorem invP_none {g : Grd} {n : Nat} : InvP g (fun p => ledL [] p) (List.replicate n false) := fun q => ⟨fun h => absurd h cov_none, fun ⟨_, w, hw, _⟩ => by cases hw⟩
set_option maxHeartbeats 4000000 in
theorem passed_v (va v : Value) (c : Cel) (l : List Wy) (hcl : c.rows.length ≤ 1000000000) (hcr : ∀ r ∈ c.rows, r.length ≤ 1000000000) (hl : l.length ≤ 1000000) (hp : ∀ p ∈ l, p.pts.length ≤ 1000000) : ACalls Tryz.prog 92 [celA va c, .c (.r v (wyR l))] [] fun u H => (passF c l ≠ 0 ∧ u = .t [pnil, pnil, .c (I (passF c l))] ∧ H = []) ∨ (passF c l = 0 ∧ RCel c ∧ ∃ pg og on, u = .t [gV pg og (grdOf c), .p 0 0 0, .c (I 0)] ∧ H = [gB (grdOf c).st (grdOf c).x (grdOf c).y (grdOf c).w (grdOf c).h 1 ((grdOf c).w * (grdOf c).h), gArr ((grdOf c).w * (grdOf c).h) on] ∧ on.length = (grdOf c).w * (grdOf c).h ∧ InvP (grdOf c) (ledL l) on) := by
 obtain ⟨q1, hq1⟩ : ∃ q, celF c = q := ⟨_, rfl⟩
 obtain ⟨q2, hq2⟩ : ∃ q, wyF (l.map (·.pts)) = q := ⟨_, rfl⟩
 refine acalls_of (N := 97) Tryz.func92 rfl rfl (by simp) fun E hE => ?_
 refine WA ?_
 refine WR ?_
 refine al_ef rfl (ef_call0 false (fun _ => check_v va c hcl hcr) rfl .fn rfl (by decide) (by kernel_rfl) rfl (fun _ => C0 rfl) (by simp)) ?_
 rintro _ _ ⟨_, _, _, ⟨rfl, rfl⟩, hF, hH⟩
 rw [hq1] at hF
 (refine NST hF hH ?_; clear hF hH; rintro rfl rfl)
 refine WE ?_
 refine WA ?_
 refine aw_if rfl (fun h1 => ?_) (fun h1 => ?_)
 ·have hf : passF c l = q1 := by unfold passF; rw [hq1, if_pos (by omega)]
  rw [hf]
  refine WA ?_
  exact aret_of (us := [pnil, pnil, .c (I q1)]) [] (fun _ => .t [pnil, pnil, .c (I q1)]) (fun _ => []) (.tmp rfl (.tmp rfl (.tmp rfl .nil))) (by decide) (fun i hi => absurd hi (Nat.not_lt_zero i)) (fun g' => .tL (.cons (.c rfl) (.cons (.c rfl) (.cons (.c rfl) .nil)))) (fun _ => .nil) (fun g' => .inl ⟨by omega, rfl, rfl⟩)
 refine ZZ ?_
 refine WR ?_
 refine al_ef rfl (ef_call0 false (fun _ => pfault_v v l hl hp) rfl .fn rfl (by decide) (by kernel_rfl) rfl (fun _ => C0 rfl) (by simp)) ?_
 rintro _ _ ⟨_, _, _, ⟨rfl, rfl⟩, hF, hH⟩
 rw [hq2] at hF
 (refine NST hF hH ?_; clear hF hH; rintro rfl rfl)
 refine WE ?_
 refine WA ?_
 refine aw_if rfl (fun h2 => ?_) (fun h2 => ?_)
 ·have hf : passF c l = q2 := by unfold passF; rw [hq1, if_neg (by omega), hq2]
  rw [hf]
  refine WA ?_
  exact aret_of (us := [pnil, pnil, .c (I q2)]) [] (fun _ => .t [pnil, pnil, .c (I q2)]) (fun _ => []) (.tmp rfl (.tmp rfl (.tmp rfl .nil))) (by decide) (fun i hi => absurd hi (Nat.not_lt_zero i)) (fun g' => .tL (.cons (.c rfl) (.cons (.c rfl) (.cons (.c rfl) .nil)))) (fun _ => .nil) (fun g' => .inl ⟨by omega, rfl, rfl⟩)
 have hf : passF c l = 0 := by unfold passF; rw [hq1, if_neg (by omega), hq2]; omega
 have hc : RCel c := celF_0.1 (by omega)
 have hwl : (l.map (·.pts)).length ≤ 200 ∧ wyG (l.map (·.pts)) = 0 := by
  unfold wyF at hq2
  split at hq2
  ·omega
  ·exact ⟨by omega, by omega⟩
 have hbd := wyG_0 hwl.2
 have hg := grdOf_ok hc
 have hs : 1 ≤ (grdOf c).st ∧ (grdOf c).st ≤ 10000 := by rw [grdOf_st]; have := hc.st; omega
 rw [hf]
 refine ZZ ?_
 refine WR ?_
 refine al_ef rfl (ef_call0 false (fun _ => gridof_v va c hc) rfl .fn rfl (by decide) (by kernel_rfl) rfl (fun _ => C0 rfl) (by simp)) ?_
 rintro _ _ ⟨_, _, _, ⟨pg, og, rfl, rfl⟩, hF, hH⟩
 (refine NST hF hH ?_; clear hF hH; rintro rfl rfl)
 refine WE ?_
 generalize grdOf c = g at *
 refine ZZ ?_
 refine aw_regionT [(0, none), (1, none), (2, none), (3, none), (4, none), (5, none), (6, none), (7, none), (8, none), (9, none), (10, none), (11, none), (12, none), (13, none), (14, none), (15, none), (16, none), (17, none), (18, none), (19, none), (20, some []), (21, none)] hMixed (by kernel_rfl) ?_
 refine WP ?_
 refine at_ef rfl rfl (ef_call0 false (fun _ => newgrid_v g.st g.x g.y g.w g.h hg.w hg.h) rfl .fn rfl (by decide) (by kernel_rfl) rfl (fun _ => C0 rfl) (by simp)) ?_
 rintro _ _ ⟨_, _, _, ⟨rfl, rfl⟩, hF, hH⟩
 (refine NST hF hH ?_; clear hF hH; rintro rfl rfl)
 refine ⟨ag_none, ?_⟩
 refine WQ ?_
 refine aw_wk (wk_of (K := fun F H => F = [(1, .c (.r v (wyR l))), (4, gV pg og g), (5, .p 0 0 0)] ∧ H = [gB g.st g.x g.y g.w g.h 1 (g.w * g.h), gArr (g.w * g.h) (List.replicate (g.w * g.h) false)]) [some 1, some 2] (fun _ => [(1, .c (.r v (wyR l))), (4, gV pg og g), (5, .p 0 0 0)]) (fun _ => [gB g.st g.x g.y g.w g.h 1 (g.w * g.h), gArr (g.w * g.h) (List.replicate (g.w * g.h) false)]) (by decide) (ZNL hE) ZCF ZCH (fun _ => ⟨rfl, rfl⟩)) ?_
 rintro F H ⟨rfl, rfl⟩
 have e1 : (wyR l).length = l.length := by simp
 refine WA ?_
 refine aw_loopw (fun m F H => ∃ (k : Nat) (on1 : List Bool), m + k = l.length ∧ on1.length = g.w * g.h ∧ InvP g (ledL (l.take k)) on1 ∧ F = [(4, gV pg og g), (5, .p 0 0 0), (46, .c (.r v (wyR l))), (47, .c (I (wyR l).length)), (48, .c (I k))] ∧ H = [gB g.st g.x g.y g.w g.h 1 (g.w * g.h), gArr (g.w * g.h) (on1)]) ?_ ?_
 ·refine wk_of [some 0, some 1] (fun _ => [(4, gV pg og g), (5, .p 0 0 0), (46, .c (.r v (wyR l))), (47, .c (I (wyR l).length)), (48, .c (I (0 : Nat)))]) (fun _ => [gB g.st g.x g.y g.w g.h 1 (g.w * g.h), gArr (g.w * g.h) (List.replicate (g.w * g.h) false)]) (by decide) (ZNL hE) ZCF ZCH (fun _ => ?_)
  exact ⟨l.length, 0, _, by omega, by simp, by rw [List.take_zero]; exact invP_none, rfl, rfl⟩
 rintro m F H ⟨k, on1, hk, hl1, hinv, rfl, rfl⟩
 refine WA ?_
 refine aw_if rfl (fun hlt => ?_) (fun hge => ?_)
 ·obtain ⟨⟨pw, pp, pc⟩, hz⟩ : ∃ e, l[k]? = some e := ⟨_, List.getElem?_eq_getElem (by omega)⟩
  have hrow : (wyR l)[k]? = some [.r pw (ptR pp), B pc] := by rw [List.getElem?_map, hz]; rfl
  obtain ⟨hpl, hpb⟩ := hbd pp (List.mem_map.2 ⟨_, List.mem_of_getElem? hz, rfl⟩)
  have htk : l.take (k + 1) = l.take k ++ [⟨pw, pp, pc⟩] := by rw [List.take_add_one, hz]; rfl
  have e3 : (ptR pp).length = pp.length := by simp
  refine WA ?_
  refine WA ?_
  refine aw_loopw (fun m2 F H => ∃ (i : Nat) (on1 : List Bool), m2 + i = pp.length ∧ on1.length = g.w * g.h ∧ InvP g (fun p => ledL (l.take k) p ∨ preW ⟨pw, pp, pc⟩ i p) on1 ∧ F = [(4, gV pg og g), (5, .p 0 0 0), (10, .p 2 0 0), (46, .c (.r v (wyR l))), (47, .c (I (wyR l).length)), (48, .c (I k)), (53, .c (.r pw (ptR pp))), (54, .c (I (ptR pp).length)), (55, .c (I i))] ∧ H = [gB g.st g.x g.y g.w g.h 1 (g.w * g.h), gArr (g.w * g.h) (on1), .box [.c (.r pw (ptR pp)), .c (B pc)]]) ?_ ?_
  ·refine wk_of [some 0, some 1, some 2] (fun _ => [(4, gV pg og g), (5, .p 0 0 0), (10, .p 2 0 0), (46, .c (.r v (wyR l))), (47, .c (I (wyR l).length)), (48, .c (I k)), (53, .c (.r pw (ptR pp))), (54, .c (I (ptR pp).length)), (55, .c (I (0 : Nat)))]) (fun _ => [gB g.st g.x g.y g.w g.h 1 (g.w * g.h), gArr (g.w * g.h) (on1), .box [.c (.r pw (ptR pp)), .c (B pc)]]) (by decide) (ZNL hE) ZCF ZCH (fun _ => ?_)
   exact ⟨pp.length, 0, on1, by omega, hl1, invP_mem hinv fun p => ⟨.inl, fun h => h.elim id fun ⟨j, h, _⟩ => absurd h (Nat.not_lt_zero j)⟩, rfl, rfl⟩
  clear hinv hl1 on1
  rintro m2 F H ⟨i, on1, hi, hl1, hinv, rfl, rfl⟩
  refine WA ?_
  refine aw_if rfl (fun hlt2 => ?_) (fun hge2 => ?_)
  ·obtain ⟨⟨bx, by_⟩, hzi⟩ : ∃ e, pp[i]? = some e := ⟨_, List.getElem?_eq_getElem (by omega)⟩
   have hrowi : (ptR pp)[i]? = some [I bx, I by_] := by rw [List.getElem?_map, hzi]; rfl
   have hbi := hpb _ (List.mem_of_getElem? hzi)
   have hgi : pp.getD i (0, 0) = (bx, by_) := by rw [List.getD_eq_getElem?_getD, hzi]; rfl
   simp only at hbi
   refine WA ?_
   by_cases hi0 : 0 < i
   ·obtain ⟨j, rfl⟩ : ∃ j, i = j + 1 := ⟨i - 1, by omega⟩
    obtain ⟨⟨ax, ay⟩, hzj⟩ : ∃ e, pp[j]? = some e := ⟨_, List.getElem?_eq_getElem (by omega)⟩
    have hrowj : (ptR pp)[j]? = some [I ax, I ay] := by rw [List.getElem?_map, hzj]; rfl
    have hbj := hpb _ (List.mem_of_getElem? hzj)
    have hgj : pp.getD j (0, 0) = (ax, ay) := by rw [List.getD_eq_getElem?_getD, hzj]; rfl
    simp only at hbj
    have hsg : segW pp pc (j + 1) = ((ax, ay), (bx, by_)) := by unfold segW; rw [if_pos (by omega), Nat.add_sub_cancel, hgj, hgi]
    refine WA ?_
    refine aw_cond_t rfl ?_
    refine ZZ ?_
    refine aw_regionT [(0, none), (1, none), (2, none), (3, none), (4, none), (5, none), (6, none), (7, none), (8, none), (9, some [])] hMixed (by kernel_rfl) ?_
    iterate 6 refine WX2 ?_
    refine ZT rfl (rd_indexq rfl (KE (t := 78) rfl) rfl rfl (i := j) (by omega) hrowj rfl) ?_
    refine WP ?_
    refine at_ef rfl rfl (ef_callp [0, 1] (fun _ => [gB g.st g.x g.y g.w g.h 1 (g.w * g.h), gArr (g.w * g.h) (on1)]) false (fun _ => pass_v g pg og hg hs on1 hl1 (ax, ay) (bx, by_) (by simp only; omega) (by simp only; omega)) rfl .fn rfl (by decide) (by kernel_rfl) rfl ZCH (by decide) ZCH (by simp)) ?_
    rintro F1 H1 ⟨_, _, _, _, ⟨on2, rfl, rfl, hl2, hi2⟩, hF, hH⟩
    rw [killF_nil] at hF; (refine NSU hF hH ?_; clear hF hH; rintro rfl rfl)
    refine ⟨ag_none, ?_⟩
    refine WQ ?_
    refine WA ?_
    refine wk_of [some 0, some 1, some 2] (fun _ => [(4, gV pg og g), (5, .p 0 0 0), (10, .p 2 0 0), (46, .c (.r v (wyR l))), (47, .c (I (wyR l).length)), (48, .c (I k)), (53, .c (.r pw (ptR pp))), (54, .c (I (ptR pp).length)), (55, .c (I (j + 1 + 1 : Nat)))]) (fun _ => [gB g.st g.x g.y g.w g.h 1 (g.w * g.h), gArr (g.w * g.h) (on2), .box [.c (.r pw (ptR pp)), .c (B pc)]]) (by decide) (ZNL hE) ZCF ZCH (fun _ => ?_)
    exact ⟨m2 - 1, by omega, j + 1 + 1, on2, by omega, hl2, invP_step hinv hsg hi2, rfl, rfl⟩
   obtain rfl : i = 0 := by omega
   refine WA ?_
   refine aw_cond_f rfl ?_
   cases pc with
   | true =>
    obtain ⟨n, hn⟩ : ∃ n, pp.length = n + 1 := ⟨pp.length - 1, by omega⟩
    obtain ⟨⟨ax, ay⟩, hzj⟩ : ∃ e, pp[n]? = some e := ⟨_, List.getElem?_eq_getElem (by omega)⟩
    have hrowj : (ptR pp)[n]? = some [I ax, I ay] := by rw [List.getElem?_map, hzj]; rfl
    have hbj := hpb _ (List.mem_of_getElem? hzj)
    have hgj : pp.getD n (0, 0) = (ax, ay) := by rw [List.getD_eq_getElem?_getD, hzj]; rfl
    simp only at hbj
    have hsg : segW pp true 0 = ((ax, ay), (bx, by_)) := by unfold segW; rw [if_neg (by omega), if_pos rfl, hn, Nat.add_sub_cancel, hgj, hgi]
    refine ZZ ?_
    refine WA ?_
    refine aw_cond_t rfl ?_
    refine ZZ ?_
    refine aw_regionT [(0, none), (1, none), (2, none), (3, none), (4, none), (5, none), (6, none), (7, none), (8, none), (9, none), (10, none), (11, some [])] hMixed (by kernel_rfl) ?_
    iterate 8 refine WX2 ?_
    refine ZT rfl (rd_indexq rfl (KE (t := 78) rfl) rfl rfl (i := n) (by omega) hrowj rfl) ?_
    refine WP ?_
    refine at_ef rfl rfl (ef_callp [0, 1] (fun _ => [gB g.st g.x g.y g.w g.h 1 (g.w * g.h), gArr (g.w * g.h) (on1)]) false (fun _ => pass_v g pg og hg hs on1 hl1 (ax, ay) (bx, by_) (by simp only; omega) (by simp only; omega)) rfl .fn rfl (by decide) (by kernel_rfl) rfl ZCH (by decide) ZCH (by simp)) ?_
    rintro F1 H1 ⟨_, _, _, _, ⟨on2, rfl, rfl, hl2, hi2⟩, hF, hH⟩
    rw [killF_nil] at hF; (refine NSU hF hH ?_; clear hF hH; rintro rfl rfl)
    refine ⟨ag_none, ?_⟩
    refine WQ ?_
    refine WA ?_
    refine wk_of [some 0, some 1, some 2] (fun _ => [(4, gV pg og g), (5, .p 0 0 0), (10, .p 2 0 0), (46, .c (.r v (wyR l))), (47, .c (I (wyR l).length)), (48, .c (I k)), (53, .c (.r pw (ptR pp))), (54, .c (I (ptR pp).length)), (55, .c (I (0 + 1 : Nat)))]) (fun _ => [gB g.st g.x g.y g.w g.h 1 (g.w * g.h), gArr (g.w * g.h) (on2), .box [.c (.r pw (ptR pp)), .c (B true)]]) (by decide) (ZNL hE) ZCF ZCH (fun _ => ?_)
    exact ⟨m2 - 1, by omega, 0 + 1, on2, by omega, hl2, invP_step hinv hsg hi2, rfl, rfl⟩
   | false =>
    have hsg : segW pp false 0 = ((bx, by_), (bx, by_)) := by unfold segW; rw [if_neg (by omega), if_neg (by simp), hgi]
    refine ZZ ?_
    refine WA ?_
    refine aw_cond_f rfl ?_
    refine ZZ ?_
    refine WR ?_
    refine al_ef rfl (ef_callp [0, 1] (fun _ => [gB g.st g.x g.y g.w g.h 1 (g.w * g.h), gArr (g.w * g.h) (on1)]) false (fun _ => pass_v g pg og hg hs on1 hl1 (bx, by_) (bx, by_) (by simp only; omega) (by simp only; omega)) rfl .fn rfl (by decide) (by kernel_rfl) rfl ZCH (by decide) ZCH (by simp)) ?_
    rintro F1 H1 ⟨_, _, _, _, ⟨on2, rfl, rfl, hl2, hi2⟩, hF, hH⟩
    rw [killF_nil] at hF; (refine NSU hF hH ?_; clear hF hH; rintro rfl rfl)
    refine WE ?_
    refine WA ?_
    refine wk_of [some 0, some 1, some 2] (fun _ => [(4, gV pg og g), (5, .p 0 0 0), (10, .p 2 0 0), (46, .c (.r v (wyR l))), (47, .c (I (wyR l).length)), (48, .c (I k)), (53, .c (.r pw (ptR pp))), (54, .c (I (ptR pp).length)), (55, .c (I (0 + 1 : Nat)))]) (fun _ => [gB g.st g.x g.y g.w g.h 1 (g.w * g.h), gArr (g.w * g.h) (on2), .box [.c (.r pw (ptR pp)), .c (B false)]]) (by decide) (ZNL hE) ZCF ZCH (fun _ => ?_)
    exact ⟨m2 - 1, by omega, 0 + 1, on2, by omega, hl2, invP_step hinv hsg hi2, rfl, rfl⟩
  obtain rfl : i = pp.length := by omega
  refine ZZ ?_
  refine WA ?_
  refine wk_of [some 0, some 1] (fun _ => [(4, gV pg og g), (5, .p 0 0 0), (46, .c (.r v (wyR l))), (47, .c (I (wyR l).length)), (48, .c (I (k + 1 : Nat)))]) (fun _ => [gB g.st g.x g.y g.w g.h 1 (g.w * g.h), gArr (g.w * g.h) (on1)]) (by decide) (ZNL hE) ZCF ZCH (fun _ => ?_)
  refine ⟨m - 1, by omega, k + 1, on1, by omega, hl1, invP_mem hinv fun p => ?_, rfl, rfl⟩
  rw [htk]
  constructor
  ·rintro (⟨w, hw, h⟩ | ⟨j, hj, h⟩)
   ·exact ⟨w, List.mem_append_left _ hw, h⟩
   ·exact ⟨_, List.mem_append_right _ (List.mem_singleton.2 rfl), j, hj, h⟩
  ·rintro ⟨w, hw, h⟩
   rcases List.mem_append.1 hw with hw | hw
   ·exact .inl ⟨w, hw, h⟩
   ·rw [List.mem_singleton.1 hw] at h
    obtain ⟨j, hj, h⟩ := h
    exact .inr ⟨j, hj, h⟩
 obtain rfl : k = l.length := by omega
 rw [List.take_length] at hinv
 refine ZZ ?_
 refine WA ?_
 exact aret_of (us := [gV pg og g, .p 0 0 0, .c (I 0)]) [some 0, some 1] (fun _ => .t [gV pg og g, .p 0 0 0, .c (I 0)]) (fun _ => [gB g.st g.x g.y g.w g.h 1 (g.w * g.h), gArr (g.w * g.h) (on1)]) (.tmp rfl (.tmp rfl (.tmp rfl .nil))) (by decide) (fun i hi => absurd hi (Nat.not_lt_zero i)) (fun g' => .tL (.cons (.c rfl) (.cons (.p rfl) (.cons (.c rfl) .nil)))) ZCH (fun g' => .inr ⟨rfl, hc, pg, og, on1, rfl, rfl, hl1, hinv⟩)
end Go.Proofs.YtniolldgidgffaaGreatDoor
