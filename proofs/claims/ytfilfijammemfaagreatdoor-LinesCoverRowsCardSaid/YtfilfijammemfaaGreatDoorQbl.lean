/- Zigzags have as many points as lines; lines cover all cells: plain. -/
import Derived.Test.YtfilfijammemfaaGreatDoorQbk
import Derived.Test.YtfilfijammemfaaGreatDoorQbh
import Derived.Test.YtfilfijammemfaaGreatDoorQbi
import Derived.Test.YtfilfijammemfaaGreatDoorQao
import Derived.Test.YtfilfijammemfaaGreatDoorQas
import Derived.Test.YtfilfijammemfaaGreatDoorQbj
set_option linter.unusedSimpArgs false
set_option linter.unusedVariables false
-- NEWM
namespace Go.Proofs.YtfilfijammemfaaGreatDoor
open Go Go.RowKit
set_option maxRecDepth 100000
theorem revPt_a (l : List Spot) (c : Nat) (hl : l.length ≤ 1000000) (hc : l.length ≤ c) : ACallsX true Tryz.prog 100 [.o 0 0 l.length c] [.arr 107 2 c (l.map (fun p : Spot => [I p.1, I p.2]))] fun u H => u = .t [] ∧ H = [.arr 107 2 c (l.reverse.map (fun p : Spot => [I p.1, I p.2]))] := by
 refine zK true (N := 28) Tryz.func100 rfl rfl (by simp) fun E hE hP => ?_
 refine WA ?_
 refine zk (fun q F H => ∃ (k : Nat) (j : Int) (l' : List Spot), q + k = l.length ∧ j = (l.length : Int) - 1 - k ∧ k ≤ l.length ∧ SwK l k l' ∧ F = [(0, .o 0 0 l.length c), (2, .c (I k)), (3, .c (I j))] ∧ H = [.arr 107 2 c (l'.map (fun p : Spot => [I p.1, I p.2]))]) ?_ ?_
 ·refine zh [some 0] (fun _ => [(0, .o 0 0 l.length c), (2, .c (I (0 : Nat))), (3, .c (I ((l.length : Int) - 1)))]) (fun _ => _) (by decide) (ZNL hE) ZCF ZCH (fun _ => ?_)
  exact ⟨l.length, 0, _, l, by omega, by omega, by omega, .zero l, rfl, rfl⟩
 rintro q F H ⟨k, j, l', hq, hj, hkl, hS, rfl, rfl⟩
 refine WA ?_
 refine zl rfl (fun hlt => ?_) (fun hge => ?_)
 ·obtain ⟨j', rfl⟩ : ∃ j' : Nat, j = j' := ⟨j.toNat, by omega⟩
  have hl1 := hS.1
  obtain ⟨x, hx⟩ : ∃ x, l'[k]? = some x := ⟨_, List.getElem?_eq_getElem (by omega)⟩
  obtain ⟨y, hy⟩ : ∃ y, l'[j']? = some y := ⟨_, List.getElem?_eq_getElem (by omega)⟩
  have hrx : (l'.map (fun p : Spot => [I p.1, I p.2]))[k]? = some [I x.1, I x.2] := by rw [List.getElem?_map, hx]; rfl
  have hry : (l'.map (fun p : Spot => [I p.1, I p.2]))[j']? = some [I y.1, I y.2] := by rw [List.getElem?_map, hy]; rfl
  have hry2 : ((l'.map (fun p : Spot => [I p.1, I p.2])).set (0 + k) [I y.1, I y.2])[0 + j']? = some [I y.1, I y.2] := by rw [Nat.zero_add, Nat.zero_add, List.getElem?_set_ne (by omega), hry]
  have hS2 := hS.next (j := j') (by omega) (by omega) hx hy
  have hm : (((l'.set k y).set j' x).map (fun p : Spot => [I p.1, I p.2])) = ((l'.map (fun p : Spot => [I p.1, I p.2])).set (0 + k) [I y.1, I y.2]).set (0 + j') [I x.1, I x.2] := by rw [List.map_set, List.map_set, Nat.zero_add, Nat.zero_add]
  refine ZZ ?_
  refine zg [(0, none), (1, none), (2, none), (3, none), (4, none), (5, none), (6, none), (7, none), (8, none), (9, none), (10, none), (11, none), (12, none), (13, some [2, 3]), (14, none), (15, some [])] zn (by kernel_rfl) ?_
  refine WQ ?_
  refine WA ?_
  refine zh [some 0] (fun _ => [(0, .o 0 0 l.length c), (2, .c (I (k + 1 : Nat))), (3, .c (I ((j' : Int) - 1)))]) (fun _ => [.arr 107 2 c (((l'.set k y).set j' x).map (fun p : Spot => [I p.1, I p.2]))]) (by decide) (ZNL hE) ZCF (by rw [hm]; exact ZCH) (fun _ => ?_)
  exact ⟨q - 1, by omega, k + 1, _, _, by omega, by omega, by omega, hS2, rfl, rfl⟩
 refine ZZ ?_
 have he : l' = l.reverse := hS.fin (by omega)
 subst he
 refine zF1 [some 0] (fun _ => [.arr 107 2 c (l.reverse.map (fun p : Spot => [I p.1, I p.2]))]) (by simp) rfl (by decide) (ZNK rfl) ZCH (fun _ => ⟨rfl, rfl⟩)
theorem linesin_v (va : Value) (c : Cel) (q ev ph : Int) (hc : RCel c) (hev : 1 ≤ ev) (hph : -1000000 ≤ ph ∧ ph ≤ 1000000) : ACalls Tryz.prog 52 [celA va c, .c (I q), .c (I ev), .c (I ph)] [] fun u H => ∃ (v : Value), u = .c (.r v (lnR (linG (zc c) q ev ph))) ∧ H = [] := by
 have hg := za1 hc
 have hin : ∀ p ∈ covL c, (-10000000 ≤ p.1 ∧ p.1 ≤ 10000000) ∧ (-10000000 ≤ p.2 ∧ p.2 ≤ 10000000) := fun p hp => by
  have h1 := covL_in hc hp
  have h2 := hc.far
  have h3 := hc.st
  have h4 := hc.h
  have h5 := hc.w
  have e1 := Int.mul_tdiv_add_tmod c.x c.st
  have e2 := Int.mul_tdiv_add_tmod c.y c.st
  have b1 : (c.x.tdiv c.st).natAbs ≤ 2000000 := by rw [Int.natAbs_tdiv]; exact Nat.le_trans (Nat.div_le_self _ _) (by omega)
  have b2 : (c.y.tdiv c.st).natAbs ≤ 2000000 := by rw [Int.natAbs_tdiv]; exact Nat.le_trans (Nat.div_le_self _ _) (by omega)
  omega
 refine (linesin0_v va c q ev ph hc hev hph _ rfl (fun p hp => ?_) (fun r k h1 h2 => ?_)).mono fun u H hq => ?_
 ·rw [trL_in] at hp
  have := hin _ hp
  unfold trQ at this
  split at this <;> (try simp only at this) <;> omega
 ·have m1 := h2 k (by omega) (by omega)
  have m2 := h2 (k + 1000) (by omega) (by omega)
  rw [decide_eq_true_iff, trL_in] at m1 m2
  have i1 := covL_in hc m1
  have i2 := covL_in hc m2
  have h4 := hc.h
  have h5 := hc.w
  unfold trQ at i1 i2
  split at i1 <;> rename_i e
  ·rw [if_pos e] at i2; simp only at i1 i2; omega
  ·rw [if_neg e] at i2; (try simp only at i1 i2); omega
 ·obtain ⟨v, l, h1, ⟨h2, h3⟩, h4⟩ := hq
  have hw : wQ (zc c) q ≤ 999 := by have := (grd_wh hc q).1; omega
  rw [linG_is (grdOf_len hc) hw (L := trL q (covL c)) (fun p => by rw [trL_in, zN hc]) (trL_nodup covL_nodup) h2 h3] at h1
  exact ⟨v, h1, h4⟩
theorem ctr_tr {st q r a : Int} : ctr st q r a = ((trQ q (a, r)).1 * st + st / 2, (trQ q (a, r)).2 * st + st / 2) := by unfold ctr trQ; split <;> rfl
theorem trQ_bd {q r a : Int} {M : Int} (hr : -M ≤ r ∧ r ≤ M) (ha : -M ≤ a ∧ a ≤ M) : (-M ≤ (trQ q (a, r)).1 ∧ (trQ q (a, r)).1 ≤ M) ∧ (-M ≤ (trQ q (a, r)).2 ∧ (trQ q (a, r)).2 ≤ M) := by unfold trQ; split <;> exact ⟨by assumption, by assumption⟩
set_option maxHeartbeats 2000000 in
theorem pathof_v (va : Value) (c : Cel) (hs : 1 ≤ c.st ∧ c.st ≤ 10000) (r a b q : Int) (back : Bool) (hr : -20000000 ≤ r ∧ r ≤ 20000000) (ha : -20000000 ≤ a ∧ a ≤ 20000000) (hb : -20000000 ≤ b ∧ b ≤ 20000000) (hab : a ≤ b) : ACalls Tryz.prog 53 [celA va c, .a [.c (I r), .c (I a), .c (I b)], .c (I q), .c (B back)] [] fun u H => ∃ v' : Value, u = .a [.c (.r v' (sR (if back = true then (ptsL c.st q (r, a, b)).reverse else ptsL c.st q (r, a, b)))), .c (B false)] ∧ H = [] := by
 have ht1 := turned_v (a, r) q
 have ht2 := turned_v (b, r) q
 have hb1 := trQ_bd (q := q) hr ha
 have hb2 := trQ_bd (q := q) hr hb
 have hc1 := centq_v va c hs (trQ q (a, r)).1 (trQ q (a, r)).2 hb1.1 hb1.2
 have hc2 := centq_v va c hs (trQ q (b, r)).1 (trQ q (b, r)).2 hb2.1 hb2.2
 have e1 := ctr_tr (st := c.st) (q := q) (r := r) (a := a)
 have e2 := ctr_tr (st := c.st) (q := q) (r := r) (a := b)
 have hpt : ptsL c.st q (r, a, b) = if a < b then [ctr c.st q r a, ctr c.st q r b] else [ctr c.st q r a] := by
  unfold ptsL
  by_cases h : a < b
  ·rw [if_pos h, if_pos (by simp only; omega)]
  ·rw [if_neg h, if_neg (by simp only; omega)]
 rw [hpt]
 clear hpt hb1 hb2
 generalize trQ q (a, r) = t1 at *
 generalize trQ q (b, r) = t2 at *
 have hc1' : ACalls Tryz.prog 99 [celA va c, .a [.c (I t1.1), .c (I t1.2)]] [] fun u H => u = .a [.c (I (ctr c.st q r a).1), .c (I (ctr c.st q r a).2)] ∧ H = [] := by rw [e1]; exact hc1
 have hc2' : ACalls Tryz.prog 99 [celA va c, .a [.c (I t2.1), .c (I t2.2)]] [] fun u H => u = .a [.c (I (ctr c.st q r b).1), .c (I (ctr c.st q r b).2)] ∧ H = [] := by rw [e2]; exact hc2
 clear hc1 hc2 e1 e2
 generalize ctr c.st q r a = c1 at *
 generalize ctr c.st q r b = c2 at *
 refine ze (N := 42) Tryz.func53 rfl rfl (by simp) fun E hE => ?_
 refine WA ?_
 refine ZZ ?_
 refine zg [(0, none), (1, none), (2, none), (3, none), (4, none), (5, none), (6, none), (7, some [0]), (8, some []), (9, some []), (10, none)] zn (by kernel_rfl) ?_
 refine WP ?_
 refine zY rfl rfl (za false (fun _ => ht1) rfl .fn rfl (by decide) (by kernel_rfl) rfl (fun _ => C0 rfl) (by simp)) ?_
 rintro _ _ ⟨_, _, _, ⟨rfl, rfl⟩, hF, hH⟩
 (refine NST hF hH ?_; clear hF hH; rintro rfl rfl)
 refine ⟨zj (by first | exact zu rfl rfl rfl (ZK (KK (t := 28) rfl)) rfl) (zm), ?_⟩
 refine zY rfl rfl (za false (fun _ => hc1') rfl .fn rfl (by decide) (by kernel_rfl) rfl (fun _ => C0 rfl) (by simp)) ?_
 rintro _ _ ⟨_, _, _, ⟨rfl, rfl⟩, hF, hH⟩
 (refine NST hF hH ?_; clear hF hH; rintro rfl rfl)
 refine ⟨zm, ?_⟩
 refine WQ ?_
 refine WA ?_
 refine aw_cut (fun F H => ∃ (P : List Spot) (cp : Nat), P = (if a < b then [c1, c2] else [c1]) ∧ P.length ≤ cp ∧ F = [(3, .c (B back)), (8, .p 0 0 0), (9, .o 1 0 P.length cp)] ∧ H = [.box [.c (.r (.slice none 0 0) []), .c (B false)], .arr 107 2 cp (sR P)]) ?_ ?_ wk_aw
 ·refine zl rfl (fun hlt => ?_) (fun hge => ?_)
  ·refine ZZ ?_
   refine zg [(0, none), (1, none), (2, none), (3, none), (4, none), (5, none), (6, none), (7, none), (8, some [0, 1]), (9, some [0]), (10, some [0]), (11, some []), (12, none)] zn (by kernel_rfl) ?_
   refine WP ?_
   refine zY rfl rfl (za false (fun _ => ht2) rfl .fn rfl (by decide) (by kernel_rfl) rfl (fun _ => C0 rfl) (by simp)) ?_
   rintro _ _ ⟨_, _, _, ⟨rfl, rfl⟩, hF, hH⟩
   (refine NST hF hH ?_; clear hF hH; rintro rfl rfl)
   refine ⟨zj (by first | exact zu rfl rfl rfl (zB rfl rfl) rfl) (zj (by first | exact zu rfl rfl rfl (ZK (KK (t := 28) rfl)) rfl) (zm)), ?_⟩
   refine zY rfl rfl (za false (fun _ => hc2') rfl .fn rfl (by decide) (by kernel_rfl) rfl (fun _ => C0 rfl) (by simp)) ?_
   rintro _ _ ⟨_, _, _, ⟨rfl, rfl⟩, hF, hH⟩
   (refine NST hF hH ?_; clear hF hH; rintro rfl rfl)
   refine ⟨zj (by first | exact zu rfl rfl rfl (zB rfl rfl) rfl) (zm), ?_⟩
   refine WP ?_
   refine zY rfl rfl (Zapp (KA (t := 52) rfl)) ?_
   rintro _ _ ⟨_, cc, hcc, rfl, rfl⟩
   refine ⟨zm, ?_⟩
   refine WQ ?_
   refine zh [some 2, some 3] (fun _ => [(3, .c (B back)), (8, .p 0 0 0), (9, .o 1 0 ([c1, c2] : List Spot).length cc)]) (fun _ => [.box [.c (.r (.slice none 0 0) []), .c (B false)], .arr 107 2 cc (sR [c1, c2])]) (by decide) (ZNL hE) ZCF ZCH (fun _ => ?_)
   exact ⟨[c1, c2], cc, by rw [if_pos (by omega)], by simp only [List.length_cons, List.length_nil, List.length_map] at hcc ⊢; omega, rfl, rfl⟩
  ·refine ZZ ?_
   refine zh [some 2, some 3] (fun _ => [(3, .c (B back)), (8, .p 0 0 0), (9, .o 1 0 ([c1] : List Spot).length 1)]) (fun _ => [.box [.c (.r (.slice none 0 0) []), .c (B false)], .arr 107 2 1 (sR [c1])]) (by decide) (ZNL hE) ZCF ZCH (fun _ => ?_)
   exact ⟨[c1], 1, by rw [if_neg (by omega)], by simp, rfl, rfl⟩
 rintro F H ⟨P, cp, hP, hcp, rfl, rfl⟩
 rw [← hP]
 have hPl : P.length ≤ 2 := by rw [hP]; split <;> simp
 clear hP
 refine ZZ ?_
 cases back with
 | true =>
  refine WA ?_
  refine zb rfl ?_
  refine WR ?_
  refine zf rfl (zb1 [1] (fun _ => [.arr 107 2 cp (P.map fun p : Spot => [I p.1, I p.2])]) false (fun _ => revPt_a P cp (by omega) (by omega)) rfl .fn rfl (by decide) (by kernel_rfl) rfl ZCH (by decide) ZCH (by simp)) ?_
  rintro F1 H1 ⟨_, _, _, _, ⟨rfl, rfl⟩, hF, hH⟩
  rw [zI] at hF; (refine NSU hF hH ?_; clear hF hH; rintro rfl rfl)
  refine WE ?_
  refine WA ?_
  rw [if_pos rfl]
  have er : P.length = P.reverse.length := by simp
  rw [er]
  exact zq (us := [.a [.o 1 0 (P.reverse).length cp, .c (B false)]]) [] (fun g => .a [.c (.r (g (.o 1 0 (P.reverse).length cp)) (sR (P.reverse))), .c (B false)]) (fun _ => []) (.cella (n := 2) rfl (by kernel_rfl) (Cells.box rfl) (by first | (simp; done) | exact Nat.le_refl 2) (by (try simp only [nm, putL, Nat.reduceAdd, cellsOf, cvOf]) <;> rfl) .nil) (by decide) (fun i hi => absurd hi (Nat.not_lt_zero i)) (fun g' => .aL (.cons (.frz rfl rfl (by rw [List.drop_zero, List.take_of_length_le (by simp)]) (by simp) rfl) (.cons (.c rfl) .nil))) (fun _ => .nil) (fun g' => ⟨_, rfl, rfl⟩)
 | false =>
  refine WA ?_
  refine zd rfl ?_
  refine ZZ ?_
  refine WA ?_
  rw [if_neg (by simp)]
  exact zq (us := [.a [.o 1 0 (P).length cp, .c (B false)]]) [] (fun g => .a [.c (.r (g (.o 1 0 (P).length cp)) (sR (P))), .c (B false)]) (fun _ => []) (.cella (n := 2) rfl (by kernel_rfl) (Cells.box rfl) (by first | (simp; done) | exact Nat.le_refl 2) (by (try simp only [nm, putL, Nat.reduceAdd, cellsOf, cvOf]) <;> rfl) .nil) (by decide) (fun i hi => absurd hi (Nat.not_lt_zero i)) (fun g' => .aL (.cons (.frz rfl rfl (by rw [List.drop_zero, List.take_of_length_le (by simp)]) (by simp) rfl) (.cons (.c rfl) .nil))) (fun _ => .nil) (fun g' => ⟨_, rfl, rfl⟩)
theorem lin_ab {g : Grd} {q ev ph : Int} {l : Lin} (h : l ∈ linG g q ev ph) : l.2.1 ≤ l.2.2 := by
 obtain ⟨i, _, _, h2⟩ := lnS_mem.1 h
 obtain ⟨k, _, _, _, rfl⟩ := lnC_mem.1 h2
 exact rE_spec.1
set_option maxHeartbeats 2000000 in
theorem linesof_v (va : Value) (c : Cel) (q ev ph : Int) (hc : RCel c) (hev : 1 ≤ ev) (hph : -1000000 ≤ ph ∧ ph ≤ 1000000) : ACalls Tryz.prog 15 [celA va c, .c (I q), .c (I ev), .c (I ph)] [] fun u H => ∃ (v : Value) (pl : List Pth), u = .c (.r v (paR pl)) ∧ pl.map Prod.snd = ((linG (zc c) q ev ph).map fun l => (ptsL c.st q l, false)) ∧ H = [] := by
 have hgo := za1 hc
 have hst := hc.st
 have hlb := lin_len hc q ev ph
 have hbd := fun l h => @lin_bd (zc c) hgo q ev ph l h
 have hba := fun l h => @lin_ab (zc c) q ev ph l h
 refine ze (N := 31) Tryz.func15 rfl rfl (by simp) fun E hE => ?_
 refine WA ?_
 refine WA ?_
 refine WR ?_
 refine zf rfl (za false (fun _ => linesin_v va c q ev ph hc hev hph) rfl .fn rfl (by decide) (by kernel_rfl) rfl (fun _ => C0 rfl) (by simp)) ?_
 rintro _ _ ⟨_, _, _, ⟨lv, rfl, rfl⟩, hF, hH⟩
 (refine NST hF hH ?_; clear hF hH; rintro rfl rfl)
 refine WE ?_
 generalize linG (zc c) q ev ph = LL at *
 have e1 : (lnR LL).length = LL.length := by simp
 refine zk (fun m F H => ∃ (i cp : Nat) (pl : List Pth), m + i = LL.length ∧ pl.length ≤ cp ∧ pl.map Prod.snd = (LL.take i).map (fun l => (ptsL c.st q l, false)) ∧ F = [(1, .c (I q)), (4, .p 0 0 0), (9, .o 1 0 pl.length cp), (16, .c (.r lv (lnR LL))), (17, .c (I (lnR LL).length)), (18, .c (I i))] ∧ H = [celB va c, .arr 54 2 cp (paR pl)]) ?_ ?_
 ·refine zh [some 0, none] (fun _ => [(1, .c (I q)), (4, .p 0 0 0), (9, .o 1 0 0 0), (16, .c (.r lv (lnR LL))), (17, .c (I (lnR LL).length)), (18, .c (I (0 : Nat)))]) (fun _ => [celB va c, .arr 54 2 0 (paR [])]) (by decide) (ZNL hE) ZCF ZCH (fun _ => ?_)
  exact ⟨LL.length, 0, 0, [], by omega, Nat.le_refl _, rfl, rfl, rfl⟩
 rintro m F H ⟨i, cp, pl, hi, hcp, hpl, rfl, rfl⟩
 have hpll : pl.length = i := by have := congrArg List.length hpl; simp at this; omega
 refine WA ?_
 refine zl rfl (fun hlt => ?_) (fun hge => ?_)
 ·obtain ⟨⟨r, a, b⟩, hli⟩ : ∃ e, LL[i]? = some e := ⟨_, List.getElem?_eq_getElem (by omega)⟩
  have hrow : (lnR LL)[i]? = some [I r, I a, I b] := by rw [List.getElem?_map, hli]; rfl
  obtain ⟨hb1, hb2, hb3⟩ := hbd _ (List.mem_of_getElem? hli)
  have hab := hba _ (List.mem_of_getElem? hli)
  simp only at hb1 hb2 hb3 hab
  have htk : LL.take (i + 1) = LL.take i ++ [(r, a, b)] := by rw [List.take_add_one, hli]; rfl
  refine WA ?_
  refine WR ?_
  refine zf rfl (za false (fun _ => pathof_v va c (by omega) r a b q false hb1 hb2 hb3 hab) rfl .fn rfl (by decide) (by kernel_rfl) rfl (fun _ => C0 rfl) (by simp)) ?_
  rintro _ _ ⟨_, _, _, ⟨vp, rfl, rfl⟩, hF, hH⟩
  rw [if_neg (by simp)] at hF
  (refine NST hF hH ?_; clear hF hH; rintro rfl rfl)
  refine WO ?_
  refine zf rfl (Zapp (KA (t := 33) rfl)) ?_
  rintro _ _ ⟨_, cc, hcc, rfl, rfl⟩
  refine WE ?_
  refine WA ?_
  refine zh [some 0, some 1] (fun _ => [(1, .c (I q)), (4, .p 0 0 0), (9, .o 1 0 (pl ++ [((vp, ptsL c.st q (r, a, b), false) : Pth)]).length cc), (16, .c (.r lv (lnR LL))), (17, .c (I (lnR LL).length)), (18, .c (I (i + 1 : Nat)))]) (fun _ => [celB va c, .arr 54 2 cc (paR (pl ++ [((vp, ptsL c.st q (r, a, b), false) : Pth)]))]) (by decide) (ZNL hE) ZCF ZCH (fun _ => ?_)
  exact ⟨m - 1, by omega, i + 1, cc, pl ++ [((vp, ptsL c.st q (r, a, b), false) : Pth)], by omega, by simp at hcc ⊢; omega, by rw [List.map_append, hpl, htk, List.map_append]; rfl, rfl, rfl⟩
 obtain rfl : i = LL.length := by omega
 rw [List.take_length] at hpl
 refine ZZ ?_
 refine WA ?_
 exact aret_f1 [] _ rfl rfl rfl rfl (by rw [List.drop_zero, List.take_of_length_le (by simp)]) (by simp) rfl (by decide) (ZNK rfl) (fun _ => .nil) (fun q => ⟨q, pl, rfl, hpl, rfl⟩)
set_option maxHeartbeats 2000000 in
theorem linesof_o (va : Value) (c : Cel) (q ev ph : Int) (hc : RCel c) (hev : 1 ≤ ev) (hph : -1000000 ≤ ph ∧ ph ≤ 1000000) : ACalls Tryz.prog 15 [celA va c, .c (I q), .c (I ev), .c (I ph)] [] fun u H => ∃ (pl : List Pth) (cp : Nat), pl.length ≤ cp ∧ u = .o 0 0 pl.length cp ∧ H = [.arr 54 2 cp (paR pl)] ∧ pl.map Prod.snd = ((linG (zc c) q ev ph).map fun l => (ptsL c.st q l, false)) := by
 have hgo := za1 hc
 have hst := hc.st
 have hlb := lin_len hc q ev ph
 have hbd := fun l h => @lin_bd (zc c) hgo q ev ph l h
 have hba := fun l h => @lin_ab (zc c) q ev ph l h
 refine ze (N := 31) Tryz.func15 rfl rfl (by simp) fun E hE => ?_
 refine WA ?_
 refine WA ?_
 refine WR ?_
 refine zf rfl (za false (fun _ => linesin_v va c q ev ph hc hev hph) rfl .fn rfl (by decide) (by kernel_rfl) rfl (fun _ => C0 rfl) (by simp)) ?_
 rintro _ _ ⟨_, _, _, ⟨lv, rfl, rfl⟩, hF, hH⟩
 (refine NST hF hH ?_; clear hF hH; rintro rfl rfl)
 refine WE ?_
 generalize linG (zc c) q ev ph = LL at *
 have e1 : (lnR LL).length = LL.length := by simp
 refine zk (fun m F H => ∃ (i cp : Nat) (pl : List Pth), m + i = LL.length ∧ pl.length ≤ cp ∧ pl.map Prod.snd = (LL.take i).map (fun l => (ptsL c.st q l, false)) ∧ F = [(1, .c (I q)), (4, .p 0 0 0), (9, .o 1 0 pl.length cp), (16, .c (.r lv (lnR LL))), (17, .c (I (lnR LL).length)), (18, .c (I i))] ∧ H = [celB va c, .arr 54 2 cp (paR pl)]) ?_ ?_
 ·refine zh [some 0, none] (fun _ => [(1, .c (I q)), (4, .p 0 0 0), (9, .o 1 0 0 0), (16, .c (.r lv (lnR LL))), (17, .c (I (lnR LL).length)), (18, .c (I (0 : Nat)))]) (fun _ => [celB va c, .arr 54 2 0 (paR [])]) (by decide) (ZNL hE) ZCF ZCH (fun _ => ?_)
  exact ⟨LL.length, 0, 0, [], by omega, Nat.le_refl _, rfl, rfl, rfl⟩
 rintro m F H ⟨i, cp, pl, hi, hcp, hpl, rfl, rfl⟩
 have hpll : pl.length = i := by have := congrArg List.length hpl; simp at this; omega
 refine WA ?_
 refine zl rfl (fun hlt => ?_) (fun hge => ?_)
 ·obtain ⟨⟨r, a, b⟩, hli⟩ : ∃ e, LL[i]? = some e := ⟨_, List.getElem?_eq_getElem (by omega)⟩
  have hrow : (lnR LL)[i]? = some [I r, I a, I b] := by rw [List.getElem?_map, hli]; rfl
  obtain ⟨hb1, hb2, hb3⟩ := hbd _ (List.mem_of_getElem? hli)
  have hab := hba _ (List.mem_of_getElem? hli)
  simp only at hb1 hb2 hb3 hab
  have htk : LL.take (i + 1) = LL.take i ++ [(r, a, b)] := by rw [List.take_add_one, hli]; rfl
  refine WA ?_
  refine WR ?_
  refine zf rfl (za false (fun _ => pathof_v va c (by omega) r a b q false hb1 hb2 hb3 hab) rfl .fn rfl (by decide) (by kernel_rfl) rfl (fun _ => C0 rfl) (by simp)) ?_
  rintro _ _ ⟨_, _, _, ⟨vp, rfl, rfl⟩, hF, hH⟩
  rw [if_neg (by simp)] at hF
  (refine NST hF hH ?_; clear hF hH; rintro rfl rfl)
  refine WO ?_
  refine zf rfl (Zapp (KA (t := 33) rfl)) ?_
  rintro _ _ ⟨_, cc, hcc, rfl, rfl⟩
  refine WE ?_
  refine WA ?_
  refine zh [some 0, some 1] (fun _ => [(1, .c (I q)), (4, .p 0 0 0), (9, .o 1 0 (pl ++ [((vp, ptsL c.st q (r, a, b), false) : Pth)]).length cc), (16, .c (.r lv (lnR LL))), (17, .c (I (lnR LL).length)), (18, .c (I (i + 1 : Nat)))]) (fun _ => [celB va c, .arr 54 2 cc (paR (pl ++ [((vp, ptsL c.st q (r, a, b), false) : Pth)]))]) (by decide) (ZNL hE) ZCF ZCH (fun _ => ?_)
  exact ⟨m - 1, by omega, i + 1, cc, pl ++ [((vp, ptsL c.st q (r, a, b), false) : Pth)], by omega, by simp at hcc ⊢; omega, by rw [List.map_append, hpl, htk, List.map_append]; rfl, rfl, rfl⟩
 obtain rfl : i = LL.length := by omega
 rw [List.take_length] at hpl
 refine ZZ ?_
 refine WA ?_
 exact aret_o [some 1] (fun _ => [.arr 54 2 cp (paR pl)]) rfl rfl rfl (by simp) rfl (by decide) (ZNK rfl) ZCH (fun _ => ⟨pl, cp, hcp, rfl, rfl, hpl⟩)
end Go.Proofs.YtfilfijammemfaaGreatDoor
-- NEWM
namespace Go.Proofs.YtfilfijammemfaaGreatDoor
open Go Go.RowKit
set_option maxRecDepth 100000
set_option maxHeartbeats 1000000 in
theorem points_o (pv v : Value) (g : Grd) (q : Int) (l : Lin) (hst : 0 ≤ g.st ∧ g.st ≤ 10000) (hr : -20000000 ≤ l.1 ∧ l.1 ≤ 20000000) (ha : -20000000 ≤ l.2.1 ∧ l.2.1 ≤ 20000000) (hb : -20000000 ≤ l.2.2 ∧ l.2.2 ≤ 20000000) : ACalls Tryz.prog 37 [linA pv v g q, .c (I l.1), .c (I l.2.1), .c (I l.2.2)] [] fun u H => ∃ cp : Nat, u = .o 0 0 (ptsL g.st q l).length cp ∧ H = [.arr 107 2 cp (sR (ptsL g.st q l))] := by
 obtain ⟨r, a, b⟩ := l
 simp only at hr ha hb
 refine ze (N := 26) Tryz.func37 rfl rfl (by simp) fun E hE => ?_
 refine WA ?_
 refine WR ?_
 refine zf rfl (za false (fun _ => center_v pv v g q _ _ hst hr ha) rfl .fn rfl (by decide) (by kernel_rfl) rfl (fun _ => C0 rfl) (by simp)) ?_
 rintro _ _ ⟨_, _, _, ⟨rfl, rfl⟩, hF, hH⟩
 (refine NST hF hH ?_; clear hF hH; rintro rfl rfl)
 refine WE ?_
 refine WA ?_
 refine zl rfl (fun hne => ?_) (fun hne => ?_)
 ·have hp : ptsL g.st q (r, a, b) = [ctr g.st q r a, ctr g.st q r b] := if_pos hne
  rw [hp]
  generalize ctr g.st q r a = c1 at *
  refine WR ?_
  refine zf rfl (za false (fun _ => center_v pv v g q _ _ hst hr hb) rfl .fn rfl (by decide) (by kernel_rfl) rfl (fun _ => C0 rfl) (by simp)) ?_
  rintro _ _ ⟨_, _, _, ⟨rfl, rfl⟩, hF, hH⟩
  (refine NST hF hH ?_; clear hF hH; rintro rfl rfl)
  refine WO ?_
  refine zf rfl (Zapp (KA (t := 52) rfl)) ?_
  rintro _ _ ⟨_, cc, hcc, rfl, rfl⟩
  refine WE ?_
  generalize ctr g.st q r b = c2 at *
  refine WA ?_
  first
   | exact aret_o [some 0] (fun _ => [.arr 107 2 _ (sR [c1, c2])]) rfl rfl rfl rfl rfl (by decide) (ZNK rfl) ZCH (fun _ => ⟨_, rfl, rfl⟩)
   | exact aret_o [some 1] (fun _ => [.arr 107 2 _ (sR [c1, c2])]) rfl rfl rfl rfl rfl (by decide) (ZNK rfl) ZCH (fun _ => ⟨_, rfl, rfl⟩)
   | exact aret_o [some 2] (fun _ => [.arr 107 2 _ (sR [c1, c2])]) rfl rfl rfl rfl rfl (by decide) (ZNK rfl) ZCH (fun _ => ⟨_, rfl, rfl⟩)
   | exact aret_o [some 3] (fun _ => [.arr 107 2 _ (sR [c1, c2])]) rfl rfl rfl rfl rfl (by decide) (ZNK rfl) ZCH (fun _ => ⟨_, rfl, rfl⟩)
 ·have hp : ptsL g.st q (r, a, b) = [ctr g.st q r a] := if_neg hne
  rw [hp]
  refine ZZ ?_
  refine WA ?_
  first
   | exact aret_o [some 0] (fun _ => [.arr 107 2 _ (sR [ctr g.st q r a])]) rfl rfl rfl rfl rfl (by decide) (ZNK rfl) ZCH (fun _ => ⟨_, rfl, rfl⟩)
   | exact aret_o [some 1] (fun _ => [.arr 107 2 _ (sR [ctr g.st q r a])]) rfl rfl rfl rfl rfl (by decide) (ZNK rfl) ZCH (fun _ => ⟨_, rfl, rfl⟩)
   | exact aret_o [some 2] (fun _ => [.arr 107 2 _ (sR [ctr g.st q r a])]) rfl rfl rfl rfl rfl (by decide) (ZNK rfl) ZCH (fun _ => ⟨_, rfl, rfl⟩)
   | exact aret_o [some 3] (fun _ => [.arr 107 2 _ (sR [ctr g.st q r a])]) rfl rfl rfl rfl rfl (by decide) (ZNK rfl) ZCH (fun _ => ⟨_, rfl, rfl⟩)
end Go.Proofs.YtfilfijammemfaaGreatDoor
-- NEWM
namespace Go.Proofs.YtfilfijammemfaaGreatDoor
open Go Go.RowKit
set_option maxRecDepth 100000
def compL : List Int → List Int
 | [] => []
 | [x] => [x]
 | x :: y :: l => if x = y then compL (y :: l) else x :: compL (y :: l)
section
variable {P : Program} {N : Nat} {E : Env} {S : Nat → Prop} {ρ : List (Option Nat)} {F : Fm} {H : List OB} {a : Act} {w : World} {Q : Exit → Fm → List OB → Prop}
theorem R.trunc {b sz cap : Nat} {e : TypeId} {rows : List (List CV)} (hb : H[b]? = some (.arr e sz cap rows)) (m : Nat) (h : R N E S ρ F H a w) : R N E S ρ F (H.set b (.arr e sz cap (rows.take m))) a w := by
 have he := Ex.set (ρ := ρ) (ob' := .arr e sz cap (rows.take m)) hb rfl rfl (fun h => absurd rfl h)
 have hm : Mo w S w S := fun b hb => ⟨hb, rfl⟩
 have hin : ∀ i k B, inP (H.set b (.arr e sz cap (rows.take m))) i k B → inP H i k B := fun i k B => inP_set (fun _ _ => arr_nopool)
 refine h.ex he hm ⟨by simpa using h.hp.len, h.hp.nd, h.hp.ap, h.hp.lt, h.hp.sS, fun i x hx => ?_, h.hp.pl.same hin (Nat.le_refl _)⟩ h.st h.nw h.nS (fun i k B hi => h.pw i k B (hin i k B hi))
 rw [List.getElem?_set] at hx
 split at hx
 ·rename_i hi
  subst hi
  split at hx
  ·injection hx with hx
   subst hx
   rcases h.hp.blk _ _ hb with ⟨h1, h2, h3⟩ | ⟨B, cs, h1, h2, h3, h4, h5, h6, h7⟩
   ·exact .inl ⟨h1, h2, by rw [h3]; simp⟩
   ·refine .inr ⟨B, cs, h1, h2, h3, h4, Nat.le_trans (by rw [List.length_take]; omega) h5, fun row hr => h6 row (List.mem_of_mem_take hr), fun k j row u hk hj => ?_⟩
    rw [List.getElem?_take] at hk
    split at hk
    ·exact h7 k j row u hk hj
    ·cases hk
  ·cases hx
 ·exact (h.hp.blk i x hx).ex he hm (fun _ _ => rfl) (fun _ _ _ => rfl)
theorem aw_trunc {c : Code} {b sz cap : Nat} {e : TypeId} {rows : List (List CV)} (m : Nat) (hb : H[b]? = some (.arr e sz cap rows)) (h : AW P N E c F (H.set b (.arr e sz cap (rows.take m))) Q) : AW P N E c F H Q := fun S ρ a w hR => h S ρ a w (hR.trunc hb m)
end
theorem compL_snoc {x : Int} : ∀ {l : List Int} {y : Int}, l.getLast? = some y → compL (l ++ [x]) = if y = x then compL l else compL l ++ [x]
 | [z], y, h => by
  simp only [List.getLast?_singleton, Option.some.injEq] at h
  subst h
  simp only [List.cons_append, List.nil_append, compL]
  split <;> simp_all [compL]
 | z :: u :: l, y, h => by
  rw [List.getLast?_cons_cons] at h
  have ih := compL_snoc (x := x) h
  simp only [List.cons_append] at ih ⊢
  simp only [compL]
  split
  ·rw [ih]
  ·rw [ih]; split <;> simp
theorem compL_len : ∀ l : List Int, (compL l).length ≤ l.length
 | [] => Nat.le_refl _
 | [x] => Nat.le_refl _
 | x :: y :: l => by
  have := compL_len (y :: l)
  unfold compL
  split
  ·simp only [List.length_cons] at this ⊢; omega
  ·simp only [List.length_cons] at this ⊢; omega
end Go.Proofs.YtfilfijammemfaaGreatDoor
namespace Go.Proofs.YtfilfijammemfaaGreatDoor
theorem compL_last : ∀ {n : Nat} {l : List Int} {y : Int}, l.length = n → l.Pairwise (· ≤ ·) → l.getLast? = some y → ∃ R, compL l = R ++ [y] ∧ ∀ r ∈ R, r < y
 | 0, l, y, hn, _, h => by rw [List.eq_nil_of_length_eq_zero hn] at h; cases h
 | n + 1, l, y, hn, hs, h => by
  obtain ⟨A, z, rfl⟩ : ∃ A z, l = A ++ [z] := by
   rcases List.eq_nil_or_concat l with h | ⟨B, p, h⟩
   ·subst h; simp at hn
   ·exact ⟨B, p, by rw [h, List.concat_eq_append]⟩
  rw [List.getLast?_append, List.getLast?_singleton] at h
  simp only [Option.some_or, Option.some.injEq] at h
  subst h
  cases hA : A.getLast? with
  | none =>
   rw [List.getLast?_eq_none_iff] at hA
   subst hA
   exact ⟨[], rfl, fun r hr => by cases hr⟩
  | some w =>
   obtain ⟨R, h1, h2⟩ := compL_last (n := n) (l := A) (by simpa using hn) (List.pairwise_append.1 hs).1 hA
   have hwz : w ≤ z := (List.pairwise_append.1 hs).2.2 w (List.mem_of_getLast? hA) z (by simp)
   rw [compL_snoc hA]
   split
   ·rename_i e; subst e; exact ⟨R, h1, h2⟩
   ·rename_i e
    refine ⟨R ++ [w], by rw [h1], fun r hr => ?_⟩
    rcases List.mem_append.1 hr with hr | hr
    ·have := h2 r hr; omega
    ·rw [List.mem_singleton.1 hr]; omega
theorem compL_in : ∀ {n : Nat} {l : List Int} {r : Int}, l.length = n → r ∈ compL l → r ∈ l
 | 0, l, r, hn, h => by rw [List.eq_nil_of_length_eq_zero hn] at h; cases h
 | n + 1, l, r, hn, h => by
  obtain ⟨A, z, rfl⟩ : ∃ A z, l = A ++ [z] := by
   rcases List.eq_nil_or_concat l with h | ⟨B, p, h⟩
   ·subst h; simp at hn
   ·exact ⟨B, p, by rw [h, List.concat_eq_append]⟩
  cases hA : A.getLast? with
  | none =>
   rw [List.getLast?_eq_none_iff] at hA
   subst hA
   exact h
  | some w =>
   rw [compL_snoc hA] at h
   have ih := fun h => List.mem_append_left [z] (compL_in (n := n) (l := A) (r := r) (by simpa using hn) h)
   split at h
   ·exact ih h
   ·rcases List.mem_append.1 h with h | h
    ·exact ih h
    ·exact List.mem_append_right _ h
def rowsL (l : List Lin) : List Int := compL (l.map (·.1))
def grpF (l : List Lin) : List (List Lin) := (rowsL l).map fun r => l.filter fun x => decide (x.1 = r)
theorem leL_rows {l : List Lin} (h : l.Pairwise leL) : (l.map (·.1)).Pairwise (· ≤ ·) := by
 rw [List.pairwise_map]
 exact h.imp fun {a b} h => by unfold leL at h; omega
theorem grp_new {A : List Lin} {x : Lin} (hs : (A ++ [x]).Pairwise leL) (hn : ∀ y, A.getLast? = some y → y.1 ≠ x.1) : grpF (A ++ [x]) = grpF A ++ [[x]] := by
 have hlt : ∀ y ∈ A, y.1 < x.1 := by
  cases hA : A.getLast? with
  | none => rw [List.getLast?_eq_none_iff] at hA; subst hA; intro y hy; cases hy
  | some w =>
   intro y hy
   have h1 := hn w hA
   have h2 : w.1 ≤ x.1 := by have := (List.pairwise_append.1 hs).2.2 w (List.mem_of_getLast? hA) x (by simp); unfold leL at this; omega
   obtain ⟨B, rfl⟩ : ∃ B, A = B ++ [w] := by
    obtain ⟨B, hB⟩ := List.getLast?_eq_some_iff.1 hA
    exact ⟨B, hB⟩
   rcases List.mem_append.1 hy with hy | hy
   ·have := (List.pairwise_append.1 (List.pairwise_append.1 hs).1).2.2 y hy w (by simp)
    unfold leL at this; omega
   ·rw [List.mem_singleton.1 hy]; omega
 have hr : rowsL (A ++ [x]) = rowsL A ++ [x.1] := by
  unfold rowsL
  rw [List.map_append, List.map_cons, List.map_nil]
  cases hA : A.getLast? with
  | none => rw [List.getLast?_eq_none_iff] at hA; subst hA; rfl
  | some w =>
   rw [compL_snoc (y := w.1) (by rw [List.getLast?_map, hA]; rfl), if_neg (hn w hA)]
 unfold grpF
 rw [hr, List.map_append]
 congr 1
 ·refine List.map_congr_left fun r hr => ?_
  have : r ∈ A.map (·.1) := compL_in rfl hr
  obtain ⟨y, hy, rfl⟩ := List.mem_map.1 this
  have := hlt y hy
  rw [List.filter_append]
  simp only [List.filter_cons, List.filter_nil]
  rw [if_neg (by simp only [decide_eq_true_eq]; omega), List.append_nil]
 ·simp only [List.map_cons, List.map_nil, List.filter_append, List.filter_cons, List.filter_nil, decide_true, if_pos]
  rw [List.filter_eq_nil_iff.2 fun y hy => by have := hlt y hy; simp only [decide_eq_true_eq]; omega]
  rfl
theorem grp_same {A : List Lin} {x y : Lin} (hs : (A ++ [x]).Pairwise leL) (hy : A.getLast? = some y) (he : y.1 = x.1) : ∃ G g, grpF A = G ++ [g] ∧ grpF (A ++ [x]) = G ++ [g ++ [x]] := by
 have hsA := leL_rows (List.pairwise_append.1 hs).1
 obtain ⟨R, h1, h2⟩ := compL_last rfl hsA (y := y.1) (by rw [List.getLast?_map, hy]; rfl)
 have hr : rowsL (A ++ [x]) = rowsL A := by
  unfold rowsL
  rw [List.map_append, List.map_cons, List.map_nil, compL_snoc (y := y.1) (by rw [List.getLast?_map, hy]; rfl), if_pos he]
 have hrA : rowsL A = R ++ [y.1] := h1
 refine ⟨R.map fun r => A.filter fun x => decide (x.1 = r), A.filter fun x => decide (x.1 = y.1), ?_, ?_⟩
 ·unfold grpF; rw [hrA, List.map_append]; rfl
 ·unfold grpF
  rw [hr, hrA, List.map_append]
  congr 1
  ·refine List.map_congr_left fun r hr => ?_
   have := h2 r hr
   rw [List.filter_append]
   simp only [List.filter_cons, List.filter_nil]
   rw [if_neg (by simp only [decide_eq_true_eq]; omega), List.append_nil]
  ·simp only [List.map_cons, List.map_nil, List.filter_append, List.filter_cons, List.filter_nil]
   rw [if_pos (by simp only [decide_eq_true_eq]; omega)]
def turnG (i : Nat) (g : List Lin) : List Lin := if i % 2 = 1 then g.reverse.map fun x => (x.1, x.2.2, x.2.1) else g
abbrev RunZ := Nat × Int × Int × Int
def rnzK (G : List (List Lin)) (k : Nat) : List RunZ := (List.range k).flatMap fun i => (turnG i (G.getD i [])).map fun x => (i, x)
def rnzF (G : List (List Lin)) : List RunZ := rnzK G G.length
theorem rnzK_succ {G : List (List Lin)} {k : Nat} {g : List Lin} (h : G[k]? = some g) : rnzK G (k + 1) = rnzK G k ++ (turnG k g).map fun x => (k, x) := by
 unfold rnzK
 rw [List.range_succ, List.flatMap_append]
 simp [h]
theorem turnG_len {i : Nat} {g : List Lin} : (turnG i g).length = g.length := by unfold turnG; split <;> simp
theorem grp_len : ∀ {n : Nat} {l : List Lin}, l.length = n → l.Pairwise leL → (grpF l).length ≤ n ∧ (grpF l).flatten = l
 | 0, l, hn, _ => by rw [List.eq_nil_of_length_eq_zero hn]; exact ⟨Nat.le_refl _, rfl⟩
 | n + 1, l, hn, hs => by
  obtain ⟨A, z, rfl⟩ : ∃ A z, l = A ++ [z] := by
   rcases List.eq_nil_or_concat l with h | ⟨B, p, h⟩
   ·subst h; simp at hn
   ·exact ⟨B, p, by rw [h, List.concat_eq_append]⟩
  obtain ⟨h1, h2⟩ := grp_len (n := n) (l := A) (by simpa using hn) (List.pairwise_append.1 hs).1
  by_cases hc : ∀ y, A.getLast? = some y → y.1 ≠ z.1
  ·rw [grp_new hs hc]
   refine ⟨by simp; omega, by simp [h2]⟩
  ·simp only [Classical.not_forall, Classical.not_not] at hc
   obtain ⟨y, hy, e⟩ := hc
   obtain ⟨G, g, e1, e2⟩ := grp_same hs hy e
   rw [e2]
   rw [e1] at h1 h2
   refine ⟨by simp at h1 ⊢; omega, ?_⟩
   rw [← h2]
   simp
def zigE (st q : Int) (s : List (List Spot) × Int × Int) (x : RunZ) : List (List Spot) × Int × Int :=
 (if s.1 ≠ [] ∧ (x.1 : Int) = s.2.1 + 1 ∧ -1 ≤ x.2.2.1 - s.2.2 ∧ x.2.2.1 - s.2.2 ≤ 1 then s.1.dropLast ++ [(s.1.getLastD []) ++ ptsL st q x.2] else s.1 ++ [ptsL st q x.2], (x.1 : Int), x.2.2.2)
def zigS (st q : Int) (l : List RunZ) : List (List Spot) × Int × Int := l.foldl (zigE st q) ([], -1, 0)
theorem zigS_snoc {st q : Int} {l : List RunZ} {x : RunZ} : zigS st q (l ++ [x]) = zigE st q (zigS st q l) x := by unfold zigS; rw [List.foldl_append]; rfl
def zigF (st q : Int) (l : List Lin) : List (List Spot) := (zigS st q (rnzF (grpF l))).1
end Go.Proofs.YtfilfijammemfaaGreatDoor
namespace Go.Proofs.YtfilfijammemfaaGreatDoor
theorem ptsL_len2 {st q r a b : Int} : (ptsL st q (r, b, a)).length = (ptsL st q (r, a, b)).length := by
 unfold ptsL
 simp only
 by_cases e : a = b
 ·subst e; rfl
 ·rw [if_pos e, if_pos (fun h => e h.symm)]; rfl
theorem zigS_sum {st q : Int} : ∀ {n : Nat} {l : List RunZ}, l.length = n → (((zigS st q l).1.map List.length).sum = (l.map fun x => (ptsL st q x.2).length).sum ∧ (zigS st q l).1.length ≤ n)
 | 0, l, hn => by rw [List.eq_nil_of_length_eq_zero hn]; exact ⟨rfl, Nat.le_refl _⟩
 | n + 1, l, hn => by
  obtain ⟨A, z, rfl⟩ : ∃ A z, l = A ++ [z] := by
   rcases List.eq_nil_or_concat l with h | ⟨B, p, h⟩
   ·subst h; simp at hn
   ·exact ⟨B, p, by rw [h, List.concat_eq_append]⟩
  obtain ⟨h1, h2⟩ := zigS_sum (st := st) (q := q) (n := n) (l := A) (by simpa using hn)
  rw [zigS_snoc, List.map_append, List.sum_append, ← h1]
  unfold zigE
  simp only
  generalize (zigS st q A).1 = O at *
  split
  ·rename_i hc
   obtain ⟨O', o, rfl⟩ : ∃ O' o, O = O' ++ [o] := by
    rcases List.eq_nil_or_concat O with h | ⟨B, p, h⟩
    ·exact absurd h hc.1
    ·exact ⟨B, p, by rw [h, List.concat_eq_append]⟩
   simp only [List.dropLast_concat, List.getLastD_concat, List.map_append, List.sum_append, List.map_cons, List.map_nil, List.sum_cons, List.sum_nil, List.length_append, List.length_cons, List.length_nil] at h2 ⊢
   omega
  ·refine ⟨?_, ?_⟩
   ·rw [List.map_append, List.sum_append]; rfl
   ·rw [List.length_append]; simp only [List.length_cons, List.length_nil]; omega
theorem turnG_sum {st q : Int} {i : Nat} {g : List Lin} : ((turnG i g).map fun x => (ptsL st q x).length).sum = (g.map fun x => (ptsL st q x).length).sum := by
 unfold turnG
 split
 ·rw [List.map_map, List.map_reverse, List.sum_reverse]
  congr 1
  refine List.map_congr_left fun x _ => ?_
  obtain ⟨r, a, b⟩ := x
  exact ptsL_len2
 ·rfl
theorem rnzK_sum {st q : Int} {G : List (List Lin)} : ∀ {k : Nat}, k ≤ G.length → ((rnzK G k).map fun x => (ptsL st q x.2).length).sum = ((G.take k).flatten.map fun x => (ptsL st q x).length).sum ∧ (rnzK G k).length = (G.take k).flatten.length
 | 0, _ => by simp [rnzK]
 | k + 1, h => by
  have hg : G[k]? = some G[k] := List.getElem?_eq_getElem (by omega)
  obtain ⟨h1, h2⟩ := rnzK_sum (st := st) (q := q) (G := G) (k := k) (by omega)
  rw [rnzK_succ hg, List.map_append, List.sum_append, h1, List.take_add_one, hg]
  simp only [Option.toList_some, List.flatten_append, List.flatten_cons, List.flatten_nil, List.append_nil, List.map_append, List.sum_append, List.length_append, h2]
  refine ⟨?_, by rw [List.length_map, turnG_len]⟩
  rw [List.map_map, ← turnG_sum (i := k) (g := G[k])]
  rfl
theorem zig_sum {st q : Int} {l : List Lin} (hs : l.Pairwise leL) : ((zigF st q l).map List.length).sum = (l.map fun x => (ptsL st q x).length).sum ∧ (zigF st q l).length ≤ l.length := by
 obtain ⟨h1, h2⟩ := zigS_sum (st := st) (q := q) (l := rnzF (grpF l)) rfl
 obtain ⟨h3, h4⟩ := rnzK_sum (st := st) (q := q) (G := grpF l) (Nat.le_refl _)
 rw [List.take_length, (grp_len rfl hs).2] at h3 h4
 exact ⟨h1.trans h3, Nat.le_trans h2 (Nat.le_of_eq h4)⟩
end Go.Proofs.YtfilfijammemfaaGreatDoor
