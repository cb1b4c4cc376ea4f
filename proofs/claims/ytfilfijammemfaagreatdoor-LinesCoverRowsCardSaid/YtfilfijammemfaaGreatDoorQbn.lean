/- The runs of a zigzag: rows of lines, each an array of its own, in a pool. -/
import Derived.Test.YtfilfijammemfaaGreatDoorQbm
import Derived.Test.YtfilfijammemfaaGreatDoorQbi
import Derived.Test.YtfilfijammemfaaGreatDoorQbk
set_option linter.unusedSimpArgs false
set_option linter.unusedVariables false
namespace Go.Proofs.YtfilfijammemfaaGreatDoor
open Go Go.RowKit
set_option maxRecDepth 100000
abbrev ownR (A : Option Addr) (n c : Nat) : List CV := [.s (.slice A n c), B false]
abbrev rzR (l : List RunZ) : List (List CV) := l.map fun x => [I x.1, I x.2.1, I x.2.2.1, I x.2.2.2]
theorem revFl_a (l : List Lin) (c : Nat) (hl : l.length ≤ 1000000) (hc : l.length ≤ c) : ACallsX true Tryz.prog 85 [.o 0 0 l.length c] [.arr 69 3 c (l.map (fun p : Lin => [I p.1, I p.2.1, I p.2.2]))] fun u H => u = .t [] ∧ H = [.arr 69 3 c (l.reverse.map (fun p : Lin => [I p.1, I p.2.1, I p.2.2]))] := by
 refine zK true (N := 28) Tryz.func85 rfl rfl (by simp) fun E hE hP => ?_
 refine WA ?_
 refine zk (fun q F H => ∃ (k : Nat) (j : Int) (l' : List Lin), q + k = l.length ∧ j = (l.length : Int) - 1 - k ∧ k ≤ l.length ∧ SwK l k l' ∧ F = [(0, .o 0 0 l.length c), (2, .c (I k)), (3, .c (I j))] ∧ H = [.arr 69 3 c (l'.map (fun p : Lin => [I p.1, I p.2.1, I p.2.2]))]) ?_ ?_
 ·refine zh [some 0] (fun _ => [(0, .o 0 0 l.length c), (2, .c (I (0 : Nat))), (3, .c (I ((l.length : Int) - 1)))]) (fun _ => _) (by decide) (ZNL hE) ZCF ZCH (fun _ => ?_)
  exact ⟨l.length, 0, _, l, by omega, by omega, by omega, .zero l, rfl, rfl⟩
 rintro q F H ⟨k, j, l', hq, hj, hkl, hS, rfl, rfl⟩
 refine WA ?_
 refine zl rfl (fun hlt => ?_) (fun hge => ?_)
 ·obtain ⟨j', rfl⟩ : ∃ j' : Nat, j = j' := ⟨j.toNat, by omega⟩
  have hl1 := hS.1
  obtain ⟨x, hx⟩ : ∃ x, l'[k]? = some x := ⟨_, List.getElem?_eq_getElem (by omega)⟩
  obtain ⟨y, hy⟩ : ∃ y, l'[j']? = some y := ⟨_, List.getElem?_eq_getElem (by omega)⟩
  have hrx : (l'.map (fun p : Lin => [I p.1, I p.2.1, I p.2.2]))[k]? = some [I x.1, I x.2.1, I x.2.2] := by rw [List.getElem?_map, hx]; rfl
  have hry : (l'.map (fun p : Lin => [I p.1, I p.2.1, I p.2.2]))[j']? = some [I y.1, I y.2.1, I y.2.2] := by rw [List.getElem?_map, hy]; rfl
  have hry2 : ((l'.map (fun p : Lin => [I p.1, I p.2.1, I p.2.2])).set (0 + k) [I y.1, I y.2.1, I y.2.2])[0 + j']? = some [I y.1, I y.2.1, I y.2.2] := by rw [Nat.zero_add, Nat.zero_add, List.getElem?_set_ne (by omega), hry]
  have hS2 := hS.next (j := j') (by omega) (by omega) hx hy
  have hm : (((l'.set k y).set j' x).map (fun p : Lin => [I p.1, I p.2.1, I p.2.2])) = ((l'.map (fun p : Lin => [I p.1, I p.2.1, I p.2.2])).set (0 + k) [I y.1, I y.2.1, I y.2.2]).set (0 + j') [I x.1, I x.2.1, I x.2.2] := by rw [List.map_set, List.map_set, Nat.zero_add, Nat.zero_add]
  refine ZZ ?_
  refine zg [(0, none), (1, none), (2, none), (3, none), (4, none), (5, none), (6, none), (7, none), (8, none), (9, none), (10, none), (11, none), (12, none), (13, some [2, 3]), (14, none), (15, some [])] zn (by kernel_rfl) ?_
  refine WQ ?_
  refine WA ?_
  refine zh [some 0] (fun _ => [(0, .o 0 0 l.length c), (2, .c (I (k + 1 : Nat))), (3, .c (I ((j' : Int) - 1)))]) (fun _ => [.arr 69 3 c (((l'.set k y).set j' x).map (fun p : Lin => [I p.1, I p.2.1, I p.2.2]))]) (by decide) (ZNL hE) ZCF (by rw [hm]; exact ZCH) (fun _ => ?_)
  exact ⟨q - 1, by omega, k + 1, _, _, by omega, by omega, by omega, hS2, rfl, rfl⟩
 refine ZZ ?_
 have he : l' = l.reverse := hS.fin (by omega)
 subst he
 refine zF1 [some 0] (fun _ => [.arr 69 3 c (l.reverse.map (fun p : Lin => [I p.1, I p.2.1, I p.2.2]))]) (by simp) rfl (by decide) (ZNK rfl) ZCH (fun _ => ⟨rfl, rfl⟩)
theorem linG_le {g : Grd} {q ev ph : Int} : (linG g q ev ph).Pairwise leL := by
 unfold linG
 exact (lnS_sorted).imp fun {a b} h => by unfold ltL at h; unfold leL; omega
abbrev GeL := Option Addr × Nat × List Lin
def geE (x : GeL) : PE := .ar (.slice x.1 x.2.2.length x.2.1) x.2.2.length x.2.1 69 3 x.2.1 (lnR x.2.2)
abbrev geP (L : List GeL) : List PE := L.map geE
abbrev geR (L : List GeL) : List (List CV) := L.map fun x => [.s (.slice x.1 x.2.2.length x.2.1)]
abbrev geG (L : List GeL) : List (List Lin) := L.map (·.2.2)
def Jrun1 (v : Value) (LL : List Lin) (i : Nat) (r a b : Int) (F : Fm) (H : List OB) : Prop := ∃ (L : List GeL) (A : Option Addr) (c : Nat) (ls : List Lin) (cp : Nat), geG L ++ [ls ++ [(r, a, b)]] = grpF (LL.take (i + 1)) ∧ L.length ≤ i ∧ ls.length ≤ i ∧ F = [(3, .o 0 0 (L.length + 1) cp), (5, .p 4 0 0), (0, .c (.r v (lnR LL))), (11, .c (.r v (lnR LL))), (12, .c (I LL.length)), (13, .c (I i))] ∧
 H = [.arr 65 1 cp (geR L ++ [[.s (.slice A ls.length c)]]), .pool (geP L), .arr 69 3 c (lnR ls), .eqv (.o 2 0 ls.length c) (.slice A ls.length c), .box [.c (I r), .c (I a), .c (I b)]]
def Jrun0 (v : Value) (LL : List Lin) (i : Nat) (F : Fm) (H : List OB) : Prop := ∃ (L : List GeL) (A : Option Addr) (c : Nat) (ls : List Lin) (cp : Nat), geG L ++ [ls] = grpF (LL.take i) ∧ L.length + 1 ≤ i ∧ ls.length ≤ i ∧ F = [(3, .o 0 0 (L.length + 1) cp), (0, .c (.r v (lnR LL))), (11, .c (.r v (lnR LL))), (12, .c (I LL.length)), (13, .c (I i))] ∧
 H = [.arr 65 1 cp (geR L ++ [[.s (.slice A ls.length c)]]), .pool (geP L), .arr 69 3 c (lnR ls), .eqv (.o 2 0 ls.length c) (.slice A ls.length c)]
set_option maxHeartbeats 8000000 in
theorem runs_v (v : Value) (LL : List Lin) (hs : LL.Pairwise leL) (hl : LL.length ≤ 100000) : ACalls Tryz.prog 38 [.c (.r v (lnR LL))] [] fun u H => ∃ v', u = .c (.r v' (rzR (rnzF (grpF LL)))) ∧ H = [] := by
 refine ze (N := 90) Tryz.func38 rfl rfl (by simp) fun E hE => ?_
 refine WA ?_
 refine WA ?_
 refine WA ?_
 have elen : (lnR LL).length = LL.length := by simp
 refine zC1 (wk_pool0 (K := fun F' H' => F' = _ ∧ H' = _) ⟨rfl, rfl⟩) ?_
 rintro _ _ ⟨rfl, rfl⟩
 refine aw_loopk 0 (fun m F H => ∃ i, m + i = LL.length ∧ ((i = 0 ∧ F = [(3, .o 0 0 0 0), (0, .c (.r v (lnR LL))), (11, .c (.r v (lnR LL))), (12, .c (I LL.length)), (13, .c (I (0 : Nat)))] ∧ H = [.arr 65 1 0 [], .pool []]) ∨ (1 ≤ i ∧ Jrun0 v LL i F H))) (fun F H => ∃ (L : List GeL) (cp : Nat), geG L = grpF LL ∧ F = [(3, .o 0 0 L.length cp)] ∧ H = [.arr 65 1 cp (geR L), .pool (geP L)]) ?_ ?_ ?_ (fun _ _ h => zC1 h fun _ _ h => h)
 ·refine zh [none, some 0] (fun _ => [(3, .o 0 0 0 0), (0, .c (.r v (lnR LL))), (11, .c (.r v (lnR LL))), (12, .c (I LL.length)), (13, .c (I (0 : Nat)))]) (fun _ => [.arr 65 1 0 [], .pool []]) (by decide) (ZNL hE) (by rw [← elen]; exact ZCF) ZCH (fun _ => ?_)
  exact ⟨LL.length, 0, rfl, .inl ⟨rfl, rfl, rfl⟩⟩
 ·rintro m F H ⟨i, hm, hc⟩
  rcases hc with ⟨rfl, rfl, rfl⟩ | ⟨hi1, L, A, c, ls, cp, hg, hL, hls, rfl, rfl⟩
  ·refine WA ?_
   refine zl rfl (fun hlt => ?_) (fun hge => ?_)
   ·obtain ⟨⟨r, a, b⟩, hx⟩ : ∃ x, LL[0]? = some x := ⟨_, List.getElem?_eq_getElem (by omega)⟩
    have hrow : (lnR LL)[0]? = some [I r, I a, I b] := by rw [List.getElem?_map, hx]; rfl
    have hg1 : geG [] ++ [[] ++ [(r, a, b)]] = grpF (LL.take (0 + 1)) := by
     have : LL.take 1 = [] ++ [(r, a, b)] := by rw [List.take_add_one, hx]; rfl
     rw [this, grp_new (A := []) (by simp) (fun y hy => by cases hy)]; rfl
    refine WA ?_
    refine ZZ ?_
    refine zg [(0, none), (1, none), (2, none), (3, none), (4, none), (5, none), (6, none), (7, none), (8, none), (9, none), (10, none), (11, none), (12, none)] zn (by kernel_rfl) ?_
    refine WQ ?_
    refine aw_cut (Jrun1 v LL 0 r a b) ?_ ?_ wk_aw
    ·refine zb rfl ?_
     refine WR ?_
     refine zf rfl (Zapp (KA (t := 153) rfl)) ?_
     rintro _ _ ⟨_, cc, hcc, rfl, rfl⟩
     refine WE ?_
     refine wk_bind (wk_nilrow (K := fun F' H' => F' = _ ∧ H' = _) (b := 0) (Rs := []) 69 3 rfl ⟨rfl, rfl⟩) ?_
     rintro _ _ ⟨rfl, rfl⟩
     refine zh [some 0, some 1, some 4, some 5, some 2] (fun _ => [(3, .o 0 0 1 cc), (5, .p 4 0 0), (0, .c (.r v (lnR LL))), (11, .c (.r v (lnR LL))), (12, .c (I LL.length)), (13, .c (I (0 : Nat)))]) (fun _ => [.arr 65 1 cc [[.s (.slice none 0 0)]], .pool [], .arr 69 3 0 [], .eqv (.o 2 0 0 0) (.slice none 0 0), .box [.c (I r), .c (I a), .c (I b)]]) (by decide) (ZNL hE) ZCF ZCG (fun _ => ?_)
     exact ⟨[], none, 0, [], cc, hg1, Nat.le_refl _, Nat.le_refl _, rfl, rfl⟩
    rintro F H ⟨L, A, c, ls, cp, hg, hL, hls, rfl, rfl⟩
    refine ZZ ?_
    have hlr : (geR L ++ [[CV.s (.slice A ls.length c)]])[0 + L.length]? = some [CV.s (.slice A ls.length c)] := by
     rw [Nat.zero_add, List.getElem?_append_right (by simp)]; simp
    have hll : (geR L ++ [[CV.s (.slice A ls.length c)]]).length = L.length + 1 := by simp
    have hls2 : (lnR ls).length = ls.length := by simp
    have hset : ∀ x : List CV, (geR L ++ [[CV.s (.slice A ls.length c)]]).set (0 + L.length) x = geR L ++ [x] := fun x => by
     rw [Nat.zero_add, List.set_append_right _ _ (by simp)]; simp
    refine ZZ ?_
    refine zg [(0, none), (1, none), (2, none), (3, none), (4, none), (5, none), (6, none), (7, none), (8, none), (9, none), (10, none), (11, some [0, 1, 2, 3, 4, 5, 6, 7, 8, 9]), (12, some [0, 1, 2, 3]), (13, none), (14, some [])] zn (by kernel_rfl) ?_
    iterate 8 refine WX2 ?_
    refine ZT rfl (zo1 (i := L.length) rfl (KE (t := 153) rfl) rfl rfl rfl (by omega) (by omega)) ?_
    iterate 2 refine WX2 ?_
    refine zY rfl rfl (Ybsl) ?_
    rintro _ _ ⟨rfl, rfl⟩
    refine ⟨zj (by first | exact zu rfl rfl rfl (zB rfl rfl) rfl) (zj (by first | exact zu rfl rfl rfl (zB rfl rfl) rfl) (zj (by first | exact zu rfl rfl rfl (Zlen (KE (t := 153) rfl)) rfl) (zj (by first | exact zu rfl rfl rfl (Zsub) rfl) (zj (by first | exact zu rfl rfl rfl (zB rfl rfl) rfl) (zj (by first | exact zu rfl rfl rfl (zB rfl rfl) rfl) (zj (by first | exact zu rfl rfl rfl (Zlen (KE (t := 153) rfl)) rfl) (zj (by first | exact zu rfl rfl rfl (Zsub) rfl) (zj (by first | exact zu rfl rfl rfl (zo1 (i := L.length) rfl (KE (t := 153) rfl) rfl rfl rfl (by omega) (by omega)) rfl) (zj (by first | exact zu rfl rfl rfl (ZL (KK (t := 65) rfl)) rfl) (zm)))))))))), ?_⟩
    first | refine al_thaw (i := 43) (b := 3) rfl rfl ?_ | refine at_thaw (i := 43) (b := 3) rfl rfl ?_ | refine am_thaw (i := 43) (b := 3) rfl rfl ?_
    refine zY rfl rfl (Zapp (news := [[I r, I a, I b]]) (j := 1) (hE := KA (t := 65) rfl) (hsrc := .own rfl rfl rfl) (hj := rfl) (hle := by omega)) ?_
    rintro _ _ ⟨_, cc, hcc, rfl, rfl⟩
    refine ⟨zj (by first | exact zu rfl rfl rfl (zB rfl rfl) rfl) (zj (by first | exact zu rfl rfl rfl (zB rfl rfl) rfl) (zj (by first | exact zu rfl rfl rfl (Zlen (KE (t := 153) rfl)) rfl) (zj (by first | exact zu rfl rfl rfl (Zsub) rfl) (zm)))), ?_⟩
    first | refine al_ghost (i := 46) rfl fun A3 => ?_ | refine at_ghost (i := 46) rfl fun A3 => ?_ | refine am_ghost (i := 46) rfl fun A3 => ?_
    refine at_rd rfl rfl rfl (by decide) (zo1 (i := L.length) rfl (KE (t := 153) rfl) rfl rfl rfl (by omega) (by omega)) ?_
    refine WQ ?_
    all_goals (
     refine WA ?_
     have e7 : (ls ++ [(r, a, b)]).length = ls.length + 1 := by simp
     have e8 : lnR (ls ++ [(r, a, b)]) = lnR ls ++ [[I r, I a, I b]] := List.map_append
     refine zh [some 0, some 1, some 2, some 6] (fun _ => [(3, .o 0 0 (L.length + 1) cp), (0, .c (.r v (lnR LL))), (11, .c (.r v (lnR LL))), (12, .c (I LL.length)), (13, .c (I (0 + 1 : Nat)))]) (fun _ => [.arr 65 1 cp (geR L ++ [[.s (.slice A3 (ls ++ [(r, a, b)]).length cc)]]), .pool (geP L), .arr 69 3 cc (lnR (ls ++ [(r, a, b)])), .eqv (.o 2 0 (ls ++ [(r, a, b)]).length cc) (.slice A3 (ls ++ [(r, a, b)]).length cc)]) (by decide) (ZNL hE) ZCF (by rw [e8, e7, ← hset]; exact ZCG) (fun _ => ?_)
     exact ⟨m - 1, by omega, 0 + 1, by omega, .inr ⟨by omega, L, A3, cc, ls ++ [(r, a, b)], cp, hg, by omega, by omega, rfl, rfl⟩⟩)
   ·obtain rfl : LL = [] := List.eq_nil_of_length_eq_zero (by omega)
    refine ZZ ?_
    refine .inl ⟨rfl, ?_⟩
    refine zh [some 0, some 1] (fun _ => [(3, .o 0 0 0 0)]) (fun _ => [.arr 65 1 0 [], .pool []]) (by decide) (ZNL hE) ZCF ZCG (fun _ => ?_)
    exact ⟨[], 0, rfl, rfl, rfl⟩
  ·refine WA ?_
   refine zl rfl (fun hlt => ?_) (fun hge => ?_)
   ·obtain ⟨⟨r, a, b⟩, hx⟩ : ∃ x, LL[i]? = some x := ⟨_, List.getElem?_eq_getElem (by omega)⟩
    have hrow : (lnR LL)[i]? = some [I r, I a, I b] := by rw [List.getElem?_map, hx]; rfl
    obtain ⟨⟨r1, a1, b1⟩, hy⟩ : ∃ x, LL[i - 1]? = some x := ⟨_, List.getElem?_eq_getElem (by omega)⟩
    have hprev : (lnR LL)[i - 1]? = some [I r1, I a1, I b1] := by rw [List.getElem?_map, hy]; rfl
    have h0 : ¬ ((i : Nat) : Int) = 0 := by omega
    have htk : LL.take (i + 1) = LL.take i ++ [(r, a, b)] := by rw [List.take_add_one, hx]; rfl
    have hss : (LL.take i ++ [(r, a, b)]).Pairwise leL := by rw [← htk]; exact hs.sublist (List.take_sublist _ _)
    have hlast : (LL.take i).getLast? = some (r1, a1, b1) := by
     rw [show i = (i - 1) + 1 by omega, List.take_add_one, hy]; simp
    refine WA ?_
    refine ZZ ?_
    refine zg [(0, none), (1, none), (2, none), (3, none), (4, none), (5, none), (6, none), (7, none), (8, none), (9, none), (10, none), (11, none), (12, none)] zn (by kernel_rfl) ?_
    iterate 8 refine WX2 ?_
    first | refine ZU rfl (zR1 (i := i - 1) rfl (KE (t := 65) rfl) rfl rfl (by omega) hprev rfl) ?_ | refine ZV ?_
    refine WQ ?_
    refine aw_cut (Jrun1 v LL i r a b) ?_ ?_ wk_aw
    ·refine zl rfl (fun hne => ?_) (fun heq => ?_)
     ·have hg1 : grpF (LL.take (i + 1)) = grpF (LL.take i) ++ [[(r, a, b)]] := by
       rw [htk]
       exact grp_new hss (fun y hy' => by rw [hlast] at hy'; injection hy' with e; subst e; exact fun e => hne e.symm)
      have eL : geR (L ++ [(A, c, ls)]) = geR L ++ [[CV.s (.slice A ls.length c)]] := List.map_append
      have eP : geP (L ++ [(A, c, ls)]) = geP L ++ [PE.ar (.slice A ls.length c) ls.length c 69 3 c (lnR ls)] := List.map_append
      have eN : (L ++ [((A, c, ls) : GeL)]).length = L.length + 1 := by simp
      refine zC1 (wk_pute (K := fun F' H' => ∃ g, F' = killF g [2] _ ∧ H' = ((List.map (killO g [2]) _).set 2 .dead).set 1 _) (b := 2) (q := 3) (p := 1) (.ar (.slice A ls.length c) ls.length c 69 3 c (lnR ls)) rfl rfl (by simp) rfl ⟨_, hE, rfl⟩ (fun g hg => ⟨g, rfl, rfl⟩)) ?_
      rintro _ _ ⟨gg, rfl, rfl⟩
      refine zC1 (zh (K := fun F H => F = [(3, .o 0 0 (L ++ [((A, c, ls) : GeL)]).length cp), (5, .p 2 0 0), (0, .c (.r v (lnR LL))), (11, .c (.r v (lnR LL))), (12, .c (I LL.length)), (13, .c (I i))] ∧ H = [.arr 65 1 cp (geR (L ++ [(A, c, ls)])), .pool (geP (L ++ [(A, c, ls)])), .box [.c (I r), .c (I a), .c (I b)]]) [some 0, some 1, some 4] (fun _ => [(3, .o 0 0 (L ++ [((A, c, ls) : GeL)]).length cp), (5, .p 2 0 0), (0, .c (.r v (lnR LL))), (11, .c (.r v (lnR LL))), (12, .c (I LL.length)), (13, .c (I i))]) (fun _ => [.arr 65 1 cp (geR (L ++ [(A, c, ls)])), .pool (geP (L ++ [(A, c, ls)])), .box [.c (I r), .c (I a), .c (I b)]]) (by decide) (ZNL hE) (by rw [eN]; exact ZCF) (by rw [eL, eP]; exact ZCG) (fun _ => ⟨rfl, rfl⟩)) ?_
      rintro _ _ ⟨rfl, rfl⟩
      refine WR ?_
      refine zf rfl (Zapp (KA (t := 153) rfl)) ?_
      rintro _ _ ⟨_, cc, hcc, rfl, rfl⟩
      refine WE ?_
      refine wk_bind (wk_nilrow (K := fun F' H' => F' = _ ∧ H' = _) (b := 0) (Rs := geR (L ++ [(A, c, ls)])) 69 3 rfl ⟨rfl, rfl⟩) ?_
      rintro _ _ ⟨rfl, rfl⟩
      refine zh [some 0, some 1, some 4, some 5, some 2] (fun _ => [(3, .o 0 0 ((L ++ [((A, c, ls) : GeL)]).length + 1) cc), (5, .p 4 0 0), (0, .c (.r v (lnR LL))), (11, .c (.r v (lnR LL))), (12, .c (I LL.length)), (13, .c (I i))]) (fun _ => [.arr 65 1 cc (geR (L ++ [(A, c, ls)]) ++ [[.s (.slice none 0 0)]]), .pool (geP (L ++ [(A, c, ls)])), .arr 69 3 0 [], .eqv (.o 2 0 0 0) (.slice none 0 0), .box [.c (I r), .c (I a), .c (I b)]]) (by decide) (ZNL hE) ZCF ZCG (fun _ => ?_)
      exact ⟨L ++ [(A, c, ls)], none, 0, [], cc, by rw [hg1, ← hg]; simp, by simp; omega, Nat.zero_le _, rfl, rfl⟩
     ·refine ZZ ?_
      have hg1 : geG L ++ [ls ++ [(r, a, b)]] = grpF (LL.take (i + 1)) := by
       obtain ⟨G, g, e1, e2⟩ := grp_same hss hlast (by simp only; omega)
       rw [htk, e2]
       rw [← hg] at e1
       obtain ⟨e3, e4⟩ := List.append_inj' e1 rfl
       rw [e3]
       injection e4 with e4
       rw [e4]
      refine zh [some 0, some 1, some 2, some 3, some 4] (fun _ => [(3, .o 0 0 (L.length + 1) cp), (5, .p 4 0 0), (0, .c (.r v (lnR LL))), (11, .c (.r v (lnR LL))), (12, .c (I LL.length)), (13, .c (I i))]) (fun _ => [.arr 65 1 cp (geR L ++ [[.s (.slice A ls.length c)]]), .pool (geP L), .arr 69 3 c (lnR ls), .eqv (.o 2 0 ls.length c) (.slice A ls.length c), .box [.c (I r), .c (I a), .c (I b)]]) (by decide) (ZNL hE) ZCF ZCG (fun _ => ?_)
      exact ⟨L, A, c, ls, cp, hg1, by omega, hls, rfl, rfl⟩
    clear hg hL hls hprev hy hss hlast h0
    rintro F H ⟨L, A, c, ls, cp, hg, hL, hls, rfl, rfl⟩
    refine ZZ ?_
    have hlr : (geR L ++ [[CV.s (.slice A ls.length c)]])[0 + L.length]? = some [CV.s (.slice A ls.length c)] := by
     rw [Nat.zero_add, List.getElem?_append_right (by simp)]; simp
    have hll : (geR L ++ [[CV.s (.slice A ls.length c)]]).length = L.length + 1 := by simp
    have hls2 : (lnR ls).length = ls.length := by simp
    have hset : ∀ x : List CV, (geR L ++ [[CV.s (.slice A ls.length c)]]).set (0 + L.length) x = geR L ++ [x] := fun x => by
     rw [Nat.zero_add, List.set_append_right _ _ (by simp)]; simp
    refine ZZ ?_
    refine zg [(0, none), (1, none), (2, none), (3, none), (4, none), (5, none), (6, none), (7, none), (8, none), (9, none), (10, none), (11, some [0, 1, 2, 3, 4, 5, 6, 7, 8, 9]), (12, some [0, 1, 2, 3]), (13, none), (14, some [])] zn (by kernel_rfl) ?_
    iterate 8 refine WX2 ?_
    refine ZT rfl (zo1 (i := L.length) rfl (KE (t := 153) rfl) rfl rfl rfl (by omega) (by omega)) ?_
    iterate 2 refine WX2 ?_
    refine zY rfl rfl (Ybsl) ?_
    rintro _ _ ⟨rfl, rfl⟩
    refine ⟨zj (by first | exact zu rfl rfl rfl (zB rfl rfl) rfl) (zj (by first | exact zu rfl rfl rfl (zB rfl rfl) rfl) (zj (by first | exact zu rfl rfl rfl (Zlen (KE (t := 153) rfl)) rfl) (zj (by first | exact zu rfl rfl rfl (Zsub) rfl) (zj (by first | exact zu rfl rfl rfl (zB rfl rfl) rfl) (zj (by first | exact zu rfl rfl rfl (zB rfl rfl) rfl) (zj (by first | exact zu rfl rfl rfl (Zlen (KE (t := 153) rfl)) rfl) (zj (by first | exact zu rfl rfl rfl (Zsub) rfl) (zj (by first | exact zu rfl rfl rfl (zo1 (i := L.length) rfl (KE (t := 153) rfl) rfl rfl rfl (by omega) (by omega)) rfl) (zj (by first | exact zu rfl rfl rfl (ZL (KK (t := 65) rfl)) rfl) (zm)))))))))), ?_⟩
    first | refine al_thaw (i := 43) (b := 3) rfl rfl ?_ | refine at_thaw (i := 43) (b := 3) rfl rfl ?_ | refine am_thaw (i := 43) (b := 3) rfl rfl ?_
    refine zY rfl rfl (Zapp (news := [[I r, I a, I b]]) (j := 1) (hE := KA (t := 65) rfl) (hsrc := .own rfl rfl rfl) (hj := rfl) (hle := by omega)) ?_
    rintro _ _ ⟨_, cc, hcc, rfl, rfl⟩
    refine ⟨zj (by first | exact zu rfl rfl rfl (zB rfl rfl) rfl) (zj (by first | exact zu rfl rfl rfl (zB rfl rfl) rfl) (zj (by first | exact zu rfl rfl rfl (Zlen (KE (t := 153) rfl)) rfl) (zj (by first | exact zu rfl rfl rfl (Zsub) rfl) (zm)))), ?_⟩
    first | refine al_ghost (i := 46) rfl fun A3 => ?_ | refine at_ghost (i := 46) rfl fun A3 => ?_ | refine am_ghost (i := 46) rfl fun A3 => ?_
    refine at_rd rfl rfl rfl (by decide) (zo1 (i := L.length) rfl (KE (t := 153) rfl) rfl rfl rfl (by omega) (by omega)) ?_
    refine WQ ?_
    all_goals (
     refine WA ?_
     have e7 : (ls ++ [(r, a, b)]).length = ls.length + 1 := by simp
     have e8 : lnR (ls ++ [(r, a, b)]) = lnR ls ++ [[I r, I a, I b]] := List.map_append
     refine zh [some 0, some 1, some 2, some 6] (fun _ => [(3, .o 0 0 (L.length + 1) cp), (0, .c (.r v (lnR LL))), (11, .c (.r v (lnR LL))), (12, .c (I LL.length)), (13, .c (I (i + 1 : Nat)))]) (fun _ => [.arr 65 1 cp (geR L ++ [[.s (.slice A3 (ls ++ [(r, a, b)]).length cc)]]), .pool (geP L), .arr 69 3 cc (lnR (ls ++ [(r, a, b)])), .eqv (.o 2 0 (ls ++ [(r, a, b)]).length cc) (.slice A3 (ls ++ [(r, a, b)]).length cc)]) (by decide) (ZNL hE) ZCF (by rw [e8, e7, ← hset]; exact ZCG) (fun _ => ?_)
     exact ⟨m - 1, by omega, i + 1, by omega, .inr ⟨by omega, L, A3, cc, ls ++ [(r, a, b)], cp, hg, by omega, by omega, rfl, rfl⟩⟩)
   ·obtain rfl : i = LL.length := by omega
    refine ZZ ?_
    refine .inl ⟨rfl, ?_⟩
    rw [List.take_length] at hg
    have eL : geR (L ++ [(A, c, ls)]) = geR L ++ [[CV.s (.slice A ls.length c)]] := List.map_append
    have eP : geP (L ++ [(A, c, ls)]) = geP L ++ [PE.ar (.slice A ls.length c) ls.length c 69 3 c (lnR ls)] := List.map_append
    have eN : (L ++ [((A, c, ls) : GeL)]).length = L.length + 1 := by simp
    refine wk_bind (wk_pute (K := fun F' H' => ∃ g, F' = killF g [2] _ ∧ H' = ((List.map (killO g [2]) _).set 2 .dead).set 1 _) (b := 2) (q := 3) (p := 1) (.ar (.slice A ls.length c) ls.length c 69 3 c (lnR ls)) rfl rfl (by simp) rfl ⟨_, hE, rfl⟩ (fun g hg => ⟨g, rfl, rfl⟩)) ?_
    rintro _ _ ⟨gg, rfl, rfl⟩
    refine zh [some 0, some 1] (fun _ => [(3, .o 0 0 (L ++ [((A, c, ls) : GeL)]).length cp)]) (fun _ => [.arr 65 1 cp (geR (L ++ [(A, c, ls)])), .pool (geP (L ++ [(A, c, ls)]))]) (by decide) (ZNL hE) (by rw [eN]; exact ZCF) (by rw [eL, eP]; exact ZCG) (fun _ => ?_)
    exact ⟨L ++ [(A, c, ls)], cp, by rw [← hg]; simp, rfl, rfl⟩
 rintro F H ⟨L, cp, hg, rfl, rfl⟩
 refine ZZ ?_
 have hG : L.length ≤ 100000 := by
  have h1 := grp_le LL
  rw [← hg] at h1
  simp at h1; omega
 have hfl : ∀ k, k ≤ (grpF LL).length → (rnzK (grpF LL) k).length ≤ 100000 := fun k hk => by
  rw [(rnzK_sum (st := 0) (q := 0) hk).2]
  have h2 := congrArg List.length (congrArg List.flatten (List.take_append_drop k (grpF LL)))
  rw [(grp_len rfl hs).2, List.flatten_append, List.length_append] at h2
  omega
 have hgln : (grpF LL).length = L.length := by rw [← hg, List.length_map]
 refine WA ?_
 refine WA ?_
 refine zk (fun m F H => ∃ (k : Nat) (pl : List PE) (co : Nat), m + k = L.length ∧ (∀ j, k ≤ j → pl[j]? = (geP L)[j]?) ∧ F = [(6, .o 2 0 (rzR (rnzK (grpF LL) k)).length co), (49, .o 0 0 L.length cp), (50, .c (I L.length)), (51, .c (I k))] ∧ H = [.arr 65 1 cp (geR L), .pool pl, .arr 72 4 co (rzR (rnzK (grpF LL) k))]) ?_ ?_
 ·refine zh [some 0, some 1, none] (fun _ => [(6, .o 2 0 0 0), (49, .o 0 0 L.length cp), (50, .c (I L.length)), (51, .c (I (0 : Nat)))]) (fun _ => [.arr 65 1 cp (geR L), .pool (geP L), .arr 72 4 0 []]) (by decide) (ZNL hE) ZCF ZCG (fun _ => ?_)
  exact ⟨L.length, 0, geP L, 0, rfl, fun _ _ => rfl, rfl, rfl⟩
 rintro m F H ⟨k, pl, co, hm, hpl, rfl, rfl⟩
 refine WA ?_
 refine zl rfl (fun hlt => ?_) (fun hge => ?_)
 ·obtain ⟨⟨A, cg, g⟩, hx⟩ : ∃ x, L[k]? = some x := ⟨_, List.getElem?_eq_getElem (by omega)⟩
  have hrow : (geR L)[0 + k]? = some [CV.s (.slice A g.length cg)] := by rw [Nat.zero_add, List.getElem?_map, hx]; rfl
  have hpk : pl[k]? = some (.ar (.slice A g.length cg) g.length cg 69 3 cg (lnR g)) := by rw [hpl k (Nat.le_refl _), List.getElem?_map, hx]; rfl
  have hgk : (grpF LL)[k]? = some g := by rw [← hg, List.getElem?_map, hx]; rfl
  refine WA ?_
  refine zC1 (wk_take (K := fun F' H' => F' = _ ∧ H' = _) (i := 8) (p := 1) (k := k) rfl rfl hpk rfl (by simp) ⟨rfl, rfl⟩) ?_
  rintro _ _ ⟨rfl, rfl⟩
  have hrk := rnzK_succ hgk
  have hR1 := hfl (k + 1) (by omega)
  rw [hrk, List.length_append, List.length_map] at hR1
  have htl : (turnG k g).length = g.length := turnG_len
  have hgc : g.length ≤ 1000000 := by omega
  refine zC1 (zh (K := fun F H => F = [(6, .o 2 0 (rzR (rnzK (grpF LL) k)).length co), (7, .c (I k)), (8, .o 3 0 g.length cg), (49, .o 0 0 L.length cp), (50, .c (I L.length)), (51, .c (I k))] ∧ H = [.arr 65 1 cp (geR L), .pool (pl.set k .out), .arr 72 4 co (rzR (rnzK (grpF LL) k)), .arr 69 3 cg (lnR g)]) [some 0, some 1, some 2, some 3] (fun _ => [(6, .o 2 0 (rzR (rnzK (grpF LL) k)).length co), (7, .c (I k)), (8, .o 3 0 g.length cg), (49, .o 0 0 L.length cp), (50, .c (I L.length)), (51, .c (I k))]) (fun _ => [.arr 65 1 cp (geR L), .pool (pl.set k .out), .arr 72 4 co (rzR (rnzK (grpF LL) k)), .arr 69 3 cg (lnR g)]) (by decide) (ZNL hE) ZCF ZCG (fun _ => ⟨rfl, rfl⟩)) ?_
  rintro _ _ ⟨rfl, rfl⟩
  refine WA ?_
  obtain ⟨g', hg'⟩ : ∃ g', (if k % 2 = 1 then g.reverse else g) = g' := ⟨_, rfl⟩
  have hgl' : g'.length = g.length := by rw [← hg']; split <;> simp
  refine aw_cut (fun F H => F = [(6, .o 2 0 (rzR (rnzK (grpF LL) k)).length co), (7, .c (I k)), (8, .o 3 0 g.length cg), (49, .o 0 0 L.length cp), (50, .c (I L.length)), (51, .c (I k))] ∧ H = [.arr 65 1 cp (geR L), .pool (pl.set k .out), .arr 72 4 co (rzR (rnzK (grpF LL) k)), .arr 69 3 cg (lnR g')]) ?_ ?_ wk_aw
  ·refine zl rfl (fun hod => ?_) (fun hev => ?_)
   ·rw [if_pos (by omega)] at hg'
    subst hg'
    refine aw_capo 8 rfl fun hgk2 => ?_
    refine WR ?_
    refine zf rfl (zb1 [3] (fun _ => [.arr 69 3 cg (lnR g)]) false (fun _ => revFl_a g cg hgc hgk2) rfl .fn rfl (by decide) (by kernel_rfl) rfl ZCH (by decide) ZCH (by simp)) ?_
    rintro F1 H1 ⟨_, _, _, _, ⟨rfl, rfl⟩, hF, hH⟩
    rw [zI] at hF; (refine NSU hF hH ?_; clear hF hH; rintro rfl rfl)
    refine WE ?_
    exact zh [some 0, some 1, some 2, some 3] (fun _ => [(6, .o 2 0 (rzR (rnzK (grpF LL) k)).length co), (7, .c (I k)), (8, .o 3 0 g.length cg), (49, .o 0 0 L.length cp), (50, .c (I L.length)), (51, .c (I k))]) (fun _ => [.arr 65 1 cp (geR L), .pool (pl.set k .out), .arr 72 4 co (rzR (rnzK (grpF LL) k)), .arr 69 3 cg (lnR g.reverse)]) (by decide) (ZNL hE) ZCF ZCG (fun _ => ⟨rfl, rfl⟩)
   ·rw [if_neg (by omega)] at hg'
    subst hg'
    refine ZZ ?_
    exact zh [some 0, some 1, some 2, some 3] (fun _ => [(6, .o 2 0 (rzR (rnzK (grpF LL) k)).length co), (7, .c (I k)), (8, .o 3 0 g.length cg), (49, .o 0 0 L.length cp), (50, .c (I L.length)), (51, .c (I k))]) (fun _ => [.arr 65 1 cp (geR L), .pool (pl.set k .out), .arr 72 4 co (rzR (rnzK (grpF LL) k)), .arr 69 3 cg (lnR g)]) (by decide) (ZNL hE) ZCF ZCG (fun _ => ⟨rfl, rfl⟩)
  rintro F H ⟨rfl, rfl⟩
  refine ZZ ?_
  refine WA ?_
  obtain ⟨rz, hrz⟩ : ∃ rz : Nat → List RunZ, rz = fun j => rnzK (grpF LL) k ++ ((turnG k g).take j).map fun x => (k, x) := ⟨_, rfl⟩
  refine zk (fun m F H => ∃ (j co2 : Nat), m + j = g.length ∧ F = [(6, .o 2 0 (rzR (rz j)).length co2), (7, .c (I k)), (49, .o 0 0 L.length cp), (50, .c (I L.length)), (51, .c (I k)), (61, .o 3 0 g.length cg), (62, .c (I g.length)), (63, .c (I j))] ∧ H = [.arr 65 1 cp (geR L), .pool (pl.set k .out), .arr 72 4 co2 (rzR (rz j)), .arr 69 3 cg (lnR g')]) ?_ ?_
  ·have e0 : rz 0 = rnzK (grpF LL) k := by rw [hrz]; simp
   refine zh [some 0, some 1, some 2, some 3] (fun _ => [(6, .o 2 0 (rzR (rz 0)).length co), (7, .c (I k)), (49, .o 0 0 L.length cp), (50, .c (I L.length)), (51, .c (I k)), (61, .o 3 0 g.length cg), (62, .c (I g.length)), (63, .c (I (0 : Nat)))]) (fun _ => [.arr 65 1 cp (geR L), .pool (pl.set k .out), .arr 72 4 co (rzR (rz 0)), .arr 69 3 cg (lnR g')]) (by decide) (ZNL hE) (by rw [e0]; exact ZCF) (by rw [e0]; exact ZCG) (fun _ => ?_)
   exact ⟨g.length, 0, co, rfl, rfl, rfl⟩
  rintro m2 F H ⟨j, co2, hm2, rfl, rfl⟩
  have hrl : (rzR (rz j)).length ≤ 100000 := by rw [hrz]; simp; omega
  refine WA ?_
  refine zl rfl (fun hlt2 => ?_) (fun hge2 => ?_)
  ·obtain ⟨⟨r, a, b⟩, hy⟩ : ∃ x, g'[j]? = some x := ⟨_, List.getElem?_eq_getElem (by omega)⟩
   have hrow2 : (lnR g')[0 + j]? = some [I r, I a, I b] := by rw [Nat.zero_add, List.getElem?_map, hy]; rfl
   obtain ⟨a', b', hab, hty⟩ : ∃ a' b', (if k % 2 = 1 then (b, a) else (a, b)) = (a', b') ∧ (turnG k g)[j]? = some (r, a', b') := by
    unfold turnG
    by_cases hod : k % 2 = 1
    ·rw [if_pos hod] at hg' ⊢
     rw [if_pos hod]
     subst hg'
     exact ⟨b, a, rfl, by rw [List.getElem?_map, hy]; rfl⟩
    ·rw [if_neg hod] at hg' ⊢
     rw [if_neg hod]
     subst hg'
     exact ⟨a, b, rfl, hy⟩
   refine WA ?_
   refine WA ?_
   refine aw_cut (fun F H => F = [(6, .o 2 0 (rzR (rz j)).length co2), (7, .c (I k)), (10, .p 4 0 0), (49, .o 0 0 L.length cp), (50, .c (I L.length)), (51, .c (I k)), (61, .o 3 0 g.length cg), (62, .c (I g.length)), (63, .c (I j))] ∧ H = [.arr 65 1 cp (geR L), .pool (pl.set k .out), .arr 72 4 co2 (rzR (rz j)), .arr 69 3 cg (lnR g'), .box [.c (I r), .c (I a'), .c (I b')]]) ?_ ?_ wk_aw
   ·refine zl rfl (fun hod => ?_) (fun hev => ?_)
    ·rw [if_pos (by omega)] at hab
     injection hab with h1 h2
     subst h1; subst h2
     refine WA ?_
     all_goals exact zh [some 0, some 1, some 2, some 3, some 4] (fun _ => [(6, .o 2 0 (rzR (rz j)).length co2), (7, .c (I k)), (10, .p 4 0 0), (49, .o 0 0 L.length cp), (50, .c (I L.length)), (51, .c (I k)), (61, .o 3 0 g.length cg), (62, .c (I g.length)), (63, .c (I j))]) (fun _ => [.arr 65 1 cp (geR L), .pool (pl.set k .out), .arr 72 4 co2 (rzR (rz j)), .arr 69 3 cg (lnR g'), .box [.c (I r), .c (I b), .c (I a)]]) (by decide) (ZNL hE) ZCF ZCG (fun _ => ⟨rfl, rfl⟩)
    ·rw [if_neg (by omega)] at hab
     injection hab with h1 h2
     subst h1; subst h2
     refine ZZ ?_
     exact zh [some 0, some 1, some 2, some 3, some 4] (fun _ => [(6, .o 2 0 (rzR (rz j)).length co2), (7, .c (I k)), (10, .p 4 0 0), (49, .o 0 0 L.length cp), (50, .c (I L.length)), (51, .c (I k)), (61, .o 3 0 g.length cg), (62, .c (I g.length)), (63, .c (I j))]) (fun _ => [.arr 65 1 cp (geR L), .pool (pl.set k .out), .arr 72 4 co2 (rzR (rz j)), .arr 69 3 cg (lnR g'), .box [.c (I r), .c (I a), .c (I b)]]) (by decide) (ZNL hE) ZCF ZCG (fun _ => ⟨rfl, rfl⟩)
   rintro F H ⟨rfl, rfl⟩
   refine ZZ ?_
   have ez : rz (j + 1) = rz j ++ [(k, r, a', b')] := by
    rw [hrz]
    simp only
    rw [List.take_add_one, hty, List.map_append, ← List.append_assoc]; rfl
   have ez1 : rzR (rz (j + 1)) = rzR (rz j) ++ [[I k, I r, I a', I b']] := by rw [ez]; exact List.map_append
   have ez2 : (rzR (rz (j + 1))).length = (rzR (rz j)).length + 1 := by rw [ez1]; simp
   refine WR ?_
   refine zf rfl (Zapp (KA (t := 73) rfl)) ?_
   rintro _ _ ⟨_, cc, hcc, rfl, rfl⟩
   refine WE ?_
   refine WA ?_
   refine zh [some 0, some 1, some 2, some 3] (fun _ => [(6, .o 2 0 (rzR (rz (j + 1))).length cc), (7, .c (I k)), (49, .o 0 0 L.length cp), (50, .c (I L.length)), (51, .c (I k)), (61, .o 3 0 g.length cg), (62, .c (I g.length)), (63, .c (I (j + 1 : Nat)))]) (fun _ => [.arr 65 1 cp (geR L), .pool (pl.set k .out), .arr 72 4 cc (rzR (rz (j + 1))), .arr 69 3 cg (lnR g')]) (by decide) (ZNL hE) (by rw [ez2]; exact ZCF) (by rw [ez1]; exact ZCG) (fun _ => ?_)
   exact ⟨m2 - 1, by omega, j + 1, cc, by omega, rfl, rfl⟩
  ·obtain rfl : j = g.length := by omega
   have e0 : rz g.length = rnzK (grpF LL) (k + 1) := by rw [hrz, hrk]; simp only; rw [List.take_of_length_le (by omega)]
   refine ZZ ?_
   refine WA ?_
   refine zh [some 0, some 1, some 2] (fun _ => [(6, .o 2 0 (rzR (rnzK (grpF LL) (k + 1))).length co2), (49, .o 0 0 L.length cp), (50, .c (I L.length)), (51, .c (I (k + 1 : Nat)))]) (fun _ => [.arr 65 1 cp (geR L), .pool (pl.set k .out), .arr 72 4 co2 (rzR (rnzK (grpF LL) (k + 1)))]) (by decide) (ZNL hE) (by rw [← e0]; exact ZCF) (by rw [← e0]; exact ZCG) (fun _ => ?_)
   exact ⟨m - 1, by omega, k + 1, pl.set k .out, co2, by omega, fun j hj => by rw [List.getElem?_set_ne (by omega)]; exact hpl j (by omega), rfl, rfl⟩
 ·obtain rfl : k = L.length := by omega
  refine ZZ ?_
  refine WA ?_
  exact aret_f1 [] _ rfl rfl rfl rfl (by rw [List.drop_zero, List.take_of_length_le (Nat.le_refl _)]) rfl rfl (by decide) (ZNK rfl) (fun _ => .nil) (fun q => ⟨q, by unfold rnzF; rw [hgln], rfl⟩)
end Go.Proofs.YtfilfijammemfaaGreatDoor
