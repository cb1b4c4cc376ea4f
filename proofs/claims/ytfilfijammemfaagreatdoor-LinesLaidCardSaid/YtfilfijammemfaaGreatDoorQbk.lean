/- Zigzags have as many points as lines; lines cover all cells: plain. -/
import Derived.Test.YtfilfijammemfaaGreatDoorQbj
import Derived.Test.YtfilfijammemfaaGreatDoorQaq
import Derived.Test.YtfilfijammemfaaGreatDoorQau
import Derived.Test.YtfilfijammemfaaGreatDoorQbh
set_option linter.unusedSimpArgs false
set_option linter.unusedVariables false
/- Points of lines, by value: arrays of the caller's own. -/
-- NEWM
namespace Go.Proofs.YtfilfijammemfaaGreatDoor
open Go Go.RowKit
set_option maxRecDepth 100000
set_option maxHeartbeats 1000000 in
theorem points_o (pv v : Value) (g : Grd) (q : Int) (l : Lin) (hst : 0 ≤ g.st ∧ g.st ≤ 10000) (hr : -20000000 ≤ l.1 ∧ l.1 ≤ 20000000) (ha : -20000000 ≤ l.2.1 ∧ l.2.1 ≤ 20000000) (hb : -20000000 ≤ l.2.2 ∧ l.2.2 ≤ 20000000) : ACalls Tryz.prog 37 [linA pv v g q, .c (I l.1), .c (I l.2.1), .c (I l.2.2)] [] fun u H => ∃ cp : Nat, u = .o 0 0 (ptsL g.st q l).length cp ∧ H = [.arr 107 2 cp (sR (ptsL g.st q l))] := by
 obtain ⟨r, a, b⟩ := l
 simp only at hr ha hb
 refine acalls_of (N := 26) Tryz.func37 rfl rfl (by simp) fun E hE => ?_
 refine WA ?_
 refine WR ?_
 refine al_ef rfl (ef_call0 false (fun _ => center_v pv v g q _ _ hst hr ha) rfl .fn rfl (by decide) (by kernel_rfl) rfl (fun _ => C0 rfl) (by simp)) ?_
 rintro _ _ ⟨_, _, _, ⟨rfl, rfl⟩, hF, hH⟩
 (refine NST hF hH ?_; clear hF hH; rintro rfl rfl)
 refine WE ?_
 refine WA ?_
 refine aw_if rfl (fun hne => ?_) (fun hne => ?_)
 ·have hp : ptsL g.st q (r, a, b) = [ctr g.st q r a, ctr g.st q r b] := if_pos hne
  rw [hp]
  generalize ctr g.st q r a = c1 at *
  refine WR ?_
  refine al_ef rfl (ef_call0 false (fun _ => center_v pv v g q _ _ hst hr hb) rfl .fn rfl (by decide) (by kernel_rfl) rfl (fun _ => C0 rfl) (by simp)) ?_
  rintro _ _ ⟨_, _, _, ⟨rfl, rfl⟩, hF, hH⟩
  (refine NST hF hH ?_; clear hF hH; rintro rfl rfl)
  refine WO ?_
  refine al_ef rfl (Zapp (KA (t := 52) rfl)) ?_
  rintro _ _ ⟨_, cc, hcc, rfl, rfl⟩
  refine WE ?_
  generalize ctr g.st q r b = c2 at *
  refine WA ?_
  first
   | exact aret_o [some 0] (fun _ => [.arr 107 2 _ (sR [c1, c2])]) rfl rfl rfl rfl rfl (by decide) (ZNK rfl) ZCH (fun _ => ⟨_, rfl, rfl⟩)
   | exact aret_o [some 1] (fun _ => [.arr 107 2 _ (sR [c1, c2])]) rfl rfl rfl rfl rfl (by decide) (ZNK rfl) ZCH (fun _ => ⟨_, rfl, rfl⟩)
   | exact aret_o [some 2] (fun _ => [.arr 107 2 _ (sR [c1, c2])]) rfl rfl rfl rfl rfl (by decide) (ZNK rfl) ZCH (fun _ => ⟨_, rfl, rfl⟩)
   | exact aret_o [some 3] (fun _ => [.arr 107 2 _ (sR [c1, c2])]) rfl rfl rfl rfl rfl (by decide) (ZNK rfl) ZCH (fun _ => ⟨_, rfl, rfl⟩)
 ·have hp : ptsL g.st q (r, a, b) = [ctr g.st q r a] := if_neg hne
  rw [hp]
  refine ZZ ?_
  refine WA ?_
  first
   | exact aret_o [some 0] (fun _ => [.arr 107 2 _ (sR [ctr g.st q r a])]) rfl rfl rfl rfl rfl (by decide) (ZNK rfl) ZCH (fun _ => ⟨_, rfl, rfl⟩)
   | exact aret_o [some 1] (fun _ => [.arr 107 2 _ (sR [ctr g.st q r a])]) rfl rfl rfl rfl rfl (by decide) (ZNK rfl) ZCH (fun _ => ⟨_, rfl, rfl⟩)
   | exact aret_o [some 2] (fun _ => [.arr 107 2 _ (sR [ctr g.st q r a])]) rfl rfl rfl rfl rfl (by decide) (ZNK rfl) ZCH (fun _ => ⟨_, rfl, rfl⟩)
   | exact aret_o [some 3] (fun _ => [.arr 107 2 _ (sR [ctr g.st q r a])]) rfl rfl rfl rfl rfl (by decide) (ZNK rfl) ZCH (fun _ => ⟨_, rfl, rfl⟩)
set_option maxHeartbeats 2000000 in
theorem pathof_o (va : Value) (c : Cel) (hs : 1 ≤ c.st ∧ c.st ≤ 10000) (r a b q : Int) (back : Bool) (hr : -20000000 ≤ r ∧ r ≤ 20000000) (ha : -20000000 ≤ a ∧ a ≤ 20000000) (hb : -20000000 ≤ b ∧ b ≤ 20000000) (hab : a ≤ b) : ACalls Tryz.prog 53 [celA va c, .a [.c (I r), .c (I a), .c (I b)], .c (I q), .c (B back)] [] fun u H => ∃ (P : List Spot) (cp : Nat), P = (if back = true then (ptsL c.st q (r, a, b)).reverse else ptsL c.st q (r, a, b)) ∧ u = .a [.o 0 0 P.length cp, .c (B false)] ∧ H = [.arr 107 2 cp (sR P)] := by
 have ht1 := turned_v (a, r) q
 have ht2 := turned_v (b, r) q
 have hb1 := trQ_bd (q := q) hr ha
 have hb2 := trQ_bd (q := q) hr hb
 have hc1 := centq_v va c hs (trQ q (a, r)).1 (trQ q (a, r)).2 hb1.1 hb1.2
 have hc2 := centq_v va c hs (trQ q (b, r)).1 (trQ q (b, r)).2 hb2.1 hb2.2
 have e1 := ctr_tr (st := c.st) (q := q) (r := r) (a := a)
 have e2 := ctr_tr (st := c.st) (q := q) (r := r) (a := b)
 have hpt : ptsL c.st q (r, a, b) = if a < b then [ctr c.st q r a, ctr c.st q r b] else [ctr c.st q r a] := by
  unfold ptsL
  by_cases h : a < b
  ·rw [if_pos h, if_pos (by simp only; omega)]
  ·rw [if_neg h, if_neg (by simp only; omega)]
 rw [hpt]
 clear hpt hb1 hb2
 generalize trQ q (a, r) = t1 at *
 generalize trQ q (b, r) = t2 at *
 have hc1' : ACalls Tryz.prog 99 [celA va c, .a [.c (I t1.1), .c (I t1.2)]] [] fun u H => u = .a [.c (I (ctr c.st q r a).1), .c (I (ctr c.st q r a).2)] ∧ H = [] := by rw [e1]; exact hc1
 have hc2' : ACalls Tryz.prog 99 [celA va c, .a [.c (I t2.1), .c (I t2.2)]] [] fun u H => u = .a [.c (I (ctr c.st q r b).1), .c (I (ctr c.st q r b).2)] ∧ H = [] := by rw [e2]; exact hc2
 clear hc1 hc2 e1 e2
 generalize ctr c.st q r a = c1 at *
 generalize ctr c.st q r b = c2 at *
 refine acalls_of (N := 42) Tryz.func53 rfl rfl (by simp) fun E hE => ?_
 refine WA ?_
 refine ZZ ?_
 refine aw_regionT [(0, none), (1, none), (2, none), (3, none), (4, none), (5, none), (6, none), (7, some [0]), (8, some []), (9, some []), (10, none)] hMixed (by kernel_rfl) ?_
 refine WP ?_
 refine at_ef rfl rfl (ef_call0 false (fun _ => ht1) rfl .fn rfl (by decide) (by kernel_rfl) rfl (fun _ => C0 rfl) (by simp)) ?_
 rintro _ _ ⟨_, _, _, ⟨rfl, rfl⟩, hF, hH⟩
 (refine NST hF hH ?_; clear hF hH; rintro rfl rfl)
 refine ⟨ag_cons (by first | exact ag_rd rfl rfl rfl (ZK (KK (t := 28) rfl)) rfl) (ag_none), ?_⟩
 refine at_ef rfl rfl (ef_call0 false (fun _ => hc1') rfl .fn rfl (by decide) (by kernel_rfl) rfl (fun _ => C0 rfl) (by simp)) ?_
 rintro _ _ ⟨_, _, _, ⟨rfl, rfl⟩, hF, hH⟩
 (refine NST hF hH ?_; clear hF hH; rintro rfl rfl)
 refine ⟨ag_none, ?_⟩
 refine WQ ?_
 refine WA ?_
 refine aw_cut (fun F H => ∃ (P : List Spot) (cp : Nat), P = (if a < b then [c1, c2] else [c1]) ∧ P.length ≤ cp ∧ F = [(3, .c (B back)), (8, .p 0 0 0), (9, .o 1 0 P.length cp)] ∧ H = [.box [.c (.r (.slice none 0 0) []), .c (B false)], .arr 107 2 cp (sR P)]) ?_ ?_ wk_aw
 ·refine aw_if rfl (fun hlt => ?_) (fun hge => ?_)
  ·refine ZZ ?_
   refine aw_regionT [(0, none), (1, none), (2, none), (3, none), (4, none), (5, none), (6, none), (7, none), (8, some [0, 1]), (9, some [0]), (10, some [0]), (11, some []), (12, none)] hMixed (by kernel_rfl) ?_
   refine WP ?_
   refine at_ef rfl rfl (ef_call0 false (fun _ => ht2) rfl .fn rfl (by decide) (by kernel_rfl) rfl (fun _ => C0 rfl) (by simp)) ?_
   rintro _ _ ⟨_, _, _, ⟨rfl, rfl⟩, hF, hH⟩
   (refine NST hF hH ?_; clear hF hH; rintro rfl rfl)
   refine ⟨ag_cons (by first | exact ag_rd rfl rfl rfl (rd_move rfl rfl) rfl) (ag_cons (by first | exact ag_rd rfl rfl rfl (ZK (KK (t := 28) rfl)) rfl) (ag_none)), ?_⟩
   refine at_ef rfl rfl (ef_call0 false (fun _ => hc2') rfl .fn rfl (by decide) (by kernel_rfl) rfl (fun _ => C0 rfl) (by simp)) ?_
   rintro _ _ ⟨_, _, _, ⟨rfl, rfl⟩, hF, hH⟩
   (refine NST hF hH ?_; clear hF hH; rintro rfl rfl)
   refine ⟨ag_cons (by first | exact ag_rd rfl rfl rfl (rd_move rfl rfl) rfl) (ag_none), ?_⟩
   refine WP ?_
   refine at_ef rfl rfl (Zapp (KA (t := 52) rfl)) ?_
   rintro _ _ ⟨_, cc, hcc, rfl, rfl⟩
   refine ⟨ag_none, ?_⟩
   refine WQ ?_
   refine wk_of [some 2, some 3] (fun _ => [(3, .c (B back)), (8, .p 0 0 0), (9, .o 1 0 ([c1, c2] : List Spot).length cc)]) (fun _ => [.box [.c (.r (.slice none 0 0) []), .c (B false)], .arr 107 2 cc (sR [c1, c2])]) (by decide) (ZNL hE) ZCF ZCH (fun _ => ?_)
   exact ⟨[c1, c2], cc, by rw [if_pos (by omega)], by simp only [List.length_cons, List.length_nil, List.length_map] at hcc ⊢; omega, rfl, rfl⟩
  ·refine ZZ ?_
   refine wk_of [some 2, some 3] (fun _ => [(3, .c (B back)), (8, .p 0 0 0), (9, .o 1 0 ([c1] : List Spot).length 1)]) (fun _ => [.box [.c (.r (.slice none 0 0) []), .c (B false)], .arr 107 2 1 (sR [c1])]) (by decide) (ZNL hE) ZCF ZCH (fun _ => ?_)
   exact ⟨[c1], 1, by rw [if_neg (by omega)], by simp, rfl, rfl⟩
 rintro F H ⟨P, cp, hP, hcp, rfl, rfl⟩
 rw [← hP]
 have hPl : P.length ≤ 2 := by rw [hP]; split <;> simp
 clear hP
 refine ZZ ?_
 cases back with
 | true =>
  refine WA ?_
  refine aw_cond_t rfl ?_
  refine WR ?_
  refine al_ef rfl (ef_callp [1] (fun _ => [.arr 107 2 cp (P.map fun p : Spot => [I p.1, I p.2])]) false (fun _ => revPt_a P cp (by omega) (by omega)) rfl .fn rfl (by decide) (by kernel_rfl) rfl ZCH (by decide) ZCH (by simp)) ?_
  rintro F1 H1 ⟨_, _, _, _, ⟨rfl, rfl⟩, hF, hH⟩
  rw [killF_nil] at hF; (refine NSU hF hH ?_; clear hF hH; rintro rfl rfl)
  refine WE ?_
  refine WA ?_
  have er : P.length = P.reverse.length := by simp
  rw [er]
  exact aret_of (us := [.a [.o 1 0 (P.reverse).length cp, .c (B false)]]) [some 1] (fun g => .a [.o 0 0 (P.reverse).length cp, .c (B false)]) (fun _ => [.arr 107 2 cp (sR (P.reverse))]) (.cella (n := 2) rfl (by kernel_rfl) (Cells.box rfl) (by first | (simp; done) | exact Nat.le_refl 2) (by (try simp only [nm, putL, Nat.reduceAdd, cellsOf, cvOf]) <;> rfl) .nil) (by decide) (fun i hi => absurd hi (Nat.not_lt_zero i)) (fun g' => .aL (.cons (.o rfl rfl) (.cons (.c rfl) .nil))) ZCH (fun g' => ⟨P.reverse, cp, by simp, rfl, rfl⟩)
 | false =>
  refine WA ?_
  refine aw_cond_f rfl ?_
  refine ZZ ?_
  refine WA ?_
  exact aret_of (us := [.a [.o 1 0 (P).length cp, .c (B false)]]) [some 1] (fun g => .a [.o 0 0 (P).length cp, .c (B false)]) (fun _ => [.arr 107 2 cp (sR (P))]) (.cella (n := 2) rfl (by kernel_rfl) (Cells.box rfl) (by first | (simp; done) | exact Nat.le_refl 2) (by (try simp only [nm, putL, Nat.reduceAdd, cellsOf, cvOf]) <;> rfl) .nil) (by decide) (fun i hi => absurd hi (Nat.not_lt_zero i)) (fun g' => .aL (.cons (.o rfl rfl) (.cons (.c rfl) .nil))) ZCH (fun g' => ⟨P, cp, by simp, rfl, rfl⟩)
end Go.Proofs.YtfilfijammemfaaGreatDoor

/- slices.Compact of numbers, by value. -/
-- NEWM
namespace Go.Proofs.YtfilfijammemfaaGreatDoor
open Go Go.RowKit
set_option maxRecDepth 100000
abbrev zR (l : List Int) : List (List CV) := l.map fun z => [I z]
def compL : List Int → List Int
 | [] => []
 | [x] => [x]
 | x :: y :: l => if x = y then compL (y :: l) else x :: compL (y :: l)
section
variable {P : Program} {N : Nat} {E : Env} {S : Nat → Prop} {ρ : List (Option Nat)} {F : Fm} {H : List OB} {a : Act} {w : World} {Q : Exit → Fm → List OB → Prop}
theorem R.trunc {b sz cap : Nat} {e : TypeId} {rows : List (List CV)} (hb : H[b]? = some (.arr e sz cap rows)) (m : Nat) (h : R N E S ρ F H a w) : R N E S ρ F (H.set b (.arr e sz cap (rows.take m))) a w := by
 have he := Ex.set (ρ := ρ) (ob' := .arr e sz cap (rows.take m)) hb rfl rfl (fun h => absurd rfl h)
 have hm : Mo w S w S := fun b hb => ⟨hb, rfl⟩
 have hin : ∀ i k B, inP (H.set b (.arr e sz cap (rows.take m))) i k B → inP H i k B := fun i k B => inP_set (fun _ _ => arr_nopool)
 refine h.ex he hm ⟨by simpa using h.hp.len, h.hp.nd, h.hp.ap, h.hp.lt, h.hp.sS, fun i x hx => ?_, h.hp.pl.same hin (Nat.le_refl _)⟩ h.st h.nw h.nS (fun i k B hi => h.pw i k B (hin i k B hi))
 rw [List.getElem?_set] at hx
 split at hx
 ·rename_i hi
  subst hi
  split at hx
  ·injection hx with hx
   subst hx
   rcases h.hp.blk _ _ hb with ⟨h1, h2, h3⟩ | ⟨B, cs, h1, h2, h3, h4, h5, h6, h7⟩
   ·exact .inl ⟨h1, h2, by rw [h3]; simp⟩
   ·refine .inr ⟨B, cs, h1, h2, h3, h4, Nat.le_trans (by rw [List.length_take]; omega) h5, fun row hr => h6 row (List.mem_of_mem_take hr), fun k j row u hk hj => ?_⟩
    rw [List.getElem?_take] at hk
    split at hk
    ·exact h7 k j row u hk hj
    ·cases hk
  ·cases hx
 ·exact (h.hp.blk i x hx).ex he hm (fun _ _ => rfl) (fun _ _ _ => rfl)
theorem aw_trunc {c : Code} {b sz cap : Nat} {e : TypeId} {rows : List (List CV)} (m : Nat) (hb : H[b]? = some (.arr e sz cap rows)) (h : AW P N E c F (H.set b (.arr e sz cap (rows.take m))) Q) : AW P N E c F H Q := fun S ρ a w hR => h S ρ a w (hR.trunc hb m)
end
theorem compL_snoc {x : Int} : ∀ {l : List Int} {y : Int}, l.getLast? = some y → compL (l ++ [x]) = if y = x then compL l else compL l ++ [x]
 | [z], y, h => by
  simp only [List.getLast?_singleton, Option.some.injEq] at h
  subst h
  simp only [List.cons_append, List.nil_append, compL]
  split <;> simp_all [compL]
 | z :: u :: l, y, h => by
  rw [List.getLast?_cons_cons] at h
  have ih := compL_snoc (x := x) h
  simp only [List.cons_append] at ih ⊢
  simp only [compL]
  split
  ·rw [ih]
  ·rw [ih]; split <;> simp
theorem take_last {l : List Int} {k : Nat} {y : Int} (h : l[k]? = some y) : (l.take (k + 1)).getLast? = some y := by
 rw [List.take_add_one, h]; simp
theorem compL_step {l : List Int} {k : Nat} {x y : Int} (hx : l[k + 1]? = some x) (hy : l[k]? = some y) : compL (l.take (k + 2)) = if y = x then compL (l.take (k + 1)) else compL (l.take (k + 1)) ++ [x] := by
 rw [List.take_add_one (i := k + 1), hx]
 exact compL_snoc (take_last hy)
theorem compL_len : ∀ l : List Int, (compL l).length ≤ l.length
 | [] => Nat.le_refl _
 | [x] => Nat.le_refl _
 | x :: y :: l => by
  have := compL_len (y :: l)
  unfold compL
  split
  ·simp only [List.length_cons] at this ⊢; omega
  ·simp only [List.length_cons] at this ⊢; omega
theorem compactI_v (l : List Int) (c : Nat) (hl : l.length ≤ 1000000) (hlc : l.length ≤ c) : ACalls Tryz.prog 54 [.o 0 0 l.length c] [.arr 3 1 c (zR l)] fun u H => u = .o 0 0 (compL l).length c ∧ H = [.arr 3 1 c (zR (compL l))] := by
 have e1 : (zR l).length = l.length := by simp
 refine acalls_of (N := 61) Tryz.func54 rfl rfl (by simp) fun E hE => ?_
 refine WA ?_
 refine WA ?_
 refine aw_if rfl (fun hs => ?_) (fun hs => ?_)
 ·have hc : compL l = l := by
   match l, hs with
   | [], _ => rfl
   | [x], _ => rfl
   | _ :: _ :: _, h => simp at h; omega
  refine WA ?_
  exact aret_o [some 0] (fun _ => [.arr 3 1 c (zR l)]) rfl rfl rfl rfl rfl (by decide) (ZNK rfl) ZCH (fun _ => ⟨by rw [hc], by rw [hc]⟩)
 refine ZZ ?_
 refine WA ?_
 refine aw_loopw (fun m F H => ∃ (k : Nat), m + k = l.length ∧ 1 ≤ k ∧ compL (l.take k) = l.take k ∧ F = [(0, .o 0 0 l.length c), (3, .c (I k))] ∧ H = [.arr 3 1 c (zR l)]) ?_ ?_
 ·refine wk_of [some 0] (fun _ => [(0, .o 0 0 l.length c), (3, .c (I (1 : Nat)))]) (fun _ => [.arr 3 1 c (zR l)]) (by decide) (ZNL hE) ZCF ZCH (fun _ => ?_)
  refine ⟨l.length - 1, 1, by omega, by omega, ?_, rfl, rfl⟩
  match l, hs with
  | [], h => simp at h
  | x :: l, _ => rfl
 rintro m F H ⟨k, hk, hk1, hcp, rfl, rfl⟩
 refine WA ?_
 refine aw_if rfl (fun hlt => ?_) (fun hge => ?_)
 ·obtain ⟨k, rfl⟩ : ∃ q, k = q + 1 := ⟨k - 1, by omega⟩
  obtain ⟨x, hx⟩ : ∃ x, l[k + 1]? = some x := ⟨_, List.getElem?_eq_getElem (by omega)⟩
  obtain ⟨y, hy⟩ : ∃ y, l[k]? = some y := ⟨_, List.getElem?_eq_getElem (by omega)⟩
  have hrx : (zR l)[0 + (k + 1)]? = some [I x] := by rw [Nat.zero_add, List.getElem?_map, hx]; rfl
  have hry : (zR l)[0 + k]? = some [I y] := by rw [Nat.zero_add, List.getElem?_map, hy]; rfl
  have hst := compL_step hx hy
  refine ZZ ?_
  refine aw_regionT [(0, none), (1, none), (2, none), (3, none), (4, none), (5, none), (6, none), (7, none), (8, none), (9, none)] hMixed (by kernel_rfl) ?_
  iterate 7 refine WX2 ?_
  refine ZT rfl (rd_index (i := k) rfl (KE (t := 22) rfl) rfl rfl rfl (by omega) (by omega)) ?_
  refine WQ ?_
  refine aw_if rfl (fun heq => ?_) (fun hne => ?_)
  ·generalize hK : k + 1 = K at *
   refine ZR ?_
   iterate 2 refine WX1 ?_
   refine ZA (rd_slice (l := K) (h := l.length) rfl (KE (t := 22) rfl) rfl rfl (.inr ⟨_, _, _, rfl, rfl, rfl⟩) (.inl ⟨rfl, rfl⟩) (by omega) (by omega) (by omega)) ?_
   refine WE ?_
   refine WA ?_
   rw [if_pos heq.symm] at hst
   refine aw_loopw (fun m F H => ∃ (d i : Nat) (r : List Int), m + d = l.length - K ∧ 1 ≤ d ∧ i + 1 ≤ K + d ∧ r.length = l.length ∧ r.take i = compL (l.take (K + d)) ∧ (compL (l.take (K + d))).length = i ∧ (∀ q, K + d ≤ q + 1 → r[q]? = l[q]?) ∧ F = [(0, .o 0 0 l.length c), (3, .c (I i)), (4, .o 0 (0 + K) (l.length - K) (c - K)), (5, .c (I d))] ∧ H = [.arr 3 1 c (zR r)]) ?_ ?_
   ·refine wk_of [some 0] (fun _ => [(0, .o 0 0 l.length c), (3, .c (I K)), (4, .o 0 (0 + K) (l.length - K) (c - K)), (5, .c (I (1 : Nat)))]) (fun _ => [.arr 3 1 c (zR l)]) (by decide) (ZNL hE) ZCF ZCH (fun _ => ?_)
    have hst' : compL (l.take (K + 1)) = l.take K := by rw [show K + 1 = k + 2 by omega, hst, hcp]
    exact ⟨l.length - K - 1, 1, K, l, by omega, by omega, by omega, rfl, by rw [hst'], by rw [hst', List.length_take]; omega, fun q _ => rfl, rfl, rfl⟩
   rintro m2 F H ⟨d, i, r, hm, hd, hi, hr, hti, htl, hq, rfl, rfl⟩
   refine WA ?_
   refine aw_if rfl (fun hlt2 => ?_) (fun hge2 => ?_)
   ·obtain ⟨D, rfl⟩ : ∃ q, d = q + 1 := ⟨d - 1, by omega⟩
    obtain ⟨p, hp⟩ : ∃ p, l[K + D + 1]? = some p := ⟨_, List.getElem?_eq_getElem (by omega)⟩
    obtain ⟨o, ho⟩ : ∃ o, l[K + D]? = some o := ⟨_, List.getElem?_eq_getElem (by omega)⟩
    have h7 : (zR r)[0 + K + (D + 1)]? = some [I p] := by rw [Nat.zero_add, List.getElem?_map, show K + (D + 1) = K + D + 1 by omega, hq _ (by omega), hp]; rfl
    have h8 : (zR r)[0 + K + D]? = some [I o] := by rw [Nat.zero_add, List.getElem?_map, hq _ (by omega), ho]; rfl
    obtain ⟨u0, hu0⟩ : ∃ u, (zR r)[0 + i]? = some [I u] := ⟨r[i]'(by omega), by rw [Nat.zero_add, List.getElem?_map, List.getElem?_eq_getElem (by omega)]; rfl⟩
    have hst2 := compL_step hp ho
    rw [show K + D + 2 = K + (D + 1 + 1) by omega, show K + D + 1 = K + (D + 1) by omega] at hst2
    refine ZZ ?_
    refine aw_regionT [(0, none), (1, none), (2, none), (3, none), (4, none), (5, none), (6, none), (7, none), (8, none), (9, none)] hMixed (by kernel_rfl) ?_
    iterate 7 refine WX2 ?_
    refine ZT rfl (rd_index (i := D) rfl (KE (t := 22) rfl) rfl rfl rfl (by omega) (by omega)) ?_
    refine WQ ?_
    refine aw_if rfl (fun hne => ?_) (fun heq2 => ?_)
    ·rw [if_neg (fun h => hne h.symm)] at hst2
     refine WA ?_
     refine WA ?_
     refine WA ?_
     refine wk_of [some 0] (fun _ => [(0, .o 0 0 l.length c), (3, .c (I (i + 1 : Nat))), (4, .o 0 (0 + K) (l.length - K) (c - K)), (5, .c (I (D + 1 + 1 : Nat)))]) (fun _ => [.arr 3 1 c (zR (r.set i p))]) (by decide) (ZNL hE) ZCF ZCH (fun _ => ?_)
     refine ⟨m2 - 1, by omega, D + 1 + 1, i + 1, r.set i p, by omega, by omega, by omega, by simpa using hr, ?_, ?_, fun q hqq => ?_, rfl, rfl⟩
     ·rw [hst2, ← hti, List.take_add_one, List.getElem?_set_self (by omega), List.take_set_of_le (Nat.le_refl _)]; rfl
     ·rw [hst2, List.length_append, htl]; rfl
     ·rw [List.getElem?_set_ne (by omega)]; exact hq q (by omega)
    ·have heq3 : p = o := by simpa using heq2
     rw [if_pos heq3.symm] at hst2
     refine ZZ ?_
     refine WA ?_
     refine wk_of [some 0] (fun _ => [(0, .o 0 0 l.length c), (3, .c (I i)), (4, .o 0 (0 + K) (l.length - K) (c - K)), (5, .c (I (D + 1 + 1 : Nat)))]) (fun _ => [.arr 3 1 c (zR r)]) (by decide) (ZNL hE) ZCF ZCH (fun _ => ?_)
     exact ⟨m2 - 1, by omega, D + 1 + 1, i, r, by omega, by omega, by omega, hr, by rw [hst2]; exact hti, by rw [hst2]; exact htl, fun q hqq => hq q (by omega), rfl, rfl⟩
   refine ZZ ?_
   have hdd : d = l.length - K := by omega
   have hal : l.take (K + d) = l := List.take_of_length_le (by omega)
   rw [hal] at hti htl
   have htr : (zR r).take i = zR (compL l) := by rw [← hti]; simp [zR]
   refine aw_trunc (b := 0) i rfl ?_
   simp only [List.set_cons_zero]
   rw [htr]
   have hcl := compL_len l
   refine ZR ?_
   iterate 2 refine WX1 ?_
   refine ZA (rd_slicex (l := i) (h := l.length) rfl (KE (t := 22) rfl) rfl rfl (.inr ⟨_, _, _, rfl, rfl, rfl⟩) (.inl ⟨rfl, rfl⟩) (by omega) (by omega) (by omega)) ?_
   refine al_ef rfl (ef_clear rfl rfl (KE (t := 22) rfl) (KZ (t := 3) rfl) rfl rfl rfl rfl (by simp; omega)) ?_
   rintro _ _ ⟨rfl, rfl⟩
   refine WE ?_
   refine ZR ?_
   iterate 2 refine WX1 ?_
   refine ZA (rd_slicex (l := 0) (h := i) rfl (KE (t := 22) rfl) rfl rfl (.inl ⟨rfl, rfl⟩) (.inr ⟨_, _, _, rfl, rfl, rfl⟩) (by omega) (by omega) (by omega)) ?_
   refine WE ?_
   exact aret_o (k' := (compL l).length) (c := c) [some 0] (fun _ => [.arr 3 1 c (zR (compL l))]) rfl rfl rfl (by omega) rfl (by decide) (ZNK rfl) ZCH (fun _ => ⟨rfl, rfl⟩)
  ·rw [if_neg (fun h => hne h.symm)] at hst
   refine ZZ ?_
   refine WA ?_
   refine wk_of [some 0] (fun _ => [(0, .o 0 0 l.length c), (3, .c (I (k + 1 + 1 : Nat)))]) (fun _ => [.arr 3 1 c (zR l)]) (by decide) (ZNL hE) ZCF ZCH (fun _ => ?_)
   refine ⟨m - 1, by omega, k + 1 + 1, by omega, by omega, ?_, rfl, rfl⟩
   rw [hst, hcp, List.take_add_one (i := k + 1), hx]; rfl
 have hkk : k = l.length := by omega
 rw [hkk, List.take_of_length_le (Nat.le_refl _)] at hcp
 refine WA ?_
 exact aret_o [some 0] (fun _ => [.arr 3 1 c (zR l)]) rfl rfl rfl rfl rfl (by decide) (ZNK rfl) ZCH (fun _ => ⟨by rw [hcp], by rw [hcp]⟩)
end Go.Proofs.YtfilfijammemfaaGreatDoor

/- Zigzags: plain. -/
namespace Go.Proofs.YtfilfijammemfaaGreatDoor
theorem compL_last : ∀ {n : Nat} {l : List Int} {y : Int}, l.length = n → l.Pairwise (· ≤ ·) → l.getLast? = some y → ∃ R, compL l = R ++ [y] ∧ ∀ r ∈ R, r < y
 | 0, l, y, hn, _, h => by rw [List.eq_nil_of_length_eq_zero hn] at h; cases h
 | n + 1, l, y, hn, hs, h => by
  obtain ⟨A, z, rfl⟩ : ∃ A z, l = A ++ [z] := by
   rcases List.eq_nil_or_concat l with h | ⟨B, p, h⟩
   ·subst h; simp at hn
   ·exact ⟨B, p, by rw [h, List.concat_eq_append]⟩
  rw [List.getLast?_append, List.getLast?_singleton] at h
  simp only [Option.some_or, Option.some.injEq] at h
  subst h
  cases hA : A.getLast? with
  | none =>
   rw [List.getLast?_eq_none_iff] at hA
   subst hA
   exact ⟨[], rfl, fun r hr => by cases hr⟩
  | some w =>
   obtain ⟨R, h1, h2⟩ := compL_last (n := n) (l := A) (by simpa using hn) (List.pairwise_append.1 hs).1 hA
   have hwz : w ≤ z := (List.pairwise_append.1 hs).2.2 w (List.mem_of_getLast? hA) z (by simp)
   rw [compL_snoc hA]
   split
   ·rename_i e; subst e; exact ⟨R, h1, h2⟩
   ·rename_i e
    refine ⟨R ++ [w], by rw [h1], fun r hr => ?_⟩
    rcases List.mem_append.1 hr with hr | hr
    ·have := h2 r hr; omega
    ·rw [List.mem_singleton.1 hr]; omega
theorem compL_in : ∀ {n : Nat} {l : List Int} {r : Int}, l.length = n → r ∈ compL l → r ∈ l
 | 0, l, r, hn, h => by rw [List.eq_nil_of_length_eq_zero hn] at h; cases h
 | n + 1, l, r, hn, h => by
  obtain ⟨A, z, rfl⟩ : ∃ A z, l = A ++ [z] := by
   rcases List.eq_nil_or_concat l with h | ⟨B, p, h⟩
   ·subst h; simp at hn
   ·exact ⟨B, p, by rw [h, List.concat_eq_append]⟩
  cases hA : A.getLast? with
  | none =>
   rw [List.getLast?_eq_none_iff] at hA
   subst hA
   exact h
  | some w =>
   rw [compL_snoc hA] at h
   have ih := fun h => List.mem_append_left [z] (compL_in (n := n) (l := A) (r := r) (by simpa using hn) h)
   split at h
   ·exact ih h
   ·rcases List.mem_append.1 h with h | h
    ·exact ih h
    ·exact List.mem_append_right _ h
def rowsL (l : List Lin) : List Int := compL (l.map (·.1))
def grpF (l : List Lin) : List (List Lin) := (rowsL l).map fun r => l.filter fun x => decide (x.1 = r)
theorem leL_rows {l : List Lin} (h : l.Pairwise leL) : (l.map (·.1)).Pairwise (· ≤ ·) := by
 rw [List.pairwise_map]
 exact h.imp fun {a b} h => by unfold leL at h; omega
theorem grp_new {A : List Lin} {x : Lin} (hs : (A ++ [x]).Pairwise leL) (hn : ∀ y, A.getLast? = some y → y.1 ≠ x.1) : grpF (A ++ [x]) = grpF A ++ [[x]] := by
 have hlt : ∀ y ∈ A, y.1 < x.1 := by
  cases hA : A.getLast? with
  | none => rw [List.getLast?_eq_none_iff] at hA; subst hA; intro y hy; cases hy
  | some w =>
   intro y hy
   have h1 := hn w hA
   have h2 : w.1 ≤ x.1 := by have := (List.pairwise_append.1 hs).2.2 w (List.mem_of_getLast? hA) x (by simp); unfold leL at this; omega
   obtain ⟨B, rfl⟩ : ∃ B, A = B ++ [w] := by
    obtain ⟨B, hB⟩ := List.getLast?_eq_some_iff.1 hA
    exact ⟨B, hB⟩
   rcases List.mem_append.1 hy with hy | hy
   ·have := (List.pairwise_append.1 (List.pairwise_append.1 hs).1).2.2 y hy w (by simp)
    unfold leL at this; omega
   ·rw [List.mem_singleton.1 hy]; omega
 have hr : rowsL (A ++ [x]) = rowsL A ++ [x.1] := by
  unfold rowsL
  rw [List.map_append, List.map_cons, List.map_nil]
  cases hA : A.getLast? with
  | none => rw [List.getLast?_eq_none_iff] at hA; subst hA; rfl
  | some w =>
   rw [compL_snoc (y := w.1) (by rw [List.getLast?_map, hA]; rfl), if_neg (hn w hA)]
 unfold grpF
 rw [hr, List.map_append]
 congr 1
 ·refine List.map_congr_left fun r hr => ?_
  have : r ∈ A.map (·.1) := compL_in rfl hr
  obtain ⟨y, hy, rfl⟩ := List.mem_map.1 this
  have := hlt y hy
  rw [List.filter_append]
  simp only [List.filter_cons, List.filter_nil]
  rw [if_neg (by simp only [decide_eq_true_eq]; omega), List.append_nil]
 ·simp only [List.map_cons, List.map_nil, List.filter_append, List.filter_cons, List.filter_nil, decide_true, if_pos]
  rw [List.filter_eq_nil_iff.2 fun y hy => by have := hlt y hy; simp only [decide_eq_true_eq]; omega]
  rfl
theorem grp_same {A : List Lin} {x y : Lin} (hs : (A ++ [x]).Pairwise leL) (hy : A.getLast? = some y) (he : y.1 = x.1) : ∃ G g, grpF A = G ++ [g] ∧ grpF (A ++ [x]) = G ++ [g ++ [x]] := by
 have hsA := leL_rows (List.pairwise_append.1 hs).1
 obtain ⟨R, h1, h2⟩ := compL_last rfl hsA (y := y.1) (by rw [List.getLast?_map, hy]; rfl)
 have hr : rowsL (A ++ [x]) = rowsL A := by
  unfold rowsL
  rw [List.map_append, List.map_cons, List.map_nil, compL_snoc (y := y.1) (by rw [List.getLast?_map, hy]; rfl), if_pos he]
 have hrA : rowsL A = R ++ [y.1] := h1
 refine ⟨R.map fun r => A.filter fun x => decide (x.1 = r), A.filter fun x => decide (x.1 = y.1), ?_, ?_⟩
 ·unfold grpF; rw [hrA, List.map_append]; rfl
 ·unfold grpF
  rw [hr, hrA, List.map_append]
  congr 1
  ·refine List.map_congr_left fun r hr => ?_
   have := h2 r hr
   rw [List.filter_append]
   simp only [List.filter_cons, List.filter_nil]
   rw [if_neg (by simp only [decide_eq_true_eq]; omega), List.append_nil]
  ·simp only [List.map_cons, List.map_nil, List.filter_append, List.filter_cons, List.filter_nil]
   rw [if_pos (by simp only [decide_eq_true_eq]; omega)]
def turnG (i : Nat) (g : List Lin) : List Lin := if i % 2 = 1 then g.reverse.map fun x => (x.1, x.2.2, x.2.1) else g
abbrev RunZ := Nat × Int × Int × Int
def rnzK (G : List (List Lin)) (k : Nat) : List RunZ := (List.range k).flatMap fun i => (turnG i (G.getD i [])).map fun x => (i, x)
def rnzF (G : List (List Lin)) : List RunZ := rnzK G G.length
theorem rnzK_succ {G : List (List Lin)} {k : Nat} {g : List Lin} (h : G[k]? = some g) : rnzK G (k + 1) = rnzK G k ++ (turnG k g).map fun x => (k, x) := by
 unfold rnzK
 rw [List.range_succ, List.flatMap_append]
 simp [h]
theorem turnG_len {i : Nat} {g : List Lin} : (turnG i g).length = g.length := by unfold turnG; split <;> simp
theorem grp_len : ∀ {n : Nat} {l : List Lin}, l.length = n → l.Pairwise leL → (grpF l).length ≤ n ∧ (grpF l).flatten = l
 | 0, l, hn, _ => by rw [List.eq_nil_of_length_eq_zero hn]; exact ⟨Nat.le_refl _, rfl⟩
 | n + 1, l, hn, hs => by
  obtain ⟨A, z, rfl⟩ : ∃ A z, l = A ++ [z] := by
   rcases List.eq_nil_or_concat l with h | ⟨B, p, h⟩
   ·subst h; simp at hn
   ·exact ⟨B, p, by rw [h, List.concat_eq_append]⟩
  obtain ⟨h1, h2⟩ := grp_len (n := n) (l := A) (by simpa using hn) (List.pairwise_append.1 hs).1
  by_cases hc : ∀ y, A.getLast? = some y → y.1 ≠ z.1
  ·rw [grp_new hs hc]
   refine ⟨by simp; omega, by simp [h2]⟩
  ·simp only [Classical.not_forall, Classical.not_not] at hc
   obtain ⟨y, hy, e⟩ := hc
   obtain ⟨G, g, e1, e2⟩ := grp_same hs hy e
   rw [e2]
   rw [e1] at h1 h2
   refine ⟨by simp at h1 ⊢; omega, ?_⟩
   rw [← h2]
   simp
def zigE (st q : Int) (s : List (List Spot) × Int × Int) (x : RunZ) : List (List Spot) × Int × Int :=
 (if s.1 ≠ [] ∧ (x.1 : Int) = s.2.1 + 1 ∧ -1 ≤ x.2.2.1 - s.2.2 ∧ x.2.2.1 - s.2.2 ≤ 1 then s.1.dropLast ++ [(s.1.getLastD []) ++ ptsL st q x.2] else s.1 ++ [ptsL st q x.2], (x.1 : Int), x.2.2.2)
def zigS (st q : Int) (l : List RunZ) : List (List Spot) × Int × Int := l.foldl (zigE st q) ([], -1, 0)
theorem zigS_snoc {st q : Int} {l : List RunZ} {x : RunZ} : zigS st q (l ++ [x]) = zigE st q (zigS st q l) x := by unfold zigS; rw [List.foldl_append]; rfl
def zigF (st q : Int) (l : List Lin) : List (List Spot) := (zigS st q (rnzF (grpF l))).1
theorem ptsL_rev {st q r a b : Int} (h : a ≤ b) : ptsL st q (r, b, a) = (ptsL st q (r, a, b)).reverse := by
 unfold ptsL
 simp only
 by_cases e : a = b
 ·subst e; simp
 ·rw [if_pos e, if_pos (fun h => e h.symm)]; rfl
end Go.Proofs.YtfilfijammemfaaGreatDoor

/- Zigzags have as many points as lines; lines cover all cells: plain. -/
namespace Go.Proofs.YtfilfijammemfaaGreatDoor
theorem ptsL_len2 {st q r a b : Int} : (ptsL st q (r, b, a)).length = (ptsL st q (r, a, b)).length := by
 unfold ptsL
 simp only
 by_cases e : a = b
 ·subst e; rfl
 ·rw [if_pos e, if_pos (fun h => e h.symm)]; rfl
theorem zigS_sum {st q : Int} : ∀ {n : Nat} {l : List RunZ}, l.length = n → (((zigS st q l).1.map List.length).sum = (l.map fun x => (ptsL st q x.2).length).sum ∧ (zigS st q l).1.length ≤ n)
 | 0, l, hn => by rw [List.eq_nil_of_length_eq_zero hn]; exact ⟨rfl, Nat.le_refl _⟩
 | n + 1, l, hn => by
  obtain ⟨A, z, rfl⟩ : ∃ A z, l = A ++ [z] := by
   rcases List.eq_nil_or_concat l with h | ⟨B, p, h⟩
   ·subst h; simp at hn
   ·exact ⟨B, p, by rw [h, List.concat_eq_append]⟩
  obtain ⟨h1, h2⟩ := zigS_sum (st := st) (q := q) (n := n) (l := A) (by simpa using hn)
  rw [zigS_snoc, List.map_append, List.sum_append, ← h1]
  unfold zigE
  simp only
  generalize (zigS st q A).1 = O at *
  split
  ·rename_i hc
   obtain ⟨O', o, rfl⟩ : ∃ O' o, O = O' ++ [o] := by
    rcases List.eq_nil_or_concat O with h | ⟨B, p, h⟩
    ·exact absurd h hc.1
    ·exact ⟨B, p, by rw [h, List.concat_eq_append]⟩
   simp only [List.dropLast_concat, List.getLastD_concat, List.map_append, List.sum_append, List.map_cons, List.map_nil, List.sum_cons, List.sum_nil, List.length_append, List.length_cons, List.length_nil] at h2 ⊢
   omega
  ·refine ⟨?_, ?_⟩
   ·rw [List.map_append, List.sum_append]; rfl
   ·rw [List.length_append]; simp only [List.length_cons, List.length_nil]; omega
theorem turnG_sum {st q : Int} {i : Nat} {g : List Lin} : ((turnG i g).map fun x => (ptsL st q x).length).sum = (g.map fun x => (ptsL st q x).length).sum := by
 unfold turnG
 split
 ·rw [List.map_map, List.map_reverse, List.sum_reverse]
  congr 1
  refine List.map_congr_left fun x _ => ?_
  obtain ⟨r, a, b⟩ := x
  exact ptsL_len2
 ·rfl
theorem rnzK_sum {st q : Int} {G : List (List Lin)} : ∀ {k : Nat}, k ≤ G.length → ((rnzK G k).map fun x => (ptsL st q x.2).length).sum = ((G.take k).flatten.map fun x => (ptsL st q x).length).sum ∧ (rnzK G k).length = (G.take k).flatten.length
 | 0, _ => by simp [rnzK]
 | k + 1, h => by
  have hg : G[k]? = some G[k] := List.getElem?_eq_getElem (by omega)
  obtain ⟨h1, h2⟩ := rnzK_sum (st := st) (q := q) (G := G) (k := k) (by omega)
  rw [rnzK_succ hg, List.map_append, List.sum_append, h1, List.take_add_one, hg]
  simp only [Option.toList_some, List.flatten_append, List.flatten_cons, List.flatten_nil, List.append_nil, List.map_append, List.sum_append, List.length_append, h2]
  refine ⟨?_, by rw [List.length_map, turnG_len]⟩
  rw [List.map_map, ← turnG_sum (i := k) (g := G[k])]
  rfl
theorem zig_sum {st q : Int} {l : List Lin} (hs : l.Pairwise leL) : ((zigF st q l).map List.length).sum = (l.map fun x => (ptsL st q x).length).sum ∧ (zigF st q l).length ≤ l.length := by
 obtain ⟨h1, h2⟩ := zigS_sum (st := st) (q := q) (l := rnzF (grpF l)) rfl
 obtain ⟨h3, h4⟩ := rnzK_sum (st := st) (q := q) (G := grpF l) (Nat.le_refl _)
 rw [List.take_length, (grp_len rfl hs).2] at h3 h4
 exact ⟨h1.trans h3, Nat.le_trans h2 (Nat.le_of_eq h4)⟩
end Go.Proofs.YtfilfijammemfaaGreatDoor
