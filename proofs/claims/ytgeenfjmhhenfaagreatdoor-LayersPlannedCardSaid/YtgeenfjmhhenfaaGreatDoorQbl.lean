/- The reference's shrinking, by value: ShrunkBy. -/
import Derived.Test.YtgeenfjmhhenfaaGreatDoorQbk
set_option linter.unusedSimpArgs false
set_option linter.unusedVariables false
/- The reference's shrinking, by value: about, ContainsFunc, ShrunkBy. -/
-- NEWM
namespace Go.Proofs.YtgeenfjmhhenfaaGreatDoor
open Go Go.RowKit
set_option maxRecDepth 100000
abbrev sR (l : List Spot) : List (List CV) := l.map fun p => [I p.1, I p.2]
def abtI (x y : Int) (n i : Nat) : List Spot := (List.range i).map fun a => (x + (-(n : Int) + (a : Nat)), y)
def abtJ (x y : Int) (n j : Nat) : List Spot := (List.range j).flatMap fun b => abtI x (y + (-(n : Int) + (b : Nat))) n (2 * n + 1)
theorem abtI_succ (x y : Int) (n i : Nat) : abtI x y n (i + 1) = abtI x y n i ++ [(x + (-(n : Int) + (i : Nat)), y)] := by
 unfold abtI; rw [List.range_succ, List.map_append]; rfl
theorem abtJ_succ (x y : Int) (n j : Nat) : abtJ x y n (j + 1) = abtJ x y n j ++ abtI x (y + (-(n : Int) + (j : Nat))) n (2 * n + 1) := by
 unfold abtJ; rw [List.range_succ, List.flatMap_append]; simp
theorem abt_mem {x y : Int} {n : Nat} {p : Spot} : p ∈ abtJ x y n (2 * n + 1) ↔ x - n ≤ p.1 ∧ p.1 ≤ x + n ∧ y - n ≤ p.2 ∧ p.2 ≤ y + n := by
 unfold abtJ abtI
 simp only [List.mem_flatMap, List.mem_map, List.mem_range]
 constructor
 ·rintro ⟨b, hb, a, ha, rfl⟩; simp only; omega
 ·rintro ⟨h1, h2, h3, h4⟩
  refine ⟨(p.2 - (y - n)).toNat, by omega, (p.1 - (x - n)).toNat, by omega, ?_⟩
  ext <;> simp only <;> omega
theorem abtJ_len (x y : Int) (n : Nat) : ∀ j, (abtJ x y n j).length = j * (2 * n + 1)
 | 0 => by simp [abtJ]
 | j + 1 => by rw [abtJ_succ, List.length_append, abtJ_len x y n j, abtI, List.length_map, List.length_range]; exact (Nat.succ_mul j (2 * n + 1)).symm
set_option maxHeartbeats 1000000 in
theorem about_v (x y : Int) (n : Nat) (hx : -100000000 ≤ x ∧ x ≤ 100000000) (hy : -100000000 ≤ y ∧ y ≤ 100000000) (hn : n ≤ 1000) : ACalls Tryz.prog 148 [.a [.c (I x), .c (I y)], .c (I n)] [] fun u H => ∃ v, u = .c (.r v (sR (abtJ x y n (2 * n + 1)))) ∧ H = [] := by
 refine acalls_of (N := 35) Tryz.func148 rfl rfl (by simp) fun E hE => ?_
 refine WA ?_
 refine WA ?_
 refine WA ?_
 refine aw_loopw (fun m F H => ∃ (j c : Nat), m + j = 2 * n + 1 ∧ F = [(1, .c (I n)), (2, .p 0 0 0), (5, .o 1 0 (abtJ x y n j).length c), (6, .c (I (-(n : Int) + (j : Nat))))] ∧ H = [.box [.c (I x), .c (I y)], .arr 110 2 c (sR (abtJ x y n j))]) ?_ ?_
 ·refine wk_of [some 0, none] (fun _ => [(1, .c (I n)), (2, .p 0 0 0), (5, .o 1 0 0 0), (6, .c (I (-(n : Int) + (0 : Nat))))]) (fun _ => [.box [.c (I x), .c (I y)], .arr 110 2 0 (sR [])]) (by decide) (ZNL hE) ZCF ZCH (fun _ => ?_)
  exact ⟨2 * n + 1, 0, 0, by omega, rfl, rfl⟩
 rintro m F H ⟨j, c, hj, rfl, rfl⟩
 have hjs := abtJ_succ x y n j
 generalize hA : abtJ x y n j = A at *
 refine WA ?_
 refine aw_if rfl (fun hlt => ?_) (fun hge => ?_)
 ·refine WA ?_
  refine aw_loopw (fun m2 F H => ∃ (i c : Nat), m2 + i = 2 * n + 1 ∧ F = [(1, .c (I n)), (2, .p 0 0 0), (5, .o 1 0 (A ++ abtI x (y + (-(n : Int) + (j : Nat))) n i).length c), (6, .c (I (-(n : Int) + (j : Nat)))), (7, .c (I (-(n : Int) + (i : Nat))))] ∧ H = [.box [.c (I x), .c (I y)], .arr 110 2 c (sR (A ++ abtI x (y + (-(n : Int) + (j : Nat))) n i))]) ?_ ?_
  ·refine wk_of [some 0, some 1] (fun _ => [(1, .c (I n)), (2, .p 0 0 0), (5, .o 1 0 (A ++ []).length c), (6, .c (I (-(n : Int) + (j : Nat)))), (7, .c (I (-(n : Int) + (0 : Nat))))]) (fun _ => [.box [.c (I x), .c (I y)], .arr 110 2 c (sR (A ++ []))]) (by decide) (ZNL hE) ZCF ZCH (fun _ => ?_)
   exact ⟨2 * n + 1, 0, c, by omega, rfl, rfl⟩
  clear c
  rintro m2 F H ⟨i, c, hi, rfl, rfl⟩
  have his := abtI_succ x (y + (-(n : Int) + (j : Nat))) n i
  refine WA ?_
  refine aw_if rfl (fun hlt2 => ?_) (fun hge2 => ?_)
  ·have hAl : (A ++ abtI x (y + (-(n : Int) + (j : Nat))) n i).length ≤ 1000000000 := by
    have h1 := abtJ_len x y n j
    rw [hA] at h1
    have h2 : j * (2 * n + 1) ≤ 2001 * 2001 := Nat.mul_le_mul (by omega) (by omega)
    rw [List.length_append, h1, abtI, List.length_map, List.length_range]; omega
   generalize hB : abtI x (y + (-(n : Int) + (j : Nat))) n i = B' at *
   generalize hAB : A ++ B' = AB at *
   refine WR ?_
   refine al_ef rfl (Zapp (KA (t := 201) rfl)) ?_
   rintro _ _ ⟨_, cc, hcc, rfl, rfl⟩
   refine WE ?_
   refine WA ?_
   refine wk_of [some 0, some 1] (fun _ => [(1, .c (I n)), (2, .p 0 0 0), (5, .o 1 0 (AB ++ [(x + (-(n : Int) + (i : Nat)), y + (-(n : Int) + (j : Nat)))]).length cc), (6, .c (I (-(n : Int) + (j : Nat)))), (7, .c (I (-(n : Int) + (i + 1 : Nat))))]) (fun _ => [.box [.c (I x), .c (I y)], .arr 110 2 cc (sR (AB ++ [(x + (-(n : Int) + (i : Nat)), y + (-(n : Int) + (j : Nat)))]))]) (by decide) (ZNL hE) ZCF ZCH (fun _ => ?_)
   have hfin : AB ++ [(x + (-(n : Int) + (i : Nat)), y + (-(n : Int) + (j : Nat)))] = A ++ abtI x (y + (-(n : Int) + (j : Nat))) n (i + 1) := by rw [his, ← hAB, List.append_assoc]
   exact ⟨m2 - 1, by omega, i + 1, cc, by omega, by rw [hfin], by rw [hfin]⟩
  obtain rfl : i = 2 * n + 1 := by omega
  rw [← hjs]
  clear hjs his
  generalize hA2 : abtJ x y n (j + 1) = A2 at *
  refine ZZ ?_
  refine WA ?_
  refine wk_of [some 0, some 1] (fun _ => [(1, .c (I n)), (2, .p 0 0 0), (5, .o 1 0 A2.length c), (6, .c (I (-(n : Int) + (j + 1 : Nat))))]) (fun _ => [.box [.c (I x), .c (I y)], .arr 110 2 c (sR A2)]) (by decide) (ZNL hE) ZCF ZCH (fun _ => ?_)
  exact ⟨m - 1, by omega, j + 1, c, by omega, by rw [hA2], by rw [hA2]⟩
 obtain rfl : j = 2 * n + 1 := by omega
 rw [hA]
 refine ZZ ?_
 refine WA ?_
 exact aret_f1 [] _ rfl rfl rfl rfl (by rw [List.drop_zero, List.take_of_length_le (by simp)]) (by simp) rfl (by decide) (ZNK rfl) (fun _ => .nil) (fun q => ⟨q, rfl, rfl⟩)
theorem shr1_v (es : SE) (ck : Nat) (L : List Spot) (hok : SetOk es ck L) (x y : Int) : ACalls Tryz.prog 149 [.a [.c (I x), .c (I y)], .p 0 0 0] [.box [.mp 1], mpO encP encT es ck] fun u H => u = .c (B (!decide ((x, y) ∈ L))) ∧ H = [.box [.mp 1], mpO encP encT es ck] := by
 refine acalls_of (N := 8) Tryz.func149 rfl rfl (by simp) fun E hE => ?_
 refine WA ?_
 refine ZR ?_
 iterate 2 refine WX1 ?_
 refine ZA (rd_lookP (l := es) hok keyP rfl Tryz.underlying113 (by kernel_rfl) rfl rfl rfl) ?_
 refine WE ?_
 exact aret_1 [some 0, some 1] [.box [.mp 1], mpO encP encT es ck] rfl rfl rfl (by decide) (ZNK rfl) ZCH ⟨rfl, rfl⟩
set_option maxHeartbeats 1000000 in
theorem idxs1_v (es : SE) (ck : Nat) (L : List Spot) (hok : SetOk es ck L) (v : Value) (l : List Spot) (hl : l.length ≤ 1000000000) : ACalls Tryz.prog 198 [.c (.r v (sR l)), .f (.func 149) [.p 0 0 0]] [.box [.mp 1], mpO encP encT es ck] fun u H => ∃ r : Int, u = .c (I r) ∧ H = [.box [.mp 1], mpO encP encT es ck] ∧ (0 ≤ r ↔ ∃ p ∈ l, p ∉ L) := by
 have e1 : (sR l).length = l.length := by simp
 refine acalls_of (N := 19) Tryz.func198 rfl rfl (by simp) fun E hE => ?_
 refine WA ?_
 refine WA ?_
 refine aw_loopw (fun m F H => ∃ (k : Nat), m + k = l.length ∧ ((∃ p ∈ l.drop k, p ∉ L) ↔ ∃ p ∈ l, p ∉ L) ∧ F = [(0, .c (.r v (sR l))), (1, .f (.func 149) [.p 0 0 0]), (7, .c (I (sR l).length)), (8, .c (I k))] ∧ H = [.box [.mp 1], mpO encP encT es ck]) ?_ ?_
 ·refine wk_of [some 0, some 1] (fun _ => [(0, .c (.r v (sR l))), (1, .f (.func 149) [.p 0 0 0]), (7, .c (I (sR l).length)), (8, .c (I (0 : Nat)))]) (fun _ => [.box [.mp 1], mpO encP encT es ck]) (by decide) (ZNL hE) ZCF ZCH (fun _ => ?_)
  exact ⟨l.length, 0, by omega, Iff.rfl, rfl, rfl⟩
 rintro m F H ⟨k, hk, hf, rfl, rfl⟩
 refine WA ?_
 refine aw_if rfl (fun hlt => ?_) (fun hge => ?_)
 ·obtain ⟨⟨sx, sy⟩, hz⟩ : ∃ e, l[k]? = some e := ⟨_, List.getElem?_eq_getElem (by omega)⟩
  have hrow : (sR l)[k]? = some [I sx, I sy] := by rw [List.getElem?_map, hz]; rfl
  have hfd : (∃ p ∈ l.drop k, p ∉ L) ↔ (sx, sy) ∉ L ∨ ∃ p ∈ l.drop (k + 1), p ∉ L := by
   obtain ⟨h1, h2⟩ := List.getElem?_eq_some_iff.1 hz
   rw [List.drop_eq_getElem_cons h1, h2]; simp
  refine WA ?_
  refine WR ?_
  refine al_ef rfl (ef_call [0, 1] (fun _ => [.box [.mp 1], mpO encP encT es ck]) false (fun _ => shr1_v es ck L hok sx sy) rfl (.clo rfl) rfl (by decide) (by kernel_rfl) rfl ZCH (by decide) ZCH (by simp)) ?_
  rintro F1 H1 ⟨_, _, _, _, ⟨rfl, rfl⟩, hF, hH⟩
  (refine NSU hF hH ?_; clear hF hH; rintro rfl rfl)
  refine WE ?_
  refine aw_cond rfl (fun hpz => ?_) (fun hpz => ?_)
  ·refine WA ?_
   refine aret_1 [some 0, some 1] [.box [.mp 1], mpO encP encT es ck] rfl rfl rfl (by decide) (ZNK rfl) ZCH ⟨_, rfl, rfl, ?_⟩
   exact ⟨fun _ => hf.1 (hfd.2 (.inl (by simpa using hpz))), fun _ => by omega⟩
  ·refine ZZ ?_
   refine WA ?_
   refine wk_of [some 0, some 1] (fun _ => [(0, .c (.r v (sR l))), (1, .f (.func 149) [.p 0 0 0]), (7, .c (I (sR l).length)), (8, .c (I (k + 1 : Nat)))]) (fun _ => [.box [.mp 1], mpO encP encT es ck]) (by decide) (ZNL hE) ZCF ZCH (fun _ => ?_)
   exact ⟨m - 1, by omega, k + 1, by omega, ⟨fun h => hf.1 (hfd.2 (.inr h)), fun h => (hfd.1 (hf.2 h)).resolve_left (by simpa using hpz)⟩, rfl, rfl⟩
 refine WA ?_
 refine aret_1 [some 0, some 1] [.box [.mp 1], mpO encP encT es ck] rfl rfl rfl (by decide) (ZNK rfl) ZCH ⟨_, rfl, rfl, ?_⟩
 rw [← hf, List.drop_eq_nil_of_le (by omega)]; simp
theorem cons1_v (es : SE) (ck : Nat) (L : List Spot) (hok : SetOk es ck L) (v : Value) (l : List Spot) (hl : l.length ≤ 1000000000) (b : Bool) (hb : (l.any fun p => !decide (p ∈ L)) = b) : ACalls Tryz.prog 147 [.c (.r v (sR l)), .f (.func 149) [.p 0 0 0]] [.box [.mp 1], mpO encP encT es ck] fun u H => u = .c (B b) ∧ H = [.box [.mp 1], mpO encP encT es ck] := by
 refine acalls_of (N := 9) Tryz.func147 rfl rfl (by simp) fun E hE => ?_
 refine WA ?_
 refine WR ?_
 refine al_ef rfl (ef_call [0, 1] (fun _ => [.box [.mp 1], mpO encP encT es ck]) false (fun _ => idxs1_v es ck L hok v l hl) rfl .fn rfl (by decide) (by kernel_rfl) rfl ZCH (by decide) ZCH (by simp)) ?_
 rintro F1 H1 ⟨_, _, _, _, ⟨r, rfl, rfl, hr⟩, hF, hH⟩
 (refine NSU hF hH ?_; clear hF hH; rintro rfl rfl)
 refine WE ?_
 refine aret_1 [some 0, some 1] [.box [.mp 1], mpO encP encT es ck] rfl rfl rfl (by decide) (ZNK rfl) ZCH ⟨congrArg (fun z => AV.c (B z)) ?_, rfl⟩
 rw [← hb, Bool.eq_iff_iff, decide_eq_true_iff, hr]; simp
end Go.Proofs.YtgeenfjmhhenfaaGreatDoor

/- The reference's shrinking, by value: ShrunkBy. -/
-- NEWM
namespace Go.Proofs.YtgeenfjmhhenfaaGreatDoor
open Go Go.RowKit
set_option maxRecDepth 100000
def shB (n : Nat) (L : List Spot) (q : Spot) : Bool := !((abtJ q.1 q.2 n (2 * n + 1)).any fun p => !decide (p ∈ L))
theorem shB_eq (n : Nat) (L : List Spot) (q : Spot) : shB n L q = shrP n L q := by
 rw [Bool.eq_iff_iff, shB, shrP, Bool.and_eq_true, rowP, colP, allU_iff, allU_iff, Bool.not_eq_true', ← Bool.not_eq_true, List.any_eq_true]
 simp only [Bool.not_eq_true', decide_eq_false_iff_not, decide_eq_true_iff, not_exists, not_and, Classical.not_not, abt_mem, List.mem_filter, rowP, allU_iff]
 constructor
 ·intro h
  refine ⟨fun j h1 h2 => h _ ⟨?_, ?_, ?_, ?_⟩, fun j h1 h2 => ⟨h _ ⟨?_, ?_, ?_, ?_⟩, fun k h3 h4 => h _ ⟨?_, ?_, ?_, ?_⟩⟩⟩ <;> (simp only at *; omega)
 ·rintro ⟨_, h⟩ p ⟨h1, h2, h3, h4⟩
  have h5 := (h (p.2 - q.2) (by omega) (by omega)).2 (p.1 - q.1) (by omega) (by omega)
  rw [show q.1 + (p.1 - q.1) = p.1 by omega, show q.2 + (p.2 - q.2) = p.2 by omega] at h5
  exact h5
set_option maxHeartbeats 2000000 in
theorem shrunkby_v (va : Value) (c : Cel) (hst : 1 ≤ c.st ∧ c.st ≤ 1000000) (hx : -2000000 ≤ c.x ∧ c.x ≤ 2000000) (hy : -2000000 ≤ c.y ∧ c.y ≤ 2000000) (hl : c.rows.length ≤ 1000000) (hr : ∀ r ∈ c.rows, r.length ≤ 1000000 ∧ okB2 r = true) (n : Nat) (hn : n ≤ 1000) : ACalls Tryz.prog 78 [celA va c, .c (I n)] [] fun u H => ∃ v', u = .t [celA v' (normC c.st (shrL n (covL c))).1, .c (I (normC c.st (shrL n (covL c))).2)] ∧ H = [] := by
 have hbd := cov_bd hst.1 hx hy hl (fun r h => (hr r h).1)
 have hx5 : -1000000000000 ≤ c.x ∧ c.x ≤ 1000000000000 := by omega
 have hy5 : -1000000000000 ≤ c.y ∧ c.y ≤ 1000000000000 := by omega
 have hl5 : c.rows.length ≤ 1000000000 := by omega
 have hst5 : -1000000 ≤ c.st ∧ c.st ≤ 1000000 := by omega
 have hR : ∀ r ∈ c.rows, r.length ≤ 1000000000 ∧ okB2 r = true := fun r h => ⟨by have := (hr r h).1; omega, (hr r h).2⟩
 refine acalls_of (N := 32) Tryz.func78 rfl rfl (by simp) fun E hE => ?_
 refine WA ?_
 refine WR ?_
 refine al_ef rfl (ef_call0 false (fun _ => setof_v va c (by omega) hx5 hy5 hl5 hR) rfl .fn rfl (by decide) (by kernel_rfl) rfl (fun _ => C0 rfl) (by simp)) ?_
 rintro _ _ ⟨_, _, _, ⟨es, ck, hok, rfl, rfl⟩, hF, hH⟩
 (refine NSU hF hH ?_; clear hF hH; rintro rfl rfl)
 refine al_ef rfl (ef_mkmap rfl rfl (by decide)) ?_
 rintro _ _ ⟨rfl, rfl⟩
 refine WE ?_
 generalize hLL : covL c = L at *
 refine ZR ?_
 refine WX1 ?_
 refine al_ef rfl (ef_range (ke := encP) (ve := encT) (l := es) (ck := ck) rfl rfl (by decide) Tryz.underlying113 rfl rfl) ?_
 rintro _ _ ⟨rfl, rfl⟩
 refine WE ?_
 refine aw_loopw (fun m F H => ∃ (seen : List Nat) (T : List Spot) (es2 : SE) (ck2 : Nat), unseen es seen = m ∧ (∀ p, p ∈ T ↔ p ∈ seenT es seen) ∧ SetOk es2 ck2 (T.filter (shB n L)) ∧ F = [(1, .c (I n)), (2, .p 0 0 0), (4, .p 1 0 0), (6, .p 4 0 0), (7, .mp 3), (13, .p 5 0 0)] ∧ H = [celB va c, .box [.c (I 0), .c (I 0), .c (I 0), .c (.r (.slice none 0 0) [])], mpO encP encT es ck, mpO encP encT es2 ck2, .box [.mp 2], .itr 2 ck seen ck]) ?_ ?_
 ·refine wk_of [some 0, some 1, some 2, some 3, some 4, some 5] (fun _ => [(1, .c (I n)), (2, .p 0 0 0), (4, .p 1 0 0), (6, .p 4 0 0), (7, .mp 3), (13, .p 5 0 0)]) (fun _ => [celB va c, .box [.c (I 0), .c (I 0), .c (I 0), .c (.r (.slice none 0 0) [])], mpO encP encT es ck, mpO encP encT [] 0, .box [.mp 2], .itr 2 ck [] ck]) (by decide) (ZNL hE) ZCF ZCH (fun _ => ?_)
  exact ⟨_, [], [], [], 0, rfl, fun p => by simp [seenT], .nil, rfl, rfl⟩
 rintro m F H ⟨seen, T, es2, ck2, hm, hT, hok2, rfl, rfl⟩
 refine ZR ?_
 refine al_ef rfl (ef_nextP (l := es) hok rfl rfl (by decide) rfl rfl rfl) ?_
 rintro _ _ (⟨eb, ex, ey, he, hne, rfl, rfl⟩ | ⟨hall, rfl, rfl⟩)
 all_goals (refine WE ?_)
 ·refine aw_cond_t rfl ?_
  have hlt := unseen_lt he hne
  have hT' : ∀ p, p ∈ T ++ [(ex, ey)] ↔ p ∈ seenT es (seen ++ [eb]) := fun p => by
   rw [seenT_snoc hok.nb he, List.mem_append, List.mem_append, hT]
  have hel : (ex, ey) ∈ L := (hok.hm _).1 (List.mem_map_of_mem he)
  have hbe : (-100000000 ≤ ex ∧ ex ≤ 100000000) ∧ (-100000000 ≤ ey ∧ ey ≤ 100000000) := by have := hbd _ hel; simp only at this; omega
  have hAl : (abtJ ex ey n (2 * n + 1)).length ≤ 1000000000 := by
   rw [abtJ_len]
   have : (2 * n + 1) * (2 * n + 1) ≤ 2001 * 2001 := Nat.mul_le_mul (by omega) (by omega)
   omega
  obtain ⟨b, hb⟩ : ∃ b, ((abtJ ex ey n (2 * n + 1)).any fun p => !decide (p ∈ L)) = b := ⟨_, rfl⟩
  have hsh : shB n L (ex, ey) = !b := by rw [← hb]; rfl
  have hfil : (T ++ [(ex, ey)]).filter (shB n L) = T.filter (shB n L) ++ (if (!b) = true then [(ex, ey)] else []) := by
   rw [List.filter_append]; congr 1; simp only [List.filter_cons, List.filter_nil, hsh]
  refine ZR ?_
  refine ZA (rd_entryP (l := es) hok rfl rfl rfl rfl he) ?_
  refine WE ?_
  refine WR ?_
  refine al_ef rfl (ef_call0 false (fun _ => about_v ex ey n hbe.1 hbe.2 hn) rfl .fn rfl (by decide) (by kernel_rfl) rfl (fun _ => C0 rfl) (by simp)) ?_
  rintro _ _ ⟨_, _, _, ⟨v, rfl, rfl⟩, hF, hH⟩
  (refine NST hF hH ?_; clear hF hH; rintro rfl rfl)
  refine WO ?_
  refine al_ef rfl (ef_call [4, 2] (fun _ => [.box [.mp 1], mpO encP encT es ck]) false (fun _ => cons1_v es ck _ hok v _ hAl b hb) rfl .fn rfl (by decide) (by kernel_rfl) rfl ZCH (by decide) ZCH (by simp)) ?_
  rintro F1 H1 ⟨_, _, _, _, ⟨rfl, rfl⟩, hF, hH⟩
  (refine NSU hF hH ?_; clear hF hH; rintro rfl rfl)
  refine WE ?_
  cases b with
  | true =>
   refine aw_cond_f rfl ?_
   refine ZZ ?_
   refine wk_of [some 0, some 1, some 2, some 3, some 4, some 5] (fun _ => [(1, .c (I n)), (2, .p 0 0 0), (4, .p 1 0 0), (6, .p 4 0 0), (7, .mp 3), (13, .p 5 0 0)]) (fun _ => [celB va c, .box [.c (I 0), .c (I 0), .c (I 0), .c (.r (.slice none 0 0) [])], mpO encP encT es ck, mpO encP encT es2 ck2, .box [.mp 2], .itr 2 ck (seen ++ [eb]) ck]) (by decide) (ZNL hE) ZCF ZCH (fun _ => ?_)
   exact ⟨_, by rw [← hm]; exact hlt, seen ++ [eb], T ++ [(ex, ey)], es2, ck2, rfl, hT', by rw [hfil]; simpa using hok2, rfl, rfl⟩
  | false =>
   refine aw_cond_t rfl ?_
   have hs2 := hok2.set (ex, ey)
   refine ZR ?_
   iterate 2 refine WX1 ?_
   refine al_ef rfl (ef_setP (p := ex) (q := ey) (l := es2) (ck := ck2) keyP rfl rfl Tryz.underlying113 rfl rfl rfl rfl) ?_
   rintro _ _ ⟨rfl, rfl⟩
   refine WE ?_
   refine wk_of [some 0, some 1, some 2, some 3, some 4, some 5] (fun _ => [(1, .c (I n)), (2, .p 0 0 0), (4, .p 1 0 0), (6, .p 4 0 0), (7, .mp 3), (13, .p 5 0 0)]) (fun _ => [celB va c, .box [.c (I 0), .c (I 0), .c (I 0), .c (.r (.slice none 0 0) [])], mpO encP encT es ck, mpO encP encT (mset ck2 (ex, ey) true es2) (mclk ck2 (ex, ey) es2), .box [.mp 2], .itr 2 ck (seen ++ [eb]) ck]) (by decide) (ZNL hE) ZCF ZCH (fun _ => ?_)
   exact ⟨_, by rw [← hm]; exact hlt, seen ++ [eb], T ++ [(ex, ey)], _, _, rfl, hT', by rw [hfil]; exact hs2, rfl, rfl⟩
 ·refine aw_cond_f rfl ?_
  have hTL : ∀ p, p ∈ T ↔ p ∈ L := fun p => (hT p).trans (seenT_end hok hall)
  have hok3 : SetOk es2 ck2 (shrL n L) := hok2.to fun p => by
   rw [List.mem_filter, List.mem_filter, hTL, shB_eq]
  have hbd3 : ∀ p ∈ shrL n L, (-10000000 ≤ p.1 ∧ p.1 ≤ 10000000) ∧ (-10000000 ≤ p.2 ∧ p.2 ≤ 10000000) := fun p hp => hbd p (List.mem_filter.1 hp).1
  refine ZZ ?_
  refine WR ?_
  refine al_ef rfl (ef_call [3] (fun _ => [mpO encP encT es2 ck2]) false (fun _ => cellsof_v es2 ck2 _ hok3 c.st hst5 hbd3) rfl .fn rfl (by decide) (by kernel_rfl) rfl ZCH (by decide) ZCH (by simp)) ?_
  rintro F1 H1 ⟨_, _, _, _, ⟨v', rfl, rfl⟩, hF, hH⟩
  (refine NSU hF hH ?_; clear hF hH; rintro rfl rfl)
  refine WE ?_
  exact aret_of (us := [celA v' (normC c.st (shrL n L)).1, .c (I (normC c.st (shrL n L)).2)]) [] (fun _ => .t [celA v' (normC c.st (shrL n L)).1, .c (I (normC c.st (shrL n L)).2)]) (fun _ => []) (.cella (n := 4) rfl (by kernel_rfl) (Cells.box rfl) (by first | (simp; done) | exact Nat.le_refl 4) (by (try simp only [nm, putL, Nat.reduceAdd, cellsOf, cvOf]) <;> rfl) (.tmp rfl .nil)) (by decide) (fun i hi => absurd hi (Nat.not_lt_zero i)) (fun g' => .tL (.cons (.aL (.cons (.c rfl) (.cons (.c rfl) (.cons (.c rfl) (.cons (.c rfl) .nil))))) (.cons (.c rfl) .nil))) (fun _ => .nil) (fun g' => ⟨v', rfl, rfl⟩)
end Go.Proofs.YtgeenfjmhhenfaaGreatDoor
