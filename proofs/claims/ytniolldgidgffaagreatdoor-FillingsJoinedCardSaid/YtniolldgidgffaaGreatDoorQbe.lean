/- The reference's places, and a place among places, by value. -/
import Derived.Test.YtniolldgidgffaaGreatDoorQbd
set_option linter.unusedSimpArgs false
set_option linter.unusedVariables false
/- The reference's shrinking, by value: ShrunkBy. -/
-- NEWM
namespace Go.Proofs.YtniolldgidgffaaGreatDoor
open Go Go.RowKit
set_option maxRecDepth 100000
def shB (n : Nat) (L : List Spot) (q : Spot) : Bool := !((abtJ q.1 q.2 n (2 * n + 1)).any fun p => !decide (p ∈ L))
theorem shB_eq (n : Nat) (L : List Spot) (q : Spot) : shB n L q = shrP n L q := by
 rw [Bool.eq_iff_iff, shB, shrP, Bool.and_eq_true, rowP, colP, allU_iff, allU_iff, Bool.not_eq_true', ← Bool.not_eq_true, List.any_eq_true]
 simp only [Bool.not_eq_true', decide_eq_false_iff_not, decide_eq_true_iff, not_exists, not_and, Classical.not_not, abt_mem, List.mem_filter, rowP, allU_iff]
 constructor
 ·intro h
  refine ⟨fun j h1 h2 => h _ ⟨?_, ?_, ?_, ?_⟩, fun j h1 h2 => ⟨h _ ⟨?_, ?_, ?_, ?_⟩, fun k h3 h4 => h _ ⟨?_, ?_, ?_, ?_⟩⟩⟩ <;> (simp only at *; omega)
 ·rintro ⟨_, h⟩ p ⟨h1, h2, h3, h4⟩
  have h5 := (h (p.2 - q.2) (by omega) (by omega)).2 (p.1 - q.1) (by omega) (by omega)
  rw [show q.1 + (p.1 - q.1) = p.1 by omega, show q.2 + (p.2 - q.2) = p.2 by omega] at h5
  exact h5
set_option maxHeartbeats 2000000 in
theorem shrunkby_v (va : Value) (c : Cel) (hst : 1 ≤ c.st ∧ c.st ≤ 1000000) (hx : -2000000 ≤ c.x ∧ c.x ≤ 2000000) (hy : -2000000 ≤ c.y ∧ c.y ≤ 2000000) (hl : c.rows.length ≤ 1000000) (hr : ∀ r ∈ c.rows, r.length ≤ 1000000 ∧ okB2 r = true) (n : Nat) (hn : n ≤ 1000) : ACalls Tryz.prog 217 [celA va c, .c (I n)] [] fun u H => ∃ v', u = .t [celA v' (normC c.st (shrL n (covL c))).1, .c (I (normC c.st (shrL n (covL c))).2)] ∧ H = [] := by
 have hbd := cov_bd hst.1 hx hy hl (fun r h => (hr r h).1)
 have hx5 : -1000000000000 ≤ c.x ∧ c.x ≤ 1000000000000 := by omega
 have hy5 : -1000000000000 ≤ c.y ∧ c.y ≤ 1000000000000 := by omega
 have hl5 : c.rows.length ≤ 1000000000 := by omega
 have hst5 : -1000000 ≤ c.st ∧ c.st ≤ 1000000 := by omega
 have hR : ∀ r ∈ c.rows, r.length ≤ 1000000000 ∧ okB2 r = true := fun r h => ⟨by have := (hr r h).1; omega, (hr r h).2⟩
 refine acalls_of (N := 32) Tryz.func217 rfl rfl (by simp) fun E hE => ?_
 refine WA ?_
 refine WR ?_
 refine al_ef rfl (ef_call0 false (fun _ => setof_v va c (by omega) hx5 hy5 hl5 hR) rfl .fn rfl (by decide) (by kernel_rfl) rfl (fun _ => C0 rfl) (by simp)) ?_
 rintro _ _ ⟨_, _, _, ⟨es, ck, hok, rfl, rfl⟩, hF, hH⟩
 (refine NSU hF hH ?_; clear hF hH; rintro rfl rfl)
 refine al_ef rfl (ef_mkmap rfl rfl (by decide)) ?_
 rintro _ _ ⟨rfl, rfl⟩
 refine WE ?_
 generalize hLL : covL c = L at *
 refine ZR ?_
 refine WX1 ?_
 refine al_ef rfl (ef_range (ke := encP) (ve := encT) (l := es) (ck := ck) rfl rfl (by decide) Tryz.underlying122 rfl rfl) ?_
 rintro _ _ ⟨rfl, rfl⟩
 refine WE ?_
 refine aw_loopw (fun m F H => ∃ (seen : List Nat) (T : List Spot) (es2 : SE) (ck2 : Nat), unseen es seen = m ∧ (∀ p, p ∈ T ↔ p ∈ seenT es seen) ∧ SetOk es2 ck2 (T.filter (shB n L)) ∧ F = [(1, .c (I n)), (2, .p 0 0 0), (4, .p 1 0 0), (6, .p 4 0 0), (7, .mp 3), (13, .p 5 0 0)] ∧ H = [celB va c, .box [.c (I 0), .c (I 0), .c (I 0), .c (.r (.slice none 0 0) [])], mpO encP encT es ck, mpO encP encT es2 ck2, .box [.mp 2], .itr 2 ck seen ck]) ?_ ?_
 ·refine wk_of [some 0, some 1, some 2, some 3, some 4, some 5] (fun _ => [(1, .c (I n)), (2, .p 0 0 0), (4, .p 1 0 0), (6, .p 4 0 0), (7, .mp 3), (13, .p 5 0 0)]) (fun _ => [celB va c, .box [.c (I 0), .c (I 0), .c (I 0), .c (.r (.slice none 0 0) [])], mpO encP encT es ck, mpO encP encT [] 0, .box [.mp 2], .itr 2 ck [] ck]) (by decide) (ZNL hE) ZCF ZCH (fun _ => ?_)
  exact ⟨_, [], [], [], 0, rfl, fun p => by simp [seenT], .nil, rfl, rfl⟩
 rintro m F H ⟨seen, T, es2, ck2, hm, hT, hok2, rfl, rfl⟩
 refine ZR ?_
 refine al_ef rfl (ef_nextP (l := es) hok rfl rfl (by decide) rfl rfl rfl) ?_
 rintro _ _ (⟨eb, ex, ey, he, hne, rfl, rfl⟩ | ⟨hall, rfl, rfl⟩)
 all_goals (refine WE ?_)
 ·refine aw_cond_t rfl ?_
  have hlt := unseen_lt he hne
  have hT' : ∀ p, p ∈ T ++ [(ex, ey)] ↔ p ∈ seenT es (seen ++ [eb]) := fun p => by
   rw [seenT_snoc hok.nb he, List.mem_append, List.mem_append, hT]
  have hel : (ex, ey) ∈ L := (hok.hm _).1 (List.mem_map_of_mem he)
  have hbe : (-100000000 ≤ ex ∧ ex ≤ 100000000) ∧ (-100000000 ≤ ey ∧ ey ≤ 100000000) := by have := hbd _ hel; simp only at this; omega
  have hAl : (abtJ ex ey n (2 * n + 1)).length ≤ 1000000000 := by
   rw [abtJ_len]
   have : (2 * n + 1) * (2 * n + 1) ≤ 2001 * 2001 := Nat.mul_le_mul (by omega) (by omega)
   omega
  obtain ⟨b, hb⟩ : ∃ b, ((abtJ ex ey n (2 * n + 1)).any fun p => !decide (p ∈ L)) = b := ⟨_, rfl⟩
  have hsh : shB n L (ex, ey) = !b := by rw [← hb]; rfl
  have hfil : (T ++ [(ex, ey)]).filter (shB n L) = T.filter (shB n L) ++ (if (!b) = true then [(ex, ey)] else []) := by
   rw [List.filter_append]; congr 1; simp only [List.filter_cons, List.filter_nil, hsh]
  refine ZR ?_
  refine ZA (rd_entryP (l := es) hok rfl rfl rfl rfl he) ?_
  refine WE ?_
  refine WR ?_
  refine al_ef rfl (ef_call0 false (fun _ => about_v ex ey n hbe.1 hbe.2 hn) rfl .fn rfl (by decide) (by kernel_rfl) rfl (fun _ => C0 rfl) (by simp)) ?_
  rintro _ _ ⟨_, _, _, ⟨v, rfl, rfl⟩, hF, hH⟩
  (refine NST hF hH ?_; clear hF hH; rintro rfl rfl)
  refine WO ?_
  refine al_ef rfl (ef_call [4, 2] (fun _ => [.box [.mp 1], mpO encP encT es ck]) false (fun _ => cons1_v es ck _ hok v _ hAl b hb) rfl .fn rfl (by decide) (by kernel_rfl) rfl ZCH (by decide) ZCH (by simp)) ?_
  rintro F1 H1 ⟨_, _, _, _, ⟨rfl, rfl⟩, hF, hH⟩
  (refine NSU hF hH ?_; clear hF hH; rintro rfl rfl)
  refine WE ?_
  cases b with
  | true =>
   refine aw_cond_f rfl ?_
   refine ZZ ?_
   refine wk_of [some 0, some 1, some 2, some 3, some 4, some 5] (fun _ => [(1, .c (I n)), (2, .p 0 0 0), (4, .p 1 0 0), (6, .p 4 0 0), (7, .mp 3), (13, .p 5 0 0)]) (fun _ => [celB va c, .box [.c (I 0), .c (I 0), .c (I 0), .c (.r (.slice none 0 0) [])], mpO encP encT es ck, mpO encP encT es2 ck2, .box [.mp 2], .itr 2 ck (seen ++ [eb]) ck]) (by decide) (ZNL hE) ZCF ZCH (fun _ => ?_)
   exact ⟨_, by rw [← hm]; exact hlt, seen ++ [eb], T ++ [(ex, ey)], es2, ck2, rfl, hT', by rw [hfil]; simpa using hok2, rfl, rfl⟩
  | false =>
   refine aw_cond_t rfl ?_
   have hs2 := hok2.set (ex, ey)
   refine ZR ?_
   iterate 2 refine WX1 ?_
   refine al_ef rfl (ef_setP (p := ex) (q := ey) (l := es2) (ck := ck2) keyP rfl rfl Tryz.underlying122 rfl rfl rfl rfl) ?_
   rintro _ _ ⟨rfl, rfl⟩
   refine WE ?_
   refine wk_of [some 0, some 1, some 2, some 3, some 4, some 5] (fun _ => [(1, .c (I n)), (2, .p 0 0 0), (4, .p 1 0 0), (6, .p 4 0 0), (7, .mp 3), (13, .p 5 0 0)]) (fun _ => [celB va c, .box [.c (I 0), .c (I 0), .c (I 0), .c (.r (.slice none 0 0) [])], mpO encP encT es ck, mpO encP encT (mset ck2 (ex, ey) true es2) (mclk ck2 (ex, ey) es2), .box [.mp 2], .itr 2 ck (seen ++ [eb]) ck]) (by decide) (ZNL hE) ZCF ZCH (fun _ => ?_)
   exact ⟨_, by rw [← hm]; exact hlt, seen ++ [eb], T ++ [(ex, ey)], _, _, rfl, hT', by rw [hfil]; exact hs2, rfl, rfl⟩
 ·refine aw_cond_f rfl ?_
  have hTL : ∀ p, p ∈ T ↔ p ∈ L := fun p => (hT p).trans (seenT_end hok hall)
  have hok3 : SetOk es2 ck2 (shrL n L) := hok2.to fun p => by
   rw [List.mem_filter, List.mem_filter, hTL, shB_eq]
  have hbd3 : ∀ p ∈ shrL n L, (-10000000 ≤ p.1 ∧ p.1 ≤ 10000000) ∧ (-10000000 ≤ p.2 ∧ p.2 ≤ 10000000) := fun p hp => hbd p (List.mem_filter.1 hp).1
  refine ZZ ?_
  refine WR ?_
  refine al_ef rfl (ef_call [3] (fun _ => [mpO encP encT es2 ck2]) false (fun _ => cellsof_v es2 ck2 _ hok3 c.st hst5 hbd3) rfl .fn rfl (by decide) (by kernel_rfl) rfl ZCH (by decide) ZCH (by simp)) ?_
  rintro F1 H1 ⟨_, _, _, _, ⟨v', rfl, rfl⟩, hF, hH⟩
  (refine NSU hF hH ?_; clear hF hH; rintro rfl rfl)
  refine WE ?_
  exact aret_of (us := [celA v' (normC c.st (shrL n L)).1, .c (I (normC c.st (shrL n L)).2)]) [] (fun _ => .t [celA v' (normC c.st (shrL n L)).1, .c (I (normC c.st (shrL n L)).2)]) (fun _ => []) (.cella (n := 4) rfl (by kernel_rfl) (Cells.box rfl) (by first | (simp; done) | exact Nat.le_refl 4) (by (try simp only [nm, putL, Nat.reduceAdd, cellsOf, cvOf]) <;> rfl) (.tmp rfl .nil)) (by decide) (fun i hi => absurd hi (Nat.not_lt_zero i)) (fun g' => .tL (.cons (.aL (.cons (.c rfl) (.cons (.c rfl) (.cons (.c rfl) (.cons (.c rfl) .nil))))) (.cons (.c rfl) .nil))) (fun _ => .nil) (fun g' => ⟨v', rfl, rfl⟩)
end Go.Proofs.YtniolldgidgffaaGreatDoor

/- The reference's places, and a place among places, by value. -/
-- NEWM
namespace Go.Proofs.YtniolldgidgffaaGreatDoor
open Go Go.RowKit
set_option maxRecDepth 100000
theorem hitR_len {x y : Int} : ∀ r : List UInt8, (hitR x y r).length ≤ r.length := fun r => by
 induction r generalizing x with
 | nil => simp [hitR]
 | cons b r ih =>
  unfold hitR
  have := ih (x := x + 1)
  split <;> (simp only [List.length_cons]; omega)
theorem hitC_len {x : Int} {M : Nat} : ∀ {rs : List (List UInt8)} {y : Int}, (∀ r ∈ rs, r.length ≤ M) → (hitC x y rs).length ≤ rs.length * M
 | [], y, _ => by simp [hitC]
 | r :: rs, y, h => by
  have h1 := hitC_len (x := x) (y := y + 1) (fun q hq => h q (List.mem_cons_of_mem _ hq))
  have h2 := hitR_len (x := x) (y := y) r
  have h3 := h r List.mem_cons_self
  rw [hitC, List.length_append, List.length_cons, Nat.succ_mul]
  omega
theorem len_take {α : Type} {l : List α} {P : α → Prop} {k : Nat} (h : ∀ r ∈ l, P r) : ∀ r ∈ l.take k, P r := fun r hr => h r (List.mem_of_mem_take hr)
set_option maxHeartbeats 1000000 in
theorem places_v (va : Value) (c : Cel) (hst : 1 ≤ c.st) (hx : -1000000000000 ≤ c.x ∧ c.x ≤ 1000000000000) (hy : -1000000000000 ≤ c.y ∧ c.y ≤ 1000000000000) (hl : c.rows.length ≤ 10000) (hr : ∀ r ∈ c.rows, r.length ≤ 10000) : ACalls Tryz.prog 105 [celA va c] [] fun u H => ∃ v, u = .c (.r v (sR (covL c))) ∧ H = [] := by
 have hX := tdiv_bd hst hx
 have hY := tdiv_bd hst hy
 have e1 : (tR c.rows).length = c.rows.length := by simp
 refine acalls_of (N := 45) Tryz.func105 rfl rfl (by simp) fun E hE => ?_
 refine WA ?_
 refine WA ?_
 refine WA ?_
 refine aw_loopw (fun m F H => ∃ (i cp : Nat), m + i = c.rows.length ∧ F = [(1, .p 0 0 0), (3, .o 1 0 (hitC (c.x.tdiv c.st) (c.y.tdiv c.st) (c.rows.take i)).length cp), (8, .c (.r va (tR c.rows))), (9, .c (I (tR c.rows).length)), (10, .c (I i))] ∧ H = [celB va c, .arr 151 2 cp (sR (hitC (c.x.tdiv c.st) (c.y.tdiv c.st) (c.rows.take i)))]) ?_ ?_
 ·refine wk_of [some 0, none] (fun _ => [(1, .p 0 0 0), (3, .o 1 0 0 0), (8, .c (.r va (tR c.rows))), (9, .c (I (tR c.rows).length)), (10, .c (I (0 : Nat)))]) (fun _ => [celB va c, .arr 151 2 0 (sR [])]) (by decide) (ZNL hE) ZCF ZCH (fun _ => ?_)
  exact ⟨c.rows.length, 0, 0, by omega, rfl, rfl⟩
 rintro m F H ⟨i, cp, hi, rfl, rfl⟩
 refine WA ?_
 refine aw_if rfl (fun hlt => ?_) (fun hge => ?_)
 ·obtain ⟨r, hri⟩ : ∃ r, c.rows[i]? = some r := ⟨_, List.getElem?_eq_getElem (by omega)⟩
  have hrow : (tR c.rows)[i]? = some [T r] := by rw [List.getElem?_map, hri]; rfl
  have hrl := hr r (List.mem_of_getElem? hri)
  have htk : c.rows.take (i + 1) = c.rows.take i ++ [r] := by rw [List.take_add_one, hri]; rfl
  have hil : (c.rows.take i).length = i := by rw [List.length_take]; omega
  have hnx : ∀ k, k ≤ r.length → hitC (c.x.tdiv c.st) (c.y.tdiv c.st) (c.rows.take i ++ [r.take k]) = hitC (c.x.tdiv c.st) (c.y.tdiv c.st) (c.rows.take i) ++ hitR (c.x.tdiv c.st) (c.y.tdiv c.st + (i : Nat)) (r.take k) := fun k hk => by
   rw [hitC_append, hil]; simp [hitC]
  have hbig : ∀ k, (hitC (c.x.tdiv c.st) (c.y.tdiv c.st) (c.rows.take i ++ [r.take k])).length ≤ 1000000000 := fun k => by
   have := hitC_len (x := c.x.tdiv c.st) (y := c.y.tdiv c.st) (rs := c.rows.take i ++ [r.take k]) (M := 10000) (fun q hq => by
    rcases List.mem_append.1 hq with hq | hq
    ·exact len_take hr q hq
    ·rw [List.mem_singleton.1 hq, List.length_take]; omega)
   have h2 : (c.rows.take i ++ [r.take k]).length ≤ 10001 := by rw [List.length_append, hil]; simp; omega
   have h3 := Nat.mul_le_mul_right 10000 h2
   omega
  refine WA ?_
  refine WA ?_
  refine aw_loopw (fun m2 F H => ∃ (k cp : Nat), m2 + k = r.length ∧ F = [(1, .p 0 0 0), (3, .o 1 0 (hitC (c.x.tdiv c.st) (c.y.tdiv c.st) (c.rows.take i ++ [r.take k])).length cp), (4, .c (I i)), (5, .c (T r)), (8, .c (.r va (tR c.rows))), (9, .c (I (tR c.rows).length)), (10, .c (I i)), (16, .c (I r.length)), (17, .c (I k))] ∧ H = [celB va c, .arr 151 2 cp (sR (hitC (c.x.tdiv c.st) (c.y.tdiv c.st) (c.rows.take i ++ [r.take k])))]) ?_ ?_
  ·have h0 := hnx 0 (Nat.zero_le _)
   rw [List.take_zero, hitR, List.append_nil] at h0
   refine wk_of [some 0, some 1] (fun _ => [(1, .p 0 0 0), (3, .o 1 0 (hitC (c.x.tdiv c.st) (c.y.tdiv c.st) (c.rows.take i)).length cp), (4, .c (I i)), (5, .c (T r)), (8, .c (.r va (tR c.rows))), (9, .c (I (tR c.rows).length)), (10, .c (I i)), (16, .c (I r.length)), (17, .c (I (0 : Nat)))]) (fun _ => [celB va c, .arr 151 2 cp (sR (hitC (c.x.tdiv c.st) (c.y.tdiv c.st) (c.rows.take i)))]) (by decide) (ZNL hE) ZCF ZCH (fun _ => ?_)
   exact ⟨r.length, 0, cp, by omega, by rw [List.take_zero, h0], by rw [List.take_zero, h0]⟩
  clear cp
  rintro m2 F H ⟨k, cp, hk, rfl, rfl⟩
  have hbk := hbig k
  generalize hA : hitC (c.x.tdiv c.st) (c.y.tdiv c.st) (c.rows.take i ++ [r.take k]) = A at *
  by_cases hkl : k < r.length
  ·obtain ⟨b, hb⟩ : ∃ b, r[k]? = some b := ⟨_, List.getElem?_eq_getElem hkl⟩
   have hrk : r.take (k + 1) = r.take k ++ [b] := by rw [List.take_add_one, hb]; rfl
   have hkl2 : (r.take k).length = k := by rw [List.length_take]; omega
   have hA2 : hitC (c.x.tdiv c.st) (c.y.tdiv c.st) (c.rows.take i ++ [r.take (k + 1)]) = A ++ (if b = 35 then [(c.x.tdiv c.st + (k : Nat), c.y.tdiv c.st + (i : Nat))] else []) := by
    rw [hnx _ (by omega), hrk, hitR_append, hkl2, ← List.append_assoc, ← hnx k (by omega), hA]; simp [hitR]
   have h35 := u8_35 b
   refine WA ?_
   refine aw_cond_t rfl ?_
   refine WA ?_
   refine ZR ?_
   iterate 2 refine WX1 ?_
   refine ZA (rd_idxs (i := k) rfl Tryz.underlying9 rfl rfl rfl hb) ?_
   refine WE ?_
   refine aw_if rfl (fun hb5 => ?_) (fun hb5 => ?_)
   ·rw [decide_eq_true hb5] at h35
    rw [if_pos (by simpa using h35.symm)] at hA2
    refine ZZ ?_
    refine aw_regionT [(0, none), (1, none), (2, none), (3, none), (4, none), (5, none), (6, none), (7, none), (8, none), (9, none), (10, none), (11, none), (12, none), (13, none), (14, none), (15, none), (16, some [0]), (17, some []), (18, none)] hMixed (by kernel_rfl) ?_
    refine WP ?_
    refine at_ef rfl rfl (Zapp (KA (t := 155) rfl)) ?_
    rintro _ _ ⟨_, cc, hcc, rfl, rfl⟩
    refine ⟨ag_none, ?_⟩
    refine WQ ?_
    refine aw_wk (wk_of (K := fun F H => F = [(1, .p 0 0 0), (3, .o 1 0 (A ++ [(c.x.tdiv c.st + (k : Nat), c.y.tdiv c.st + (i : Nat))]).length cc), (4, .c (I i)), (5, .c (T r)), (8, .c (.r va (tR c.rows))), (9, .c (I (tR c.rows).length)), (10, .c (I i)), (16, .c (I r.length)), (17, .c (I k))] ∧ H = [celB va c, .arr 151 2 cc (sR (A ++ [(c.x.tdiv c.st + (k : Nat), c.y.tdiv c.st + (i : Nat))]))]) [some 0, some 1] (fun _ => [(1, .p 0 0 0), (3, .o 1 0 (A ++ [(c.x.tdiv c.st + (k : Nat), c.y.tdiv c.st + (i : Nat))]).length cc), (4, .c (I i)), (5, .c (T r)), (8, .c (.r va (tR c.rows))), (9, .c (I (tR c.rows).length)), (10, .c (I i)), (16, .c (I r.length)), (17, .c (I k))]) (fun _ => [celB va c, .arr 151 2 cc (sR (A ++ [(c.x.tdiv c.st + (k : Nat), c.y.tdiv c.st + (i : Nat))]))]) (by decide) (ZNL hE) ZCF ZCH (fun _ => ⟨rfl, rfl⟩)) ?_
    rintro F H ⟨rfl, rfl⟩
    rw [← hA2]
    generalize hA3 : hitC (c.x.tdiv c.st) (c.y.tdiv c.st) (c.rows.take i ++ [r.take (k + 1)]) = A3 at *
    refine WA ?_
    refine wk_of [some 0, some 1] (fun _ => [(1, .p 0 0 0), (3, .o 1 0 A3.length cc), (4, .c (I i)), (5, .c (T r)), (8, .c (.r va (tR c.rows))), (9, .c (I (tR c.rows).length)), (10, .c (I i)), (16, .c (I r.length)), (17, .c (I (k + 1 : Nat)))]) (fun _ => [celB va c, .arr 151 2 cc (sR A3)]) (by decide) (ZNL hE) ZCF ZCH (fun _ => ?_)
    exact ⟨m2 - 1, by omega, k + 1, cc, by omega, by rw [hA3], by rw [hA3]⟩
   ·rw [decide_eq_false hb5] at h35
    rw [if_neg (by simpa using h35.symm), List.append_nil] at hA2
    refine ZZ ?_
    refine WA ?_
    refine wk_of [some 0, some 1] (fun _ => [(1, .p 0 0 0), (3, .o 1 0 A.length cp), (4, .c (I i)), (5, .c (T r)), (8, .c (.r va (tR c.rows))), (9, .c (I (tR c.rows).length)), (10, .c (I i)), (16, .c (I r.length)), (17, .c (I (k + 1 : Nat)))]) (fun _ => [celB va c, .arr 151 2 cp (sR A)]) (by decide) (ZNL hE) ZCF ZCH (fun _ => ?_)
    exact ⟨m2 - 1, by omega, k + 1, cp, by omega, by rw [hA2], by rw [hA2]⟩
  obtain rfl : k = r.length := by omega
  rw [List.take_length, ← htk] at hA
  refine WA ?_
  refine aw_cond_f rfl ?_
  refine ZZ ?_
  refine WA ?_
  refine wk_of [some 0, some 1] (fun _ => [(1, .p 0 0 0), (3, .o 1 0 A.length cp), (8, .c (.r va (tR c.rows))), (9, .c (I (tR c.rows).length)), (10, .c (I (i + 1 : Nat)))]) (fun _ => [celB va c, .arr 151 2 cp (sR A)]) (by decide) (ZNL hE) ZCF ZCH (fun _ => ?_)
  exact ⟨m - 1, by omega, i + 1, cp, by omega, by rw [hA], by rw [hA]⟩
 obtain rfl : i = c.rows.length := by omega
 rw [List.take_length]
 refine ZZ ?_
 refine WA ?_
 exact aret_f1 (rs := sR (covL c)) [] _ rfl rfl rfl rfl (by rw [List.drop_zero, List.take_of_length_le (by simp)]; rfl) (by rw [List.length_map]; rfl) rfl (by decide) (ZNK rfl) ZCH (fun q => ⟨q, rfl, rfl⟩)
theorem idxpl_v (xf xt : Int) (l : List Spot) (v : Value) (hl : l.length ≤ 1000000000) : ACalls Tryz.prog 174 [.c (.r v (sR l)), .a [.c (I xf), .c (I xt)]] [] fun u H => ∃ r : Int, u = .c (I r) ∧ H = [] ∧ (0 ≤ r ↔ (xf, xt) ∈ l) := by
 have e1 : (sR l).length = l.length := by simp
 refine acalls_of (N := 19) Tryz.func174 rfl rfl (by simp) fun E hE => ?_
 refine WA ?_
 refine WA ?_
 refine aw_loopw (fun m F H => ∃ (k : Nat), m + k = l.length ∧ ((xf, xt) ∈ l.drop k ↔ (xf, xt) ∈ l) ∧ F = [(0, .c (.r v (sR l))), (3, .p 0 0 0), (7, .c (I (sR l).length)), (8, .c (I k))] ∧ H = [.box [.c (I xf), .c (I xt)]]) ?_ ?_
 ·refine wk_of [some 0] (fun _ => [(0, .c (.r v (sR l))), (3, .p 0 0 0), (7, .c (I (sR l).length)), (8, .c (I (0 : Nat)))]) (fun _ => [.box [.c (I xf), .c (I xt)]]) (by decide) (ZNL hE) ZCF ZCH (fun _ => ?_)
  exact ⟨l.length, 0, by omega, Iff.rfl, rfl, rfl⟩
 rintro m F H ⟨k, hk, hf, rfl, rfl⟩
 refine WA ?_
 refine aw_if rfl (fun hlt => ?_) (fun hge => ?_)
 ·obtain ⟨⟨zx, zy⟩, hz⟩ : ∃ e, l[k]? = some e := ⟨_, List.getElem?_eq_getElem (by omega)⟩
  have hfd : (xf, xt) ∈ l.drop k ↔ (xf = zx ∧ xt = zy) ∨ (xf, xt) ∈ l.drop (k + 1) := by
   obtain ⟨h1, h2⟩ := List.getElem?_eq_some_iff.1 hz
   rw [List.drop_eq_getElem_cons h1, List.mem_cons, h2]; simp
  have hrow : (sR l)[k]? = some [I zx, I zy] := by rw [List.getElem?_map, hz]; rfl
  refine WA ?_
  refine ZZ ?_
  refine aw_regionT [(0, none), (1, none), (2, none), (3, none), (4, none), (5, none)] hMixed (by kernel_rfl) ?_
  iterate 5 refine WX2 ?_
  refine ZT rfl (rd_eqla151 rfl rfl rfl) ?_
  refine WQ ?_
  refine aw_if rfl (fun heq => ?_) (fun hne => ?_)
  ·refine WA ?_
   exact aret_1 [] _ rfl rfl rfl (by decide) (ZNK rfl) (fun _ => .nil) ⟨_, rfl, rfl, ⟨fun _ => hf.1 (hfd.2 (.inl heq)), fun _ => by omega⟩⟩
  ·refine ZZ ?_
   refine WA ?_
   refine wk_of [some 0] (fun _ => [(0, .c (.r v (sR l))), (3, .p 0 0 0), (7, .c (I (sR l).length)), (8, .c (I (k + 1 : Nat)))]) (fun _ => [.box [.c (I xf), .c (I xt)]]) (by decide) (ZNL hE) ZCF ZCH (fun _ => ?_)
   exact ⟨m - 1, by omega, k + 1, by omega, ⟨fun h => hf.1 (hfd.2 (.inr h)), fun h => (hfd.1 (hf.2 h)).resolve_left hne⟩, rfl, rfl⟩
 refine WA ?_
 refine aret_1 [] _ rfl rfl rfl (by decide) (ZNK rfl) (fun _ => .nil) ⟨_, rfl, rfl, ?_⟩
 rw [← hf, List.drop_eq_nil_of_le (by omega)]; simp
theorem haspl_v (xf xt : Int) (l : List Spot) (v : Value) (hl : l.length ≤ 1000000000) : ACalls Tryz.prog 114 [.c (.r v (sR l)), .a [.c (I xf), .c (I xt)]] [] fun u H => u = .c (B (decide ((xf, xt) ∈ l))) ∧ H = [] := by
 refine acalls_of (N := 9) Tryz.func114 rfl rfl (by simp) fun E hE => ?_
 refine WA ?_
 refine WR ?_
 refine al_ef rfl (ef_call0 false (fun _ => idxpl_v xf xt l v hl) rfl .fn rfl (by decide) (by kernel_rfl) rfl (fun _ => C0 rfl) (by simp)) ?_
 rintro _ _ ⟨_, _, _, ⟨r, rfl, rfl, hr⟩, hF, hH⟩
 (refine NST hF hH ?_; clear hF hH; rintro rfl rfl)
 refine WE ?_
 refine aret_1 [] _ rfl rfl rfl (by decide) (ZNK rfl) (fun _ => .nil) ⟨congrArg (fun z => AV.c (B z)) ?_, rfl⟩
 rw [Bool.eq_iff_iff, decide_eq_true_iff, decide_eq_true_iff, hr]
end Go.Proofs.YtniolldgidgffaaGreatDoor
