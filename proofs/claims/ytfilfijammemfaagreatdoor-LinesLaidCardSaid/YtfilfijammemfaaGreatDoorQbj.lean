/- The reference's LinesOf, by value: paths of lines. -/
import Derived.Test.YtfilfijammemfaaGreatDoorQbi
import Derived.Test.YtfilfijammemfaaGreatDoorQaq
import Derived.Test.YtfilfijammemfaaGreatDoorQbe
import Derived.Test.YtfilfijammemfaaGreatDoorQbh
set_option linter.unusedSimpArgs false
set_option linter.unusedVariables false
/- The reference's lines in rows, by value: as those of the grid. -/
-- NEWM
namespace Go.Proofs.YtfilfijammemfaaGreatDoor
open Go Go.RowKit
set_option maxRecDepth 100000
abbrev trL (q : Int) (l : List Spot) : List Spot := l.map (trQ q)
theorem trL_in {q : Int} {l : List Spot} {p : Spot} : p ∈ trL q l ↔ trQ q p ∈ l := by
 rw [List.mem_map]
 constructor
 ·rintro ⟨a, h, rfl⟩; rw [trQ_tr]; exact h
 ·intro h; exact ⟨_, h, trQ_tr⟩
theorem trL_nodup {q : Int} {l : List Spot} (h : l.Nodup) : (trL q l).Nodup := by
 rw [List.nodup_iff_pairwise_ne, List.pairwise_map]
 exact h.imp fun {a b} hab e => hab (by rw [← trQ_tr (q := q) (p := a), e, trQ_tr])
set_option maxHeartbeats 4000000 in
theorem linesin0_v (va0 : Value) (c0 : Cel) (q ev ph : Int) (hc : RCel c0) (hev : 1 ≤ ev) (hph : -1000000 ≤ ph ∧ ph ≤ 1000000) (L : List Spot) (hLL : trL q (covL c0) = L) (hbd : ∀ p ∈ L, (-10000000 ≤ p.1 ∧ p.1 ≤ 10000000) ∧ (-10000000 ≤ p.2 ∧ p.2 ≤ 10000000)) (hend : ∀ r c : Int, -10000000 ≤ c → (∀ j : Int, c ≤ j → j ≤ c + 1000 → hasL L r j = true) → False) : ACalls Tryz.prog 52 [celA va0 c0, .c (I q), .c (I ev), .c (I ph)] [] fun u H => ∃ (v : Value) (l : List Lin), u = .c (.r v (lnR l)) ∧ (l.Perm (linL L L ev ph) ∧ l.Pairwise leL) ∧ H = [] := by
 have hpl : ACalls Tryz.prog 92 [celA va0 c0] [] fun u H => ∃ v, u = .c (.r v (sR (covL c0))) ∧ H = [] := by
  have h1 := hc.st
  have h2 := hc.far
  have h3 := hc.h
  have h4 := hc.w
  exact places_v va0 c0 (by omega) (by omega) (by omega) (by omega) (fun r hr => by rw [(hc.row r hr).1]; omega)
 have hlen : (covL c0).length ≤ 100000 := by
  have h3 := hc.h
  have h4 := hc.w
  have := hitC_len (x := c0.x.tdiv c0.st) (M := 200) (rs := c0.rows) (y := c0.y.tdiv c0.st) (fun r hr => by rw [(hc.row r hr).1]; exact h4)
  have h5 : c0.rows.length * 200 ≤ 200 * 200 := Nat.mul_le_mul_right _ h3
  unfold covL
  omega
 have hLn : L.length ≤ 100000 := by rw [← hLL]; simp; omega
 have hL9 : L.length ≤ 1000000000 := by omega
 generalize covL c0 = P0 at *
 have e1 : (sR P0).length = P0.length := by simp
 have e2 : (sR L).length = L.length := by simp
 refine acalls_of (N := 77) Tryz.func52 rfl rfl (by simp) fun E hE => ?_
 refine WA ?_
 refine WA ?_
 refine WR ?_
 refine al_ef rfl (ef_call0 false (fun _ => hpl) rfl .fn rfl (by decide) (by kernel_rfl) rfl (fun _ => C0 rfl) (by simp)) ?_
 rintro _ _ ⟨_, _, _, ⟨vp, rfl, rfl⟩, hF, hH⟩
 (refine NST hF hH ?_; clear hF hH; rintro rfl rfl)
 refine WE ?_
 refine aw_loopw (fun m F H => ∃ (k cp : Nat), m + k = P0.length ∧ F = [(1, .c (I q)), (2, .c (I ev)), (3, .c (I ph)), (9, .p 0 0 0), (18, .c (.r vp (sR P0))), (19, .c (I (sR P0).length)), (20, .c (I k))] ∧ H = [.box [.o 1 0 (trL q (P0.take k)).length cp], .arr 162 2 cp (sR (trL q (P0.take k)))]) ?_ ?_
 ·refine wk_of [some 1, none] (fun _ => [(1, .c (I q)), (2, .c (I ev)), (3, .c (I ph)), (9, .p 0 0 0), (18, .c (.r vp (sR P0))), (19, .c (I (sR P0).length)), (20, .c (I (0 : Nat)))]) (fun _ => [.box [.o 1 0 0 0], .arr 162 2 0 (sR [])]) (by decide) (ZNL hE) ZCF ZCH (fun _ => ?_)
  exact ⟨P0.length, 0, 0, by omega, rfl, rfl⟩
 rintro m F H ⟨k, cp, hk, rfl, rfl⟩
 refine WA ?_
 refine aw_if rfl (fun hlt => ?_) (fun hge => ?_)
 ·obtain ⟨⟨x, y⟩, hx⟩ : ∃ e, P0[k]? = some e := ⟨_, List.getElem?_eq_getElem (by omega)⟩
  have hrow : (sR P0)[k]? = some [I x, I y] := by rw [List.getElem?_map, hx]; rfl
  have htk : trL q (P0.take (k + 1)) = trL q (P0.take k) ++ [trQ q (x, y)] := by rw [List.take_add_one, hx]; simp
  have hle : (trL q (P0.take k)).length ≤ 1000000 := by simp; omega
  generalize trL q (P0.take k) = A at *
  refine WA ?_
  refine ZZ ?_
  refine aw_regionT [(0, none), (1, none), (2, none), (3, some [0]), (4, some [0]), (5, some []), (6, some [])] hMixed (by kernel_rfl) ?_
  refine WP ?_
  refine at_ef rfl rfl (ef_call0 false (fun _ => turned_v (x, y) q) rfl .fn rfl (by decide) (by kernel_rfl) rfl (fun _ => C0 rfl) (by simp)) ?_
  rintro _ _ ⟨_, _, _, ⟨rfl, rfl⟩, hF, hH⟩
  (refine NST hF hH ?_; clear hF hH; rintro rfl rfl)
  refine ⟨ag_cons (by first | exact ag_rd rfl rfl rfl (ZL (KK (t := 159) rfl)) rfl) (ag_none), ?_⟩
  refine WP ?_
  refine at_ef rfl rfl (Zapp (KA (t := 159) rfl)) ?_
  rintro _ _ ⟨_, cc, hcc, rfl, rfl⟩
  refine ⟨ag_none, ?_⟩
  refine WQ ?_
  all_goals (
   refine WA ?_
   refine wk_of [some 0, some 1] (fun _ => [(1, .c (I q)), (2, .c (I ev)), (3, .c (I ph)), (9, .p 0 0 0), (18, .c (.r vp (sR P0))), (19, .c (I (sR P0).length)), (20, .c (I (k + 1 : Nat)))]) (fun _ => [.box [.o 1 0 (A ++ [trQ q (x, y)]).length cc], .arr 162 2 cc (sR (A ++ [trQ q (x, y)]))]) (by decide) (ZNL hE) ZCF ZCH (fun _ => ?_)
   exact ⟨m - 1, by omega, k + 1, cc, by omega, rfl, by rw [htk]⟩)
 obtain rfl : k = P0.length := by omega
 rw [List.take_length, hLL]
 refine ZZ ?_
 refine aw_wk (wk_of (K := fun F H => ∃ pv va, F = [(2, .c (I ev)), (3, .c (I ph)), (9, .c (.p pv [.r va (sR L)]))] ∧ H = []) [] (fun g => [(2, .c (I ev)), (3, .c (I ph)), (9, .c (.p (g (.p 0 0 0)) [.r (g (.o 1 0 L.length cp)) (sR L)]))]) (fun _ => []) (by decide) (ZNL hE) (fun _ => .cons rfl (.c rfl) (.cons rfl (.c rfl) (.cons rfl (frzpL rfl rfl (.cons (.frz (b := 1) rfl rfl (by rw [List.drop_zero, List.take_of_length_le (by simp)]) (by simp) rfl) .nil)) .nil))) ZCH (fun _ => ⟨_, _, rfl, rfl⟩)) ?_
 rintro F H ⟨pv, va, rfl, rfl⟩
 refine WA ?_
 refine WA ?_
 refine ZR ?_
 refine ZA (rd_ldcp rfl (by kernel_rfl) rfl rfl) ?_
 refine WE ?_
 have hsn : ∀ (k : Nat) p, L[k]? = some p → linL L (L.take (k + 1)) ev ph = linL L (L.take k) ev ph ++ (if begL L ev ph p = true then [(p.2, p.1, rE (hasL L p.2) 1000 p.1)] else []) := fun k p h => by rw [List.take_add_one, h]; exact linL_snoc
 have hln : ∀ k : Nat, (linL L (L.take k) ev ph).length ≤ k := fun k => by
  unfold linL
  rw [List.length_map]
  exact Nat.le_trans (List.length_filter_le _ _) (by rw [List.length_take]; omega)
 refine aw_loopw (fun m F H => ∃ (k cp : Nat), m + k = L.length ∧ F = [(2, .c (I ev)), (3, .c (I ph)), (12, .f (.func 94) [.c (.p pv [.r va (sR L)])]), (13, .o 0 0 (linL L (L.take k) ev ph).length cp), (32, .c (.r va (sR L))), (33, .c (I (sR L).length)), (34, .c (I k))] ∧ H = [.arr 96 3 cp (lnR (linL L (L.take k) ev ph))]) ?_ ?_
 ·refine wk_of [none] (fun _ => [(2, .c (I ev)), (3, .c (I ph)), (12, .f (.func 94) [.c (.p pv [.r va (sR L)])]), (13, .o 0 0 0 0), (32, .c (.r va (sR L))), (33, .c (I (sR L).length)), (34, .c (I (0 : Nat)))]) (fun _ => [.arr 96 3 0 (lnR [])]) (by decide) (ZNL hE) ZCF ZCH (fun _ => ?_)
  exact ⟨L.length, 0, 0, by omega, rfl, rfl⟩
 clear cp
 rintro m F H ⟨k, cp, hk, rfl, rfl⟩
 have hlnk := hln k
 have hsnk := hsn k
 generalize hA : linL L (L.take k) ev ph = A at *
 refine WA ?_
 refine aw_if rfl (fun hlt => ?_) (fun hge => ?_)
 ·obtain ⟨⟨c, r⟩, hx⟩ : ∃ e, L[k]? = some e := ⟨_, List.getElem?_eq_getElem (by omega)⟩
  have hrow : (sR L)[k]? = some [I c, I r] := by rw [List.getElem?_map, hx]; rfl
  have hsk := hsnk _ hx
  have hcr := hbd _ (List.mem_of_getElem? hx)
  simp only at hcr hsk
  obtain ⟨rm, hrm⟩ : ∃ z, (r - ph).tmod ev = z := ⟨_, rfl⟩
  obtain ⟨b, hb⟩ : ∃ b, hasL L r (c - 1) = b := ⟨_, rfl⟩
  have hbg : begL L ev ph (c, r) = (decide (rm = 0) && !b) := by rw [← hrm, ← hb]; rfl
  rw [hbg] at hsk
  clear hsnk hsn hln
  refine WA ?_
  by_cases h0 : rm = 0
  ·rw [decide_eq_true h0, Bool.true_and] at hsk
   cases b with
   | true =>
    rw [if_neg (by simp), List.append_nil] at hsk
    refine ZR ?_
    iterate 5 refine WX1 ?_
    refine ZA (rd_remq hrm rfl rfl rfl (by omega)) ?_
    refine WO ?_
    first | refine ZS ?_ | (refine G1 rfl ?_; refine al_ef rfl (ef_call0 false (fun _ => hasl_v (c - 1) r pv va L hL9) rfl (.clo rfl) rfl (by decide) (by kernel_rfl) rfl (fun _ => C0 rfl) (by simp)) ?_; rintro _ _ ⟨_, _, _, ⟨rfl, rfl⟩, hF, hH⟩; rw [hb] at hF; (refine NST hF hH ?_; clear hF hH; rintro rfl rfl)) | skip
    refine WE ?_
    refine aw_cond_t rfl ?_
    refine WA ?_
    refine wk_of [some 0] (fun _ => [(2, .c (I ev)), (3, .c (I ph)), (12, .f (.func 94) [.c (.p pv [.r va (sR L)])]), (13, .o 0 0 (A).length cp), (32, .c (.r va (sR L))), (33, .c (I (sR L).length)), (34, .c (I (k + 1 : Nat)))]) (fun _ => [.arr 96 3 cp (lnR (A))]) (by decide) (ZNL hE) ZCF ZCH (fun _ => ?_)
    exact ⟨m - 1, by omega, k + 1, cp, by omega, by rw [hsk], by rw [hsk]⟩
   | false =>
    rw [if_pos (show (!false) = true from rfl)] at hsk
    refine ZR ?_
    iterate 5 refine WX1 ?_
    refine ZA (rd_remq hrm rfl rfl rfl (by omega)) ?_
    refine WO ?_
    first | refine ZS ?_ | (refine G1 rfl ?_; refine al_ef rfl (ef_call0 false (fun _ => hasl_v (c - 1) r pv va L hL9) rfl (.clo rfl) rfl (by decide) (by kernel_rfl) rfl (fun _ => C0 rfl) (by simp)) ?_; rintro _ _ ⟨_, _, _, ⟨rfl, rfl⟩, hF, hH⟩; rw [hb] at hF; (refine NST hF hH ?_; clear hF hH; rintro rfl rfl)) | skip
    refine WE ?_
    refine aw_cond_f rfl ?_
    refine ZZ ?_
    refine WA ?_
    have hen := hend r c (by omega)
    generalize hEE : rE (hasL L r) 1000 c = EE at *
    refine aw_loopw (fun m3 F H => ∃ (c2 : Int), c ≤ c2 ∧ c2 + m3 = c + 1000 ∧ (∀ j : Int, c < j → j ≤ c2 → hasL L r j = true) ∧ rE (hasL L r) m3 c2 = EE ∧ F = [(2, .c (I ev)), (3, .c (I ph)), (12, .f (.func 94) [.c (.p pv [.r va (sR L)])]), (13, .o 0 0 A.length cp), (15, .p 1 0 0), (16, .c (I c2)), (32, .c (.r va (sR L))), (33, .c (I (sR L).length)), (34, .c (I k))] ∧ H = [.arr 96 3 cp (lnR A), .box [.c (I c), .c (I r)]]) ?_ ?_
    ·refine wk_of [some 0, some 1] (fun _ => [(2, .c (I ev)), (3, .c (I ph)), (12, .f (.func 94) [.c (.p pv [.r va (sR L)])]), (13, .o 0 0 (A).length cp), (15, .p 1 0 0), (16, .c (I (c))), (32, .c (.r va (sR L))), (33, .c (I (sR L).length)), (34, .c (I k))]) (fun _ => [.arr 96 3 cp (lnR (A)), .box [.c (I c), .c (I r)]]) (by decide) (ZNL hE) ZCF ZCH (fun _ => ?_)
     exact ⟨1000, c, by omega, by omega, fun j h1 h2 => by omega, hEE, rfl, rfl⟩
    rintro m3 F H ⟨c2, hc1, hc2, hc3, hc4, rfl, rfl⟩
    obtain ⟨b2, hb2⟩ : ∃ b, hasL L r (c2 + 1) = b := ⟨_, rfl⟩
    refine WR ?_
    refine al_ef rfl (ef_call0 false (fun _ => hasl_v (c2 + 1) r pv va L hL9) rfl (.clo rfl) rfl (by decide) (by kernel_rfl) rfl (fun _ => C0 rfl) (by simp)) ?_
    rintro _ _ ⟨_, _, _, ⟨rfl, rfl⟩, hF, hH⟩
    rw [hb2] at hF
    (refine NST hF hH ?_; clear hF hH; rintro rfl rfl)
    refine WE ?_
    cases b2 with
    | true =>
     obtain ⟨m3, rfl⟩ : ∃ z, m3 = z + 1 := by
      cases m3 with
      | succ m3 => exact ⟨m3, rfl⟩
      | zero =>
       exfalso
       refine hen fun j h1 h2 => ?_
       by_cases ej : j = c
       ·rw [ej]
        have : (c, r) ∈ L := List.mem_of_getElem? hx
        simpa using this
       ·exact hc3 j (by omega) (by omega)
     rw [rE, if_pos hb2] at hc4
     refine aw_cond_t rfl ?_
     refine WA ?_
     refine wk_of [some 0, some 1] (fun _ => [(2, .c (I ev)), (3, .c (I ph)), (12, .f (.func 94) [.c (.p pv [.r va (sR L)])]), (13, .o 0 0 (A).length cp), (15, .p 1 0 0), (16, .c (I (c2 + 1))), (32, .c (.r va (sR L))), (33, .c (I (sR L).length)), (34, .c (I k))]) (fun _ => [.arr 96 3 cp (lnR (A)), .box [.c (I c), .c (I r)]]) (by decide) (ZNL hE) ZCF ZCH (fun _ => ?_)
     refine ⟨m3, by omega, c2 + 1, by omega, by omega, fun j h1 h2 => ?_, hc4, rfl, rfl⟩
     by_cases ej : j = c2 + 1
     ·rw [ej]; exact hb2
     ·exact hc3 j h1 (by omega)
    | false =>
     obtain rfl : c2 = EE := by
      cases m3 with
      | zero => exact hc4
      | succ m3 => rw [rE, if_neg (by rw [hb2]; simp)] at hc4; exact hc4
     refine aw_cond_f rfl ?_
     refine ZZ ?_
     refine WR ?_
     refine al_ef rfl (Zapp (KA (t := 93) rfl)) ?_
     rintro _ _ ⟨_, cc, hcc, rfl, rfl⟩
     refine WE ?_
     refine WA ?_
     refine wk_of [some 0] (fun _ => [(2, .c (I ev)), (3, .c (I ph)), (12, .f (.func 94) [.c (.p pv [.r va (sR L)])]), (13, .o 0 0 (A ++ [(r, c, c2)]).length cc), (32, .c (.r va (sR L))), (33, .c (I (sR L).length)), (34, .c (I (k + 1 : Nat)))]) (fun _ => [.arr 96 3 cc (lnR (A ++ [(r, c, c2)]))]) (by decide) (ZNL hE) ZCF ZCH (fun _ => ?_)
     exact ⟨m - 1, by omega, k + 1, cc, by omega, by rw [hsk], by rw [hsk]⟩
  ·rw [decide_eq_false h0, Bool.false_and, if_neg (by simp), List.append_nil] at hsk
   refine ZR ?_
   iterate 5 refine WX1 ?_
   refine ZA (rd_remq hrm rfl rfl rfl (by omega)) ?_
   refine WO ?_
   first | refine ZS ?_ | (refine G1 rfl ?_; refine al_ef rfl (ef_call0 false (fun _ => hasl_v (c - 1) r pv va L hL9) rfl (.clo rfl) rfl (by decide) (by kernel_rfl) rfl (fun _ => C0 rfl) (by simp)) ?_; rintro _ _ ⟨_, _, _, ⟨rfl, rfl⟩, hF, hH⟩; rw [hb] at hF; (refine NST hF hH ?_; clear hF hH; rintro rfl rfl)) | skip
   refine WE ?_
   refine aw_cond_t rfl ?_
   refine WA ?_
   refine wk_of [some 0] (fun _ => [(2, .c (I ev)), (3, .c (I ph)), (12, .f (.func 94) [.c (.p pv [.r va (sR L)])]), (13, .o 0 0 (A).length cp), (32, .c (.r va (sR L))), (33, .c (I (sR L).length)), (34, .c (I (k + 1 : Nat)))]) (fun _ => [.arr 96 3 cp (lnR (A))]) (by decide) (ZNL hE) ZCF ZCH (fun _ => ?_)
   exact ⟨m - 1, by omega, k + 1, cp, by omega, by rw [hsk], by rw [hsk]⟩
 obtain rfl : k = L.length := by omega
 rw [List.take_length] at hA
 rw [hA]
 refine ZZ ?_
 refine WR ?_
 refine al_ef rfl (ef_callp [0] (fun _ => [.arr 96 3 cp (lnR A)]) false (fun _ => sortLn_v A cp (by omega)) rfl .fn rfl (by decide) (by kernel_rfl) rfl ZCH (by decide) ZCH (by simp)) ?_
 rintro F1 H1 ⟨_, _, _, _, ⟨l', ⟨hlp, hls⟩, rfl, rfl⟩, hF, hH⟩
 rw [killF_nil] at hF; (refine NSU hF hH ?_; clear hF hH; rintro rfl rfl)
 refine WE ?_
 have hll' : l'.length = A.length := hlp.length_eq
 refine WA ?_
 exact aret_f1 [] _ rfl rfl rfl rfl (by rw [List.drop_zero, List.take_of_length_le (by simp; omega)]) (by simp; omega) rfl (by decide) (ZNK rfl) (fun _ => .nil) (fun q => ⟨q, l', rfl, ⟨hlp, hls⟩, rfl⟩)
end Go.Proofs.YtfilfijammemfaaGreatDoor

/- Lists turned round; rows of lists: plain. -/
namespace Go.Proofs.YtfilfijammemfaaGreatDoor
open Go Go.RowKit
def SwK {α : Type} (l : List α) (k : Nat) (l' : List α) : Prop := l'.length = l.length ∧ ∀ m, m < l.length → l'[m]? = if m < k ∨ l.length - 1 - m < k then l[l.length - 1 - m]? else l[m]?
theorem SwK.zero {α : Type} (l : List α) : SwK l 0 l := ⟨rfl, fun m hm => by rw [if_neg (by omega)]⟩
theorem SwK.next {α : Type} {l l' : List α} {k j : Nat} {x y : α} (h : SwK l k l') (hj : k + j + 1 = l.length) (hkj : k < j) (hx : l'[k]? = some x) (hy : l'[j]? = some y) : SwK l (k + 1) ((l'.set k y).set j x) := by
 obtain ⟨h1, h2⟩ := h
 have ek := h2 k (by omega)
 have ej := h2 j (by omega)
 rw [if_neg (by omega), hx] at ek
 rw [if_neg (by omega), hy] at ej
 refine ⟨by simp [h1], fun m hm => ?_⟩
 rw [List.getElem?_set, List.getElem?_set]
 by_cases hmj : j = m
 ·subst hmj
  rw [if_pos rfl, if_pos (by simp; omega), if_pos (by omega), show l.length - 1 - j = k from by omega, ← ek]
 ·rw [if_neg hmj]
  by_cases hmk : k = m
  ·subst hmk
   rw [if_pos rfl, if_pos (by omega), if_pos (by omega), show l.length - 1 - k = j from by omega, ← ej]
  ·rw [if_neg hmk, h2 m hm]
   by_cases hc : m < k ∨ l.length - 1 - m < k
   ·rw [if_pos hc, if_pos (by omega)]
   ·rw [if_neg hc, if_neg (by omega)]
theorem SwK.fin {α : Type} {l l' : List α} {k : Nat} (h : SwK l k l') (hkj : l.length ≤ 2 * k + 1) : l' = l.reverse := by
 obtain ⟨h1, h2⟩ := h
 refine List.ext_getElem? fun m => ?_
 rcases Nat.lt_or_ge m l.length with hm | hm
 ·rw [List.getElem?_reverse hm, h2 m hm]
  by_cases hc : m < k ∨ l.length - 1 - m < k
  ·rw [if_pos hc]
  ·rw [if_neg hc, show l.length - 1 - m = m from by omega]
 ·rw [List.getElem?_eq_none (by omega), List.getElem?_eq_none (by simp; omega)]
end Go.Proofs.YtfilfijammemfaaGreatDoor

/- The reference's LinesOf, by value: paths of lines. -/
-- NEWM
namespace Go.Proofs.YtfilfijammemfaaGreatDoor
open Go Go.RowKit
set_option maxRecDepth 100000
theorem revPt_a (l : List Spot) (c : Nat) (hl : l.length ≤ 1000000) (hc : l.length ≤ c) : ACallsX true Tryz.prog 100 [.o 0 0 l.length c] [.arr 107 2 c (l.map (fun p : Spot => [I p.1, I p.2]))] fun u H => u = .t [] ∧ H = [.arr 107 2 c (l.reverse.map (fun p : Spot => [I p.1, I p.2]))] := by
 refine acallsx_of true (N := 28) Tryz.func100 rfl rfl (by simp) fun E hE hP => ?_
 refine WA ?_
 refine aw_loopw (fun q F H => ∃ (k : Nat) (j : Int) (l' : List Spot), q + k = l.length ∧ j = (l.length : Int) - 1 - k ∧ k ≤ l.length ∧ SwK l k l' ∧ F = [(0, .o 0 0 l.length c), (2, .c (I k)), (3, .c (I j))] ∧ H = [.arr 107 2 c (l'.map (fun p : Spot => [I p.1, I p.2]))]) ?_ ?_
 ·refine wk_of [some 0] (fun _ => [(0, .o 0 0 l.length c), (2, .c (I (0 : Nat))), (3, .c (I ((l.length : Int) - 1)))]) (fun _ => _) (by decide) (ZNL hE) ZCF ZCH (fun _ => ?_)
  exact ⟨l.length, 0, _, l, by omega, by omega, by omega, .zero l, rfl, rfl⟩
 rintro q F H ⟨k, j, l', hq, hj, hkl, hS, rfl, rfl⟩
 refine WA ?_
 refine aw_if rfl (fun hlt => ?_) (fun hge => ?_)
 ·obtain ⟨j', rfl⟩ : ∃ j' : Nat, j = j' := ⟨j.toNat, by omega⟩
  have hl1 := hS.1
  obtain ⟨x, hx⟩ : ∃ x, l'[k]? = some x := ⟨_, List.getElem?_eq_getElem (by omega)⟩
  obtain ⟨y, hy⟩ : ∃ y, l'[j']? = some y := ⟨_, List.getElem?_eq_getElem (by omega)⟩
  have hrx : (l'.map (fun p : Spot => [I p.1, I p.2]))[k]? = some [I x.1, I x.2] := by rw [List.getElem?_map, hx]; rfl
  have hry : (l'.map (fun p : Spot => [I p.1, I p.2]))[j']? = some [I y.1, I y.2] := by rw [List.getElem?_map, hy]; rfl
  have hry2 : ((l'.map (fun p : Spot => [I p.1, I p.2])).set (0 + k) [I y.1, I y.2])[0 + j']? = some [I y.1, I y.2] := by rw [Nat.zero_add, Nat.zero_add, List.getElem?_set_ne (by omega), hry]
  have hS2 := hS.next (j := j') (by omega) (by omega) hx hy
  have hm : (((l'.set k y).set j' x).map (fun p : Spot => [I p.1, I p.2])) = ((l'.map (fun p : Spot => [I p.1, I p.2])).set (0 + k) [I y.1, I y.2]).set (0 + j') [I x.1, I x.2] := by rw [List.map_set, List.map_set, Nat.zero_add, Nat.zero_add]
  refine ZZ ?_
  refine aw_regionT [(0, none), (1, none), (2, none), (3, none), (4, none), (5, none), (6, none), (7, none), (8, none), (9, none), (10, none), (11, none), (12, none), (13, some [2, 3]), (14, none), (15, some [])] hMixed (by kernel_rfl) ?_
  refine WQ ?_
  refine WA ?_
  refine wk_of [some 0] (fun _ => [(0, .o 0 0 l.length c), (2, .c (I (k + 1 : Nat))), (3, .c (I ((j' : Int) - 1)))]) (fun _ => [.arr 107 2 c (((l'.set k y).set j' x).map (fun p : Spot => [I p.1, I p.2]))]) (by decide) (ZNL hE) ZCF (by rw [hm]; exact ZCH) (fun _ => ?_)
  exact ⟨q - 1, by omega, k + 1, _, _, by omega, by omega, by omega, hS2, rfl, rfl⟩
 refine ZZ ?_
 have he : l' = l.reverse := hS.fin (by omega)
 subst he
 refine aret_0 [some 0] (fun _ => [.arr 107 2 c (l.reverse.map (fun p : Spot => [I p.1, I p.2]))]) (by simp) rfl (by decide) (ZNK rfl) ZCH (fun _ => ⟨rfl, rfl⟩)
theorem linesin_v (va : Value) (c : Cel) (q ev ph : Int) (hc : RCel c) (hev : 1 ≤ ev) (hph : -1000000 ≤ ph ∧ ph ≤ 1000000) : ACalls Tryz.prog 52 [celA va c, .c (I q), .c (I ev), .c (I ph)] [] fun u H => ∃ (v : Value), u = .c (.r v (lnR (linG (grdOf c) q ev ph))) ∧ H = [] := by
 have hg := grdOf_ok hc
 have hin : ∀ p ∈ covL c, (-10000000 ≤ p.1 ∧ p.1 ≤ 10000000) ∧ (-10000000 ≤ p.2 ∧ p.2 ≤ 10000000) := fun p hp => by
  have h1 := covL_in hc hp
  have h2 := hc.far
  have h3 := hc.st
  have h4 := hc.h
  have h5 := hc.w
  have e1 := Int.mul_tdiv_add_tmod c.x c.st
  have e2 := Int.mul_tdiv_add_tmod c.y c.st
  have b1 : (c.x.tdiv c.st).natAbs ≤ 2000000 := by rw [Int.natAbs_tdiv]; exact Nat.le_trans (Nat.div_le_self _ _) (by omega)
  have b2 : (c.y.tdiv c.st).natAbs ≤ 2000000 := by rw [Int.natAbs_tdiv]; exact Nat.le_trans (Nat.div_le_self _ _) (by omega)
  omega
 refine (linesin0_v va c q ev ph hc hev hph _ rfl (fun p hp => ?_) (fun r k h1 h2 => ?_)).mono fun u H hq => ?_
 ·rw [trL_in] at hp
  have := hin _ hp
  unfold trQ at this
  split at this <;> (try simp only at this) <;> omega
 ·have m1 := h2 k (by omega) (by omega)
  have m2 := h2 (k + 1000) (by omega) (by omega)
  rw [decide_eq_true_iff, trL_in] at m1 m2
  have i1 := covL_in hc m1
  have i2 := covL_in hc m2
  have h4 := hc.h
  have h5 := hc.w
  unfold trQ at i1 i2
  split at i1 <;> rename_i e
  ·rw [if_pos e] at i2; simp only at i1 i2; omega
  ·rw [if_neg e] at i2; (try simp only at i1 i2); omega
 ·obtain ⟨v, l, h1, ⟨h2, h3⟩, h4⟩ := hq
  have hw : wQ (grdOf c) q ≤ 999 := by have := (grd_wh hc q).1; omega
  rw [linG_is (grdOf_len hc) hw (L := trL q (covL c)) (fun p => by rw [trL_in, grdOf_cov hc]) (trL_nodup covL_nodup) h2 h3] at h1
  exact ⟨v, h1, h4⟩
theorem ctr_tr {st q r a : Int} : ctr st q r a = ((trQ q (a, r)).1 * st + st / 2, (trQ q (a, r)).2 * st + st / 2) := by unfold ctr trQ; split <;> rfl
theorem trQ_bd {q r a : Int} {M : Int} (hr : -M ≤ r ∧ r ≤ M) (ha : -M ≤ a ∧ a ≤ M) : (-M ≤ (trQ q (a, r)).1 ∧ (trQ q (a, r)).1 ≤ M) ∧ (-M ≤ (trQ q (a, r)).2 ∧ (trQ q (a, r)).2 ≤ M) := by unfold trQ; split <;> exact ⟨by assumption, by assumption⟩
set_option maxHeartbeats 2000000 in
theorem pathof_v (va : Value) (c : Cel) (hs : 1 ≤ c.st ∧ c.st ≤ 10000) (r a b q : Int) (back : Bool) (hr : -20000000 ≤ r ∧ r ≤ 20000000) (ha : -20000000 ≤ a ∧ a ≤ 20000000) (hb : -20000000 ≤ b ∧ b ≤ 20000000) (hab : a ≤ b) : ACalls Tryz.prog 53 [celA va c, .a [.c (I r), .c (I a), .c (I b)], .c (I q), .c (B back)] [] fun u H => ∃ v' : Value, u = .a [.c (.r v' (sR (if back = true then (ptsL c.st q (r, a, b)).reverse else ptsL c.st q (r, a, b)))), .c (B false)] ∧ H = [] := by
 have ht1 := turned_v (a, r) q
 have ht2 := turned_v (b, r) q
 have hb1 := trQ_bd (q := q) hr ha
 have hb2 := trQ_bd (q := q) hr hb
 have hc1 := centq_v va c hs (trQ q (a, r)).1 (trQ q (a, r)).2 hb1.1 hb1.2
 have hc2 := centq_v va c hs (trQ q (b, r)).1 (trQ q (b, r)).2 hb2.1 hb2.2
 have e1 := ctr_tr (st := c.st) (q := q) (r := r) (a := a)
 have e2 := ctr_tr (st := c.st) (q := q) (r := r) (a := b)
 have hpt : ptsL c.st q (r, a, b) = if a < b then [ctr c.st q r a, ctr c.st q r b] else [ctr c.st q r a] := by
  unfold ptsL
  by_cases h : a < b
  ·rw [if_pos h, if_pos (by simp only; omega)]
  ·rw [if_neg h, if_neg (by simp only; omega)]
 rw [hpt]
 clear hpt hb1 hb2
 generalize trQ q (a, r) = t1 at *
 generalize trQ q (b, r) = t2 at *
 have hc1' : ACalls Tryz.prog 99 [celA va c, .a [.c (I t1.1), .c (I t1.2)]] [] fun u H => u = .a [.c (I (ctr c.st q r a).1), .c (I (ctr c.st q r a).2)] ∧ H = [] := by rw [e1]; exact hc1
 have hc2' : ACalls Tryz.prog 99 [celA va c, .a [.c (I t2.1), .c (I t2.2)]] [] fun u H => u = .a [.c (I (ctr c.st q r b).1), .c (I (ctr c.st q r b).2)] ∧ H = [] := by rw [e2]; exact hc2
 clear hc1 hc2 e1 e2
 generalize ctr c.st q r a = c1 at *
 generalize ctr c.st q r b = c2 at *
 refine acalls_of (N := 42) Tryz.func53 rfl rfl (by simp) fun E hE => ?_
 refine WA ?_
 refine ZZ ?_
 refine aw_regionT [(0, none), (1, none), (2, none), (3, none), (4, none), (5, none), (6, none), (7, some [0]), (8, some []), (9, some []), (10, none)] hMixed (by kernel_rfl) ?_
 refine WP ?_
 refine at_ef rfl rfl (ef_call0 false (fun _ => ht1) rfl .fn rfl (by decide) (by kernel_rfl) rfl (fun _ => C0 rfl) (by simp)) ?_
 rintro _ _ ⟨_, _, _, ⟨rfl, rfl⟩, hF, hH⟩
 (refine NST hF hH ?_; clear hF hH; rintro rfl rfl)
 refine ⟨ag_cons (by first | exact ag_rd rfl rfl rfl (ZK (KK (t := 28) rfl)) rfl) (ag_none), ?_⟩
 refine at_ef rfl rfl (ef_call0 false (fun _ => hc1') rfl .fn rfl (by decide) (by kernel_rfl) rfl (fun _ => C0 rfl) (by simp)) ?_
 rintro _ _ ⟨_, _, _, ⟨rfl, rfl⟩, hF, hH⟩
 (refine NST hF hH ?_; clear hF hH; rintro rfl rfl)
 refine ⟨ag_none, ?_⟩
 refine WQ ?_
 refine WA ?_
 refine aw_cut (fun F H => ∃ (P : List Spot) (cp : Nat), P = (if a < b then [c1, c2] else [c1]) ∧ P.length ≤ cp ∧ F = [(3, .c (B back)), (8, .p 0 0 0), (9, .o 1 0 P.length cp)] ∧ H = [.box [.c (.r (.slice none 0 0) []), .c (B false)], .arr 107 2 cp (sR P)]) ?_ ?_ wk_aw
 ·refine aw_if rfl (fun hlt => ?_) (fun hge => ?_)
  ·refine ZZ ?_
   refine aw_regionT [(0, none), (1, none), (2, none), (3, none), (4, none), (5, none), (6, none), (7, none), (8, some [0, 1]), (9, some [0]), (10, some [0]), (11, some []), (12, none)] hMixed (by kernel_rfl) ?_
   refine WP ?_
   refine at_ef rfl rfl (ef_call0 false (fun _ => ht2) rfl .fn rfl (by decide) (by kernel_rfl) rfl (fun _ => C0 rfl) (by simp)) ?_
   rintro _ _ ⟨_, _, _, ⟨rfl, rfl⟩, hF, hH⟩
   (refine NST hF hH ?_; clear hF hH; rintro rfl rfl)
   refine ⟨ag_cons (by first | exact ag_rd rfl rfl rfl (rd_move rfl rfl) rfl) (ag_cons (by first | exact ag_rd rfl rfl rfl (ZK (KK (t := 28) rfl)) rfl) (ag_none)), ?_⟩
   refine at_ef rfl rfl (ef_call0 false (fun _ => hc2') rfl .fn rfl (by decide) (by kernel_rfl) rfl (fun _ => C0 rfl) (by simp)) ?_
   rintro _ _ ⟨_, _, _, ⟨rfl, rfl⟩, hF, hH⟩
   (refine NST hF hH ?_; clear hF hH; rintro rfl rfl)
   refine ⟨ag_cons (by first | exact ag_rd rfl rfl rfl (rd_move rfl rfl) rfl) (ag_none), ?_⟩
   refine WP ?_
   refine at_ef rfl rfl (Zapp (KA (t := 52) rfl)) ?_
   rintro _ _ ⟨_, cc, hcc, rfl, rfl⟩
   refine ⟨ag_none, ?_⟩
   refine WQ ?_
   refine wk_of [some 2, some 3] (fun _ => [(3, .c (B back)), (8, .p 0 0 0), (9, .o 1 0 ([c1, c2] : List Spot).length cc)]) (fun _ => [.box [.c (.r (.slice none 0 0) []), .c (B false)], .arr 107 2 cc (sR [c1, c2])]) (by decide) (ZNL hE) ZCF ZCH (fun _ => ?_)
   exact ⟨[c1, c2], cc, by rw [if_pos (by omega)], by simp only [List.length_cons, List.length_nil, List.length_map] at hcc ⊢; omega, rfl, rfl⟩
  ·refine ZZ ?_
   refine wk_of [some 2, some 3] (fun _ => [(3, .c (B back)), (8, .p 0 0 0), (9, .o 1 0 ([c1] : List Spot).length 1)]) (fun _ => [.box [.c (.r (.slice none 0 0) []), .c (B false)], .arr 107 2 1 (sR [c1])]) (by decide) (ZNL hE) ZCF ZCH (fun _ => ?_)
   exact ⟨[c1], 1, by rw [if_neg (by omega)], by simp, rfl, rfl⟩
 rintro F H ⟨P, cp, hP, hcp, rfl, rfl⟩
 rw [← hP]
 have hPl : P.length ≤ 2 := by rw [hP]; split <;> simp
 clear hP
 refine ZZ ?_
 cases back with
 | true =>
  refine WA ?_
  refine aw_cond_t rfl ?_
  refine WR ?_
  refine al_ef rfl (ef_callp [1] (fun _ => [.arr 107 2 cp (P.map fun p : Spot => [I p.1, I p.2])]) false (fun _ => revPt_a P cp (by omega) (by omega)) rfl .fn rfl (by decide) (by kernel_rfl) rfl ZCH (by decide) ZCH (by simp)) ?_
  rintro F1 H1 ⟨_, _, _, _, ⟨rfl, rfl⟩, hF, hH⟩
  rw [killF_nil] at hF; (refine NSU hF hH ?_; clear hF hH; rintro rfl rfl)
  refine WE ?_
  refine WA ?_
  rw [if_pos rfl]
  have er : P.length = P.reverse.length := by simp
  rw [er]
  exact aret_of (us := [.a [.o 1 0 (P.reverse).length cp, .c (B false)]]) [] (fun g => .a [.c (.r (g (.o 1 0 (P.reverse).length cp)) (sR (P.reverse))), .c (B false)]) (fun _ => []) (.cella (n := 2) rfl (by kernel_rfl) (Cells.box rfl) (by first | (simp; done) | exact Nat.le_refl 2) (by (try simp only [nm, putL, Nat.reduceAdd, cellsOf, cvOf]) <;> rfl) .nil) (by decide) (fun i hi => absurd hi (Nat.not_lt_zero i)) (fun g' => .aL (.cons (.frz rfl rfl (by rw [List.drop_zero, List.take_of_length_le (by simp)]) (by simp) rfl) (.cons (.c rfl) .nil))) (fun _ => .nil) (fun g' => ⟨_, rfl, rfl⟩)
 | false =>
  refine WA ?_
  refine aw_cond_f rfl ?_
  refine ZZ ?_
  refine WA ?_
  rw [if_neg (by simp)]
  exact aret_of (us := [.a [.o 1 0 (P).length cp, .c (B false)]]) [] (fun g => .a [.c (.r (g (.o 1 0 (P).length cp)) (sR (P))), .c (B false)]) (fun _ => []) (.cella (n := 2) rfl (by kernel_rfl) (Cells.box rfl) (by first | (simp; done) | exact Nat.le_refl 2) (by (try simp only [nm, putL, Nat.reduceAdd, cellsOf, cvOf]) <;> rfl) .nil) (by decide) (fun i hi => absurd hi (Nat.not_lt_zero i)) (fun g' => .aL (.cons (.frz rfl rfl (by rw [List.drop_zero, List.take_of_length_le (by simp)]) (by simp) rfl) (.cons (.c rfl) .nil))) (fun _ => .nil) (fun g' => ⟨_, rfl, rfl⟩)
theorem lin_ab {g : Grd} {q ev ph : Int} {l : Lin} (h : l ∈ linG g q ev ph) : l.2.1 ≤ l.2.2 := by
 obtain ⟨i, _, _, h2⟩ := lnS_mem.1 h
 obtain ⟨k, _, _, _, rfl⟩ := lnC_mem.1 h2
 exact rE_spec.1
set_option maxHeartbeats 2000000 in
theorem linesof_v (va : Value) (c : Cel) (q ev ph : Int) (hc : RCel c) (hev : 1 ≤ ev) (hph : -1000000 ≤ ph ∧ ph ≤ 1000000) : ACalls Tryz.prog 15 [celA va c, .c (I q), .c (I ev), .c (I ph)] [] fun u H => ∃ (v : Value) (pl : List Pth), u = .c (.r v (paR pl)) ∧ pl.map Prod.snd = ((linG (grdOf c) q ev ph).map fun l => (ptsL c.st q l, false)) ∧ H = [] := by
 have hgo := grdOf_ok hc
 have hst := hc.st
 have hlb := lin_len hc q ev ph
 have hbd := fun l h => @lin_bd (grdOf c) hgo q ev ph l h
 have hba := fun l h => @lin_ab (grdOf c) q ev ph l h
 refine acalls_of (N := 31) Tryz.func15 rfl rfl (by simp) fun E hE => ?_
 refine WA ?_
 refine WA ?_
 refine WR ?_
 refine al_ef rfl (ef_call0 false (fun _ => linesin_v va c q ev ph hc hev hph) rfl .fn rfl (by decide) (by kernel_rfl) rfl (fun _ => C0 rfl) (by simp)) ?_
 rintro _ _ ⟨_, _, _, ⟨lv, rfl, rfl⟩, hF, hH⟩
 (refine NST hF hH ?_; clear hF hH; rintro rfl rfl)
 refine WE ?_
 generalize linG (grdOf c) q ev ph = LL at *
 have e1 : (lnR LL).length = LL.length := by simp
 refine aw_loopw (fun m F H => ∃ (i cp : Nat) (pl : List Pth), m + i = LL.length ∧ pl.length ≤ cp ∧ pl.map Prod.snd = (LL.take i).map (fun l => (ptsL c.st q l, false)) ∧ F = [(1, .c (I q)), (4, .p 0 0 0), (9, .o 1 0 pl.length cp), (16, .c (.r lv (lnR LL))), (17, .c (I (lnR LL).length)), (18, .c (I i))] ∧ H = [celB va c, .arr 54 2 cp (paR pl)]) ?_ ?_
 ·refine wk_of [some 0, none] (fun _ => [(1, .c (I q)), (4, .p 0 0 0), (9, .o 1 0 0 0), (16, .c (.r lv (lnR LL))), (17, .c (I (lnR LL).length)), (18, .c (I (0 : Nat)))]) (fun _ => [celB va c, .arr 54 2 0 (paR [])]) (by decide) (ZNL hE) ZCF ZCH (fun _ => ?_)
  exact ⟨LL.length, 0, 0, [], by omega, Nat.le_refl _, rfl, rfl, rfl⟩
 rintro m F H ⟨i, cp, pl, hi, hcp, hpl, rfl, rfl⟩
 have hpll : pl.length = i := by have := congrArg List.length hpl; simp at this; omega
 refine WA ?_
 refine aw_if rfl (fun hlt => ?_) (fun hge => ?_)
 ·obtain ⟨⟨r, a, b⟩, hli⟩ : ∃ e, LL[i]? = some e := ⟨_, List.getElem?_eq_getElem (by omega)⟩
  have hrow : (lnR LL)[i]? = some [I r, I a, I b] := by rw [List.getElem?_map, hli]; rfl
  obtain ⟨hb1, hb2, hb3⟩ := hbd _ (List.mem_of_getElem? hli)
  have hab := hba _ (List.mem_of_getElem? hli)
  simp only at hb1 hb2 hb3 hab
  have htk : LL.take (i + 1) = LL.take i ++ [(r, a, b)] := by rw [List.take_add_one, hli]; rfl
  refine WA ?_
  refine WR ?_
  refine al_ef rfl (ef_call0 false (fun _ => pathof_v va c (by omega) r a b q false hb1 hb2 hb3 hab) rfl .fn rfl (by decide) (by kernel_rfl) rfl (fun _ => C0 rfl) (by simp)) ?_
  rintro _ _ ⟨_, _, _, ⟨vp, rfl, rfl⟩, hF, hH⟩
  rw [if_neg (by simp)] at hF
  (refine NST hF hH ?_; clear hF hH; rintro rfl rfl)
  refine WO ?_
  refine al_ef rfl (Zapp (KA (t := 33) rfl)) ?_
  rintro _ _ ⟨_, cc, hcc, rfl, rfl⟩
  refine WE ?_
  refine WA ?_
  refine wk_of [some 0, some 1] (fun _ => [(1, .c (I q)), (4, .p 0 0 0), (9, .o 1 0 (pl ++ [((vp, ptsL c.st q (r, a, b), false) : Pth)]).length cc), (16, .c (.r lv (lnR LL))), (17, .c (I (lnR LL).length)), (18, .c (I (i + 1 : Nat)))]) (fun _ => [celB va c, .arr 54 2 cc (paR (pl ++ [((vp, ptsL c.st q (r, a, b), false) : Pth)]))]) (by decide) (ZNL hE) ZCF ZCH (fun _ => ?_)
  exact ⟨m - 1, by omega, i + 1, cc, pl ++ [((vp, ptsL c.st q (r, a, b), false) : Pth)], by omega, by simp at hcc ⊢; omega, by rw [List.map_append, hpl, htk, List.map_append]; rfl, rfl, rfl⟩
 obtain rfl : i = LL.length := by omega
 rw [List.take_length] at hpl
 refine ZZ ?_
 refine WA ?_
 exact aret_f1 [] _ rfl rfl rfl rfl (by rw [List.drop_zero, List.take_of_length_le (by simp)]) (by simp) rfl (by decide) (ZNK rfl) (fun _ => .nil) (fun q => ⟨q, pl, rfl, hpl, rfl⟩)
end Go.Proofs.YtfilfijammemfaaGreatDoor
