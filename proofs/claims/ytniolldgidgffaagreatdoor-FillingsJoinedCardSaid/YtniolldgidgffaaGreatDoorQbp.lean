/- The better direction of lines: the program's best, by value. -/
import Derived.Test.YtniolldgidgffaaGreatDoorQbo
import Derived.Test.YtniolldgidgffaaGreatDoorQao
import Derived.Test.YtniolldgidgffaaGreatDoorQbm
import Derived.Test.YtniolldgidgffaaGreatDoorQbk
import Derived.Test.YtniolldgidgffaaGreatDoorQbb
set_option linter.unusedSimpArgs false
set_option linter.unusedVariables false
/- The reference's lines in rows, by value: as those of the grid. -/
-- NEWM
namespace Go.Proofs.YtniolldgidgffaaGreatDoor
open Go Go.RowKit
set_option maxRecDepth 100000
abbrev trL (q : Int) (l : List Spot) : List Spot := l.map (trQ q)
theorem trL_in {q : Int} {l : List Spot} {p : Spot} : p ∈ trL q l ↔ trQ q p ∈ l := by
 rw [List.mem_map]
 constructor
 ·rintro ⟨a, h, rfl⟩; rw [trQ_tr]; exact h
 ·intro h; exact ⟨_, h, trQ_tr⟩
theorem trL_nodup {q : Int} {l : List Spot} (h : l.Nodup) : (trL q l).Nodup := by
 rw [List.nodup_iff_pairwise_ne, List.pairwise_map]
 exact h.imp fun {a b} hab e => hab (by rw [← trQ_tr (q := q) (p := a), e, trQ_tr])
set_option maxHeartbeats 4000000 in
theorem linesin0_v (va0 : Value) (c0 : Cel) (q ev ph : Int) (hc : RCel c0) (hev : 1 ≤ ev) (hph : -1000000 ≤ ph ∧ ph ≤ 1000000) (L : List Spot) (hLL : trL q (covL c0) = L) (hbd : ∀ p ∈ L, (-10000000 ≤ p.1 ∧ p.1 ≤ 10000000) ∧ (-10000000 ≤ p.2 ∧ p.2 ≤ 10000000)) (hend : ∀ r c : Int, -10000000 ≤ c → (∀ j : Int, c ≤ j → j ≤ c + 1000 → hasL L r j = true) → False) : ACalls Tryz.prog 78 [celA va0 c0, .c (I q), .c (I ev), .c (I ph)] [] fun u H => ∃ (v : Value) (l : List Lin), u = .c (.r v (lnR l)) ∧ (l.Perm (linL L L ev ph) ∧ l.Pairwise leL) ∧ H = [] := by
 have hpl : ACalls Tryz.prog 105 [celA va0 c0] [] fun u H => ∃ v, u = .c (.r v (sR (covL c0))) ∧ H = [] := by
  have h1 := hc.st
  have h2 := hc.far
  have h3 := hc.h
  have h4 := hc.w
  exact places_v va0 c0 (by omega) (by omega) (by omega) (by omega) (fun r hr => by rw [(hc.row r hr).1]; omega)
 have hlen : (covL c0).length ≤ 100000 := by
  have h3 := hc.h
  have h4 := hc.w
  have := hitC_len (x := c0.x.tdiv c0.st) (M := 200) (rs := c0.rows) (y := c0.y.tdiv c0.st) (fun r hr => by rw [(hc.row r hr).1]; exact h4)
  have h5 : c0.rows.length * 200 ≤ 200 * 200 := Nat.mul_le_mul_right _ h3
  unfold covL
  omega
 have hLn : L.length ≤ 100000 := by rw [← hLL]; simp; omega
 have hL9 : L.length ≤ 1000000000 := by omega
 generalize covL c0 = P0 at *
 have e1 : (sR P0).length = P0.length := by simp
 have e2 : (sR L).length = L.length := by simp
 refine acalls_of (N := 77) Tryz.func78 rfl rfl (by simp) fun E hE => ?_
 refine WA ?_
 refine WA ?_
 refine WR ?_
 refine al_ef rfl (ef_call0 false (fun _ => hpl) rfl .fn rfl (by decide) (by kernel_rfl) rfl (fun _ => C0 rfl) (by simp)) ?_
 rintro _ _ ⟨_, _, _, ⟨vp, rfl, rfl⟩, hF, hH⟩
 (refine NST hF hH ?_; clear hF hH; rintro rfl rfl)
 refine WE ?_
 refine aw_loopw (fun m F H => ∃ (k cp : Nat), m + k = P0.length ∧ F = [(1, .c (I q)), (2, .c (I ev)), (3, .c (I ph)), (9, .p 0 0 0), (18, .c (.r vp (sR P0))), (19, .c (I (sR P0).length)), (20, .c (I k))] ∧ H = [.box [.o 1 0 (trL q (P0.take k)).length cp], .arr 151 2 cp (sR (trL q (P0.take k)))]) ?_ ?_
 ·refine wk_of [some 1, none] (fun _ => [(1, .c (I q)), (2, .c (I ev)), (3, .c (I ph)), (9, .p 0 0 0), (18, .c (.r vp (sR P0))), (19, .c (I (sR P0).length)), (20, .c (I (0 : Nat)))]) (fun _ => [.box [.o 1 0 0 0], .arr 151 2 0 (sR [])]) (by decide) (ZNL hE) ZCF ZCH (fun _ => ?_)
  exact ⟨P0.length, 0, 0, by omega, rfl, rfl⟩
 rintro m F H ⟨k, cp, hk, rfl, rfl⟩
 refine WA ?_
 refine aw_if rfl (fun hlt => ?_) (fun hge => ?_)
 ·obtain ⟨⟨x, y⟩, hx⟩ : ∃ e, P0[k]? = some e := ⟨_, List.getElem?_eq_getElem (by omega)⟩
  have hrow : (sR P0)[k]? = some [I x, I y] := by rw [List.getElem?_map, hx]; rfl
  have htk : trL q (P0.take (k + 1)) = trL q (P0.take k) ++ [trQ q (x, y)] := by rw [List.take_add_one, hx]; simp
  have hle : (trL q (P0.take k)).length ≤ 1000000 := by simp; omega
  generalize trL q (P0.take k) = A at *
  refine WA ?_
  refine ZZ ?_
  refine aw_regionT [(0, none), (1, none), (2, none), (3, some [0]), (4, some [0]), (5, some []), (6, some [])] hMixed (by kernel_rfl) ?_
  refine WP ?_
  refine at_ef rfl rfl (ef_call0 false (fun _ => turned_v (x, y) q) rfl .fn rfl (by decide) (by kernel_rfl) rfl (fun _ => C0 rfl) (by simp)) ?_
  rintro _ _ ⟨_, _, _, ⟨rfl, rfl⟩, hF, hH⟩
  (refine NST hF hH ?_; clear hF hH; rintro rfl rfl)
  refine ⟨ag_cons (by first | exact ag_rd rfl rfl rfl (ZL (KK (t := 155) rfl)) rfl) (ag_none), ?_⟩
  refine WP ?_
  refine at_ef rfl rfl (Zapp (KA (t := 155) rfl)) ?_
  rintro _ _ ⟨_, cc, hcc, rfl, rfl⟩
  refine ⟨ag_none, ?_⟩
  refine WQ ?_
  all_goals (
   refine WA ?_
   refine wk_of [some 0, some 1] (fun _ => [(1, .c (I q)), (2, .c (I ev)), (3, .c (I ph)), (9, .p 0 0 0), (18, .c (.r vp (sR P0))), (19, .c (I (sR P0).length)), (20, .c (I (k + 1 : Nat)))]) (fun _ => [.box [.o 1 0 (A ++ [trQ q (x, y)]).length cc], .arr 151 2 cc (sR (A ++ [trQ q (x, y)]))]) (by decide) (ZNL hE) ZCF ZCH (fun _ => ?_)
   exact ⟨m - 1, by omega, k + 1, cc, by omega, rfl, by rw [htk]⟩)
 obtain rfl : k = P0.length := by omega
 rw [List.take_length, hLL]
 refine ZZ ?_
 refine aw_wk (wk_of (K := fun F H => ∃ pv va, F = [(2, .c (I ev)), (3, .c (I ph)), (9, .c (.p pv [.r va (sR L)]))] ∧ H = []) [] (fun g => [(2, .c (I ev)), (3, .c (I ph)), (9, .c (.p (g (.p 0 0 0)) [.r (g (.o 1 0 L.length cp)) (sR L)]))]) (fun _ => []) (by decide) (ZNL hE) (fun _ => .cons rfl (.c rfl) (.cons rfl (.c rfl) (.cons rfl (frzpL rfl rfl (.cons (.frz (b := 1) rfl rfl (by rw [List.drop_zero, List.take_of_length_le (by simp)]) (by simp) rfl) .nil)) .nil))) ZCH (fun _ => ⟨_, _, rfl, rfl⟩)) ?_
 rintro F H ⟨pv, va, rfl, rfl⟩
 refine WA ?_
 refine WA ?_
 refine ZR ?_
 refine ZA (rd_ldcp rfl (by kernel_rfl) rfl rfl) ?_
 refine WE ?_
 have hsn : ∀ (k : Nat) p, L[k]? = some p → linL L (L.take (k + 1)) ev ph = linL L (L.take k) ev ph ++ (if begL L ev ph p = true then [(p.2, p.1, rE (hasL L p.2) 1000 p.1)] else []) := fun k p h => by rw [List.take_add_one, h]; exact linL_snoc
 have hln : ∀ k : Nat, (linL L (L.take k) ev ph).length ≤ k := fun k => by
  unfold linL
  rw [List.length_map]
  exact Nat.le_trans (List.length_filter_le _ _) (by rw [List.length_take]; omega)
 refine aw_loopw (fun m F H => ∃ (k cp : Nat), m + k = L.length ∧ F = [(2, .c (I ev)), (3, .c (I ph)), (12, .f (.func 148) [.c (.p pv [.r va (sR L)])]), (13, .o 0 0 (linL L (L.take k) ev ph).length cp), (32, .c (.r va (sR L))), (33, .c (I (sR L).length)), (34, .c (I k))] ∧ H = [.arr 128 3 cp (lnR (linL L (L.take k) ev ph))]) ?_ ?_
 ·refine wk_of [none] (fun _ => [(2, .c (I ev)), (3, .c (I ph)), (12, .f (.func 148) [.c (.p pv [.r va (sR L)])]), (13, .o 0 0 0 0), (32, .c (.r va (sR L))), (33, .c (I (sR L).length)), (34, .c (I (0 : Nat)))]) (fun _ => [.arr 128 3 0 (lnR [])]) (by decide) (ZNL hE) ZCF ZCH (fun _ => ?_)
  exact ⟨L.length, 0, 0, by omega, rfl, rfl⟩
 clear cp
 rintro m F H ⟨k, cp, hk, rfl, rfl⟩
 have hlnk := hln k
 have hsnk := hsn k
 generalize hA : linL L (L.take k) ev ph = A at *
 refine WA ?_
 refine aw_if rfl (fun hlt => ?_) (fun hge => ?_)
 ·obtain ⟨⟨c, r⟩, hx⟩ : ∃ e, L[k]? = some e := ⟨_, List.getElem?_eq_getElem (by omega)⟩
  have hrow : (sR L)[k]? = some [I c, I r] := by rw [List.getElem?_map, hx]; rfl
  have hsk := hsnk _ hx
  have hcr := hbd _ (List.mem_of_getElem? hx)
  simp only at hcr hsk
  obtain ⟨rm, hrm⟩ : ∃ z, (r - ph).tmod ev = z := ⟨_, rfl⟩
  obtain ⟨b, hb⟩ : ∃ b, hasL L r (c - 1) = b := ⟨_, rfl⟩
  have hbg : begL L ev ph (c, r) = (decide (rm = 0) && !b) := by rw [← hrm, ← hb]; rfl
  rw [hbg] at hsk
  clear hsnk hsn hln
  refine WA ?_
  by_cases h0 : rm = 0
  ·rw [decide_eq_true h0, Bool.true_and] at hsk
   cases b with
   | true =>
    rw [if_neg (by simp), List.append_nil] at hsk
    refine ZR ?_
    iterate 5 refine WX1 ?_
    refine ZA (rd_remq hrm rfl rfl rfl (by omega)) ?_
    refine WO ?_
    first | refine ZS ?_ | (refine G1 rfl ?_; refine al_ef rfl (ef_call0 false (fun _ => hasl_v (c - 1) r pv va L hL9) rfl (.clo rfl) rfl (by decide) (by kernel_rfl) rfl (fun _ => C0 rfl) (by simp)) ?_; rintro _ _ ⟨_, _, _, ⟨rfl, rfl⟩, hF, hH⟩; rw [hb] at hF; (refine NST hF hH ?_; clear hF hH; rintro rfl rfl)) | skip
    refine WE ?_
    refine aw_cond_t rfl ?_
    refine WA ?_
    refine wk_of [some 0] (fun _ => [(2, .c (I ev)), (3, .c (I ph)), (12, .f (.func 148) [.c (.p pv [.r va (sR L)])]), (13, .o 0 0 (A).length cp), (32, .c (.r va (sR L))), (33, .c (I (sR L).length)), (34, .c (I (k + 1 : Nat)))]) (fun _ => [.arr 128 3 cp (lnR (A))]) (by decide) (ZNL hE) ZCF ZCH (fun _ => ?_)
    exact ⟨m - 1, by omega, k + 1, cp, by omega, by rw [hsk], by rw [hsk]⟩
   | false =>
    rw [if_pos (show (!false) = true from rfl)] at hsk
    refine ZR ?_
    iterate 5 refine WX1 ?_
    refine ZA (rd_remq hrm rfl rfl rfl (by omega)) ?_
    refine WO ?_
    first | refine ZS ?_ | (refine G1 rfl ?_; refine al_ef rfl (ef_call0 false (fun _ => hasl_v (c - 1) r pv va L hL9) rfl (.clo rfl) rfl (by decide) (by kernel_rfl) rfl (fun _ => C0 rfl) (by simp)) ?_; rintro _ _ ⟨_, _, _, ⟨rfl, rfl⟩, hF, hH⟩; rw [hb] at hF; (refine NST hF hH ?_; clear hF hH; rintro rfl rfl)) | skip
    refine WE ?_
    refine aw_cond_f rfl ?_
    refine ZZ ?_
    refine WA ?_
    have hen := hend r c (by omega)
    generalize hEE : rE (hasL L r) 1000 c = EE at *
    refine aw_loopw (fun m3 F H => ∃ (c2 : Int), c ≤ c2 ∧ c2 + m3 = c + 1000 ∧ (∀ j : Int, c < j → j ≤ c2 → hasL L r j = true) ∧ rE (hasL L r) m3 c2 = EE ∧ F = [(2, .c (I ev)), (3, .c (I ph)), (12, .f (.func 148) [.c (.p pv [.r va (sR L)])]), (13, .o 0 0 A.length cp), (15, .p 1 0 0), (16, .c (I c2)), (32, .c (.r va (sR L))), (33, .c (I (sR L).length)), (34, .c (I k))] ∧ H = [.arr 128 3 cp (lnR A), .box [.c (I c), .c (I r)]]) ?_ ?_
    ·refine wk_of [some 0, some 1] (fun _ => [(2, .c (I ev)), (3, .c (I ph)), (12, .f (.func 148) [.c (.p pv [.r va (sR L)])]), (13, .o 0 0 (A).length cp), (15, .p 1 0 0), (16, .c (I (c))), (32, .c (.r va (sR L))), (33, .c (I (sR L).length)), (34, .c (I k))]) (fun _ => [.arr 128 3 cp (lnR (A)), .box [.c (I c), .c (I r)]]) (by decide) (ZNL hE) ZCF ZCH (fun _ => ?_)
     exact ⟨1000, c, by omega, by omega, fun j h1 h2 => by omega, hEE, rfl, rfl⟩
    rintro m3 F H ⟨c2, hc1, hc2, hc3, hc4, rfl, rfl⟩
    obtain ⟨b2, hb2⟩ : ∃ b, hasL L r (c2 + 1) = b := ⟨_, rfl⟩
    refine WR ?_
    refine al_ef rfl (ef_call0 false (fun _ => hasl_v (c2 + 1) r pv va L hL9) rfl (.clo rfl) rfl (by decide) (by kernel_rfl) rfl (fun _ => C0 rfl) (by simp)) ?_
    rintro _ _ ⟨_, _, _, ⟨rfl, rfl⟩, hF, hH⟩
    rw [hb2] at hF
    (refine NST hF hH ?_; clear hF hH; rintro rfl rfl)
    refine WE ?_
    cases b2 with
    | true =>
     obtain ⟨m3, rfl⟩ : ∃ z, m3 = z + 1 := by
      cases m3 with
      | succ m3 => exact ⟨m3, rfl⟩
      | zero =>
       exfalso
       refine hen fun j h1 h2 => ?_
       by_cases ej : j = c
       ·rw [ej]
        have : (c, r) ∈ L := List.mem_of_getElem? hx
        simpa using this
       ·exact hc3 j (by omega) (by omega)
     rw [rE, if_pos hb2] at hc4
     refine aw_cond_t rfl ?_
     refine WA ?_
     refine wk_of [some 0, some 1] (fun _ => [(2, .c (I ev)), (3, .c (I ph)), (12, .f (.func 148) [.c (.p pv [.r va (sR L)])]), (13, .o 0 0 (A).length cp), (15, .p 1 0 0), (16, .c (I (c2 + 1))), (32, .c (.r va (sR L))), (33, .c (I (sR L).length)), (34, .c (I k))]) (fun _ => [.arr 128 3 cp (lnR (A)), .box [.c (I c), .c (I r)]]) (by decide) (ZNL hE) ZCF ZCH (fun _ => ?_)
     refine ⟨m3, by omega, c2 + 1, by omega, by omega, fun j h1 h2 => ?_, hc4, rfl, rfl⟩
     by_cases ej : j = c2 + 1
     ·rw [ej]; exact hb2
     ·exact hc3 j h1 (by omega)
    | false =>
     obtain rfl : c2 = EE := by
      cases m3 with
      | zero => exact hc4
      | succ m3 => rw [rE, if_neg (by rw [hb2]; simp)] at hc4; exact hc4
     refine aw_cond_f rfl ?_
     refine ZZ ?_
     refine WR ?_
     refine al_ef rfl (Zapp (KA (t := 125) rfl)) ?_
     rintro _ _ ⟨_, cc, hcc, rfl, rfl⟩
     refine WE ?_
     refine WA ?_
     refine wk_of [some 0] (fun _ => [(2, .c (I ev)), (3, .c (I ph)), (12, .f (.func 148) [.c (.p pv [.r va (sR L)])]), (13, .o 0 0 (A ++ [(r, c, c2)]).length cc), (32, .c (.r va (sR L))), (33, .c (I (sR L).length)), (34, .c (I (k + 1 : Nat)))]) (fun _ => [.arr 128 3 cc (lnR (A ++ [(r, c, c2)]))]) (by decide) (ZNL hE) ZCF ZCH (fun _ => ?_)
     exact ⟨m - 1, by omega, k + 1, cc, by omega, by rw [hsk], by rw [hsk]⟩
  ·rw [decide_eq_false h0, Bool.false_and, if_neg (by simp), List.append_nil] at hsk
   refine ZR ?_
   iterate 5 refine WX1 ?_
   refine ZA (rd_remq hrm rfl rfl rfl (by omega)) ?_
   refine WO ?_
   first | refine ZS ?_ | (refine G1 rfl ?_; refine al_ef rfl (ef_call0 false (fun _ => hasl_v (c - 1) r pv va L hL9) rfl (.clo rfl) rfl (by decide) (by kernel_rfl) rfl (fun _ => C0 rfl) (by simp)) ?_; rintro _ _ ⟨_, _, _, ⟨rfl, rfl⟩, hF, hH⟩; rw [hb] at hF; (refine NST hF hH ?_; clear hF hH; rintro rfl rfl)) | skip
   refine WE ?_
   refine aw_cond_t rfl ?_
   refine WA ?_
   refine wk_of [some 0] (fun _ => [(2, .c (I ev)), (3, .c (I ph)), (12, .f (.func 148) [.c (.p pv [.r va (sR L)])]), (13, .o 0 0 (A).length cp), (32, .c (.r va (sR L))), (33, .c (I (sR L).length)), (34, .c (I (k + 1 : Nat)))]) (fun _ => [.arr 128 3 cp (lnR (A))]) (by decide) (ZNL hE) ZCF ZCH (fun _ => ?_)
   exact ⟨m - 1, by omega, k + 1, cp, by omega, by rw [hsk], by rw [hsk]⟩
 obtain rfl : k = L.length := by omega
 rw [List.take_length] at hA
 rw [hA]
 refine ZZ ?_
 refine WR ?_
 refine al_ef rfl (ef_callp [0] (fun _ => [.arr 128 3 cp (lnR A)]) false (fun _ => sortLn_v A cp (by omega)) rfl .fn rfl (by decide) (by kernel_rfl) rfl ZCH (by decide) ZCH (by simp)) ?_
 rintro F1 H1 ⟨_, _, _, _, ⟨l', ⟨hlp, hls⟩, rfl, rfl⟩, hF, hH⟩
 rw [killF_nil] at hF; (refine NSU hF hH ?_; clear hF hH; rintro rfl rfl)
 refine WE ?_
 have hll' : l'.length = A.length := hlp.length_eq
 refine WA ?_
 exact aret_f1 [] _ rfl rfl rfl rfl (by rw [List.drop_zero, List.take_of_length_le (by simp; omega)]) (by simp; omega) rfl (by decide) (ZNK rfl) (fun _ => .nil) (fun q => ⟨q, l', rfl, ⟨hlp, hls⟩, rfl⟩)
end Go.Proofs.YtniolldgidgffaaGreatDoor

/- Lists turned round; rows of lists: plain. -/
namespace Go.Proofs.YtniolldgidgffaaGreatDoor
open Go Go.RowKit
def SwK {α : Type} (l : List α) (k : Nat) (l' : List α) : Prop := l'.length = l.length ∧ ∀ m, m < l.length → l'[m]? = if m < k ∨ l.length - 1 - m < k then l[l.length - 1 - m]? else l[m]?
theorem SwK.zero {α : Type} (l : List α) : SwK l 0 l := ⟨rfl, fun m hm => by rw [if_neg (by omega)]⟩
theorem SwK.next {α : Type} {l l' : List α} {k j : Nat} {x y : α} (h : SwK l k l') (hj : k + j + 1 = l.length) (hkj : k < j) (hx : l'[k]? = some x) (hy : l'[j]? = some y) : SwK l (k + 1) ((l'.set k y).set j x) := by
 obtain ⟨h1, h2⟩ := h
 have ek := h2 k (by omega)
 have ej := h2 j (by omega)
 rw [if_neg (by omega), hx] at ek
 rw [if_neg (by omega), hy] at ej
 refine ⟨by simp [h1], fun m hm => ?_⟩
 rw [List.getElem?_set, List.getElem?_set]
 by_cases hmj : j = m
 ·subst hmj
  rw [if_pos rfl, if_pos (by simp; omega), if_pos (by omega), show l.length - 1 - j = k from by omega, ← ek]
 ·rw [if_neg hmj]
  by_cases hmk : k = m
  ·subst hmk
   rw [if_pos rfl, if_pos (by omega), if_pos (by omega), show l.length - 1 - k = j from by omega, ← ej]
  ·rw [if_neg hmk, h2 m hm]
   by_cases hc : m < k ∨ l.length - 1 - m < k
   ·rw [if_pos hc, if_pos (by omega)]
   ·rw [if_neg hc, if_neg (by omega)]
theorem SwK.fin {α : Type} {l l' : List α} {k : Nat} (h : SwK l k l') (hkj : l.length ≤ 2 * k + 1) : l' = l.reverse := by
 obtain ⟨h1, h2⟩ := h
 refine List.ext_getElem? fun m => ?_
 rcases Nat.lt_or_ge m l.length with hm | hm
 ·rw [List.getElem?_reverse hm, h2 m hm]
  by_cases hc : m < k ∨ l.length - 1 - m < k
  ·rw [if_pos hc]
  ·rw [if_neg hc, show l.length - 1 - m = m from by omega]
 ·rw [List.getElem?_eq_none (by omega), List.getElem?_eq_none (by simp; omega)]
end Go.Proofs.YtniolldgidgffaaGreatDoor

/- The reference's LinesOf, by value: paths of lines. -/
-- NEWM
namespace Go.Proofs.YtniolldgidgffaaGreatDoor
open Go Go.RowKit
set_option maxRecDepth 100000
theorem linesin_v (va : Value) (c : Cel) (q ev ph : Int) (hc : RCel c) (hev : 1 ≤ ev) (hph : -1000000 ≤ ph ∧ ph ≤ 1000000) : ACalls Tryz.prog 78 [celA va c, .c (I q), .c (I ev), .c (I ph)] [] fun u H => ∃ (v : Value), u = .c (.r v (lnR (linG (grdOf c) q ev ph))) ∧ H = [] := by
 have hg := grdOf_ok hc
 have hin : ∀ p ∈ covL c, (-10000000 ≤ p.1 ∧ p.1 ≤ 10000000) ∧ (-10000000 ≤ p.2 ∧ p.2 ≤ 10000000) := fun p hp => by
  have h1 := covL_in hc hp
  have h2 := hc.far
  have h3 := hc.st
  have h4 := hc.h
  have h5 := hc.w
  have e1 := Int.mul_tdiv_add_tmod c.x c.st
  have e2 := Int.mul_tdiv_add_tmod c.y c.st
  have b1 : (c.x.tdiv c.st).natAbs ≤ 2000000 := by rw [Int.natAbs_tdiv]; exact Nat.le_trans (Nat.div_le_self _ _) (by omega)
  have b2 : (c.y.tdiv c.st).natAbs ≤ 2000000 := by rw [Int.natAbs_tdiv]; exact Nat.le_trans (Nat.div_le_self _ _) (by omega)
  omega
 refine (linesin0_v va c q ev ph hc hev hph _ rfl (fun p hp => ?_) (fun r k h1 h2 => ?_)).mono fun u H hq => ?_
 ·rw [trL_in] at hp
  have := hin _ hp
  unfold trQ at this
  split at this <;> (try simp only at this) <;> omega
 ·have m1 := h2 k (by omega) (by omega)
  have m2 := h2 (k + 1000) (by omega) (by omega)
  rw [decide_eq_true_iff, trL_in] at m1 m2
  have i1 := covL_in hc m1
  have i2 := covL_in hc m2
  have h4 := hc.h
  have h5 := hc.w
  unfold trQ at i1 i2
  split at i1 <;> rename_i e
  ·rw [if_pos e] at i2; simp only at i1 i2; omega
  ·rw [if_neg e] at i2; (try simp only at i1 i2); omega
 ·obtain ⟨v, l, h1, ⟨h2, h3⟩, h4⟩ := hq
  have hw : wQ (grdOf c) q ≤ 999 := by have := (grd_wh hc q).1; omega
  rw [linG_is (grdOf_len hc) hw (L := trL q (covL c)) (fun p => by rw [trL_in, grdOf_cov hc]) (trL_nodup covL_nodup) h2 h3] at h1
  exact ⟨v, h1, h4⟩
theorem lin_ab {g : Grd} {q ev ph : Int} {l : Lin} (h : l ∈ linG g q ev ph) : l.2.1 ≤ l.2.2 := by
 obtain ⟨i, _, _, h2⟩ := lnS_mem.1 h
 obtain ⟨k, _, _, _, rfl⟩ := lnC_mem.1 h2
 exact rE_spec.1
end Go.Proofs.YtniolldgidgffaaGreatDoor

/- The better direction of lines: the program's best, by value. -/
-- NEWM
namespace Go.Proofs.YtniolldgidgffaaGreatDoor
open Go Go.RowKit
set_option maxRecDepth 100000
def lenL (l : Lin) : Int := l.2.2 - l.2.1
def lngL (l : List Lin) : Int := l.foldl (fun n x => max n (x.2.2 - x.2.1 + 1)) 0
theorem lngL_snoc {l : List Lin} {x : Lin} : lngL (l ++ [x]) = max (lngL l) (x.2.2 - x.2.1 + 1) := by unfold lngL; rw [List.foldl_append]; rfl
theorem lngL_ge {x : Lin} : ∀ {n : Nat} {l : List Lin}, l.length = n → 0 ≤ lngL l ∧ (x ∈ l → lenL x + 1 ≤ lngL l)
 | 0, l, hn => by rw [List.eq_nil_of_length_eq_zero hn]; exact ⟨Int.le_refl _, fun h => (by cases h)⟩
 | n + 1, l, hn => by
  obtain ⟨A, z, rfl⟩ : ∃ A z, l = A ++ [z] := by
   rcases List.eq_nil_or_concat l with h | ⟨B, p, h⟩
   ·subst h; simp at hn
   ·exact ⟨B, p, by rw [h, List.concat_eq_append]⟩
  obtain ⟨h1, h2⟩ := lngL_ge (x := x) (n := n) (l := A) (by simpa using hn)
  rw [lngL_snoc]
  refine ⟨by omega, fun h => ?_⟩
  rcases List.mem_append.1 h with h | h
  ·have := h2 h; omega
  ·rw [← List.mem_singleton.1 h]; unfold lenL; omega
theorem lngL_le {M : Int} : ∀ {n : Nat} {l : List Lin}, l.length = n → 0 ≤ M → (∀ x ∈ l, lenL x + 1 ≤ M) → lngL l ≤ M
 | 0, l, hn, h0, _ => by rw [List.eq_nil_of_length_eq_zero hn]; exact h0
 | n + 1, l, hn, h0, h => by
  obtain ⟨A, z, rfl⟩ : ∃ A z, l = A ++ [z] := by
   rcases List.eq_nil_or_concat l with h | ⟨B, p, h⟩
   ·subst h; simp at hn
   ·exact ⟨B, p, by rw [h, List.concat_eq_append]⟩
  have h1 := lngL_le (n := n) (l := A) (by simpa using hn) h0 fun x hx => h x (List.mem_append_left _ hx)
  have h2 := h z (by simp)
  rw [lngL_snoc]
  unfold lenL at h2
  omega
theorem lngL_is {l : List Lin} {m : Lin} (hm : m ∈ l) (h0 : 0 ≤ lenL m) (h : ∀ x ∈ l, lenL x ≤ lenL m) : lngL l = lenL m + 1 := by
 have h1 := (lngL_ge (x := m) (l := l) rfl).2 hm
 have h2 := lngL_le (l := l) (M := lenL m + 1) rfl (by omega) fun x hx => by have := h x hx; omega
 omega
def longQ (c : Cel) (q : Int) : Int := lngL (linG (grdOf c) q 1 0)
def bestF (c : Cel) : Int × Int := if longQ c 1 < longQ c 0 then (1, longQ c 1) else (0, longQ c 0)
theorem lin_ne {c : Cel} (hc : RCel c) (hne : covL c ≠ []) (q : Int) : linG (grdOf c) q 1 0 ≠ [] := by
 have hT : trL q (covL c) ≠ [] := by simpa using hne
 obtain ⟨⟨p, hp, e⟩, _⟩ := x0_at hT
 have hw : wQ (grdOf c) q ≤ 999 := by have := (grd_wh hc q).1; omega
 intro h0
 have hmem : (p.2, p.1, rE (hasL (trL q (covL c)) p.2) 1000 p.1) ∈ linL (trL q (covL c)) (trL q (covL c)) 1 0 := by
  refine linL_mem.2 ⟨p, hp, ?_, rfl⟩
  unfold begL
  simp only [Int.sub_zero, Int.tmod_one, decide_true, Bool.true_and, Bool.not_eq_true', decide_eq_false_iff_not]
  intro h
  have := x0_le h
  simp only at this
  omega
 rw [← linG_mem (grdOf_len hc) hw (fun p => by rw [trL_in, grdOf_cov hc]), h0] at hmem
 cases hmem
theorem best1_v (a b : Lin) (ha : (-20000000 ≤ a.2.1 ∧ a.2.1 ≤ 20000000) ∧ (-20000000 ≤ a.2.2 ∧ a.2.2 ≤ 20000000)) (hb : (-20000000 ≤ b.2.1 ∧ b.2.1 ≤ 20000000) ∧ (-20000000 ≤ b.2.2 ∧ b.2.2 ≤ 20000000)) : ACalls Tryz.prog 172 [.a [.c (I a.1), .c (I a.2.1), .c (I a.2.2)], .a [.c (I b.1), .c (I b.2.1), .c (I b.2.2)]] [] fun u H => u = .c (I (cmpI (lenL a) (lenL b))) ∧ H = [] := by
 obtain ⟨a1, a2, a3⟩ := a
 obtain ⟨b1, b2, b3⟩ := b
 simp only at ha hb
 unfold lenL
 refine acalls_of (N := 16) Tryz.func172 rfl rfl (by simp) fun E hE => ?_
 refine WA ?_
 refine WR ?_
 refine al_ef rfl (ef_call0 false (fun _ => cmpI_v (a3 - a2) (b3 - b2)) rfl .fn rfl (by decide) (by kernel_rfl) rfl (fun _g => .cons (.c rfl) (.cons (.c rfl) .nil)) (by simp)) ?_
 rintro _ _ ⟨_, _, _, ⟨rfl, rfl⟩, hF, hH⟩
 (refine NST hF hH ?_; clear hF hH; rintro rfl rfl)
 refine WE ?_
 exact aret_1 [] _ rfl rfl rfl (by decide) (ZNK rfl) (fun _ => .nil) ⟨rfl, rfl⟩
set_option maxHeartbeats 2000000 in
theorem maxfunc_v (l : List Lin) (v : Value) (hl : l.length ≤ 1000000) (hne : l ≠ []) (hb : ∀ x ∈ l, (-20000000 ≤ x.2.1 ∧ x.2.1 ≤ 20000000) ∧ (-20000000 ≤ x.2.2 ∧ x.2.2 ≤ 20000000)) : ACalls Tryz.prog 171 [.c (.r v (lnR l)), .f (.func 172) []] [] fun u H => ∃ m : Lin, u = .a [.c (I m.1), .c (I m.2.1), .c (I m.2.2)] ∧ (m ∈ l ∧ ∀ x ∈ l, lenL x ≤ lenL m) ∧ H = [] := by
 have e1 : (lnR l).length = l.length := by simp
 have hpos : 0 < l.length := List.length_pos_iff.2 hne
 have hlt1 : ¬ ((lnR l).length : Int) < 1 := by omega
 obtain ⟨⟨r0, a0, b0⟩, hx0⟩ : ∃ e, l[0]? = some e := ⟨_, List.getElem?_eq_getElem hpos⟩
 have hrow0 : (lnR l)[0]? = some [I r0, I a0, I b0] := by rw [List.getElem?_map, hx0]; rfl
 refine acalls_of (N := 33) Tryz.func171 rfl rfl (by simp) fun E hE => ?_
 refine WA ?_
 refine WA ?_
 refine aw_cond_f rfl ?_
 refine ZZ ?_
 refine WA ?_
 refine WA ?_
 refine aw_loopw (fun q F H => ∃ (i : Nat) (m : Lin), q + i = l.length ∧ 1 ≤ i ∧ m ∈ l ∧ (∀ x ∈ l.take i, lenL x ≤ lenL m) ∧ F = [(0, .c (.r v (lnR l))), (1, .f (.func 172) []), (4, .p 0 0 0), (5, .p 1 0 0), (6, .c (I i))] ∧ H = [.box [.c (I 0), .c (I 0), .c (I 0)], .box [.c (I m.1), .c (I m.2.1), .c (I m.2.2)]]) ?_ ?_
 ·refine wk_of [some 0, some 1] (fun _ => [(0, .c (.r v (lnR l))), (1, .f (.func 172) []), (4, .p 0 0 0), (5, .p 1 0 0), (6, .c (I (1 : Nat)))]) (fun _ => [.box [.c (I 0), .c (I 0), .c (I 0)], .box [.c (I r0), .c (I a0), .c (I b0)]]) (by decide) (ZNL hE) ZCF ZCH (fun _ => ?_)
  refine ⟨l.length - 1, 1, (r0, a0, b0), by omega, by omega, List.mem_of_getElem? hx0, fun x hx => ?_, rfl, rfl⟩
  rw [List.take_add_one, hx0] at hx
  simp at hx
  rw [hx]; exact Int.le_refl _
 rintro q F H ⟨i, ⟨mr, ma, mb⟩, hq, hi1, hm, hmx, rfl, rfl⟩
 have hmb := hb _ hm
 simp only at hmb
 refine WA ?_
 refine aw_if rfl (fun hlt => ?_) (fun hge => ?_)
 ·obtain ⟨⟨r, a, b⟩, hx⟩ : ∃ e, l[i]? = some e := ⟨_, List.getElem?_eq_getElem (by omega)⟩
  have hrow : (lnR l)[i]? = some [I r, I a, I b] := by rw [List.getElem?_map, hx]; rfl
  have hxb := hb _ (List.mem_of_getElem? hx)
  have hcl := @cmpN_lt (lenL (mr, ma, mb)) (lenL (r, a, b))
  have hcg : 0 < cmpI (lenL (r, a, b)) (lenL (mr, ma, mb)) ↔ lenL (mr, ma, mb) < lenL (r, a, b) := by unfold cmpI; split <;> (try split) <;> omega
  have htk : ∀ x ∈ l.take (i + 1), x ∈ l.take i ∨ x = (r, a, b) := fun x hx2 => by
   rw [List.take_add_one, hx] at hx2
   simpa using hx2
  obtain ⟨z, hz⟩ : ∃ z, cmpI (lenL (r, a, b)) (lenL (mr, ma, mb)) = z := ⟨_, rfl⟩
  rw [hz] at hcg
  refine ZZ ?_
  refine aw_regionT [(0, none), (1, none), (2, none), (3, none), (4, none), (5, none), (6, some []), (7, none)] hMixed (by kernel_rfl) ?_
  refine WP ?_
  refine at_ef rfl rfl (ef_call0 false (fun _ => best1_v (r, a, b) (mr, ma, mb) hxb hmb) rfl (.clo rfl) rfl (by decide) (by kernel_rfl) rfl (fun _g => .cons (.aL (C0 rfl)) (.cons (.aL (C0 rfl)) .nil)) (by simp)) ?_
  rintro _ _ ⟨_, _, _, ⟨rfl, rfl⟩, hF, hH⟩
  rw [hz] at hF
  (refine NST hF hH ?_; clear hF hH; rintro rfl rfl)
  refine ⟨ag_none, ?_⟩
  refine WQ ?_
  refine aw_if rfl (fun hgt => ?_) (fun hgt => ?_)
  ·have hgt2 := hcg.1 (by omega)
   refine WA ?_
   refine WA ?_
   refine wk_of [some 0, some 1] (fun _ => [(0, .c (.r v (lnR l))), (1, .f (.func 172) []), (4, .p 0 0 0), (5, .p 1 0 0), (6, .c (I (i + 1 : Nat)))]) (fun _ => [.box [.c (I 0), .c (I 0), .c (I 0)], .box [.c (I r), .c (I a), .c (I b)]]) (by decide) (ZNL hE) ZCF ZCH (fun _ => ?_)
   refine ⟨q - 1, by omega, i + 1, (r, a, b), by omega, by omega, List.mem_of_getElem? hx, fun x hx2 => ?_, rfl, rfl⟩
   rcases htk x hx2 with h | h
   ·have := hmx x h; omega
   ·rw [h]; exact Int.le_refl _
  ·have hgt2 : lenL (r, a, b) ≤ lenL (mr, ma, mb) := by
    by_cases h : lenL (mr, ma, mb) < lenL (r, a, b)
    ·have := hcg.2 h; omega
    ·omega
   refine ZZ ?_
   refine WA ?_
   refine wk_of [some 0, some 1] (fun _ => [(0, .c (.r v (lnR l))), (1, .f (.func 172) []), (4, .p 0 0 0), (5, .p 1 0 0), (6, .c (I (i + 1 : Nat)))]) (fun _ => [.box [.c (I 0), .c (I 0), .c (I 0)], .box [.c (I mr), .c (I ma), .c (I mb)]]) (by decide) (ZNL hE) ZCF ZCH (fun _ => ?_)
   refine ⟨q - 1, by omega, i + 1, (mr, ma, mb), by omega, by omega, hm, fun x hx2 => ?_, rfl, rfl⟩
   rcases htk x hx2 with h | h
   ·exact hmx x h
   ·rw [h]; exact hgt2
 rw [List.take_of_length_le (by omega)] at hmx
 refine ZZ ?_
 refine WA ?_
 exact aret_a [] _ rfl (KK (t := 102) rfl) rfl (Cells.box rfl) (by first | (simp; done) | exact Nat.le_refl 3) (by (try simp only [nm, putL, Nat.reduceAdd, cellsOf, cvOf]) <;> rfl) (by decide) (ZNK rfl) (fun _ => C0 rfl) (fun _ => .nil) ⟨(mr, ma, mb), rfl, ⟨hm, hmx⟩, rfl⟩
set_option maxHeartbeats 2000000 in
theorem best_v (va : Value) (c : Cel) (hc : RCel c) (hne : covL c ≠ []) : ACalls Tryz.prog 111 [celA va c] [] fun u H => u = .t [.c (I (bestF c).1), .c (I (bestF c).2)] ∧ H = [] := by
 have hg := grdOf_ok hc
 have hll := fun q => lin_len hc q 1 0
 have hbf : bestF c = if longQ c 1 < longQ c 0 then (1, longQ c 1) else (0, longQ c 0) := rfl
 rw [hbf]
 refine acalls_of (N := 38) Tryz.func111 rfl rfl (by simp) fun E hE => ?_
 refine WA ?_
 refine WR ?_
 refine al_ef rfl (ef_call0 false (fun _ => gridof_v va c hc) rfl .fn rfl (by decide) (by kernel_rfl) rfl (fun _ => C0 rfl) (by simp)) ?_
 rintro _ _ ⟨_, _, _, ⟨pg, vg, rfl, rfl⟩, hF, hH⟩
 (refine NST hF hH ?_; clear hF hH; rintro rfl rfl)
 refine WE ?_
 refine WA ?_
 refine WA ?_
 refine aw_loopw (fun m F H => ∃ (j : Nat) (x y : Int), m + j = 2 ∧ ((j = 0 ∧ x = 0 ∧ y = 0) ∨ (j = 1 ∧ x = longQ c 0 ∧ y = 0) ∨ (j = 2 ∧ x = longQ c 0 ∧ y = longQ c 1)) ∧ F = [(4, gV pg vg (grdOf c)), (5, .p 0 0 0), (11, .c (I j))] ∧ H = [.box [.c (I x), .c (I y)]]) ?_ ?_
 ·refine wk_of [some 1] (fun _ => [(4, gV pg vg (grdOf c)), (5, .p 0 0 0), (11, .c (I (0 : Nat)))]) (fun _ => [.box [.c (I 0), .c (I 0)]]) (by decide) (ZNL hE) ZCF ZCH (fun _ => ?_)
  exact ⟨2, 0, 0, 0, by omega, .inl ⟨rfl, rfl, rfl⟩, rfl, rfl⟩
 rintro m F H ⟨j, x, y, hm, hj, rfl, rfl⟩
 refine WA ?_
 refine aw_if rfl (fun hlt => ?_) (fun hge => ?_)
 ·rcases hj with ⟨rfl, rfl, rfl⟩ | ⟨rfl, rfl, rfl⟩ | ⟨rfl, rfl, rfl⟩
  ·refine WA ?_
   refine WR ?_
   refine al_ef rfl (ef_call0 false (fun _ => llines_v pg vg (grdOf c) 0 1 0 hg (by omega) (by omega)) rfl .fn rfl (by decide) (by kernel_rfl) rfl (fun _g => .cons (.aL (C0 rfl)) (.cons (.c rfl) (.cons (.c rfl) .nil))) (by simp)) ?_
   rintro _ _ ⟨_, _, _, ⟨vl, rfl, rfl⟩, hF, hH⟩
   (refine NST hF hH ?_; clear hF hH; rintro rfl rfl)
   refine WE ?_
   refine WR ?_
   refine al_ef rfl (ef_call0 false (fun _ => maxfunc_v (linG (grdOf c) 0 1 0) vl (by have := hll 0; omega) (lin_ne hc hne 0) (fun x hx => (lin_bd hg hx).2)) rfl .fn rfl (by decide) (by kernel_rfl) rfl (fun _ => C0 rfl) (by simp)) ?_
   rintro _ _ ⟨_, _, _, ⟨mx, rfl, ⟨hm1, hm2⟩, rfl⟩, hF, hH⟩
   (refine NST hF hH ?_; clear hF hH; rintro rfl rfl)
   refine WE ?_
   have hv : mx.2.2 - mx.2.1 + 1 = longQ c 0 := (lngL_is hm1 (by have := lin_ab hm1; unfold lenL; omega) hm2).symm
   obtain ⟨hmb1, hmb2⟩ := (lin_bd hg hm1).2
   refine ZR ?_
   iterate 7 refine WX1 ?_
   refine ZA (rd_ixa (i := 0) (n := 2) (e := 3) (sz := 1) rfl (by kernel_rfl) rfl rfl rfl (by decide)) ?_
   refine WE ?_
   refine WA ?_
   rw [hv]
   refine wk_of [some 0] (fun _ => [(4, gV pg vg (grdOf c)), (5, .p 0 0 0), (11, .c (I (1 : Nat)))]) (fun _ => [.box [.c (I (longQ c 0)), .c (I 0)]]) (by decide) (ZNL hE) ZCF ZCH (fun _ => ?_)
   exact ⟨m - 1, by omega, 1, _, _, by omega, .inr (.inl ⟨rfl, rfl, rfl⟩), rfl, rfl⟩
  ·refine WA ?_
   refine WR ?_
   refine al_ef rfl (ef_call0 false (fun _ => llines_v pg vg (grdOf c) 1 1 0 hg (by omega) (by omega)) rfl .fn rfl (by decide) (by kernel_rfl) rfl (fun _g => .cons (.aL (C0 rfl)) (.cons (.c rfl) (.cons (.c rfl) .nil))) (by simp)) ?_
   rintro _ _ ⟨_, _, _, ⟨vl, rfl, rfl⟩, hF, hH⟩
   (refine NST hF hH ?_; clear hF hH; rintro rfl rfl)
   refine WE ?_
   refine WR ?_
   refine al_ef rfl (ef_call0 false (fun _ => maxfunc_v (linG (grdOf c) 1 1 0) vl (by have := hll 1; omega) (lin_ne hc hne 1) (fun x hx => (lin_bd hg hx).2)) rfl .fn rfl (by decide) (by kernel_rfl) rfl (fun _ => C0 rfl) (by simp)) ?_
   rintro _ _ ⟨_, _, _, ⟨mx, rfl, ⟨hm1, hm2⟩, rfl⟩, hF, hH⟩
   (refine NST hF hH ?_; clear hF hH; rintro rfl rfl)
   refine WE ?_
   have hv : mx.2.2 - mx.2.1 + 1 = longQ c 1 := (lngL_is hm1 (by have := lin_ab hm1; unfold lenL; omega) hm2).symm
   obtain ⟨hmb1, hmb2⟩ := (lin_bd hg hm1).2
   refine ZR ?_
   iterate 7 refine WX1 ?_
   refine ZA (rd_ixa (i := 1) (n := 2) (e := 3) (sz := 1) rfl (by kernel_rfl) rfl rfl rfl (by decide)) ?_
   refine WE ?_
   refine WA ?_
   rw [hv]
   refine wk_of [some 0] (fun _ => [(4, gV pg vg (grdOf c)), (5, .p 0 0 0), (11, .c (I (2 : Nat)))]) (fun _ => [.box [.c (I (longQ c 0)), .c (I (longQ c 1))]]) (by decide) (ZNL hE) ZCF ZCH (fun _ => ?_)
   exact ⟨m - 1, by omega, 2, _, _, by omega, .inr (.inr ⟨rfl, rfl, rfl⟩), rfl, rfl⟩
  ·exfalso; omega
 obtain ⟨rfl, rfl, rfl⟩ : j = 2 ∧ x = longQ c 0 ∧ y = longQ c 1 := by omega
 refine ZZ ?_
 refine ZR ?_
 refine ZA (rd_ixa (i := 1) (n := 2) (e := 3) (sz := 1) rfl (by kernel_rfl) rfl rfl rfl (by decide)) ?_
 refine WX1 ?_
 refine ZA (rd_ixa (i := 0) (n := 2) (e := 3) (sz := 1) rfl (by kernel_rfl) rfl rfl rfl (by decide)) ?_
 refine WE ?_
 refine aw_if rfl (fun hlt => ?_) (fun hge => ?_)
 ·rw [if_pos (by omega)]
  refine ZZ ?_
  refine aw_regionT [(0, none), (1, none), (2, none), (3, none)] hMixed (by kernel_rfl) ?_
  refine ZT rfl (rd_ixa (i := 1) (n := 2) (e := 3) (sz := 1) rfl (by kernel_rfl) rfl rfl rfl (by decide)) ?_
  refine WQ ?_
  exact aret_2 [] _ rfl rfl rfl rfl rfl (by decide) (ZNK rfl) (fun _ => .nil) ⟨rfl, rfl⟩
 ·rw [if_neg (by omega)]
  refine ZZ ?_
  refine aw_regionT [(0, none), (1, none), (2, none), (3, none)] hMixed (by kernel_rfl) ?_
  refine ZT rfl (rd_ixa (i := 0) (n := 2) (e := 3) (sz := 1) rfl (by kernel_rfl) rfl rfl rfl (by decide)) ?_
  refine WQ ?_
  exact aret_2 [] _ rfl rfl rfl rfl rfl (by decide) (ZNK rfl) (fun _ => .nil) ⟨rfl, rfl⟩
end Go.Proofs.YtniolldgidgffaaGreatDoor
