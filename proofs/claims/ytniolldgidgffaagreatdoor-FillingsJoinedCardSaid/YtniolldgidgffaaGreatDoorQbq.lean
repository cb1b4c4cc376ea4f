/- The reference's spots in their order: cmp.Or, bySpot, SortFunc of spots, sorted; neighbours. -/
import Derived.Test.YtniolldgidgffaaGreatDoorQbp
import Derived.Test.YtniolldgidgffaaGreatDoorQbf
import Derived.Test.YtniolldgidgffaaGreatDoorQbm
import Derived.Test.YtniolldgidgffaaGreatDoorQbo
import Derived.Test.YtniolldgidgffaaGreatDoorQbi
import Derived.Test.YtniolldgidgffaaGreatDoorQba
set_option linter.unusedSimpArgs false
set_option linter.unusedVariables false
/- The reference's QuarterOf. -/
-- NEWM
namespace Go.Proofs.YtniolldgidgffaaGreatDoor
open Go Go.RowKit
set_option maxRecDepth 100000
theorem lngL_bd {l : List Lin} (h : ∀ x ∈ l, 0 ≤ lenL x ∧ lenL x ≤ 50000000) (i : Nat) : 0 ≤ lngL (l.take i) ∧ lngL (l.take i) ≤ 100000000 :=
 ⟨(lngL_ge (x := (0, 0, 0)) (l := l.take i) rfl).1, lngL_le (l := l.take i) rfl (by decide) fun x hx => by have := h x (List.mem_of_mem_take hx); omega⟩
set_option maxHeartbeats 2000000 in
theorem longq_v (va : Value) (c : Cel) (q : Int) (hc : RCel c) : ACalls Tryz.prog 117 [.c (I q), .p 0 0 0] [celB va c] fun u H => u = .c (I (longQ c q)) ∧ H = [celB va c] := by
 have hlq : longQ c q = lngL (linG (grdOf c) q 1 0) := rfl
 have hll := lin_len hc q 1 0
 have hbd := fun l h => @lin_bd (grdOf c) (grdOf_ok hc) q 1 0 l h
 have hba := fun l h => @lin_ab (grdOf c) q 1 0 l h
 have hli := linesin_v va c q 1 0 hc (by decide) (by decide)
 have hlb := fun i => lngL_bd (l := linG (grdOf c) q 1 0) (fun x hx => by
  have h1 := hba x hx
  obtain ⟨h2, h3, h4⟩ := hbd x hx
  unfold lenL; omega) i
 rw [hlq]
 generalize linG (grdOf c) q 1 0 = LL at *
 refine acalls_of (N := 25) Tryz.func117 rfl rfl (by simp) fun E hE => ?_
 refine WA ?_
 refine WA ?_
 refine WR ?_
 refine al_ef rfl (ef_call0 false (fun _ => hli) rfl .fn rfl (by decide) (by kernel_rfl) rfl (fun _ => C0 rfl) (by simp)) ?_
 rintro _ _ ⟨_, _, _, ⟨vl, rfl, rfl⟩, hF, hH⟩
 (refine NST hF hH ?_; clear hF hH; rintro rfl rfl)
 refine WE ?_
 refine aw_loopw (fun m F H => ∃ (i : Nat) (w : Int), m + i = LL.length ∧ w = lngL (LL.take i) ∧ F = [(4, .c (I w)), (9, .c (.r vl (lnR LL))), (10, .c (I (lnR LL).length)), (11, .c (I i))] ∧ H = [celB va c]) ?_ ?_
 ·refine wk_of [some 0] (fun _ => [(4, .c (I 0)), (9, .c (.r vl (lnR LL))), (10, .c (I (lnR LL).length)), (11, .c (I (0 : Nat)))]) (fun _ => [celB va c]) (by decide) (ZNL hE) ZCF ZCH (fun _ => ?_)
  exact ⟨LL.length, 0, 0, by omega, rfl, rfl, rfl⟩
 rintro m F H ⟨i, w, hm, hw, rfl, rfl⟩
 have e1 : (lnR LL).length = LL.length := by simp
 have hwb := hlb i
 rw [← hw] at hwb
 refine WA ?_
 refine aw_if rfl (fun hlt => ?_) (fun hge => ?_)
 ·obtain ⟨⟨r, a, b⟩, hx⟩ : ∃ e, LL[i]? = some e := ⟨_, List.getElem?_eq_getElem (by omega)⟩
  have hrow : (lnR LL)[i]? = some [I r, I a, I b] := by rw [List.getElem?_map, hx]; rfl
  have hab := hba _ (List.mem_of_getElem? hx)
  obtain ⟨g1, g2, g3⟩ := hbd _ (List.mem_of_getElem? hx)
  simp only at hab g1 g2 g3
  have htk : max w (b - a + 1) = lngL (LL.take (i + 1)) := by rw [List.take_add_one, hx, hw]; exact (lngL_snoc (l := LL.take i) (x := (r, a, b))).symm
  refine WA ?_
  refine WA ?_
  refine WA ?_
  refine wk_of [some 0] (fun _ => [(4, .c (I (max w (b - a + 1)))), (9, .c (.r vl (lnR LL))), (10, .c (I (lnR LL).length)), (11, .c (I (i + 1 : Nat)))]) (fun _ => [celB va c]) (by decide) (ZNL hE) ZCF ZCH (fun _ => ?_)
  exact ⟨m - 1, by omega, i + 1, _, by omega, htk, rfl, rfl⟩
 obtain rfl : i = LL.length := by omega
 rw [List.take_length] at hw
 rw [← hw]
 refine ZZ ?_
 refine WA ?_
 exact aret_1 [some 0] [celB va c] rfl rfl rfl (by decide) (ZNK rfl) ZCH ⟨rfl, rfl⟩
noncomputable def quaR (c : Cel) : Int × Int × Int := if covL c = [] then (0, 0, 8) else ((bestF c).1, (bestF c).2, 0)
set_option maxHeartbeats 2000000 in
theorem quarterof_v (va : Value) (c : Cel) (hc : RCel c) : ACalls Tryz.prog 40 [celA va c] [] fun u H => u = .t [.c (I (quaR c).1), .c (I (quaR c).2.1), .c (I (quaR c).2.2)] ∧ H = [] := by
 have hq : quaR c = if covL c = [] then (0, 0, 8) else ((bestF c).1, (bestF c).2, 0) := rfl
 have hbf : bestF c = if longQ c 1 < longQ c 0 then (1, longQ c 1) else (0, longQ c 0) := rfl
 rw [hq]
 refine acalls_of (N := 23) Tryz.func40 rfl rfl (by simp) fun E hE => ?_
 refine WA ?_
 by_cases h0 : covL c = []
 ·rw [if_pos h0]
  have e1 : ((sR (covL c)).length : Int) = 0 := by rw [h0]; rfl
  refine WR ?_
  refine al_ef rfl (ef_call0 false (fun _ => places_r va c hc) rfl .fn rfl (by decide) (by kernel_rfl) rfl (fun _ => C0 rfl) (by simp)) ?_
  rintro _ _ ⟨_, _, _, ⟨vp, rfl, rfl⟩, hF, hH⟩
  (refine NST hF hH ?_; clear hF hH; rintro rfl rfl)
  refine WE ?_
  refine aw_cond_t rfl ?_
  refine WA ?_
  exact aret_of (us := [.c (I 0), .c (I 0), .c (I 8)]) [] (fun _ => .t [.c (I 0), .c (I 0), .c (I 8)]) (fun _ => []) (.tmp rfl (.tmp rfl (.tmp rfl .nil))) (by decide) (fun i hi => absurd hi (Nat.not_lt_zero i)) (fun g' => .tL (.cons (.c rfl) (.cons (.c rfl) (.cons (.c rfl) .nil)))) (fun _ => .nil) (fun g' => ⟨rfl, rfl⟩)
 ·rw [if_neg h0, hbf]
  have e1 : ¬ ((sR (covL c)).length : Int) = 0 := by
   have := List.length_pos_iff.2 h0
   rw [List.length_map]; omega
  refine WR ?_
  refine al_ef rfl (ef_call0 false (fun _ => places_r va c hc) rfl .fn rfl (by decide) (by kernel_rfl) rfl (fun _ => C0 rfl) (by simp)) ?_
  rintro _ _ ⟨_, _, _, ⟨vp, rfl, rfl⟩, hF, hH⟩
  (refine NST hF hH ?_; clear hF hH; rintro rfl rfl)
  refine WE ?_
  refine aw_cond_f rfl ?_
  refine ZZ ?_
  refine WA ?_
  refine WR ?_
  refine al_ef rfl (ef_call [0] (fun _ => [celB va c]) false (fun _ => longq_v va c 0 hc) rfl (.clo rfl) rfl (by decide) (by kernel_rfl) rfl ZCH (by decide) ZCH (by simp)) ?_
  rintro F0 H0 ⟨_, _, _, _, ⟨rfl, rfl⟩, hF, hH⟩
  (refine NSU hF hH ?_; clear hF hH; rintro rfl rfl)
  refine WO ?_
  refine al_ef rfl (ef_call [0] (fun _ => [celB va c]) false (fun _ => longq_v va c 1 hc) rfl (.clo rfl) rfl (by decide) (by kernel_rfl) rfl ZCH (by decide) ZCH (by simp)) ?_
  rintro F1 H1 ⟨_, _, _, _, ⟨rfl, rfl⟩, hF, hH⟩
  (refine NSU hF hH ?_; clear hF hH; rintro rfl rfl)
  refine WE ?_
  refine WA ?_
  refine aw_if rfl (fun hlt => ?_) (fun hge => ?_)
  ·rw [if_pos (by omega)]
   refine WA ?_
   exact aret_of (us := [.c (I 1), .c (I (longQ c 1)), .c (I 0)]) [] (fun _ => .t [.c (I 1), .c (I (longQ c 1)), .c (I 0)]) (fun _ => []) (.tmp rfl (.tmp rfl (.tmp rfl .nil))) (by decide) (fun i hi => absurd hi (Nat.not_lt_zero i)) (fun g' => .tL (.cons (.c rfl) (.cons (.c rfl) (.cons (.c rfl) .nil)))) (fun _ => .nil) (fun g' => ⟨rfl, rfl⟩)
  ·rw [if_neg (by omega)]
   refine ZZ ?_
   refine WR ?_
   refine al_ef rfl (ef_call [0] (fun _ => [celB va c]) false (fun _ => longq_v va c 0 hc) rfl (.clo rfl) rfl (by decide) (by kernel_rfl) rfl ZCH (by decide) ZCH (by simp)) ?_
   rintro F0 H0 ⟨_, _, _, _, ⟨rfl, rfl⟩, hF, hH⟩
   (refine NSU hF hH ?_; clear hF hH; rintro rfl rfl)
   refine WE ?_
   exact aret_of (us := [.c (I 0), .c (I (longQ c 0)), .c (I 0)]) [] (fun _ => .t [.c (I 0), .c (I (longQ c 0)), .c (I 0)]) (fun _ => []) (.tmp rfl (.tmp rfl (.tmp rfl .nil))) (by decide) (fun i hi => absurd hi (Nat.not_lt_zero i)) (fun g' => .tL (.cons (.c rfl) (.cons (.c rfl) (.cons (.c rfl) .nil)))) (fun _ => .nil) (fun g' => ⟨rfl, rfl⟩)
end Go.Proofs.YtniolldgidgffaaGreatDoor

/- Parts of cells: plain. -/
namespace Go.Proofs.YtniolldgidgffaaGreatDoor
def ltS (a b : Spot) : Prop := a.2 < b.2 ∨ (a.2 = b.2 ∧ a.1 < b.1)
theorem ltS_uniq {l l' : List Spot} (h : l.Pairwise ltS) (h' : l'.Pairwise ltS) (hm : ∀ p, p ∈ l ↔ p ∈ l') : l = l' := by
 have hn : ∀ {l : List Spot}, l.Pairwise ltS → l.Nodup := fun h => List.Pairwise.imp (fun {a b} h e => by subst e; unfold ltS at h; omega) h
 refine List.Perm.eq_of_pairwise (le := ltS) ?_ h h' ((List.perm_ext_iff_of_nodup (hn h) (hn h')).2 hm)
 intro a b _ _ h3 h4
 unfold ltS at h3 h4
 omega
theorem hitR_sorted {y : Int} : ∀ {r : List UInt8} {x : Int}, (hitR x y r).Pairwise ltS
 | [], x => .nil
 | b :: r, x => by
  rw [hitR]
  split
  ·refine List.pairwise_cons.2 ⟨fun p hp => ?_, hitR_sorted⟩
   obtain ⟨k, _, rfl⟩ := hitR_mem.1 hp
   right
   exact ⟨rfl, by simp only; omega⟩
  ·exact hitR_sorted
theorem hitC_sorted {x : Int} : ∀ {rs : List (List UInt8)} {y : Int}, (hitC x y rs).Pairwise ltS
 | [], y => .nil
 | r :: rs, y => by
  rw [hitC, List.pairwise_append]
  refine ⟨hitR_sorted, hitC_sorted, fun a ha b hb => ?_⟩
  obtain ⟨k, _, rfl⟩ := hitR_mem.1 ha
  obtain ⟨i, j, r', _, _, rfl⟩ := hitC_mem.1 hb
  unfold ltS
  simp only
  omega
theorem covL_sorted {c : Cel} : (covL c).Pairwise ltS := hitC_sorted
theorem covG_sorted {g : Grd} (hl : g.on.length = g.w * g.h) : (covG g).Pairwise ltS := by
 by_cases hw : g.w = 0
 ·have e : covG g = [] := List.eq_nil_iff_forall_not_mem.2 fun p hp => by
   obtain ⟨i, h1, _⟩ := covG_mem.1 hp
   have := (List.getElem?_eq_some_iff.1 h1).1
   rw [hl, hw] at this
   simp at this
  rw [e]; exact .nil
 ·unfold covG covK
  rw [List.pairwise_map]
  refine List.Pairwise.sublist List.filter_sublist ?_
  refine List.Pairwise.imp ?_ List.pairwise_lt_range
  intro a b h
  unfold ltS spt
  simp only
  have e1 := Nat.div_add_mod a g.w
  have e2 := Nat.div_add_mod b g.w
  have h1 : a / g.w ≤ b / g.w := Nat.div_le_div_right (by omega)
  by_cases e : a / g.w = b / g.w
  ·rw [e] at e1 ⊢
   right
   omega
  ·left
   omega
theorem covG_is {c : Cel} (h : RCel c) : covG (grdOf c) = covL c := ltS_uniq (covG_sorted (grdOf_len h)) covL_sorted fun _ => grdOf_cov h
def nbS (p : Spot) : List Spot := [(p.1, p.2 - 1), (p.1 - 1, p.2), (p.1 + 1, p.2), (p.1, p.2 + 1)]
theorem nbS_mem {p q : Spot} : q ∈ nbS p ↔ (q.1 = p.1 ∧ q.2 = p.2 - 1) ∨ (q.1 = p.1 - 1 ∧ q.2 = p.2) ∨ (q.1 = p.1 + 1 ∧ q.2 = p.2) ∨ (q.1 = p.1 ∧ q.2 = p.2 + 1) := by
 obtain ⟨a, b⟩ := p
 obtain ⟨x, y⟩ := q
 unfold nbS
 simp
theorem nbS_symm {p q : Spot} (h : q ∈ nbS p) : p ∈ nbS q := by
 rw [nbS_mem] at h ⊢
 omega
inductive Conn (L : List Spot) (k : Spot) : Spot → Prop
 | here : k ∈ L → Conn L k k
 | step {p q : Spot} : Conn L k p → q ∈ nbS p → q ∈ L → Conn L k q
theorem Conn.mem {L : List Spot} {k q : Spot} : Conn L k q → q ∈ L
 | .here h => h
 | .step _ _ h => h
def Clo (L S : List Spot) : Prop := ∀ p ∈ S, ∀ q ∈ nbS p, q ∈ L → q ∈ S
theorem conn_end {L S T : List Spot} {k : Spot} (hS : Clo L S) (hk : k ∈ T) (hd : ∀ p ∈ T, p ∉ S) (hc : ∀ p ∈ T, Conn L k p) (hn : ∀ p ∈ T, ∀ q ∈ nbS p, q ∈ L → q ∈ S ∨ q ∈ T) (q : Spot) : q ∈ T ↔ Conn L k q := by
 refine ⟨hc q, fun h => ?_⟩
 induction h with
 | here _ => exact hk
 | step h1 h2 h3 ih =>
  rcases hn _ ih _ h2 h3 with h | h
  ·exact absurd (hS _ h _ (nbS_symm h2) h1.mem) (hd _ ih)
  ·exact h
noncomputable def gangL (L : List Spot) (k : Spot) : List Spot := L.filter fun q => @decide (Conn L k q) (Classical.propDecidable _)
theorem gangL_mem {L : List Spot} {k q : Spot} : q ∈ gangL L k ↔ Conn L k q := by
 unfold gangL
 rw [List.mem_filter, @decide_eq_true_iff _ (Classical.propDecidable _)]
 exact ⟨fun h => h.2, fun h => ⟨h.mem, h⟩⟩
theorem gangL_clo {L : List Spot} {k : Spot} : Clo L (gangL L k) := fun _ hp _ hq hL => gangL_mem.2 (.step (gangL_mem.1 hp) hq hL)
theorem gangL_sub {L : List Spot} {k : Spot} : ∀ p ∈ gangL L k, p ∈ L := fun _ hp => (gangL_mem.1 hp).mem
noncomputable def prtS (L A : List Spot) : List Spot × List (List Spot) := A.foldl (fun s p => if p ∈ s.1 then s else (s.1 ++ gangL L p, s.2 ++ [gangL L p])) ([], [])
theorem prtS_snoc {L A : List Spot} {p : Spot} : prtS L (A ++ [p]) = if p ∈ (prtS L A).1 then prtS L A else ((prtS L A).1 ++ gangL L p, (prtS L A).2 ++ [gangL L p]) := by
 unfold prtS
 rw [List.foldl_append]
 rfl
structure PrtOk (L A : List Spot) : Prop where
 clo : Clo L (prtS L A).1
 sub : ∀ q ∈ (prtS L A).1, q ∈ L
 all : ∀ q ∈ A, q ∈ (prtS L A).1
 flat : (prtS L A).1 = (prtS L A).2.flatten
 dis : (prtS L A).2.Pairwise fun X Y => ∀ p ∈ X, p ∉ Y
 part : ∀ X ∈ (prtS L A).2, X ≠ [] ∧ ∃ k ∈ L, X = gangL L k
 len : (prtS L A).2.length ≤ A.length
theorem prtS_ok {L : List Spot} : ∀ {n : Nat} {A : List Spot}, A.length = n → (∀ q ∈ A, q ∈ L) → PrtOk L A
 | 0, A, hn, _ => by
  rw [List.eq_nil_of_length_eq_zero hn]
  exact ⟨fun _ h => by simp [prtS] at h, fun _ h => by simp [prtS] at h, fun _ h => by simp at h, rfl, .nil, fun _ h => by simp [prtS] at h, by simp [prtS]⟩
 | n + 1, A, hn, hA => by
  obtain ⟨B, p, rfl⟩ : ∃ B p, A = B ++ [p] := by
   rcases List.eq_nil_or_concat A with h | ⟨B, p, h⟩
   ·subst h; simp at hn
   ·exact ⟨B, p, by rw [h, List.concat_eq_append]⟩
  have h := prtS_ok (L := L) (n := n) (A := B) (by simpa using hn) fun q hq => hA q (List.mem_append_left _ hq)
  have hp : p ∈ L := hA p (by simp)
  have e := prtS_snoc (L := L) (A := B) (p := p)
  by_cases hs : p ∈ (prtS L B).1
  ·rw [if_pos hs] at e
   refine ⟨?_, ?_, ?_, ?_, ?_, ?_, ?_⟩ <;> rw [e]
   ·exact h.clo
   ·exact h.sub
   ·intro q hq
    rcases List.mem_append.1 hq with hq | hq
    ·exact h.all q hq
    ·rw [List.mem_singleton.1 hq]; exact hs
   ·exact h.flat
   ·exact h.dis
   ·exact h.part
   ·have := h.len
    simp; omega
  ·rw [if_neg hs] at e
   have hpc : p ∈ gangL L p := gangL_mem.2 (.here hp)
   refine ⟨?_, ?_, ?_, ?_, ?_, ?_, ?_⟩ <;> rw [e] <;> simp only
   ·intro a ha b hb hL
    rcases List.mem_append.1 ha with ha | ha
    ·exact List.mem_append_left _ (h.clo a ha b hb hL)
    ·exact List.mem_append_right _ (gangL_clo a ha b hb hL)
   ·intro q hq
    rcases List.mem_append.1 hq with hq | hq
    ·exact h.sub q hq
    ·exact gangL_sub q hq
   ·intro q hq
    rcases List.mem_append.1 hq with hq | hq
    ·exact List.mem_append_left _ (h.all q hq)
    ·rw [List.mem_singleton.1 hq]; exact List.mem_append_right _ hpc
   ·rw [h.flat]; simp
   ·rw [List.pairwise_append]
    refine ⟨h.dis, List.pairwise_singleton _ _, fun X hX Y hY q hq hq2 => ?_⟩
    rw [List.mem_singleton.1 hY] at hq2
    have hqs : q ∈ (prtS L B).1 := by rw [h.flat, List.mem_flatten]; exact ⟨X, hX, hq⟩
    exact hs (conn_back h.clo (gangL_mem.1 hq2) hqs)
   ·intro X hX
    rcases List.mem_append.1 hX with hX | hX
    ·exact h.part X hX
    ·rw [List.mem_singleton.1 hX]
     exact ⟨fun e => (by rw [e] at hpc; cases hpc), p, hp, rfl⟩
   ·have := h.len
    simp; omega
where
 conn_back {L S : List Spot} {k : Spot} (hS : Clo L S) {q : Spot} (h : Conn L k q) (hq : q ∈ S) : k ∈ S := by
  induction h with
  | here _ => exact hq
  | step h1 h2 h3 ih => exact ih (hS _ hq _ (nbS_symm h2) h1.mem)
noncomputable def partL (L : List Spot) : List (List Spot) := (prtS L L).2
theorem partL_ok (L : List Spot) : PrtOk L L := prtS_ok rfl fun _ h => h
end Go.Proofs.YtniolldgidgffaaGreatDoor

/- The reference's spots in their order: cmp.Or, bySpot, SortFunc of spots, sorted; neighbours. -/
-- NEWM
namespace Go.Proofs.YtniolldgidgffaaGreatDoor
open Go Go.RowKit Go.Shelf
set_option maxRecDepth 100000
theorem orJ_v (l : List Int) (v : Value) (hl : l.length ≤ 1000000) : ACalls Tryz.prog 254 [.c (.r v (nR l))] [] fun u H => u = .c (I (fstN l)) ∧ H = [] := by
 have e1 : (nR l).length = l.length := by simp
 refine acalls_of (N := 18) Tryz.func254 rfl rfl (by simp) fun E hE => ?_
 refine WA ?_
 refine WA ?_
 refine WA ?_
 refine aw_loopw (fun m F H => ∃ (k : Nat), m + k = l.length ∧ fstN (l.drop k) = fstN l ∧ F = [(3, .c (I 0)), (6, .c (.r v (nR l))), (7, .c (I (nR l).length)), (8, .c (I k))] ∧ H = []) ?_ ?_
 ·refine wk_of [] (fun _ => [(3, .c (I 0)), (6, .c (.r v (nR l))), (7, .c (I (nR l).length)), (8, .c (I (0 : Nat)))]) (fun _ => []) (by decide) (ZNL hE) ZCF (fun _ => .nil) (fun _ => ?_)
  exact ⟨l.length, 0, by omega, rfl, rfl, rfl⟩
 rintro m F H ⟨k, hk, hf, rfl, rfl⟩
 refine WA ?_
 refine aw_if rfl (fun hlt => ?_) (fun hge => ?_)
 ·obtain ⟨n, hn⟩ : ∃ n, l[k]? = some n := ⟨_, List.getElem?_eq_getElem (by omega)⟩
  have hrow : (nR l)[k]? = some [I n] := by rw [List.getElem?_map, hn]; rfl
  have hd := fstN_drop hn
  refine WA ?_
  refine WA ?_
  refine aw_if rfl (fun hv => ?_) (fun hv => ?_)
  ·refine WA ?_
   exact aret_1 [] _ rfl rfl rfl (by decide) (ZNK rfl) (fun _ => .nil) ⟨by rw [← hf, hd, if_neg hv], rfl⟩
  ·refine ZZ ?_
   refine WA ?_
   refine wk_of [] (fun _ => [(3, .c (I 0)), (6, .c (.r v (nR l))), (7, .c (I (nR l).length)), (8, .c (I (k + 1 : Nat)))]) (fun _ => []) (by decide) (ZNL hE) ZCF (fun _ => .nil) (fun _ => ?_)
   exact ⟨m - 1, by omega, k + 1, by omega, by rw [← hf, hd, if_pos (by omega)], rfl, rfl⟩
 refine ZZ ?_
 refine WA ?_
 exact aret_1 [] _ rfl rfl rfl (by decide) (ZNK rfl) (fun _ => .nil) ⟨by rw [← hf, List.drop_eq_nil_of_le (by omega)]; rfl, rfl⟩
def cmpSp (a b : Spot) : Int := fstN [cmpI a.2 b.2, cmpI a.1 b.1]
theorem cmpSp_lt (a b : Spot) : cmpSp a b < 0 ↔ ltS a b := by
 have h1 := @cmpN_lt a.2 b.2
 have h2 := @cmpN_0 a.2 b.2
 have h3 := @cmpN_lt a.1 b.1
 unfold cmpSp ltS
 simp only [fstN]
 split
 ·split <;> omega
 ·omega
theorem cmpSp_v (a b : Spot) : ACalls Tryz.prog 205 [.a [.c (I a.1), .c (I a.2)], .a [.c (I b.1), .c (I b.2)]] [] fun u H => u = .c (I (cmpSp a b)) ∧ H = [] := by
 obtain ⟨a1, a2⟩ := a
 obtain ⟨b1, b2⟩ := b
 refine acalls_of (N := 17) Tryz.func205 rfl rfl (by simp) fun E hE => ?_
 refine WA ?_
 refine ZZ ?_
 refine aw_regionT [(0, none), (1, none), (2, none), (3, none), (5, none), (6, none), (7, none), (8, none), (4, some [5, 6, 7, 8]), (9, some []), (10, some []), (11, some []), (12, none)] hMixed (by kernel_rfl) ?_
 refine WP ?_
 refine at_ef rfl rfl (ef_call0 false (fun _ => cmpI_v _ _) rfl .fn rfl (by decide) (by kernel_rfl) rfl (fun _g => .cons (.c rfl) (.cons (.c rfl) .nil)) (by simp)) ?_
 rintro _ _ ⟨_, _, _, ⟨rfl, rfl⟩, hF, hH⟩
 (refine NST hF hH ?_; clear hF hH; rintro rfl rfl)
 refine ⟨ag_cons (by first | exact ag_rd rfl rfl rfl (ZX (KF (t := 119) (f := 0) rfl rfl)) rfl) (ag_cons (by first | exact ag_rd rfl rfl rfl (ZL (KK (t := 3) rfl)) rfl) (ag_cons (by first | exact ag_rd rfl rfl rfl (ZX (KF (t := 119) (f := 0) rfl rfl)) rfl) (ag_cons (by first | exact ag_rd rfl rfl rfl (ZL (KK (t := 3) rfl)) rfl) (ag_none)))), ?_⟩
 refine at_ef rfl rfl (ef_call0 false (fun _ => cmpI_v _ _) rfl .fn rfl (by decide) (by kernel_rfl) rfl (fun _g => .cons (.c rfl) (.cons (.c rfl) .nil)) (by simp)) ?_
 rintro _ _ ⟨_, _, _, ⟨rfl, rfl⟩, hF, hH⟩
 (refine NST hF hH ?_; clear hF hH; rintro rfl rfl)
 refine ⟨ag_none, ?_⟩
 refine WP ?_
 refine at_ef rfl rfl (ef_call0 true (fun g => orJ_v [cmpI a2 b2, cmpI a1 b1] (g (.o 2 0 2 2)) (by simp)) rfl .fn rfl (by decide) (by kernel_rfl) rfl (fun _ => .cons (.frz rfl rfl rfl rfl rfl) .nil) (fun _ _ _ _ ⟨hu, hH⟩ => by rw [hu, hH]; exact ⟨.c (.inl trivial), by simp⟩)) ?_
 rintro _ _ ⟨_, _, _, ⟨rfl, rfl⟩, hF, hH⟩
 (refine NST hF hH ?_; clear hF hH; rintro rfl rfl)
 refine ⟨ag_none, ?_⟩
 refine WQ ?_
 all_goals exact aret_1 [] _ rfl rfl rfl (by decide) (ZNK rfl) (fun _ => .nil) ⟨rfl, rfl⟩
def sortSpL_ren : Go.Shelf.Ren := ⟨fun | 6 => 204 | 15 => 203 | 14 => 253 | 28 => 251 | 29 => 252 | 20 => 297 | 21 => 298 | 22 => 299 | 23 => 300 | 24 => 301 | 25 => 302 | 26 => 303 | 27 => 304 | 46 => 332 | 47 => 293 | 48 => 294 | 49 => 333 | 50 => 334 | 57 => 364 | n => n, fun | 22 => 222 | 24 => 119 | 25 => 287 | 3 => 3 | 39 => 225 | 0 => 0 | 53 => 288 | 55 => 291 | 4 => 4 | 46 => 323 | 45 => 322 | 50 => 327 | 5 => 5 | 9 => 9 | 66 => 372 | 70 => 376 | 76 => 421 | 77 => 161 | n => n, fun | n => n⟩
theorem sortSpL : Go.Proofs.SlLaysF0.n6 Tryz.prog sortSpL_ren := {
 mixed := by kernel_rfl
 f6 := ⟨Tryz.f204.name, by decide, Tryz.func204.trans (congrArg some (by kernel_rfl))⟩
 f14 := ⟨Tryz.f253.name, by decide, Tryz.func253.trans (congrArg some (by kernel_rfl))⟩
 f15 := Tryz.func203.trans (congrArg some (by kernel_rfl))
 f20 := ⟨Tryz.f297.name, by decide, Tryz.func297.trans (congrArg some (by kernel_rfl))⟩
 f21 := ⟨Tryz.f298.name, by decide, Tryz.func298.trans (congrArg some (by kernel_rfl))⟩
 f22 := ⟨Tryz.f299.name, by decide, Tryz.func299.trans (congrArg some (by kernel_rfl))⟩
 f23 := ⟨Tryz.f300.name, by decide, Tryz.func300.trans (congrArg some (by kernel_rfl))⟩
 f24 := ⟨Tryz.f301.name, by decide, Tryz.func301.trans (congrArg some (by kernel_rfl))⟩
 f25 := ⟨Tryz.f302.name, by decide, Tryz.func302.trans (congrArg some (by kernel_rfl))⟩
 f26 := ⟨Tryz.f303.name, by decide, Tryz.func303.trans (congrArg some (by kernel_rfl))⟩
 f27 := ⟨Tryz.f304.name, by decide, Tryz.func304.trans (congrArg some (by kernel_rfl))⟩
 f28 := Tryz.func251.trans (congrArg some (by kernel_rfl))
 f29 := Tryz.func252.trans (congrArg some (by kernel_rfl))
 f46 := ⟨Tryz.f332.name, by decide, Tryz.func332.trans (congrArg some (by kernel_rfl))⟩
 f47 := Tryz.func293.trans (congrArg some (by kernel_rfl))
 f48 := Tryz.func294.trans (congrArg some (by kernel_rfl))
 f49 := ⟨Tryz.f333.name, by decide, Tryz.func333.trans (congrArg some (by kernel_rfl))⟩
 f50 := ⟨Tryz.f334.name, by decide, Tryz.func334.trans (congrArg some (by kernel_rfl))⟩
 f57 := ⟨Tryz.f364.name, by decide, Tryz.func364.trans (congrArg some (by kernel_rfl))⟩
 t0 := Tryz.underlying0
 a0 := Tryz.isAgg0
 z0 := Tryz.sizeOf0
 v0 := Tryz.zeroValue0
 t3 := Tryz.underlying3
 a3 := Tryz.isAgg3
 z3 := Tryz.sizeOf3
 v3 := Tryz.zeroValue3
 t4 := Tryz.underlying4
 a4 := Tryz.isAgg4
 z4 := Tryz.sizeOf4
 v4 := Tryz.zeroValue4
 t5 := Tryz.underlying5
 a5 := Tryz.isAgg5
 z5 := Tryz.sizeOf5
 v5 := Tryz.zeroValue5
 t9 := Tryz.underlying9
 a9 := Tryz.isAgg9
 z9 := Tryz.sizeOf9
 v9 := Tryz.zeroValue9
 t22 := Tryz.underlying222
 a22 := Tryz.isAgg222
 z22 := Tryz.sizeOf222
 v22 := Tryz.zeroValue222
 t25 := Tryz.underlying287
 a25 := Tryz.isAgg287
 z25 := Tryz.sizeOf287
 v25 := Tryz.zeroValue287
 t39 := Tryz.underlying225
 a39 := Tryz.isAgg225
 z39 := Tryz.sizeOf225
 v39 := Tryz.zeroValue225
 t45 := Tryz.underlying322
 a45 := Tryz.isAgg322
 z45 := Tryz.sizeOf322
 v45 := Tryz.zeroValue322
 t46 := Tryz.underlying323
 a46 := Tryz.isAgg323
 z46 := Tryz.sizeOf323
 v46 := Tryz.zeroValue323
 t50 := Tryz.underlying327
 a50 := Tryz.isAgg327
 z50 := Tryz.sizeOf327
 v50 := Tryz.zeroValue327
 t53 := Tryz.underlying288
 a53 := Tryz.isAgg288
 z53 := Tryz.sizeOf288
 v53 := Tryz.zeroValue288
 t55 := Tryz.underlying291
 a55 := Tryz.isAgg291
 z55 := Tryz.sizeOf291
 v55 := Tryz.zeroValue291
 t66 := Tryz.underlying372
 a66 := Tryz.isAgg372
 z66 := Tryz.sizeOf372
 v66 := Tryz.zeroValue372
 t70 := Tryz.underlying376
 a70 := Tryz.isAgg376
 z70 := Tryz.sizeOf376
 v70 := Tryz.zeroValue376
 t76 := Tryz.underlying421
 a76 := Tryz.isAgg421
 z76 := Tryz.sizeOf421
 v76 := Tryz.zeroValue421
 t77 := Tryz.underlying161
 a77 := Tryz.isAgg161
 z77 := Tryz.sizeOf161
 v77 := Tryz.zeroValue161 }
def spOf : List CV → Spot
 | [.s (.int _ a), .s (.int _ b)] => (a, b)
 | _ => (0, 0)
theorem sortSp_v (l : List Spot) (c : Nat) (hl : l.length ≤ 1000000) : ACallsX true Tryz.prog 204 [.o 0 0 l.length c, .f (.func 205) []] [.arr 119 2 c (sR l)] fun u H => ∃ l' : List Spot, (l'.Perm l ∧ l'.Pairwise fun a b => ¬ ltS b a) ∧ u = .t [] ∧ H = [.arr 119 2 c (sR l')] := by
 have h := acalls_sort sortSpL (k := 2) (fun w => Tryz.isAgg119 w) (fun w => Tryz.sizeOf119 w) (fun x => ∃ s : Spot, x = [I s.1, I s.2]) (fun x y => cmpSp (spOf x) (spOf y)) (g := 205) (by kernel_rfl)
  (by rintro _ ⟨s, rfl⟩; rw [cmpSp_lt]; unfold ltS; omega)
  (by rintro _ _ _ ⟨a, rfl⟩ ⟨b, rfl⟩ ⟨c, rfl⟩; simp only [cmpSp_lt, spOf]; unfold ltS; omega)
  (by rintro _ _ _ ⟨a, rfl⟩ ⟨b, rfl⟩ ⟨c, rfl⟩; simp only [cmpSp_lt, spOf]; unfold ltS; omega)
  (by rintro _ _ ⟨a, rfl⟩ ⟨b, rfl⟩; exact cmpSp_v a b)
  (sR l) (by intro r hr; obtain ⟨s, _, rfl⟩ := List.mem_map.1 hr; exact ⟨s, rfl⟩) (by simp; omega) (e := 119) (cap := c) (n := l.length) (c := c) (pn := true) (by simp)
 refine ACallsX.mono h fun u H => ?_
 rintro ⟨rows', rfl, rfl, hp, hs⟩
 have hm : (sR l).map spOf = l := by
  rw [List.map_map]
  exact (List.map_congr_left fun s _ => rfl).trans (List.map_id l)
 have hrow : ∀ r ∈ rows', ∃ s : Spot, r = [I s.1, I s.2] := fun r hr => by
  obtain ⟨s, _, rfl⟩ := List.mem_map.1 (hp.subset hr); exact ⟨s, rfl⟩
 refine ⟨rows'.map spOf, ⟨by have h2 := hp.map spOf; rwa [hm] at h2, ?_⟩, rfl, ?_⟩
 ·rw [List.pairwise_map]
  refine hs.imp fun {a b} h => ?_
  rw [cmpSp_lt] at h
  exact h
 ·congr 2
  show rows' = (rows'.map spOf).map fun p : Spot => [I p.1, I p.2]
  rw [List.map_map]
  refine (List.map_id _).symm.trans (List.map_congr_left fun r hr => ?_)
  obtain ⟨s, rfl⟩ := hrow r hr
  rfl
set_option maxHeartbeats 2000000 in
theorem sorted_v (es : SE) (ck : Nat) (L : List Spot) (hok : SetOk es ck L) (hL : L.Pairwise ltS) (hl : es.length ≤ 900000) : ACalls Tryz.prog 154 [.mp 0] [mpO encP encT es ck] fun u H => ∃ v, u = .c (.r v (sR L)) ∧ H = [mpO encP encT es ck] := by
 refine acalls_of (N := 18) Tryz.func154 rfl rfl (by simp) fun E hE => ?_
 refine WA ?_
 refine WA ?_
 refine ZR ?_
 refine WX1 ?_
 refine al_ef rfl (ef_range (ke := encP) (ve := encT) (l := es) (ck := ck) rfl rfl (by decide) Tryz.underlying122 rfl rfl) ?_
 rintro _ _ ⟨rfl, rfl⟩
 refine WE ?_
 refine aw_loopw (fun m F H => ∃ (seen : List Nat) (T : List Spot) (cp : Nat), unseen es seen = m ∧ (∀ p, p ∈ T ↔ p ∈ seenT es seen) ∧ T.Nodup ∧ F = [(3, .o 1 0 T.length cp), (6, .p 2 0 0)] ∧ H = [mpO encP encT es ck, .arr 119 2 cp (sR T), .itr 0 ck seen ck]) ?_ ?_
 ·refine wk_of [some 0, none, some 1] (fun _ => [(3, .o 1 0 0 0), (6, .p 2 0 0)]) (fun _ => [mpO encP encT es ck, .arr 119 2 0 [], .itr 0 ck [] ck]) (by decide) (ZNL hE) ZCF ZCH (fun _ => ?_)
  exact ⟨_, [], [], 0, rfl, fun p => by simp [seenT], .nil, rfl, rfl⟩
 rintro m F H ⟨seen, T, cp, hm, hT, hTn, rfl, rfl⟩
 have hTl : T.length ≤ es.length := by
  have h1 := len_mem hTn (hok.nk.filter (fun q => decide (q ∈ T))) fun p => by
   rw [List.mem_filter, decide_eq_true_iff]
   refine ⟨fun h => ⟨?_, h⟩, fun h => h.2⟩
   obtain ⟨e, h2, _, h3⟩ := seenT_mem.1 ((hT p).1 h)
   rw [← h3]; exact List.mem_map_of_mem h2
  have h2 := List.length_filter_le (fun q => decide (q ∈ T)) (es.map (·.2.1))
  rw [List.length_map] at h2
  omega
 refine ZR ?_
 refine al_ef rfl (ef_nextP (l := es) hok rfl rfl (by decide) rfl rfl rfl) ?_
 rintro _ _ (⟨eb, ex, ey, he, hne, rfl, rfl⟩ | ⟨hall, rfl, rfl⟩)
 all_goals (refine WE ?_)
 ·refine aw_cond_t rfl ?_
  have hlt := unseen_lt he hne
  have hT' : ∀ p, p ∈ T ++ [(ex, ey)] ↔ p ∈ seenT es (seen ++ [eb]) := fun p => by
   rw [seenT_snoc hok.nb he, List.mem_append, List.mem_append, hT]
  have hnew : (ex, ey) ∉ T := fun h => by
   rw [hT, seenT_mem] at h
   obtain ⟨e, h1, h2, h3⟩ := h
   have := nodup_inj hok.nk h1 he h3
   subst this
   exact hne h2
  have hTn' : (T ++ [(ex, ey)]).Nodup := List.nodup_append.2 ⟨hTn, by simp, fun a ha b hb e => hnew (by rw [List.mem_singleton.1 hb] at e; rw [← e]; exact ha)⟩
  refine ZR ?_
  refine ZA (rd_entryP (l := es) hok rfl rfl rfl rfl he) ?_
  refine WE ?_
  refine WR ?_
  refine al_ef rfl (Zapp (KA (t := 222) rfl)) ?_
  rintro _ _ ⟨_, cc, hcc, rfl, rfl⟩
  refine WE ?_
  refine wk_of [some 0, some 1, some 2] (fun _ => [(3, .o 1 0 (T ++ [(ex, ey)]).length cc), (6, .p 2 0 0)]) (fun _ => [mpO encP encT es ck, .arr 119 2 cc (sR (T ++ [(ex, ey)])), .itr 0 ck (seen ++ [eb]) ck]) (by decide) (ZNL hE) ZCF ZCH (fun _ => ?_)
  exact ⟨_, by rw [← hm]; exact hlt, seen ++ [eb], T ++ [(ex, ey)], cc, rfl, hT', hTn', rfl, rfl⟩
 ·refine aw_cond_f rfl ?_
  have hTL : ∀ p, p ∈ T ↔ p ∈ L := fun p => (hT p).trans (seenT_end hok hall)
  refine ZZ ?_
  refine WR ?_
  refine al_ef rfl (ef_callp [1] (fun _ => [.arr 119 2 cp (sR T)]) false (fun _ => sortSp_v T cp (by omega)) rfl .fn rfl (by decide) (by kernel_rfl) rfl ZCH (by decide) ZCH (by simp)) ?_
  rintro F1 H1 ⟨_, _, _, _, ⟨l', ⟨hlp, hls⟩, rfl, rfl⟩, hF, hH⟩
  rw [killF_nil] at hF; (refine NSU hF hH ?_; clear hF hH; rintro rfl rfl)
  refine WE ?_
  have hll : l'.length = T.length := hlp.length_eq
  have hl' : l'.Pairwise ltS := by
   have hn' : l'.Nodup := (hlp.nodup_iff).2 hTn
   refine List.Pairwise.imp (R := fun a b => ¬ ltS b a ∧ a ≠ b) (fun {a b} h => ?_) (hls.and hn')
   obtain ⟨h1, h2⟩ := h
   obtain ⟨x1, y1⟩ := a
   obtain ⟨x2, y2⟩ := b
   unfold ltS at h1 ⊢
   simp only at h1 ⊢
   by_cases e1 : y1 = y2
   ·by_cases e2 : x1 = x2
    ·exact absurd (by rw [e1, e2]) h2
    ·omega
   ·omega
  obtain rfl : l' = L := ltS_uniq hl' hL fun p => (hlp.mem_iff).trans (hTL p)
  refine WA ?_
  exact aret_f1 [some 0] [mpO encP encT es ck] rfl rfl rfl rfl (by rw [List.drop_zero, List.take_of_length_le (by simp; omega)]) (by simp; omega) rfl (by decide) (ZNK rfl) ZCH (fun q => ⟨q, rfl, rfl⟩)
theorem neighb_v (x y : Int) (hx : -100000000 ≤ x ∧ x ≤ 100000000) (hy : -100000000 ≤ y ∧ y ≤ 100000000) : ACalls Tryz.prog 155 [.a [.c (I x), .c (I y)]] [] fun u H => ∃ v, u = .c (.r v (sR [(x - 1, y), (x + 1, y), (x, y - 1), (x, y + 1)])) ∧ H = [] := by
 refine acalls_of (N := 28) Tryz.func155 rfl rfl (by simp) fun E hE => ?_
 refine WA ?_
 refine WA ?_
 exact aret_f1 [] _ rfl rfl rfl rfl rfl rfl rfl (by decide) (ZNK rfl) (fun _ => .nil) (fun q => ⟨q, rfl, rfl⟩)
end Go.Proofs.YtniolldgidgffaaGreatDoor
