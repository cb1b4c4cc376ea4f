/- The reference's spots in their order: cmp.Or, bySpot, SortFunc of spots, sorted; neighbours. -/
import Derived.Test.YtfilfijammemfaaGreatDoorQbj
import Derived.Test.YtfilfijammemfaaGreatDoorQbb
import Derived.Test.YtfilfijammemfaaGreatDoorQbe
import Derived.Test.YtfilfijammemfaaGreatDoorQbh
import Derived.Test.YtfilfijammemfaaGreatDoorQbi
set_option linter.unusedSimpArgs false
set_option linter.unusedVariables false
/- The better direction of lines: the program's best, by value. -/
-- NEWM
namespace Go.Proofs.YtfilfijammemfaaGreatDoor
open Go Go.RowKit
set_option maxRecDepth 100000
theorem lin_ne {c : Cel} (hc : RCel c) (hne : covL c ≠ []) (q : Int) : linG (grdOf c) q 1 0 ≠ [] := by
 have hT : trL q (covL c) ≠ [] := by simpa using hne
 obtain ⟨⟨p, hp, e⟩, _⟩ := x0_at hT
 have hw : wQ (grdOf c) q ≤ 999 := by have := (grd_wh hc q).1; omega
 intro h0
 have hmem : (p.2, p.1, rE (hasL (trL q (covL c)) p.2) 1000 p.1) ∈ linL (trL q (covL c)) (trL q (covL c)) 1 0 := by
  refine linL_mem.2 ⟨p, hp, ?_, rfl⟩
  unfold begL
  simp only [Int.sub_zero, Int.tmod_one, decide_true, Bool.true_and, Bool.not_eq_true', decide_eq_false_iff_not]
  intro h
  have := x0_le h
  simp only at this
  omega
 rw [← linG_mem (grdOf_len hc) hw (fun p => by rw [trL_in, grdOf_cov hc]), h0] at hmem
 cases hmem
end Go.Proofs.YtfilfijammemfaaGreatDoor

/- Whether one of some cells is so, by a function with two variables of its caller; Least's and LeastOf's functions. -/
-- NEWM
namespace Go.Proofs.YtfilfijammemfaaGreatDoor
open Go Go.RowKit
set_option maxRecDepth 100000
set_option maxHeartbeats 2000000 in
theorem idx2_v (fn : FuncId) (hfn : okFn Tryz.prog fn = true) (f : Cel → Bool) (q e : Int) (v : Value) (l : List (Value × Cel)) (hl : l.length ≤ 1000000000) (hcall : ∀ w c, (w, c) ∈ l → ACalls Tryz.prog fn [celA w c, .p 0 0 0, .p 1 0 0] [.box [.c (I q)], .box [.c (I e)]] fun u H => u = .c (B (f c)) ∧ H = [.box [.c (I q)], .box [.c (I e)]]) : ACalls Tryz.prog 89 [.c (.r v (cR l)), .f (.func fn) [.p 0 0 0, .p 1 0 0]] [.box [.c (I q)], .box [.c (I e)]] fun u H => ∃ r : Int, u = .c (I r) ∧ H = [.box [.c (I q)], .box [.c (I e)]] ∧ (0 ≤ r ↔ (l.any fun x => f x.2) = true) := by
 have e1 : (cR l).length = l.length := by simp
 refine acalls_of (N := 19) Tryz.func89 rfl rfl (by simp) fun E hE => ?_
 refine WA ?_
 refine WA ?_
 refine aw_loopw (fun m F H => ∃ (k : Nat), m + k = l.length ∧ ((l.drop k).any fun x => f x.2) = (l.any fun x => f x.2) ∧ F = [(0, .c (.r v (cR l))), (1, .f (.func fn) [.p 0 0 0, .p 1 0 0]), (7, .c (I (cR l).length)), (8, .c (I k))] ∧ H = [.box [.c (I q)], .box [.c (I e)]]) ?_ ?_
 ·refine wk_of [some 0, some 1] (fun _ => [(0, .c (.r v (cR l))), (1, .f (.func fn) [.p 0 0 0, .p 1 0 0]), (7, .c (I (cR l).length)), (8, .c (I (0 : Nat)))]) (fun _ => [.box [.c (I q)], .box [.c (I e)]]) (by decide) (ZNL hE) ZCF ZCH (fun _ => ?_)
  exact ⟨l.length, 0, by omega, rfl, rfl, rfl⟩
 rintro m F H ⟨k, hk, hf, rfl, rfl⟩
 refine WA ?_
 refine aw_if rfl (fun hlt => ?_) (fun hge => ?_)
 ·obtain ⟨⟨w, c⟩, hz⟩ : ∃ x, l[k]? = some x := ⟨_, List.getElem?_eq_getElem (by omega)⟩
  have hrow : (cR l)[k]? = some (celR w c) := by rw [List.getElem?_map, hz]; rfl
  have hwc : (w, c) ∈ l := List.mem_of_getElem? hz
  obtain ⟨fc, hfc⟩ : ∃ b, f c = b := ⟨_, rfl⟩
  have hfd : ((l.drop k).any fun x => f x.2) = (fc || (l.drop (k + 1)).any fun x => f x.2) := by
   obtain ⟨h1, h2⟩ := List.getElem?_eq_some_iff.1 hz
   rw [List.drop_eq_getElem_cons h1, h2, List.any_cons, hfc]
  refine WA ?_
  refine WR ?_
  refine al_ef rfl (ef_call [0, 1] (fun _ => [.box [.c (I q)], .box [.c (I e)]]) false (fun _ => hcall w c hwc) rfl (.clo rfl) rfl (by decide) hfn rfl ZCH (by decide) ZCH (by simp)) ?_
  rintro F1 H1 ⟨_, _, _, _, ⟨rfl, rfl⟩, hF, hH⟩
  rw [hfc] at hF
  (refine NSU hF hH ?_; clear hF hH; rintro rfl rfl)
  refine WE ?_
  cases fc with
  | true =>
   refine aw_cond_t rfl ?_
   refine WA ?_
   refine aret_1 [some 0, some 1] [.box [.c (I q)], .box [.c (I e)]] rfl rfl rfl (by decide) (ZNK rfl) ZCH ⟨_, rfl, rfl, ?_⟩
   rw [← hf, hfd]
   simp
  | false =>
   refine aw_cond_f rfl ?_
   refine ZZ ?_
   refine WA ?_
   refine wk_of [some 0, some 1] (fun _ => [(0, .c (.r v (cR l))), (1, .f (.func fn) [.p 0 0 0, .p 1 0 0]), (7, .c (I (cR l).length)), (8, .c (I (k + 1 : Nat)))]) (fun _ => [.box [.c (I q)], .box [.c (I e)]]) (by decide) (ZNL hE) ZCF ZCH (fun _ => ?_)
   exact ⟨m - 1, by omega, k + 1, by omega, by rw [← hf, hfd]; rfl, rfl, rfl⟩
 refine ZZ ?_
 refine WA ?_
 refine aret_1 [some 0, some 1] [.box [.c (I q)], .box [.c (I e)]] rfl rfl rfl (by decide) (ZNK rfl) ZCH ⟨_, rfl, rfl, ?_⟩
 rw [← hf, List.drop_eq_nil_of_le (by omega)]; simp
theorem cont2_v (fn : FuncId) (hfn : okFn Tryz.prog fn = true) (f : Cel → Bool) (q e : Int) (v : Value) (l : List (Value × Cel)) (hl : l.length ≤ 1000000000) (hcall : ∀ w c, (w, c) ∈ l → ACalls Tryz.prog fn [celA w c, .p 0 0 0, .p 1 0 0] [.box [.c (I q)], .box [.c (I e)]] fun u H => u = .c (B (f c)) ∧ H = [.box [.c (I q)], .box [.c (I e)]]) : ACalls Tryz.prog 42 [.c (.r v (cR l)), .f (.func fn) [.p 0 0 0, .p 1 0 0]] [.box [.c (I q)], .box [.c (I e)]] fun u H => u = .c (B (l.any fun x => f x.2)) ∧ H = [.box [.c (I q)], .box [.c (I e)]] := by
 refine acalls_of (N := 9) Tryz.func42 rfl rfl (by simp) fun E hE => ?_
 refine WA ?_
 refine WR ?_
 refine al_ef rfl (ef_call [0, 1] (fun _ => [.box [.c (I q)], .box [.c (I e)]]) false (fun _ => idx2_v fn hfn f q e v l hl hcall) rfl .fn rfl (by decide) (by kernel_rfl) rfl ZCH (by decide) ZCH (by simp)) ?_
 rintro F1 H1 ⟨_, _, _, _, ⟨r, rfl, rfl, hr⟩, hF, hH⟩
 (refine NSU hF hH ?_; clear hF hH; rintro rfl rfl)
 refine WE ?_
 exact aret_1 [some 0, some 1] [.box [.c (I q)], .box [.c (I e)]] rfl rfl rfl (by decide) (ZNK rfl) ZCH ⟨congrArg (fun z => AV.c (B z)) (by rw [Bool.eq_iff_iff, ← hr]; simp), rfl⟩
def noLn (q e : Int) (c : Cel) : Bool := decide (((lnR (linG (grdOf c) q e 0)).length : Int) = 0)
theorem least1_v (va : Value) (c : Cel) (q e : Int) (hc : RCel c) (he : 1 ≤ e) : ACalls Tryz.prog 43 [celA va c, .p 0 0 0, .p 1 0 0] [.box [.c (I q)], .box [.c (I e)]] fun u H => u = .c (B (noLn q e c)) ∧ H = [.box [.c (I q)], .box [.c (I e)]] := by
 have hg := grdOf_ok hc
 refine acalls_of (N := 13) Tryz.func43 rfl rfl (by simp) fun E hE => ?_
 refine WA ?_
 refine ZZ ?_
 refine aw_regionT [(0, none), (2, none), (4, none), (1, some [2, 4]), (3, none), (5, some []), (6, none), (7, none), (8, none)] hMixed (by kernel_rfl) ?_
 refine WP ?_
 refine at_ef rfl rfl (ef_call0 false (fun _ => gridof_v va c hc) rfl .fn rfl (by decide) (by kernel_rfl) rfl (fun _ => C0 rfl) (by simp)) ?_
 rintro _ _ ⟨_, _, _, ⟨pg, vg, rfl, rfl⟩, hF, hH⟩
 (refine NST hF hH ?_; clear hF hH; rintro rfl rfl)
 refine ⟨ag_cons (by first | exact ag_rd rfl rfl rfl (ZL (KK (t := 3) rfl)) rfl) (ag_cons (by first | exact ag_rd rfl rfl rfl (ZL (KK (t := 3) rfl)) rfl) (ag_none)), ?_⟩
 refine WP ?_
 refine at_ef rfl rfl (ef_call0 false (fun _ => llines_v pg vg (grdOf c) q e 0 hg he (by decide)) rfl .fn rfl (by decide) (by kernel_rfl) rfl (fun _g => .cons (.aL (C0 rfl)) (.cons (.c rfl) (.cons (.c rfl) .nil))) (by simp)) ?_
 rintro _ _ ⟨_, _, _, ⟨vl, rfl, rfl⟩, hF, hH⟩
 (refine NST hF hH ?_; clear hF hH; rintro rfl rfl)
 refine ⟨ag_none, ?_⟩
 refine WQ ?_
 all_goals exact aret_1 [some 0, some 1] [.box [.c (I q)], .box [.c (I e)]] rfl rfl rfl (by decide) (ZNK rfl) ZCH ⟨rfl, rfl⟩
theorem leastof1_v (va : Value) (c : Cel) (q e : Int) (hc : RCel c) (he : 1 ≤ e) : ACalls Tryz.prog 61 [celA va c, .p 0 0 0, .p 1 0 0] [.box [.c (I q)], .box [.c (I e)]] fun u H => u = .c (B (noLn q e c)) ∧ H = [.box [.c (I q)], .box [.c (I e)]] := by
 refine acalls_of (N := 11) Tryz.func61 rfl rfl (by simp) fun E hE => ?_
 refine WA ?_
 refine WR ?_
 refine al_ef rfl (ef_call0 false (fun _ => linesin_v va c q e 0 hc he (by decide)) rfl .fn rfl (by decide) (by kernel_rfl) rfl (fun _ => C0 rfl) (by simp)) ?_
 rintro _ _ ⟨_, _, _, ⟨vl, rfl, rfl⟩, hF, hH⟩
 (refine NST hF hH ?_; clear hF hH; rintro rfl rfl)
 refine WE ?_
 all_goals exact aret_1 [some 0, some 1] [.box [.c (I q)], .box [.c (I e)]] rfl rfl rfl (by decide) (ZNK rfl) ZCH ⟨rfl, rfl⟩
end Go.Proofs.YtfilfijammemfaaGreatDoor

/- Parts of cells: plain. -/
namespace Go.Proofs.YtfilfijammemfaaGreatDoor
def ltS (a b : Spot) : Prop := a.2 < b.2 ∨ (a.2 = b.2 ∧ a.1 < b.1)
theorem ltS_uniq {l l' : List Spot} (h : l.Pairwise ltS) (h' : l'.Pairwise ltS) (hm : ∀ p, p ∈ l ↔ p ∈ l') : l = l' := by
 have hn : ∀ {l : List Spot}, l.Pairwise ltS → l.Nodup := fun h => List.Pairwise.imp (fun {a b} h e => by subst e; unfold ltS at h; omega) h
 refine List.Perm.eq_of_pairwise (le := ltS) ?_ h h' ((List.perm_ext_iff_of_nodup (hn h) (hn h')).2 hm)
 intro a b _ _ h3 h4
 unfold ltS at h3 h4
 omega
theorem hitR_sorted {y : Int} : ∀ {r : List UInt8} {x : Int}, (hitR x y r).Pairwise ltS
 | [], x => .nil
 | b :: r, x => by
  rw [hitR]
  split
  ·refine List.pairwise_cons.2 ⟨fun p hp => ?_, hitR_sorted⟩
   obtain ⟨k, _, rfl⟩ := hitR_mem.1 hp
   right
   exact ⟨rfl, by simp only; omega⟩
  ·exact hitR_sorted
theorem hitC_sorted {x : Int} : ∀ {rs : List (List UInt8)} {y : Int}, (hitC x y rs).Pairwise ltS
 | [], y => .nil
 | r :: rs, y => by
  rw [hitC, List.pairwise_append]
  refine ⟨hitR_sorted, hitC_sorted, fun a ha b hb => ?_⟩
  obtain ⟨k, _, rfl⟩ := hitR_mem.1 ha
  obtain ⟨i, j, r', _, _, rfl⟩ := hitC_mem.1 hb
  unfold ltS
  simp only
  omega
theorem covL_sorted {c : Cel} : (covL c).Pairwise ltS := hitC_sorted
theorem covG_sorted {g : Grd} (hl : g.on.length = g.w * g.h) : (covG g).Pairwise ltS := by
 by_cases hw : g.w = 0
 ·have e : covG g = [] := List.eq_nil_iff_forall_not_mem.2 fun p hp => by
   obtain ⟨i, h1, _⟩ := covG_mem.1 hp
   have := (List.getElem?_eq_some_iff.1 h1).1
   rw [hl, hw] at this
   simp at this
  rw [e]; exact .nil
 ·unfold covG covK
  rw [List.pairwise_map]
  refine List.Pairwise.sublist List.filter_sublist ?_
  refine List.Pairwise.imp ?_ List.pairwise_lt_range
  intro a b h
  unfold ltS spt
  simp only
  have e1 := Nat.div_add_mod a g.w
  have e2 := Nat.div_add_mod b g.w
  have h1 : a / g.w ≤ b / g.w := Nat.div_le_div_right (by omega)
  by_cases e : a / g.w = b / g.w
  ·rw [e] at e1 ⊢
   right
   omega
  ·left
   omega
theorem covG_is {c : Cel} (h : RCel c) : covG (grdOf c) = covL c := ltS_uniq (covG_sorted (grdOf_len h)) covL_sorted fun _ => grdOf_cov h
def nbS (p : Spot) : List Spot := [(p.1, p.2 - 1), (p.1 - 1, p.2), (p.1 + 1, p.2), (p.1, p.2 + 1)]
theorem nbS_mem {p q : Spot} : q ∈ nbS p ↔ (q.1 = p.1 ∧ q.2 = p.2 - 1) ∨ (q.1 = p.1 - 1 ∧ q.2 = p.2) ∨ (q.1 = p.1 + 1 ∧ q.2 = p.2) ∨ (q.1 = p.1 ∧ q.2 = p.2 + 1) := by
 obtain ⟨a, b⟩ := p
 obtain ⟨x, y⟩ := q
 unfold nbS
 simp
theorem nbS_symm {p q : Spot} (h : q ∈ nbS p) : p ∈ nbS q := by
 rw [nbS_mem] at h ⊢
 omega
inductive Conn (L : List Spot) (k : Spot) : Spot → Prop
 | here : k ∈ L → Conn L k k
 | step {p q : Spot} : Conn L k p → q ∈ nbS p → q ∈ L → Conn L k q
theorem Conn.mem {L : List Spot} {k q : Spot} : Conn L k q → q ∈ L
 | .here h => h
 | .step _ _ h => h
def Clo (L S : List Spot) : Prop := ∀ p ∈ S, ∀ q ∈ nbS p, q ∈ L → q ∈ S
theorem conn_end {L S T : List Spot} {k : Spot} (hS : Clo L S) (hk : k ∈ T) (hd : ∀ p ∈ T, p ∉ S) (hc : ∀ p ∈ T, Conn L k p) (hn : ∀ p ∈ T, ∀ q ∈ nbS p, q ∈ L → q ∈ S ∨ q ∈ T) (q : Spot) : q ∈ T ↔ Conn L k q := by
 refine ⟨hc q, fun h => ?_⟩
 induction h with
 | here _ => exact hk
 | step h1 h2 h3 ih =>
  rcases hn _ ih _ h2 h3 with h | h
  ·exact absurd (hS _ h _ (nbS_symm h2) h1.mem) (hd _ ih)
  ·exact h
noncomputable def gangL (L : List Spot) (k : Spot) : List Spot := L.filter fun q => @decide (Conn L k q) (Classical.propDecidable _)
theorem gangL_mem {L : List Spot} {k q : Spot} : q ∈ gangL L k ↔ Conn L k q := by
 unfold gangL
 rw [List.mem_filter, @decide_eq_true_iff _ (Classical.propDecidable _)]
 exact ⟨fun h => h.2, fun h => ⟨h.mem, h⟩⟩
theorem gangL_clo {L : List Spot} {k : Spot} : Clo L (gangL L k) := fun _ hp _ hq hL => gangL_mem.2 (.step (gangL_mem.1 hp) hq hL)
theorem gangL_sub {L : List Spot} {k : Spot} : ∀ p ∈ gangL L k, p ∈ L := fun _ hp => (gangL_mem.1 hp).mem
noncomputable def prtS (L A : List Spot) : List Spot × List (List Spot) := A.foldl (fun s p => if p ∈ s.1 then s else (s.1 ++ gangL L p, s.2 ++ [gangL L p])) ([], [])
theorem prtS_snoc {L A : List Spot} {p : Spot} : prtS L (A ++ [p]) = if p ∈ (prtS L A).1 then prtS L A else ((prtS L A).1 ++ gangL L p, (prtS L A).2 ++ [gangL L p]) := by
 unfold prtS
 rw [List.foldl_append]
 rfl
structure PrtOk (L A : List Spot) : Prop where
 clo : Clo L (prtS L A).1
 sub : ∀ q ∈ (prtS L A).1, q ∈ L
 all : ∀ q ∈ A, q ∈ (prtS L A).1
 flat : (prtS L A).1 = (prtS L A).2.flatten
 dis : (prtS L A).2.Pairwise fun X Y => ∀ p ∈ X, p ∉ Y
 part : ∀ X ∈ (prtS L A).2, X ≠ [] ∧ ∃ k ∈ L, X = gangL L k
 len : (prtS L A).2.length ≤ A.length
theorem prtS_ok {L : List Spot} : ∀ {n : Nat} {A : List Spot}, A.length = n → (∀ q ∈ A, q ∈ L) → PrtOk L A
 | 0, A, hn, _ => by
  rw [List.eq_nil_of_length_eq_zero hn]
  exact ⟨fun _ h => by simp [prtS] at h, fun _ h => by simp [prtS] at h, fun _ h => by simp at h, rfl, .nil, fun _ h => by simp [prtS] at h, by simp [prtS]⟩
 | n + 1, A, hn, hA => by
  obtain ⟨B, p, rfl⟩ : ∃ B p, A = B ++ [p] := by
   rcases List.eq_nil_or_concat A with h | ⟨B, p, h⟩
   ·subst h; simp at hn
   ·exact ⟨B, p, by rw [h, List.concat_eq_append]⟩
  have h := prtS_ok (L := L) (n := n) (A := B) (by simpa using hn) fun q hq => hA q (List.mem_append_left _ hq)
  have hp : p ∈ L := hA p (by simp)
  have e := prtS_snoc (L := L) (A := B) (p := p)
  by_cases hs : p ∈ (prtS L B).1
  ·rw [if_pos hs] at e
   refine ⟨?_, ?_, ?_, ?_, ?_, ?_, ?_⟩ <;> rw [e]
   ·exact h.clo
   ·exact h.sub
   ·intro q hq
    rcases List.mem_append.1 hq with hq | hq
    ·exact h.all q hq
    ·rw [List.mem_singleton.1 hq]; exact hs
   ·exact h.flat
   ·exact h.dis
   ·exact h.part
   ·have := h.len
    simp; omega
  ·rw [if_neg hs] at e
   have hpc : p ∈ gangL L p := gangL_mem.2 (.here hp)
   refine ⟨?_, ?_, ?_, ?_, ?_, ?_, ?_⟩ <;> rw [e] <;> simp only
   ·intro a ha b hb hL
    rcases List.mem_append.1 ha with ha | ha
    ·exact List.mem_append_left _ (h.clo a ha b hb hL)
    ·exact List.mem_append_right _ (gangL_clo a ha b hb hL)
   ·intro q hq
    rcases List.mem_append.1 hq with hq | hq
    ·exact h.sub q hq
    ·exact gangL_sub q hq
   ·intro q hq
    rcases List.mem_append.1 hq with hq | hq
    ·exact List.mem_append_left _ (h.all q hq)
    ·rw [List.mem_singleton.1 hq]; exact List.mem_append_right _ hpc
   ·rw [h.flat]; simp
   ·rw [List.pairwise_append]
    refine ⟨h.dis, List.pairwise_singleton _ _, fun X hX Y hY q hq hq2 => ?_⟩
    rw [List.mem_singleton.1 hY] at hq2
    have hqs : q ∈ (prtS L B).1 := by rw [h.flat, List.mem_flatten]; exact ⟨X, hX, hq⟩
    exact hs (conn_back h.clo (gangL_mem.1 hq2) hqs)
   ·intro X hX
    rcases List.mem_append.1 hX with hX | hX
    ·exact h.part X hX
    ·rw [List.mem_singleton.1 hX]
     exact ⟨fun e => (by rw [e] at hpc; cases hpc), p, hp, rfl⟩
   ·have := h.len
    simp; omega
where
 conn_back {L S : List Spot} {k : Spot} (hS : Clo L S) {q : Spot} (h : Conn L k q) (hq : q ∈ S) : k ∈ S := by
  induction h with
  | here _ => exact hq
  | step h1 h2 h3 ih => exact ih (hS _ hq _ (nbS_symm h2) h1.mem)
noncomputable def partL (L : List Spot) : List (List Spot) := (prtS L L).2
theorem partL_ok (L : List Spot) : PrtOk L L := prtS_ok rfl fun _ h => h
end Go.Proofs.YtfilfijammemfaaGreatDoor

/- The reference's spots in their order: cmp.Or, bySpot, SortFunc of spots, sorted; neighbours. -/
-- NEWM
namespace Go.Proofs.YtfilfijammemfaaGreatDoor
open Go Go.RowKit Go.Shelf
set_option maxRecDepth 100000
theorem orJ_v (l : List Int) (v : Value) (hl : l.length ≤ 1000000) : ACalls Tryz.prog 184 [.c (.r v (nR l))] [] fun u H => u = .c (I (fstN l)) ∧ H = [] := by
 have e1 : (nR l).length = l.length := by simp
 refine acalls_of (N := 18) Tryz.func184 rfl rfl (by simp) fun E hE => ?_
 refine WA ?_
 refine WA ?_
 refine WA ?_
 refine aw_loopw (fun m F H => ∃ (k : Nat), m + k = l.length ∧ fstN (l.drop k) = fstN l ∧ F = [(3, .c (I 0)), (6, .c (.r v (nR l))), (7, .c (I (nR l).length)), (8, .c (I k))] ∧ H = []) ?_ ?_
 ·refine wk_of [] (fun _ => [(3, .c (I 0)), (6, .c (.r v (nR l))), (7, .c (I (nR l).length)), (8, .c (I (0 : Nat)))]) (fun _ => []) (by decide) (ZNL hE) ZCF (fun _ => .nil) (fun _ => ?_)
  exact ⟨l.length, 0, by omega, rfl, rfl, rfl⟩
 rintro m F H ⟨k, hk, hf, rfl, rfl⟩
 refine WA ?_
 refine aw_if rfl (fun hlt => ?_) (fun hge => ?_)
 ·obtain ⟨n, hn⟩ : ∃ n, l[k]? = some n := ⟨_, List.getElem?_eq_getElem (by omega)⟩
  have hrow : (nR l)[k]? = some [I n] := by rw [List.getElem?_map, hn]; rfl
  have hd := fstN_drop hn
  refine WA ?_
  refine WA ?_
  refine aw_if rfl (fun hv => ?_) (fun hv => ?_)
  ·refine WA ?_
   exact aret_1 [] _ rfl rfl rfl (by decide) (ZNK rfl) (fun _ => .nil) ⟨by rw [← hf, hd, if_neg hv], rfl⟩
  ·refine ZZ ?_
   refine WA ?_
   refine wk_of [] (fun _ => [(3, .c (I 0)), (6, .c (.r v (nR l))), (7, .c (I (nR l).length)), (8, .c (I (k + 1 : Nat)))]) (fun _ => []) (by decide) (ZNL hE) ZCF (fun _ => .nil) (fun _ => ?_)
   exact ⟨m - 1, by omega, k + 1, by omega, by rw [← hf, hd, if_pos (by omega)], rfl, rfl⟩
 refine ZZ ?_
 refine WA ?_
 exact aret_1 [] _ rfl rfl rfl (by decide) (ZNK rfl) (fun _ => .nil) ⟨by rw [← hf, List.drop_eq_nil_of_le (by omega)]; rfl, rfl⟩
def cmpSp (a b : Spot) : Int := fstN [cmpI a.2 b.2, cmpI a.1 b.1]
theorem cmpSp_lt (a b : Spot) : cmpSp a b < 0 ↔ ltS a b := by
 have h1 := @cmpN_lt a.2 b.2
 have h2 := @cmpN_0 a.2 b.2
 have h3 := @cmpN_lt a.1 b.1
 unfold cmpSp ltS
 simp only [fstN]
 split
 ·split <;> omega
 ·omega
theorem cmpSp_v (a b : Spot) : ACalls Tryz.prog 141 [.a [.c (I a.1), .c (I a.2)], .a [.c (I b.1), .c (I b.2)]] [] fun u H => u = .c (I (cmpSp a b)) ∧ H = [] := by
 obtain ⟨a1, a2⟩ := a
 obtain ⟨b1, b2⟩ := b
 refine acalls_of (N := 17) Tryz.func141 rfl rfl (by simp) fun E hE => ?_
 refine WA ?_
 refine ZZ ?_
 refine aw_regionT [(0, none), (1, none), (2, none), (3, none), (5, none), (6, none), (7, none), (8, none), (4, some [5, 6, 7, 8]), (9, some []), (10, some []), (11, some []), (12, none)] hMixed (by kernel_rfl) ?_
 refine WP ?_
 refine at_ef rfl rfl (ef_call0 false (fun _ => cmpI_v _ _) rfl .fn rfl (by decide) (by kernel_rfl) rfl (fun _g => .cons (.c rfl) (.cons (.c rfl) .nil)) (by simp)) ?_
 rintro _ _ ⟨_, _, _, ⟨rfl, rfl⟩, hF, hH⟩
 (refine NST hF hH ?_; clear hF hH; rintro rfl rfl)
 refine ⟨ag_cons (by first | exact ag_rd rfl rfl rfl (ZX (KF (t := 87) (f := 0) rfl rfl)) rfl) (ag_cons (by first | exact ag_rd rfl rfl rfl (ZL (KK (t := 3) rfl)) rfl) (ag_cons (by first | exact ag_rd rfl rfl rfl (ZX (KF (t := 87) (f := 0) rfl rfl)) rfl) (ag_cons (by first | exact ag_rd rfl rfl rfl (ZL (KK (t := 3) rfl)) rfl) (ag_none)))), ?_⟩
 refine at_ef rfl rfl (ef_call0 false (fun _ => cmpI_v _ _) rfl .fn rfl (by decide) (by kernel_rfl) rfl (fun _g => .cons (.c rfl) (.cons (.c rfl) .nil)) (by simp)) ?_
 rintro _ _ ⟨_, _, _, ⟨rfl, rfl⟩, hF, hH⟩
 (refine NST hF hH ?_; clear hF hH; rintro rfl rfl)
 refine ⟨ag_none, ?_⟩
 refine WP ?_
 refine at_ef rfl rfl (ef_call0 true (fun g => orJ_v [cmpI a2 b2, cmpI a1 b1] (g (.o 2 0 2 2)) (by simp)) rfl .fn rfl (by decide) (by kernel_rfl) rfl (fun _ => .cons (.frz rfl rfl rfl rfl rfl) .nil) (fun _ _ _ _ ⟨hu, hH⟩ => by rw [hu, hH]; exact ⟨.c (.inl trivial), by simp⟩)) ?_
 rintro _ _ ⟨_, _, _, ⟨rfl, rfl⟩, hF, hH⟩
 (refine NST hF hH ?_; clear hF hH; rintro rfl rfl)
 refine ⟨ag_none, ?_⟩
 refine WQ ?_
 all_goals exact aret_1 [] _ rfl rfl rfl (by decide) (ZNK rfl) (fun _ => .nil) ⟨rfl, rfl⟩
def sortSpL_ren : Go.Shelf.Ren := ⟨fun | 6 => 140 | 15 => 138 | 14 => 183 | 28 => 180 | 29 => 181 | 20 => 221 | 21 => 222 | 22 => 223 | 23 => 224 | 24 => 225 | 25 => 226 | 26 => 227 | 27 => 228 | 46 => 255 | 47 => 217 | 48 => 218 | 49 => 256 | 50 => 257 | 57 => 287 | n => n, fun | 22 => 171 | 24 => 87 | 25 => 227 | 3 => 3 | 39 => 208 | 0 => 0 | 53 => 248 | 55 => 251 | 4 => 4 | 46 => 261 | 45 => 260 | 50 => 265 | 5 => 5 | 9 => 9 | 66 => 307 | 70 => 311 | 76 => 358 | 77 => 359 | n => n, fun | n => n⟩
theorem sortSpL : Go.Proofs.SlLaysF0.n6 Tryz.prog sortSpL_ren := {
 mixed := by kernel_rfl
 f6 := ⟨Tryz.f140.name, by decide, Tryz.func140.trans (congrArg some (by kernel_rfl))⟩
 f14 := ⟨Tryz.f183.name, by decide, Tryz.func183.trans (congrArg some (by kernel_rfl))⟩
 f15 := Tryz.func138.trans (congrArg some (by kernel_rfl))
 f20 := ⟨Tryz.f221.name, by decide, Tryz.func221.trans (congrArg some (by kernel_rfl))⟩
 f21 := ⟨Tryz.f222.name, by decide, Tryz.func222.trans (congrArg some (by kernel_rfl))⟩
 f22 := ⟨Tryz.f223.name, by decide, Tryz.func223.trans (congrArg some (by kernel_rfl))⟩
 f23 := ⟨Tryz.f224.name, by decide, Tryz.func224.trans (congrArg some (by kernel_rfl))⟩
 f24 := ⟨Tryz.f225.name, by decide, Tryz.func225.trans (congrArg some (by kernel_rfl))⟩
 f25 := ⟨Tryz.f226.name, by decide, Tryz.func226.trans (congrArg some (by kernel_rfl))⟩
 f26 := ⟨Tryz.f227.name, by decide, Tryz.func227.trans (congrArg some (by kernel_rfl))⟩
 f27 := ⟨Tryz.f228.name, by decide, Tryz.func228.trans (congrArg some (by kernel_rfl))⟩
 f28 := Tryz.func180.trans (congrArg some (by kernel_rfl))
 f29 := Tryz.func181.trans (congrArg some (by kernel_rfl))
 f46 := ⟨Tryz.f255.name, by decide, Tryz.func255.trans (congrArg some (by kernel_rfl))⟩
 f47 := Tryz.func217.trans (congrArg some (by kernel_rfl))
 f48 := Tryz.func218.trans (congrArg some (by kernel_rfl))
 f49 := ⟨Tryz.f256.name, by decide, Tryz.func256.trans (congrArg some (by kernel_rfl))⟩
 f50 := ⟨Tryz.f257.name, by decide, Tryz.func257.trans (congrArg some (by kernel_rfl))⟩
 f57 := ⟨Tryz.f287.name, by decide, Tryz.func287.trans (congrArg some (by kernel_rfl))⟩
 t0 := Tryz.underlying0
 a0 := Tryz.isAgg0
 z0 := Tryz.sizeOf0
 v0 := Tryz.zeroValue0
 t3 := Tryz.underlying3
 a3 := Tryz.isAgg3
 z3 := Tryz.sizeOf3
 v3 := Tryz.zeroValue3
 t4 := Tryz.underlying4
 a4 := Tryz.isAgg4
 z4 := Tryz.sizeOf4
 v4 := Tryz.zeroValue4
 t5 := Tryz.underlying5
 a5 := Tryz.isAgg5
 z5 := Tryz.sizeOf5
 v5 := Tryz.zeroValue5
 t9 := Tryz.underlying9
 a9 := Tryz.isAgg9
 z9 := Tryz.sizeOf9
 v9 := Tryz.zeroValue9
 t22 := Tryz.underlying171
 a22 := Tryz.isAgg171
 z22 := Tryz.sizeOf171
 v22 := Tryz.zeroValue171
 t25 := Tryz.underlying227
 a25 := Tryz.isAgg227
 z25 := Tryz.sizeOf227
 v25 := Tryz.zeroValue227
 t39 := Tryz.underlying208
 a39 := Tryz.isAgg208
 z39 := Tryz.sizeOf208
 v39 := Tryz.zeroValue208
 t45 := Tryz.underlying260
 a45 := Tryz.isAgg260
 z45 := Tryz.sizeOf260
 v45 := Tryz.zeroValue260
 t46 := Tryz.underlying261
 a46 := Tryz.isAgg261
 z46 := Tryz.sizeOf261
 v46 := Tryz.zeroValue261
 t50 := Tryz.underlying265
 a50 := Tryz.isAgg265
 z50 := Tryz.sizeOf265
 v50 := Tryz.zeroValue265
 t53 := Tryz.underlying248
 a53 := Tryz.isAgg248
 z53 := Tryz.sizeOf248
 v53 := Tryz.zeroValue248
 t55 := Tryz.underlying251
 a55 := Tryz.isAgg251
 z55 := Tryz.sizeOf251
 v55 := Tryz.zeroValue251
 t66 := Tryz.underlying307
 a66 := Tryz.isAgg307
 z66 := Tryz.sizeOf307
 v66 := Tryz.zeroValue307
 t70 := Tryz.underlying311
 a70 := Tryz.isAgg311
 z70 := Tryz.sizeOf311
 v70 := Tryz.zeroValue311
 t76 := Tryz.underlying358
 a76 := Tryz.isAgg358
 z76 := Tryz.sizeOf358
 v76 := Tryz.zeroValue358
 t77 := Tryz.underlying359
 a77 := Tryz.isAgg359
 z77 := Tryz.sizeOf359
 v77 := Tryz.zeroValue359 }
def spOf : List CV → Spot
 | [.s (.int _ a), .s (.int _ b)] => (a, b)
 | _ => (0, 0)
theorem sortSp_v (l : List Spot) (c : Nat) (hl : l.length ≤ 1000000) : ACallsX true Tryz.prog 140 [.o 0 0 l.length c, .f (.func 141) []] [.arr 87 2 c (sR l)] fun u H => ∃ l' : List Spot, (l'.Perm l ∧ l'.Pairwise fun a b => ¬ ltS b a) ∧ u = .t [] ∧ H = [.arr 87 2 c (sR l')] := by
 have h := acalls_sort sortSpL (k := 2) (fun w => Tryz.isAgg87 w) (fun w => Tryz.sizeOf87 w) (fun x => ∃ s : Spot, x = [I s.1, I s.2]) (fun x y => cmpSp (spOf x) (spOf y)) (g := 141) (by kernel_rfl)
  (by rintro _ ⟨s, rfl⟩; rw [cmpSp_lt]; unfold ltS; omega)
  (by rintro _ _ _ ⟨a, rfl⟩ ⟨b, rfl⟩ ⟨c, rfl⟩; simp only [cmpSp_lt, spOf]; unfold ltS; omega)
  (by rintro _ _ _ ⟨a, rfl⟩ ⟨b, rfl⟩ ⟨c, rfl⟩; simp only [cmpSp_lt, spOf]; unfold ltS; omega)
  (by rintro _ _ ⟨a, rfl⟩ ⟨b, rfl⟩; exact cmpSp_v a b)
  (sR l) (by intro r hr; obtain ⟨s, _, rfl⟩ := List.mem_map.1 hr; exact ⟨s, rfl⟩) (by simp; omega) (e := 87) (cap := c) (n := l.length) (c := c) (pn := true) (by simp)
 refine ACallsX.mono h fun u H => ?_
 rintro ⟨rows', rfl, rfl, hp, hs⟩
 have hm : (sR l).map spOf = l := by
  rw [List.map_map]
  exact (List.map_congr_left fun s _ => rfl).trans (List.map_id l)
 have hrow : ∀ r ∈ rows', ∃ s : Spot, r = [I s.1, I s.2] := fun r hr => by
  obtain ⟨s, _, rfl⟩ := List.mem_map.1 (hp.subset hr); exact ⟨s, rfl⟩
 refine ⟨rows'.map spOf, ⟨by have h2 := hp.map spOf; rwa [hm] at h2, ?_⟩, rfl, ?_⟩
 ·rw [List.pairwise_map]
  refine hs.imp fun {a b} h => ?_
  rw [cmpSp_lt] at h
  exact h
 ·congr 2
  show rows' = (rows'.map spOf).map fun p : Spot => [I p.1, I p.2]
  rw [List.map_map]
  refine (List.map_id _).symm.trans (List.map_congr_left fun r hr => ?_)
  obtain ⟨s, rfl⟩ := hrow r hr
  rfl
set_option maxHeartbeats 2000000 in
theorem sorted_v (es : SE) (ck : Nat) (L : List Spot) (hok : SetOk es ck L) (hL : L.Pairwise ltS) (hl : es.length ≤ 900000) : ACalls Tryz.prog 102 [.mp 0] [mpO encP encT es ck] fun u H => ∃ v, u = .c (.r v (sR L)) ∧ H = [mpO encP encT es ck] := by
 refine acalls_of (N := 18) Tryz.func102 rfl rfl (by simp) fun E hE => ?_
 refine WA ?_
 refine WA ?_
 refine ZR ?_
 refine WX1 ?_
 refine al_ef rfl (ef_range (ke := encP) (ve := encT) (l := es) (ck := ck) rfl rfl (by decide) Tryz.underlying90 rfl rfl) ?_
 rintro _ _ ⟨rfl, rfl⟩
 refine WE ?_
 refine aw_loopw (fun m F H => ∃ (seen : List Nat) (T : List Spot) (cp : Nat), unseen es seen = m ∧ (∀ p, p ∈ T ↔ p ∈ seenT es seen) ∧ T.Nodup ∧ F = [(3, .o 1 0 T.length cp), (6, .p 2 0 0)] ∧ H = [mpO encP encT es ck, .arr 87 2 cp (sR T), .itr 0 ck seen ck]) ?_ ?_
 ·refine wk_of [some 0, none, some 1] (fun _ => [(3, .o 1 0 0 0), (6, .p 2 0 0)]) (fun _ => [mpO encP encT es ck, .arr 87 2 0 [], .itr 0 ck [] ck]) (by decide) (ZNL hE) ZCF ZCH (fun _ => ?_)
  exact ⟨_, [], [], 0, rfl, fun p => by simp [seenT], .nil, rfl, rfl⟩
 rintro m F H ⟨seen, T, cp, hm, hT, hTn, rfl, rfl⟩
 have hTl : T.length ≤ es.length := by
  have h1 := len_mem hTn (hok.nk.filter (fun q => decide (q ∈ T))) fun p => by
   rw [List.mem_filter, decide_eq_true_iff]
   refine ⟨fun h => ⟨?_, h⟩, fun h => h.2⟩
   obtain ⟨e, h2, _, h3⟩ := seenT_mem.1 ((hT p).1 h)
   rw [← h3]; exact List.mem_map_of_mem h2
  have h2 := List.length_filter_le (fun q => decide (q ∈ T)) (es.map (·.2.1))
  rw [List.length_map] at h2
  omega
 refine ZR ?_
 refine al_ef rfl (ef_nextP (l := es) hok rfl rfl (by decide) rfl rfl rfl) ?_
 rintro _ _ (⟨eb, ex, ey, he, hne, rfl, rfl⟩ | ⟨hall, rfl, rfl⟩)
 all_goals (refine WE ?_)
 ·refine aw_cond_t rfl ?_
  have hlt := unseen_lt he hne
  have hT' : ∀ p, p ∈ T ++ [(ex, ey)] ↔ p ∈ seenT es (seen ++ [eb]) := fun p => by
   rw [seenT_snoc hok.nb he, List.mem_append, List.mem_append, hT]
  have hnew : (ex, ey) ∉ T := fun h => by
   rw [hT, seenT_mem] at h
   obtain ⟨e, h1, h2, h3⟩ := h
   have := nodup_inj hok.nk h1 he h3
   subst this
   exact hne h2
  have hTn' : (T ++ [(ex, ey)]).Nodup := List.nodup_append.2 ⟨hTn, by simp, fun a ha b hb e => hnew (by rw [List.mem_singleton.1 hb] at e; rw [← e]; exact ha)⟩
  refine ZR ?_
  refine ZA (rd_entryP (l := es) hok rfl rfl rfl rfl he) ?_
  refine WE ?_
  refine WR ?_
  refine al_ef rfl (Zapp (KA (t := 171) rfl)) ?_
  rintro _ _ ⟨_, cc, hcc, rfl, rfl⟩
  refine WE ?_
  refine wk_of [some 0, some 1, some 2] (fun _ => [(3, .o 1 0 (T ++ [(ex, ey)]).length cc), (6, .p 2 0 0)]) (fun _ => [mpO encP encT es ck, .arr 87 2 cc (sR (T ++ [(ex, ey)])), .itr 0 ck (seen ++ [eb]) ck]) (by decide) (ZNL hE) ZCF ZCH (fun _ => ?_)
  exact ⟨_, by rw [← hm]; exact hlt, seen ++ [eb], T ++ [(ex, ey)], cc, rfl, hT', hTn', rfl, rfl⟩
 ·refine aw_cond_f rfl ?_
  have hTL : ∀ p, p ∈ T ↔ p ∈ L := fun p => (hT p).trans (seenT_end hok hall)
  refine ZZ ?_
  refine WR ?_
  refine al_ef rfl (ef_callp [1] (fun _ => [.arr 87 2 cp (sR T)]) false (fun _ => sortSp_v T cp (by omega)) rfl .fn rfl (by decide) (by kernel_rfl) rfl ZCH (by decide) ZCH (by simp)) ?_
  rintro F1 H1 ⟨_, _, _, _, ⟨l', ⟨hlp, hls⟩, rfl, rfl⟩, hF, hH⟩
  rw [killF_nil] at hF; (refine NSU hF hH ?_; clear hF hH; rintro rfl rfl)
  refine WE ?_
  have hll : l'.length = T.length := hlp.length_eq
  have hl' : l'.Pairwise ltS := by
   have hn' : l'.Nodup := (hlp.nodup_iff).2 hTn
   refine List.Pairwise.imp (R := fun a b => ¬ ltS b a ∧ a ≠ b) (fun {a b} h => ?_) (hls.and hn')
   obtain ⟨h1, h2⟩ := h
   obtain ⟨x1, y1⟩ := a
   obtain ⟨x2, y2⟩ := b
   unfold ltS at h1 ⊢
   simp only at h1 ⊢
   by_cases e1 : y1 = y2
   ·by_cases e2 : x1 = x2
    ·exact absurd (by rw [e1, e2]) h2
    ·omega
   ·omega
  obtain rfl : l' = L := ltS_uniq hl' hL fun p => (hlp.mem_iff).trans (hTL p)
  refine WA ?_
  exact aret_f1 [some 0] [mpO encP encT es ck] rfl rfl rfl rfl (by rw [List.drop_zero, List.take_of_length_le (by simp; omega)]) (by simp; omega) rfl (by decide) (ZNK rfl) ZCH (fun q => ⟨q, rfl, rfl⟩)
theorem neighb_v (x y : Int) (hx : -100000000 ≤ x ∧ x ≤ 100000000) (hy : -100000000 ≤ y ∧ y ≤ 100000000) : ACalls Tryz.prog 103 [.a [.c (I x), .c (I y)]] [] fun u H => ∃ v, u = .c (.r v (sR [(x - 1, y), (x + 1, y), (x, y - 1), (x, y + 1)])) ∧ H = [] := by
 refine acalls_of (N := 28) Tryz.func103 rfl rfl (by simp) fun E hE => ?_
 refine WA ?_
 refine WA ?_
 exact aret_f1 [] _ rfl rfl rfl rfl rfl rfl rfl (by decide) (ZNK rfl) (fun _ => .nil) (fun q => ⟨q, rfl, rfl⟩)
end Go.Proofs.YtfilfijammemfaaGreatDoor
