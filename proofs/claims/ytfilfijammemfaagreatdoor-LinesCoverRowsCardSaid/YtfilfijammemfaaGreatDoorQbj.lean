/- slices.SortFunc and slices.Sort over values, from the library's contracts. Conditions: none. -/
import Derived.Test.YtfilfijammemfaaGreatDoorQbi
import Derived.Test.YtfilfijammemfaaGreatDoorQbh
import Derived.Test.YtfilfijammemfaaGreatDoorQar
import Derived.Test.YtfilfijammemfaaGreatDoorQao
import Derived.Test.YtfilfijammemfaaGreatDoorQas
import Derived.Shelf.SlSortCmp.NoneTotal
import Derived.Shelf.SortM.Plain
import Derived.Shelf.SortM.SortNone
set_option linter.unusedSimpArgs false
set_option linter.unusedVariables false
-- NEWM
namespace Go.Proofs.YtfilfijammemfaaGreatDoor
open Go Go.RowKit
set_option maxRecDepth 100000
end Go.Proofs.YtfilfijammemfaaGreatDoor
-- NEWM
namespace Go.Proofs.YtfilfijammemfaaGreatDoor
open Go Go.RowKit
set_option maxRecDepth 100000
end Go.Proofs.YtfilfijammemfaaGreatDoor
namespace Go.Proofs.YtfilfijammemfaaGreatDoor
end Go.Proofs.YtfilfijammemfaaGreatDoor
namespace Go.Proofs.YtfilfijammemfaaGreatDoor
theorem hitR_nodup {y : Int} : ∀ {r : List UInt8} {x : Int}, (hitR x y r).Nodup
 | [], _ => by simp [hitR]
 | b :: r, x => by
  have ih := hitR_nodup (y := y) (r := r) (x := x + 1)
  have hm : (x, y) ∉ hitR (x + 1) y r := fun h => by
   obtain ⟨k, _, e⟩ := hitR_mem.1 h
   have := (Prod.mk.inj e).1
   omega
  unfold hitR
  split
  ·exact List.nodup_cons.2 ⟨hm, ih⟩
  ·exact ih
theorem hitC_nodup {x : Int} : ∀ {rs : List (List UInt8)} {y : Int}, (hitC x y rs).Nodup
 | [], _ => by simp [hitC]
 | r :: rs, y => by
  rw [hitC]
  refine List.nodup_append.2 ⟨hitR_nodup, hitC_nodup, fun a ha b hb e => ?_⟩
  subst e
  obtain ⟨k, _, e1⟩ := hitR_mem.1 ha
  obtain ⟨i, k2, r2, _, _, e2⟩ := hitC_mem.1 hb
  rw [e1] at e2
  have := (Prod.mk.inj e2).2
  omega
theorem covL_nodup {c : Cel} : (covL c).Nodup := hitC_nodup
end Go.Proofs.YtfilfijammemfaaGreatDoor
namespace Go.Proofs.YtfilfijammemfaaGreatDoor
theorem rE_eq {f : Int → Bool} {x : Int} (hx : ∀ j, x ≤ j → f j = false) : ∀ {n m : Nat} {c : Int}, x ≤ c + n + 1 → x ≤ c + m + 1 → rE f n c = rE f m c
 | 0, 0, _, _, _ => rfl
 | 0, m + 1, c, h, _ => by rw [rE, rE, if_neg (by rw [hx (c + 1) (by omega)]; simp)]
 | n + 1, 0, c, _, h => by rw [rE, rE, if_neg (by rw [hx (c + 1) (by omega)]; simp)]
 | n + 1, m + 1, c, h1, h2 => by
  rw [rE, rE]
  split
  ·exact rE_eq hx (by omega) (by omega)
  ·rfl
theorem lnC_mem {f : Int → Bool} {r c0 : Int} {W n : Nat} {t : Lin} : t ∈ lnC f r c0 W n ↔ ∃ k : Nat, k < n ∧ f (c0 + (k : Nat)) = true ∧ f (c0 + (k : Nat) - 1) = false ∧ t = (r, c0 + (k : Nat), rE f (W - 1 - k) (c0 + (k : Nat))) := by
 unfold lnC
 simp only [List.mem_map, List.mem_filter, List.mem_range, Bool.and_eq_true, Bool.not_eq_true']
 constructor
 ·rintro ⟨k, ⟨h1, h2, h3⟩, rfl⟩
  exact ⟨k, h1, h2, h3, rfl⟩
 ·rintro ⟨k, h1, h2, h3, rfl⟩
  exact ⟨k, ⟨h1, h2, h3⟩, rfl⟩
theorem lnS_mem {f : Int → Int → Bool} {y x : Int} {W : Nat} {ev ph : Int} {n : Nat} {t : Lin} : t ∈ lnS f y x W ev ph n ↔ ∃ i : Nat, i < n ∧ ((y + (i : Nat)) - ph).tmod ev = 0 ∧ t ∈ lnC (f (y + (i : Nat))) (y + (i : Nat)) x W W := by
 unfold lnS
 simp only [List.mem_flatMap, List.mem_range]
 constructor
 ·rintro ⟨i, h1, h2⟩
  split at h2
  ·cases h2
  ·rename_i h3
   exact ⟨i, h1, Classical.not_not.1 h3, h2⟩
 ·rintro ⟨i, h1, h2, h3⟩
  exact ⟨i, h1, by rw [if_neg (by simpa using h2)]; exact h3⟩
def ltL (a b : Lin) : Prop := a.1 < b.1 ∨ (a.1 = b.1 ∧ a.2.1 < b.2.1)
def leL (a b : Lin) : Prop := a.1 < b.1 ∨ (a.1 = b.1 ∧ a.2.1 ≤ b.2.1)
theorem lnC_sorted {f : Int → Bool} {r c0 : Int} {W n : Nat} : (lnC f r c0 W n).Pairwise ltL := by
 unfold lnC
 rw [List.pairwise_map]
 refine List.Pairwise.sublist List.filter_sublist ?_
 refine List.Pairwise.imp ?_ List.pairwise_lt_range
 intro a b h
 right
 exact ⟨rfl, by simp only; omega⟩
theorem lnC_row {f : Int → Bool} {r c0 : Int} {W n : Nat} {t : Lin} (h : t ∈ lnC f r c0 W n) : t.1 = r := by
 obtain ⟨k, _, _, _, rfl⟩ := lnC_mem.1 h
 rfl
theorem lnS_sorted {f : Int → Int → Bool} {y x : Int} {W : Nat} {ev ph : Int} : ∀ {n : Nat}, (lnS f y x W ev ph n).Pairwise ltL
 | 0 => by simp [lnS]
 | n + 1 => by
  rw [lnS_succ, List.pairwise_append]
  refine ⟨lnS_sorted, ?_, ?_⟩
  ·split
   ·exact .nil
   ·exact lnC_sorted
  ·intro a ha b hb
   split at hb
   ·cases hb
   obtain ⟨i, h1, _, h2⟩ := lnS_mem.1 ha
   have e1 := lnC_row h2
   have e2 := lnC_row hb
   left
   omega
theorem ltL_irr {a : Lin} : ¬ ltL a a := fun h => by unfold ltL at h; omega
theorem ltL_nodup {l : List Lin} (h : l.Pairwise ltL) : l.Nodup := List.Pairwise.imp (fun {a b} h e => by subst e; exact ltL_irr h) h
def trQ (q : Int) (p : Spot) : Spot := if q = 1 then (p.2, p.1) else p
theorem trQ_tr {q : Int} {p : Spot} : trQ q (trQ q p) = p := by unfold trQ; split <;> rfl
theorem atQ_iff {g : Grd} (hl : g.on.length = g.w * g.h) {q r c : Int} : atQ g q r c = true ↔ trQ q (c, r) ∈ covG g := by
 unfold atQ trQ
 split
 ·exact atG_iff hl
 ·exact atG_iff hl
abbrev hasL (L : List Spot) (r c : Int) : Bool := decide ((c, r) ∈ L)
def begL (L : List Spot) (ev ph : Int) (p : Spot) : Bool := decide ((p.2 - ph).tmod ev = 0) && !hasL L p.2 (p.1 - 1)
def linL (A L : List Spot) (ev ph : Int) : List Lin := (L.filter (begL A ev ph)).map fun p => (p.2, p.1, rE (hasL A p.2) 1000 p.1)
theorem linL_mem {A L : List Spot} {ev ph : Int} {t : Lin} : t ∈ linL A L ev ph ↔ ∃ p ∈ L, begL A ev ph p = true ∧ t = (p.2, p.1, rE (hasL A p.2) 1000 p.1) := by
 unfold linL
 simp only [List.mem_map, List.mem_filter]
 constructor
 ·rintro ⟨p, ⟨h1, h2⟩, rfl⟩; exact ⟨p, h1, h2, rfl⟩
 ·rintro ⟨p, h1, h2, rfl⟩; exact ⟨p, ⟨h1, h2⟩, rfl⟩
theorem linL_nodup {A L : List Spot} {ev ph : Int} (h : L.Nodup) : (linL A L ev ph).Nodup := by
 unfold linL
 rw [List.nodup_iff_pairwise_ne, List.pairwise_map]
 refine List.Pairwise.imp ?_ (h.filter _)
 intro a b hab e
 obtain ⟨e1, e2⟩ := Prod.mk.inj e
 obtain ⟨e2, _⟩ := Prod.mk.inj e2
 exact hab (Prod.ext e2 e1)
theorem linL_snoc {A L : List Spot} {ev ph : Int} {p : Spot} : linL A (L ++ [p]) ev ph = linL A L ev ph ++ (if begL A ev ph p = true then [(p.2, p.1, rE (hasL A p.2) 1000 p.1)] else []) := by
 unfold linL
 rw [List.filter_append, List.map_append]
 congr 1
 simp only [List.filter_cons, List.filter_nil]
 split <;> rfl
theorem linG_mem {g : Grd} (hl : g.on.length = g.w * g.h) {q : Int} (hw : wQ g q ≤ 999) {L : List Spot} {ev ph : Int} (hL : ∀ p, p ∈ L ↔ trQ q p ∈ covG g) {t : Lin} : t ∈ linG g q ev ph ↔ t ∈ linL L L ev ph := by
 have hat : ∀ r c, atQ g q r c = hasL L r c := fun r c => by
  rw [Bool.eq_iff_iff, atQ_iff hl, ← hL, decide_eq_true_iff]
 have hin : ∀ p, p ∈ L → xQ g q ≤ p.1 ∧ p.1 < xQ g q + (wQ g q : Nat) ∧ yQ g q ≤ p.2 ∧ p.2 < yQ g q + (hQ g q : Nat) := fun p hp => by
  have h1 : atQ g q p.2 p.1 = true := by rw [hat]; simpa using hp
  have h2 := atQ_in h1
  refine ⟨h2.1, h2.2, ?_⟩
  unfold atQ atG at h1
  unfold yQ hQ
  split at h1
  ·rename_i e
   simp only [Bool.and_eq_true, decide_eq_true_iff] at h1
   rw [if_pos e, if_pos e]; omega
  ·rename_i e
   simp only [Bool.and_eq_true, decide_eq_true_iff] at h1
   rw [if_neg e, if_neg e]; omega
 unfold linG
 rw [lnS_mem, linL_mem]
 constructor
 ·rintro ⟨i, h1, h2, h3⟩
  obtain ⟨k, k1, k2, k3, rfl⟩ := lnC_mem.1 h3
  rw [hat] at k2 k3
  have hm : (xQ g q + (k : Nat), yQ g q + (i : Nat)) ∈ L := by simpa using k2
  refine ⟨_, hm, ?_, ?_⟩
  ·unfold begL
   simp only [h2, decide_true, Bool.true_and, k3, Bool.not_false]
  ·simp only
   have e : atQ g q (yQ g q + (i : Nat)) = hasL L (yQ g q + (i : Nat)) := funext fun c => hat _ _
   rw [e]
   rw [rE_eq (f := hasL L (yQ g q + (i : Nat))) (x := xQ g q + (wQ g q : Nat)) (n := wQ g q - 1 - k) (m := 1000) (c := xQ g q + (k : Nat))]
   ·intro j hj
    rw [← hat]
    exact atQ_out (.inr hj)
   ·omega
   ·omega
 ·rintro ⟨p, h1, h2, rfl⟩
  unfold begL at h2
  simp only [Bool.and_eq_true, decide_eq_true_iff, Bool.not_eq_true'] at h2
  obtain ⟨h2, h3⟩ := h2
  obtain ⟨b1, b2, b3, b4⟩ := hin p h1
  obtain ⟨i, hi⟩ : ∃ i : Nat, p.2 = yQ g q + i := ⟨(p.2 - yQ g q).toNat, by omega⟩
  obtain ⟨k, hk⟩ : ∃ k : Nat, p.1 = xQ g q + k := ⟨(p.1 - xQ g q).toNat, by omega⟩
  obtain ⟨a, b⟩ := p
  simp only at hi hk h1 h2 h3 b1 b2 b3 b4
  subst hi; subst hk
  refine ⟨i, by omega, h2, lnC_mem.2 ⟨k, by omega, ?_, ?_, ?_⟩⟩
  ·rw [hat]; simpa using h1
  ·rw [hat]; exact h3
  ·simp only
   have e : atQ g q (yQ g q + (i : Nat)) = hasL L (yQ g q + (i : Nat)) := funext fun c => hat _ _
   rw [e]
   rw [rE_eq (f := hasL L (yQ g q + (i : Nat))) (x := xQ g q + (wQ g q : Nat)) (n := wQ g q - 1 - k) (m := 1000) (c := xQ g q + (k : Nat))]
   ·intro j hj
    rw [← hat]
    exact atQ_out (.inr hj)
   ·omega
   ·omega
theorem linG_is {g : Grd} (hl : g.on.length = g.w * g.h) {q : Int} (hw : wQ g q ≤ 999) {L : List Spot} {ev ph : Int} (hL : ∀ p, p ∈ L ↔ trQ q p ∈ covG g) (hn : L.Nodup) {l : List Lin} (hp : l.Perm (linL L L ev ph)) (hs : l.Pairwise leL) : l = linG g q ev ph := by
 have hsg : (linG g q ev ph).Pairwise ltL := lnS_sorted
 have h2 : l.Perm (linG g q ev ph) := hp.trans ((List.perm_ext_iff_of_nodup (linL_nodup hn) (ltL_nodup hsg)).2 fun t => (linG_mem hl hw hL).symm)
 refine List.Perm.eq_of_pairwise (le := leL) ?_ hs (hsg.imp fun {a b} h => by unfold leL; unfold ltL at h; omega) h2
 intro a b ha hb h3 h4
 have ha' := h2.subset ha
 have e1 : a.1 = b.1 ∧ a.2.1 = b.2.1 := by unfold leL at h3 h4; omega
 apply Classical.byContradiction
 intro hne
 obtain ⟨i, hi, rfl⟩ := List.getElem_of_mem ha'
 obtain ⟨j, hj, rfl⟩ := List.getElem_of_mem hb
 rcases Nat.lt_trichotomy i j with h | h | h
 ·have := List.pairwise_iff_getElem.1 hsg i j hi hj h
  unfold ltL at this; omega
 ·subst h; exact hne rfl
 ·have := List.pairwise_iff_getElem.1 hsg j i hj hi h
  unfold ltL at this; omega
end Go.Proofs.YtfilfijammemfaaGreatDoor
namespace Go.Proofs.YtfilfijammemfaaGreatDoor
open Go Go.RowKit
set_option maxRecDepth 100000
def cmpI (m n : Int) : Int := if m < n then -1 else if n < m then 1 else 0
theorem nanI_v (n : Int) : ACalls Tryz.prog 182 [.c (I n)] [] fun u H => u = .c (B false) ∧ H = [] := by
 have hn : ¬ n ≠ n := fun h => h rfl
 refine ze (N := 6) Tryz.func182 rfl rfl (by simp) fun E hE => ?_
 repeat' (first
  | (with_reducible refine zt1 ?_) | (with_reducible refine zw1 ?_) | (with_reducible refine zv1 ?_) | (with_reducible refine zA1 ?_) | (with_reducible refine zy1 ?_) | (with_reducible refine zB1 ?_) | (with_reducible refine zz1 rfl ?_) | (with_reducible refine zx1 ?_) | (with_reducible refine zV ?_) | (with_reducible refine zM ?_) | (with_reducible refine zu1 ?_) | (with_reducible refine zX ?_)
  | refine zb rfl ?_ | refine zd rfl ?_ | refine zW rfl (by assumption) ?_ | refine zP rfl (by assumption) ?_ | refine zl rfl (fun _ => ?_) (fun _ => ?_) | refine zC rfl (fun _ => ?_) (fun _ => ?_)
  | (refine zo ?_; refine WE ?_))
 exact zi [] _ rfl rfl rfl (by decide) (ZNK rfl) (fun _ => .nil) ⟨by simp, rfl⟩
theorem cmpI_v (m n : Int) : ACalls Tryz.prog 139 [.c (I m), .c (I n)] [] fun u H => u = .c (I (cmpI m n)) ∧ H = [] := by
 refine ze (N := 20) Tryz.func139 rfl rfl (by simp) fun E hE => ?_
 repeat' (first
  | (with_reducible refine zt1 ?_) | (with_reducible refine zw1 ?_) | (with_reducible refine zv1 ?_) | (with_reducible refine zA1 ?_) | (with_reducible refine zy1 ?_) | (with_reducible refine zB1 ?_) | (with_reducible refine zz1 rfl ?_) | (with_reducible refine zx1 ?_) | (with_reducible refine zV ?_) | (with_reducible refine zM ?_) | (with_reducible refine zu1 ?_) | (with_reducible refine zX ?_)
  | refine zb rfl ?_ | refine zd rfl ?_ | refine zW rfl (by assumption) ?_ | refine zP rfl (by assumption) ?_ | refine zl rfl (fun _ => ?_) (fun _ => ?_) | refine zC rfl (fun _ => ?_) (fun _ => ?_)
  | (refine zo (id := 1) ?_
     refine WO ?_
     refine zf rfl (za false (fun _ => nanI_v _) rfl .fn rfl (by decide) (by kernel_rfl) rfl (fun _g => .cons (.c rfl) .nil) (by simp)) ?_
     rintro _ _ ⟨_, _, _, ⟨rfl, rfl⟩, hF, hH⟩
     (refine NST hF hH ?_; clear hF hH; rintro rfl rfl)
     refine WE ?_)
  | (refine zo (id := 2) ?_
     refine WO ?_
     refine zf rfl (za false (fun _ => nanI_v _) rfl .fn rfl (by decide) (by kernel_rfl) rfl (fun _g => .cons (.c rfl) .nil) (by simp)) ?_
     rintro _ _ ⟨_, _, _, ⟨rfl, rfl⟩, hF, hH⟩
     (refine NST hF hH ?_; clear hF hH; rintro rfl rfl)
     refine WE ?_)
  | (refine zo ?_; refine WE ?_))
 all_goals (refine zi [] _ rfl rfl rfl (by decide) (ZNK rfl) (fun _ => .nil) ⟨?_, rfl⟩)
 all_goals (unfold cmpI; first | rw [if_pos (by omega)] | rw [if_neg (by omega), if_pos (by omega)] | rw [if_neg (by omega), if_neg (by omega)])
end Go.Proofs.YtfilfijammemfaaGreatDoor
namespace Go.Proofs.YtfilfijammemfaaGreatDoor
open Go Go.RowKit Go.Shelf Go.Sort
theorem Stp.grown {w w' : World} (h : Stp w w' (fun _ => False)) : ∃ q os, w' = Sort.grow (w.drewN q) os := by
 refine ⟨w'.drawn - w.drawn, w'.heap.extract w.heap.size w'.heap.size, ?_⟩
 have hh : w.heap ++ w'.heap.extract w.heap.size w'.heap.size = w'.heap := by
  refine Array.ext_getElem? fun k => ?_
  rw [Array.getElem?_append]
  split
  ·rename_i hk; exact (h.block k hk (fun x => x)).symm
  ·rename_i hk
   rw [Array.getElem?_extract]
   have hs := h.size
   by_cases h2 : k < w'.heap.size
   ·rw [if_pos (by omega)]; congr 1; omega
   ·rw [if_neg (by omega), Array.getElem?_eq_none (by omega)]
 have h1 := h.os; have h2 := h.tape; have h3 := h.output; have h4 := h.drawn
 obtain ⟨hp, tp, dr, o, out⟩ := w
 obtain ⟨hp', tp', dr', o', out'⟩ := w'
 simp only at h1 h2 h3 h4 hh ⊢
 subst h1; subst h2; subst h3
 simp only [Sort.grow, World.drewN]
 rw [hh, show dr + (dr' - dr) = dr' by omega]
section
variable {w : World} {S : Nat → Prop} {ρ : List (Option Nat)} {e : TypeId} {k cap B n : Nat} {rows rows' : List (List CV)} {cs : Array Value} {os : Array Obj} {f : Array Value → Array Value}
theorem sort_heap_ne {b : Nat} (hb : b < w.heap.size) (hne : b ≠ B) : (Sort.grow (mapBlock (Sort.ahead w n) B f) os).heap[b]? = w.heap[b]? := by
 simp only [Sort.grow, mapBlock, Sort.ahead]
 rw [Array.getElem?_append_left (by simpa using hb), Array.getElem?_modify, if_neg (fun e => hne e.symm)]
theorem sort_heap_at (hh : w.heap[B]? = some (.cells cs e (0, 0))) : (Sort.grow (mapBlock (Sort.ahead w n) B f) os).heap[B]? = some (.cells (f cs) e (0, 0)) := by
 have hb : B < w.heap.size := by
  rcases Nat.lt_or_ge B w.heap.size with h | h
  ·exact h
  ·rw [Array.getElem?_eq_none h] at hh; cases hh
 simp only [Sort.grow, mapBlock, Sort.ahead]
 rw [Array.getElem?_append_left (by simpa using hb), Array.getElem?_modify, if_pos rfl, hh]
 rfl
theorem sort_size : w.heap.size ≤ (Sort.grow (mapBlock (Sort.ahead w n) B f) os).heap.size := by
 simp [Sort.grow, mapBlock, Sort.ahead]
theorem inP_arr1 {e : TypeId} {k cap : Nat} {rows : List (List CV)} (i k' B : Nat) : ¬ inP [OB.arr e k cap rows] i k' B := fun ⟨o, h, h2⟩ => by
 rw [List.getElem?_singleton] at h
 split at h
 ·injection h with h; subst h; exact arr_nopool h2
 ·cases h
theorem sort_back (hR : RH w S ρ [.arr e k cap rows]) (hB : atB ρ 0 = some B) (hh : w.heap[B]? = some (.cells cs e (0, 0))) (hcs : (f cs).size = cap * k) (hmx : cap ≤ maxLen) (hl : rows'.length ≤ cap)
    (hrow : ∀ row ∈ rows', row.length = k ∧ ∀ u ∈ row, Good w S u ∧ u.den.oneCell' = true) (hcell : ∀ (i j : Nat) (row : List CV) (u : CV), rows'[i]? = some row → row[j]? = some u → (f cs)[i * k + j]? = some u.den) :
    RH (Sort.grow (mapBlock (Sort.ahead w n) B f) os) S ρ [.arr e k cap rows'] ∧ Stp w (Sort.grow (mapBlock (Sort.ahead w n) B f) os) (fun b => (∃ i, atB ρ i = some b) ∨ ∃ i k', inP [OB.arr e k cap rows] i k' b) := by
 have hS : ∀ b, S b → S b ∧ (Sort.grow (mapBlock (Sort.ahead w n) B f) os).heap[b]? = w.heap[b]? := fun b hb => ⟨hb, sort_heap_ne (hR.sS b hb) (fun e => hR.ap 0 B hB (e ▸ hb))⟩
 refine ⟨⟨hR.len, hR.nd, hR.ap, fun i b hi => Nat.lt_of_lt_of_le (hR.lt i b hi) sort_size, fun b hb => Nat.lt_of_lt_of_le (hR.sS b hb) sort_size, fun i o hi => ?_, PL.none inP_arr1⟩, ⟨rfl, rfl, rfl, sort_size, fun b hb hn => sort_heap_ne hb (fun e => hn (.inl ⟨0, e ▸ hB⟩)), ?_⟩⟩
 ·cases i with
  | succ i => simp at hi
  | zero =>
   simp only [List.getElem?_cons_zero, Option.some.injEq] at hi
   subst hi
   exact .inr ⟨B, f cs, hB, sort_heap_at hh, hcs, hmx, hl, fun row hr => ⟨(hrow row hr).1, fun u hu => ⟨((hrow row hr).2 u hu).1.mono hS, ((hrow row hr).2 u hu).2⟩⟩, hcell⟩
 ·show w.drawn ≤ w.drawn + n
  exact Nat.le_add_right _ _
end
abbrev SEl (w : World) (S : Nat → Prop) (k : Nat) (p : List CV → Prop) := { x : List CV // x.length = k ∧ p x ∧ ∀ u ∈ x, Good w S u ∧ u.den.oneCell' = true }
def SEl.enc {w : World} {S : Nat → Prop} {k : Nat} {p : List CV → Prop} (x : SEl w S k p) : List Value := x.1.map CV.den
theorem sort_fin {S : Nat → Prop} {ρ : List (Option Nat)} {w u : World} {e : TypeId} {k cap : Nat} {rows rows' : List (List CV)} {pn : Bool} {Q : AV → List OB → Prop} (hR : RH w S ρ [.arr e k cap rows]) (h1 : RH u S ρ [.arr e k cap rows']) (h2 : Stp w u (fun b => (∃ i, atB ρ i = some b) ∨ ∃ i k', inP [OB.arr e k cap rows] i k' b)) (hq : Q (.t []) [.arr e k cap rows']) :
    ∃ v H' ρ' S', Ending.returned (.tuple #[]) = .returned (AV.den ρ' H' v) ∧ Q v H' ∧ WF u S' ρ' H' v ∧ RH u S' ρ' H' ∧
        Stp w u (fun B => (∃ i, atB ρ i = some B) ∨ ∃ i k', inP [OB.arr e k cap rows] i k' B) ∧ (∀ b, S' b → S b ∨ (w.heap.size ≤ b ∨ ∃ i k', inP [OB.arr e k cap rows] i k' b)) ∧ (∀ i B, atB ρ' i = some B → (w.heap.size ≤ B ∨ ∃ i k', inP [OB.arr e k cap rows] i k' B) ∨ (i < [OB.arr e k cap rows].length ∧ atB ρ i = some B)) ∧
        (∀ i k' B, inP H' i k' B → w.heap.size ≤ B ∨ ∃ i k', inP [OB.arr e k cap rows] i k' B) ∧
        (∀ i, i < [OB.arr e k cap rows].length → i < H'.length ∧ ∀ o, [OB.arr e k cap rows][i]? = some o → o.shp ≠ 0 → atB ρ' i = atB ρ i ∧ ∃ o', H'[i]? = some o' ∧ o'.shp = o.shp) ∧
        (pn = true → ∀ i, i < [OB.arr e k cap rows].length → atB ρ' i = atB ρ i ∧ szAt H' i = szAt [OB.arr e k cap rows] i ∧ capAt H' i = capAt [OB.arr e k cap rows] i) := by
 refine ⟨.t [], [.arr e k cap rows'], ρ, S, rfl, hq, .t (by simp), h1, h2, fun b hb => .inl hb, fun i B hi => .inr ⟨by have := atB_lt hi; rw [hR.len] at this; exact this, hi⟩, fun i k' B hi => absurd hi (inP_arr1 i k' B), fun i hi => ⟨by simpa using hi, fun o ho hs => ?_⟩, fun _ i hi => ?_⟩
 ·cases i with
  | succ i => simp at hi
  | zero => simp only [List.getElem?_cons_zero, Option.some.injEq] at ho; subst ho; exact absurd rfl hs
 ·cases i with
  | succ i => simp at hi
  | zero => exact ⟨rfl, rfl, rfl⟩
theorem acalls_sort {P : Program} {τ : Ren} (L : SlLaysF0.n6 P τ) {k : Nat} (aE : ∀ w, (isAgg (τ.t 24)).run P w = .ok true w) (zE : ∀ w, (Go.sizeOf (τ.t 24)).run P w = .ok k w) (p : List CV → Prop) (cf : List CV → List CV → Int) {g : FuncId} (hg : okFn P g = true)
    (hirr : ∀ x, p x → ¬ cf x x < 0) (htr : ∀ x y z, p x → p y → p z → cf x y < 0 → cf y z < 0 → cf x z < 0) (hnt : ∀ x y z, p x → p y → p z → ¬ cf x y < 0 → ¬ cf y z < 0 → ¬ cf x z < 0)
    (hc : ∀ x y, p x → p y → ACalls P g [.a (x.map .c), .a (y.map .c)] [] fun u H => u = .c (.s (.int .i64 (cf x y))) ∧ H = [])
    (rows : List (List CV)) (hp : ∀ r ∈ rows, p r) (hle : rows.length ≤ 1000000000) {e : TypeId} {cap n c : Nat} {pn : Bool} (hn : n = rows.length) :
    ACallsX pn P (τ.f 6) [.o 0 0 n c, .f (.func g) []] [.arr e k cap rows] fun u H => ∃ rows', u = .t [] ∧ H = [.arr e k cap rows'] ∧ rows'.Perm rows ∧ rows'.Pairwise (fun x y => ¬ cf y x < 0) := fun S ρ w hR hW => by
 have hwf : WF w S ρ [.arr e k cap rows] (.o 0 0 n c) := hW _ (by simp)
 have hargs : ([AV.o 0 0 n c, AV.f (.func g) []].map (AV.den ρ [.arr e k cap rows])).toArray = #[.slice ((atB ρ 0).map fun B => ⟨B, 0, none⟩) n c, .func (.func g) #[] #[]] := by
  simp [AV.den, AV.denL]; rfl
 rw [hargs]
 by_cases hr0 : rows = []
 ·subst hr0
  simp only [List.length_nil] at hn
  subst hn
  refine (AnyF.slices_SortFunc_none L _ c _ w).mono ?_
  rintro e' w' ⟨rfl, rfl⟩
  exact sort_fin hR hR (Stp.refl _ _) ⟨[], rfl, rfl, List.Perm.refl _, List.Pairwise.nil⟩
 ·rcases hR.blk 0 _ rfl with ⟨_, _, h⟩ | ⟨B, cs, hB, hh, hcs, hmx, hl, hrow, hcell⟩
  ·exact absurd h hr0
  ·rw [hB]
   have hall : ∀ r ∈ rows, r.length = k ∧ p r ∧ ∀ u ∈ r, Good w S u ∧ u.den.oneCell' = true := fun r hr => ⟨(hrow r hr).1, hp r hr, (hrow r hr).2⟩
   letI : Inhabited (SEl w S k p) := ⟨⟨rows.head hr0, hall _ (List.head_mem hr0)⟩⟩
   let d : Array (SEl w S k p) := (rows.attachWith _ hall).toArray
   have hds : d.size = n := by simp [d, hn]
   have hdg : ∀ i (hi : i < rows.length), (d[i]!).1 = rows[i] := fun i hi => by
    rw [getElem!_pos d i (by rw [hds, hn]; exact hi)]
    simp [d]
   have hblt : B < w.heap.size := hR.lt 0 B hB
   have hS : ∀ (m : Nat) (os : Array Obj) (dk : Array (SEl w S k p)) (b : Nat), S b → S b ∧ (sortWorldK (α := SEl w S k p) SEl.enc k w B 0 m dk os).heap[b]? = w.heap[b]? := fun m os dk b hb => ⟨hb, sort_heap_ne (hR.sS b hb) (fun e => hR.ap 0 B hB (e ▸ hb))⟩
   have hlen : ∀ x : SEl w S k p, x.enc.length = k := fun x => by rw [SEl.enc, List.length_map]; exact x.2.1
   have hH : HoldsK SEl.enc k w B 0 d := fun j hj => by
    rw [size_flatK] at hj
    rw [get_flatK _ _ _ _ hj]
    have hk0 : 0 < k := by rcases Nat.eq_zero_or_pos k with h | h; · subst h; simp at hj
                           ·exact h
    have hq : j / k < rows.length := by rw [← hn, ← hds]; exact Nat.div_lt_of_lt_mul (by rw [Nat.mul_comm]; exact hj)
    have hm : j % k < k := Nat.mod_lt _ hk0
    have hrl := (hrow _ (List.getElem_mem hq)).1
    have h1 := hcell (j / k) (j % k) _ _ (List.getElem?_eq_getElem hq) (List.getElem?_eq_getElem (by rw [hrl]; exact hm))
    rw [show j / k * k + j % k = j by rw [Nat.mul_comm]; exact Nat.div_add_mod j k] at h1
    refine ⟨?_, ?_⟩
    ·show w.cell? ⟨B, 0 + j, none⟩ = some ((SEl.enc d[j / k]!)[j % k]!)
     rw [Nat.zero_add]
     simp only [World.cell?, hh, h1, Option.isSome_none, Bool.false_eq_true, if_false]
     rw [getElem!_pos _ _ (by rw [hlen]; exact hm)]
     simp [SEl.enc, hdg _ hq]
    ·simp [World.frozen?, hh]
   have hcmp : CmpLays P g #[] SEl.enc k (fun x y => cf x.1 y.1) B 0 d.size w := fun m os dk _ x y => by
    have hRW : RH (sortWorldK (α := SEl w S k p) SEl.enc k w B 0 m dk os) S [] [] := ⟨rfl, fun i i' B h => (by cases h), fun i B h => (by cases h), fun i B h => (by cases h), fun b hb => Nat.lt_of_lt_of_le (hR.sS b hb) sort_size, fun i o h => (by simp at h), PL.none fun _ _ _ => inP_nil⟩
    have hax : (List.map (AV.den [] []) [AV.a (x.1.map .c), AV.a (y.1.map .c)]).toArray = #[.agg (SEl.enc x).toArray, .agg (SEl.enc y).toArray] ++ #[] := by
     simp [AV.den, AV.denL_eq, SEl.enc, Function.comp_def]
    rw [← hax]
    refine (hc x.1 y.1 x.2.2.1 y.2.2.1 S [] _ hRW ?_).mono ?_
    ·intro v hv
     have key : ∀ z : SEl w S k p, WF (sortWorldK (α := SEl w S k p) SEl.enc k w B 0 m dk os) S [] [] (.a (z.1.map .c)) := fun z => .a fun u hu => by
      obtain ⟨q, hq, rfl⟩ := List.mem_map.1 hu
      exact .c ((z.2.2.2 q hq).1.mono (hS m os dk))
     simp only [List.mem_cons, List.not_mem_nil, or_false] at hv
     rcases hv with rfl | rfl
     ·exact key x
     ·exact key y
    ·rintro e' w' ⟨u, H', ρ', S', rfl, ⟨rfl, rfl⟩, _, _, hst, _⟩
     exact ⟨rfl, Stp.grown ⟨hst.os, hst.tape, hst.output, hst.size, fun b hb _ => hst.block b hb (fun h => h.elim (fun ⟨i, h⟩ => by cases h) (fun ⟨_, _, h⟩ => inP_nil h)), hst.drawn⟩⟩
   have hO : SWO (ltOf fun x y : SEl w S k p => cf x.1 y.1) :=
    ⟨fun x => by simpa [ltOf] using hirr x.1 x.2.2.1, fun x y z h1 h2 => by
        simp only [ltOf, decide_eq_true_eq] at h1 h2 ⊢
        exact htr _ _ _ x.2.2.1 y.2.2.1 z.2.2.1 h1 h2, fun x y z h1 h2 => by
        simp only [ltOf, decide_eq_false_iff_not] at h1 h2 ⊢
        exact hnt _ _ _ x.2.2.1 y.2.2.1 z.2.2.1 h1 h2⟩
   have hcap : n ≤ cap := by rw [hn]; exact hl
   have hcon := AnyQ.slices_SortFunc L k aE zE SEl.enc hlen (fun x v hv => by
    obtain ⟨u, hu, rfl⟩ := List.mem_map.1 hv
    exact (x.2.2.2 u hu).2) (fun x y => cf x.1 y.1) hO g #[] B 0 c d w (fun args w => run_callFunc hg) hcmp hH hblt (by
     rw [hds]; omega)
   rw [hds] at hcon
   refine hcon.mono ?_
   rintro e' w' ⟨rfl, d', q, os, ⟨hps, _, hpp⟩, hsrt, rfl⟩
   have hd' : d'.size = n := by rw [hps, hds]
   have hl' : (d'.toList.map (fun x : SEl w S k p => x.1)).length = rows.length := by simp [hd', hn]
   have hfs : ∀ F : Array Value, ((putCells id 0 F) cs).size = cs.size := fun F => by simp [putCells]
   obtain ⟨h1, h2⟩ := sort_back (n := q) (os := os) (f := putCells id 0 (flatK SEl.enc k d')) (rows' := d'.toList.map (fun x : SEl w S k p => x.1)) hR hB hh (by rw [hfs, hcs]) hmx (by rw [hl']; exact hl) (fun row hr => by
       obtain ⟨x, _, rfl⟩ := List.mem_map.1 hr
       exact ⟨x.2.1, x.2.2.2⟩) (fun i j row u hi hj => by
       rw [List.getElem?_map] at hi
       cases hx : d'.toList[i]? with
       | none => rw [hx] at hi; cases hi
       | some x =>
        rw [hx] at hi
        simp only [Option.map_some, Option.some.injEq] at hi
        subst hi
        have hi2 : i < d'.size := by
         rw [Array.getElem?_toList] at hx
         rcases Nat.lt_or_ge i d'.size with h | h
         ·exact h
         ·rw [Array.getElem?_eq_none h] at hx; cases hx
        have hj2 : j < k := by
         rcases Nat.lt_or_ge j x.1.length with h | h
         ·rw [← x.2.1]; exact h
         ·rw [List.getElem?_eq_none h] at hj; cases hj
        have hlt : i * k + j < d'.size * k := by
         have := Nat.mul_le_mul_right k (show i + 1 ≤ d'.size from hi2); rw [Nat.add_mul, Nat.one_mul] at this; omega
        have hlt2 : i * k + j < cs.size := by
         rw [hcs]; exact Nat.lt_of_lt_of_le hlt (Nat.mul_le_mul_right k (by rw [hd']; exact hcap))
        have e1 : (i * k + j) / k = i := (blk_iff k i _ (by omega)).1 ⟨by omega, by omega⟩
        have e2 : (i * k + j) % k = j := by rw [Nat.mod_eq_sub_div_mul, e1]; omega
        simp only [putCells, Array.getElem?_mapIdx, Array.getElem?_eq_getElem hlt2, Option.map_some]
        rw [if_pos ⟨Nat.zero_le _, by rw [size_flatK]; omega⟩, Nat.sub_zero, get_flatK _ _ _ _ hlt, e1, e2]
        have hxe : d'[i]! = x := by
         rw [getElem!_pos d' i hi2]
         rw [Array.getElem?_toList, Array.getElem?_eq_getElem hi2] at hx
         injection hx
        rw [hxe]
        have : x.enc[j]? = some u.den := by rw [SEl.enc, List.getElem?_map, hj]; rfl
        rw [getElem!_pos _ _ (by rw [hlen]; exact hj2)]
        rw [List.getElem?_eq_getElem (by rw [hlen]; exact hj2)] at this
        injection this with this
        simp [this])
   refine sort_fin hR h1 h2 ⟨_, rfl, rfl, ?_, ?_⟩
   ·have h3 : d'.toList.Perm d.toList := by
     have a1 : d'.extract 0 n = d' := by rw [← hd']; simp
     have a2 : d.extract 0 n = d := by rw [← hds]; simp
     rw [a1, a2] at hpp; exact hpp
    have h4 := h3.map (fun x : SEl w S k p => x.1)
    have h5 : d.toList.map (fun x : SEl w S k p => x.1) = rows := by
     refine List.ext_getElem (by simp [d]) fun i h1 h2 => ?_
     simp [d]
    rwa [h5] at h4
   ·rw [List.pairwise_map, List.pairwise_iff_getElem]
    intro i j hi hj hij
    have hi' : i < d'.size := by simpa using hi
    have hj' : j < d'.size := by simpa using hj
    have := hsrt i j (Nat.zero_le _) hij (by rw [← hd']; exact hj')
    rw [getElem!_pos d' i hi', getElem!_pos d' j hj'] at this
    simpa [ltOf] using this
end Go.Proofs.YtfilfijammemfaaGreatDoor
