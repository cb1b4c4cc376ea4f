/- append of zeros to no rows, where there is no room; slices.overlaps of two blocks of the call's own. -/
import Derived.Test.YtcchlddiggmcaaaGreatDoorQat
import Derived.Shelf.SlSortCmp.NoneTotal
import Derived.Shelf.SortM.Plain
import Derived.Shelf.SortM.SortNone
import Derived.Test.YtcchlddiggmcaaaGreatDoorProg
import Derived.Test.YtcchlddiggmcaaaGreatDoorQbe
import Derived.Test.YtcchlddiggmcaaaGreatDoorQan
import Derived.Lib.Overlaps
import Derived.Lib.AppendZeros
set_option linter.unusedSimpArgs false
set_option linter.unusedVariables false
namespace Go.Proofs.YtcchlddiggmcaaaGreatDoor
open Go Go.RowKit Go.Shelf Go.Sort
theorem Stp.grown {w w' : World} (h : Stp w w' (fun _ => False)) : ∃ q os, w' = Sort.grow (w.drewN q) os := by
 refine ⟨w'.drawn - w.drawn, w'.heap.extract w.heap.size w'.heap.size, ?_⟩
 have hh : w.heap ++ w'.heap.extract w.heap.size w'.heap.size = w'.heap := by
  refine Array.ext_getElem? fun k => ?_
  rw [Array.getElem?_append]
  split
  ·rename_i hk; exact (h.block k hk (fun x => x)).symm
  ·rename_i hk
   rw [Array.getElem?_extract]
   have hs := h.size
   by_cases h2 : k < w'.heap.size
   ·rw [if_pos (by omega)]; congr 1; omega
   ·rw [if_neg (by omega), Array.getElem?_eq_none (by omega)]
 have h1 := h.os; have h2 := h.tape; have h3 := h.output; have h4 := h.drawn
 obtain ⟨hp, tp, dr, o, out⟩ := w
 obtain ⟨hp', tp', dr', o', out'⟩ := w'
 simp only at h1 h2 h3 h4 hh ⊢
 subst h1; subst h2; subst h3
 simp only [Sort.grow, World.drewN]
 rw [hh, show dr + (dr' - dr) = dr' by omega]
section
variable {w : World} {S : Nat → Prop} {ρ : List (Option Nat)} {e : TypeId} {k cap B n : Nat} {rows rows' : List (List CV)} {cs : Array Value} {os : Array Obj} {f : Array Value → Array Value}
theorem sort_heap_ne {b : Nat} (hb : b < w.heap.size) (hne : b ≠ B) : (Sort.grow (mapBlock (Sort.ahead w n) B f) os).heap[b]? = w.heap[b]? := by
 simp only [Sort.grow, mapBlock, Sort.ahead]
 rw [Array.getElem?_append_left (by simpa using hb), Array.getElem?_modify, if_neg (fun e => hne e.symm)]
theorem sort_heap_at (hh : w.heap[B]? = some (.cells cs e (0, 0))) : (Sort.grow (mapBlock (Sort.ahead w n) B f) os).heap[B]? = some (.cells (f cs) e (0, 0)) := by
 have hb : B < w.heap.size := by
  rcases Nat.lt_or_ge B w.heap.size with h | h
  ·exact h
  ·rw [Array.getElem?_eq_none h] at hh; cases hh
 simp only [Sort.grow, mapBlock, Sort.ahead]
 rw [Array.getElem?_append_left (by simpa using hb), Array.getElem?_modify, if_pos rfl, hh]
 rfl
theorem sort_size : w.heap.size ≤ (Sort.grow (mapBlock (Sort.ahead w n) B f) os).heap.size := by
 simp [Sort.grow, mapBlock, Sort.ahead]
theorem inP_arr1 {e : TypeId} {k cap : Nat} {rows : List (List CV)} (i k' B : Nat) : ¬ inP [OB.arr e k cap rows] i k' B := fun ⟨o, h, h2⟩ => by
 rw [List.getElem?_singleton] at h
 split at h
 ·injection h with h; subst h; exact arr_nopool h2
 ·cases h
theorem sort_back (hR : RH w S ρ [.arr e k cap rows]) (hB : atB ρ 0 = some B) (hh : w.heap[B]? = some (.cells cs e (0, 0))) (hcs : (f cs).size = cap * k) (hmx : cap ≤ maxLen) (hl : rows'.length ≤ cap)
    (hrow : ∀ row ∈ rows', row.length = k ∧ ∀ u ∈ row, Good w S u ∧ u.den.oneCell' = true) (hcell : ∀ (i j : Nat) (row : List CV) (u : CV), rows'[i]? = some row → row[j]? = some u → (f cs)[i * k + j]? = some u.den) :
    RH (Sort.grow (mapBlock (Sort.ahead w n) B f) os) S ρ [.arr e k cap rows'] ∧ Stp w (Sort.grow (mapBlock (Sort.ahead w n) B f) os) (fun b => (∃ i, atB ρ i = some b) ∨ ∃ i k', inP [OB.arr e k cap rows] i k' b) := by
 have hS : ∀ b, S b → S b ∧ (Sort.grow (mapBlock (Sort.ahead w n) B f) os).heap[b]? = w.heap[b]? := fun b hb => ⟨hb, sort_heap_ne (hR.sS b hb) (fun e => hR.ap 0 B hB (e ▸ hb))⟩
 refine ⟨⟨hR.len, hR.nd, hR.ap, fun i b hi => Nat.lt_of_lt_of_le (hR.lt i b hi) sort_size, fun b hb => Nat.lt_of_lt_of_le (hR.sS b hb) sort_size, fun i o hi => ?_, PL.none inP_arr1⟩, ⟨rfl, rfl, rfl, sort_size, fun b hb hn => sort_heap_ne hb (fun e => hn (.inl ⟨0, e ▸ hB⟩)), ?_⟩⟩
 ·cases i with
  | succ i => simp at hi
  | zero =>
   simp only [List.getElem?_cons_zero, Option.some.injEq] at hi
   subst hi
   exact .inr ⟨B, f cs, hB, sort_heap_at hh, hcs, hmx, hl, fun row hr => ⟨(hrow row hr).1, fun u hu => ⟨((hrow row hr).2 u hu).1.mono hS, ((hrow row hr).2 u hu).2⟩⟩, hcell⟩
 ·show w.drawn ≤ w.drawn + n
  exact Nat.le_add_right _ _
end
abbrev SEl (w : World) (S : Nat → Prop) (k : Nat) (p : List CV → Prop) := { x : List CV // x.length = k ∧ p x ∧ ∀ u ∈ x, Good w S u ∧ u.den.oneCell' = true }
def SEl.enc {w : World} {S : Nat → Prop} {k : Nat} {p : List CV → Prop} (x : SEl w S k p) : List Value := x.1.map CV.den
theorem sort_fin {S : Nat → Prop} {ρ : List (Option Nat)} {w u : World} {e : TypeId} {k cap : Nat} {rows rows' : List (List CV)} {pn : Bool} {Q : AV → List OB → Prop} (hR : RH w S ρ [.arr e k cap rows]) (h1 : RH u S ρ [.arr e k cap rows']) (h2 : Stp w u (fun b => (∃ i, atB ρ i = some b) ∨ ∃ i k', inP [OB.arr e k cap rows] i k' b)) (hq : Q (.t []) [.arr e k cap rows']) :
    ∃ v H' ρ' S', Ending.returned (.tuple #[]) = .returned (AV.den ρ' H' v) ∧ Q v H' ∧ WF u S' ρ' H' v ∧ RH u S' ρ' H' ∧
        Stp w u (fun B => (∃ i, atB ρ i = some B) ∨ ∃ i k', inP [OB.arr e k cap rows] i k' B) ∧ (∀ b, S' b → S b ∨ (w.heap.size ≤ b ∨ ∃ i k', inP [OB.arr e k cap rows] i k' b)) ∧ (∀ i B, atB ρ' i = some B → (w.heap.size ≤ B ∨ ∃ i k', inP [OB.arr e k cap rows] i k' B) ∨ (i < [OB.arr e k cap rows].length ∧ atB ρ i = some B)) ∧
        (∀ i k' B, inP H' i k' B → w.heap.size ≤ B ∨ ∃ i k', inP [OB.arr e k cap rows] i k' B) ∧
        (∀ i, i < [OB.arr e k cap rows].length → i < H'.length ∧ ∀ o, [OB.arr e k cap rows][i]? = some o → o.shp ≠ 0 → atB ρ' i = atB ρ i ∧ ∃ o', H'[i]? = some o' ∧ o'.shp = o.shp) ∧
        (pn = true → ∀ i, i < [OB.arr e k cap rows].length → atB ρ' i = atB ρ i ∧ szAt H' i = szAt [OB.arr e k cap rows] i ∧ capAt H' i = capAt [OB.arr e k cap rows] i) := by
 refine ⟨.t [], [.arr e k cap rows'], ρ, S, rfl, hq, .t (by simp), h1, h2, fun b hb => .inl hb, fun i B hi => .inr ⟨by have := atB_lt hi; rw [hR.len] at this; exact this, hi⟩, fun i k' B hi => absurd hi (inP_arr1 i k' B), fun i hi => ⟨by simpa using hi, fun o ho hs => ?_⟩, fun _ i hi => ?_⟩
 ·cases i with
  | succ i => simp at hi
  | zero => simp only [List.getElem?_cons_zero, Option.some.injEq] at ho; subst ho; exact absurd rfl hs
 ·cases i with
  | succ i => simp at hi
  | zero => exact ⟨rfl, rfl, rfl⟩
theorem acalls_sort {P : Program} {τ : Ren} (L : SlLaysF0.n6 P τ) {k : Nat} (aE : ∀ w, (isAgg (τ.t 24)).run P w = .ok true w) (zE : ∀ w, (Go.sizeOf (τ.t 24)).run P w = .ok k w) (p : List CV → Prop) (cf : List CV → List CV → Int) {g : FuncId} (hg : okFn P g = true)
    (hirr : ∀ x, p x → ¬ cf x x < 0) (htr : ∀ x y z, p x → p y → p z → cf x y < 0 → cf y z < 0 → cf x z < 0) (hnt : ∀ x y z, p x → p y → p z → ¬ cf x y < 0 → ¬ cf y z < 0 → ¬ cf x z < 0)
    (hc : ∀ x y, p x → p y → ACalls P g [.a (x.map .c), .a (y.map .c)] [] fun u H => u = .c (.s (.int .i64 (cf x y))) ∧ H = [])
    (rows : List (List CV)) (hp : ∀ r ∈ rows, p r) (hle : rows.length ≤ 1000000000) {e : TypeId} {cap n c : Nat} {pn : Bool} (hn : n = rows.length) :
    ACallsX pn P (τ.f 6) [.o 0 0 n c, .f (.func g) []] [.arr e k cap rows] fun u H => ∃ rows', u = .t [] ∧ H = [.arr e k cap rows'] ∧ rows'.Perm rows ∧ rows'.Pairwise (fun x y => ¬ cf y x < 0) := fun S ρ w hR hW => by
 have hwf : WF w S ρ [.arr e k cap rows] (.o 0 0 n c) := hW _ (by simp)
 have hargs : ([AV.o 0 0 n c, AV.f (.func g) []].map (AV.den ρ [.arr e k cap rows])).toArray = #[.slice ((atB ρ 0).map fun B => ⟨B, 0, none⟩) n c, .func (.func g) #[] #[]] := by
  simp [AV.den, AV.denL]; rfl
 rw [hargs]
 by_cases hr0 : rows = []
 ·subst hr0
  simp only [List.length_nil] at hn
  subst hn
  refine (AnyF.slices_SortFunc_none L _ c _ w).mono ?_
  rintro e' w' ⟨rfl, rfl⟩
  exact sort_fin hR hR (Stp.refl _ _) ⟨[], rfl, rfl, List.Perm.refl _, List.Pairwise.nil⟩
 ·rcases hR.blk 0 _ rfl with ⟨_, _, h⟩ | ⟨B, cs, hB, hh, hcs, hmx, hl, hrow, hcell⟩
  ·exact absurd h hr0
  ·rw [hB]
   have hall : ∀ r ∈ rows, r.length = k ∧ p r ∧ ∀ u ∈ r, Good w S u ∧ u.den.oneCell' = true := fun r hr => ⟨(hrow r hr).1, hp r hr, (hrow r hr).2⟩
   letI : Inhabited (SEl w S k p) := ⟨⟨rows.head hr0, hall _ (List.head_mem hr0)⟩⟩
   let d : Array (SEl w S k p) := (rows.attachWith _ hall).toArray
   have hds : d.size = n := by simp [d, hn]
   have hdg : ∀ i (hi : i < rows.length), (d[i]!).1 = rows[i] := fun i hi => by
    rw [getElem!_pos d i (by rw [hds, hn]; exact hi)]
    simp [d]
   have hblt : B < w.heap.size := hR.lt 0 B hB
   have hS : ∀ (m : Nat) (os : Array Obj) (dk : Array (SEl w S k p)) (b : Nat), S b → S b ∧ (sortWorldK (α := SEl w S k p) SEl.enc k w B 0 m dk os).heap[b]? = w.heap[b]? := fun m os dk b hb => ⟨hb, sort_heap_ne (hR.sS b hb) (fun e => hR.ap 0 B hB (e ▸ hb))⟩
   have hlen : ∀ x : SEl w S k p, x.enc.length = k := fun x => by rw [SEl.enc, List.length_map]; exact x.2.1
   have hH : HoldsK SEl.enc k w B 0 d := fun j hj => by
    rw [size_flatK] at hj
    rw [get_flatK _ _ _ _ hj]
    have hk0 : 0 < k := by rcases Nat.eq_zero_or_pos k with h | h; · subst h; simp at hj
                           ·exact h
    have hq : j / k < rows.length := by rw [← hn, ← hds]; exact Nat.div_lt_of_lt_mul (by rw [Nat.mul_comm]; exact hj)
    have hm : j % k < k := Nat.mod_lt _ hk0
    have hrl := (hrow _ (List.getElem_mem hq)).1
    have h1 := hcell (j / k) (j % k) _ _ (List.getElem?_eq_getElem hq) (List.getElem?_eq_getElem (by rw [hrl]; exact hm))
    rw [show j / k * k + j % k = j by rw [Nat.mul_comm]; exact Nat.div_add_mod j k] at h1
    refine ⟨?_, ?_⟩
    ·show w.cell? ⟨B, 0 + j, none⟩ = some ((SEl.enc d[j / k]!)[j % k]!)
     rw [Nat.zero_add]
     simp only [World.cell?, hh, h1, Option.isSome_none, Bool.false_eq_true, if_false]
     rw [getElem!_pos _ _ (by rw [hlen]; exact hm)]
     simp [SEl.enc, hdg _ hq]
    ·simp [World.frozen?, hh]
   have hcmp : CmpLays P g #[] SEl.enc k (fun x y => cf x.1 y.1) B 0 d.size w := fun m os dk _ x y => by
    have hRW : RH (sortWorldK (α := SEl w S k p) SEl.enc k w B 0 m dk os) S [] [] := ⟨rfl, fun i i' B h => (by cases h), fun i B h => (by cases h), fun i B h => (by cases h), fun b hb => Nat.lt_of_lt_of_le (hR.sS b hb) sort_size, fun i o h => (by simp at h), PL.none fun _ _ _ => inP_nil⟩
    have hax : (List.map (AV.den [] []) [AV.a (x.1.map .c), AV.a (y.1.map .c)]).toArray = #[.agg (SEl.enc x).toArray, .agg (SEl.enc y).toArray] ++ #[] := by
     simp [AV.den, AV.denL_eq, SEl.enc, Function.comp_def]
    rw [← hax]
    refine (hc x.1 y.1 x.2.2.1 y.2.2.1 S [] _ hRW ?_).mono ?_
    ·intro v hv
     have key : ∀ z : SEl w S k p, WF (sortWorldK (α := SEl w S k p) SEl.enc k w B 0 m dk os) S [] [] (.a (z.1.map .c)) := fun z => .a fun u hu => by
      obtain ⟨q, hq, rfl⟩ := List.mem_map.1 hu
      exact .c ((z.2.2.2 q hq).1.mono (hS m os dk))
     simp only [List.mem_cons, List.not_mem_nil, or_false] at hv
     rcases hv with rfl | rfl
     ·exact key x
     ·exact key y
    ·rintro e' w' ⟨u, H', ρ', S', rfl, ⟨rfl, rfl⟩, _, _, hst, _⟩
     exact ⟨rfl, Stp.grown ⟨hst.os, hst.tape, hst.output, hst.size, fun b hb _ => hst.block b hb (fun h => h.elim (fun ⟨i, h⟩ => by cases h) (fun ⟨_, _, h⟩ => inP_nil h)), hst.drawn⟩⟩
   have hO : SWO (ltOf fun x y : SEl w S k p => cf x.1 y.1) :=
    ⟨fun x => by simpa [ltOf] using hirr x.1 x.2.2.1, fun x y z h1 h2 => by
        simp only [ltOf, decide_eq_true_eq] at h1 h2 ⊢
        exact htr _ _ _ x.2.2.1 y.2.2.1 z.2.2.1 h1 h2, fun x y z h1 h2 => by
        simp only [ltOf, decide_eq_false_iff_not] at h1 h2 ⊢
        exact hnt _ _ _ x.2.2.1 y.2.2.1 z.2.2.1 h1 h2⟩
   have hcap : n ≤ cap := by rw [hn]; exact hl
   have hcon := AnyQ.slices_SortFunc L k aE zE SEl.enc hlen (fun x v hv => by
    obtain ⟨u, hu, rfl⟩ := List.mem_map.1 hv
    exact (x.2.2.2 u hu).2) (fun x y => cf x.1 y.1) hO g #[] B 0 c d w (fun args w => zO1 hg) hcmp hH hblt (by
     rw [hds]; omega)
   rw [hds] at hcon
   refine hcon.mono ?_
   rintro e' w' ⟨rfl, d', q, os, ⟨hps, _, hpp⟩, hsrt, rfl⟩
   have hd' : d'.size = n := by rw [hps, hds]
   have hl' : (d'.toList.map (fun x : SEl w S k p => x.1)).length = rows.length := by simp [hd', hn]
   have hfs : ∀ F : Array Value, ((putCells id 0 F) cs).size = cs.size := fun F => by simp [putCells]
   obtain ⟨h1, h2⟩ := sort_back (n := q) (os := os) (f := putCells id 0 (flatK SEl.enc k d')) (rows' := d'.toList.map (fun x : SEl w S k p => x.1)) hR hB hh (by rw [hfs, hcs]) hmx (by rw [hl']; exact hl) (fun row hr => by
       obtain ⟨x, _, rfl⟩ := List.mem_map.1 hr
       exact ⟨x.2.1, x.2.2.2⟩) (fun i j row u hi hj => by
       rw [List.getElem?_map] at hi
       cases hx : d'.toList[i]? with
       | none => rw [hx] at hi; cases hi
       | some x =>
        rw [hx] at hi
        simp only [Option.map_some, Option.some.injEq] at hi
        subst hi
        have hi2 : i < d'.size := by
         rw [Array.getElem?_toList] at hx
         rcases Nat.lt_or_ge i d'.size with h | h
         ·exact h
         ·rw [Array.getElem?_eq_none h] at hx; cases hx
        have hj2 : j < k := by
         rcases Nat.lt_or_ge j x.1.length with h | h
         ·rw [← x.2.1]; exact h
         ·rw [List.getElem?_eq_none h] at hj; cases hj
        have hlt : i * k + j < d'.size * k := by
         have := Nat.mul_le_mul_right k (show i + 1 ≤ d'.size from hi2); rw [Nat.add_mul, Nat.one_mul] at this; omega
        have hlt2 : i * k + j < cs.size := by
         rw [hcs]; exact Nat.lt_of_lt_of_le hlt (Nat.mul_le_mul_right k (by rw [hd']; exact hcap))
        have e1 : (i * k + j) / k = i := (blk_iff k i _ (by omega)).1 ⟨by omega, by omega⟩
        have e2 : (i * k + j) % k = j := by rw [Nat.mod_eq_sub_div_mul, e1]; omega
        simp only [putCells, Array.getElem?_mapIdx, Array.getElem?_eq_getElem hlt2, Option.map_some]
        rw [if_pos ⟨Nat.zero_le _, by rw [size_flatK]; omega⟩, Nat.sub_zero, get_flatK _ _ _ _ hlt, e1, e2]
        have hxe : d'[i]! = x := by
         rw [getElem!_pos d' i hi2]
         rw [Array.getElem?_toList, Array.getElem?_eq_getElem hi2] at hx
         injection hx
        rw [hxe]
        have : x.enc[j]? = some u.den := by rw [SEl.enc, List.getElem?_map, hj]; rfl
        rw [getElem!_pos _ _ (by rw [hlen]; exact hj2)]
        rw [List.getElem?_eq_getElem (by rw [hlen]; exact hj2)] at this
        injection this with this
        simp [this])
   refine sort_fin hR h1 h2 ⟨_, rfl, rfl, ?_, ?_⟩
   ·have h3 : d'.toList.Perm d.toList := by
     have a1 : d'.extract 0 n = d' := by rw [← hd']; simp
     have a2 : d.extract 0 n = d := by rw [← hds]; simp
     rw [a1, a2] at hpp; exact hpp
    have h4 := h3.map (fun x : SEl w S k p => x.1)
    have h5 : d.toList.map (fun x : SEl w S k p => x.1) = rows := by
     refine List.ext_getElem (by simp [d]) fun i h1 h2 => ?_
     simp [d]
    rwa [h5] at h4
   ·rw [List.pairwise_map, List.pairwise_iff_getElem]
    intro i j hi hj hij
    have hi' : i < d'.size := by simpa using hi
    have hj' : j < d'.size := by simpa using hj
    have := hsrt i j (Nat.zero_le _) hij (by rw [← hd']; exact hj')
    rw [getElem!_pos d' i hi', getElem!_pos d' j hj'] at this
    simpa [ltOf] using this
end Go.Proofs.YtcchlddiggmcaaaGreatDoor
namespace Go.Proofs.YtcchlddiggmcaaaGreatDoor
open Go Go.Shelf
set_option maxRecDepth 100000
end Go.Proofs.YtcchlddiggmcaaaGreatDoor
-- NEWM
namespace Go.Proofs.YtcchlddiggmcaaaGreatDoor
open Go Go.RowKit Go.Shelf
set_option maxRecDepth 100000
def sortNL_ren : Go.Shelf.Ren := ⟨fun | 6 => 46 | 15 => 72 | 14 => 71 | 28 => 103 | 29 => 104 | 20 => 93 | 21 => 96 | 22 => 97 | 23 => 98 | 24 => 99 | 25 => 100 | 26 => 101 | 27 => 102 | 46 => 126 | 47 => 127 | 48 => 128 | 49 => 129 | 50 => 130 | 57 => 153 | n => n, fun | 22 => 26 | 24 => 33 | 25 => 74 | 3 => 3 | 39 => 122 | 0 => 0 | 53 => 150 | 55 => 152 | 4 => 4 | 46 => 143 | 45 => 142 | 50 => 147 | 5 => 5 | 9 => 9 | 66 => 167 | 70 => 171 | 76 => 189 | 77 => 190 | n => n, fun | n => n⟩
theorem sortNL : Go.Proofs.SlLaysF0.n6 Tryz.prog sortNL_ren := {
 mixed := by kernel_rfl
 f6 := ⟨Tryz.f46.name, by decide, Tryz.func46.trans (congrArg some (by kernel_rfl))⟩
 f14 := ⟨Tryz.f71.name, by decide, Tryz.func71.trans (congrArg some (by kernel_rfl))⟩
 f15 := Tryz.func72.trans (congrArg some (by kernel_rfl))
 f20 := ⟨Tryz.f93.name, by decide, Tryz.func93.trans (congrArg some (by kernel_rfl))⟩
 f21 := ⟨Tryz.f96.name, by decide, Tryz.func96.trans (congrArg some (by kernel_rfl))⟩
 f22 := ⟨Tryz.f97.name, by decide, Tryz.func97.trans (congrArg some (by kernel_rfl))⟩
 f23 := ⟨Tryz.f98.name, by decide, Tryz.func98.trans (congrArg some (by kernel_rfl))⟩
 f24 := ⟨Tryz.f99.name, by decide, Tryz.func99.trans (congrArg some (by kernel_rfl))⟩
 f25 := ⟨Tryz.f100.name, by decide, Tryz.func100.trans (congrArg some (by kernel_rfl))⟩
 f26 := ⟨Tryz.f101.name, by decide, Tryz.func101.trans (congrArg some (by kernel_rfl))⟩
 f27 := ⟨Tryz.f102.name, by decide, Tryz.func102.trans (congrArg some (by kernel_rfl))⟩
 f28 := Tryz.func103.trans (congrArg some (by kernel_rfl))
 f29 := Tryz.func104.trans (congrArg some (by kernel_rfl))
 f46 := ⟨Tryz.f126.name, by decide, Tryz.func126.trans (congrArg some (by kernel_rfl))⟩
 f47 := Tryz.func127.trans (congrArg some (by kernel_rfl))
 f48 := Tryz.func128.trans (congrArg some (by kernel_rfl))
 f49 := ⟨Tryz.f129.name, by decide, Tryz.func129.trans (congrArg some (by kernel_rfl))⟩
 f50 := ⟨Tryz.f130.name, by decide, Tryz.func130.trans (congrArg some (by kernel_rfl))⟩
 f57 := ⟨Tryz.f153.name, by decide, Tryz.func153.trans (congrArg some (by kernel_rfl))⟩
 t0 := Tryz.underlying0
 a0 := Tryz.isAgg0
 z0 := Tryz.sizeOf0
 v0 := Tryz.zeroValue0
 t3 := Tryz.underlying3
 a3 := Tryz.isAgg3
 z3 := Tryz.sizeOf3
 v3 := Tryz.zeroValue3
 t4 := Tryz.underlying4
 a4 := Tryz.isAgg4
 z4 := Tryz.sizeOf4
 v4 := Tryz.zeroValue4
 t5 := Tryz.underlying5
 a5 := Tryz.isAgg5
 z5 := Tryz.sizeOf5
 v5 := Tryz.zeroValue5
 t9 := Tryz.underlying9
 a9 := Tryz.isAgg9
 z9 := Tryz.sizeOf9
 v9 := Tryz.zeroValue9
 t22 := Tryz.underlying26
 a22 := Tryz.isAgg26
 z22 := Tryz.sizeOf26
 v22 := Tryz.zeroValue26
 t25 := Tryz.underlying74
 a25 := Tryz.isAgg74
 z25 := Tryz.sizeOf74
 v25 := Tryz.zeroValue74
 t39 := Tryz.underlying122
 a39 := Tryz.isAgg122
 z39 := Tryz.sizeOf122
 v39 := Tryz.zeroValue122
 t45 := Tryz.underlying142
 a45 := Tryz.isAgg142
 z45 := Tryz.sizeOf142
 v45 := Tryz.zeroValue142
 t46 := Tryz.underlying143
 a46 := Tryz.isAgg143
 z46 := Tryz.sizeOf143
 v46 := Tryz.zeroValue143
 t50 := Tryz.underlying147
 a50 := Tryz.isAgg147
 z50 := Tryz.sizeOf147
 v50 := Tryz.zeroValue147
 t53 := Tryz.underlying150
 a53 := Tryz.isAgg150
 z53 := Tryz.sizeOf150
 v53 := Tryz.zeroValue150
 t55 := Tryz.underlying152
 a55 := Tryz.isAgg152
 z55 := Tryz.sizeOf152
 v55 := Tryz.zeroValue152
 t66 := Tryz.underlying167
 a66 := Tryz.isAgg167
 z66 := Tryz.sizeOf167
 v66 := Tryz.zeroValue167
 t70 := Tryz.underlying171
 a70 := Tryz.isAgg171
 z70 := Tryz.sizeOf171
 v70 := Tryz.zeroValue171
 t76 := Tryz.underlying189
 a76 := Tryz.isAgg189
 z76 := Tryz.sizeOf189
 v76 := Tryz.zeroValue189
 t77 := Tryz.underlying190
 a77 := Tryz.isAgg190
 z77 := Tryz.sizeOf190
 v77 := Tryz.zeroValue190 }
def noOf : List CV → Nt
 | [.s (.string a), .s (.int _ b), .s (.int _ c), .s (.int _ d), .s (.string e), .s (.string f), .s (.string g), .s (.int _ h), .s (.string i), .s (.int _ j)] => ⟨a.data.toList, b, c, d, e.data.toList, f.data.toList, g.data.toList, h, i.data.toList, j⟩
 | _ => ⟨[], 0, 0, 0, [], [], [], 0, [], 0⟩
theorem noOf_R (x : Nt) : noOf (noR x) = x := by
 obtain ⟨st, no, at_, kd, pr, jb, sp, n, of_, ot⟩ := x
 simp [noR, noOf]
theorem noOf_Rs (l : List Nt) : (noRs l).map noOf = l := by
 rw [List.map_map]
 exact (List.map_congr_left fun s _ => noOf_R s).trans (List.map_id l)
theorem cmpNt_irr (a : Nt) : ¬ cmpNt a a < 0 := fun h => by
 have := (cmpNt_0 a a).2 ⟨rfl, rfl, rfl⟩
 omega
theorem cmpNt_nt {a b c : Nt} (h1 : ¬ cmpNt a b < 0) (h2 : ¬ cmpNt b c < 0) : ¬ cmpNt a c < 0 := fun h => by
 have n1 := cmpNt_neg a b
 have n2 := cmpNt_neg b c
 have n3 := cmpNt_neg a c
 by_cases e1 : cmpNt a b = 0
 ·obtain ⟨p1, p2, p3⟩ := (cmpNt_0 a b).1 e1
  have : cmpNt b c < 0 := by
   rw [cmpNt_lt] at h ⊢
   rw [← p1, ← p2, ← p3]; exact h
  exact h2 this
 ·have h3 : cmpNt b a < 0 := by omega
  exact h2 (cmpNt_trans h3 h)
theorem sortN_v (g : FuncId) (hg : okFn Tryz.prog g = true) (hc : ∀ a b : Nt, ACalls Tryz.prog g [noA a, noA b] [] fun u H => u = .c (I (cmpNt a b)) ∧ H = []) (l : List Nt) (c : Nat) (hl : l.length ≤ 1000000) : ACallsX true Tryz.prog 46 [.o 0 0 l.length c, .f (.func g) []] [.arr 33 10 c (noRs l)] fun u H => ∃ l' : List Nt, (l'.Perm l ∧ l'.Pairwise fun a b => ¬ cmpNt b a < 0) ∧ u = .t [] ∧ H = [.arr 33 10 c (noRs l')] := by
 have h := acalls_sort sortNL (k := 10) (fun w => Tryz.isAgg33 w) (fun w => Tryz.sizeOf33 w) (fun x => ∃ s : Nt, x = noR s) (fun x y => cmpNt (noOf x) (noOf y)) (g := g) hg
  (by rintro _ ⟨s, rfl⟩; rw [noOf_R]; exact cmpNt_irr s)
  (by rintro _ _ _ ⟨a, rfl⟩ ⟨b, rfl⟩ ⟨c, rfl⟩; simp only [noOf_R]; exact fun h1 h2 => cmpNt_trans h1 h2)
  (by rintro _ _ _ ⟨a, rfl⟩ ⟨b, rfl⟩ ⟨c, rfl⟩; simp only [noOf_R]; exact fun h1 h2 => cmpNt_nt h1 h2)
  (by rintro _ _ ⟨a, rfl⟩ ⟨b, rfl⟩; simp only [noOf_R]; exact hc a b)
  (noRs l) (by intro r hr; obtain ⟨s, _, rfl⟩ := List.mem_map.1 hr; exact ⟨s, rfl⟩) (by simp; omega) (e := 33) (cap := c) (n := l.length) (c := c) (pn := true) (by simp)
 refine ACallsX.mono h fun u H => ?_
 rintro ⟨rows', rfl, rfl, hp, hs⟩
 have hrow : ∀ r ∈ rows', ∃ s : Nt, r = noR s := fun r hr => by
  obtain ⟨s, _, rfl⟩ := List.mem_map.1 (hp.subset hr); exact ⟨s, rfl⟩
 refine ⟨rows'.map noOf, ⟨by have h2 := hp.map noOf; rwa [noOf_Rs] at h2, ?_⟩, rfl, ?_⟩
 ·rw [List.pairwise_map]
  exact hs
 ·congr 2
  show rows' = (rows'.map noOf).map noR
  rw [List.map_map]
  refine (List.map_id _).symm.trans (List.map_congr_left fun r hr => ?_)
  obtain ⟨s, rfl⟩ := hrow r hr
  simp [noOf_R]
end Go.Proofs.YtcchlddiggmcaaaGreatDoor
namespace Go.Proofs.YtcchlddiggmcaaaGreatDoor
open Go Go.RowKit
section
variable {P : Program} {N : Nat} {E : Env} {F : Fm} {H : List OB} {o : Oper} {S : Nat → Prop} {ρ : List (Option Nat)} {a : Act} {w : World}
end
end Go.Proofs.YtcchlddiggmcaaaGreatDoor
namespace Go.Proofs.YtcchlddiggmcaaaGreatDoor
open Go Go.RowKit
section
variable {P : Program} {N : Nat} {E : Env} {F : Fm} {H : List OB} {o : Oper} {S : Nat → Prop} {ρ : List (Option Nat)} {a : Act} {w : World}
theorem run_app_zeros (w : World) (t tn ty e : TypeId) (i : TypeInfo) (z : Value) (k kn : IntKind) (ht : P.underlying t = some (.slice e)) (htn : P.underlying tn = some (.int kn)) (hi : P.info? e = some i) (hz : i.zero = some z)
    (A : Option Addr) (c n : Nat) (h0 : c < n) (hs : 0 < i.size) (h63 : (n : Int) ≤ 9223372036854775807) (h48 : 2 * n * i.bytes ≤ 281474976710656) :
    (Builtin.append_ #[t, tn] ty #[.slice A 0 c, .int k n]).run P w =
     .ok (.slice (some ⟨w.heap.size, 0, none⟩) n (grownCap w n c e)) (w.drew.alloc (.cells (Builtin.zeroCells z.cells n ++ Builtin.zeroCells z.cells (grownCap w n c e - n)) e)) := by
 have hn : n ≠ 0 := by omega
 have hw : IntKind.i64.wrap (n : Int) = n := by rw [IntKind.wrap_i64]; omega
 have h63' : ¬ (9223372036854775807 < (n : Int)) := by omega
 have hle := nextslicecap_le h0
 have h48' : ¬ (281474976710656 < Builtin.nextslicecap n c * i.bytes) := by
  have : Builtin.nextslicecap n c * i.bytes ≤ 2 * n * i.bytes := Nat.mul_le_mul_right _ hle
  omega
 have h48i : ¬ (281474976710656 < (n : Int) * (i.bytes : Int)) := by
  rw [← Int.natCast_mul]
  have : n * i.bytes ≤ 2 * n * i.bytes := Nat.mul_le_mul_right _ (by omega)
  omega
 have hneg : ¬ ((n : Int) < 0) := by omega
 have hns : ¬ (n * i.size = 0) := Nat.mul_ne_zero hn (by omega)
 have hroom : ¬ n ≤ c := by omega
 have hf : ∀ w, (Builtin.firstCells i.size 0 (.slice A 0 c)).run P w = .ok #[] w := fun w => by
  cases A with
  | none => exact run_firstCells_none w _ _ _ _
  | some q => exact run_firstCells_some w i.size 0 q 0 c [] (by simp) (fun j v h => by simp at h)
 simp [Builtin.append_, run_underlying ht, run_underlying htn, sizeOf, typeInfo, zeroValue, hi, hz, asInt, asIntOf, hw, hn, hneg, hns, h63', h48', h48i, hroom, Question.forced, hf, newRow, grownCap]
theorem ef_appz {t tn e : TypeId} {sz d b k c cap n : Nat} {kx kn : IntKind} {zi : Int} {s x : Operand} {z : Value} {vs : List Value} {rows : List (List CV)} (ho : o.op = .call { callee := .builtin .append, args := #[s, x], argTypes := #[t, tn] }) (hd : o.dst = some d) (hN : d < N)
    (hE : ElemTy P t e sz) (htn : P.underlying tn = some (.int kn)) (hs : ev F s = some (.o b k 0 c)) (hH : H[b]? = some (.arr e sz cap rows)) (hx : ev F x = some (.c (.s (.int kx zi)))) (hzi : zi = n) (hn : c < n) (hle : n ≤ 1000000000)
    (hz : (P.info? e).bind (·.zero) = some z) (hvs : z.cells = vs.toArray) (h1 : vs.all Value.oneCell' = true) :
    Ef P N E o F H fun F' H' => ∃ c2, n ≤ c2 ∧ F' = (d, .o H.length 0 n c2) :: F ∧ H' = H ++ [.arr e sz c2 (List.replicate n (vs.map cvOf))] := fun S ρ a w hR => by
 subst hzi
 obtain ⟨g1, _⟩ := hR.ev hs
 obtain ⟨g3, _⟩ := hR.ev hx
 obtain ⟨inf, z', hi, hz', hsz, hby, hzs⟩ := hE.hi
 obtain rfl : z' = z := by rw [hi] at hz; simp only [Option.bind_some] at hz; rw [hz'] at hz; exact Option.some.inj hz
 have hrun := run_app_zeros (P := P) w t tn o.type e inf z' kx kn hE.ht htn hi hz' ((AV.o b k 0 c).den ρ H |> fun v => match v with | .slice A _ _ => A | _ => none) c n hn (by rw [hsz]; exact hE.hsz) (by omega) (by
  have : 2 * n * inf.bytes ≤ 2 * n * 256 := Nat.mul_le_mul_left _ hby
  omega)
 have hge := grownCap_ge w n c e
 have hcm : grownCap w n c e ≤ maxLen := grownCap_le_maxLen w n c e (by simp only [maxLen]; omega)
 have hvl : vs.length = sz := by rw [← hzs, hvs]; simp
 unfold effO
 have hex : (execOp a.eval o).run P w = .ok (.value (.slice (some ⟨w.heap.size, 0, none⟩) n (grownCap w n c e))) (w.drew.alloc (.cells (Builtin.zeroCells z'.cells n ++ Builtin.zeroCells z'.cells (grownCap w n c e - n)) e)) := by
  unfold execOp
  simp only [AV.den, CV.den] at g1 g3 hrun
  simp only [ho, resolve, invoke, builtin, Sem.run_bind, Sem.run_pure, Result.andThen_ok, List.map_toArray, List.map_cons, List.map_nil, g1, g3, hrun]
 rw [hex]
 have hR2 := hR.drew
 have hob : OwnB (w.drew.alloc (.cells (Builtin.zeroCells z'.cells n ++ Builtin.zeroCells z'.cells (grownCap w n c e - n)) e)) S (ρ ++ [some w.drew.heap.size]) (H ++ [.arr e sz (grownCap w n c e) (List.replicate n (vs.map cvOf))]) (.arr e sz (grownCap w n c e) (List.replicate n (vs.map cvOf))) (some w.drew.heap.size) := by
  refine .inr ⟨_, _, rfl, heap_new _ _, ?_, hcm, by simpa using hge, fun row hrow => ?_, fun k' j row u hk hj => ?_⟩
  ·simp only [Array.size_append, size_zeroCells, hzs, ← Nat.add_mul]
   congr 1; omega
  ·have := List.eq_of_mem_replicate hrow
   subst this
   refine ⟨by simp [hvl], fun u hu => ?_⟩
   obtain ⟨v, hv, rfl⟩ := List.mem_map.1 hu
   exact ⟨cvOf_good _ _ _, by rw [cvOf_den]; exact List.all_eq_true.1 h1 v hv⟩
  ·rw [List.getElem?_replicate] at hk
   split at hk
   ·rename_i hkc
    injection hk with hk
    subst hk
    rw [List.getElem?_map] at hj
    cases hv : vs[j]? with
    | none => rw [hv] at hj; cases hj
    | some v =>
     rw [hv] at hj
     simp only [Option.map_some, Option.some.injEq] at hj
     subst hj
     have hjl : j < sz := by rw [← hvl]; exact (List.getElem?_eq_some_iff.1 hv).1
     have hlt : k' * sz + j < n * sz := by
      have : (k' + 1) * sz ≤ n * sz := Nat.mul_le_mul_right sz hkc
      rw [Nat.add_mul] at this
      omega
     rw [cvOf_den, Array.getElem?_append, if_pos (by rw [size_zeroCells, hzs]; exact hlt)]
     have hlt' : k' * sz + j < n * z'.cells.size := by rw [hzs]; exact hlt
     simp only [Builtin.zeroCells, Array.getElem?_map, Array.getElem?_range, hlt', if_true, Option.map_some]
     rw [hzs, show (k' * sz + j) % sz = j from by rw [Nat.add_comm, Nat.add_mul_mod_self_right, Nat.mod_eq_of_lt hjl]]
     congr 1
     have : z'.cells[j]? = some v := by rw [hvs]; simpa using hv
     rw [getElem!_def, this]
   ·cases hk
 have hR3 := hR2.new _ e _ hob
 refine ⟨S, ρ ++ [some w.drew.heap.size], _, _, ⟨grownCap w n c e, hge, rfl, rfl⟩, ?_⟩
 rw [hd]
 have := hR3.put hN (wf_snoc_o hR2.hp (ob := .arr e sz (grownCap w n c e) (List.replicate n (vs.map cvOf))) (n := n) (c := grownCap w n c e) hge (Nat.le_refl _))
 rw [den_snoc_o hR2.hp] at this
 exact this
end
end Go.Proofs.YtcchlddiggmcaaaGreatDoor
