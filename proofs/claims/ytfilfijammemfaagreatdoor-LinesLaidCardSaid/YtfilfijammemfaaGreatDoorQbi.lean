/- The order of the reference's lines, by value: turned, has, slices.Compare of numbers, slices.SortFunc of lines. -/
import Derived.Test.YtfilfijammemfaaGreatDoorQau
import Derived.Shelf.SlSortCmp.NoneTotal
import Derived.Shelf.SortM.Plain
import Derived.Shelf.SortM.SortNone
import Derived.Test.YtfilfijammemfaaGreatDoorQbh
import Derived.Test.YtfilfijammemfaaGreatDoorQbe
import Derived.Test.YtfilfijammemfaaGreatDoorQbg
set_option linter.unusedSimpArgs false
set_option linter.unusedVariables false
/- slices.SortFunc and slices.Sort over values, from the library's contracts. Conditions: none. -/
namespace Go.Proofs.YtfilfijammemfaaGreatDoor
open Go Go.RowKit Go.Shelf Go.Sort

theorem Stp.grown {w w' : World} (h : Stp w w' (fun _ => False)) : ∃ q os, w' = Sort.grow (w.drewN q) os := by
 refine ⟨w'.drawn - w.drawn, w'.heap.extract w.heap.size w'.heap.size, ?_⟩
 have hh : w.heap ++ w'.heap.extract w.heap.size w'.heap.size = w'.heap := by
  refine Array.ext_getElem? fun k => ?_
  rw [Array.getElem?_append]
  split
  ·rename_i hk; exact (h.block k hk (fun x => x)).symm
  ·rename_i hk
   rw [Array.getElem?_extract]
   have hs := h.size
   by_cases h2 : k < w'.heap.size
   ·rw [if_pos (by omega)]; congr 1; omega
   ·rw [if_neg (by omega), Array.getElem?_eq_none (by omega)]
 have h1 := h.os; have h2 := h.tape; have h3 := h.output; have h4 := h.drawn
 obtain ⟨hp, tp, dr, o, out⟩ := w
 obtain ⟨hp', tp', dr', o', out'⟩ := w'
 simp only at h1 h2 h3 h4 hh ⊢
 subst h1; subst h2; subst h3
 simp only [Sort.grow, World.drewN]
 rw [hh, show dr + (dr' - dr) = dr' by omega]

section
variable {w : World} {S : Nat → Prop} {ρ : List (Option Nat)} {e : TypeId} {k cap B n : Nat} {rows rows' : List (List CV)} {cs : Array Value} {os : Array Obj} {f : Array Value → Array Value}
theorem sort_heap_ne {b : Nat} (hb : b < w.heap.size) (hne : b ≠ B) : (Sort.grow (mapBlock (Sort.ahead w n) B f) os).heap[b]? = w.heap[b]? := by
 simp only [Sort.grow, mapBlock, Sort.ahead]
 rw [Array.getElem?_append_left (by simpa using hb), Array.getElem?_modify, if_neg (fun e => hne e.symm)]
theorem sort_heap_at (hh : w.heap[B]? = some (.cells cs e (0, 0))) : (Sort.grow (mapBlock (Sort.ahead w n) B f) os).heap[B]? = some (.cells (f cs) e (0, 0)) := by
 have hb : B < w.heap.size := by
  rcases Nat.lt_or_ge B w.heap.size with h | h
  ·exact h
  ·rw [Array.getElem?_eq_none h] at hh; cases hh
 simp only [Sort.grow, mapBlock, Sort.ahead]
 rw [Array.getElem?_append_left (by simpa using hb), Array.getElem?_modify, if_pos rfl, hh]
 rfl
theorem sort_size : w.heap.size ≤ (Sort.grow (mapBlock (Sort.ahead w n) B f) os).heap.size := by
 simp [Sort.grow, mapBlock, Sort.ahead]
theorem inP_arr1 {e : TypeId} {k cap : Nat} {rows : List (List CV)} (i k' B : Nat) : ¬ inP [OB.arr e k cap rows] i k' B := fun ⟨o, h, h2⟩ => by
 rw [List.getElem?_singleton] at h
 split at h
 ·injection h with h; subst h; exact arr_nopool h2
 ·cases h
theorem sort_back (hR : RH w S ρ [.arr e k cap rows]) (hB : atB ρ 0 = some B) (hh : w.heap[B]? = some (.cells cs e (0, 0))) (hcs : (f cs).size = cap * k) (hmx : cap ≤ maxLen) (hl : rows'.length ≤ cap)
    (hrow : ∀ row ∈ rows', row.length = k ∧ ∀ u ∈ row, Good w S u ∧ u.den.oneCell' = true) (hcell : ∀ (i j : Nat) (row : List CV) (u : CV), rows'[i]? = some row → row[j]? = some u → (f cs)[i * k + j]? = some u.den) :
    RH (Sort.grow (mapBlock (Sort.ahead w n) B f) os) S ρ [.arr e k cap rows'] ∧ Stp w (Sort.grow (mapBlock (Sort.ahead w n) B f) os) (fun b => (∃ i, atB ρ i = some b) ∨ ∃ i k', inP [OB.arr e k cap rows] i k' b) := by
 have hS : ∀ b, S b → S b ∧ (Sort.grow (mapBlock (Sort.ahead w n) B f) os).heap[b]? = w.heap[b]? := fun b hb => ⟨hb, sort_heap_ne (hR.sS b hb) (fun e => hR.ap 0 B hB (e ▸ hb))⟩
 refine ⟨⟨hR.len, hR.nd, hR.ap, fun i b hi => Nat.lt_of_lt_of_le (hR.lt i b hi) sort_size, fun b hb => Nat.lt_of_lt_of_le (hR.sS b hb) sort_size, fun i o hi => ?_, PL.none inP_arr1⟩, ⟨rfl, rfl, rfl, sort_size, fun b hb hn => sort_heap_ne hb (fun e => hn (.inl ⟨0, e ▸ hB⟩)), ?_⟩⟩
 ·cases i with
  | succ i => simp at hi
  | zero =>
   simp only [List.getElem?_cons_zero, Option.some.injEq] at hi
   subst hi
   exact .inr ⟨B, f cs, hB, sort_heap_at hh, hcs, hmx, hl, fun row hr => ⟨(hrow row hr).1, fun u hu => ⟨((hrow row hr).2 u hu).1.mono hS, ((hrow row hr).2 u hu).2⟩⟩, hcell⟩
 ·show w.drawn ≤ w.drawn + n
  exact Nat.le_add_right _ _
end

abbrev SEl (w : World) (S : Nat → Prop) (k : Nat) (p : List CV → Prop) := { x : List CV // x.length = k ∧ p x ∧ ∀ u ∈ x, Good w S u ∧ u.den.oneCell' = true }
def SEl.enc {w : World} {S : Nat → Prop} {k : Nat} {p : List CV → Prop} (x : SEl w S k p) : List Value := x.1.map CV.den

theorem sort_fin {S : Nat → Prop} {ρ : List (Option Nat)} {w u : World} {e : TypeId} {k cap : Nat} {rows rows' : List (List CV)} {pn : Bool} {Q : AV → List OB → Prop} (hR : RH w S ρ [.arr e k cap rows]) (h1 : RH u S ρ [.arr e k cap rows']) (h2 : Stp w u (fun b => (∃ i, atB ρ i = some b) ∨ ∃ i k', inP [OB.arr e k cap rows] i k' b)) (hq : Q (.t []) [.arr e k cap rows']) :
    ∃ v H' ρ' S', Ending.returned (.tuple #[]) = .returned (AV.den ρ' H' v) ∧ Q v H' ∧ WF u S' ρ' H' v ∧ RH u S' ρ' H' ∧
        Stp w u (fun B => (∃ i, atB ρ i = some B) ∨ ∃ i k', inP [OB.arr e k cap rows] i k' B) ∧ (∀ b, S' b → S b ∨ (w.heap.size ≤ b ∨ ∃ i k', inP [OB.arr e k cap rows] i k' b)) ∧ (∀ i B, atB ρ' i = some B → (w.heap.size ≤ B ∨ ∃ i k', inP [OB.arr e k cap rows] i k' B) ∨ (i < [OB.arr e k cap rows].length ∧ atB ρ i = some B)) ∧
        (∀ i k' B, inP H' i k' B → w.heap.size ≤ B ∨ ∃ i k', inP [OB.arr e k cap rows] i k' B) ∧
        (∀ i, i < [OB.arr e k cap rows].length → i < H'.length ∧ ∀ o, [OB.arr e k cap rows][i]? = some o → o.shp ≠ 0 → atB ρ' i = atB ρ i ∧ ∃ o', H'[i]? = some o' ∧ o'.shp = o.shp) ∧
        (pn = true → ∀ i, i < [OB.arr e k cap rows].length → atB ρ' i = atB ρ i ∧ szAt H' i = szAt [OB.arr e k cap rows] i ∧ capAt H' i = capAt [OB.arr e k cap rows] i) := by
 refine ⟨.t [], [.arr e k cap rows'], ρ, S, rfl, hq, .t (by simp), h1, h2, fun b hb => .inl hb, fun i B hi => .inr ⟨by have := atB_lt hi; rw [hR.len] at this; exact this, hi⟩, fun i k' B hi => absurd hi (inP_arr1 i k' B), fun i hi => ⟨by simpa using hi, fun o ho hs => ?_⟩, fun _ i hi => ?_⟩
 ·cases i with
  | succ i => simp at hi
  | zero => simp only [List.getElem?_cons_zero, Option.some.injEq] at ho; subst ho; exact absurd rfl hs
 ·cases i with
  | succ i => simp at hi
  | zero => exact ⟨rfl, rfl, rfl⟩

theorem acalls_sort {P : Program} {τ : Ren} (L : SlLaysF0.n6 P τ) {k : Nat} (aE : ∀ w, (isAgg (τ.t 24)).run P w = .ok true w) (zE : ∀ w, (Go.sizeOf (τ.t 24)).run P w = .ok k w) (p : List CV → Prop) (cf : List CV → List CV → Int) {g : FuncId} (hg : okFn P g = true)
    (hirr : ∀ x, p x → ¬ cf x x < 0) (htr : ∀ x y z, p x → p y → p z → cf x y < 0 → cf y z < 0 → cf x z < 0) (hnt : ∀ x y z, p x → p y → p z → ¬ cf x y < 0 → ¬ cf y z < 0 → ¬ cf x z < 0)
    (hc : ∀ x y, p x → p y → ACalls P g [.a (x.map .c), .a (y.map .c)] [] fun u H => u = .c (.s (.int .i64 (cf x y))) ∧ H = [])
    (rows : List (List CV)) (hp : ∀ r ∈ rows, p r) (hle : rows.length ≤ 1000000000) {e : TypeId} {cap n c : Nat} {pn : Bool} (hn : n = rows.length) :
    ACallsX pn P (τ.f 6) [.o 0 0 n c, .f (.func g) []] [.arr e k cap rows] fun u H => ∃ rows', u = .t [] ∧ H = [.arr e k cap rows'] ∧ rows'.Perm rows ∧ rows'.Pairwise (fun x y => ¬ cf y x < 0) := fun S ρ w hR hW => by
 have hwf : WF w S ρ [.arr e k cap rows] (.o 0 0 n c) := hW _ (by simp)
 have hargs : ([AV.o 0 0 n c, AV.f (.func g) []].map (AV.den ρ [.arr e k cap rows])).toArray = #[.slice ((atB ρ 0).map fun B => ⟨B, 0, none⟩) n c, .func (.func g) #[] #[]] := by
  simp [AV.den, AV.denL]; rfl
 rw [hargs]
 by_cases hr0 : rows = []
 ·subst hr0
  simp only [List.length_nil] at hn
  subst hn
  refine (AnyF.slices_SortFunc_none L _ c _ w).mono ?_
  rintro e' w' ⟨rfl, rfl⟩
  exact sort_fin hR hR (Stp.refl _ _) ⟨[], rfl, rfl, List.Perm.refl _, List.Pairwise.nil⟩
 ·rcases hR.blk 0 _ rfl with ⟨_, _, h⟩ | ⟨B, cs, hB, hh, hcs, hmx, hl, hrow, hcell⟩
  ·exact absurd h hr0
  ·rw [hB]
   have hall : ∀ r ∈ rows, r.length = k ∧ p r ∧ ∀ u ∈ r, Good w S u ∧ u.den.oneCell' = true := fun r hr => ⟨(hrow r hr).1, hp r hr, (hrow r hr).2⟩
   letI : Inhabited (SEl w S k p) := ⟨⟨rows.head hr0, hall _ (List.head_mem hr0)⟩⟩
   let d : Array (SEl w S k p) := (rows.attachWith _ hall).toArray
   have hds : d.size = n := by simp [d, hn]
   have hdg : ∀ i (hi : i < rows.length), (d[i]!).1 = rows[i] := fun i hi => by
    rw [getElem!_pos d i (by rw [hds, hn]; exact hi)]
    simp [d]
   have hblt : B < w.heap.size := hR.lt 0 B hB
   have hS : ∀ (m : Nat) (os : Array Obj) (dk : Array (SEl w S k p)) (b : Nat), S b → S b ∧ (sortWorldK (α := SEl w S k p) SEl.enc k w B 0 m dk os).heap[b]? = w.heap[b]? := fun m os dk b hb => ⟨hb, sort_heap_ne (hR.sS b hb) (fun e => hR.ap 0 B hB (e ▸ hb))⟩
   have hlen : ∀ x : SEl w S k p, x.enc.length = k := fun x => by rw [SEl.enc, List.length_map]; exact x.2.1
   have hH : HoldsK SEl.enc k w B 0 d := fun j hj => by
    rw [size_flatK] at hj
    rw [get_flatK _ _ _ _ hj]
    have hk0 : 0 < k := by rcases Nat.eq_zero_or_pos k with h | h; · subst h; simp at hj
                           ·exact h
    have hq : j / k < rows.length := by rw [← hn, ← hds]; exact Nat.div_lt_of_lt_mul (by rw [Nat.mul_comm]; exact hj)
    have hm : j % k < k := Nat.mod_lt _ hk0
    have hrl := (hrow _ (List.getElem_mem hq)).1
    have h1 := hcell (j / k) (j % k) _ _ (List.getElem?_eq_getElem hq) (List.getElem?_eq_getElem (by rw [hrl]; exact hm))
    rw [show j / k * k + j % k = j by rw [Nat.mul_comm]; exact Nat.div_add_mod j k] at h1
    refine ⟨?_, ?_⟩
    ·show w.cell? ⟨B, 0 + j, none⟩ = some ((SEl.enc d[j / k]!)[j % k]!)
     rw [Nat.zero_add]
     simp only [World.cell?, hh, h1, Option.isSome_none, Bool.false_eq_true, if_false]
     rw [getElem!_pos _ _ (by rw [hlen]; exact hm)]
     simp [SEl.enc, hdg _ hq]
    ·simp [World.frozen?, hh]
   have hcmp : CmpLays P g #[] SEl.enc k (fun x y => cf x.1 y.1) B 0 d.size w := fun m os dk _ x y => by
    have hRW : RH (sortWorldK (α := SEl w S k p) SEl.enc k w B 0 m dk os) S [] [] := ⟨rfl, fun i i' B h => (by cases h), fun i B h => (by cases h), fun i B h => (by cases h), fun b hb => Nat.lt_of_lt_of_le (hR.sS b hb) sort_size, fun i o h => (by simp at h), PL.none fun _ _ _ => inP_nil⟩
    have hax : (List.map (AV.den [] []) [AV.a (x.1.map .c), AV.a (y.1.map .c)]).toArray = #[.agg (SEl.enc x).toArray, .agg (SEl.enc y).toArray] ++ #[] := by
     simp [AV.den, AV.denL_eq, SEl.enc, Function.comp_def]
    rw [← hax]
    refine (hc x.1 y.1 x.2.2.1 y.2.2.1 S [] _ hRW ?_).mono ?_
    ·intro v hv
     have key : ∀ z : SEl w S k p, WF (sortWorldK (α := SEl w S k p) SEl.enc k w B 0 m dk os) S [] [] (.a (z.1.map .c)) := fun z => .a fun u hu => by
      obtain ⟨q, hq, rfl⟩ := List.mem_map.1 hu
      exact .c ((z.2.2.2 q hq).1.mono (hS m os dk))
     simp only [List.mem_cons, List.not_mem_nil, or_false] at hv
     rcases hv with rfl | rfl
     ·exact key x
     ·exact key y
    ·rintro e' w' ⟨u, H', ρ', S', rfl, ⟨rfl, rfl⟩, _, _, hst, _⟩
     exact ⟨rfl, Stp.grown ⟨hst.os, hst.tape, hst.output, hst.size, fun b hb _ => hst.block b hb (fun h => h.elim (fun ⟨i, h⟩ => by cases h) (fun ⟨_, _, h⟩ => inP_nil h)), hst.drawn⟩⟩
   have hO : SWO (ltOf fun x y : SEl w S k p => cf x.1 y.1) :=
    ⟨fun x => by simpa [ltOf] using hirr x.1 x.2.2.1, fun x y z h1 h2 => by
        simp only [ltOf, decide_eq_true_eq] at h1 h2 ⊢
        exact htr _ _ _ x.2.2.1 y.2.2.1 z.2.2.1 h1 h2, fun x y z h1 h2 => by
        simp only [ltOf, decide_eq_false_iff_not] at h1 h2 ⊢
        exact hnt _ _ _ x.2.2.1 y.2.2.1 z.2.2.1 h1 h2⟩
   have hcap : n ≤ cap := by rw [hn]; exact hl
   have hcon := AnyQ.slices_SortFunc L k aE zE SEl.enc hlen (fun x v hv => by
    obtain ⟨u, hu, rfl⟩ := List.mem_map.1 hv
    exact (x.2.2.2 u hu).2) (fun x y => cf x.1 y.1) hO g #[] B 0 c d w (fun args w => run_callFunc hg) hcmp hH hblt (by
     rw [hds]; omega)
   rw [hds] at hcon
   refine hcon.mono ?_
   rintro e' w' ⟨rfl, d', q, os, ⟨hps, _, hpp⟩, hsrt, rfl⟩
   have hd' : d'.size = n := by rw [hps, hds]
   have hl' : (d'.toList.map (fun x : SEl w S k p => x.1)).length = rows.length := by simp [hd', hn]
   have hfs : ∀ F : Array Value, ((putCells id 0 F) cs).size = cs.size := fun F => by simp [putCells]
   obtain ⟨h1, h2⟩ := sort_back (n := q) (os := os) (f := putCells id 0 (flatK SEl.enc k d')) (rows' := d'.toList.map (fun x : SEl w S k p => x.1)) hR hB hh (by rw [hfs, hcs]) hmx (by rw [hl']; exact hl) (fun row hr => by
       obtain ⟨x, _, rfl⟩ := List.mem_map.1 hr
       exact ⟨x.2.1, x.2.2.2⟩) (fun i j row u hi hj => by
       rw [List.getElem?_map] at hi
       cases hx : d'.toList[i]? with
       | none => rw [hx] at hi; cases hi
       | some x =>
        rw [hx] at hi
        simp only [Option.map_some, Option.some.injEq] at hi
        subst hi
        have hi2 : i < d'.size := by
         rw [Array.getElem?_toList] at hx
         rcases Nat.lt_or_ge i d'.size with h | h
         ·exact h
         ·rw [Array.getElem?_eq_none h] at hx; cases hx
        have hj2 : j < k := by
         rcases Nat.lt_or_ge j x.1.length with h | h
         ·rw [← x.2.1]; exact h
         ·rw [List.getElem?_eq_none h] at hj; cases hj
        have hlt : i * k + j < d'.size * k := by
         have := Nat.mul_le_mul_right k (show i + 1 ≤ d'.size from hi2); rw [Nat.add_mul, Nat.one_mul] at this; omega
        have hlt2 : i * k + j < cs.size := by
         rw [hcs]; exact Nat.lt_of_lt_of_le hlt (Nat.mul_le_mul_right k (by rw [hd']; exact hcap))
        have e1 : (i * k + j) / k = i := (blk_iff k i _ (by omega)).1 ⟨by omega, by omega⟩
        have e2 : (i * k + j) % k = j := by rw [Nat.mod_eq_sub_div_mul, e1]; omega
        simp only [putCells, Array.getElem?_mapIdx, Array.getElem?_eq_getElem hlt2, Option.map_some]
        rw [if_pos ⟨Nat.zero_le _, by rw [size_flatK]; omega⟩, Nat.sub_zero, get_flatK _ _ _ _ hlt, e1, e2]
        have hxe : d'[i]! = x := by
         rw [getElem!_pos d' i hi2]
         rw [Array.getElem?_toList, Array.getElem?_eq_getElem hi2] at hx
         injection hx
        rw [hxe]
        have : x.enc[j]? = some u.den := by rw [SEl.enc, List.getElem?_map, hj]; rfl
        rw [getElem!_pos _ _ (by rw [hlen]; exact hj2)]
        rw [List.getElem?_eq_getElem (by rw [hlen]; exact hj2)] at this
        injection this with this
        simp [this])
   refine sort_fin hR h1 h2 ⟨_, rfl, rfl, ?_, ?_⟩
   ·have h3 : d'.toList.Perm d.toList := by
     have a1 : d'.extract 0 n = d' := by rw [← hd']; simp
     have a2 : d.extract 0 n = d := by rw [← hds]; simp
     rw [a1, a2] at hpp; exact hpp
    have h4 := h3.map (fun x : SEl w S k p => x.1)
    have h5 : d.toList.map (fun x : SEl w S k p => x.1) = rows := by
     refine List.ext_getElem (by simp [d]) fun i h1 h2 => ?_
     simp [d]
    rwa [h5] at h4
   ·rw [List.pairwise_map, List.pairwise_iff_getElem]
    intro i j hi hj hij
    have hi' : i < d'.size := by simpa using hi
    have hj' : j < d'.size := by simpa using hj
    have := hsrt i j (Nat.zero_le _) hij (by rw [← hd']; exact hj')
    rw [getElem!_pos d' i hi', getElem!_pos d' j hj'] at this
    simpa [ltOf] using this

end Go.Proofs.YtfilfijammemfaaGreatDoor

/- The order of the reference's lines, by value: turned, has, slices.Compare of numbers, slices.SortFunc of lines. -/
-- NEWM
namespace Go.Proofs.YtfilfijammemfaaGreatDoor
open Go Go.RowKit Go.Shelf
set_option maxRecDepth 100000
theorem turned_v (p : Spot) (q : Int) : ACalls Tryz.prog 93 [.a [.c (I p.1), .c (I p.2)], .c (I q)] [] fun u H => u = .a [.c (I (trQ q p).1), .c (I (trQ q p).2)] ∧ H = [] := by
 obtain ⟨a, b⟩ := p
 refine acalls_of (N := 13) Tryz.func93 rfl rfl (by simp) fun E hE => ?_
 by_cases hq : q = 1
 ·rw [trQ, if_pos hq]
  refine WA ?_
  refine WA ?_
  refine aw_cond_t rfl ?_
  refine WA ?_
  exact aret_a [] _ rfl (KK (t := 162) rfl) rfl (Cells.box rfl) (by first | (simp; done) | exact Nat.le_refl 2) (by (try simp only [nm, putL, Nat.reduceAdd, cellsOf, cvOf]) <;> rfl) (by decide) (ZNK rfl) (fun _ => C0 rfl) (fun _ => .nil) ⟨rfl, rfl⟩
 ·rw [trQ, if_neg hq]
  refine WA ?_
  refine WA ?_
  refine aw_cond_f rfl ?_
  refine ZZ ?_
  refine WA ?_
  exact aret_a [] _ rfl (KK (t := 162) rfl) rfl (Cells.box rfl) (by first | (simp; done) | exact Nat.le_refl 2) (by (try simp only [nm, putL, Nat.reduceAdd, cellsOf, cvOf]) <;> rfl) (by decide) (ZNK rfl) (fun _ => C0 rfl) (fun _ => .nil) ⟨rfl, rfl⟩
theorem hasl_v (c r : Int) (pv va : Value) (L : List Spot) (hl : L.length ≤ 1000000000) : ACalls Tryz.prog 94 [.c (I c), .c (I r), .c (.p pv [.r va (sR L)])] [] fun u H => u = .c (B (hasL L r c)) ∧ H = [] := by
 refine acalls_of (N := 11) Tryz.func94 rfl rfl (by simp) fun E hE => ?_
 refine WA ?_
 refine ZR ?_
 refine ZA (rd_ldcp rfl (by kernel_rfl) rfl rfl) ?_
 refine WO ?_
 refine al_ef rfl (ef_call0 false (fun _ => haspl_v c r L va hl) rfl .fn rfl (by decide) (by kernel_rfl) rfl (fun _g => .cons (.c rfl) (.cons (.aL (C0 rfl)) .nil)) (by simp)) ?_
 rintro _ _ ⟨_, _, _, ⟨rfl, rfl⟩, hF, hH⟩
 (refine NST hF hH ?_; clear hF hH; rintro rfl rfl)
 refine WE ?_
 exact aret_1 [] _ rfl rfl rfl (by decide) (ZNK rfl) (fun _ => .nil) ⟨rfl, rfl⟩
def cmpLs : List Int → List Int → Int
 | [], [] => 0
 | [], _ :: _ => -1
 | _ :: _, [] => 1
 | x :: a, y :: b => if cmpI x y ≠ 0 then cmpI x y else cmpLs a b
theorem drop_c {l : List Int} {k : Nat} {n : Int} (h : l[k]? = some n) : l.drop k = n :: l.drop (k + 1) := by
 obtain ⟨h1, h2⟩ := List.getElem?_eq_some_iff.1 h
 rw [List.drop_eq_getElem_cons h1, h2]
set_option maxHeartbeats 1000000 in
theorem compare_v (a b : List Int) (va vb : Value) (ha : a.length ≤ 1000000) (hb : b.length ≤ 1000000) : ACalls Tryz.prog 98 [.c (.r va (nR a)), .c (.r vb (nR b))] [] fun u H => u = .c (I (cmpLs a b)) ∧ H = [] := by
 have e1 : (nR a).length = a.length := by simp
 have e2 : (nR b).length = b.length := by simp
 refine acalls_of (N := 36) Tryz.func98 rfl rfl (by simp) fun E hE => ?_
 refine WA ?_
 refine WA ?_
 refine aw_loopw (fun m F H => ∃ (k : Nat), m + k = a.length ∧ k ≤ b.length ∧ cmpLs (a.drop k) (b.drop k) = cmpLs a b ∧ F = [(0, .c (.r va (nR a))), (1, .c (.r vb (nR b))), (9, .c (.r va (nR a))), (10, .c (I (nR a).length)), (11, .c (I k))] ∧ H = []) ?_ ?_
 ·refine wk_of [] (fun _ => [(0, .c (.r va (nR a))), (1, .c (.r vb (nR b))), (9, .c (.r va (nR a))), (10, .c (I (nR a).length)), (11, .c (I (0 : Nat)))]) (fun _ => []) (by decide) (ZNL hE) ZCF (fun _ => .nil) (fun _ => ?_)
  exact ⟨a.length, 0, by omega, by omega, rfl, rfl, rfl⟩
 rintro m F H ⟨k, hk, hkb, hf, rfl, rfl⟩
 refine WA ?_
 refine aw_if rfl (fun hlt => ?_) (fun hge => ?_)
 ·obtain ⟨x, hx⟩ : ∃ n, a[k]? = some n := ⟨_, List.getElem?_eq_getElem (by omega)⟩
  have hrow : (nR a)[k]? = some [I x] := by rw [List.getElem?_map, hx]; rfl
  have hd := drop_c hx
  rw [hd] at hf
  refine WA ?_
  refine WA ?_
  refine aw_if rfl (fun h1 => ?_) (fun h1 => ?_)
  ·have hv : cmpLs a b = 1 := by rw [← hf, List.drop_eq_nil_of_le (show b.length ≤ k by omega)]; rfl
   rw [hv]
   refine WA ?_
   exact aret_1 [] _ rfl rfl rfl (by decide) (ZNK rfl) (fun _ => .nil) ⟨rfl, rfl⟩
  obtain ⟨y, hy⟩ : ∃ n, b[k]? = some n := ⟨_, List.getElem?_eq_getElem (by omega)⟩
  have hrow2 : (nR b)[k]? = some [I y] := by rw [List.getElem?_map, hy]; rfl
  rw [drop_c hy, cmpLs] at hf
  refine ZZ ?_
  refine WA ?_
  refine WR ?_
  refine al_ef rfl (ef_call0 false (fun _ => cmpI_v _ _) rfl .fn rfl (by decide) (by kernel_rfl) rfl (fun _g => .cons (.c rfl) (.cons (.c rfl) .nil)) (by simp)) ?_
  rintro _ _ ⟨_, _, _, ⟨rfl, rfl⟩, hF, hH⟩
  (refine NST hF hH ?_; clear hF hH; rintro rfl rfl)
  refine WE ?_
  generalize cmpI x y = z at *
  refine WA ?_
  refine aw_if rfl (fun h0 => ?_) (fun h0 => ?_)
  ·rw [if_pos h0] at hf
   rw [← hf]
   refine WA ?_
   exact aret_1 [] _ rfl rfl rfl (by decide) (ZNK rfl) (fun _ => .nil) ⟨rfl, rfl⟩
  ·rw [if_neg h0] at hf
   refine ZZ ?_
   refine WA ?_
   refine wk_of [] (fun _ => [(0, .c (.r va (nR a))), (1, .c (.r vb (nR b))), (9, .c (.r va (nR a))), (10, .c (I (nR a).length)), (11, .c (I (k + 1 : Nat)))]) (fun _ => []) (by decide) (ZNL hE) ZCF (fun _ => .nil) (fun _ => ?_)
   exact ⟨m - 1, by omega, k + 1, by omega, by omega, hf, rfl, rfl⟩
 rw [List.drop_eq_nil_of_le (show a.length ≤ k by omega)] at hf
 refine ZZ ?_
 refine WA ?_
 refine aw_if rfl (fun h0 => ?_) (fun h0 => ?_)
 ·have hv : cmpLs a b = -1 := by
   rw [← hf]
   cases hb2 : b.drop k with
   | nil => have := List.drop_eq_nil_iff.1 hb2; omega
   | cons y l => rfl
  rw [hv]
  refine WA ?_
  exact aret_1 [] _ rfl rfl rfl (by decide) (ZNK rfl) (fun _ => .nil) ⟨rfl, rfl⟩
 ·have hv : cmpLs a b = 0 := by rw [← hf, List.drop_eq_nil_of_le (show b.length ≤ k by omega)]; rfl
  rw [hv]
  refine ZZ ?_
  refine WA ?_
  exact aret_1 [] _ rfl rfl rfl (by decide) (ZNK rfl) (fun _ => .nil) ⟨rfl, rfl⟩
def cmpLn (a b : Lin) : Int := cmpLs [a.1, a.2.1] [b.1, b.2.1]
theorem cmpN_lt {m n : Int} : cmpI m n < 0 ↔ m < n := by unfold cmpI; split <;> (try split) <;> omega
theorem cmpN_0 {m n : Int} : cmpI m n = 0 ↔ m = n := by unfold cmpI; split <;> (try split) <;> omega
theorem cmpLn_lt (a b : Lin) : cmpLn a b < 0 ↔ ltL a b := by
 have h1 := @cmpN_lt a.1 b.1
 have h2 := @cmpN_0 a.1 b.1
 have h3 := @cmpN_lt a.2.1 b.2.1
 have h4 := @cmpN_0 a.2.1 b.2.1
 unfold cmpLn ltL
 simp only [cmpLs]
 split
 ·omega
 ·split <;> omega
theorem cmpLn_v (a b : Lin) : ACalls Tryz.prog 97 [.a [.c (I a.1), .c (I a.2.1), .c (I a.2.2)], .a [.c (I b.1), .c (I b.2.1), .c (I b.2.2)]] [] fun u H => u = .c (I (cmpLn a b)) ∧ H = [] := by
 obtain ⟨a1, a2, a3⟩ := a
 obtain ⟨b1, b2, b3⟩ := b
 refine acalls_of (N := 16) Tryz.func97 rfl rfl (by simp) fun E hE => ?_
 refine WA ?_
 refine WR ?_
 refine al_ef rfl (ef_call0 true (fun g => compare_v [a1, a2] [b1, b2] (g (.o _ 0 2 2)) (g (.o _ 0 2 2)) (by simp) (by simp)) rfl .fn rfl (by decide) (by kernel_rfl) rfl (fun _ => .cons (.frz rfl rfl rfl rfl rfl) (.cons (.frz rfl rfl rfl rfl rfl) .nil)) (fun _ _ _ _ ⟨hu, hH⟩ => by rw [hu, hH]; exact ⟨.c (.inl trivial), by simp⟩)) ?_
 rintro _ _ ⟨_, _, _, ⟨rfl, rfl⟩, hF, hH⟩
 (refine NST hF hH ?_; clear hF hH; rintro rfl rfl)
 refine WE ?_
 exact aret_1 [] _ rfl rfl rfl (by decide) (ZNK rfl) (fun _ => .nil) ⟨rfl, rfl⟩
def sortLnL_ren : Go.Shelf.Ren := ⟨fun | 6 => 96 | 15 => 138 | 14 => 137 | 28 => 180 | 29 => 181 | 20 => 172 | 21 => 173 | 22 => 174 | 23 => 175 | 24 => 176 | 25 => 177 | 26 => 178 | 27 => 179 | 46 => 216 | 47 => 217 | 48 => 218 | 49 => 219 | 50 => 220 | 57 => 254 | n => n, fun | 22 => 93 | 24 => 96 | 25 => 167 | 3 => 3 | 39 => 208 | 0 => 0 | 53 => 248 | 55 => 251 | 4 => 4 | 46 => 261 | 45 => 260 | 50 => 265 | 5 => 5 | 9 => 9 | 66 => 307 | 70 => 311 | 76 => 358 | 77 => 359 | n => n, fun | n => n⟩
theorem sortLnL : Go.Proofs.SlLaysF0.n6 Tryz.prog sortLnL_ren := {
 mixed := by kernel_rfl
 f6 := ⟨Tryz.f96.name, by decide, Tryz.func96.trans (congrArg some (by kernel_rfl))⟩
 f14 := ⟨Tryz.f137.name, by decide, Tryz.func137.trans (congrArg some (by kernel_rfl))⟩
 f15 := Tryz.func138.trans (congrArg some (by kernel_rfl))
 f20 := ⟨Tryz.f172.name, by decide, Tryz.func172.trans (congrArg some (by kernel_rfl))⟩
 f21 := ⟨Tryz.f173.name, by decide, Tryz.func173.trans (congrArg some (by kernel_rfl))⟩
 f22 := ⟨Tryz.f174.name, by decide, Tryz.func174.trans (congrArg some (by kernel_rfl))⟩
 f23 := ⟨Tryz.f175.name, by decide, Tryz.func175.trans (congrArg some (by kernel_rfl))⟩
 f24 := ⟨Tryz.f176.name, by decide, Tryz.func176.trans (congrArg some (by kernel_rfl))⟩
 f25 := ⟨Tryz.f177.name, by decide, Tryz.func177.trans (congrArg some (by kernel_rfl))⟩
 f26 := ⟨Tryz.f178.name, by decide, Tryz.func178.trans (congrArg some (by kernel_rfl))⟩
 f27 := ⟨Tryz.f179.name, by decide, Tryz.func179.trans (congrArg some (by kernel_rfl))⟩
 f28 := Tryz.func180.trans (congrArg some (by kernel_rfl))
 f29 := Tryz.func181.trans (congrArg some (by kernel_rfl))
 f46 := ⟨Tryz.f216.name, by decide, Tryz.func216.trans (congrArg some (by kernel_rfl))⟩
 f47 := Tryz.func217.trans (congrArg some (by kernel_rfl))
 f48 := Tryz.func218.trans (congrArg some (by kernel_rfl))
 f49 := ⟨Tryz.f219.name, by decide, Tryz.func219.trans (congrArg some (by kernel_rfl))⟩
 f50 := ⟨Tryz.f220.name, by decide, Tryz.func220.trans (congrArg some (by kernel_rfl))⟩
 f57 := ⟨Tryz.f254.name, by decide, Tryz.func254.trans (congrArg some (by kernel_rfl))⟩
 t0 := Tryz.underlying0
 a0 := Tryz.isAgg0
 z0 := Tryz.sizeOf0
 v0 := Tryz.zeroValue0
 t3 := Tryz.underlying3
 a3 := Tryz.isAgg3
 z3 := Tryz.sizeOf3
 v3 := Tryz.zeroValue3
 t4 := Tryz.underlying4
 a4 := Tryz.isAgg4
 z4 := Tryz.sizeOf4
 v4 := Tryz.zeroValue4
 t5 := Tryz.underlying5
 a5 := Tryz.isAgg5
 z5 := Tryz.sizeOf5
 v5 := Tryz.zeroValue5
 t9 := Tryz.underlying9
 a9 := Tryz.isAgg9
 z9 := Tryz.sizeOf9
 v9 := Tryz.zeroValue9
 t22 := Tryz.underlying93
 a22 := Tryz.isAgg93
 z22 := Tryz.sizeOf93
 v22 := Tryz.zeroValue93
 t25 := Tryz.underlying167
 a25 := Tryz.isAgg167
 z25 := Tryz.sizeOf167
 v25 := Tryz.zeroValue167
 t39 := Tryz.underlying208
 a39 := Tryz.isAgg208
 z39 := Tryz.sizeOf208
 v39 := Tryz.zeroValue208
 t45 := Tryz.underlying260
 a45 := Tryz.isAgg260
 z45 := Tryz.sizeOf260
 v45 := Tryz.zeroValue260
 t46 := Tryz.underlying261
 a46 := Tryz.isAgg261
 z46 := Tryz.sizeOf261
 v46 := Tryz.zeroValue261
 t50 := Tryz.underlying265
 a50 := Tryz.isAgg265
 z50 := Tryz.sizeOf265
 v50 := Tryz.zeroValue265
 t53 := Tryz.underlying248
 a53 := Tryz.isAgg248
 z53 := Tryz.sizeOf248
 v53 := Tryz.zeroValue248
 t55 := Tryz.underlying251
 a55 := Tryz.isAgg251
 z55 := Tryz.sizeOf251
 v55 := Tryz.zeroValue251
 t66 := Tryz.underlying307
 a66 := Tryz.isAgg307
 z66 := Tryz.sizeOf307
 v66 := Tryz.zeroValue307
 t70 := Tryz.underlying311
 a70 := Tryz.isAgg311
 z70 := Tryz.sizeOf311
 v70 := Tryz.zeroValue311
 t76 := Tryz.underlying358
 a76 := Tryz.isAgg358
 z76 := Tryz.sizeOf358
 v76 := Tryz.zeroValue358
 t77 := Tryz.underlying359
 a77 := Tryz.isAgg359
 z77 := Tryz.sizeOf359
 v77 := Tryz.zeroValue359 }
def linOf : List CV → Lin
 | [.s (.int _ a), .s (.int _ b), .s (.int _ c)] => (a, b, c)
 | _ => (0, 0, 0)
theorem sortLn_v (l : List Lin) (c : Nat) (hl : l.length ≤ 1000000) : ACallsX true Tryz.prog 96 [.o 0 0 l.length c, .f (.func 97) []] [.arr 96 3 c (lnR l)] fun u H => ∃ l' : List Lin, (l'.Perm l ∧ l'.Pairwise leL) ∧ u = .t [] ∧ H = [.arr 96 3 c (lnR l')] := by
 have h := acalls_sort sortLnL (k := 3) (fun w => Tryz.isAgg96 w) (fun w => Tryz.sizeOf96 w) (fun x => ∃ s : Lin, x = [I s.1, I s.2.1, I s.2.2]) (fun x y => cmpLn (linOf x) (linOf y)) (g := 97) (by kernel_rfl)
  (by rintro _ ⟨s, rfl⟩; rw [cmpLn_lt]; exact ltL_irr)
  (by rintro _ _ _ ⟨a, rfl⟩ ⟨b, rfl⟩ ⟨c, rfl⟩; simp only [cmpLn_lt, linOf]; unfold ltL; omega)
  (by rintro _ _ _ ⟨a, rfl⟩ ⟨b, rfl⟩ ⟨c, rfl⟩; simp only [cmpLn_lt, linOf]; unfold ltL; omega)
  (by rintro _ _ ⟨a, rfl⟩ ⟨b, rfl⟩; exact cmpLn_v a b)
  (lnR l) (by intro r hr; obtain ⟨s, _, rfl⟩ := List.mem_map.1 hr; exact ⟨s, rfl⟩) (by simp; omega) (e := 96) (cap := c) (n := l.length) (c := c) (pn := true) (by simp)
 refine ACallsX.mono h fun u H => ?_
 rintro ⟨rows', rfl, rfl, hp, hs⟩
 have hm : (lnR l).map linOf = l := by
  rw [List.map_map]
  exact (List.map_congr_left fun s _ => rfl).trans (List.map_id l)
 have hrow : ∀ r ∈ rows', ∃ s : Lin, r = [I s.1, I s.2.1, I s.2.2] := fun r hr => by
  obtain ⟨s, _, rfl⟩ := List.mem_map.1 (hp.subset hr); exact ⟨s, rfl⟩
 refine ⟨rows'.map linOf, ⟨by have h2 := hp.map linOf; rwa [hm] at h2, ?_⟩, rfl, ?_⟩
 ·rw [List.pairwise_map]
  refine hs.imp fun {a b} h => ?_
  rw [cmpLn_lt] at h
  unfold ltL at h; unfold leL; omega
 ·congr 2
  rw [lnR, List.map_map]
  refine (List.map_id _).symm.trans (List.map_congr_left fun r hr => ?_)
  obtain ⟨s, rfl⟩ := hrow r hr
  rfl
end Go.Proofs.YtfilfijammemfaaGreatDoor
