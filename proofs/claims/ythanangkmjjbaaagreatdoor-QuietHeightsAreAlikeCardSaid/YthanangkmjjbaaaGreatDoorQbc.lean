/- The library's contracts of sorting lie at this program. -/
import Derived.Test.YthanangkmjjbaaaGreatDoorQar
import Derived.Shelf.SlSortCmp.NoneTotal
import Derived.Shelf.SortM.Plain
import Derived.Shelf.SortM.SortNone
import Derived.Test.YthanangkmjjbaaaGreatDoorProg
set_option linter.unusedSimpArgs false
set_option linter.unusedVariables false
/- slices.SortFunc and slices.Sort over values, from the library's contracts. Conditions: none. -/
namespace Go.Proofs.YthanangkmjjbaaaGreatDoor
open Go Go.RowKit Go.Shelf Go.Sort

/-- What only grew, as the library says it. -/
theorem Stp.grown {w w' : World} (h : Stp w w' (fun _ => False)) : ∃ q os, w' = Sort.grow (w.drewN q) os := by
  refine ⟨w'.drawn - w.drawn, w'.heap.extract w.heap.size w'.heap.size, ?_⟩
  have hh : w.heap ++ w'.heap.extract w.heap.size w'.heap.size = w'.heap := by
    refine Array.ext_getElem? fun k => ?_
    rw [Array.getElem?_append]
    split
    · rename_i hk; exact (h.block k hk (fun x => x)).symm
    · rename_i hk
      rw [Array.getElem?_extract]
      have hs := h.size
      by_cases h2 : k < w'.heap.size
      · rw [if_pos (by omega)]; congr 1; omega
      · rw [if_neg (by omega), Array.getElem?_eq_none (by omega)]
  have h1 := h.os; have h2 := h.tape; have h3 := h.output; have h4 := h.drawn
  obtain ⟨hp, tp, dr, o, out⟩ := w
  obtain ⟨hp', tp', dr', o', out'⟩ := w'
  simp only at h1 h2 h3 h4 hh ⊢
  subst h1; subst h2; subst h3
  simp only [Sort.grow, World.drewN]
  rw [hh, show dr + (dr' - dr) = dr' by omega]

section
variable {w : World} {S : Nat → Prop} {ρ : List (Option Nat)} {e : TypeId} {k cap B n : Nat} {rows rows' : List (List CV)} {cs : Array Value} {os : Array Obj} {f : Array Value → Array Value}
theorem sort_heap_ne {b : Nat} (hb : b < w.heap.size) (hne : b ≠ B) : (Sort.grow (mapBlock (Sort.ahead w n) B f) os).heap[b]? = w.heap[b]? := by
  simp only [Sort.grow, mapBlock, Sort.ahead]
  rw [Array.getElem?_append_left (by simpa using hb), Array.getElem?_modify, if_neg (fun e => hne e.symm)]
theorem sort_heap_at (hh : w.heap[B]? = some (.cells cs e (0, 0))) : (Sort.grow (mapBlock (Sort.ahead w n) B f) os).heap[B]? = some (.cells (f cs) e (0, 0)) := by
  have hb : B < w.heap.size := by
    rcases Nat.lt_or_ge B w.heap.size with h | h
    · exact h
    · rw [Array.getElem?_eq_none h] at hh; cases hh
  simp only [Sort.grow, mapBlock, Sort.ahead]
  rw [Array.getElem?_append_left (by simpa using hb), Array.getElem?_modify, if_pos rfl, hh]
  rfl
theorem sort_size : w.heap.size ≤ (Sort.grow (mapBlock (Sort.ahead w n) B f) os).heap.size := by
  simp [Sort.grow, mapBlock, Sort.ahead]
/-- The block's rows are others; all else is as it was. -/
theorem sort_back (hR : RH w S ρ [.arr e k cap rows]) (hB : atB ρ 0 = some B) (hh : w.heap[B]? = some (.cells cs e (0, 0))) (hcs : (f cs).size = cap * k) (hmx : cap ≤ maxLen) (hl : rows'.length ≤ cap)
    (hrow : ∀ row ∈ rows', row.length = k ∧ ∀ u ∈ row, Good w S u ∧ u.den.oneCell' = true) (hcell : ∀ (i j : Nat) (row : List CV) (u : CV), rows'[i]? = some row → row[j]? = some u → (f cs)[i * k + j]? = some u.den) :
    RH (Sort.grow (mapBlock (Sort.ahead w n) B f) os) S ρ [.arr e k cap rows'] ∧ Stp w (Sort.grow (mapBlock (Sort.ahead w n) B f) os) (fun b => ∃ i, atB ρ i = some b) := by
  have hS : ∀ b, S b → S b ∧ (Sort.grow (mapBlock (Sort.ahead w n) B f) os).heap[b]? = w.heap[b]? := fun b hb => ⟨hb, sort_heap_ne (hR.sS b hb) (fun e => hR.ap 0 B hB (e ▸ hb))⟩
  refine ⟨⟨hR.len, hR.nd, hR.ap, fun i b hi => Nat.lt_of_lt_of_le (hR.lt i b hi) sort_size, fun b hb => Nat.lt_of_lt_of_le (hR.sS b hb) sort_size, fun i o hi => ?_⟩, ⟨rfl, rfl, rfl, sort_size, fun b hb hn => sort_heap_ne hb (fun e => hn ⟨0, e ▸ hB⟩), ?_⟩⟩
  · cases i with
    | succ i => simp at hi
    | zero =>
      simp only [List.getElem?_cons_zero, Option.some.injEq] at hi
      subst hi
      exact .inr ⟨B, f cs, hB, sort_heap_at hh, hcs, hmx, hl, fun row hr => ⟨(hrow row hr).1, fun u hu => ⟨((hrow row hr).2 u hu).1.mono hS, ((hrow row hr).2 u hu).2⟩⟩, hcell⟩
  · show w.drawn ≤ w.drawn + n
    exact Nat.le_add_right _ _
end

/-- Elements that are sorted: rows of k closed cells that are so. -/
abbrev SEl (w : World) (S : Nat → Prop) (k : Nat) (p : List CV → Prop) := { x : List CV // x.length = k ∧ p x ∧ ∀ u ∈ x, Good w S u ∧ u.den.oneCell' = true }
def SEl.enc {w : World} {S : Nat → Prop} {k : Nat} {p : List CV → Prop} (x : SEl w S k p) : List Value := x.1.map CV.den

/-- What is left to say when a lent array has other rows, and no more has happened. -/
theorem sort_fin {S : Nat → Prop} {ρ : List (Option Nat)} {w u : World} {e : TypeId} {k cap : Nat} {rows rows' : List (List CV)} {pn : Bool} {Q : AV → List OB → Prop} (hR : RH w S ρ [.arr e k cap rows]) (h1 : RH u S ρ [.arr e k cap rows']) (h2 : Stp w u (fun b => ∃ i, atB ρ i = some b)) (hq : Q (.t []) [.arr e k cap rows']) :
    ∃ v H' ρ' S', Ending.returned (.tuple #[]) = .returned (AV.den ρ' H' v) ∧ Q v H' ∧ WF u S' ρ' H' v ∧ RH u S' ρ' H' ∧
        Stp w u (fun B => ∃ i, atB ρ i = some B) ∧ (∀ b, S' b → S b ∨ w.heap.size ≤ b) ∧ (∀ i B, atB ρ' i = some B → w.heap.size ≤ B ∨ (i < [OB.arr e k cap rows].length ∧ atB ρ i = some B)) ∧
        (∀ i, i < [OB.arr e k cap rows].length → i < H'.length ∧ ∀ o, [OB.arr e k cap rows][i]? = some o → o.shp ≠ 0 → atB ρ' i = atB ρ i ∧ ∃ o', H'[i]? = some o' ∧ o'.shp = o.shp) ∧
        (pn = true → ∀ i, i < [OB.arr e k cap rows].length → atB ρ' i = atB ρ i ∧ szAt H' i = szAt [OB.arr e k cap rows] i ∧ capAt H' i = capAt [OB.arr e k cap rows] i) := by
  refine ⟨.t [], [.arr e k cap rows'], ρ, S, rfl, hq, .t (by simp), h1, h2, fun b hb => .inl hb, fun i B hi => .inr ⟨by have := atB_lt hi; rw [hR.len] at this; exact this, hi⟩, fun i hi => ⟨by simpa using hi, fun o ho hs => ?_⟩, fun _ i hi => ?_⟩
  · cases i with
    | succ i => simp at hi
    | zero => simp only [List.getElem?_cons_zero, Option.some.injEq] at ho; subst ho; exact absurd rfl hs
  · cases i with
    | succ i => simp at hi
    | zero => exact ⟨rfl, rfl, rfl⟩

/-- **slices.SortFunc of structs.** -/
theorem acalls_sort {P : Program} {τ : Ren} (L : SlLaysF0.n6 P τ) {k : Nat} (aE : ∀ w, (isAgg (τ.t 24)).run P w = .ok true w) (zE : ∀ w, (Go.sizeOf (τ.t 24)).run P w = .ok k w) (p : List CV → Prop) (cf : List CV → List CV → Int) {g : FuncId} (hg : okFn P g = true)
    (hirr : ∀ x, p x → ¬ cf x x < 0) (htr : ∀ x y z, p x → p y → p z → cf x y < 0 → cf y z < 0 → cf x z < 0) (hnt : ∀ x y z, p x → p y → p z → ¬ cf x y < 0 → ¬ cf y z < 0 → ¬ cf x z < 0)
    (hc : ∀ x y, p x → p y → ACalls P g [.a (x.map .c), .a (y.map .c)] [] fun u H => u = .c (.s (.int .i64 (cf x y))) ∧ H = [])
    (rows : List (List CV)) (hp : ∀ r ∈ rows, p r) (hle : rows.length ≤ 1000000000) {e : TypeId} {cap n c : Nat} {pn : Bool} (hn : n = rows.length) :
    ACallsX pn P (τ.f 6) [.o 0 0 n c, .f (.func g) []] [.arr e k cap rows] fun u H => ∃ rows', u = .t [] ∧ H = [.arr e k cap rows'] ∧ rows'.Perm rows ∧ rows'.Pairwise (fun x y => ¬ cf y x < 0) := fun S ρ w hR hW => by
  have hwf : WF w S ρ [.arr e k cap rows] (.o 0 0 n c) := hW _ (by simp)
  have hargs : ([AV.o 0 0 n c, AV.f (.func g) []].map (AV.den ρ [.arr e k cap rows])).toArray = #[.slice ((atB ρ 0).map fun B => ⟨B, 0, none⟩) n c, .func (.func g) #[] #[]] := by
    simp [AV.den, AV.denL]
  rw [hargs]
  by_cases hr0 : rows = []
  · subst hr0
    simp only [List.length_nil] at hn
    subst hn
    refine (AnyF.slices_SortFunc_none L _ c _ w).mono ?_
    rintro e' w' ⟨rfl, rfl⟩
    exact sort_fin hR hR (Stp.refl _ _) ⟨[], rfl, rfl, List.Perm.refl _, List.Pairwise.nil⟩
  · rcases hR.blk 0 _ rfl with ⟨_, _, h⟩ | ⟨B, cs, hB, hh, hcs, hmx, hl, hrow, hcell⟩
    · exact absurd h hr0
    · rw [hB]
      have hall : ∀ r ∈ rows, r.length = k ∧ p r ∧ ∀ u ∈ r, Good w S u ∧ u.den.oneCell' = true := fun r hr => ⟨(hrow r hr).1, hp r hr, (hrow r hr).2⟩
      letI : Inhabited (SEl w S k p) := ⟨⟨rows.head hr0, hall _ (List.head_mem hr0)⟩⟩
      let d : Array (SEl w S k p) := (rows.attachWith _ hall).toArray
      have hds : d.size = n := by simp [d, hn]
      have hdg : ∀ i (hi : i < rows.length), (d[i]!).1 = rows[i] := fun i hi => by
        rw [getElem!_pos d i (by rw [hds, hn]; exact hi)]
        simp [d]
      have hblt : B < w.heap.size := hR.lt 0 B hB
      have hS : ∀ (m : Nat) (os : Array Obj) (dk : Array (SEl w S k p)) (b : Nat), S b → S b ∧ (sortWorldK (α := SEl w S k p) SEl.enc k w B 0 m dk os).heap[b]? = w.heap[b]? := fun m os dk b hb => ⟨hb, sort_heap_ne (hR.sS b hb) (fun e => hR.ap 0 B hB (e ▸ hb))⟩
      have hlen : ∀ x : SEl w S k p, x.enc.length = k := fun x => by rw [SEl.enc, List.length_map]; exact x.2.1
      have hH : HoldsK SEl.enc k w B 0 d := fun j hj => by
        rw [size_flatK] at hj
        rw [get_flatK _ _ _ _ hj]
        have hk0 : 0 < k := by rcases Nat.eq_zero_or_pos k with h | h; · subst h; simp at hj
                               · exact h
        have hq : j / k < rows.length := by rw [← hn, ← hds]; exact Nat.div_lt_of_lt_mul (by rw [Nat.mul_comm]; exact hj)
        have hm : j % k < k := Nat.mod_lt _ hk0
        have hrl := (hrow _ (List.getElem_mem hq)).1
        have h1 := hcell (j / k) (j % k) _ _ (List.getElem?_eq_getElem hq) (List.getElem?_eq_getElem (by rw [hrl]; exact hm))
        rw [show j / k * k + j % k = j by rw [Nat.mul_comm]; exact Nat.div_add_mod j k] at h1
        refine ⟨?_, ?_⟩
        · show w.cell? ⟨B, 0 + j, none⟩ = some ((SEl.enc d[j / k]!)[j % k]!)
          rw [Nat.zero_add]
          simp only [World.cell?, hh, h1, Option.isSome_none, Bool.false_eq_true, if_false]
          rw [getElem!_pos _ _ (by rw [hlen]; exact hm)]
          simp [SEl.enc, hdg _ hq]
        · simp [World.frozen?, hh]
      have hcmp : CmpLays P g #[] SEl.enc k (fun x y => cf x.1 y.1) B 0 d.size w := fun m os dk _ x y => by
        have hRW : RH (sortWorldK (α := SEl w S k p) SEl.enc k w B 0 m dk os) S [] [] := ⟨rfl, fun i i' B h => (by cases h), fun i B h => (by cases h), fun i B h => (by cases h), fun b hb => Nat.lt_of_lt_of_le (hR.sS b hb) sort_size, fun i o h => (by simp at h)⟩
        have hax : (List.map (AV.den [] []) [AV.a (x.1.map .c), AV.a (y.1.map .c)]).toArray = #[.agg (SEl.enc x).toArray, .agg (SEl.enc y).toArray] ++ #[] := by
          simp [AV.den, AV.denL_eq, SEl.enc, Function.comp_def]
        rw [← hax]
        refine (hc x.1 y.1 x.2.2.1 y.2.2.1 S [] _ hRW ?_).mono ?_
        · intro v hv
          have key : ∀ z : SEl w S k p, WF (sortWorldK (α := SEl w S k p) SEl.enc k w B 0 m dk os) S [] [] (.a (z.1.map .c)) := fun z => .a fun u hu => by
            obtain ⟨q, hq, rfl⟩ := List.mem_map.1 hu
            exact .c ((z.2.2.2 q hq).1.mono (hS m os dk))
          simp only [List.mem_cons, List.not_mem_nil, or_false] at hv
          rcases hv with rfl | rfl
          · exact key x
          · exact key y
        · rintro e' w' ⟨u, H', ρ', S', rfl, ⟨rfl, rfl⟩, _, _, hst, _⟩
          exact ⟨rfl, Stp.grown ⟨hst.os, hst.tape, hst.output, hst.size, fun b hb _ => hst.block b hb (fun ⟨i, h⟩ => by cases h), hst.drawn⟩⟩
      have hO : SWO (ltOf fun x y : SEl w S k p => cf x.1 y.1) :=
        ⟨fun x => by simpa [ltOf] using hirr x.1 x.2.2.1, fun x y z h1 h2 => by
            simp only [ltOf, decide_eq_true_eq] at h1 h2 ⊢
            exact htr _ _ _ x.2.2.1 y.2.2.1 z.2.2.1 h1 h2, fun x y z h1 h2 => by
            simp only [ltOf, decide_eq_false_iff_not] at h1 h2 ⊢
            exact hnt _ _ _ x.2.2.1 y.2.2.1 z.2.2.1 h1 h2⟩
      have hcap : n ≤ cap := by rw [hn]; exact hl
      have hcon := AnyQ.slices_SortFunc L k aE zE SEl.enc hlen (fun x v hv => by
        obtain ⟨u, hu, rfl⟩ := List.mem_map.1 hv
        exact (x.2.2.2 u hu).2) (fun x y => cf x.1 y.1) hO g #[] B 0 c d w (fun args w => run_callFunc hg) hcmp hH hblt (by
          rw [hds]; omega)
      rw [hds] at hcon
      refine hcon.mono ?_
      rintro e' w' ⟨rfl, d', q, os, ⟨hps, _, hpp⟩, hsrt, rfl⟩
      have hd' : d'.size = n := by rw [hps, hds]
      have hl' : (d'.toList.map (fun x : SEl w S k p => x.1)).length = rows.length := by simp [hd', hn]
      have hfs : ∀ F : Array Value, ((putCells id 0 F) cs).size = cs.size := fun F => by simp [putCells]
      obtain ⟨h1, h2⟩ := sort_back (n := q) (os := os) (f := putCells id 0 (flatK SEl.enc k d')) (rows' := d'.toList.map (fun x : SEl w S k p => x.1)) hR hB hh (by rw [hfs, hcs]) hmx (by rw [hl']; exact hl) (fun row hr => by
          obtain ⟨x, _, rfl⟩ := List.mem_map.1 hr
          exact ⟨x.2.1, x.2.2.2⟩) (fun i j row u hi hj => by
          rw [List.getElem?_map] at hi
          cases hx : d'.toList[i]? with
          | none => rw [hx] at hi; cases hi
          | some x =>
            rw [hx] at hi
            simp only [Option.map_some, Option.some.injEq] at hi
            subst hi
            have hi2 : i < d'.size := by
              rw [Array.getElem?_toList] at hx
              rcases Nat.lt_or_ge i d'.size with h | h
              · exact h
              · rw [Array.getElem?_eq_none h] at hx; cases hx
            have hj2 : j < k := by
              rcases Nat.lt_or_ge j x.1.length with h | h
              · rw [← x.2.1]; exact h
              · rw [List.getElem?_eq_none h] at hj; cases hj
            have hlt : i * k + j < d'.size * k := by
              have := Nat.mul_le_mul_right k (show i + 1 ≤ d'.size from hi2); rw [Nat.add_mul, Nat.one_mul] at this; omega
            have hlt2 : i * k + j < cs.size := by
              rw [hcs]; exact Nat.lt_of_lt_of_le hlt (Nat.mul_le_mul_right k (by rw [hd']; exact hcap))
            have e1 : (i * k + j) / k = i := (blk_iff k i _ (by omega)).1 ⟨by omega, by omega⟩
            have e2 : (i * k + j) % k = j := by rw [Nat.mod_eq_sub_div_mul, e1]; omega
            simp only [putCells, Array.getElem?_mapIdx, Array.getElem?_eq_getElem hlt2, Option.map_some]
            rw [if_pos ⟨Nat.zero_le _, by rw [size_flatK]; omega⟩, Nat.sub_zero, get_flatK _ _ _ _ hlt, e1, e2]
            have hxe : d'[i]! = x := by
              rw [getElem!_pos d' i hi2]
              rw [Array.getElem?_toList, Array.getElem?_eq_getElem hi2] at hx
              injection hx
            rw [hxe]
            have : x.enc[j]? = some u.den := by rw [SEl.enc, List.getElem?_map, hj]; rfl
            rw [getElem!_pos _ _ (by rw [hlen]; exact hj2)]
            rw [List.getElem?_eq_getElem (by rw [hlen]; exact hj2)] at this
            injection this with this
            simp [this])
      refine sort_fin hR h1 h2 ⟨_, rfl, rfl, ?_, ?_⟩
      · have h3 : d'.toList.Perm d.toList := by
          have a1 : d'.extract 0 n = d' := by rw [← hd']; simp
          have a2 : d.extract 0 n = d := by rw [← hds]; simp
          rw [a1, a2] at hpp; exact hpp
        have h4 := h3.map (fun x : SEl w S k p => x.1)
        have h5 : d.toList.map (fun x : SEl w S k p => x.1) = rows := by
          refine List.ext_getElem (by simp [d]) fun i h1 h2 => ?_
          simp [d]
        rwa [h5] at h4
      · rw [List.pairwise_map, List.pairwise_iff_getElem]
        intro i j hi hj hij
        have hi' : i < d'.size := by simpa using hi
        have hj' : j < d'.size := by simpa using hj
        have := hsrt i j (Nat.zero_le _) hij (by rw [← hd']; exact hj')
        rw [getElem!_pos d' i hi', getElem!_pos d' j hj'] at this
        simpa [ltOf] using this

/-- Numbers as rows. -/
def ziR (l : List Int) : List (List CV) := l.map fun z => [.s (.int .i64 z)]
/-- **slices.Sort of numbers.** -/
theorem acalls_sortI {P : Program} {τ : Ren} (L : SlLaysM.n5 P τ) (l : List Int) (hle : l.length ≤ 1000000000) {e : TypeId} {cap n c : Nat} {pn : Bool} (hn : n = l.length) :
    ACallsX pn P (τ.f 5) [.o 0 0 n c] [.arr e 1 cap (ziR l)] fun u H => u = .t [] ∧ H = [.arr e 1 cap (ziR (l.mergeSort fun x y => decide (x ≤ y)))] := fun S ρ w hR hW => by
  have hargs : ([AV.o 0 0 n c].map (AV.den ρ [.arr e 1 cap (ziR l)])).toArray = #[.slice ((atB ρ 0).map fun B => ⟨B, 0, none⟩) n c] := by
    simp [AV.den]
  rw [hargs]
  by_cases hr0 : l = []
  · subst hr0
    simp only [List.length_nil] at hn
    subst hn
    refine (AnyM.slices_Sort_int_none L _ c w).mono ?_
    rintro e' w' ⟨rfl, rfl⟩
    exact sort_fin hR hR (Stp.refl _ _) ⟨rfl, by simp⟩
  · rcases hR.blk 0 _ rfl with ⟨_, _, h⟩ | ⟨B, cs, hB, hh, hcs, hmx, hl, hrow, hcell⟩
    · simp [ziR] at h; exact absurd h hr0
    · rw [hB]
      have hblt : B < w.heap.size := hR.lt 0 B hB
      have hll : (ziR l).length = l.length := by simp [ziR]
      rw [hll] at hl
      have hcell' : ∀ (i : Nat) (h : i < l.length), cs[i]? = some (.int .i64 l[i]) := fun i h => by
        have := hcell i 0 [.s (.int .i64 l[i])] (.s (.int .i64 l[i])) (by simp [ziR, h]) rfl
        simpa [CV.den] using this
      have hH : Holds (Value.int .i64) w B 0 l.toArray := fun j hj => by
        have hj' : j < l.length := by simpa using hj
        refine ⟨?_, ?_⟩
        · rw [Nat.zero_add]
          simp only [World.cell?, hh, hcell' j hj', Option.isSome_none, Bool.false_eq_true, if_false]
          rw [getElem!_pos l.toArray j hj]
          simp
        · simp [World.frozen?, hh]
      have hcon := AnyM.slices_Sort_int L B 0 c l w hH hblt (by omega)
      rw [← hn] at hcon
      refine hcon.mono ?_
      rintro e' w' ⟨rfl, q, os, rfl⟩
      have hp := List.mergeSort_perm l (fun x y => decide (x ≤ y))
      generalize hM : l.mergeSort (fun x y => decide (x ≤ y)) = l' at hp ⊢
      have hl' : l'.length = l.length := hp.length_eq
      obtain ⟨h1, h2⟩ := sort_back (n := q) (os := os) (f := putCells (Value.int .i64) 0 l'.toArray) (rows' := ziR l') hR hB hh (by simp [putCells, hcs]) hmx (by simp [ziR]; omega) (fun row hr => by
          obtain ⟨x, _, rfl⟩ := List.mem_map.1 hr
          exact ⟨rfl, fun u hu => by rw [List.mem_singleton.1 hu]; exact ⟨.s _, rfl⟩⟩) (fun i j row u hi hj => by
          simp only [ziR, List.getElem?_map] at hi
          cases hx : l'[i]? with
          | none => rw [hx] at hi; cases hi
          | some x =>
            rw [hx] at hi
            simp only [Option.map_some, Option.some.injEq] at hi
            subst hi
            cases j with
            | succ j => simp at hj
            | zero =>
              simp only [List.getElem?_cons_zero, Option.some.injEq] at hj
              subst hj
              have hi2 : i < l'.length := by
                rcases Nat.lt_or_ge i l'.length with h | h
                · exact h
                · rw [List.getElem?_eq_none h] at hx; cases hx
              have hlt2 : i * 1 + 0 < cs.size := by rw [hcs]; omega
              simp only [putCells, Array.getElem?_mapIdx, Array.getElem?_eq_getElem hlt2, Option.map_some]
              rw [if_pos ⟨Nat.zero_le _, by simp; omega⟩]
              have : l'.toArray[i * 1 + 0 - 0]! = x := by
                rw [getElem!_pos _ _ (by simp; omega)]
                rw [List.getElem?_eq_getElem hi2] at hx
                injection hx with hx
                simp [hx]
              rw [this]; rfl)
      exact sort_fin hR h1 h2 ⟨rfl, rfl⟩
end Go.Proofs.YthanangkmjjbaaaGreatDoor

/- The library's contracts of sorting lie at this program. -/
namespace Go.Proofs.YthanangkmjjbaaaGreatDoor
open Go Go.Shelf
set_option maxRecDepth 100000
def sortIL_ren : Go.Shelf.Ren := ⟨fun | 5 => 69 | 8 => 116 | 7 => 122 | 19 => 165 | 20 => 166 | 10 => 169 | 11 => 170 | 12 => 171 | 13 => 172 | 14 => 173 | 15 => 174 | 16 => 71 | 17 => 175 | 18 => 176 | 30 => 222 | 31 => 210 | 32 => 211 | 33 => 223 | 34 => 224 | 35 => 123 | 40 => 255 | n => n, fun | 23 => 22 | 25 => 3 | 3 => 3 | 32 => 204 | 22 => 22 | 0 => 0 | 44 => 265 | 46 => 267 | 4 => 4 | 36 => 258 | 35 => 257 | 41 => 262 | 5 => 5 | 9 => 9 | 53 => 307 | 57 => 311 | 63 => 342 | 64 => 343 | n => n, fun | n => n⟩
theorem sortIL : Go.Proofs.SlLaysM.n5 Tryz.prog sortIL_ren := {
  mixed := by kernel_rfl
  f5 := ⟨Tryz.f69.name, by decide, Tryz.func69.trans (congrArg some (by kernel_rfl))⟩
  f7 := ⟨Tryz.f122.name, by decide, Tryz.func122.trans (congrArg some (by kernel_rfl))⟩
  f8 := Tryz.func116.trans (congrArg some (by kernel_rfl))
  f10 := ⟨Tryz.f169.name, by decide, Tryz.func169.trans (congrArg some (by kernel_rfl))⟩
  f11 := ⟨Tryz.f170.name, by decide, Tryz.func170.trans (congrArg some (by kernel_rfl))⟩
  f12 := ⟨Tryz.f171.name, by decide, Tryz.func171.trans (congrArg some (by kernel_rfl))⟩
  f13 := ⟨Tryz.f172.name, by decide, Tryz.func172.trans (congrArg some (by kernel_rfl))⟩
  f14 := ⟨Tryz.f173.name, by decide, Tryz.func173.trans (congrArg some (by kernel_rfl))⟩
  f15 := ⟨Tryz.f174.name, by decide, Tryz.func174.trans (congrArg some (by kernel_rfl))⟩
  f16 := ⟨Tryz.f71.name, by decide, Tryz.func71.trans (congrArg some (by kernel_rfl))⟩
  f17 := ⟨Tryz.f175.name, by decide, Tryz.func175.trans (congrArg some (by kernel_rfl))⟩
  f18 := ⟨Tryz.f176.name, by decide, Tryz.func176.trans (congrArg some (by kernel_rfl))⟩
  f19 := Tryz.func165.trans (congrArg some (by kernel_rfl))
  f20 := Tryz.func166.trans (congrArg some (by kernel_rfl))
  f30 := ⟨Tryz.f222.name, by decide, Tryz.func222.trans (congrArg some (by kernel_rfl))⟩
  f31 := Tryz.func210.trans (congrArg some (by kernel_rfl))
  f32 := Tryz.func211.trans (congrArg some (by kernel_rfl))
  f33 := ⟨Tryz.f223.name, by decide, Tryz.func223.trans (congrArg some (by kernel_rfl))⟩
  f34 := ⟨Tryz.f224.name, by decide, Tryz.func224.trans (congrArg some (by kernel_rfl))⟩
  f35 := ⟨Tryz.f123.name, by decide, Tryz.func123.trans (congrArg some (by kernel_rfl))⟩
  f40 := ⟨Tryz.f255.name, by decide, Tryz.func255.trans (congrArg some (by kernel_rfl))⟩
  t0 := Tryz.underlying0
  a0 := Tryz.isAgg0
  z0 := Tryz.sizeOf0
  v0 := Tryz.zeroValue0
  t3 := Tryz.underlying3
  a3 := Tryz.isAgg3
  z3 := Tryz.sizeOf3
  v3 := Tryz.zeroValue3
  t4 := Tryz.underlying4
  a4 := Tryz.isAgg4
  z4 := Tryz.sizeOf4
  v4 := Tryz.zeroValue4
  t5 := Tryz.underlying5
  a5 := Tryz.isAgg5
  z5 := Tryz.sizeOf5
  v5 := Tryz.zeroValue5
  t9 := Tryz.underlying9
  a9 := Tryz.isAgg9
  z9 := Tryz.sizeOf9
  v9 := Tryz.zeroValue9
  t22 := Tryz.underlying22
  a22 := Tryz.isAgg22
  z22 := Tryz.sizeOf22
  v22 := Tryz.zeroValue22
  t23 := Tryz.underlying22
  a23 := Tryz.isAgg22
  z23 := Tryz.sizeOf22
  v23 := Tryz.zeroValue22
  t25 := Tryz.underlying3
  a25 := Tryz.isAgg3
  z25 := Tryz.sizeOf3
  v25 := Tryz.zeroValue3
  t32 := Tryz.underlying204
  a32 := Tryz.isAgg204
  z32 := Tryz.sizeOf204
  v32 := Tryz.zeroValue204
  t35 := Tryz.underlying257
  a35 := Tryz.isAgg257
  z35 := Tryz.sizeOf257
  v35 := Tryz.zeroValue257
  t36 := Tryz.underlying258
  a36 := Tryz.isAgg258
  z36 := Tryz.sizeOf258
  v36 := Tryz.zeroValue258
  t41 := Tryz.underlying262
  a41 := Tryz.isAgg262
  z41 := Tryz.sizeOf262
  v41 := Tryz.zeroValue262
  t44 := Tryz.underlying265
  a44 := Tryz.isAgg265
  z44 := Tryz.sizeOf265
  v44 := Tryz.zeroValue265
  t46 := Tryz.underlying267
  a46 := Tryz.isAgg267
  z46 := Tryz.sizeOf267
  v46 := Tryz.zeroValue267
  t53 := Tryz.underlying307
  a53 := Tryz.isAgg307
  z53 := Tryz.sizeOf307
  v53 := Tryz.zeroValue307
  t57 := Tryz.underlying311
  a57 := Tryz.isAgg311
  z57 := Tryz.sizeOf311
  v57 := Tryz.zeroValue311
  t63 := Tryz.underlying342
  a63 := Tryz.isAgg342
  z63 := Tryz.sizeOf342
  v63 := Tryz.zeroValue342
  t64 := Tryz.underlying343
  a64 := Tryz.isAgg343
  z64 := Tryz.sizeOf343
  v64 := Tryz.zeroValue343 }
def sortSideL_ren : Go.Shelf.Ren := ⟨fun | 6 => 59 | 15 => 116 | 14 => 115 | 28 => 165 | 29 => 166 | 20 => 157 | 21 => 158 | 22 => 159 | 23 => 160 | 24 => 161 | 25 => 162 | 26 => 163 | 27 => 164 | 46 => 209 | 47 => 210 | 48 => 211 | 49 => 212 | 50 => 213 | 57 => 251 | n => n, fun | 22 => 64 | 24 => 54 | 25 => 128 | 3 => 3 | 39 => 204 | 0 => 0 | 53 => 265 | 55 => 267 | 4 => 4 | 46 => 258 | 45 => 257 | 50 => 262 | 5 => 5 | 9 => 9 | 66 => 307 | 70 => 311 | 76 => 342 | 77 => 343 | n => n, fun | n => n⟩
theorem sortSideL : Go.Proofs.SlLaysF0.n6 Tryz.prog sortSideL_ren := {
  mixed := by kernel_rfl
  f6 := ⟨Tryz.f59.name, by decide, Tryz.func59.trans (congrArg some (by kernel_rfl))⟩
  f14 := ⟨Tryz.f115.name, by decide, Tryz.func115.trans (congrArg some (by kernel_rfl))⟩
  f15 := Tryz.func116.trans (congrArg some (by kernel_rfl))
  f20 := ⟨Tryz.f157.name, by decide, Tryz.func157.trans (congrArg some (by kernel_rfl))⟩
  f21 := ⟨Tryz.f158.name, by decide, Tryz.func158.trans (congrArg some (by kernel_rfl))⟩
  f22 := ⟨Tryz.f159.name, by decide, Tryz.func159.trans (congrArg some (by kernel_rfl))⟩
  f23 := ⟨Tryz.f160.name, by decide, Tryz.func160.trans (congrArg some (by kernel_rfl))⟩
  f24 := ⟨Tryz.f161.name, by decide, Tryz.func161.trans (congrArg some (by kernel_rfl))⟩
  f25 := ⟨Tryz.f162.name, by decide, Tryz.func162.trans (congrArg some (by kernel_rfl))⟩
  f26 := ⟨Tryz.f163.name, by decide, Tryz.func163.trans (congrArg some (by kernel_rfl))⟩
  f27 := ⟨Tryz.f164.name, by decide, Tryz.func164.trans (congrArg some (by kernel_rfl))⟩
  f28 := Tryz.func165.trans (congrArg some (by kernel_rfl))
  f29 := Tryz.func166.trans (congrArg some (by kernel_rfl))
  f46 := ⟨Tryz.f209.name, by decide, Tryz.func209.trans (congrArg some (by kernel_rfl))⟩
  f47 := Tryz.func210.trans (congrArg some (by kernel_rfl))
  f48 := Tryz.func211.trans (congrArg some (by kernel_rfl))
  f49 := ⟨Tryz.f212.name, by decide, Tryz.func212.trans (congrArg some (by kernel_rfl))⟩
  f50 := ⟨Tryz.f213.name, by decide, Tryz.func213.trans (congrArg some (by kernel_rfl))⟩
  f57 := ⟨Tryz.f251.name, by decide, Tryz.func251.trans (congrArg some (by kernel_rfl))⟩
  t0 := Tryz.underlying0
  a0 := Tryz.isAgg0
  z0 := Tryz.sizeOf0
  v0 := Tryz.zeroValue0
  t3 := Tryz.underlying3
  a3 := Tryz.isAgg3
  z3 := Tryz.sizeOf3
  v3 := Tryz.zeroValue3
  t4 := Tryz.underlying4
  a4 := Tryz.isAgg4
  z4 := Tryz.sizeOf4
  v4 := Tryz.zeroValue4
  t5 := Tryz.underlying5
  a5 := Tryz.isAgg5
  z5 := Tryz.sizeOf5
  v5 := Tryz.zeroValue5
  t9 := Tryz.underlying9
  a9 := Tryz.isAgg9
  z9 := Tryz.sizeOf9
  v9 := Tryz.zeroValue9
  t22 := Tryz.underlying64
  a22 := Tryz.isAgg64
  z22 := Tryz.sizeOf64
  v22 := Tryz.zeroValue64
  t25 := Tryz.underlying128
  a25 := Tryz.isAgg128
  z25 := Tryz.sizeOf128
  v25 := Tryz.zeroValue128
  t39 := Tryz.underlying204
  a39 := Tryz.isAgg204
  z39 := Tryz.sizeOf204
  v39 := Tryz.zeroValue204
  t45 := Tryz.underlying257
  a45 := Tryz.isAgg257
  z45 := Tryz.sizeOf257
  v45 := Tryz.zeroValue257
  t46 := Tryz.underlying258
  a46 := Tryz.isAgg258
  z46 := Tryz.sizeOf258
  v46 := Tryz.zeroValue258
  t50 := Tryz.underlying262
  a50 := Tryz.isAgg262
  z50 := Tryz.sizeOf262
  v50 := Tryz.zeroValue262
  t53 := Tryz.underlying265
  a53 := Tryz.isAgg265
  z53 := Tryz.sizeOf265
  v53 := Tryz.zeroValue265
  t55 := Tryz.underlying267
  a55 := Tryz.isAgg267
  z55 := Tryz.sizeOf267
  v55 := Tryz.zeroValue267
  t66 := Tryz.underlying307
  a66 := Tryz.isAgg307
  z66 := Tryz.sizeOf307
  v66 := Tryz.zeroValue307
  t70 := Tryz.underlying311
  a70 := Tryz.isAgg311
  z70 := Tryz.sizeOf311
  v70 := Tryz.zeroValue311
  t76 := Tryz.underlying342
  a76 := Tryz.isAgg342
  z76 := Tryz.sizeOf342
  v76 := Tryz.zeroValue342
  t77 := Tryz.underlying343
  a77 := Tryz.isAgg343
  z77 := Tryz.sizeOf343
  v77 := Tryz.zeroValue343 }
end Go.Proofs.YthanangkmjjbaaaGreatDoor
