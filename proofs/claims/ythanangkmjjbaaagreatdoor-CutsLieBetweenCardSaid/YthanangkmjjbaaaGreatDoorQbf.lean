/- slices.SortFunc and slices.Sort over values, from the library's contracts. Conditions: none. -/
import Derived.Test.YthanangkmjjbaaaGreatDoorQay
import Derived.Test.YthanangkmjjbaaaGreatDoorQar
import Derived.Shelf.SlSortCmp.NoneTotal
import Derived.Shelf.SortM.Plain
import Derived.Shelf.SortM.SortNone
set_option linter.unusedSimpArgs false
set_option linter.unusedVariables false
/- slices.Compact of numbers, by value. -/
-- NEWM
namespace Go.Proofs.YthanangkmjjbaaaGreatDoor
open Go Go.RowKit
set_option maxRecDepth 100000
section
variable {P : Program} {N : Nat} {E : Env} {S : Nat → Prop} {ρ : List (Option Nat)} {F : Fm} {H : List OB} {a : Act} {w : World} {Q : Exit → Fm → List OB → Prop}
/-- Of an array fewer rows are known. -/
theorem R.trunc {b sz cap : Nat} {e : TypeId} {rows : List (List CV)} (hb : H[b]? = some (.arr e sz cap rows)) (m : Nat) (h : R N E S ρ F H a w) : R N E S ρ F (H.set b (.arr e sz cap (rows.take m))) a w := by
  have he := Ex.set (ρ := ρ) (ob' := .arr e sz cap (rows.take m)) hb rfl rfl (fun h => absurd rfl h)
  have hm : Mo w S w S := fun b hb => ⟨hb, rfl⟩
  refine h.ex he hm ⟨by simpa using h.hp.len, h.hp.nd, h.hp.ap, h.hp.lt, h.hp.sS, fun i x hx => ?_⟩ h.st h.nw h.nS
  rw [List.getElem?_set] at hx
  split at hx
  · rename_i hi
    subst hi
    split at hx
    · injection hx with hx
      subst hx
      rcases h.hp.blk _ _ hb with ⟨h1, h2, h3⟩ | ⟨B, cs, h1, h2, h3, h4, h5, h6, h7⟩
      · exact .inl ⟨h1, h2, by rw [h3]; simp⟩
      · refine .inr ⟨B, cs, h1, h2, h3, h4, Nat.le_trans (by rw [List.length_take]; omega) h5, fun row hr => h6 row (List.mem_of_mem_take hr), fun k j row u hk hj => ?_⟩
        rw [List.getElem?_take] at hk
        split at hk
        · exact h7 k j row u hk hj
        · cases hk
    · cases hx
  · exact (h.hp.blk i x hx).ex he hm (fun _ _ => rfl)
theorem aw_trunc {c : Code} {b sz cap : Nat} {e : TypeId} {rows : List (List CV)} (m : Nat) (hb : H[b]? = some (.arr e sz cap rows)) (h : AW P N E c F (H.set b (.arr e sz cap (rows.take m))) Q) : AW P N E c F H Q := fun S ρ a w hR => h S ρ a w (hR.trunc hb m)
end
theorem compL_snoc {x : Int} : ∀ {l : List Int} {y : Int}, l.getLast? = some y → compL (l ++ [x]) = if y = x then compL l else compL l ++ [x]
  | [z], y, h => by
    simp only [List.getLast?_singleton, Option.some.injEq] at h
    subst h
    simp only [List.cons_append, List.nil_append, compL]
    split <;> simp_all [compL]
  | z :: u :: l, y, h => by
    rw [List.getLast?_cons_cons] at h
    have ih := compL_snoc (x := x) h
    simp only [List.cons_append] at ih ⊢
    simp only [compL]
    split
    · rw [ih]
    · rw [ih]; split <;> simp
theorem take_last {l : List Int} {k : Nat} {y : Int} (h : l[k]? = some y) : (l.take (k + 1)).getLast? = some y := by
  rw [List.take_add_one, h]; simp
theorem compL_step {l : List Int} {k : Nat} {x y : Int} (hx : l[k + 1]? = some x) (hy : l[k]? = some y) : compL (l.take (k + 2)) = if y = x then compL (l.take (k + 1)) else compL (l.take (k + 1)) ++ [x] := by
  rw [List.take_add_one (i := k + 1), hx]
  exact compL_snoc (take_last hy)
theorem compL_len : ∀ l : List Int, (compL l).length ≤ l.length
  | [] => Nat.le_refl _
  | [x] => Nat.le_refl _
  | x :: y :: l => by
    have := compL_len (y :: l)
    unfold compL
    split
    · simp only [List.length_cons] at this ⊢; omega
    · simp only [List.length_cons] at this ⊢; omega
theorem compactI_v (l : List Int) (c : Nat) (hl : l.length ≤ 1000000) (hlc : l.length ≤ c) : ACalls Tryz.prog 70 [.o 0 0 l.length c] [.arr 3 1 c (zR l)] fun u H => u = .o 0 0 (compL l).length c ∧ H = [.arr 3 1 c (zR (compL l))] := by
  have e1 : (zR l).length = l.length := by simp
  refine acalls_of (N := 61) Tryz.func70 rfl rfl (by simp) fun E hE => ?_
  refine WA ?_
  refine WA ?_
  refine aw_if rfl (fun hs => ?_) (fun hs => ?_)
  · have hc : compL l = l := by
      match l, hs with
      | [], _ => rfl
      | [x], _ => rfl
      | _ :: _ :: _, h => simp at h; omega
    refine WA ?_
    exact aret_o [some 0] (fun _ => [.arr 3 1 c (zR l)]) rfl rfl rfl rfl rfl (by decide) (ZNK rfl) ZCH (fun _ => ⟨by rw [hc], by rw [hc]⟩)
  refine ZZ ?_
  refine WA ?_
  refine aw_loopw (fun m F H => ∃ (k : Nat), m + k = l.length ∧ 1 ≤ k ∧ compL (l.take k) = l.take k ∧ F = [(0, .o 0 0 l.length c), (3, .c (I k))] ∧ H = [.arr 3 1 c (zR l)]) ?_ ?_
  · refine wk_of [some 0] (fun _ => [(0, .o 0 0 l.length c), (3, .c (I (1 : Nat)))]) (fun _ => [.arr 3 1 c (zR l)]) (by decide) (ZNL hE) ZCF ZCH (fun _ => ?_)
    refine ⟨l.length - 1, 1, by omega, by omega, ?_, rfl, rfl⟩
    match l, hs with
    | [], h => simp at h
    | x :: l, _ => rfl
  rintro m F H ⟨k, hk, hk1, hcp, rfl, rfl⟩
  refine WA ?_
  refine aw_if rfl (fun hlt => ?_) (fun hge => ?_)
  · obtain ⟨k, rfl⟩ : ∃ q, k = q + 1 := ⟨k - 1, by omega⟩
    obtain ⟨x, hx⟩ : ∃ x, l[k + 1]? = some x := ⟨_, List.getElem?_eq_getElem (by omega)⟩
    obtain ⟨y, hy⟩ : ∃ y, l[k]? = some y := ⟨_, List.getElem?_eq_getElem (by omega)⟩
    have hrx : (zR l)[0 + (k + 1)]? = some [I x] := by rw [Nat.zero_add, List.getElem?_map, hx]; rfl
    have hry : (zR l)[0 + k]? = some [I y] := by rw [Nat.zero_add, List.getElem?_map, hy]; rfl
    have hst := compL_step hx hy
    refine ZZ ?_
    refine aw_regionT [(0, none), (1, none), (2, none), (3, none), (4, none), (5, none), (6, none), (7, none), (8, none), (9, none)] hMixed (by kernel_rfl) ?_
    iterate 7 refine WX2 ?_
    refine ZT rfl (rd_index (i := k) rfl (KE (t := 22) rfl) rfl rfl rfl (by omega) (by omega)) ?_
    refine WQ ?_
    refine aw_if rfl (fun heq => ?_) (fun hne => ?_)
    · generalize hK : k + 1 = K at *
      refine ZR ?_
      iterate 2 refine WX1 ?_
      refine ZA (rd_slice (l := K) (h := l.length) rfl (KE (t := 22) rfl) rfl rfl (.inr ⟨_, _, _, rfl, rfl, rfl⟩) (.inl ⟨rfl, rfl⟩) (by omega) (by omega) (by omega)) ?_
      refine WE ?_
      refine WA ?_
      rw [if_pos heq.symm] at hst
      refine aw_loopw (fun m F H => ∃ (d i : Nat) (r : List Int), m + d = l.length - K ∧ 1 ≤ d ∧ i + 1 ≤ K + d ∧ r.length = l.length ∧ r.take i = compL (l.take (K + d)) ∧ (compL (l.take (K + d))).length = i ∧ (∀ q, K + d ≤ q + 1 → r[q]? = l[q]?) ∧ F = [(0, .o 0 0 l.length c), (3, .c (I i)), (4, .o 0 (0 + K) (l.length - K) (c - K)), (5, .c (I d))] ∧ H = [.arr 3 1 c (zR r)]) ?_ ?_
      · refine wk_of [some 0] (fun _ => [(0, .o 0 0 l.length c), (3, .c (I K)), (4, .o 0 (0 + K) (l.length - K) (c - K)), (5, .c (I (1 : Nat)))]) (fun _ => [.arr 3 1 c (zR l)]) (by decide) (ZNL hE) ZCF ZCH (fun _ => ?_)
        have hst' : compL (l.take (K + 1)) = l.take K := by rw [show K + 1 = k + 2 by omega, hst, hcp]
        exact ⟨l.length - K - 1, 1, K, l, by omega, by omega, by omega, rfl, by rw [hst'], by rw [hst', List.length_take]; omega, fun q _ => rfl, rfl, rfl⟩
      rintro m2 F H ⟨d, i, r, hm, hd, hi, hr, hti, htl, hq, rfl, rfl⟩
      refine WA ?_
      refine aw_if rfl (fun hlt2 => ?_) (fun hge2 => ?_)
      · obtain ⟨D, rfl⟩ : ∃ q, d = q + 1 := ⟨d - 1, by omega⟩
        obtain ⟨p, hp⟩ : ∃ p, l[K + D + 1]? = some p := ⟨_, List.getElem?_eq_getElem (by omega)⟩
        obtain ⟨o, ho⟩ : ∃ o, l[K + D]? = some o := ⟨_, List.getElem?_eq_getElem (by omega)⟩
        have h7 : (zR r)[0 + K + (D + 1)]? = some [I p] := by rw [Nat.zero_add, List.getElem?_map, show K + (D + 1) = K + D + 1 by omega, hq _ (by omega), hp]; rfl
        have h8 : (zR r)[0 + K + D]? = some [I o] := by rw [Nat.zero_add, List.getElem?_map, hq _ (by omega), ho]; rfl
        obtain ⟨u0, hu0⟩ : ∃ u, (zR r)[0 + i]? = some [I u] := ⟨r[i]'(by omega), by rw [Nat.zero_add, List.getElem?_map, List.getElem?_eq_getElem (by omega)]; rfl⟩
        have hst2 := compL_step hp ho
        rw [show K + D + 2 = K + (D + 1 + 1) by omega, show K + D + 1 = K + (D + 1) by omega] at hst2
        refine ZZ ?_
        refine aw_regionT [(0, none), (1, none), (2, none), (3, none), (4, none), (5, none), (6, none), (7, none), (8, none), (9, none)] hMixed (by kernel_rfl) ?_
        iterate 7 refine WX2 ?_
        refine ZT rfl (rd_index (i := D) rfl (KE (t := 22) rfl) rfl rfl rfl (by omega) (by omega)) ?_
        refine WQ ?_
        refine aw_if rfl (fun hne => ?_) (fun heq2 => ?_)
        · rw [if_neg (fun h => hne h.symm)] at hst2
          refine WA ?_
          refine WA ?_
          refine WA ?_
          refine wk_of [some 0] (fun _ => [(0, .o 0 0 l.length c), (3, .c (I (i + 1 : Nat))), (4, .o 0 (0 + K) (l.length - K) (c - K)), (5, .c (I (D + 1 + 1 : Nat)))]) (fun _ => [.arr 3 1 c (zR (r.set i p))]) (by decide) (ZNL hE) ZCF ZCH (fun _ => ?_)
          refine ⟨m2 - 1, by omega, D + 1 + 1, i + 1, r.set i p, by omega, by omega, by omega, by simpa using hr, ?_, ?_, fun q hqq => ?_, rfl, rfl⟩
          · rw [hst2, ← hti, List.take_add_one, List.getElem?_set_self (by omega), List.take_set_of_le (Nat.le_refl _)]; rfl
          · rw [hst2, List.length_append, htl]; rfl
          · rw [List.getElem?_set_ne (by omega)]; exact hq q (by omega)
        · have heq3 : p = o := by simpa using heq2
          rw [if_pos heq3.symm] at hst2
          refine ZZ ?_
          refine WA ?_
          refine wk_of [some 0] (fun _ => [(0, .o 0 0 l.length c), (3, .c (I i)), (4, .o 0 (0 + K) (l.length - K) (c - K)), (5, .c (I (D + 1 + 1 : Nat)))]) (fun _ => [.arr 3 1 c (zR r)]) (by decide) (ZNL hE) ZCF ZCH (fun _ => ?_)
          exact ⟨m2 - 1, by omega, D + 1 + 1, i, r, by omega, by omega, by omega, hr, by rw [hst2]; exact hti, by rw [hst2]; exact htl, fun q hqq => hq q (by omega), rfl, rfl⟩
      refine ZZ ?_
      have hdd : d = l.length - K := by omega
      have hal : l.take (K + d) = l := List.take_of_length_le (by omega)
      rw [hal] at hti htl
      have htr : (zR r).take i = zR (compL l) := by rw [← hti]; simp [zR]
      refine aw_trunc (b := 0) i rfl ?_
      simp only [List.set_cons_zero]
      rw [htr]
      have hcl := compL_len l
      refine ZR ?_
      iterate 2 refine WX1 ?_
      refine ZA (rd_slicex (l := i) (h := l.length) rfl (KE (t := 22) rfl) rfl rfl (.inr ⟨_, _, _, rfl, rfl, rfl⟩) (.inl ⟨rfl, rfl⟩) (by omega) (by omega) (by omega)) ?_
      refine al_ef rfl (ef_clear rfl rfl (KE (t := 22) rfl) (KZ (t := 3) rfl) rfl rfl rfl rfl (by simp; omega)) ?_
      rintro _ _ ⟨rfl, rfl⟩
      refine WE ?_
      refine ZR ?_
      iterate 2 refine WX1 ?_
      refine ZA (rd_slicex (l := 0) (h := i) rfl (KE (t := 22) rfl) rfl rfl (.inl ⟨rfl, rfl⟩) (.inr ⟨_, _, _, rfl, rfl, rfl⟩) (by omega) (by omega) (by omega)) ?_
      refine WE ?_
      exact aret_o (k' := (compL l).length) (c := c) [some 0] (fun _ => [.arr 3 1 c (zR (compL l))]) rfl rfl rfl (by omega) rfl (by decide) (ZNK rfl) ZCH (fun _ => ⟨rfl, rfl⟩)
    · rw [if_neg (fun h => hne h.symm)] at hst
      refine ZZ ?_
      refine WA ?_
      refine wk_of [some 0] (fun _ => [(0, .o 0 0 l.length c), (3, .c (I (k + 1 + 1 : Nat)))]) (fun _ => [.arr 3 1 c (zR l)]) (by decide) (ZNL hE) ZCF ZCH (fun _ => ?_)
      refine ⟨m - 1, by omega, k + 1 + 1, by omega, by omega, ?_, rfl, rfl⟩
      rw [hst, hcp, List.take_add_one (i := k + 1), hx]; rfl
  have hkk : k = l.length := by omega
  rw [hkk, List.take_of_length_le (Nat.le_refl _)] at hcp
  refine WA ?_
  exact aret_o [some 0] (fun _ => [.arr 3 1 c (zR l)]) rfl rfl rfl rfl rfl (by decide) (ZNK rfl) ZCH (fun _ => ⟨by rw [hcp], by rw [hcp]⟩)
end Go.Proofs.YthanangkmjjbaaaGreatDoor

/- slices.SortFunc and slices.Sort over values, from the library's contracts. Conditions: none. -/
namespace Go.Proofs.YthanangkmjjbaaaGreatDoor
open Go Go.RowKit Go.Shelf Go.Sort

/-- What only grew, as the library says it. -/
theorem Stp.grown {w w' : World} (h : Stp w w' (fun _ => False)) : ∃ q os, w' = Sort.grow (w.drewN q) os := by
  refine ⟨w'.drawn - w.drawn, w'.heap.extract w.heap.size w'.heap.size, ?_⟩
  have hh : w.heap ++ w'.heap.extract w.heap.size w'.heap.size = w'.heap := by
    refine Array.ext_getElem? fun k => ?_
    rw [Array.getElem?_append]
    split
    · rename_i hk; exact (h.block k hk (fun x => x)).symm
    · rename_i hk
      rw [Array.getElem?_extract]
      have hs := h.size
      by_cases h2 : k < w'.heap.size
      · rw [if_pos (by omega)]; congr 1; omega
      · rw [if_neg (by omega), Array.getElem?_eq_none (by omega)]
  have h1 := h.os; have h2 := h.tape; have h3 := h.output; have h4 := h.drawn
  obtain ⟨hp, tp, dr, o, out⟩ := w
  obtain ⟨hp', tp', dr', o', out'⟩ := w'
  simp only at h1 h2 h3 h4 hh ⊢
  subst h1; subst h2; subst h3
  simp only [Sort.grow, World.drewN]
  rw [hh, show dr + (dr' - dr) = dr' by omega]

section
variable {w : World} {S : Nat → Prop} {ρ : List (Option Nat)} {e : TypeId} {k cap B n : Nat} {rows rows' : List (List CV)} {cs : Array Value} {os : Array Obj} {f : Array Value → Array Value}
theorem sort_heap_ne {b : Nat} (hb : b < w.heap.size) (hne : b ≠ B) : (Sort.grow (mapBlock (Sort.ahead w n) B f) os).heap[b]? = w.heap[b]? := by
  simp only [Sort.grow, mapBlock, Sort.ahead]
  rw [Array.getElem?_append_left (by simpa using hb), Array.getElem?_modify, if_neg (fun e => hne e.symm)]
theorem sort_heap_at (hh : w.heap[B]? = some (.cells cs e (0, 0))) : (Sort.grow (mapBlock (Sort.ahead w n) B f) os).heap[B]? = some (.cells (f cs) e (0, 0)) := by
  have hb : B < w.heap.size := by
    rcases Nat.lt_or_ge B w.heap.size with h | h
    · exact h
    · rw [Array.getElem?_eq_none h] at hh; cases hh
  simp only [Sort.grow, mapBlock, Sort.ahead]
  rw [Array.getElem?_append_left (by simpa using hb), Array.getElem?_modify, if_pos rfl, hh]
  rfl
theorem sort_size : w.heap.size ≤ (Sort.grow (mapBlock (Sort.ahead w n) B f) os).heap.size := by
  simp [Sort.grow, mapBlock, Sort.ahead]
/-- The block's rows are others; all else is as it was. -/
theorem sort_back (hR : RH w S ρ [.arr e k cap rows]) (hB : atB ρ 0 = some B) (hh : w.heap[B]? = some (.cells cs e (0, 0))) (hcs : (f cs).size = cap * k) (hmx : cap ≤ maxLen) (hl : rows'.length ≤ cap)
    (hrow : ∀ row ∈ rows', row.length = k ∧ ∀ u ∈ row, Good w S u ∧ u.den.oneCell' = true) (hcell : ∀ (i j : Nat) (row : List CV) (u : CV), rows'[i]? = some row → row[j]? = some u → (f cs)[i * k + j]? = some u.den) :
    RH (Sort.grow (mapBlock (Sort.ahead w n) B f) os) S ρ [.arr e k cap rows'] ∧ Stp w (Sort.grow (mapBlock (Sort.ahead w n) B f) os) (fun b => ∃ i, atB ρ i = some b) := by
  have hS : ∀ b, S b → S b ∧ (Sort.grow (mapBlock (Sort.ahead w n) B f) os).heap[b]? = w.heap[b]? := fun b hb => ⟨hb, sort_heap_ne (hR.sS b hb) (fun e => hR.ap 0 B hB (e ▸ hb))⟩
  refine ⟨⟨hR.len, hR.nd, hR.ap, fun i b hi => Nat.lt_of_lt_of_le (hR.lt i b hi) sort_size, fun b hb => Nat.lt_of_lt_of_le (hR.sS b hb) sort_size, fun i o hi => ?_⟩, ⟨rfl, rfl, rfl, sort_size, fun b hb hn => sort_heap_ne hb (fun e => hn ⟨0, e ▸ hB⟩), ?_⟩⟩
  · cases i with
    | succ i => simp at hi
    | zero =>
      simp only [List.getElem?_cons_zero, Option.some.injEq] at hi
      subst hi
      exact .inr ⟨B, f cs, hB, sort_heap_at hh, hcs, hmx, hl, fun row hr => ⟨(hrow row hr).1, fun u hu => ⟨((hrow row hr).2 u hu).1.mono hS, ((hrow row hr).2 u hu).2⟩⟩, hcell⟩
  · show w.drawn ≤ w.drawn + n
    exact Nat.le_add_right _ _
end

/-- Elements that are sorted: rows of k closed cells that are so. -/
abbrev SEl (w : World) (S : Nat → Prop) (k : Nat) (p : List CV → Prop) := { x : List CV // x.length = k ∧ p x ∧ ∀ u ∈ x, Good w S u ∧ u.den.oneCell' = true }
def SEl.enc {w : World} {S : Nat → Prop} {k : Nat} {p : List CV → Prop} (x : SEl w S k p) : List Value := x.1.map CV.den

/-- What is left to say when a lent array has other rows, and no more has happened. -/
theorem sort_fin {S : Nat → Prop} {ρ : List (Option Nat)} {w u : World} {e : TypeId} {k cap : Nat} {rows rows' : List (List CV)} {pn : Bool} {Q : AV → List OB → Prop} (hR : RH w S ρ [.arr e k cap rows]) (h1 : RH u S ρ [.arr e k cap rows']) (h2 : Stp w u (fun b => ∃ i, atB ρ i = some b)) (hq : Q (.t []) [.arr e k cap rows']) :
    ∃ v H' ρ' S', Ending.returned (.tuple #[]) = .returned (AV.den ρ' H' v) ∧ Q v H' ∧ WF u S' ρ' H' v ∧ RH u S' ρ' H' ∧
        Stp w u (fun B => ∃ i, atB ρ i = some B) ∧ (∀ b, S' b → S b ∨ w.heap.size ≤ b) ∧ (∀ i B, atB ρ' i = some B → w.heap.size ≤ B ∨ (i < [OB.arr e k cap rows].length ∧ atB ρ i = some B)) ∧
        (∀ i, i < [OB.arr e k cap rows].length → i < H'.length ∧ ∀ o, [OB.arr e k cap rows][i]? = some o → o.shp ≠ 0 → atB ρ' i = atB ρ i ∧ ∃ o', H'[i]? = some o' ∧ o'.shp = o.shp) ∧
        (pn = true → ∀ i, i < [OB.arr e k cap rows].length → atB ρ' i = atB ρ i ∧ szAt H' i = szAt [OB.arr e k cap rows] i ∧ capAt H' i = capAt [OB.arr e k cap rows] i) := by
  refine ⟨.t [], [.arr e k cap rows'], ρ, S, rfl, hq, .t (by simp), h1, h2, fun b hb => .inl hb, fun i B hi => .inr ⟨by have := atB_lt hi; rw [hR.len] at this; exact this, hi⟩, fun i hi => ⟨by simpa using hi, fun o ho hs => ?_⟩, fun _ i hi => ?_⟩
  · cases i with
    | succ i => simp at hi
    | zero => simp only [List.getElem?_cons_zero, Option.some.injEq] at ho; subst ho; exact absurd rfl hs
  · cases i with
    | succ i => simp at hi
    | zero => exact ⟨rfl, rfl, rfl⟩

/-- **slices.SortFunc of structs.** -/
theorem acalls_sort {P : Program} {τ : Ren} (L : SlLaysF0.n6 P τ) {k : Nat} (aE : ∀ w, (isAgg (τ.t 24)).run P w = .ok true w) (zE : ∀ w, (Go.sizeOf (τ.t 24)).run P w = .ok k w) (p : List CV → Prop) (cf : List CV → List CV → Int) {g : FuncId} (hg : okFn P g = true)
    (hirr : ∀ x, p x → ¬ cf x x < 0) (htr : ∀ x y z, p x → p y → p z → cf x y < 0 → cf y z < 0 → cf x z < 0) (hnt : ∀ x y z, p x → p y → p z → ¬ cf x y < 0 → ¬ cf y z < 0 → ¬ cf x z < 0)
    (hc : ∀ x y, p x → p y → ACalls P g [.a (x.map .c), .a (y.map .c)] [] fun u H => u = .c (.s (.int .i64 (cf x y))) ∧ H = [])
    (rows : List (List CV)) (hp : ∀ r ∈ rows, p r) (hle : rows.length ≤ 1000000000) {e : TypeId} {cap n c : Nat} {pn : Bool} (hn : n = rows.length) :
    ACallsX pn P (τ.f 6) [.o 0 0 n c, .f (.func g) []] [.arr e k cap rows] fun u H => ∃ rows', u = .t [] ∧ H = [.arr e k cap rows'] ∧ rows'.Perm rows ∧ rows'.Pairwise (fun x y => ¬ cf y x < 0) := fun S ρ w hR hW => by
  have hwf : WF w S ρ [.arr e k cap rows] (.o 0 0 n c) := hW _ (by simp)
  have hargs : ([AV.o 0 0 n c, AV.f (.func g) []].map (AV.den ρ [.arr e k cap rows])).toArray = #[.slice ((atB ρ 0).map fun B => ⟨B, 0, none⟩) n c, .func (.func g) #[] #[]] := by
    simp [AV.den, AV.denL]
  rw [hargs]
  by_cases hr0 : rows = []
  · subst hr0
    simp only [List.length_nil] at hn
    subst hn
    refine (AnyF.slices_SortFunc_none L _ c _ w).mono ?_
    rintro e' w' ⟨rfl, rfl⟩
    exact sort_fin hR hR (Stp.refl _ _) ⟨[], rfl, rfl, List.Perm.refl _, List.Pairwise.nil⟩
  · rcases hR.blk 0 _ rfl with ⟨_, _, h⟩ | ⟨B, cs, hB, hh, hcs, hmx, hl, hrow, hcell⟩
    · exact absurd h hr0
    · rw [hB]
      have hall : ∀ r ∈ rows, r.length = k ∧ p r ∧ ∀ u ∈ r, Good w S u ∧ u.den.oneCell' = true := fun r hr => ⟨(hrow r hr).1, hp r hr, (hrow r hr).2⟩
      letI : Inhabited (SEl w S k p) := ⟨⟨rows.head hr0, hall _ (List.head_mem hr0)⟩⟩
      let d : Array (SEl w S k p) := (rows.attachWith _ hall).toArray
      have hds : d.size = n := by simp [d, hn]
      have hdg : ∀ i (hi : i < rows.length), (d[i]!).1 = rows[i] := fun i hi => by
        rw [getElem!_pos d i (by rw [hds, hn]; exact hi)]
        simp [d]
      have hblt : B < w.heap.size := hR.lt 0 B hB
      have hS : ∀ (m : Nat) (os : Array Obj) (dk : Array (SEl w S k p)) (b : Nat), S b → S b ∧ (sortWorldK (α := SEl w S k p) SEl.enc k w B 0 m dk os).heap[b]? = w.heap[b]? := fun m os dk b hb => ⟨hb, sort_heap_ne (hR.sS b hb) (fun e => hR.ap 0 B hB (e ▸ hb))⟩
      have hlen : ∀ x : SEl w S k p, x.enc.length = k := fun x => by rw [SEl.enc, List.length_map]; exact x.2.1
      have hH : HoldsK SEl.enc k w B 0 d := fun j hj => by
        rw [size_flatK] at hj
        rw [get_flatK _ _ _ _ hj]
        have hk0 : 0 < k := by rcases Nat.eq_zero_or_pos k with h | h; · subst h; simp at hj
                               · exact h
        have hq : j / k < rows.length := by rw [← hn, ← hds]; exact Nat.div_lt_of_lt_mul (by rw [Nat.mul_comm]; exact hj)
        have hm : j % k < k := Nat.mod_lt _ hk0
        have hrl := (hrow _ (List.getElem_mem hq)).1
        have h1 := hcell (j / k) (j % k) _ _ (List.getElem?_eq_getElem hq) (List.getElem?_eq_getElem (by rw [hrl]; exact hm))
        rw [show j / k * k + j % k = j by rw [Nat.mul_comm]; exact Nat.div_add_mod j k] at h1
        refine ⟨?_, ?_⟩
        · show w.cell? ⟨B, 0 + j, none⟩ = some ((SEl.enc d[j / k]!)[j % k]!)
          rw [Nat.zero_add]
          simp only [World.cell?, hh, h1, Option.isSome_none, Bool.false_eq_true, if_false]
          rw [getElem!_pos _ _ (by rw [hlen]; exact hm)]
          simp [SEl.enc, hdg _ hq]
        · simp [World.frozen?, hh]
      have hcmp : CmpLays P g #[] SEl.enc k (fun x y => cf x.1 y.1) B 0 d.size w := fun m os dk _ x y => by
        have hRW : RH (sortWorldK (α := SEl w S k p) SEl.enc k w B 0 m dk os) S [] [] := ⟨rfl, fun i i' B h => (by cases h), fun i B h => (by cases h), fun i B h => (by cases h), fun b hb => Nat.lt_of_lt_of_le (hR.sS b hb) sort_size, fun i o h => (by simp at h)⟩
        have hax : (List.map (AV.den [] []) [AV.a (x.1.map .c), AV.a (y.1.map .c)]).toArray = #[.agg (SEl.enc x).toArray, .agg (SEl.enc y).toArray] ++ #[] := by
          simp [AV.den, AV.denL_eq, SEl.enc, Function.comp_def]
        rw [← hax]
        refine (hc x.1 y.1 x.2.2.1 y.2.2.1 S [] _ hRW ?_).mono ?_
        · intro v hv
          have key : ∀ z : SEl w S k p, WF (sortWorldK (α := SEl w S k p) SEl.enc k w B 0 m dk os) S [] [] (.a (z.1.map .c)) := fun z => .a fun u hu => by
            obtain ⟨q, hq, rfl⟩ := List.mem_map.1 hu
            exact .c ((z.2.2.2 q hq).1.mono (hS m os dk))
          simp only [List.mem_cons, List.not_mem_nil, or_false] at hv
          rcases hv with rfl | rfl
          · exact key x
          · exact key y
        · rintro e' w' ⟨u, H', ρ', S', rfl, ⟨rfl, rfl⟩, _, _, hst, _⟩
          exact ⟨rfl, Stp.grown ⟨hst.os, hst.tape, hst.output, hst.size, fun b hb _ => hst.block b hb (fun ⟨i, h⟩ => by cases h), hst.drawn⟩⟩
      have hO : SWO (ltOf fun x y : SEl w S k p => cf x.1 y.1) :=
        ⟨fun x => by simpa [ltOf] using hirr x.1 x.2.2.1, fun x y z h1 h2 => by
            simp only [ltOf, decide_eq_true_eq] at h1 h2 ⊢
            exact htr _ _ _ x.2.2.1 y.2.2.1 z.2.2.1 h1 h2, fun x y z h1 h2 => by
            simp only [ltOf, decide_eq_false_iff_not] at h1 h2 ⊢
            exact hnt _ _ _ x.2.2.1 y.2.2.1 z.2.2.1 h1 h2⟩
      have hcap : n ≤ cap := by rw [hn]; exact hl
      have hcon := AnyQ.slices_SortFunc L k aE zE SEl.enc hlen (fun x v hv => by
        obtain ⟨u, hu, rfl⟩ := List.mem_map.1 hv
        exact (x.2.2.2 u hu).2) (fun x y => cf x.1 y.1) hO g #[] B 0 c d w (fun args w => run_callFunc hg) hcmp hH hblt (by
          rw [hds]; omega)
      rw [hds] at hcon
      refine hcon.mono ?_
      rintro e' w' ⟨rfl, d', q, os, ⟨hps, _, hpp⟩, hsrt, rfl⟩
      have hd' : d'.size = n := by rw [hps, hds]
      have hl' : (d'.toList.map (fun x : SEl w S k p => x.1)).length = rows.length := by simp [hd', hn]
      have hfs : ∀ F : Array Value, ((putCells id 0 F) cs).size = cs.size := fun F => by simp [putCells]
      obtain ⟨h1, h2⟩ := sort_back (n := q) (os := os) (f := putCells id 0 (flatK SEl.enc k d')) (rows' := d'.toList.map (fun x : SEl w S k p => x.1)) hR hB hh (by rw [hfs, hcs]) hmx (by rw [hl']; exact hl) (fun row hr => by
          obtain ⟨x, _, rfl⟩ := List.mem_map.1 hr
          exact ⟨x.2.1, x.2.2.2⟩) (fun i j row u hi hj => by
          rw [List.getElem?_map] at hi
          cases hx : d'.toList[i]? with
          | none => rw [hx] at hi; cases hi
          | some x =>
            rw [hx] at hi
            simp only [Option.map_some, Option.some.injEq] at hi
            subst hi
            have hi2 : i < d'.size := by
              rw [Array.getElem?_toList] at hx
              rcases Nat.lt_or_ge i d'.size with h | h
              · exact h
              · rw [Array.getElem?_eq_none h] at hx; cases hx
            have hj2 : j < k := by
              rcases Nat.lt_or_ge j x.1.length with h | h
              · rw [← x.2.1]; exact h
              · rw [List.getElem?_eq_none h] at hj; cases hj
            have hlt : i * k + j < d'.size * k := by
              have := Nat.mul_le_mul_right k (show i + 1 ≤ d'.size from hi2); rw [Nat.add_mul, Nat.one_mul] at this; omega
            have hlt2 : i * k + j < cs.size := by
              rw [hcs]; exact Nat.lt_of_lt_of_le hlt (Nat.mul_le_mul_right k (by rw [hd']; exact hcap))
            have e1 : (i * k + j) / k = i := (blk_iff k i _ (by omega)).1 ⟨by omega, by omega⟩
            have e2 : (i * k + j) % k = j := by rw [Nat.mod_eq_sub_div_mul, e1]; omega
            simp only [putCells, Array.getElem?_mapIdx, Array.getElem?_eq_getElem hlt2, Option.map_some]
            rw [if_pos ⟨Nat.zero_le _, by rw [size_flatK]; omega⟩, Nat.sub_zero, get_flatK _ _ _ _ hlt, e1, e2]
            have hxe : d'[i]! = x := by
              rw [getElem!_pos d' i hi2]
              rw [Array.getElem?_toList, Array.getElem?_eq_getElem hi2] at hx
              injection hx
            rw [hxe]
            have : x.enc[j]? = some u.den := by rw [SEl.enc, List.getElem?_map, hj]; rfl
            rw [getElem!_pos _ _ (by rw [hlen]; exact hj2)]
            rw [List.getElem?_eq_getElem (by rw [hlen]; exact hj2)] at this
            injection this with this
            simp [this])
      refine sort_fin hR h1 h2 ⟨_, rfl, rfl, ?_, ?_⟩
      · have h3 : d'.toList.Perm d.toList := by
          have a1 : d'.extract 0 n = d' := by rw [← hd']; simp
          have a2 : d.extract 0 n = d := by rw [← hds]; simp
          rw [a1, a2] at hpp; exact hpp
        have h4 := h3.map (fun x : SEl w S k p => x.1)
        have h5 : d.toList.map (fun x : SEl w S k p => x.1) = rows := by
          refine List.ext_getElem (by simp [d]) fun i h1 h2 => ?_
          simp [d]
        rwa [h5] at h4
      · rw [List.pairwise_map, List.pairwise_iff_getElem]
        intro i j hi hj hij
        have hi' : i < d'.size := by simpa using hi
        have hj' : j < d'.size := by simpa using hj
        have := hsrt i j (Nat.zero_le _) hij (by rw [← hd']; exact hj')
        rw [getElem!_pos d' i hi', getElem!_pos d' j hj'] at this
        simpa [ltOf] using this

/-- Numbers as rows. -/
def ziR (l : List Int) : List (List CV) := l.map fun z => [.s (.int .i64 z)]
/-- **slices.Sort of numbers.** -/
theorem acalls_sortI {P : Program} {τ : Ren} (L : SlLaysM.n5 P τ) (l : List Int) (hle : l.length ≤ 1000000000) {e : TypeId} {cap n c : Nat} {pn : Bool} (hn : n = l.length) :
    ACallsX pn P (τ.f 5) [.o 0 0 n c] [.arr e 1 cap (ziR l)] fun u H => u = .t [] ∧ H = [.arr e 1 cap (ziR (l.mergeSort fun x y => decide (x ≤ y)))] := fun S ρ w hR hW => by
  have hargs : ([AV.o 0 0 n c].map (AV.den ρ [.arr e 1 cap (ziR l)])).toArray = #[.slice ((atB ρ 0).map fun B => ⟨B, 0, none⟩) n c] := by
    simp [AV.den]
  rw [hargs]
  by_cases hr0 : l = []
  · subst hr0
    simp only [List.length_nil] at hn
    subst hn
    refine (AnyM.slices_Sort_int_none L _ c w).mono ?_
    rintro e' w' ⟨rfl, rfl⟩
    exact sort_fin hR hR (Stp.refl _ _) ⟨rfl, by simp⟩
  · rcases hR.blk 0 _ rfl with ⟨_, _, h⟩ | ⟨B, cs, hB, hh, hcs, hmx, hl, hrow, hcell⟩
    · simp [ziR] at h; exact absurd h hr0
    · rw [hB]
      have hblt : B < w.heap.size := hR.lt 0 B hB
      have hll : (ziR l).length = l.length := by simp [ziR]
      rw [hll] at hl
      have hcell' : ∀ (i : Nat) (h : i < l.length), cs[i]? = some (.int .i64 l[i]) := fun i h => by
        have := hcell i 0 [.s (.int .i64 l[i])] (.s (.int .i64 l[i])) (by simp [ziR, h]) rfl
        simpa [CV.den] using this
      have hH : Holds (Value.int .i64) w B 0 l.toArray := fun j hj => by
        have hj' : j < l.length := by simpa using hj
        refine ⟨?_, ?_⟩
        · rw [Nat.zero_add]
          simp only [World.cell?, hh, hcell' j hj', Option.isSome_none, Bool.false_eq_true, if_false]
          rw [getElem!_pos l.toArray j hj]
          simp
        · simp [World.frozen?, hh]
      have hcon := AnyM.slices_Sort_int L B 0 c l w hH hblt (by omega)
      rw [← hn] at hcon
      refine hcon.mono ?_
      rintro e' w' ⟨rfl, q, os, rfl⟩
      have hp := List.mergeSort_perm l (fun x y => decide (x ≤ y))
      generalize hM : l.mergeSort (fun x y => decide (x ≤ y)) = l' at hp ⊢
      have hl' : l'.length = l.length := hp.length_eq
      obtain ⟨h1, h2⟩ := sort_back (n := q) (os := os) (f := putCells (Value.int .i64) 0 l'.toArray) (rows' := ziR l') hR hB hh (by simp [putCells, hcs]) hmx (by simp [ziR]; omega) (fun row hr => by
          obtain ⟨x, _, rfl⟩ := List.mem_map.1 hr
          exact ⟨rfl, fun u hu => by rw [List.mem_singleton.1 hu]; exact ⟨.s _, rfl⟩⟩) (fun i j row u hi hj => by
          simp only [ziR, List.getElem?_map] at hi
          cases hx : l'[i]? with
          | none => rw [hx] at hi; cases hi
          | some x =>
            rw [hx] at hi
            simp only [Option.map_some, Option.some.injEq] at hi
            subst hi
            cases j with
            | succ j => simp at hj
            | zero =>
              simp only [List.getElem?_cons_zero, Option.some.injEq] at hj
              subst hj
              have hi2 : i < l'.length := by
                rcases Nat.lt_or_ge i l'.length with h | h
                · exact h
                · rw [List.getElem?_eq_none h] at hx; cases hx
              have hlt2 : i * 1 + 0 < cs.size := by rw [hcs]; omega
              simp only [putCells, Array.getElem?_mapIdx, Array.getElem?_eq_getElem hlt2, Option.map_some]
              rw [if_pos ⟨Nat.zero_le _, by simp; omega⟩]
              have : l'.toArray[i * 1 + 0 - 0]! = x := by
                rw [getElem!_pos _ _ (by simp; omega)]
                rw [List.getElem?_eq_getElem hi2] at hx
                injection hx with hx
                simp [hx]
              rw [this]; rfl)
      exact sort_fin hR h1 h2 ⟨rfl, rfl⟩
end Go.Proofs.YthanangkmjjbaaaGreatDoor
