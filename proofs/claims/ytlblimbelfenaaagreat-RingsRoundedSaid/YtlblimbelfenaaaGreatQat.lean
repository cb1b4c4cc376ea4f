/- Slants of a mesh, by value. -/
import Derived.Test.YtlblimbelfenaaaGreatQas
import Derived.Test.YtlblimbelfenaaaGreatQap
import Derived.Shelf.SlSortCmp.NoneTotal
import Derived.Shelf.SortM.Plain
import Derived.Shelf.SortM.SortNone
import Derived.Test.YtlblimbelfenaaaGreatProg
set_option linter.unusedSimpArgs false
set_option linter.unusedVariables false
/- Least and greatest of numbers; which vertices are used; the program's box, by value. -/
-- NEWM
namespace Go.Proofs.YtlblimbelfenaaaGreat
open Go Go.RowKit
set_option maxRecDepth 100000
abbrev zR (l : List Int) : List (List CV) := l.map fun z => [I z]
theorem minI_v (l : List Int) (v : Value) (hn : l ≠ []) (hl : l.length ≤ 1000000000) : ACalls Tryz.prog 145 [.c (.r v (zR l))] [] fun u H => u = .c (I (minL l)) ∧ H = [] := by
 have e1 : (zR l).length = l.length := by simp
 have hp : 0 < l.length := List.length_pos_iff.2 hn
 obtain ⟨z0, hz0⟩ : ∃ z, l[0]? = some z := ⟨_, List.getElem?_eq_getElem hp⟩
 have hrow0 : (zR l)[0]? = some [I z0] := by rw [List.getElem?_map, hz0]; rfl
 have ht1 : l.take 1 = [z0] := by rw [List.take_add_one, hz0]; rfl
 refine acalls_of (N := 25) Tryz.func145 rfl rfl (by simp) fun E hE => ?_
 refine WA ?_
 refine WA ?_
 refine aw_cond rfl (fun h => absurd h (by simp; try omega)) (fun _ => ?_)
 refine ZZ ?_
 refine WA ?_
 refine WA ?_
 refine aw_loopw (fun m F H => ∃ (k : Nat), m + k = l.length ∧ 1 ≤ k ∧ F = [(0, .c (.r v (zR l))), (3, .c (I (minL (l.take k)))), (4, .c (I k))] ∧ H = []) ?_ ?_
 ·refine wk_of [] (fun _ => [(0, .c (.r v (zR l))), (3, .c (I z0)), (4, .c (I (1 : Nat)))]) (fun _ => _) (by decide) (ZNL hE) ZCF (fun _ => .nil) (fun _ => ?_)
  exact ⟨l.length - 1, 1, by omega, by omega, by rw [ht1]; rfl, rfl⟩
 rintro m F H ⟨k, hk, hk1, rfl, rfl⟩
 refine WA ?_
 refine aw_if rfl (fun hlt => ?_) (fun hge => ?_)
 ·obtain ⟨z, hz⟩ : ∃ z, l[k]? = some z := ⟨_, List.getElem?_eq_getElem (by omega)⟩
  have hrow : (zR l)[k]? = some [I z] := by rw [List.getElem?_map, hz]; rfl
  have hne : l.take k ≠ [] := fun h => by
   have := congrArg List.length h
   rw [List.length_take, List.length_nil] at this
   omega
  have ht : minL (l.take (k + 1)) = min (minL (l.take k)) z := by
   rw [List.take_add_one, hz]
   exact minL_snoc hne
  refine WA ?_
  refine WA ?_
  refine wk_of [] (fun _ => [(0, .c (.r v (zR l))), (3, .c (I (min (minL (l.take k)) z))), (4, .c (I (k + 1 : Nat)))]) (fun _ => _) (by decide) (ZNL hE) ZCF (fun _ => .nil) (fun _ => ?_)
  exact ⟨m - 1, by omega, k + 1, by omega, by omega, by rw [ht], rfl⟩
 refine WA ?_
 refine aret_1 [] _ rfl rfl rfl (by decide) (ZNK rfl) (fun _ => .nil) ⟨?_, rfl⟩
 rw [List.take_of_length_le (by omega)]
theorem maxI_v (l : List Int) (v : Value) (hn : l ≠ []) (hl : l.length ≤ 1000000000) : ACalls Tryz.prog 146 [.c (.r v (zR l))] [] fun u H => u = .c (I (maxL l)) ∧ H = [] := by
 have e1 : (zR l).length = l.length := by simp
 have hp : 0 < l.length := List.length_pos_iff.2 hn
 obtain ⟨z0, hz0⟩ : ∃ z, l[0]? = some z := ⟨_, List.getElem?_eq_getElem hp⟩
 have hrow0 : (zR l)[0]? = some [I z0] := by rw [List.getElem?_map, hz0]; rfl
 have ht1 : l.take 1 = [z0] := by rw [List.take_add_one, hz0]; rfl
 refine acalls_of (N := 25) Tryz.func146 rfl rfl (by simp) fun E hE => ?_
 refine WA ?_
 refine WA ?_
 refine aw_cond rfl (fun h => absurd h (by simp; try omega)) (fun _ => ?_)
 refine ZZ ?_
 refine WA ?_
 refine WA ?_
 refine aw_loopw (fun m F H => ∃ (k : Nat), m + k = l.length ∧ 1 ≤ k ∧ F = [(0, .c (.r v (zR l))), (3, .c (I (maxL (l.take k)))), (4, .c (I k))] ∧ H = []) ?_ ?_
 ·refine wk_of [] (fun _ => [(0, .c (.r v (zR l))), (3, .c (I z0)), (4, .c (I (1 : Nat)))]) (fun _ => _) (by decide) (ZNL hE) ZCF (fun _ => .nil) (fun _ => ?_)
  exact ⟨l.length - 1, 1, by omega, by omega, by rw [ht1]; rfl, rfl⟩
 rintro m F H ⟨k, hk, hk1, rfl, rfl⟩
 refine WA ?_
 refine aw_if rfl (fun hlt => ?_) (fun hge => ?_)
 ·obtain ⟨z, hz⟩ : ∃ z, l[k]? = some z := ⟨_, List.getElem?_eq_getElem (by omega)⟩
  have hrow : (zR l)[k]? = some [I z] := by rw [List.getElem?_map, hz]; rfl
  have hne : l.take k ≠ [] := fun h => by
   have := congrArg List.length h
   rw [List.length_take, List.length_nil] at this
   omega
  have ht : maxL (l.take (k + 1)) = max (maxL (l.take k)) z := by
   rw [List.take_add_one, hz]
   exact maxL_snoc hne
  refine WA ?_
  refine WA ?_
  refine wk_of [] (fun _ => [(0, .c (.r v (zR l))), (3, .c (I (max (maxL (l.take k)) z))), (4, .c (I (k + 1 : Nat)))]) (fun _ => _) (by decide) (ZNL hE) ZCF (fun _ => .nil) (fun _ => ?_)
  exact ⟨m - 1, by omega, k + 1, by omega, by omega, by rw [ht], rfl⟩
 refine WA ?_
 refine aret_1 [] _ rfl rfl rfl (by decide) (ZNK rfl) (fun _ => .nil) ⟨?_, rfl⟩
 rw [List.take_of_length_le (by omega)]
theorem aret_c2 {fn : Func} {nl p q k : Nat} {ty : TypeId} {Qr : AV → List OB → Prop} {F : Fm} {H : List OB} {u v : AV} {a b a' b' : List AV} (hr : fn.results = #[.cell p ty, .cell q ty]) (hk : ldk Tryz.prog ty = some (some k)) (h1 : F.lookup p = some u) (h2 : F.lookup q = some v)
    (c1 : Cells H u a) (c2 : Cells H v b) (n1 : k ≤ a.length) (n2 : k ≤ b.length) (e1 : a.take k = a') (e2 : b.take k = b') (hl : nl = 0) (v1 : ∀ g, CvL g [] H true a' a') (v2 : ∀ g, CvL g [] H true b' b') (hq : Qr (.t [.a a', .a b']) []) : ARet Tryz.prog fn nl Qr .ret F H := by
 subst hl
 exact aret_of (us := [.a a', .a b']) [] (fun _ => .t [.a a', .a b']) (fun _ => []) (by rw [hr]; exact .cella h1 hk c1 n1 e1 (.cella h2 hk c2 n2 e2 .nil)) (by decide) (fun i hi => absurd hi (Nat.not_lt_zero i)) (fun g => .tL (.cons (.aL (v1 g)) (.cons (.aL (v2 g)) .nil))) (fun _ => .nil) (fun _ => hq)
end Go.Proofs.YtlblimbelfenaaaGreat

/- Several-order regions where three may come next. -/
namespace Go.Proofs.YtlblimbelfenaaaGreat
open Go Go.RowKit
theorem wpM_all {P : Program} {ops : Array Oper} {Q : Act → World → Prop} {n : Nat} {ps : List Plan} {a : Act} {w : World} (h : ∀ e ∈ headsOf ps, wpM P ops Q (n + 1) ((tailsOf e ps).map (e :: ·)) a w) : wpM P ops Q (n + 1) ps a w := fun e he => by
 have key : ∀ (e : Nat × Option (List Nat)) (l : List Plan), tailsOf e (l.map (e :: ·)) = l := by
  intro e l
  induction l with
  | nil => rfl
  | cons x l ih => simp only [List.map_cons, tailsOf, beq_self_eq_true, if_true, ih]
 have keyh : ∀ (e : Nat × Option (List Nat)) (l : List Plan), l ≠ [] → e ∈ headsOf (l.map (e :: ·)) := by
  intro e l hl
  cases l with
  | nil => exact absurd rfl hl
  | cons x l =>
   simp only [List.map_cons, headsOf]
   split
   ·rename_i hc; simpa using hc
   ·simp
 obtain ⟨l, hl⟩ := mem_headsOf (ps := ps) (e := e) he
 have hne : tailsOf e ps ≠ [] := List.ne_nil_of_mem (tailsOf_mem hl)
 have := h e he e (keyh _ _ hne)
 rw [key] at this
 exact this
theorem am_three {P : Program} {N : Nat} {E : Env} {F : Fm} {H : List OB} {Q : Exit → Fm → List OB → Prop} {ops : Array Oper} {n : Nat} {e1 e2 e3 : Nat × Option (List Nat)} {ps p1 p2 p3 : List Plan} (hh : headsOf ps = [e1, e2, e3]) (h1 : tailsOf e1 ps = p1) (h2 : tailsOf e2 ps = p2) (h3 : tailsOf e3 ps = p3)
    (k1 : AM P N E ops (n + 1) (p1.map (e1 :: ·)) F H Q) (k2 : AM P N E ops (n + 1) (p2.map (e2 :: ·)) F H Q) (k3 : AM P N E ops (n + 1) (p3.map (e3 :: ·)) F H Q) : AM P N E ops (n + 1) ps F H Q := fun S ρ a w hR => wpM_all fun e he => by
 rw [hh] at he
 simp only [List.mem_cons, List.not_mem_nil, or_false] at he
 rcases he with rfl | rfl | rfl
 ·rw [h1]; exact k1 S ρ a w hR
 ·rw [h2]; exact k2 S ρ a w hR
 ·rw [h3]; exact k3 S ρ a w hR
end Go.Proofs.YtlblimbelfenaaaGreat

/- The reference's box, by value. -/
-- NEWM
namespace Go.Proofs.YtlblimbelfenaaaGreat
open Go Go.RowKit
set_option maxRecDepth 100000
end Go.Proofs.YtlblimbelfenaaaGreat

/- Heights: the program's and the reference's, by value. -/
-- NEWM
namespace Go.Proofs.YtlblimbelfenaaaGreat
open Go Go.RowKit
set_option maxRecDepth 100000
def outH (n lo hi : Int) : Bool := decide (n < lo) || decide (hi < n)
def spnF (n lo hi : Int) : Int := if outH n lo hi = true then 1 else 0
theorem span_v (n lo hi : Int) : ACalls Tryz.prog 64 [.c (I n), .c (I lo), .c (I hi)] [] fun u H => u = .c (I (spnF n lo hi)) ∧ H = [] := by
 refine acalls_of (N := 12) Tryz.func64 rfl rfl (by simp) fun E hE => ?_
 refine WA ?_
 refine WR ?_
 refine al_ef rfl (ef_call0 false (fun _ => rin_v _ _ _) rfl .fn rfl (by decide) (by kernel_rfl) rfl (fun _g => .cons (.c rfl) (.cons (.c rfl) (.cons (.c rfl) .nil))) (by simp)) ?_
 rintro _ _ ⟨_, _, _, ⟨rfl, rfl⟩, hF, hH⟩
 (refine NST hF hH ?_; clear hF hH; rintro rfl rfl)
 refine WE ?_
 refine aw_cond rfl (fun hb => ?_) (fun hb => ?_)
 ·refine WA ?_
  exact aret_1 [] _ rfl rfl rfl (by decide) (ZNK rfl) (fun _ => .nil) ⟨by rw [spnF, if_pos (by simpa [outH] using hb)], rfl⟩
 ·refine WA ?_
  exact aret_1 [] _ rfl rfl rfl (by decide) (ZNK rfl) (fun _ => .nil) ⟨by rw [spnF, if_neg (by simpa [outH] using hb)], rfl⟩
end Go.Proofs.YtlblimbelfenaaaGreat

/- slices.Compact of numbers, by value. -/
-- NEWM
namespace Go.Proofs.YtlblimbelfenaaaGreat
open Go Go.RowKit
set_option maxRecDepth 100000
section
variable {P : Program} {N : Nat} {E : Env} {S : Nat → Prop} {ρ : List (Option Nat)} {F : Fm} {H : List OB} {a : Act} {w : World} {Q : Exit → Fm → List OB → Prop}
end
end Go.Proofs.YtlblimbelfenaaaGreat

/- slices.SortFunc and slices.Sort over values, from the library's contracts. Conditions: none. -/
namespace Go.Proofs.YtlblimbelfenaaaGreat
open Go Go.RowKit Go.Shelf Go.Sort

theorem Stp.grown {w w' : World} (h : Stp w w' (fun _ => False)) : ∃ q os, w' = Sort.grow (w.drewN q) os := by
 refine ⟨w'.drawn - w.drawn, w'.heap.extract w.heap.size w'.heap.size, ?_⟩
 have hh : w.heap ++ w'.heap.extract w.heap.size w'.heap.size = w'.heap := by
  refine Array.ext_getElem? fun k => ?_
  rw [Array.getElem?_append]
  split
  ·rename_i hk; exact (h.block k hk (fun x => x)).symm
  ·rename_i hk
   rw [Array.getElem?_extract]
   have hs := h.size
   by_cases h2 : k < w'.heap.size
   ·rw [if_pos (by omega)]; congr 1; omega
   ·rw [if_neg (by omega), Array.getElem?_eq_none (by omega)]
 have h1 := h.os; have h2 := h.tape; have h3 := h.output; have h4 := h.drawn
 obtain ⟨hp, tp, dr, o, out⟩ := w
 obtain ⟨hp', tp', dr', o', out'⟩ := w'
 simp only at h1 h2 h3 h4 hh ⊢
 subst h1; subst h2; subst h3
 simp only [Sort.grow, World.drewN]
 rw [hh, show dr + (dr' - dr) = dr' by omega]

section
variable {w : World} {S : Nat → Prop} {ρ : List (Option Nat)} {e : TypeId} {k cap B n : Nat} {rows rows' : List (List CV)} {cs : Array Value} {os : Array Obj} {f : Array Value → Array Value}
theorem sort_heap_ne {b : Nat} (hb : b < w.heap.size) (hne : b ≠ B) : (Sort.grow (mapBlock (Sort.ahead w n) B f) os).heap[b]? = w.heap[b]? := by
 simp only [Sort.grow, mapBlock, Sort.ahead]
 rw [Array.getElem?_append_left (by simpa using hb), Array.getElem?_modify, if_neg (fun e => hne e.symm)]
theorem sort_heap_at (hh : w.heap[B]? = some (.cells cs e (0, 0))) : (Sort.grow (mapBlock (Sort.ahead w n) B f) os).heap[B]? = some (.cells (f cs) e (0, 0)) := by
 have hb : B < w.heap.size := by
  rcases Nat.lt_or_ge B w.heap.size with h | h
  ·exact h
  ·rw [Array.getElem?_eq_none h] at hh; cases hh
 simp only [Sort.grow, mapBlock, Sort.ahead]
 rw [Array.getElem?_append_left (by simpa using hb), Array.getElem?_modify, if_pos rfl, hh]
 rfl
theorem sort_size : w.heap.size ≤ (Sort.grow (mapBlock (Sort.ahead w n) B f) os).heap.size := by
 simp [Sort.grow, mapBlock, Sort.ahead]
theorem sort_back (hR : RH w S ρ [.arr e k cap rows]) (hB : atB ρ 0 = some B) (hh : w.heap[B]? = some (.cells cs e (0, 0))) (hcs : (f cs).size = cap * k) (hmx : cap ≤ maxLen) (hl : rows'.length ≤ cap)
    (hrow : ∀ row ∈ rows', row.length = k ∧ ∀ u ∈ row, Good w S u ∧ u.den.oneCell' = true) (hcell : ∀ (i j : Nat) (row : List CV) (u : CV), rows'[i]? = some row → row[j]? = some u → (f cs)[i * k + j]? = some u.den) :
    RH (Sort.grow (mapBlock (Sort.ahead w n) B f) os) S ρ [.arr e k cap rows'] ∧ Stp w (Sort.grow (mapBlock (Sort.ahead w n) B f) os) (fun b => ∃ i, atB ρ i = some b) := by
 have hS : ∀ b, S b → S b ∧ (Sort.grow (mapBlock (Sort.ahead w n) B f) os).heap[b]? = w.heap[b]? := fun b hb => ⟨hb, sort_heap_ne (hR.sS b hb) (fun e => hR.ap 0 B hB (e ▸ hb))⟩
 refine ⟨⟨hR.len, hR.nd, hR.ap, fun i b hi => Nat.lt_of_lt_of_le (hR.lt i b hi) sort_size, fun b hb => Nat.lt_of_lt_of_le (hR.sS b hb) sort_size, fun i o hi => ?_⟩, ⟨rfl, rfl, rfl, sort_size, fun b hb hn => sort_heap_ne hb (fun e => hn ⟨0, e ▸ hB⟩), ?_⟩⟩
 ·cases i with
  | succ i => simp at hi
  | zero =>
   simp only [List.getElem?_cons_zero, Option.some.injEq] at hi
   subst hi
   exact .inr ⟨B, f cs, hB, sort_heap_at hh, hcs, hmx, hl, fun row hr => ⟨(hrow row hr).1, fun u hu => ⟨((hrow row hr).2 u hu).1.mono hS, ((hrow row hr).2 u hu).2⟩⟩, hcell⟩
 ·show w.drawn ≤ w.drawn + n
  exact Nat.le_add_right _ _
end

abbrev SEl (w : World) (S : Nat → Prop) (k : Nat) (p : List CV → Prop) := { x : List CV // x.length = k ∧ p x ∧ ∀ u ∈ x, Good w S u ∧ u.den.oneCell' = true }
def SEl.enc {w : World} {S : Nat → Prop} {k : Nat} {p : List CV → Prop} (x : SEl w S k p) : List Value := x.1.map CV.den

theorem sort_fin {S : Nat → Prop} {ρ : List (Option Nat)} {w u : World} {e : TypeId} {k cap : Nat} {rows rows' : List (List CV)} {pn : Bool} {Q : AV → List OB → Prop} (hR : RH w S ρ [.arr e k cap rows]) (h1 : RH u S ρ [.arr e k cap rows']) (h2 : Stp w u (fun b => ∃ i, atB ρ i = some b)) (hq : Q (.t []) [.arr e k cap rows']) :
    ∃ v H' ρ' S', Ending.returned (.tuple #[]) = .returned (AV.den ρ' H' v) ∧ Q v H' ∧ WF u S' ρ' H' v ∧ RH u S' ρ' H' ∧
        Stp w u (fun B => ∃ i, atB ρ i = some B) ∧ (∀ b, S' b → S b ∨ w.heap.size ≤ b) ∧ (∀ i B, atB ρ' i = some B → w.heap.size ≤ B ∨ (i < [OB.arr e k cap rows].length ∧ atB ρ i = some B)) ∧
        (∀ i, i < [OB.arr e k cap rows].length → i < H'.length ∧ ∀ o, [OB.arr e k cap rows][i]? = some o → o.shp ≠ 0 → atB ρ' i = atB ρ i ∧ ∃ o', H'[i]? = some o' ∧ o'.shp = o.shp) ∧
        (pn = true → ∀ i, i < [OB.arr e k cap rows].length → atB ρ' i = atB ρ i ∧ szAt H' i = szAt [OB.arr e k cap rows] i ∧ capAt H' i = capAt [OB.arr e k cap rows] i) := by
 refine ⟨.t [], [.arr e k cap rows'], ρ, S, rfl, hq, .t (by simp), h1, h2, fun b hb => .inl hb, fun i B hi => .inr ⟨by have := atB_lt hi; rw [hR.len] at this; exact this, hi⟩, fun i hi => ⟨by simpa using hi, fun o ho hs => ?_⟩, fun _ i hi => ?_⟩
 ·cases i with
  | succ i => simp at hi
  | zero => simp only [List.getElem?_cons_zero, Option.some.injEq] at ho; subst ho; exact absurd rfl hs
 ·cases i with
  | succ i => simp at hi
  | zero => exact ⟨rfl, rfl, rfl⟩

theorem acalls_sort {P : Program} {τ : Ren} (L : SlLaysF0.n6 P τ) {k : Nat} (aE : ∀ w, (isAgg (τ.t 24)).run P w = .ok true w) (zE : ∀ w, (Go.sizeOf (τ.t 24)).run P w = .ok k w) (p : List CV → Prop) (cf : List CV → List CV → Int) {g : FuncId} (hg : okFn P g = true)
    (hirr : ∀ x, p x → ¬ cf x x < 0) (htr : ∀ x y z, p x → p y → p z → cf x y < 0 → cf y z < 0 → cf x z < 0) (hnt : ∀ x y z, p x → p y → p z → ¬ cf x y < 0 → ¬ cf y z < 0 → ¬ cf x z < 0)
    (hc : ∀ x y, p x → p y → ACalls P g [.a (x.map .c), .a (y.map .c)] [] fun u H => u = .c (.s (.int .i64 (cf x y))) ∧ H = [])
    (rows : List (List CV)) (hp : ∀ r ∈ rows, p r) (hle : rows.length ≤ 1000000000) {e : TypeId} {cap n c : Nat} {pn : Bool} (hn : n = rows.length) :
    ACallsX pn P (τ.f 6) [.o 0 0 n c, .f (.func g) []] [.arr e k cap rows] fun u H => ∃ rows', u = .t [] ∧ H = [.arr e k cap rows'] ∧ rows'.Perm rows ∧ rows'.Pairwise (fun x y => ¬ cf y x < 0) := fun S ρ w hR hW => by
 have hwf : WF w S ρ [.arr e k cap rows] (.o 0 0 n c) := hW _ (by simp)
 have hargs : ([AV.o 0 0 n c, AV.f (.func g) []].map (AV.den ρ [.arr e k cap rows])).toArray = #[.slice ((atB ρ 0).map fun B => ⟨B, 0, none⟩) n c, .func (.func g) #[] #[]] := by
  simp [AV.den, AV.denL]
 rw [hargs]
 by_cases hr0 : rows = []
 ·subst hr0
  simp only [List.length_nil] at hn
  subst hn
  refine (AnyF.slices_SortFunc_none L _ c _ w).mono ?_
  rintro e' w' ⟨rfl, rfl⟩
  exact sort_fin hR hR (Stp.refl _ _) ⟨[], rfl, rfl, List.Perm.refl _, List.Pairwise.nil⟩
 ·rcases hR.blk 0 _ rfl with ⟨_, _, h⟩ | ⟨B, cs, hB, hh, hcs, hmx, hl, hrow, hcell⟩
  ·exact absurd h hr0
  ·rw [hB]
   have hall : ∀ r ∈ rows, r.length = k ∧ p r ∧ ∀ u ∈ r, Good w S u ∧ u.den.oneCell' = true := fun r hr => ⟨(hrow r hr).1, hp r hr, (hrow r hr).2⟩
   letI : Inhabited (SEl w S k p) := ⟨⟨rows.head hr0, hall _ (List.head_mem hr0)⟩⟩
   let d : Array (SEl w S k p) := (rows.attachWith _ hall).toArray
   have hds : d.size = n := by simp [d, hn]
   have hdg : ∀ i (hi : i < rows.length), (d[i]!).1 = rows[i] := fun i hi => by
    rw [getElem!_pos d i (by rw [hds, hn]; exact hi)]
    simp [d]
   have hblt : B < w.heap.size := hR.lt 0 B hB
   have hS : ∀ (m : Nat) (os : Array Obj) (dk : Array (SEl w S k p)) (b : Nat), S b → S b ∧ (sortWorldK (α := SEl w S k p) SEl.enc k w B 0 m dk os).heap[b]? = w.heap[b]? := fun m os dk b hb => ⟨hb, sort_heap_ne (hR.sS b hb) (fun e => hR.ap 0 B hB (e ▸ hb))⟩
   have hlen : ∀ x : SEl w S k p, x.enc.length = k := fun x => by rw [SEl.enc, List.length_map]; exact x.2.1
   have hH : HoldsK SEl.enc k w B 0 d := fun j hj => by
    rw [size_flatK] at hj
    rw [get_flatK _ _ _ _ hj]
    have hk0 : 0 < k := by rcases Nat.eq_zero_or_pos k with h | h; · subst h; simp at hj
                           ·exact h
    have hq : j / k < rows.length := by rw [← hn, ← hds]; exact Nat.div_lt_of_lt_mul (by rw [Nat.mul_comm]; exact hj)
    have hm : j % k < k := Nat.mod_lt _ hk0
    have hrl := (hrow _ (List.getElem_mem hq)).1
    have h1 := hcell (j / k) (j % k) _ _ (List.getElem?_eq_getElem hq) (List.getElem?_eq_getElem (by rw [hrl]; exact hm))
    rw [show j / k * k + j % k = j by rw [Nat.mul_comm]; exact Nat.div_add_mod j k] at h1
    refine ⟨?_, ?_⟩
    ·show w.cell? ⟨B, 0 + j, none⟩ = some ((SEl.enc d[j / k]!)[j % k]!)
     rw [Nat.zero_add]
     simp only [World.cell?, hh, h1, Option.isSome_none, Bool.false_eq_true, if_false]
     rw [getElem!_pos _ _ (by rw [hlen]; exact hm)]
     simp [SEl.enc, hdg _ hq]
    ·simp [World.frozen?, hh]
   have hcmp : CmpLays P g #[] SEl.enc k (fun x y => cf x.1 y.1) B 0 d.size w := fun m os dk _ x y => by
    have hRW : RH (sortWorldK (α := SEl w S k p) SEl.enc k w B 0 m dk os) S [] [] := ⟨rfl, fun i i' B h => (by cases h), fun i B h => (by cases h), fun i B h => (by cases h), fun b hb => Nat.lt_of_lt_of_le (hR.sS b hb) sort_size, fun i o h => (by simp at h)⟩
    have hax : (List.map (AV.den [] []) [AV.a (x.1.map .c), AV.a (y.1.map .c)]).toArray = #[.agg (SEl.enc x).toArray, .agg (SEl.enc y).toArray] ++ #[] := by
     simp [AV.den, AV.denL_eq, SEl.enc, Function.comp_def]
    rw [← hax]
    refine (hc x.1 y.1 x.2.2.1 y.2.2.1 S [] _ hRW ?_).mono ?_
    ·intro v hv
     have key : ∀ z : SEl w S k p, WF (sortWorldK (α := SEl w S k p) SEl.enc k w B 0 m dk os) S [] [] (.a (z.1.map .c)) := fun z => .a fun u hu => by
      obtain ⟨q, hq, rfl⟩ := List.mem_map.1 hu
      exact .c ((z.2.2.2 q hq).1.mono (hS m os dk))
     simp only [List.mem_cons, List.not_mem_nil, or_false] at hv
     rcases hv with rfl | rfl
     ·exact key x
     ·exact key y
    ·rintro e' w' ⟨u, H', ρ', S', rfl, ⟨rfl, rfl⟩, _, _, hst, _⟩
     exact ⟨rfl, Stp.grown ⟨hst.os, hst.tape, hst.output, hst.size, fun b hb _ => hst.block b hb (fun ⟨i, h⟩ => by cases h), hst.drawn⟩⟩
   have hO : SWO (ltOf fun x y : SEl w S k p => cf x.1 y.1) :=
    ⟨fun x => by simpa [ltOf] using hirr x.1 x.2.2.1, fun x y z h1 h2 => by
        simp only [ltOf, decide_eq_true_eq] at h1 h2 ⊢
        exact htr _ _ _ x.2.2.1 y.2.2.1 z.2.2.1 h1 h2, fun x y z h1 h2 => by
        simp only [ltOf, decide_eq_false_iff_not] at h1 h2 ⊢
        exact hnt _ _ _ x.2.2.1 y.2.2.1 z.2.2.1 h1 h2⟩
   have hcap : n ≤ cap := by rw [hn]; exact hl
   have hcon := AnyQ.slices_SortFunc L k aE zE SEl.enc hlen (fun x v hv => by
    obtain ⟨u, hu, rfl⟩ := List.mem_map.1 hv
    exact (x.2.2.2 u hu).2) (fun x y => cf x.1 y.1) hO g #[] B 0 c d w (fun args w => run_callFunc hg) hcmp hH hblt (by
     rw [hds]; omega)
   rw [hds] at hcon
   refine hcon.mono ?_
   rintro e' w' ⟨rfl, d', q, os, ⟨hps, _, hpp⟩, hsrt, rfl⟩
   have hd' : d'.size = n := by rw [hps, hds]
   have hl' : (d'.toList.map (fun x : SEl w S k p => x.1)).length = rows.length := by simp [hd', hn]
   have hfs : ∀ F : Array Value, ((putCells id 0 F) cs).size = cs.size := fun F => by simp [putCells]
   obtain ⟨h1, h2⟩ := sort_back (n := q) (os := os) (f := putCells id 0 (flatK SEl.enc k d')) (rows' := d'.toList.map (fun x : SEl w S k p => x.1)) hR hB hh (by rw [hfs, hcs]) hmx (by rw [hl']; exact hl) (fun row hr => by
       obtain ⟨x, _, rfl⟩ := List.mem_map.1 hr
       exact ⟨x.2.1, x.2.2.2⟩) (fun i j row u hi hj => by
       rw [List.getElem?_map] at hi
       cases hx : d'.toList[i]? with
       | none => rw [hx] at hi; cases hi
       | some x =>
        rw [hx] at hi
        simp only [Option.map_some, Option.some.injEq] at hi
        subst hi
        have hi2 : i < d'.size := by
         rw [Array.getElem?_toList] at hx
         rcases Nat.lt_or_ge i d'.size with h | h
         ·exact h
         ·rw [Array.getElem?_eq_none h] at hx; cases hx
        have hj2 : j < k := by
         rcases Nat.lt_or_ge j x.1.length with h | h
         ·rw [← x.2.1]; exact h
         ·rw [List.getElem?_eq_none h] at hj; cases hj
        have hlt : i * k + j < d'.size * k := by
         have := Nat.mul_le_mul_right k (show i + 1 ≤ d'.size from hi2); rw [Nat.add_mul, Nat.one_mul] at this; omega
        have hlt2 : i * k + j < cs.size := by
         rw [hcs]; exact Nat.lt_of_lt_of_le hlt (Nat.mul_le_mul_right k (by rw [hd']; exact hcap))
        have e1 : (i * k + j) / k = i := (blk_iff k i _ (by omega)).1 ⟨by omega, by omega⟩
        have e2 : (i * k + j) % k = j := by rw [Nat.mod_eq_sub_div_mul, e1]; omega
        simp only [putCells, Array.getElem?_mapIdx, Array.getElem?_eq_getElem hlt2, Option.map_some]
        rw [if_pos ⟨Nat.zero_le _, by rw [size_flatK]; omega⟩, Nat.sub_zero, get_flatK _ _ _ _ hlt, e1, e2]
        have hxe : d'[i]! = x := by
         rw [getElem!_pos d' i hi2]
         rw [Array.getElem?_toList, Array.getElem?_eq_getElem hi2] at hx
         injection hx
        rw [hxe]
        have : x.enc[j]? = some u.den := by rw [SEl.enc, List.getElem?_map, hj]; rfl
        rw [getElem!_pos _ _ (by rw [hlen]; exact hj2)]
        rw [List.getElem?_eq_getElem (by rw [hlen]; exact hj2)] at this
        injection this with this
        simp [this])
   refine sort_fin hR h1 h2 ⟨_, rfl, rfl, ?_, ?_⟩
   ·have h3 : d'.toList.Perm d.toList := by
     have a1 : d'.extract 0 n = d' := by rw [← hd']; simp
     have a2 : d.extract 0 n = d := by rw [← hds]; simp
     rw [a1, a2] at hpp; exact hpp
    have h4 := h3.map (fun x : SEl w S k p => x.1)
    have h5 : d.toList.map (fun x : SEl w S k p => x.1) = rows := by
     refine List.ext_getElem (by simp [d]) fun i h1 h2 => ?_
     simp [d]
    rwa [h5] at h4
   ·rw [List.pairwise_map, List.pairwise_iff_getElem]
    intro i j hi hj hij
    have hi' : i < d'.size := by simpa using hi
    have hj' : j < d'.size := by simpa using hj
    have := hsrt i j (Nat.zero_le _) hij (by rw [← hd']; exact hj')
    rw [getElem!_pos d' i hi', getElem!_pos d' j hj'] at this
    simpa [ltOf] using this

end Go.Proofs.YtlblimbelfenaaaGreat

/- The library's contracts of sorting lie at this program. -/
namespace Go.Proofs.YtlblimbelfenaaaGreat
open Go Go.Shelf
set_option maxRecDepth 100000
def sortSideL_ren : Go.Shelf.Ren := ⟨fun | 6 => 72 | 15 => 129 | 14 => 128 | 28 => 174 | 29 => 175 | 20 => 166 | 21 => 167 | 22 => 168 | 23 => 169 | 24 => 170 | 25 => 171 | 26 => 172 | 27 => 173 | 46 => 215 | 47 => 216 | 48 => 217 | 49 => 218 | 50 => 219 | 57 => 247 | n => n, fun | 22 => 57 | 24 => 70 | 25 => 121 | 3 => 3 | 39 => 179 | 0 => 0 | 53 => 220 | 55 => 222 | 4 => 4 | 46 => 213 | 45 => 212 | 50 => 217 | 5 => 5 | 9 => 9 | 66 => 247 | 70 => 251 | 76 => 270 | 77 => 42 | n => n, fun | n => n⟩
theorem sortSideL : Go.Proofs.SlLaysF0.n6 Tryz.prog sortSideL_ren := {
 mixed := by kernel_rfl
 f6 := ⟨Tryz.f72.name, by decide, Tryz.func72.trans (congrArg some (by kernel_rfl))⟩
 f14 := ⟨Tryz.f128.name, by decide, Tryz.func128.trans (congrArg some (by kernel_rfl))⟩
 f15 := Tryz.func129.trans (congrArg some (by kernel_rfl))
 f20 := ⟨Tryz.f166.name, by decide, Tryz.func166.trans (congrArg some (by kernel_rfl))⟩
 f21 := ⟨Tryz.f167.name, by decide, Tryz.func167.trans (congrArg some (by kernel_rfl))⟩
 f22 := ⟨Tryz.f168.name, by decide, Tryz.func168.trans (congrArg some (by kernel_rfl))⟩
 f23 := ⟨Tryz.f169.name, by decide, Tryz.func169.trans (congrArg some (by kernel_rfl))⟩
 f24 := ⟨Tryz.f170.name, by decide, Tryz.func170.trans (congrArg some (by kernel_rfl))⟩
 f25 := ⟨Tryz.f171.name, by decide, Tryz.func171.trans (congrArg some (by kernel_rfl))⟩
 f26 := ⟨Tryz.f172.name, by decide, Tryz.func172.trans (congrArg some (by kernel_rfl))⟩
 f27 := ⟨Tryz.f173.name, by decide, Tryz.func173.trans (congrArg some (by kernel_rfl))⟩
 f28 := Tryz.func174.trans (congrArg some (by kernel_rfl))
 f29 := Tryz.func175.trans (congrArg some (by kernel_rfl))
 f46 := ⟨Tryz.f215.name, by decide, Tryz.func215.trans (congrArg some (by kernel_rfl))⟩
 f47 := Tryz.func216.trans (congrArg some (by kernel_rfl))
 f48 := Tryz.func217.trans (congrArg some (by kernel_rfl))
 f49 := ⟨Tryz.f218.name, by decide, Tryz.func218.trans (congrArg some (by kernel_rfl))⟩
 f50 := ⟨Tryz.f219.name, by decide, Tryz.func219.trans (congrArg some (by kernel_rfl))⟩
 f57 := ⟨Tryz.f247.name, by decide, Tryz.func247.trans (congrArg some (by kernel_rfl))⟩
 t0 := Tryz.underlying0
 a0 := Tryz.isAgg0
 z0 := Tryz.sizeOf0
 v0 := Tryz.zeroValue0
 t3 := Tryz.underlying3
 a3 := Tryz.isAgg3
 z3 := Tryz.sizeOf3
 v3 := Tryz.zeroValue3
 t4 := Tryz.underlying4
 a4 := Tryz.isAgg4
 z4 := Tryz.sizeOf4
 v4 := Tryz.zeroValue4
 t5 := Tryz.underlying5
 a5 := Tryz.isAgg5
 z5 := Tryz.sizeOf5
 v5 := Tryz.zeroValue5
 t9 := Tryz.underlying9
 a9 := Tryz.isAgg9
 z9 := Tryz.sizeOf9
 v9 := Tryz.zeroValue9
 t22 := Tryz.underlying57
 a22 := Tryz.isAgg57
 z22 := Tryz.sizeOf57
 v22 := Tryz.zeroValue57
 t25 := Tryz.underlying121
 a25 := Tryz.isAgg121
 z25 := Tryz.sizeOf121
 v25 := Tryz.zeroValue121
 t39 := Tryz.underlying179
 a39 := Tryz.isAgg179
 z39 := Tryz.sizeOf179
 v39 := Tryz.zeroValue179
 t45 := Tryz.underlying212
 a45 := Tryz.isAgg212
 z45 := Tryz.sizeOf212
 v45 := Tryz.zeroValue212
 t46 := Tryz.underlying213
 a46 := Tryz.isAgg213
 z46 := Tryz.sizeOf213
 v46 := Tryz.zeroValue213
 t50 := Tryz.underlying217
 a50 := Tryz.isAgg217
 z50 := Tryz.sizeOf217
 v50 := Tryz.zeroValue217
 t53 := Tryz.underlying220
 a53 := Tryz.isAgg220
 z53 := Tryz.sizeOf220
 v53 := Tryz.zeroValue220
 t55 := Tryz.underlying222
 a55 := Tryz.isAgg222
 z55 := Tryz.sizeOf222
 v55 := Tryz.zeroValue222
 t66 := Tryz.underlying247
 a66 := Tryz.isAgg247
 z66 := Tryz.sizeOf247
 v66 := Tryz.zeroValue247
 t70 := Tryz.underlying251
 a70 := Tryz.isAgg251
 z70 := Tryz.sizeOf251
 v70 := Tryz.zeroValue251
 t76 := Tryz.underlying270
 a76 := Tryz.isAgg270
 z76 := Tryz.sizeOf270
 v76 := Tryz.zeroValue270
 t77 := Tryz.underlying42
 a77 := Tryz.isAgg42
 z77 := Tryz.sizeOf42
 v77 := Tryz.zeroValue42 }
end Go.Proofs.YtlblimbelfenaaaGreat

/- Levels: the program's and the reference's, by value. -/
-- NEWM
namespace Go.Proofs.YtlblimbelfenaaaGreat
open Go Go.RowKit
set_option maxRecDepth 100000
end Go.Proofs.YtlblimbelfenaaaGreat

/- How thick layers can be: slants and thickness, by value. -/
-- NEWM
namespace Go.Proofs.YtlblimbelfenaaaGreat
open Go Go.RowKit
set_option maxRecDepth 100000
abbrev Slnt.row (s : Slnt) : List CV := [I s.low, I s.high, I s.most]
end Go.Proofs.YtlblimbelfenaaaGreat

/- Slants of a mesh, by value. -/
namespace Go.Proofs.YtlblimbelfenaaaGreat
open Go Go.RowKit
set_option maxRecDepth 100000
end Go.Proofs.YtlblimbelfenaaaGreat
