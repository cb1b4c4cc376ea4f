/- Rings of a plane and their doubled area, by value. -/
import Derived.Test.YtlblimbelfenaaaGreatQbj
import Derived.Lib.Overlaps
import Derived.Lib.AppendZeros
import Derived.Lib.AppendZerosOnto
import Derived.Test.YtlblimbelfenaaaGreatQao
import Derived.Tactics
import Derived.Test.YtlblimbelfenaaaGreatQbg
import Derived.Test.YtlblimbelfenaaaGreatQbi
set_option linter.unusedSimpArgs false
set_option linter.unusedVariables false
/- append of zeros to no rows, where there is no room; slices.overlaps of two blocks of the call's own. -/
namespace Go.Proofs.YtlblimbelfenaaaGreat
open Go Go.RowKit
section
variable {P : Program} {N : Nat} {E : Env} {F : Fm} {H : List OB} {o : Oper} {S : Nat → Prop} {ρ : List (Option Nat)} {a : Act} {w : World}
theorem run_app_zeros (w : World) (t tn ty e : TypeId) (i : TypeInfo) (z : Value) (k kn : IntKind) (ht : P.underlying t = some (.slice e)) (htn : P.underlying tn = some (.int kn)) (hi : P.info? e = some i) (hz : i.zero = some z)
    (A : Option Addr) (c n : Nat) (h0 : c < n) (hs : 0 < i.size) (h63 : (n : Int) ≤ 9223372036854775807) (h48 : 2 * n * i.bytes ≤ 281474976710656) :
    (Builtin.append_ #[t, tn] ty #[.slice A 0 c, .int k n]).run P w =
     .ok (.slice (some ⟨w.heap.size, 0, none⟩) n (grownCap w n c e)) (w.drew.alloc (.cells (Builtin.zeroCells z.cells n ++ Builtin.zeroCells z.cells (grownCap w n c e - n)) e)) := by
 have hn : n ≠ 0 := by omega
 have hw : IntKind.i64.wrap (n : Int) = n := by rw [IntKind.wrap_i64]; omega
 have h63' : ¬ (9223372036854775807 < (n : Int)) := by omega
 have hle := nextslicecap_le h0
 have h48' : ¬ (281474976710656 < Builtin.nextslicecap n c * i.bytes) := by
  have : Builtin.nextslicecap n c * i.bytes ≤ 2 * n * i.bytes := Nat.mul_le_mul_right _ hle
  omega
 have h48i : ¬ (281474976710656 < (n : Int) * (i.bytes : Int)) := by
  rw [← Int.natCast_mul]
  have : n * i.bytes ≤ 2 * n * i.bytes := Nat.mul_le_mul_right _ (by omega)
  omega
 have hneg : ¬ ((n : Int) < 0) := by omega
 have hns : ¬ (n * i.size = 0) := Nat.mul_ne_zero hn (by omega)
 have hroom : ¬ n ≤ c := by omega
 have hf : ∀ w, (Builtin.firstCells i.size 0 (.slice A 0 c)).run P w = .ok #[] w := fun w => by
  cases A with
  | none => exact run_firstCells_none w _ _ _ _
  | some q => exact run_firstCells_some w i.size 0 q 0 c [] (by simp) (fun j v h => by simp at h)
 simp [Builtin.append_, run_underlying ht, run_underlying htn, sizeOf, typeInfo, zeroValue, hi, hz, asInt, asIntOf, hw, hn, hneg, hns, h63', h48', h48i, hroom, Question.forced, hf, newRow, grownCap]
theorem ef_appz {t tn e : TypeId} {sz d b k c cap n : Nat} {kx kn : IntKind} {zi : Int} {s x : Operand} {z : Value} {vs : List Value} {rows : List (List CV)} (ho : o.op = .call { callee := .builtin .append, args := #[s, x], argTypes := #[t, tn] }) (hd : o.dst = some d) (hN : d < N)
    (hE : ElemTy P t e sz) (htn : P.underlying tn = some (.int kn)) (hs : ev F s = some (.o b k 0 c)) (hH : H[b]? = some (.arr e sz cap rows)) (hx : ev F x = some (.c (.s (.int kx zi)))) (hzi : zi = n) (hn : c < n) (hle : n ≤ 1000000000)
    (hz : (P.info? e).bind (·.zero) = some z) (hvs : z.cells = vs.toArray) (h1 : vs.all Value.oneCell' = true) :
    Ef P N E o F H fun F' H' => ∃ c2, n ≤ c2 ∧ F' = (d, .o H.length 0 n c2) :: F ∧ H' = H ++ [.arr e sz c2 (List.replicate n (vs.map cvOf))] := fun S ρ a w hR => by
 subst hzi
 obtain ⟨g1, _⟩ := hR.ev hs
 obtain ⟨g3, _⟩ := hR.ev hx
 obtain ⟨inf, z', hi, hz', hsz, hby, hzs⟩ := hE.hi
 obtain rfl : z' = z := by rw [hi] at hz; simp only [Option.bind_some] at hz; rw [hz'] at hz; exact Option.some.inj hz
 have hrun := run_app_zeros (P := P) w t tn o.type e inf z' kx kn hE.ht htn hi hz' ((AV.o b k 0 c).den ρ H |> fun v => match v with | .slice A _ _ => A | _ => none) c n hn (by rw [hsz]; exact hE.hsz) (by omega) (by
  have : 2 * n * inf.bytes ≤ 2 * n * 256 := Nat.mul_le_mul_left _ hby
  omega)
 have hge := grownCap_ge w n c e
 have hcm : grownCap w n c e ≤ maxLen := grownCap_le_maxLen w n c e (by simp only [maxLen]; omega)
 have hvl : vs.length = sz := by rw [← hzs, hvs]; simp
 unfold effO
 have hex : (execOp a.eval o).run P w = .ok (.value (.slice (some ⟨w.heap.size, 0, none⟩) n (grownCap w n c e))) (w.drew.alloc (.cells (Builtin.zeroCells z'.cells n ++ Builtin.zeroCells z'.cells (grownCap w n c e - n)) e)) := by
  unfold execOp
  simp only [AV.den, CV.den] at g1 g3 hrun
  simp only [ho, resolve, invoke, builtin, Sem.run_bind, Sem.run_pure, Result.andThen_ok, List.map_toArray, List.map_cons, List.map_nil, g1, g3, hrun]
 rw [hex]
 have hR2 := hR.drew
 have hob : OwnB (w.drew.alloc (.cells (Builtin.zeroCells z'.cells n ++ Builtin.zeroCells z'.cells (grownCap w n c e - n)) e)) S (ρ ++ [some w.drew.heap.size]) (H ++ [.arr e sz (grownCap w n c e) (List.replicate n (vs.map cvOf))]) (.arr e sz (grownCap w n c e) (List.replicate n (vs.map cvOf))) (some w.drew.heap.size) := by
  refine .inr ⟨_, _, rfl, heap_new _ _, ?_, hcm, by simpa using hge, fun row hrow => ?_, fun k' j row u hk hj => ?_⟩
  ·simp only [Array.size_append, size_zeroCells, hzs, ← Nat.add_mul]
   congr 1; omega
  ·have := List.eq_of_mem_replicate hrow
   subst this
   refine ⟨by simp [hvl], fun u hu => ?_⟩
   obtain ⟨v, hv, rfl⟩ := List.mem_map.1 hu
   exact ⟨cvOf_good _ _ _, by rw [cvOf_den]; exact List.all_eq_true.1 h1 v hv⟩
  ·rw [List.getElem?_replicate] at hk
   split at hk
   ·rename_i hkc
    injection hk with hk
    subst hk
    rw [List.getElem?_map] at hj
    cases hv : vs[j]? with
    | none => rw [hv] at hj; cases hj
    | some v =>
     rw [hv] at hj
     simp only [Option.map_some, Option.some.injEq] at hj
     subst hj
     have hjl : j < sz := by rw [← hvl]; exact (List.getElem?_eq_some_iff.1 hv).1
     have hlt : k' * sz + j < n * sz := by
      have : (k' + 1) * sz ≤ n * sz := Nat.mul_le_mul_right sz hkc
      rw [Nat.add_mul] at this
      omega
     rw [cvOf_den, Array.getElem?_append, if_pos (by rw [size_zeroCells, hzs]; exact hlt)]
     have hlt' : k' * sz + j < n * z'.cells.size := by rw [hzs]; exact hlt
     simp only [Builtin.zeroCells, Array.getElem?_map, Array.getElem?_range, hlt', if_true, Option.map_some]
     rw [hzs, show (k' * sz + j) % sz = j from by rw [Nat.add_comm, Nat.add_mul_mod_self_right, Nat.mod_eq_of_lt hjl]]
     congr 1
     have : z'.cells[j]? = some v := by rw [hvs]; simpa using hv
     rw [getElem!_def, this]
   ·cases hk
 have hR3 := hR2.new _ e _ hob
 refine ⟨S, ρ ++ [some w.drew.heap.size], _, _, ⟨grownCap w n c e, hge, rfl, rfl⟩, ?_⟩
 rw [hd]
 have := hR3.put hN (wf_snoc_o hR2.hp (ob := .arr e sz (grownCap w n c e) (List.replicate n (vs.map cvOf))) (n := n) (c := grownCap w n c e) hge (Nat.le_refl _))
 rw [den_snoc_o hR2.hp] at this
 exact this
end
end Go.Proofs.YtlblimbelfenaaaGreat

/- append of zeros behind some rows, where there is no room. -/
namespace Go.Proofs.YtlblimbelfenaaaGreat
open Go Go.RowKit
section
variable {P : Program} {N : Nat} {E : Env} {F : Fm} {H : List OB} {o : Oper} {S : Nat → Prop} {ρ : List (Option Nat)} {a : Act} {w : World}
end
end Go.Proofs.YtlblimbelfenaaaGreat

/- Texts for the functions of package slices, at any type of elements; what they do to rows. -/
namespace Go.Proofs.YtlblimbelfenaaaGreat
open Go Go.RowKit
def OkR (sz : Nat) (R : List (List CV)) : Prop := ∀ row ∈ R, row.length = sz ∧ ∀ u ∈ row, u.one = true
section
variable {β : Type} {r : List β} {y z : β} {i : Nat}
end
end Go.Proofs.YtlblimbelfenaaaGreat

/- Plain law: whole roots; the greatest speeds that keep the limits, made in two passes, and what makes them the only ones. -/
namespace Go.Proofs.YtlblimbelfenaaaGreat
structure Leg where
 long : Int
 limit : Int
def capL (l : List Leg) (cs : List Int) (j : Nat) : Int := if j = 0 ∨ l.length ≤ j then 0 else min (min (cs.getD (j - 1) 0) (l.getD (j - 1) ⟨0, 0⟩).limit) (l.getD j ⟨0, 0⟩).limit
def Leg.good (x : Leg) : Prop := 1 ≤ x.long ∧ x.long ≤ 200000 ∧ 1 ≤ x.limit ∧ x.limit ≤ 100000
structure Right (l : List Leg) (cs : List Int) : Prop where
 ne : 1 ≤ l.length
 le : l.length ≤ 2000
 legs : ∀ x ∈ l, x.good
 len : cs.length + 1 = l.length
 cor : ∀ z ∈ cs, 0 ≤ z ∧ z ≤ 100000
theorem getD_mem {α : Type} {l : List α} {i : Nat} {z : α} (h : i < l.length) : l.getD i z ∈ l := by
 rw [List.getD_eq_getElem?_getD, List.getElem?_eq_getElem h]; exact List.getElem_mem h
theorem Right.leg {l : List Leg} {cs : List Int} (h : Right l cs) {i : Nat} (hi : i < l.length) : (l.getD i ⟨0, 0⟩).good := h.legs _ (getD_mem hi)
theorem Right.cap {l : List Leg} {cs : List Int} (h : Right l cs) (i : Nat) : 0 ≤ capL l cs i ∧ capL l cs i ≤ 100000 := by
 unfold capL
 split
 ·omega
 ·rename_i hi
  have h1 := h.leg (i := i - 1) (by omega)
  have h2 := h.leg (i := i) (by omega)
  have h3 := h.cor _ (getD_mem (l := cs) (i := i - 1) (z := 0) (by have := h.len; omega))
  unfold Leg.good at h1 h2
  omega
end Go.Proofs.YtlblimbelfenaaaGreat

/- Faults of legs, corners and changes of speed, of the program and of its document, by value. -/
namespace Go.Proofs.YtlblimbelfenaaaGreat
open Go Go.RowKit
set_option maxRecDepth 100000
abbrev Leg.row (s : Leg) : List CV := [I s.long, I s.limit]
end Go.Proofs.YtlblimbelfenaaaGreat

/- Whole roots, what a leg lets one reach, peaks and what a leg takes, of the program and of its document, by value. -/
namespace Go.Proofs.YtlblimbelfenaaaGreat
open Go Go.RowKit
set_option maxRecDepth 100000
section
variable {P : Program} {N : Nat} {E : Env} {F : Fm} {H : List OB} {o : Oper} {t yt : TypeId} {x y : Operand} {m n z : Int}
end
end Go.Proofs.YtlblimbelfenaaaGreat

/- slices.Clone, Reverse, by value; places of paths; searches of places. -/
namespace Go.Proofs.YtlblimbelfenaaaGreat
open Go Go.RowKit
set_option maxRecDepth 100000
theorem okR_map {α : Type} {f : α → List CV} {sz : Nat} (h : ∀ x, (f x).length = sz ∧ ∀ u ∈ f x, u.one = true) (l : List α) : OkR sz (l.map f) := fun row hr => by
 obtain ⟨x, -, rfl⟩ := List.mem_map.1 hr
 exact h x
def SwK {α : Type} (l : List α) (k : Nat) (l' : List α) : Prop := l'.length = l.length ∧ ∀ m, m < l.length → l'[m]? = if m < k ∨ l.length - 1 - m < k then l[l.length - 1 - m]? else l[m]?
theorem SwK.zero {α : Type} (l : List α) : SwK l 0 l := ⟨rfl, fun m hm => by rw [if_neg (by omega)]⟩
theorem SwK.next {α : Type} {l l' : List α} {k j : Nat} {x y : α} (h : SwK l k l') (hj : k + j + 1 = l.length) (hkj : k < j) (hx : l'[k]? = some x) (hy : l'[j]? = some y) : SwK l (k + 1) ((l'.set k y).set j x) := by
 obtain ⟨h1, h2⟩ := h
 have ek := h2 k (by omega)
 have ej := h2 j (by omega)
 rw [if_neg (by omega), hx] at ek
 rw [if_neg (by omega), hy] at ej
 refine ⟨by simp [h1], fun m hm => ?_⟩
 rw [List.getElem?_set, List.getElem?_set]
 by_cases hmj : j = m
 ·subst hmj
  rw [if_pos rfl, if_pos (by simp; omega), if_pos (by omega), show l.length - 1 - j = k from by omega, ← ek]
 ·rw [if_neg hmj]
  by_cases hmk : k = m
  ·subst hmk
   rw [if_pos rfl, if_pos (by omega), if_pos (by omega), show l.length - 1 - k = j from by omega, ← ej]
  ·rw [if_neg hmk, h2 m hm]
   by_cases hc : m < k ∨ l.length - 1 - m < k
   ·rw [if_pos hc, if_pos (by omega)]
   ·rw [if_neg hc, if_neg (by omega)]
end Go.Proofs.YtlblimbelfenaaaGreat

/- slices.Grow of nil and slices.Concat, by value. -/
namespace Go.Proofs.YtlblimbelfenaaaGreat
open Go Go.RowKit
set_option maxRecDepth 100000
def catR (ps : List (Value × List (List CV))) : List (List CV) := ps.flatMap (·.2)
theorem catR_next {ps : List (Value × List (List CV))} {k : Nat} {p : Value × List (List CV)} (h : ps[k]? = some p) : catR (ps.take (k + 1)) = catR (ps.take k) ++ p.2 := by
 rw [catR, List.take_add_one, h, List.flatMap_append]; simp [catR]
theorem catR_le {ps : List (Value × List (List CV))} (k : Nat) : (catR (ps.take k)).length ≤ (catR ps).length := by
 conv => rhs; rw [← List.take_append_drop k ps]
 rw [catR, catR, List.flatMap_append, List.length_append]; omega
theorem catR_part {ps : List (Value × List (List CV))} {k : Nat} {p : Value × List (List CV)} (h : ps[k]? = some p) : (catR (ps.take k)).length + p.2.length ≤ (catR ps).length := by
 have := catR_le (ps := ps) (k + 1)
 rw [catR_next h, List.length_append] at this
 exact this
end Go.Proofs.YtlblimbelfenaaaGreat

/- slices.Concat of rings, by value. -/
namespace Go.Proofs.YtlblimbelfenaaaGreat
open Go Go.RowKit
set_option maxRecDepth 100000
theorem growR_a (n : Nat) (hn : n ≤ 1000000) : ACalls Tryz.prog 159 [.c (.r (.slice none 0 0) []), .c (I n)] [] fun u H => ∃ (c : Nat) (rows : List (List CV)), n ≤ c ∧ u = .o 0 0 0 c ∧ H = [.arr 119 2 c rows] := by
 refine acalls_of (N := 27) Tryz.func159 rfl rfl (by simp) fun E hE => ?_
 refine aw_wk (wk_of (K := fun F H => F = [(0, .o 0 0 0 0), (1, .c (I n))] ∧ H = [.arr 119 2 0 []]) [none] (fun _ => [(0, .o 0 0 0 0), (1, .c (I n))]) (fun _ => [.arr 119 2 0 []]) (by decide) (ZNL hE) ZCF ZCH (fun _ => ⟨rfl, rfl⟩)) ?_
 rintro F H ⟨rfl, rfl⟩
 refine WA ?_
 refine WA ?_
 refine aw_cond_f rfl ?_
 refine ZZ ?_
 rcases Nat.eq_zero_or_pos n with h0 | hp
 ·refine WA ?_
  refine WA ?_
  refine aw_cond_f rfl ?_
  refine ZZ ?_
  refine WA ?_
  exact aret_o [some 0] (fun _ => [.arr 119 2 0 []]) rfl rfl rfl rfl rfl (by decide) (ZNK rfl) ZCH (fun _ => ⟨0, [], by omega, rfl, rfl⟩)
 ·refine WA ?_
  refine WA ?_
  refine aw_cond_t rfl ?_
  refine ZR ?_
  iterate 3 refine WX1 ?_
  refine ZA (rd_slicee (l := 0) (h := 0) rfl (KE (t := 107) rfl) rfl rfl (.inl ⟨rfl, rfl⟩) (.inr ⟨_, _, _, rfl, rfl, rfl⟩) rfl rfl) ?_
  refine WO ?_
  refine al_ef rfl (ef_appz (n := n) rfl rfl (by decide) (KA (t := 107) rfl) Tryz.underlying3 rfl rfl rfl (by omega) (by omega) (by omega) (KZ (t := 119) rfl) rfl rfl) ?_
  rintro _ _ ⟨c2, hc2, rfl, rfl⟩
  iterate 2 refine WX1 ?_
  refine ZA (rd_slice (l := 0) (h := 0) rfl (KE (t := 107) rfl) rfl rfl (.inl ⟨rfl, rfl⟩) (.inr ⟨_, _, _, rfl, rfl, rfl⟩) (by omega) (by omega) (by omega)) ?_
  refine WE ?_
  refine WA ?_
  exact aret_o [some 1] (fun _ => [.arr 119 2 c2 (List.replicate n [I 0, I 0])]) rfl rfl rfl rfl rfl (by decide) (ZNK rfl) ZCH (fun _ => ⟨c2, _, by omega, rfl, rfl⟩)
theorem concatR_a (ps : List (Value × List (List CV))) (v : Value) (hR : ∀ p ∈ ps, OkR 2 p.2) (h1 : 1 ≤ ps.length) (hl : ps.length ≤ 1000) (hn : (catR ps).length ≤ 1000000) :
    ACalls Tryz.prog 120 [.c (.r v (ps.map fun p => [.r p.1 p.2]))] [] fun u H => ∃ (c : Nat), (catR ps).length ≤ c ∧ u = .o 0 0 (catR ps).length c ∧ H = [.arr 119 2 c (catR ps)] := by
 have e1 : (ps.map fun p => [CV.r p.1 p.2]).length = ps.length := by simp
 refine acalls_of (N := 36) Tryz.func120 rfl rfl (by simp) fun E hE => ?_
 refine WA ?_
 refine WA ?_
 refine WA ?_
 refine aw_loopw (fun m F H => ∃ (k : Nat), m + k = ps.length ∧ F = [(0, .c (.r v (ps.map fun p => [.r p.1 p.2]))), (3, .c (I (catR (ps.take k)).length)), (9, .c (.r v (ps.map fun p => [.r p.1 p.2]))), (10, .c (I (ps.map fun p => [CV.r p.1 p.2]).length)), (11, .c (I k))] ∧ H = []) ?_ ?_
 ·refine wk_of [] (fun _ => [(0, .c (.r v (ps.map fun p => [.r p.1 p.2]))), (3, .c (I (catR (ps.take 0)).length)), (9, .c (.r v (ps.map fun p => [.r p.1 p.2]))), (10, .c (I (ps.map fun p => [CV.r p.1 p.2]).length)), (11, .c (I (0 : Nat)))]) (fun _ => _) (by decide) (ZNL hE) ZCF (fun _ => .nil) (fun _ => ?_)
  exact ⟨ps.length, 0, by omega, rfl, rfl⟩
 ·rintro m F H ⟨k, hk, rfl, rfl⟩
  refine WA ?_
  refine aw_if rfl (fun hlt => ?_) (fun hge => ?_)
  ·obtain ⟨p, hp⟩ : ∃ p, ps[k]? = some p := ⟨_, List.getElem?_eq_getElem (by omega)⟩
   have hrow : (ps.map fun p => [CV.r p.1 p.2])[k]? = some [.r p.1 p.2] := by rw [List.getElem?_map, hp]; rfl
   have hpl := catR_part hp
   refine WA ?_
   refine WA ?_
   refine WA ?_
   refine aw_cond_f rfl ?_
   refine ZZ ?_
   refine WA ?_
   refine wk_of [] (fun _ => [(0, .c (.r v (ps.map fun p => [.r p.1 p.2]))), (3, .c (I (((catR (ps.take k)).length : Int) + p.2.length))), (9, .c (.r v (ps.map fun p => [.r p.1 p.2]))), (10, .c (I (ps.map fun p => [CV.r p.1 p.2]).length)), (11, .c (I (k + 1 : Nat)))]) (fun _ => _) (by decide) (ZNL hE) ZCF (fun _ => .nil) (fun _ => ?_)
   exact ⟨m - 1, by omega, k + 1, by omega, by rw [catR_next hp, List.length_append]; rfl, rfl⟩
  obtain rfl : k = ps.length := by omega
  refine ZZ ?_
  have e3 : ((catR (ps.take ps.length)).length : Int) = (catR ps).length := by rw [List.take_length]
  refine aw_wk (wk_of (K := fun F H => F = [(0, .c (.r v (ps.map fun p => [.r p.1 p.2]))), (3, .c (I (catR ps).length))] ∧ H = []) [] (fun _ => [(0, .c (.r v (ps.map fun p => [.r p.1 p.2]))), (3, .c (I (catR ps).length))]) (fun _ => _) (by decide) (ZNL hE) (fun _ => .cons rfl (.c rfl) (.cons rfl (.c (by rw [e3])) .nil)) (fun _ => .nil) (fun _ => ⟨rfl, rfl⟩)) ?_
  rintro F H ⟨rfl, rfl⟩
  refine WR ?_
  refine al_ef rfl (ef_call0 false (fun _ => growR_a (catR ps).length (by omega)) rfl .fn rfl (by decide) (by kernel_rfl) rfl (fun _ => C0 rfl) (by simp)) ?_
  rintro _ _ ⟨_, _, _, ⟨c, rows, hc, rfl, rfl⟩, hF, hH⟩
  (refine NST hF hH ?_; clear hF hH; rintro rfl rfl)
  refine WE ?_
  refine WA ?_
  refine aw_loopw (fun m F H => ∃ (k c : Nat) (rows : List (List CV)), m + k = ps.length ∧ (catR (ps.take k)).length ≤ c ∧ (catR ps).length ≤ c ∧ (catR (ps.take k)).length ≤ rows.length ∧ rows.take (catR (ps.take k)).length = catR (ps.take k) ∧ (1 ≤ k → rows = catR (ps.take k)) ∧ F = [(6, .o 0 0 (catR (ps.take k)).length c), (25, .c (.r v (ps.map fun p => [.r p.1 p.2]))), (26, .c (I (ps.map fun p => [CV.r p.1 p.2]).length)), (27, .c (I k))] ∧ H = [.arr 119 2 c rows]) ?_ ?_
  ·refine wk_of [some 0] (fun _ => [(6, .o 0 0 (catR (ps.take 0)).length c), (25, .c (.r v (ps.map fun p => [.r p.1 p.2]))), (26, .c (I (ps.map fun p => [CV.r p.1 p.2]).length)), (27, .c (I (0 : Nat)))]) (fun _ => _) (by decide) (ZNL hE) ZCF ZCH (fun _ => ?_)
   exact ⟨ps.length, 0, c, rows, by omega, by simp [catR], hc, by simp [catR], by simp [catR], by omega, rfl, rfl⟩
  rintro m F H ⟨k, c, rows, hk, hc1, hc, hq, hrt, hre, rfl, rfl⟩
  refine WA ?_
  refine aw_if rfl (fun hlt => ?_) (fun hge => ?_)
  ·obtain ⟨p, hp⟩ : ∃ p, ps[k]? = some p := ⟨_, List.getElem?_eq_getElem (by omega)⟩
   have hrow : (ps.map fun p => [CV.r p.1 p.2])[k]? = some [.r p.1 p.2] := by rw [List.getElem?_map, hp]; rfl
   have hpl := catR_part hp
   have hnx := catR_next hp
   refine WA ?_
   refine WR ?_
   refine al_ef rfl (ef_appc (b := 0) (n := (catR (ps.take k)).length) (cap := c) (news := p.2) rfl rfl (by decide) (KA (t := 107) rfl) rfl rfl hq rfl (.ro (fun r h => (hR p (List.mem_of_getElem? hp) r h).1) (fun r h => (hR p (List.mem_of_getElem? hp) r h).2)) (by omega)) ?_
   rintro F1 H1 ⟨_, c2, hc2, hcf, hF, hH⟩
   obtain rfl : c = c2 := (hcf (by omega)).symm
   (refine NSU hF hH ?_; clear hF hH; rintro rfl rfl)
   refine WE ?_
   refine WA ?_
   refine wk_of [some 0] (fun _ => [(6, .o 0 0 (catR (ps.take (k + 1))).length _), (25, .c (.r v (ps.map fun p => [.r p.1 p.2]))), (26, .c (I (ps.map fun p => [CV.r p.1 p.2]).length)), (27, .c (I (k + 1 : Nat)))]) (fun _ => _) (by decide) (ZNL hE) (fun _ => .cons rfl (.o rfl (by rw [hnx, List.length_append])) (.cons rfl (.c rfl) (.cons rfl (.c rfl) (.cons rfl (.c (by simp)) .nil)))) ZCH (fun _ => ?_)
   exact ⟨m - 1, by omega, k + 1, _, _, by omega, by rw [hnx, List.length_append]; omega, hc, by rw [hnx, hrt]; simp, by rw [hnx, hrt, List.take_length], fun _ => by rw [hnx, hrt], rfl, rfl⟩
  obtain rfl : k = ps.length := by omega
  obtain rfl : rows = catR ps := by have := hre h1; rwa [List.take_length] at this
  refine ZZ ?_
  refine WA ?_
  exact aret_o [some 0] (fun _ => [.arr 119 2 c (catR ps)]) rfl rfl rfl (by rw [List.take_length]) rfl (by decide) (ZNK rfl) ZCH (fun _ => ⟨c, hc, rfl, rfl⟩)
theorem growR_z : ACalls Tryz.prog 159 [.c (.r (.slice none 0 0) []), .c (I 0)] [] fun u H => ∃ q, u = .c (.r q []) ∧ H = [] := by
 refine acalls_of (N := 27) Tryz.func159 rfl rfl (by simp) fun E hE => ?_
 refine WA ?_
 refine WA ?_
 refine aw_cond_f rfl ?_
 refine ZZ ?_
 refine aw_wk (wk_of (K := fun F H => F = [(0, .o 0 0 0 0), (1, .c (I 0))] ∧ H = [.arr 119 2 0 []]) [none] (fun _ => [(0, .o 0 0 0 0), (1, .c (I 0))]) (fun _ => [.arr 119 2 0 []]) (by decide) (ZNL hE) ZCF ZCH (fun _ => ⟨rfl, rfl⟩)) ?_
 rintro F H ⟨rfl, rfl⟩
 refine WA ?_
 refine WA ?_
 refine aw_cond_f rfl ?_
 refine ZZ ?_
 refine WA ?_
 exact aret_f1 [] _ rfl rfl rfl rfl rfl rfl rfl (by decide) (ZNK rfl) (fun _ => .nil) (fun q => ⟨q, rfl, rfl⟩)
theorem concatR_z (v : Value) : ACalls Tryz.prog 120 [.c (.r v [])] [] fun u H => ∃ q, u = .c (.r q []) ∧ H = [] := by
 refine acalls_of (N := 36) Tryz.func120 rfl rfl (by simp) fun E hE => ?_
 refine WA ?_
 refine WA ?_
 refine WA ?_
 refine aw_loopw (fun m F H => m = 0 ∧ F = [(0, .c (.r v [])), (3, .c (I 0)), (9, .c (.r v [])), (10, .c (I 0)), (11, .c (I 0))] ∧ H = []) ?_ ?_
 ·refine wk_of [] (fun _ => [(0, .c (.r v [])), (3, .c (I 0)), (9, .c (.r v [])), (10, .c (I 0)), (11, .c (I 0))]) (fun _ => []) (by decide) (ZNL hE) ZCF (fun _ => .nil) (fun _ => ?_)
  exact ⟨0, rfl, rfl, rfl⟩
 rintro m F H ⟨rfl, rfl, rfl⟩
 refine WA ?_
 refine aw_cond_f rfl ?_
 refine ZZ ?_
 refine WR ?_
 refine al_ef rfl (ef_call0 false (fun _ => growR_z) rfl .fn rfl (by decide) (by kernel_rfl) rfl (fun _ => C0 rfl) (by simp)) ?_
 rintro _ _ ⟨_, _, _, ⟨qg, rfl, rfl⟩, hF, hH⟩
 (refine NST hF hH ?_; clear hF hH; rintro rfl rfl)
 refine WE ?_
 refine WA ?_
 refine aw_loopw (fun m F H => m = 0 ∧ F = [(6, .c (.r qg [])), (25, .c (.r v [])), (26, .c (I 0)), (27, .c (I 0))] ∧ H = []) ?_ ?_
 ·refine wk_of [] (fun _ => [(6, .c (.r qg [])), (25, .c (.r v [])), (26, .c (I 0)), (27, .c (I 0))]) (fun _ => []) (by decide) (ZNL hE) ZCF (fun _ => .nil) (fun _ => ?_)
  exact ⟨0, rfl, rfl, rfl⟩
 rintro m F H ⟨rfl, rfl, rfl⟩
 refine WA ?_
 refine aw_cond_f rfl ?_
 refine ZZ ?_
 refine WA ?_
 exact aret_1 [] _ rfl rfl rfl (by decide) (ZNK rfl) (fun _ => .nil) ⟨_, rfl, rfl⟩
end Go.Proofs.YtlblimbelfenaaaGreat

/- Rings of a plane and their doubled area, by value. -/
-- NEWM
namespace Go.Proofs.YtlblimbelfenaaaGreat
open Go Go.RowKit
set_option maxRecDepth 100000
theorem rgL_ok {V : List Vec3} {Fs : List Fac3} {z : Int} (hM : MOk V Fs) {cs : List Con} (h : IsConts (sgL V Fs z) cs) : (rgL V z cs).length ≤ 1000 ∧ ∀ r ∈ rgL V z cs, r.length ≤ 1001 ∧ ∀ q ∈ r, q.in := by
 have hlf := hM.lf
 have hok := sgL_ok (z := z) hM
 have hSl := sgL_len V Fs z
 have hsm := h.small hok
 constructor
 ·unfold rgL rgs
  refine Nat.le_trans (List.length_filter_le _ _) ?_
  rw [List.length_map]
  refine Nat.le_trans (List.length_filter_le _ _) ?_
  omega
 ·intro r hr
  obtain ⟨k, hk, rfl⟩ := List.mem_map.1 (List.mem_filter.1 hr).1
  have hk := (List.mem_filter.1 hk).1
  have h1 := ring_len V z k.1
  have h2 := (hsm.2 k hk).2
  exact ⟨by omega, ring_in hM (h.cuts hM k hk)⟩
def sumD (rs : List (List P2)) : Int := (rs.map dblF).sum
theorem sumD_next {rs : List (List P2)} {k : Nat} {r : List P2} (h : rs[k]? = some r) : sumD (rs.take (k + 1)) = sumD (rs.take k) + dblF r := by
 unfold sumD
 rw [take_snoc h]; simp
theorem dblF_in {r : List P2} (hl : r.length ≤ 1001) (h : ∀ q ∈ r, q.in) : -100000000000000 ≤ dblF r ∧ dblF r ≤ 100000000000000 := by
 have := dblN_in h r.length (Nat.le_refl _)
 unfold dblF
 omega
def RingsP (V : List Vec3) (Fs : List Fac3) (z e : Int) (rs : List (List P2)) : Prop := (pltF V Fs [z] ≠ 0 → e = pltF V Fs [z] ∧ rs = []) ∧ (pltF V Fs [z] = 0 → ∃ cs, IsConts (sgL V Fs z) cs ∧ e = regF (rgL V z cs) ∧ rs = if regF (rgL V z cs) = 0 then rgL V z cs else [])
def DoubP (V : List Vec3) (Fs : List Fac3) (z d n : Int) : Prop := (pltF V Fs [z] ≠ 0 → d = 0 ∧ n = 0) ∧ (pltF V Fs [z] = 0 → ∃ cs, IsConts (sgL V Fs z) cs ∧ d = sumD (rgL V z cs) ∧ n = lfN V z cs)
theorem ringsof_v (v w : Value) (V : List Vec3) (Fs : List Fac3) (z : Int) (hM : MOk V Fs) (hz : -100000 ≤ z ∧ z ≤ 100000) : ACalls Tryz.prog 56 [mshA v w V Fs, .c (I z)] [] fun u H => ∃ (q : Value) (A : List (Value × List P2)) (cs : List Con), u = .t [.c (.r q (rgR A)), .c (I (regF (rgL V z cs)))] ∧ H = [] ∧ IsConts (sgL V Fs z) cs ∧ A.map Prod.snd = if regF (rgL V z cs) = 0 then rgL V z cs else [] := by
 refine acalls_of (N := 21) Tryz.func56 rfl rfl (by simp) fun E hE => ?_
 refine WA ?_
 refine WR ?_
 refine al_ef rfl (ef_call0 false (fun _ => rings_v v w V Fs z hM hz) rfl .fn rfl (by decide) (by kernel_rfl) rfl (fun _ => C0 rfl) (by simp)) ?_
 rintro _ _ ⟨_, _, _, ⟨q, A, cs, rfl, rfl, hA, hcs⟩, hF, hH⟩
 (refine NST hF hH ?_; clear hF hH; rintro rfl rfl)
 refine WE ?_
 obtain ⟨hl1, hl2⟩ := rgL_ok hM hcs
 have hAe : A.length = (rgL V z cs).length := by rw [← hA, List.length_map]
 have hAl : ∀ p ∈ A, p.2.length ≤ 100000 ∧ ∀ q ∈ p.2, q.in := fun p hp => by
  obtain ⟨h1, h2⟩ := hl2 p.2 (hA ▸ List.mem_map.2 ⟨p, hp, rfl⟩)
  exact ⟨by omega, h2⟩
 refine WR ?_
 refine al_ef rfl (ef_call0 false (fun _ => checkregion_v A q (by omega) hAl) rfl .fn rfl (by decide) (by kernel_rfl) rfl (fun _ => C0 rfl) (by simp)) ?_
 rintro _ _ ⟨_, _, _, ⟨rfl, rfl⟩, hF, hH⟩
 (refine NST hF hH ?_; clear hF hH; rintro rfl rfl)
 refine WE ?_
 rw [hA]
 refine WA ?_
 refine aw_if rfl (fun h0 => ?_) (fun h0 => ?_)
 ·refine WA ?_
  exact aret_2 [] _ rfl rfl rfl rfl rfl (by decide) (ZNK rfl) (fun _ => .nil) ⟨_, [], cs, rfl, rfl, hcs, by rw [if_neg h0]; rfl⟩
 have h0 : regF (rgL V z cs) = 0 := by omega
 refine ZZ ?_
 refine WA ?_
 exact aret_2 [] _ rfl rfl rfl rfl rfl (by decide) (ZNK rfl) (fun _ => .nil) ⟨q, A, cs, by rw [h0], rfl, hcs, by rw [if_pos h0]; exact hA⟩
theorem ringsP_v (v w : Value) (V : List Vec3) (Fs : List Fac3) (z : Int) (hVl : V.length ≤ 1000000) (hFl : Fs.length ≤ 1000000) : ACalls Tryz.prog 10 [mshA v w V Fs, .c (I z)] [] fun u H => ∃ (q : Value) (A : List (Value × List P2)) (e : Int), u = .t [.c (.r q (rgR A)), .c (I e)] ∧ H = [] ∧ RingsP V Fs z e (A.map Prod.snd) := by
 refine acalls_of (N := 19) Tryz.func10 rfl rfl (by simp) fun E hE => ?_
 refine WA ?_
 refine WR ?_
 refine al_ef rfl (ef_call0 true (fun g => sfault_v v w (g (.o 1 0 1 1)) V Fs [z] hVl hFl (by simp)) rfl .fn rfl (by decide) (by kernel_rfl) rfl (fun _ => .cons (.aL (C0 rfl)) (.cons (.frz rfl rfl rfl rfl rfl) .nil)) (fun _ _ _ _ ⟨hu, hH⟩ => by rw [hu, hH]; exact ⟨.c (.inl trivial), by simp⟩)) ?_
 rintro _ _ ⟨_, _, _, ⟨rfl, rfl⟩, hF, hH⟩
 (refine NST hF hH ?_; clear hF hH; rintro rfl rfl)
 refine WE ?_
 refine WA ?_
 refine aw_if rfl (fun h0 => ?_) (fun h0 => ?_)
 ·refine WA ?_
  exact aret_2 [] _ rfl rfl rfl rfl rfl (by decide) (ZNK rfl) (fun _ => .nil) ⟨_, [], _, rfl, rfl, fun _ => ⟨rfl, rfl⟩, fun h => absurd h h0⟩
 obtain ⟨hM, hz⟩ := pltF_ok (show pltF V Fs [z] = 0 by omega)
 refine ZZ ?_
 refine WR ?_
 refine al_ef rfl (ef_call0 false (fun _ => ringsof_v v w V Fs z hM hz) rfl .fn rfl (by decide) (by kernel_rfl) rfl (fun _ => C0 rfl) (by simp)) ?_
 rintro _ _ ⟨_, _, _, ⟨q, A, cs, rfl, rfl, hcs, hA⟩, hF, hH⟩
 (refine NST hF hH ?_; clear hF hH; rintro rfl rfl)
 refine WE ?_
 exact aret_2 [] _ rfl rfl rfl rfl rfl (by decide) (ZNK rfl) (fun _ => .nil) ⟨q, A, _, rfl, rfl, fun h => absurd h h0, fun _ => ⟨cs, hcs, rfl, hA⟩⟩
set_option maxHeartbeats 2000000 in
theorem doubledP_v (v w : Value) (V : List Vec3) (Fs : List Fac3) (z : Int) (hVl : V.length ≤ 1000000) (hFl : Fs.length ≤ 1000000) : ACalls Tryz.prog 11 [mshA v w V Fs, .c (I z)] [] fun u H => ∃ d n : Int, u = .t [.c (I d), .c (I n), .c (I (pltF V Fs [z]))] ∧ H = [] ∧ DoubP V Fs z d n := by
 refine acalls_of (N := 39) Tryz.func11 rfl rfl (by simp) fun E hE => ?_
 refine WA ?_
 refine WR ?_
 refine al_ef rfl (ef_call0 true (fun g => sfault_v v w (g (.o 1 0 1 1)) V Fs [z] hVl hFl (by simp)) rfl .fn rfl (by decide) (by kernel_rfl) rfl (fun _ => .cons (.aL (C0 rfl)) (.cons (.frz rfl rfl rfl rfl rfl) .nil)) (fun _ _ _ _ ⟨hu, hH⟩ => by rw [hu, hH]; exact ⟨.c (.inl trivial), by simp⟩)) ?_
 rintro _ _ ⟨_, _, _, ⟨rfl, rfl⟩, hF, hH⟩
 (refine NST hF hH ?_; clear hF hH; rintro rfl rfl)
 refine WE ?_
 refine WA ?_
 refine aw_if rfl (fun h0 => ?_) (fun h0 => ?_)
 ·refine WA ?_
  exact aret_of (us := [.c (I 0), .c (I 0), .c (I (pltF V Fs [z]))]) [] (fun _ => .t [.c (I 0), .c (I 0), .c (I (pltF V Fs [z]))]) (fun _ => []) (.tmp rfl (.tmp rfl (.tmp rfl .nil))) (by decide) (ZNK rfl) (fun _ => .tL (C0 rfl)) (fun _ => .nil) (fun _ => ⟨_, _, rfl, rfl, fun _ => ⟨rfl, rfl⟩, fun h => absurd h h0⟩)
 have hp0 : pltF V Fs [z] = 0 := by omega
 obtain ⟨hM, hz⟩ := pltF_ok hp0
 refine ZZ ?_
 refine WR ?_
 refine al_ef rfl (ef_call0 false (fun _ => rings_v v w V Fs z hM hz) rfl .fn rfl (by decide) (by kernel_rfl) rfl (fun _ => C0 rfl) (by simp)) ?_
 rintro _ _ ⟨_, _, _, ⟨q, A, cs, rfl, rfl, hA, hcs⟩, hF, hH⟩
 (refine NST hF hH ?_; clear hF hH; rintro rfl rfl)
 refine WE ?_
 obtain ⟨hl1, hl2⟩ := rgL_ok hM hcs
 rw [← hA] at hl1 hl2
 have hAe : (A.map Prod.snd).length = A.length := by simp
 have e1 : (rgR A).length = A.length := by simp
 refine WA ?_
 refine WA ?_
 refine aw_loopw (fun m F H => ∃ (k : Nat), m + k = A.length ∧ (-100000000000000 * (k : Int) ≤ sumD ((A.map Prod.snd).take k) ∧ sumD ((A.map Prod.snd).take k) ≤ 100000000000000 * k) ∧ F = [(9, .c (I (lfN V z cs))), (10, .c (I (sumD ((A.map Prod.snd).take k)))), (26, .c (.r q (rgR A))), (27, .c (I (rgR A).length)), (28, .c (I k))] ∧ H = []) ?_ ?_
 ·refine wk_of [] (fun _ => [(9, .c (I (lfN V z cs))), (10, .c (I (sumD ((A.map Prod.snd).take 0)))), (26, .c (.r q (rgR A))), (27, .c (I (rgR A).length)), (28, .c (I (0 : Nat)))]) (fun _ => []) (by decide) (ZNL hE) ZCF (fun _ => .nil) (fun _ => ?_)
  exact ⟨A.length, 0, by omega, by simp [sumD], rfl, rfl⟩
 rintro m F H ⟨k, hk, hb, rfl, rfl⟩
 refine WA ?_
 refine aw_if rfl (fun hlt => ?_) (fun hge => ?_)
 ·obtain ⟨p, hp⟩ : ∃ z, A[k]? = some z := ⟨_, List.getElem?_eq_getElem (by omega)⟩
  obtain ⟨hrl, hri⟩ := hl2 p.2 (List.mem_map.2 ⟨p, List.mem_of_getElem? hp, rfl⟩)
  have hnx := sumD_next (rs := A.map Prod.snd) (k := k) (r := p.2) (by rw [List.getElem?_map, hp]; rfl)
  obtain ⟨qv, r⟩ := p
  simp only at hrl hri hnx
  have hrow : (rgR A)[k]? = some [.r qv (pR r)] := by rw [List.getElem?_map, hp]; rfl
  have hdb := dblF_in hrl hri
  generalize sumD ((A.map Prod.snd).take k) = T at hb hnx ⊢
  refine WA ?_
  refine WR ?_
  refine al_ef rfl (ef_call0 false (fun _ => pdbl_v r qv (by omega) hri) rfl .fn rfl (by decide) (by kernel_rfl) rfl (fun _ => C0 rfl) (by simp)) ?_
  rintro _ _ ⟨_, _, _, ⟨rfl, rfl⟩, hF, hH⟩
  (refine NST hF hH ?_; clear hF hH; rintro rfl rfl)
  refine WE ?_
  refine WA ?_
  refine wk_of [] (fun _ => [(9, .c (I (lfN V z cs))), (10, .c (I (T + dblF r))), (26, .c (.r q (rgR A))), (27, .c (I (rgR A).length)), (28, .c (I (k + 1 : Nat)))]) (fun _ => []) (by decide) (ZNL hE) ZCF (fun _ => .nil) (fun _ => ?_)
  exact ⟨m - 1, by omega, k + 1, by omega, by omega, by rw [hnx], rfl⟩
 obtain rfl : k = A.length := by omega
 rw [List.take_of_length_le (by simp), hA]
 refine ZZ ?_
 refine WA ?_
 exact aret_of (us := [.c (I (sumD (rgL V z cs))), .c (I (lfN V z cs)), .c (I 0)]) [] (fun _ => .t [.c (I (sumD (rgL V z cs))), .c (I (lfN V z cs)), .c (I 0)]) (fun _ => []) (.tmp rfl (.tmp rfl (.tmp rfl .nil))) (by decide) (ZNK rfl) (fun _ => .tL (C0 rfl)) (fun _ => .nil) (fun _ => ⟨_, _, by rw [hp0], rfl, fun h => absurd hp0 h, fun _ => ⟨cs, hcs, rfl, rfl⟩⟩)
end Go.Proofs.YtlblimbelfenaaaGreat
