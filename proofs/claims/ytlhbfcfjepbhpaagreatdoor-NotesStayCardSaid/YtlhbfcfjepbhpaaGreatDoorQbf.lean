/- MergedNotes, by value. -/
import Derived.Test.YtlhbfcfjepbhpaaGreatDoorQbe
import Derived.Test.YtlhbfcfjepbhpaaGreatDoorQam
import Derived.Lib.Overlaps
import Derived.Lib.AppendZeros
set_option linter.unusedSimpArgs false
set_option linter.unusedVariables false
-- NEWM
namespace Go.Proofs.YtlhbfcfjepbhpaaGreatDoor
open Go Go.RowKit Go.Shelf
set_option maxRecDepth 100000
def sortNL_ren : Go.Shelf.Ren := ⟨fun | 6 => 70 | 15 => 124 | 14 => 123 | 28 => 180 | 29 => 181 | 20 => 165 | 21 => 173 | 22 => 174 | 23 => 175 | 24 => 176 | 25 => 177 | 26 => 178 | 27 => 179 | 46 => 248 | 47 => 249 | 48 => 250 | 49 => 251 | 50 => 252 | 57 => 302 | n => n, fun | 22 => 26 | 24 => 39 | 25 => 83 | 3 => 3 | 39 => 200 | 0 => 0 | 53 => 251 | 55 => 253 | 4 => 4 | 46 => 245 | 45 => 244 | 50 => 105 | 5 => 5 | 9 => 9 | 66 => 310 | 70 => 314 | 76 => 370 | 77 => 371 | n => n, fun | n => n⟩
theorem sortNL : Go.Proofs.SlLaysF0.n6 Tryz.prog sortNL_ren := {
 mixed := by kernel_rfl
 f6 := ⟨Tryz.f70.name, by decide, Tryz.func70.trans (congrArg some (by kernel_rfl))⟩
 f14 := ⟨Tryz.f123.name, by decide, Tryz.func123.trans (congrArg some (by kernel_rfl))⟩
 f15 := Tryz.func124.trans (congrArg some (by kernel_rfl))
 f20 := ⟨Tryz.f165.name, by decide, Tryz.func165.trans (congrArg some (by kernel_rfl))⟩
 f21 := ⟨Tryz.f173.name, by decide, Tryz.func173.trans (congrArg some (by kernel_rfl))⟩
 f22 := ⟨Tryz.f174.name, by decide, Tryz.func174.trans (congrArg some (by kernel_rfl))⟩
 f23 := ⟨Tryz.f175.name, by decide, Tryz.func175.trans (congrArg some (by kernel_rfl))⟩
 f24 := ⟨Tryz.f176.name, by decide, Tryz.func176.trans (congrArg some (by kernel_rfl))⟩
 f25 := ⟨Tryz.f177.name, by decide, Tryz.func177.trans (congrArg some (by kernel_rfl))⟩
 f26 := ⟨Tryz.f178.name, by decide, Tryz.func178.trans (congrArg some (by kernel_rfl))⟩
 f27 := ⟨Tryz.f179.name, by decide, Tryz.func179.trans (congrArg some (by kernel_rfl))⟩
 f28 := Tryz.func180.trans (congrArg some (by kernel_rfl))
 f29 := Tryz.func181.trans (congrArg some (by kernel_rfl))
 f46 := ⟨Tryz.f248.name, by decide, Tryz.func248.trans (congrArg some (by kernel_rfl))⟩
 f47 := Tryz.func249.trans (congrArg some (by kernel_rfl))
 f48 := Tryz.func250.trans (congrArg some (by kernel_rfl))
 f49 := ⟨Tryz.f251.name, by decide, Tryz.func251.trans (congrArg some (by kernel_rfl))⟩
 f50 := ⟨Tryz.f252.name, by decide, Tryz.func252.trans (congrArg some (by kernel_rfl))⟩
 f57 := ⟨Tryz.f302.name, by decide, Tryz.func302.trans (congrArg some (by kernel_rfl))⟩
 t0 := Tryz.underlying0
 a0 := Tryz.isAgg0
 z0 := Tryz.sizeOf0
 v0 := Tryz.zeroValue0
 t3 := Tryz.underlying3
 a3 := Tryz.isAgg3
 z3 := Tryz.sizeOf3
 v3 := Tryz.zeroValue3
 t4 := Tryz.underlying4
 a4 := Tryz.isAgg4
 z4 := Tryz.sizeOf4
 v4 := Tryz.zeroValue4
 t5 := Tryz.underlying5
 a5 := Tryz.isAgg5
 z5 := Tryz.sizeOf5
 v5 := Tryz.zeroValue5
 t9 := Tryz.underlying9
 a9 := Tryz.isAgg9
 z9 := Tryz.sizeOf9
 v9 := Tryz.zeroValue9
 t22 := Tryz.underlying26
 a22 := Tryz.isAgg26
 z22 := Tryz.sizeOf26
 v22 := Tryz.zeroValue26
 t25 := Tryz.underlying83
 a25 := Tryz.isAgg83
 z25 := Tryz.sizeOf83
 v25 := Tryz.zeroValue83
 t39 := Tryz.underlying200
 a39 := Tryz.isAgg200
 z39 := Tryz.sizeOf200
 v39 := Tryz.zeroValue200
 t45 := Tryz.underlying244
 a45 := Tryz.isAgg244
 z45 := Tryz.sizeOf244
 v45 := Tryz.zeroValue244
 t46 := Tryz.underlying245
 a46 := Tryz.isAgg245
 z46 := Tryz.sizeOf245
 v46 := Tryz.zeroValue245
 t50 := Tryz.underlying105
 a50 := Tryz.isAgg105
 z50 := Tryz.sizeOf105
 v50 := Tryz.zeroValue105
 t53 := Tryz.underlying251
 a53 := Tryz.isAgg251
 z53 := Tryz.sizeOf251
 v53 := Tryz.zeroValue251
 t55 := Tryz.underlying253
 a55 := Tryz.isAgg253
 z55 := Tryz.sizeOf253
 v55 := Tryz.zeroValue253
 t66 := Tryz.underlying310
 a66 := Tryz.isAgg310
 z66 := Tryz.sizeOf310
 v66 := Tryz.zeroValue310
 t70 := Tryz.underlying314
 a70 := Tryz.isAgg314
 z70 := Tryz.sizeOf314
 v70 := Tryz.zeroValue314
 t76 := Tryz.underlying370
 a76 := Tryz.isAgg370
 z76 := Tryz.sizeOf370
 v76 := Tryz.zeroValue370
 t77 := Tryz.underlying371
 a77 := Tryz.isAgg371
 z77 := Tryz.sizeOf371
 v77 := Tryz.zeroValue371 }
def noOf : List CV → Nt
 | [.s (.string a), .s (.int _ b), .s (.int _ c), .s (.int _ d), .s (.string e), .s (.string f), .s (.string g), .s (.int _ h), .s (.string i), .s (.int _ j)] => ⟨a.data.toList, b, c, d, e.data.toList, f.data.toList, g.data.toList, h, i.data.toList, j⟩
 | _ => ⟨[], 0, 0, 0, [], [], [], 0, [], 0⟩
theorem noOf_R (x : Nt) : noOf (noR x) = x := by
 obtain ⟨st, no, at_, kd, pr, jb, sp, n, of_, ot⟩ := x
 simp [noR, noOf]
theorem noOf_Rs (l : List Nt) : (noRs l).map noOf = l := by
 rw [List.map_map]
 exact (List.map_congr_left fun s _ => noOf_R s).trans (List.map_id l)
theorem cmpNt_irr (a : Nt) : ¬ cmpNt a a < 0 := fun h => by
 have := (cmpNt_0 a a).2 ⟨rfl, rfl, rfl⟩
 omega
theorem cmpNt_nt {a b c : Nt} (h1 : ¬ cmpNt a b < 0) (h2 : ¬ cmpNt b c < 0) : ¬ cmpNt a c < 0 := fun h => by
 have n1 := cmpNt_neg a b
 have n2 := cmpNt_neg b c
 have n3 := cmpNt_neg a c
 by_cases e1 : cmpNt a b = 0
 ·obtain ⟨p1, p2, p3⟩ := (cmpNt_0 a b).1 e1
  have : cmpNt b c < 0 := by
   rw [cmpNt_lt] at h ⊢
   rw [← p1, ← p2, ← p3]; exact h
  exact h2 this
 ·have h3 : cmpNt b a < 0 := by omega
  exact h2 (cmpNt_trans h3 h)
theorem sortN_v (g : FuncId) (hg : okFn Tryz.prog g = true) (hc : ∀ a b : Nt, ACalls Tryz.prog g [noA a, noA b] [] fun u H => u = .c (I (cmpNt a b)) ∧ H = []) (l : List Nt) (c : Nat) (hl : l.length ≤ 1000000) : ACallsX true Tryz.prog 70 [.o 0 0 l.length c, .f (.func g) []] [.arr 39 10 c (noRs l)] fun u H => ∃ l' : List Nt, (l'.Perm l ∧ l'.Pairwise fun a b => ¬ cmpNt b a < 0) ∧ u = .t [] ∧ H = [.arr 39 10 c (noRs l')] := by
 have h := acalls_sort sortNL (k := 10) (fun w => Tryz.isAgg39 w) (fun w => Tryz.sizeOf39 w) (fun x => ∃ s : Nt, x = noR s) (fun x y => cmpNt (noOf x) (noOf y)) (g := g) hg
  (by rintro _ ⟨s, rfl⟩; rw [noOf_R]; exact cmpNt_irr s)
  (by rintro _ _ _ ⟨a, rfl⟩ ⟨b, rfl⟩ ⟨c, rfl⟩; simp only [noOf_R]; exact fun h1 h2 => cmpNt_trans h1 h2)
  (by rintro _ _ _ ⟨a, rfl⟩ ⟨b, rfl⟩ ⟨c, rfl⟩; simp only [noOf_R]; exact fun h1 h2 => cmpNt_nt h1 h2)
  (by rintro _ _ ⟨a, rfl⟩ ⟨b, rfl⟩; simp only [noOf_R]; exact hc a b)
  (noRs l) (by intro r hr; obtain ⟨s, _, rfl⟩ := List.mem_map.1 hr; exact ⟨s, rfl⟩) (by simp; omega) (e := 39) (cap := c) (n := l.length) (c := c) (pn := true) (by simp)
 refine ACallsX.mono h fun u H => ?_
 rintro ⟨rows', rfl, rfl, hp, hs⟩
 have hrow : ∀ r ∈ rows', ∃ s : Nt, r = noR s := fun r hr => by
  obtain ⟨s, _, rfl⟩ := List.mem_map.1 (hp.subset hr); exact ⟨s, rfl⟩
 refine ⟨rows'.map noOf, ⟨by have h2 := hp.map noOf; rwa [noOf_Rs] at h2, ?_⟩, rfl, ?_⟩
 ·rw [List.pairwise_map]
  exact hs
 ·congr 2
  show rows' = (rows'.map noOf).map noR
  rw [List.map_map]
  refine (List.map_id _).symm.trans (List.map_congr_left fun r hr => ?_)
  obtain ⟨s, rfl⟩ := hrow r hr
  simp [noOf_R]
end Go.Proofs.YtlhbfcfjepbhpaaGreatDoor
namespace Go.Proofs.YtlhbfcfjepbhpaaGreatDoor
open Go Go.RowKit
section
variable {P : Program} {N : Nat} {E : Env} {F : Fm} {H : List OB} {o : Oper} {S : Nat → Prop} {ρ : List (Option Nat)} {a : Act} {w : World}
end
end Go.Proofs.YtlhbfcfjepbhpaaGreatDoor
namespace Go.Proofs.YtlhbfcfjepbhpaaGreatDoor
open Go Go.RowKit
section
variable {P : Program} {N : Nat} {E : Env} {F : Fm} {H : List OB} {o : Oper} {S : Nat → Prop} {ρ : List (Option Nat)} {a : Act} {w : World}
theorem run_app_zeros (w : World) (t tn ty e : TypeId) (i : TypeInfo) (z : Value) (k kn : IntKind) (ht : P.underlying t = some (.slice e)) (htn : P.underlying tn = some (.int kn)) (hi : P.info? e = some i) (hz : i.zero = some z)
    (A : Option Addr) (c n : Nat) (h0 : c < n) (hs : 0 < i.size) (h63 : (n : Int) ≤ 9223372036854775807) (h48 : 2 * n * i.bytes ≤ 281474976710656) :
    (Builtin.append_ #[t, tn] ty #[.slice A 0 c, .int k n]).run P w =
     .ok (.slice (some ⟨w.heap.size, 0, none⟩) n (grownCap w n c e)) (w.drew.alloc (.cells (Builtin.zeroCells z.cells n ++ Builtin.zeroCells z.cells (grownCap w n c e - n)) e)) := by
 have hn : n ≠ 0 := by omega
 have hw : IntKind.i64.wrap (n : Int) = n := by rw [IntKind.wrap_i64]; omega
 have h63' : ¬ (9223372036854775807 < (n : Int)) := by omega
 have hle := nextslicecap_le h0
 have h48' : ¬ (281474976710656 < Builtin.nextslicecap n c * i.bytes) := by
  have : Builtin.nextslicecap n c * i.bytes ≤ 2 * n * i.bytes := Nat.mul_le_mul_right _ hle
  omega
 have h48i : ¬ (281474976710656 < (n : Int) * (i.bytes : Int)) := by
  rw [← Int.natCast_mul]
  have : n * i.bytes ≤ 2 * n * i.bytes := Nat.mul_le_mul_right _ (by omega)
  omega
 have hneg : ¬ ((n : Int) < 0) := by omega
 have hns : ¬ (n * i.size = 0) := Nat.mul_ne_zero hn (by omega)
 have hroom : ¬ n ≤ c := by omega
 have hf : ∀ w, (Builtin.firstCells i.size 0 (.slice A 0 c)).run P w = .ok #[] w := fun w => by
  cases A with
  | none => exact run_firstCells_none w _ _ _ _
  | some q => exact run_firstCells_some w i.size 0 q 0 c [] (by simp) (fun j v h => by simp at h)
 simp [Builtin.append_, run_underlying ht, run_underlying htn, sizeOf, typeInfo, zeroValue, hi, hz, asInt, asIntOf, hw, hn, hneg, hns, h63', h48', h48i, hroom, Question.forced, hf, newRow, grownCap]
theorem ef_appz {t tn e : TypeId} {sz d b k c cap n : Nat} {kx kn : IntKind} {zi : Int} {s x : Operand} {z : Value} {vs : List Value} {rows : List (List CV)} (ho : o.op = .call { callee := .builtin .append, args := #[s, x], argTypes := #[t, tn] }) (hd : o.dst = some d) (hN : d < N)
    (hE : ElemTy P t e sz) (htn : P.underlying tn = some (.int kn)) (hs : ev F s = some (.o b k 0 c)) (hH : H[b]? = some (.arr e sz cap rows)) (hx : ev F x = some (.c (.s (.int kx zi)))) (hzi : zi = n) (hn : c < n) (hle : n ≤ 1000000000)
    (hz : (P.info? e).bind (·.zero) = some z) (hvs : z.cells = vs.toArray) (h1 : vs.all Value.oneCell' = true) :
    Ef P N E o F H fun F' H' => ∃ c2, n ≤ c2 ∧ F' = (d, .o H.length 0 n c2) :: F ∧ H' = H ++ [.arr e sz c2 (List.replicate n (vs.map cvOf))] := fun S ρ a w hR => by
 subst hzi
 obtain ⟨g1, _⟩ := hR.ev hs
 obtain ⟨g3, _⟩ := hR.ev hx
 obtain ⟨inf, z', hi, hz', hsz, hby, hzs⟩ := hE.hi
 obtain rfl : z' = z := by rw [hi] at hz; simp only [Option.bind_some] at hz; rw [hz'] at hz; exact Option.some.inj hz
 have hrun := run_app_zeros (P := P) w t tn o.type e inf z' kx kn hE.ht htn hi hz' ((AV.o b k 0 c).den ρ H |> fun v => match v with | .slice A _ _ => A | _ => none) c n hn (by rw [hsz]; exact hE.hsz) (by omega) (by
  have : 2 * n * inf.bytes ≤ 2 * n * 256 := Nat.mul_le_mul_left _ hby
  omega)
 have hge := grownCap_ge w n c e
 have hcm : grownCap w n c e ≤ maxLen := grownCap_le_maxLen w n c e (by simp only [maxLen]; omega)
 have hvl : vs.length = sz := by rw [← hzs, hvs]; simp
 unfold effO
 have hex : (execOp a.eval o).run P w = .ok (.value (.slice (some ⟨w.heap.size, 0, none⟩) n (grownCap w n c e))) (w.drew.alloc (.cells (Builtin.zeroCells z'.cells n ++ Builtin.zeroCells z'.cells (grownCap w n c e - n)) e)) := by
  unfold execOp
  simp only [AV.den, CV.den] at g1 g3 hrun
  simp only [ho, resolve, invoke, builtin, Sem.run_bind, Sem.run_pure, Result.andThen_ok, List.map_toArray, List.map_cons, List.map_nil, g1, g3, hrun]
 rw [hex]
 have hR2 := hR.drew
 have hob : OwnB (w.drew.alloc (.cells (Builtin.zeroCells z'.cells n ++ Builtin.zeroCells z'.cells (grownCap w n c e - n)) e)) S (ρ ++ [some w.drew.heap.size]) (H ++ [.arr e sz (grownCap w n c e) (List.replicate n (vs.map cvOf))]) (.arr e sz (grownCap w n c e) (List.replicate n (vs.map cvOf))) (some w.drew.heap.size) := by
  refine .inr ⟨_, _, rfl, zI2 _ _, ?_, hcm, by simpa using hge, fun row hrow => ?_, fun k' j row u hk hj => ?_⟩
  ·simp only [Array.size_append, size_zeroCells, hzs, ← Nat.add_mul]
   congr 1; omega
  ·have := List.eq_of_mem_replicate hrow
   subst this
   refine ⟨by simp [hvl], fun u hu => ?_⟩
   obtain ⟨v, hv, rfl⟩ := List.mem_map.1 hu
   exact ⟨ze3 _ _ _, by rw [zq2]; exact List.all_eq_true.1 h1 v hv⟩
  ·rw [List.getElem?_replicate] at hk
   split at hk
   ·rename_i hkc
    injection hk with hk
    subst hk
    rw [List.getElem?_map] at hj
    cases hv : vs[j]? with
    | none => rw [hv] at hj; cases hj
    | some v =>
     rw [hv] at hj
     simp only [Option.map_some, Option.some.injEq] at hj
     subst hj
     have hjl : j < sz := by rw [← hvl]; exact (List.getElem?_eq_some_iff.1 hv).1
     have hlt : k' * sz + j < n * sz := by
      have : (k' + 1) * sz ≤ n * sz := Nat.mul_le_mul_right sz hkc
      rw [Nat.add_mul] at this
      omega
     rw [zq2, Array.getElem?_append, if_pos (by rw [size_zeroCells, hzs]; exact hlt)]
     have hlt' : k' * sz + j < n * z'.cells.size := by rw [hzs]; exact hlt
     simp only [Builtin.zeroCells, Array.getElem?_map, Array.getElem?_range, hlt', if_true, Option.map_some]
     rw [hzs, show (k' * sz + j) % sz = j from by rw [Nat.add_comm, Nat.add_mul_mod_self_right, Nat.mod_eq_of_lt hjl]]
     congr 1
     have : z'.cells[j]? = some v := by rw [hvs]; simpa using hv
     rw [getElem!_def, this]
   ·cases hk
 have hR3 := hR2.new _ e _ hob
 refine ⟨S, ρ ++ [some w.drew.heap.size], _, _, ⟨grownCap w n c e, hge, rfl, rfl⟩, ?_⟩
 rw [hd]
 have := hR3.put hN (wf_snoc_o hR2.hp (ob := .arr e sz (grownCap w n c e) (List.replicate n (vs.map cvOf))) (n := n) (c := grownCap w n c e) hge (Nat.le_refl _))
 rw [zZ3 hR2.hp] at this
 exact this
end
end Go.Proofs.YtlhbfcfjepbhpaaGreatDoor
-- NEWM
namespace Go.Proofs.YtlhbfcfjepbhpaaGreatDoor
open Go Go.RowKit
set_option maxRecDepth 100000
def catR (ps : List (Value × List (List CV))) : List (List CV) := ps.flatMap (·.2)
theorem catR_next {ps : List (Value × List (List CV))} {k : Nat} {p : Value × List (List CV)} (h : ps[k]? = some p) : catR (ps.take (k + 1)) = catR (ps.take k) ++ p.2 := by
 rw [catR, List.take_add_one, h, List.flatMap_append]; simp [catR]
theorem catR_le {ps : List (Value × List (List CV))} (k : Nat) : (catR (ps.take k)).length ≤ (catR ps).length := by
 conv => rhs; rw [← List.take_append_drop k ps]
 rw [catR, catR, List.flatMap_append, List.length_append]; omega
theorem catR_part {ps : List (Value × List (List CV))} {k : Nat} {p : Value × List (List CV)} (h : ps[k]? = some p) : (catR (ps.take k)).length + p.2.length ≤ (catR ps).length := by
 have := catR_le (ps := ps) (k + 1)
 rw [catR_next h, List.length_append] at this
 exact this
theorem growN_a (n : Nat) (hn : n ≤ 1000000) : ACalls Tryz.prog 122 [.c (.r (.slice none 0 0) []), .c (I n)] [] fun u H => ∃ (c : Nat) (rows : List (List CV)), n ≤ c ∧ u = .o 0 0 0 c ∧ H = [.arr 39 10 c rows] := by
 refine zg (N := 27) Tryz.func122 rfl rfl (by simp) fun E hE => ?_
 refine aw_wk (zl (K := fun F H => F = [(0, .o 0 0 0 0), (1, .c (I n))] ∧ H = [.arr 39 10 0 []]) [none] (fun _ => [(0, .o 0 0 0 0), (1, .c (I n))]) (fun _ => [.arr 39 10 0 []]) (by decide) (ZNL hE) ZCF ZCH (fun _ => ⟨rfl, rfl⟩)) ?_
 rintro F H ⟨rfl, rfl⟩
 refine WA ?_
 refine WA ?_
 refine za rfl ?_
 refine ZZ ?_
 rcases Nat.eq_zero_or_pos n with h0 | hp
 ·refine WA ?_
  refine WA ?_
  refine za rfl ?_
  refine ZZ ?_
  refine WA ?_
  exact zm4 [some 0] (fun _ => [.arr 39 10 0 []]) rfl rfl rfl rfl rfl (by decide) (ZNK rfl) ZCH (fun _ => ⟨0, [], by omega, rfl, rfl⟩)
 ·refine WA ?_
  refine WA ?_
  refine zb rfl ?_
  refine ZR ?_
  iterate 3 refine WX1 ?_
  refine ZA (rd_slicee (l := 0) (h := 0) rfl (KE (t := 26) rfl) rfl rfl (.inl ⟨rfl, rfl⟩) (.inr ⟨_, _, _, rfl, rfl, rfl⟩) rfl rfl) ?_
  refine WO ?_
  refine zh rfl (ef_appz (n := n) rfl rfl (by decide) (KA (t := 26) rfl) Tryz.underlying3 rfl rfl rfl (by omega) (by omega) (by omega) (KZ (t := 39) rfl) rfl rfl) ?_
  rintro _ _ ⟨c2, hc2, rfl, rfl⟩
  iterate 2 refine WX1 ?_
  refine ZA (rd_slice (l := 0) (h := 0) rfl (KE (t := 26) rfl) rfl rfl (.inl ⟨rfl, rfl⟩) (.inr ⟨_, _, _, rfl, rfl, rfl⟩) (by omega) (by omega) (by omega)) ?_
  refine WE ?_
  refine WA ?_
  exact zm4 [some 1] (fun _ => [.arr 39 10 c2 (List.replicate n [T [], I 0, I 0, I 0, T [], T [], T [], I 0, T [], I 0])]) rfl rfl rfl rfl rfl (by decide) (ZNK rfl) ZCH (fun _ => ⟨c2, _, by omega, rfl, rfl⟩)
theorem concatN_a (ps : List (Value × List (List CV))) (v : Value) (hR : ∀ p ∈ ps, OkR 10 p.2) (h1 : 1 ≤ ps.length) (hl : ps.length ≤ 1000) (hn : (catR ps).length ≤ 1000000) :
    ACalls Tryz.prog 69 [.c (.r v (ps.map fun p => [.r p.1 p.2]))] [] fun u H => ∃ (c : Nat), (catR ps).length ≤ c ∧ u = .o 0 0 (catR ps).length c ∧ H = [.arr 39 10 c (catR ps)] := by
 have e1 : (ps.map fun p => [CV.r p.1 p.2]).length = ps.length := by simp
 refine zg (N := 36) Tryz.func69 rfl rfl (by simp) fun E hE => ?_
 refine WA ?_
 refine WA ?_
 refine WA ?_
 refine zC (fun m F H => ∃ (k : Nat), m + k = ps.length ∧ F = [(0, .c (.r v (ps.map fun p => [.r p.1 p.2]))), (3, .c (I (catR (ps.take k)).length)), (9, .c (.r v (ps.map fun p => [.r p.1 p.2]))), (10, .c (I (ps.map fun p => [CV.r p.1 p.2]).length)), (11, .c (I k))] ∧ H = []) ?_ ?_
 ·refine zl [] (fun _ => [(0, .c (.r v (ps.map fun p => [.r p.1 p.2]))), (3, .c (I (catR (ps.take 0)).length)), (9, .c (.r v (ps.map fun p => [.r p.1 p.2]))), (10, .c (I (ps.map fun p => [CV.r p.1 p.2]).length)), (11, .c (I (0 : Nat)))]) (fun _ => _) (by decide) (ZNL hE) ZCF (fun _ => .nil) (fun _ => ?_)
  exact ⟨ps.length, 0, by omega, rfl, rfl⟩
 ·rintro m F H ⟨k, hk, rfl, rfl⟩
  refine WA ?_
  refine zq rfl (fun hlt => ?_) (fun hge => ?_)
  ·obtain ⟨p, hp⟩ : ∃ p, ps[k]? = some p := ⟨_, List.getElem?_eq_getElem (by omega)⟩
   have hrow : (ps.map fun p => [CV.r p.1 p.2])[k]? = some [.r p.1 p.2] := by rw [List.getElem?_map, hp]; rfl
   have hpl := catR_part hp
   refine WA ?_
   refine WA ?_
   refine WA ?_
   refine za rfl ?_
   refine ZZ ?_
   refine WA ?_
   refine zl [] (fun _ => [(0, .c (.r v (ps.map fun p => [.r p.1 p.2]))), (3, .c (I (((catR (ps.take k)).length : Int) + p.2.length))), (9, .c (.r v (ps.map fun p => [.r p.1 p.2]))), (10, .c (I (ps.map fun p => [CV.r p.1 p.2]).length)), (11, .c (I (k + 1 : Nat)))]) (fun _ => _) (by decide) (ZNL hE) ZCF (fun _ => .nil) (fun _ => ?_)
   exact ⟨m - 1, by omega, k + 1, by omega, by rw [catR_next hp, List.length_append]; rfl, rfl⟩
  obtain rfl : k = ps.length := by omega
  refine ZZ ?_
  have e3 : ((catR (ps.take ps.length)).length : Int) = (catR ps).length := by rw [List.take_length]
  refine aw_wk (zl (K := fun F H => F = [(0, .c (.r v (ps.map fun p => [.r p.1 p.2]))), (3, .c (I (catR ps).length))] ∧ H = []) [] (fun _ => [(0, .c (.r v (ps.map fun p => [.r p.1 p.2]))), (3, .c (I (catR ps).length))]) (fun _ => _) (by decide) (ZNL hE) (fun _ => .cons rfl (.c rfl) (.cons rfl (.c (by rw [e3])) .nil)) (fun _ => .nil) (fun _ => ⟨rfl, rfl⟩)) ?_
  rintro F H ⟨rfl, rfl⟩
  refine WR ?_
  refine zh rfl (zc false (fun _ => growN_a (catR ps).length (by omega)) rfl .fn rfl (by decide) (by kernel_rfl) rfl (fun _ => C0 rfl) (by simp)) ?_
  rintro _ _ ⟨_, _, _, ⟨c, rows, hc, rfl, rfl⟩, hF, hH⟩
  (refine NST hF hH ?_; clear hF hH; rintro rfl rfl)
  refine WE ?_
  refine WA ?_
  refine zC (fun m F H => ∃ (k c : Nat) (rows : List (List CV)), m + k = ps.length ∧ (catR (ps.take k)).length ≤ c ∧ (catR ps).length ≤ c ∧ (catR (ps.take k)).length ≤ rows.length ∧ rows.take (catR (ps.take k)).length = catR (ps.take k) ∧ (1 ≤ k → rows = catR (ps.take k)) ∧ F = [(6, .o 0 0 (catR (ps.take k)).length c), (25, .c (.r v (ps.map fun p => [.r p.1 p.2]))), (26, .c (I (ps.map fun p => [CV.r p.1 p.2]).length)), (27, .c (I k))] ∧ H = [.arr 39 10 c rows]) ?_ ?_
  ·refine zl [some 0] (fun _ => [(6, .o 0 0 (catR (ps.take 0)).length c), (25, .c (.r v (ps.map fun p => [.r p.1 p.2]))), (26, .c (I (ps.map fun p => [CV.r p.1 p.2]).length)), (27, .c (I (0 : Nat)))]) (fun _ => _) (by decide) (ZNL hE) ZCF ZCH (fun _ => ?_)
   exact ⟨ps.length, 0, c, rows, by omega, by simp [catR], hc, by simp [catR], by simp [catR], by omega, rfl, rfl⟩
  rintro m F H ⟨k, c, rows, hk, hc1, hc, hq, hrt, hre, rfl, rfl⟩
  refine WA ?_
  refine zq rfl (fun hlt => ?_) (fun hge => ?_)
  ·obtain ⟨p, hp⟩ : ∃ p, ps[k]? = some p := ⟨_, List.getElem?_eq_getElem (by omega)⟩
   have hrow : (ps.map fun p => [CV.r p.1 p.2])[k]? = some [.r p.1 p.2] := by rw [List.getElem?_map, hp]; rfl
   have hpl := catR_part hp
   have hnx := catR_next hp
   refine WA ?_
   refine WR ?_
   refine zh rfl (ef_appc (b := 0) (n := (catR (ps.take k)).length) (cap := c) (news := p.2) rfl rfl (by decide) (KA (t := 26) rfl) rfl rfl hq rfl (.ro (fun r h => (hR p (List.mem_of_getElem? hp) r h).1) (fun r h => (hR p (List.mem_of_getElem? hp) r h).2)) (by omega)) ?_
   rintro F1 H1 ⟨_, c2, hc2, hcf, hF, hH⟩
   obtain rfl : c = c2 := (hcf (by omega)).symm
   (refine NSU hF hH ?_; clear hF hH; rintro rfl rfl)
   refine WE ?_
   refine WA ?_
   refine zl [some 0] (fun _ => [(6, .o 0 0 (catR (ps.take (k + 1))).length _), (25, .c (.r v (ps.map fun p => [.r p.1 p.2]))), (26, .c (I (ps.map fun p => [CV.r p.1 p.2]).length)), (27, .c (I (k + 1 : Nat)))]) (fun _ => _) (by decide) (ZNL hE) (fun _ => .cons rfl (.o rfl (by rw [hnx, List.length_append])) (.cons rfl (.c rfl) (.cons rfl (.c rfl) (.cons rfl (.c (by simp)) .nil)))) ZCH (fun _ => ?_)
   exact ⟨m - 1, by omega, k + 1, _, _, by omega, by rw [hnx, List.length_append]; omega, hc, by rw [hnx, hrt]; simp, by rw [hnx, hrt, List.take_length], fun _ => by rw [hnx, hrt], rfl, rfl⟩
  obtain rfl : k = ps.length := by omega
  obtain rfl : rows = catR ps := by have := hre h1; rwa [List.take_length] at this
  refine ZZ ?_
  refine WA ?_
  exact zm4 [some 0] (fun _ => [.arr 39 10 c (catR ps)]) rfl rfl rfl (by rw [List.take_length]) rfl (by decide) (ZNK rfl) ZCH (fun _ => ⟨c, hc, rfl, rfl⟩)
end Go.Proofs.YtlhbfcfjepbhpaaGreatDoor
-- NEWM
namespace Go.Proofs.YtlhbfcfjepbhpaaGreatDoor
open Go Go.RowKit
set_option maxRecDepth 100000
def fndN (out : List Nt) (x : Nt) : Option Nt := out.find? fun o => snB o x
theorem snB_ky {a b : Nt} : snB a b = true ↔ ky a = ky b := by simp [snB]
def mrg : List Nt → List Nt → Option (List Nt)
 | out, [] => some out
 | out, x :: l => if (fndN out x).isNone then mrg (out ++ [x]) l else if fndN out x = some x then mrg out l else none
theorem mrg_new {out l : List Nt} {x : Nt} (h : fndN out x = none) : mrg out (x :: l) = mrg (out ++ [x]) l := by rw [mrg, h]; rfl
theorem mrg_old {out l : List Nt} {x : Nt} (h : fndN out x = some x) : mrg out (x :: l) = mrg out l := by rw [mrg, h]; simp
theorem mrg_bad {out l : List Nt} {x o : Nt} (h : fndN out x = some o) (hn : ¬ o = x) : mrg out (x :: l) = none := by rw [mrg, h]; simp [hn]
theorem fndN_none {out : List Nt} {x : Nt} : fndN out x = none ↔ ky x ∉ out.map ky := by
 unfold fndN
 rw [List.find?_eq_none]
 constructor
 ·intro h hm
  obtain ⟨o, ho, e⟩ := List.mem_map.1 hm
  exact h o ho (snB_ky.2 e)
 ·intro h o ho e
  exact h (List.mem_map.2 ⟨o, ho, snB_ky.1 e⟩)
theorem mrg_pre : ∀ (a b p : List Nt), ((p ++ a).map ky).Nodup → mrg p (a ++ b) = mrg (p ++ a) b
 | [], b, p, _ => by simp
 | x :: a, b, p, h => by
  have e : p ++ x :: a = (p ++ [x]) ++ a := by simp
  rw [e] at h ⊢
  have hn : fndN p x = none := fndN_none.2 fun hm => by
   rw [List.map_append, List.map_append] at h
   have h2 := (List.nodup_append.1 (List.nodup_append.1 h).1).2.2
   exact h2 _ hm _ (by simp) rfl
  rw [List.cons_append, mrg_new hn]
  exact mrg_pre a b (p ++ [x]) h
theorem mrg_len : ∀ (l out r : List Nt), mrg out l = some r → r.length ≤ out.length + l.length
 | [], out, r, e => by simp [mrg] at e; rw [← e]; simp
 | x :: l, out, r, e => by
  by_cases h1 : fndN out x = none
  ·rw [mrg_new h1] at e
   have := mrg_len l _ r e
   simp at this ⊢; omega
  ·by_cases h2 : fndN out x = some x
   ·rw [mrg_old h2] at e
    have := mrg_len l out r e
    simp; omega
   ·rw [mrg, if_neg (by simpa using h1), if_neg h2] at e; cases e
def zN : Nt := ⟨[], 0, 0, 0, [], [], [], 0, [], 0⟩
def encN : Enc Nt := ⟨fun a => .agg #[.string (bst a.st), .int .i64 a.no, .int .i64 a.at_, .int .i64 a.kd, .string (bst a.pr), .string (bst a.jb), .string (bst a.sp), .int .i64 a.n, .string (bst a.of_), .int .i64 a.ot], fun a => noA a, fun a ρ H => rfl, fun a w S ρ H => .a fun x hx => by
 obtain ⟨u, hu, rfl⟩ := List.mem_map.1 hx
 simp only [noR, List.mem_cons, List.not_mem_nil, or_false] at hu
 rcases hu with rfl | rfl | rfl | rfl | rfl | rfl | rfl | rfl | rfl | rfl <;> exact .c (.s _)⟩
theorem rd_lkN {N : Nat} {E : Env} {F : Fm} {H : List OB} {o : Oper} {x ix : Operand} {b ck : Nat} {l : List (Nat × (List UInt8 × Int) × Nt)} {k : List UInt8 × Int} {y : Nt} {q : Bool} (hq : (mget l k).getD zN = y) (hq2 : (mget l k).isSome = q) (ho : o.op = .lookup 109 x ix true)
    (hx : ev F x = some (.mp b)) (hH : H[b]? = some (mpO encO encN l ck)) (hi : ev F ix = some (encO.x k)) : Rd Tryz.prog N E o F H (.t [noA y, .c (B q)]) := by
 have := rd_lookupk (N := N) (E := E) (ke := encO) (ve := encN) (k := k) (z := zN) keyO ho Tryz.underlying109 (by kernel_rfl) hx hH hi (fun ρ H => encO.den k ρ H)
 rwa [hq, hq2] at this
theorem ef_muN {N : Nat} {E : Env} {F : Fm} {H : List OB} {o : Oper} {x ix y : Operand} {b ck : Nat} {l : List (Nat × (List UInt8 × Int) × Nt)} {k : List UInt8 × Int} {z : Nt} (ho : o.op = .mapUpdate 109 x ix y) (hd : o.dst = none)
    (hx : ev F x = some (.mp b)) (hH : H[b]? = some (mpO encO encN l ck)) (hi : ev F ix = some (encO.x k)) (hy : ev F y = some (noA z)) : Ef Tryz.prog N E o F H fun F' H' => F' = F ∧ H' = H.set b (mpO encO encN (mset ck k z l) (mclk ck k l)) :=
 zd3 (ke := encO) (ve := encN) (k := k) (z := z) keyO ho hd Tryz.underlying109 hx hH hi (fun ρ H => encO.den k ρ H) hy (fun ρ H => encN.den z ρ H)
end Go.Proofs.YtlhbfcfjepbhpaaGreatDoor
-- NEWM
namespace Go.Proofs.YtlhbfcfjepbhpaaGreatDoor
open Go Go.RowKit
set_option maxRecDepth 100000
def mrE : Option (List Nt) → Int
 | none => 13
 | some r => if 2000 < r.length then 2 else 0
end Go.Proofs.YtlhbfcfjepbhpaaGreatDoor
