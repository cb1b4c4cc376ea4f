/- append of one row, in the words that the walks want. -/
import Derived.Test.YthanangkmjjbaaaGreatDoorQaf
import Derived.Test.YthanangkmjjbaaaGreatDoorQab
set_option linter.unusedSimpArgs false
set_option linter.unusedVariables false
/- The logic over values: new arrays, append. -/
namespace Go.Proofs.YthanangkmjjbaaaGreatDoor
open Go Go.RowKit
section
variable {P : Program} {N : Nat} {E : Env} {F : Fm} {H : List OB} {o : Oper} {S : Nat → Prop} {ρ : List (Option Nat)} {a : Act} {w : World}

theorem foldl_setAll (off : Nat) : ∀ (l : List Value) (i : Nat) (cs : Array Value), (l.zipIdx i).foldl (fun cs (x : Value × Nat) => cs.setIfInBounds (off + x.2) x.1) cs = setAll cs (off + i) l
  | [], _, _ => rfl
  | v :: l, i, cs => by
    rw [List.zipIdx_cons, List.foldl_cons, foldl_setAll off l (i + 1), setAll, Nat.add_assoc]
theorem fill_foldl (vs : Array Value) (off : Nat) (cs : Array Value) : vs.zipIdx.foldl (fun cs (x : Value × Nat) => cs.setIfInBounds (off + x.2) x.1) cs = setAll cs off vs.toList := by
  rw [← Array.foldl_toList, Array.toList_zipIdx, foldl_setAll off _ 0 cs, Nat.add_zero]

/-- The rows that a literal's parts are. -/
inductive Parts (F : Fm) : Nat → List (Nat × Operand) → List (List CV) → Prop where
  | nil (i : Nat) : Parts F i [] []
  | cons {i : Nat} {x : Operand} {v : AV} {us : List CV} {ps : List (Nat × Operand)} {rows : List (List CV)} (h : ev F x = some v) (h1 : uncl (cellsOf v) = some us) (h2 : Parts F (i + 1) ps rows) : Parts F i ((i, x) :: ps) (us :: rows)
theorem fill_parts {sz : Nat} (hR : R N E S ρ F H a w) {i : Nat} {ps : List (Nat × Operand)} {rows : List (List CV)} (h : Parts F i ps rows) : ∀ (cs : Array Value), (i + rows.length) * sz ≤ cs.size → (∀ row ∈ rows, row.length = sz ∧ ∀ u ∈ row, u.one = true) →
    (∃ cs', Instr.fill (fun i => some (i * sz, sz)) cs (ps.map fun x => (x.1, a.eval x.2)) = some cs' ∧ cs'.size = cs.size ∧ (∀ k, k < i * sz → cs'[k]? = cs[k]?) ∧ ∀ (k j : Nat) (row : List CV) (u : CV), rows[k]? = some row → row[j]? = some u → cs'[(i + k) * sz + j]? = some u.den) ∧
      ∀ row ∈ rows, ∀ u ∈ row, Good w S u ∧ u.den.oneCell' = true := by
  induction h with
  | nil i => exact fun cs _ _ => ⟨⟨cs, rfl, rfl, fun _ _ => rfl, fun k j row u hk _ => by simp at hk⟩, fun _ h => by cases h⟩
  | @cons i x v us ps rows hx hc hps ih =>
    intro cs hcs hrow
    obtain ⟨g1, g2⟩ := hR.ev hx
    have hus := hrow us (by simp)
    replace hc := uncl_eq hc
    obtain ⟨e1, e2⟩ := cellsOf_spec g2 (by rw [hc]; simpa [AV.one] using hus.2)
    rw [hc] at e1 e2
    have hmap : (us.map AV.c).map (AV.den ρ H) = us.map CV.den := by simp [Function.comp_def, AV.den]
    rw [hmap] at e1
    rw [List.length_cons] at hcs
    have hfit : i * sz + sz ≤ cs.size := by
      have : (i + 1) * sz ≤ (i + (rows.length + 1)) * sz := Nat.mul_le_mul_right sz (by omega)
      rw [Nat.add_mul] at this
      omega
    obtain ⟨⟨cs', h1, h2, h3, h4⟩, h5⟩ := ih (setAll cs (i * sz) (us.map CV.den)) (by rw [setAll_size 0]; rw [show i + 1 + rows.length = i + (rows.length + 1) from by omega]; exact hcs) (fun r hr => hrow r (by simp [hr]))
    refine ⟨⟨cs', ?_, by rw [h2, setAll_size 0], fun k hk => ?_, fun k j row u hk hj => ?_⟩, fun row hr u hu => ?_⟩
    · simp only [List.map_cons, Instr.fill, g1, e1, List.size_toArray, List.length_map, hus.1, ne_eq, not_true_eq_false, decide_false, Bool.false_or]
      rw [if_neg (by simp; omega), fill_foldl]
      exact h1
    · rw [h3 k (by rw [Nat.add_mul]; omega), setAll_get _ _ _ _ (by simp; omega), if_neg (by omega)]
    · cases k with
      | succ k =>
        have := h4 k j row u (by simpa using hk) hj
        rw [show i + (k + 1) = i + 1 + k from by omega]
        exact this
      | zero =>
        simp only [List.getElem?_cons_zero, Option.some.injEq] at hk
        subst hk
        have hjl : j < us.length := (List.getElem?_eq_some_iff.1 hj).1
        rw [Nat.add_zero, h3 _ (by rw [Nat.add_mul]; omega), setAll_get _ _ _ _ (by simp; omega), if_pos (by simp; omega), show i * sz + j - i * sz = j from by omega, List.getElem?_map, hj]
        rfl
    · rcases List.mem_cons.1 hr with rfl | hr
      · have := e2 (.c u) (List.mem_map.2 ⟨u, hu, rfl⟩)
        cases this.1 with
        | c g => exact ⟨g, this.2⟩
      · exact h5 row hr u hu

theorem den_snoc_o (h : RH w S ρ H) (ob : OB) (n c : Nat) : (AV.o H.length 0 n c).den (ρ ++ [some w.heap.size]) (H ++ [ob]) = .slice (some ⟨w.heap.size, 0, none⟩) n c := by
  simp [AV.den, atB_snoc, h.len]
theorem wf_snoc_o {w' : World} {S' : Nat → Prop} (h : RH w S ρ H) {ob : OB} {n c : Nat} (h1 : n ≤ c) (h2 : c ≤ ob.cap) : WF w' S' (ρ ++ [some w.heap.size]) (H ++ [ob]) (.o H.length 0 n c) :=
  .o (by simp) h1 (by simp [capAt, h2]) (by simp [atB_snoc, h.len])
/-- A slice literal. -/
theorem ef_buildSlice {t e : TypeId} {sz n d : Nat} {ps : Array (Nat × Operand)} {rows : List (List CV)} {z : Value} (ho : o.op = .buildSlice t n ps) (hd : o.dst = some d) (hN : d < N) (ht : elemSz P t = some (e, sz)) (hp : Parts F 0 ps.toList rows) (hn : rows.length = n)
    (hz : (P.info? e).bind (·.zero) = some z) (hzs : z.cells.size = sz) (hr : rows.all (fun row => row.length == sz && row.all CV.one) = true) (hle : n * sz ≤ 16777216) (hnm : n ≤ 16777216) :
    Ef P N E o F H fun F' H' => F' = (d, .o H.length 0 n n) :: F ∧ H' = H ++ [.arr e sz n rows] :=
  ef_of hd hN ⟨rfl, rfl⟩ fun S ρ a w hR => by
    obtain ⟨hu, i, hi, hs⟩ := elemSz_spec ht
    have hu' : (underlying t).run P w = .ok (.slice e) w := by unfold underlying; simp [hu]
    have hsz : (sizeOf e).run P w = .ok sz w := by simp [sizeOf, typeInfo, hi, hs]
    have hzr : (zeroValue e).run P w = .ok z w := by
      unfold zeroValue typeInfo
      rw [hi] at hz
      simp only [Option.bind_some] at hz
      simp [hi, hz]
    subst hn
    have hr : ∀ row ∈ rows, row.length = sz ∧ ∀ u ∈ row, u.one = true := by simpa using hr
    obtain ⟨⟨cs', h1, h2, _, h4⟩, h5⟩ := fill_parts (sz := sz) hR hp ((Array.range (rows.length * sz)).map ((if rows.length * sz = 0 then #[] else z.cells)[· % (if rows.length * sz = 0 then #[] else z.cells).size]!)) (by simp) hr
    have hcs : cs'.size = rows.length * sz := by rw [h2]; simp
    refine ⟨S, ρ ++ [some w.heap.size], w.alloc (.cells cs' e), ?_, ?_, wf_snoc_o hR.hp (Nat.le_refl _) (Nat.le_refl _)⟩
    · rw [den_snoc_o hR.hp]
      have hpm : (ps.map fun x => (x.1, a.eval x.2)).toList = ps.toList.map fun x => (x.1, a.eval x.2) := by simp
      have hlim : ¬ (rows.length * sz > 2 ^ 24) := by omega
      have hlim0 : ¬ ((0 : Nat) > 2 ^ 24) := by decide
      by_cases hz0 : rows.length * sz = 0
      · simp only [hz0, if_true] at h1
        simp only [execOp, ho, Instr.buildSlice, Sem.run_bind, hu', Result.andThen_ok, hsz, hlim0, if_false, hz0, if_true, Sem.run_pure, hpm, h1, newRow, run_newObj, World.alloc_eq]
      · simp only [hz0, if_false] at h1
        simp only [execOp, ho, Instr.buildSlice, Sem.run_bind, hu', Result.andThen_ok, hsz, hlim, if_false, hz0, hzr, Sem.run_pure, hpm, h1, newRow, run_newObj, World.alloc_eq]
    · refine hR.new cs' e (.arr e sz rows.length rows) (.inr ⟨_, cs', rfl, heap_new _ _, hcs, by simp only [maxLen]; omega, Nat.le_refl _, fun row hrow => ⟨(hr row hrow).1, fun u hu => ⟨(h5 row hrow u hu).1.mono (Mo.alloc hR.hp _), (h5 row hrow u hu).2⟩⟩, fun k j row u hk hj => ?_⟩)
      have := h4 k j row u hk hj
      rw [Nat.zero_add] at this
      exact this
/-- make. -/
theorem ef_make {t e : TypeId} {sz d by_ l c : Nat} {x y : Operand} {kx ky : IntKind} {z : Value} {vs : List Value} (ho : o.op = .makeSlice t x y) (hd : o.dst = some d) (hN : d < N) (ht : P.underlying t = some (.slice e)) (hi : (P.info? e).map (fun i => (i.zero, i.size, i.bytes)) = some (some z, sz, by_))
    (hx : ev F x = some (.c (.s (.int kx l)))) (hy : ev F y = some (.c (.s (.int ky c)))) (hlc : l ≤ c) (hb : by_ * c ≤ 281474976710656) (hc : c ≤ 281474976710656) (hvs : z.cells = vs.toArray) (hsz : vs.length = sz) (h1 : vs.all Value.oneCell' = true) :
    Ef P N E o F H fun F' H' => F' = (d, .o H.length 0 l c) :: F ∧ H' = H ++ [.arr e sz c (List.replicate c (vs.map cvOf))] :=
  ef_of hd hN ⟨rfl, rfl⟩ fun S ρ a w hR => by
    obtain ⟨i, hinf, hz, hs, hby⟩ : ∃ i, P.info? e = some i ∧ i.zero = some z ∧ i.size = sz ∧ i.bytes = by_ := by
      cases hi' : P.info? e with
      | none => rw [hi'] at hi; cases hi
      | some i => rw [hi'] at hi; simp at hi; exact ⟨i, rfl, hi⟩
    have e1 := (hR.ev hx).1
    have e2 := (hR.ev hy).1
    simp only [AV.den, CV.den] at e1 e2
    have hrun := run_make (P := P) w t e i z ht hinf hz kx ky l c (by omega) (by omega) (by rw [hby, ← Int.natCast_mul]; omega) (by omega)
    refine ⟨S, ρ ++ [some w.heap.size], w.alloc (.cells (madeCells z.cells (c * sz)) e), ?_, ?_, wf_snoc_o hR.hp hlc (Nat.le_refl _)⟩
    · rw [den_snoc_o hR.hp]
      simp only [execOp, ho, e1, e2, Sem.run_bind, hrun, Result.andThen_ok, Sem.run_pure, Int.toNat_natCast, hs]
    · refine hR.new _ e (.arr e sz c (List.replicate c (vs.map cvOf))) (.inr ⟨_, _, rfl, heap_new _ _, size_madeCells _ _, by simp only [maxLen]; omega, by simp, fun row hrow => ?_, fun k j row u hk hj => ?_⟩)
      · have := List.eq_of_mem_replicate hrow
        subst this
        refine ⟨by simp [hsz], fun u hu => ?_⟩
        obtain ⟨v, hv, rfl⟩ := List.mem_map.1 hu
        exact ⟨cvOf_good _ _ _, by rw [cvOf_den]; exact List.all_eq_true.1 h1 v hv⟩
      · rw [List.getElem?_replicate] at hk
        split at hk
        · rename_i hkc
          injection hk with hk
          subst hk
          rw [List.getElem?_map] at hj
          cases hv : vs[j]? with
          | none => rw [hv] at hj; cases hj
          | some v =>
            rw [hv] at hj
            simp only [Option.map_some, Option.some.injEq] at hj
            subst hj
            have hjl : j < sz := by rw [← hsz]; exact (List.getElem?_eq_some_iff.1 hv).1
            have hlt : k * sz + j < c * sz := by
              have : (k + 1) * sz ≤ c * sz := Nat.mul_le_mul_right sz hkc
              rw [Nat.add_mul] at this
              omega
            have hzsz : z.cells.size = sz := by rw [hvs]; simpa using hsz
            rw [cvOf_den]
            simp only [madeCells, Array.getElem?_map, Array.getElem?_range, hlt, if_true, Option.map_some]
            rw [hzsz, show (k * sz + j) % sz = j from by rw [Nat.add_comm, Nat.add_mul_mod_self_right, Nat.mod_eq_of_lt hjl]]
            congr 1
            have : z.cells[j]? = some v := by rw [hvs]; simpa using hv
            rw [getElem!_def, this]
        · cases hk
end
end Go.Proofs.YthanangkmjjbaaaGreatDoor

/- More words: the elements of a slice's type. -/
namespace Go.Proofs.YthanangkmjjbaaaGreatDoor
open Go Go.RowKit
theorem Own.but {w w' : World} {base g : Nat} {e : TypeId} {sz : Nat} {v : Value} {rows : List (List Value)} (h : Own w base e sz v rows) (hg : w.grownBy w' (some g)) (hb : g < base) : Own w' base e sz v rows :=
  h.kept hg (by
    cases hv : v.ownBlock with
    | none => exact .inl rfl
    | some k => exact .inr (fun e => by injection e with e; have := (h.lt k hv).1; omega))
end Go.Proofs.YthanangkmjjbaaaGreatDoor

/- append of one row, in the words that the walks want. -/
namespace Go.Proofs.YthanangkmjjbaaaGreatDoor
open Go Go.RowKit
section
variable {P : Program} {w : World}
end
end Go.Proofs.YthanangkmjjbaaaGreatDoor
