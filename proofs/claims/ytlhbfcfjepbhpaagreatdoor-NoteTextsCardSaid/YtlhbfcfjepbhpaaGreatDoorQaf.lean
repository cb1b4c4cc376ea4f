/- The logic over values: append. -/
import Derived.Test.YtlhbfcfjepbhpaaGreatDoorQae
import Derived.Test.YtlhbfcfjepbhpaaGreatDoorQab
set_option linter.unusedSimpArgs false
set_option linter.unusedVariables false
namespace Go.Proofs.YtlhbfcfjepbhpaaGreatDoor
section
open Go Go.RowKit
section
variable {P : Program} {N : Nat} {E : Env} {F : Fm} {H : List OB} {o : Oper} {S : Nat → Prop} {ρ : List (Option Nat)} {a : Act} {w : World}
theorem za4 (off : Nat) : ∀ (l : List Value) (i : Nat) (cs : Array Value), (l.zipIdx i).foldl (fun cs (x : Value × Nat) => cs.setIfInBounds (off + x.2) x.1) cs = setAll cs (off + i) l
 | [], _, _ => rfl
 | v :: l, i, cs => by
  rw [List.zipIdx_cons, List.foldl_cons, za4 off l (i + 1), setAll, Nat.add_assoc]
theorem zS3 (vs : Array Value) (off : Nat) (cs : Array Value) : vs.zipIdx.foldl (fun cs (x : Value × Nat) => cs.setIfInBounds (off + x.2) x.1) cs = setAll cs off vs.toList := by
 rw [← Array.foldl_toList, Array.toList_zipIdx, za4 off _ 0 cs, Nat.add_zero]
inductive Parts (F : Fm) : Nat → List (Nat × Operand) → List (List CV) → Prop where
 | nil (i : Nat) : Parts F i [] []
 | cons {i : Nat} {x : Operand} {v : AV} {us : List CV} {ps : List (Nat × Operand)} {rows : List (List CV)} (h : ev F x = some v) (h1 : uncl (cellsOf v) = some us) (h2 : Parts F (i + 1) ps rows) : Parts F i ((i, x) :: ps) (us :: rows)
theorem fill_parts {sz : Nat} (hR : R N E S ρ F H a w) {i : Nat} {ps : List (Nat × Operand)} {rows : List (List CV)} (h : Parts F i ps rows) : ∀ (cs : Array Value), (i + rows.length) * sz ≤ cs.size → (∀ row ∈ rows, row.length = sz ∧ ∀ u ∈ row, u.one = true) →
    (∃ cs', Instr.fill (fun i => some (i * sz, sz)) cs (ps.map fun x => (x.1, a.eval x.2)) = some cs' ∧ cs'.size = cs.size ∧ (∀ k, k < i * sz → cs'[k]? = cs[k]?) ∧ ∀ (k j : Nat) (row : List CV) (u : CV), rows[k]? = some row → row[j]? = some u → cs'[(i + k) * sz + j]? = some u.den) ∧
     ∀ row ∈ rows, ∀ u ∈ row, Good w S u ∧ u.den.oneCell' = true := by
 induction h with
 | nil i => exact fun cs _ _ => ⟨⟨cs, rfl, rfl, fun _ _ => rfl, fun k j row u hk _ => by simp at hk⟩, fun _ h => by cases h⟩
 | @cons i x v us ps rows hx hc hps ih =>
  intro cs hcs hrow
  obtain ⟨g1, g2⟩ := hR.ev hx
  have hus := hrow us (by simp)
  replace hc := uncl_eq hc
  obtain ⟨e1, e2⟩ := zu1 g2 (by rw [hc]; simpa [AV.one] using hus.2)
  rw [hc] at e1 e2
  have hmap : (us.map AV.c).map (AV.den ρ H) = us.map CV.den := by simp [Function.comp_def, AV.den]
  rw [hmap] at e1
  rw [List.length_cons] at hcs
  have hfit : i * sz + sz ≤ cs.size := by
   have : (i + 1) * sz ≤ (i + (rows.length + 1)) * sz := Nat.mul_le_mul_right sz (by omega)
   rw [Nat.add_mul] at this
   omega
  obtain ⟨⟨cs', h1, h2, h3, h4⟩, h5⟩ := ih (setAll cs (i * sz) (us.map CV.den)) (by rw [zJ1 0]; rw [show i + 1 + rows.length = i + (rows.length + 1) from by omega]; exact hcs) (fun r hr => hrow r (by simp [hr]))
  refine ⟨⟨cs', ?_, by rw [h2, zJ1 0], fun k hk => ?_, fun k j row u hk hj => ?_⟩, fun row hr u hu => ?_⟩
  ·simp only [List.map_cons, Instr.fill, g1, e1, List.size_toArray, List.length_map, hus.1, ne_eq, not_true_eq_false, decide_false, Bool.false_or]
   rw [if_neg (by simp; omega), zS3]
   exact h1
  ·rw [h3 k (by rw [Nat.add_mul]; omega), zj1 _ _ _ _ (by simp; omega), if_neg (by omega)]
  ·cases k with
   | succ k =>
    have := h4 k j row u (by simpa using hk) hj
    rw [show i + (k + 1) = i + 1 + k from by omega]
    exact this
   | zero =>
    simp only [List.getElem?_cons_zero, Option.some.injEq] at hk
    subst hk
    have hjl : j < us.length := (List.getElem?_eq_some_iff.1 hj).1
    rw [Nat.add_zero, h3 _ (by rw [Nat.add_mul]; omega), zj1 _ _ _ _ (by simp; omega), if_pos (by simp; omega), show i * sz + j - i * sz = j from by omega, List.getElem?_map, hj]
    rfl
  ·rcases List.mem_cons.1 hr with rfl | hr
   ·have := e2 (.c u) (List.mem_map.2 ⟨u, hu, rfl⟩)
    cases this.1 with
    | c g => exact ⟨g, this.2⟩
   ·exact h5 row hr u hu
theorem den_snoc_o (h : RH w S ρ H) (ob : OB) (n c : Nat) : (AV.o H.length 0 n c).den (ρ ++ [some w.heap.size]) (H ++ [ob]) = .slice (some ⟨w.heap.size, 0, none⟩) n c := by
 simp [AV.den, zo1, h.len]
theorem wf_snoc_o {w' : World} {S' : Nat → Prop} (h : RH w S ρ H) {ob : OB} {n c : Nat} (h1 : n ≤ c) (h2 : c ≤ ob.cap) : WF w' S' (ρ ++ [some w.heap.size]) (H ++ [ob]) (.o H.length 0 n c) :=
 .o (by simp) h1 (by simp [capAt, h2]) (by simp [zo1, h.len])
theorem ef_buildSlice {t e : TypeId} {sz n d : Nat} {ps : Array (Nat × Operand)} {rows : List (List CV)} {z : Value} (ho : o.op = .buildSlice t n ps) (hd : o.dst = some d) (hN : d < N) (ht : elemSz P t = some (e, sz)) (hp : Parts F 0 ps.toList rows) (hn : rows.length = n)
    (hz : (P.info? e).bind (·.zero) = some z) (hzs : z.cells.size = sz) (hr : rows.all (fun row => row.length == sz && row.all CV.one) = true) (hle : n * sz ≤ 16777216) (hnm : n ≤ 16777216) :
    Ef P N E o F H fun F' H' => F' = (d, .o H.length 0 n n) :: F ∧ H' = H ++ [.arr e sz n rows] :=
 ef_of hd hN ⟨rfl, rfl⟩ fun S ρ a w hR => by
  obtain ⟨hu, i, hi, hs⟩ := zL ht
  have hu' : (underlying t).run P w = .ok (.slice e) w := by unfold underlying; simp [hu]
  have hsz : (sizeOf e).run P w = .ok sz w := by simp [sizeOf, typeInfo, hi, hs]
  have hzr : (zeroValue e).run P w = .ok z w := by
   unfold zeroValue typeInfo
   rw [hi] at hz
   simp only [Option.bind_some] at hz
   simp [hi, hz]
  subst hn
  have hr : ∀ row ∈ rows, row.length = sz ∧ ∀ u ∈ row, u.one = true := by simpa using hr
  obtain ⟨⟨cs', h1, h2, _, h4⟩, h5⟩ := fill_parts (sz := sz) hR hp ((Array.range (rows.length * sz)).map ((if rows.length * sz = 0 then #[] else z.cells)[· % (if rows.length * sz = 0 then #[] else z.cells).size]!)) (by simp) hr
  have hcs : cs'.size = rows.length * sz := by rw [h2]; simp
  refine ⟨S, ρ ++ [some w.heap.size], w.alloc (.cells cs' e), ?_, ?_, wf_snoc_o hR.hp (Nat.le_refl _) (Nat.le_refl _)⟩
  ·rw [den_snoc_o hR.hp]
   have hpm : (ps.map fun x => (x.1, a.eval x.2)).toList = ps.toList.map fun x => (x.1, a.eval x.2) := by simp
   have hlim : ¬ (rows.length * sz > 2 ^ 24) := by omega
   have hlim0 : ¬ ((0 : Nat) > 2 ^ 24) := by decide
   by_cases hz0 : rows.length * sz = 0
   ·simp only [hz0, if_true] at h1
    simp only [execOp, ho, Instr.buildSlice, Sem.run_bind, hu', Result.andThen_ok, hsz, hlim0, if_false, hz0, if_true, Sem.run_pure, hpm, h1, newRow, run_newObj, World.alloc_eq]
   ·simp only [hz0, if_false] at h1
    simp only [execOp, ho, Instr.buildSlice, Sem.run_bind, hu', Result.andThen_ok, hsz, hlim, if_false, hz0, hzr, Sem.run_pure, hpm, h1, newRow, run_newObj, World.alloc_eq]
  ·refine hR.new cs' e (.arr e sz rows.length rows) (.inr ⟨_, cs', rfl, zH2 _ _, hcs, by simp only [maxLen]; omega, Nat.le_refl _, fun row hrow => ⟨(hr row hrow).1, fun u hu => ⟨(h5 row hrow u hu).1.mono (Mo.alloc hR.hp _), (h5 row hrow u hu).2⟩⟩, fun k j row u hk hj => ?_⟩)
   have := h4 k j row u hk hj
   rw [Nat.zero_add] at this
   exact this
theorem ef_make {t e : TypeId} {sz d by_ l c : Nat} {x y : Operand} {kx ky : IntKind} {z : Value} {vs : List Value} (ho : o.op = .makeSlice t x y) (hd : o.dst = some d) (hN : d < N) (ht : P.underlying t = some (.slice e)) (hi : (P.info? e).map (fun i => (i.zero, i.size, i.bytes)) = some (some z, sz, by_))
    (hx : ev F x = some (.c (.s (.int kx l)))) (hy : ev F y = some (.c (.s (.int ky c)))) (hlc : l ≤ c) (hb : by_ * c ≤ 281474976710656) (hc : c ≤ 281474976710656) (hvs : z.cells = vs.toArray) (hsz : vs.length = sz) (h1 : vs.all Value.oneCell' = true) :
    Ef P N E o F H fun F' H' => F' = (d, .o H.length 0 l c) :: F ∧ H' = H ++ [.arr e sz c (List.replicate c (vs.map cvOf))] :=
 ef_of hd hN ⟨rfl, rfl⟩ fun S ρ a w hR => by
  obtain ⟨i, hinf, hz, hs, hby⟩ : ∃ i, P.info? e = some i ∧ i.zero = some z ∧ i.size = sz ∧ i.bytes = by_ := by
   cases hi' : P.info? e with
   | none => rw [hi'] at hi; cases hi
   | some i => rw [hi'] at hi; simp at hi; exact ⟨i, rfl, hi⟩
  have e1 := (hR.ev hx).1
  have e2 := (hR.ev hy).1
  simp only [AV.den, CV.den] at e1 e2
  have hrun := run_make (P := P) w t e i z ht hinf hz kx ky l c (by omega) (by omega) (by rw [hby, ← Int.natCast_mul]; omega) (by omega)
  refine ⟨S, ρ ++ [some w.heap.size], w.alloc (.cells (madeCells z.cells (c * sz)) e), ?_, ?_, wf_snoc_o hR.hp hlc (Nat.le_refl _)⟩
  ·rw [den_snoc_o hR.hp]
   simp only [execOp, ho, e1, e2, Sem.run_bind, hrun, Result.andThen_ok, Sem.run_pure, Int.toNat_natCast, hs]
  ·refine hR.new _ e (.arr e sz c (List.replicate c (vs.map cvOf))) (.inr ⟨_, _, rfl, zH2 _ _, size_madeCells _ _, by simp only [maxLen]; omega, by simp, fun row hrow => ?_, fun k j row u hk hj => ?_⟩)
   ·have := List.eq_of_mem_replicate hrow
    subst this
    refine ⟨by simp [hsz], fun u hu => ?_⟩
    obtain ⟨v, hv, rfl⟩ := List.mem_map.1 hu
    exact ⟨zZ2 _ _ _, by rw [zp2]; exact List.all_eq_true.1 h1 v hv⟩
   ·rw [List.getElem?_replicate] at hk
    split at hk
    ·rename_i hkc
     injection hk with hk
     subst hk
     rw [List.getElem?_map] at hj
     cases hv : vs[j]? with
     | none => rw [hv] at hj; cases hj
     | some v =>
      rw [hv] at hj
      simp only [Option.map_some, Option.some.injEq] at hj
      subst hj
      have hjl : j < sz := by rw [← hsz]; exact (List.getElem?_eq_some_iff.1 hv).1
      have hlt : k * sz + j < c * sz := by
       have : (k + 1) * sz ≤ c * sz := Nat.mul_le_mul_right sz hkc
       rw [Nat.add_mul] at this
       omega
      have hzsz : z.cells.size = sz := by rw [hvs]; simpa using hsz
      rw [zp2]
      simp only [madeCells, Array.getElem?_map, Array.getElem?_range, hlt, if_true, Option.map_some]
      rw [hzsz, show (k * sz + j) % sz = j from by rw [Nat.add_comm, Nat.add_mul_mod_self_right, Nat.mod_eq_of_lt hjl]]
      congr 1
      have : z.cells[j]? = some v := by rw [hvs]; simpa using hv
      rw [getElem!_def, this]
    ·cases hk
end
end
section
open Go Go.RowKit
theorem Own.but {w w' : World} {base g : Nat} {e : TypeId} {sz : Nat} {v : Value} {rows : List (List Value)} (h : Own w base e sz v rows) (hg : w.grownBy w' (some g)) (hb : g < base) : Own w' base e sz v rows :=
 h.kept hg (by
  cases hv : v.ownBlock with
  | none => exact .inl rfl
  | some k => exact .inr (fun e => by injection e with e; have := (h.lt k hv).1; omega))
end
section
open Go Go.RowKit
section
variable {P : Program} {w : World}
end
end
section
open Go Go.RowKit
mutual
def AV.has (b : List Nat) : AV → Bool
 | .p b' _ _ => b.contains b'
 | .o b' _ _ _ => b.contains b'
 | .a l => AV.hasL b l
 | .t l => AV.hasL b l
 | .f _ l => AV.hasL b l
 | .mp b' => b.contains b'
 | .c _ => false
 | .q .. => false
def AV.hasL (b : List Nat) : List AV → Bool
 | [] => false
 | x :: l => x.has b || AV.hasL b l
end
theorem AV.hasL_false {b : List Nat} : ∀ {l : List AV}, AV.hasL b l = false → ∀ x ∈ l, x.has b = false
 | [], _, x, hx => by cases hx
 | y :: l, h, x, hx => by
  simp only [AV.hasL, Bool.or_eq_false_iff] at h
  rcases List.mem_cons.1 hx with rfl | hx
  ·exact h.1
  ·exact AV.hasL_false h.2 x hx
def killV (g : AV → Value) (b : List Nat) (x : AV) : AV := if x.has b then .c (.s (g x)) else x
def killO (g : AV → Value) (b : List Nat) : OB → OB
 | .box l => .box (l.map (killV g b))
 | .boxt t l => .boxt t (l.map (killV g b))
 | .eqv x v => .eqv (killV g b x) v
 | .itr q since seen last => if b.contains q then .dead else .itr q since seen last
 | o => o
def killF (g : AV → Value) (b : List Nat) (F : Fm) : Fm := F.map fun e => (e.1, killV g b e.2)
structure ExB (b : List Nat) (ρ : List (Option Nat)) (H : List OB) (ρ' : List (Option Nat)) (H' : List OB) : Prop where
 at_ : ∀ i, i < H.length → i ∉ b → atB ρ' i = atB ρ i
 sz : ∀ i, i < H.length → i ∉ b → szAt H' i = szAt H i
 cap : ∀ i, i < H.length → i ∉ b → capAt H' i = capAt H i
 len : H.length ≤ H'.length
section
variable {w w' : World} {S S' : Nat → Prop} {ρ ρ' : List (Option Nat)} {H H' : List OB} {x : AV} {b : List Nat}
theorem WF.den_but (h : WF w S ρ H x) (hb : x.has b = false) (he : ExB b ρ H ρ' H') : x.den ρ' H' = x.den ρ H := by
 induction h with
 | c h => rfl
 | p h0 h => simp only [AV.has, List.contains_eq_mem, decide_eq_false_iff_not] at hb; simp only [AV.den, he.at_ _ h0 hb, he.sz _ h0 hb]
 | o h0 h1 h2 h3 => simp only [AV.has, List.contains_eq_mem, decide_eq_false_iff_not] at hb; simp only [AV.den, he.at_ _ h0 hb, he.sz _ h0 hb]
 | q h1 h2 h3 => rfl
 | a h ih => simp only [AV.has] at hb; simp only [AV.den, AV.denL_eq]; rw [List.map_congr_left fun x hx => ih x hx (AV.hasL_false hb x hx)]
 | t h ih => simp only [AV.has] at hb; simp only [AV.den, AV.denL_eq]; rw [List.map_congr_left fun x hx => ih x hx (AV.hasL_false hb x hx)]
 | f h ih => simp only [AV.has] at hb; simp only [AV.den, AV.denL_eq]; rw [List.map_congr_left fun x hx => ih x hx (AV.hasL_false hb x hx)]
 | mp h0 h => simp only [AV.has, List.contains_eq_mem, decide_eq_false_iff_not] at hb; simp only [AV.den, he.at_ _ h0 hb]
theorem WF.but (h : WF w S ρ H x) (hb : x.has b = false) (he : ExB b ρ H ρ' H') (hm : Mo w S w' S') : WF w' S' ρ' H' x := by
 induction h with
 | c h => exact .c (h.mono hm)
 | p h0 h => simp only [AV.has, List.contains_eq_mem, decide_eq_false_iff_not] at hb; exact .p (Nat.lt_of_lt_of_le h0 he.len) (by rw [he.at_ _ h0 hb]; exact h)
 | o h0 h1 h2 h3 => simp only [AV.has, List.contains_eq_mem, decide_eq_false_iff_not] at hb; exact .o (Nat.lt_of_lt_of_le h0 he.len) h1 (by rw [he.cap _ h0 hb]; exact h2) (by rw [he.at_ _ h0 hb]; exact h3)
 | q h1 h2 h3 => exact .q (hm _ h1).1 (fun i u hu => by rw [World.cell?_of_block (w := w) (hm _ h1).2]; exact h2 i u hu) (fun u hu => (h3 u hu).mono hm)
 | a h ih => simp only [AV.has] at hb; exact .a fun x hx => ih x hx (AV.hasL_false hb x hx)
 | t h ih => simp only [AV.has] at hb; exact .t fun x hx => ih x hx (AV.hasL_false hb x hx)
 | f h ih => simp only [AV.has] at hb; exact .f fun x hx => ih x hx (AV.hasL_false hb x hx)
 | mp h0 h => simp only [AV.has, List.contains_eq_mem, decide_eq_false_iff_not] at hb; exact .mp (Nat.lt_of_lt_of_le h0 he.len) (by rw [he.at_ _ h0 hb]; exact h)
theorem WF.killed (h : WF w S ρ H x) (he : ExB b ρ H ρ' H') (hm : Mo w S w' S') : (killV (AV.den ρ H) b x).den ρ' H' = x.den ρ H ∧ WF w' S' ρ' H' (killV (AV.den ρ H) b x) := by
 unfold killV
 cases hb : x.has b with
 | true => exact ⟨rfl, .c (.s _)⟩
 | false => exact ⟨h.den_but hb he, h.but hb he hm⟩
theorem OwnB.killed {o : OB} {m : Option Nat} (h : OwnB w S ρ H o m) (he : ExB b ρ H ρ' H') (hm : Mo w S w' S') (hB : ∀ B, m = some B → w'.heap[B]? = w.heap[B]?) (hT : ∀ k B, o.hasP k B → w'.heap[B]? = w.heap[B]?) : OwnB w' S' ρ' H' (killO (AV.den ρ H) b o) m := by
 cases o with
 | pool l => exact h.pool_ex hm hT
 | box l =>
  obtain ⟨B, t, rfl, h1, h2⟩ := h
  refine ⟨B, t, rfl, ?_, fun x hx => ?_⟩
  ·rw [hB B rfl, h1, List.map_map, List.map_congr_left (fun x hx => ((h2 x hx).1.killed he hm).1.symm)]
   rfl
  ·obtain ⟨y, hy, rfl⟩ := List.mem_map.1 hx
   obtain ⟨g1, g2⟩ := (h2 y hy).1.killed he hm
   exact ⟨g2, by rw [g1]; exact (h2 y hy).2⟩
 | arr e sz cap rows =>
  rcases h with h | ⟨B, cs, rfl, h1, h2, hm2, h3, h4, h5⟩
  ·exact .inl h
  ·exact .inr ⟨B, cs, rfl, by rw [hB B rfl]; exact h1, h2, hm2, h3, fun row hr => ⟨(h4 row hr).1, fun u hu => ⟨((h4 row hr).2 u hu).1.mono hm, ((h4 row hr).2 u hu).2⟩⟩, h5⟩
 | dead => trivial
 | eqv x v =>
  obtain ⟨g1, g2⟩ := h.2.killed he hm
  exact ⟨g1.trans h.1, g2⟩
 | map es ck =>
  obtain ⟨B, ms, rfl, h1, h2, h3⟩ := h
  exact ⟨B, ms, rfl, by rw [hB B rfl]; exact h1, h2, fun e he' => (h3 e he').mono hm⟩
 | itr q since seen last =>
  obtain ⟨B, rfl, h1, h2, h3⟩ := h
  show OwnB w' S' ρ' H' (if b.contains q then .dead else .itr q since seen last) (some B)
  by_cases hq : q ∈ b
  ·rw [if_pos (by simpa using hq)]; trivial
  ·rw [if_neg (by simpa using hq)]
   have hq' : q ∉ b := hq
   exact ⟨B, rfl, by rw [hB B rfl, he.at_ q h2 hq']; exact h1, Nat.lt_of_lt_of_le h2 he.len, by rw [he.at_ q h2 hq']; exact h3⟩
 | sit s pos =>
  obtain ⟨B, rfl, h1⟩ := h
  exact ⟨B, rfl, by rw [hB B rfl]; exact h1⟩
 | boxt t l =>
  obtain ⟨B, rfl, h1, h2⟩ := h
  refine ⟨B, rfl, ?_, fun x hx => ?_⟩
  ·rw [hB B rfl, h1, List.map_map, List.map_congr_left (fun x hx => ((h2 x hx).1.killed he hm).1.symm)]
   rfl
  ·obtain ⟨y, hy, rfl⟩ := List.mem_map.1 hx
   obtain ⟨g1, g2⟩ := (h2 y hy).1.killed he hm
   exact ⟨g2, by rw [g1]; exact (h2 y hy).2⟩
 | bts v l =>
  obtain ⟨B, cs, e, n, rfl, h1, h2, h3⟩ := h
  exact ⟨B, cs, e, n, rfl, h1, by rw [hB B rfl]; exact h2, h3⟩
end
theorem zm2 {g : AV → Value} {b : List Nat} {i : Nat} {y : AV} : ∀ {F : Fm}, (killF g b F).lookup i = some y → ∃ x, F.lookup i = some x ∧ y = killV g b x := by
 intro F
 induction F with
 | nil => intro h; cases h
 | cons e F ih =>
  intro h
  obtain ⟨j, x⟩ := e
  simp only [killF, List.map_cons, List.lookup_cons] at h ⊢
  split at h
  ·injection h with h; exact ⟨x, by simp [*], h.symm⟩
  ·obtain ⟨x', h1, h2⟩ := ih h
   exact ⟨x', by simp [*], h2⟩
theorem zj4 (g : AV → Value) (b : List Nat) (o : OB) : (killO g b o).sz = o.sz := by cases o <;> first | rfl | (simp only [killO]; split <;> rfl)
theorem zI3 (g : AV → Value) (b : List Nat) (o : OB) : (killO g b o).cap = o.cap := by cases o <;> first | rfl | (simp only [killO]; split <;> rfl)
theorem killO_hasP {g : AV → Value} {b : List Nat} {o : OB} {k B : Nat} (h : (killO g b o).hasP k B) : o.hasP k B := by
 obtain ⟨l, e, h1, h2⟩ := h
 refine ⟨l, e, ?_, h2⟩
 cases o <;> simp only [killO] at h1 <;> first | exact h1 | cases h1 | (split at h1 <;> cases h1)
theorem inP_kill {g : AV → Value} {b : List Nat} {H : List OB} {i k B : Nat} (h : inP (H.map (killO g b)) i k B) : inP H i k B := by
 obtain ⟨o, h1, h2⟩ := h
 rw [List.getElem?_map] at h1
 cases ho : H[i]? with
 | none => rw [ho] at h1; cases h1
 | some o' =>
  rw [ho] at h1
  simp only [Option.map_some, Option.some.injEq] at h1
  subst h1
  exact ⟨o', ho, killO_hasP h2⟩
theorem arr_nopool {e : TypeId} {sz cap : Nat} {rows : List (List CV)} {k B : Nat} : ¬ (OB.arr e sz cap rows).hasP k B := fun h => by obtain ⟨l, h⟩ := zW2 h; cases h
theorem zH3 (g : AV → Value) (b : List Nat) (o : OB) : (killO g b o).shp = o.shp := by cases o <;> first | rfl | (simp only [killO]; split <;> rfl)
def toV (rows : List (List CV)) : List (List Value) := rows.map (List.map CV.den)
inductive Src (H : List OB) (sz : Nat) : AV → List (List CV) → Prop where
 | own {b k m c cap : Nat} {e : TypeId} {rows news : List (List CV)} (h : H[b]? = some (.arr e sz cap rows)) (hn : (rows.drop k).take m = news) (hm : news.length = m) : Src H sz (.o b k m c) news
 | ro {v : Value} {rows : List (List CV)} (hl : ∀ row ∈ rows, row.length = sz) (h1 : ∀ row ∈ rows, ∀ u ∈ row, u.one = true) : Src H sz (.c (.r v rows)) rows
section
variable {P : Program} {N : Nat} {E : Env} {F : Fm} {H : List OB} {o : Oper} {S : Nat → Prop} {ρ : List (Option Nat)} {a : Act} {w : World}
theorem R.src {v : AV} {sz : Nat} {news : List (List CV)} (hR : R N E S ρ F H a w) (hw : WF w S ρ H v) (hs : Src H sz v news) : ∃ A c, v.den ρ H = .slice A news.length c ∧ Sl w 0 w.heap.size sz A (toV news) ∧ ∀ row ∈ news, row.length = sz ∧ ∀ u ∈ row, Good w S u ∧ u.den.oneCell' = true := by
 cases hs with
 | @own b k m c cap e rows _ h hn hm =>
  have hsz : szAt H b = sz := by unfold szAt; rw [h]; rfl
  refine ⟨_, c, by rw [AV.den, hm], ?_, ?_⟩
  ·intro hne
   rcases hR.hp.blk _ _ h with ⟨_, _, rfl⟩ | ⟨B, cs, hB, hh, hcs, hmx, hrl, hrow, hcell⟩
   ·subst hn; simp [toV] at hne
   ·refine ⟨B, k * sz, by rw [hB, hsz]; rfl, Nat.zero_le _, hR.hp.lt _ _ hB, hR.hp.lt _ _ hB, fun i r hi j u hu => ?_⟩
    unfold toV at hi
    rw [List.getElem?_map] at hi
    cases hr : news[i]? with
    | none => rw [hr] at hi; cases hi
    | some row =>
     rw [hr] at hi
     simp only [Option.map_some, Option.some.injEq] at hi
     subst hi
     rw [List.getElem?_map] at hu
     cases hy : row[j]? with
     | none => rw [hy] at hu; cases hu
     | some y =>
      rw [hy] at hu
      simp only [Option.map_some, Option.some.injEq] at hu
      subst hu
      have hr' : rows[k + i]? = some row := by
       rw [← hn] at hr
       rw [List.getElem?_take] at hr
       split at hr
       ·rw [List.getElem?_drop] at hr; exact hr
       ·cases hr
      have := hcell (k + i) j row y hr' hy
      rw [Nat.add_mul] at this
      unfold World.cell?
      rw [hh]
      simpa using this
  ·intro row hr
   rcases hR.hp.blk _ _ h with ⟨_, _, rfl⟩ | ⟨B, cs, hB, hh, hcs, hmx, hrl, hrow, hcell⟩
   ·subst hn; simp at hr
   ·refine hrow row ?_
    rw [← hn] at hr
    exact List.mem_of_mem_drop (List.mem_of_mem_take hr)
 | @ro v rows hl h1 =>
  cases hw with
  | c g =>
   cases g with
   | nil A c => exact ⟨A, c, rfl, fun h => absurd rfl h, fun _ h => by cases h⟩
   | r _ B off sz' n c hn hc hS hr hcell hg =>
    refine ⟨_, c, by rw [hn]; rfl, fun hne => ?_, fun row hrow => ⟨hl row hrow, fun u hu => ⟨hg row hrow u hu, (hg row hrow u hu).one (h1 row hrow u hu)⟩⟩⟩
    obtain ⟨r0, hr0⟩ : ∃ r, r ∈ news := by
     cases news with
     | nil => exact absurd rfl hne
     | cons r l => exact ⟨r, by simp⟩
    have hss : sz' = sz := by rw [← hr r0 hr0, hl r0 hr0]
    subst hss
    refine ⟨B, off, rfl, Nat.zero_le _, hR.hp.sS _ hS, hR.hp.sS _ hS, fun i r hi j u hu => ?_⟩
    unfold toV at hi
    rw [List.getElem?_map] at hi
    cases hr : news[i]? with
    | none => rw [hr] at hi; cases hi
    | some row =>
     rw [hr] at hi
     simp only [Option.map_some, Option.some.injEq] at hi
     subst hi
     rw [List.getElem?_map] at hu
     cases hy : row[j]? with
     | none => rw [hy] at hu; cases hu
     | some y =>
      rw [hy] at hu
      simp only [Option.map_some, Option.some.injEq] at hu
      subst hu
      exact hcell i j row y hr hy
theorem zt3 {sz : Nat} {cs : Array Value} : ∀ (rows : List (List CV)) (k0 : Nat), (∀ row ∈ rows, row.length = sz) → (k0 + rows.length) * sz ≤ cs.size → (∀ (k j : Nat) (row : List CV) (u : CV), rows[k]? = some row → row[j]? = some u → cs[(k0 + k) * sz + j]? = some u.den) →
    (cs.toList.drop (k0 * sz)).take (rows.length * sz) = (toV rows).flatten
 | [], k0, _, _, _ => by simp [toV]
 | row :: rows, k0, hl, hsz, h => by
  have hr := hl row (by simp)
  rw [List.length_cons] at hsz
  have ih := zt3 rows (k0 + 1) (fun r hr => hl r (by simp [hr])) (by rw [show k0 + 1 + rows.length = k0 + (rows.length + 1) from by omega]; exact hsz) (fun k j row' u hk hj => by
   have := h (k + 1) j row' u (by simpa using hk) hj
   rw [show k0 + 1 + k = k0 + (k + 1) from by omega]; exact this)
  have hfit : k0 * sz + sz ≤ cs.size := by
   have : (k0 + 1) * sz ≤ (k0 + (rows.length + 1)) * sz := Nat.mul_le_mul_right sz (by omega)
   rw [Nat.add_mul] at this; omega
  rw [List.length_cons, Nat.add_mul, Nat.one_mul, Nat.add_comm (rows.length * sz) sz, List.take_add, List.drop_drop]
  rw [show toV (row :: rows) = row.map CV.den :: toV rows from rfl, List.flatten_cons]
  rw [show k0 * sz + sz = (k0 + 1) * sz from by rw [Nat.add_mul]; omega, ih]
  congr 1
  refine List.ext_getElem? fun j => ?_
  rw [List.getElem?_take, List.getElem?_map]
  split
  ·rename_i hj
   have hjr : j < row.length := by omega
   have := h 0 j row row[j] rfl (List.getElem?_eq_getElem hjr)
   rw [Nat.add_zero] at this
   rw [List.getElem?_drop, Array.getElem?_toList, this, List.getElem?_eq_getElem hjr]
   rfl
  ·rw [List.getElem?_eq_none (by omega)]; rfl
theorem zL3 {sz : Nat} {rows : List (List CV)} (h : ∀ row ∈ rows, row.length = sz) : ∀ r ∈ toV rows, r.length = sz := fun r hr => by
 obtain ⟨row, hrow, rfl⟩ := List.mem_map.1 hr
 simpa using h row hrow
theorem own_of_arr {e : TypeId} {sz cap b : Nat} {rows : List (List CV)} (h : RH w S ρ H) (hH : H[b]? = some (.arr e sz cap rows)) : Own w 0 e sz ((AV.o b 0 rows.length cap).den ρ H) (toV rows) := by
 have hsz : szAt H b = sz := by unfold szAt; rw [hH]; rfl
 rcases h.blk _ _ hH with ⟨hn, rfl, rfl⟩ | ⟨B, cs, hB, hh, hcs, hmx, hrl, hrow, hcell⟩
 ·refine ⟨⟨by simp [toV], .inl ⟨?_, rfl⟩⟩, fun r hr => by cases hr⟩
  rw [AV.den, hn]; rfl
 ·have hl : ∀ row ∈ rows, row.length = sz := fun row hr => (hrow row hr).1
  have hcap : rows.length * sz ≤ cap * sz := Nat.mul_le_mul_right sz hrl
  refine ⟨⟨?_, .inr ⟨B, cap, cs, ?_, Nat.zero_le _, hh, by simpa [toV] using hrl, hmx, hcs, ?_⟩⟩, zL3 hl⟩
  ·have : ∀ l : List (List Value), (∀ r ∈ l, r.length = sz) → l.flatten.length = l.length * sz := by
    intro l; induction l with
    | nil => intro _; simp
    | cons x l ih => intro h; rw [List.flatten_cons, List.length_append, ih (fun r hr => h r (by simp [hr])), h x (by simp), List.length_cons, Nat.add_mul]; omega
   exact this _ (zL3 hl)
  ·rw [AV.den, hB, hsz]; simp [toV]
  ·have := zt3 (cs := cs) rows 0 hl (by rw [Nat.zero_add]; omega) (fun k j row u hk hj => by rw [Nat.zero_add]; exact hcell k j row u hk hj)
   simpa [toV] using this
theorem zb4 {sz : Nat} {xs : List Value} : ∀ (rows : List (List CV)), (∀ row ∈ rows, row.length = sz) → xs = (toV rows).flatten → ∀ (k j : Nat) (row : List CV) (u : CV), rows[k]? = some row → row[j]? = some u → xs[k * sz + j]? = some u.den := fun rows hl hx k j row u hk hj => by
 rw [hx]
 exact zg3 (toV rows) (zL3 hl) k (row.map CV.den) (by simp [toV, hk]) j u.den (by simp [hj])
theorem ef_app {t e : TypeId} {sz d b n cap : Nat} {s x : Operand} {v : AV} {rows news : List (List CV)} (ho : o.op = .call { callee := .builtin .append, args := #[s, x], argTypes := #[t, t] }) (hd : o.dst = some d) (hN : d < N) (hE : ElemTy P t e sz)
    (hs : ev F s = some (.o b 0 n cap)) (hH : H[b]? = some (.arr e sz cap rows)) (hn : n = rows.length) (hx : ev F x = some v) (hsrc : Src H sz v news) (hle : n + news.length ≤ 1073741824) (hpin : (∃ q, E.H0.length = q ∧ Nat.ble q b = true) ∨ E.pin = false := by first | exact Or.inl ⟨_, by assumption, rfl⟩ | exact Or.inr (by assumption)) :
    Ef P N E o F H fun F' H' => ∃ g c2, n + news.length ≤ c2 ∧ F' = (d, .o b 0 (n + news.length) c2) :: killF g [b] F ∧ H' = (H.map (killO g [b])).set b (.arr e sz c2 (rows ++ news)) := fun S ρ a w hR => by
 subst hn
 obtain ⟨g1, _⟩ := hR.ev hs
 obtain ⟨g3, g4⟩ := hR.ev hx
 obtain ⟨A, c, hv, hsl, hnews⟩ := hR.src g4 hsrc
 have hown := own_of_arr hR.hp hH
 obtain ⟨v', w', hrun, hO, hg, hat⟩ := run_app (P := P) (ty := o.type) hE hown (m := news.length) (news := toV news) (c := c) (by simp [toV]) hsl (zL3 fun row hr => (hnews row hr).1) (fun r hr u hu => by
  obtain ⟨row, hrow, rfl⟩ := List.mem_map.1 hr
  obtain ⟨y, hy, rfl⟩ := List.mem_map.1 hu
  exact ((hnews row hrow).2 y hy).2) (by simpa [toV] using hle) (Nat.zero_le _)
 obtain ⟨A2, c2, hv', hc2, -⟩ := hO.form
 have hblt : b < H.length := (List.getElem?_eq_some_iff.1 hH).1
 have hlen : (toV rows ++ toV news).length = rows.length + news.length := by simp [toV]
 have hob : ((AV.o b 0 rows.length cap).den ρ H).ownBlock = atB ρ b := by rw [AV.den]; cases atB ρ b <;> rfl
 rw [hob] at hg hat
 have he : ExB [b] ρ H (ρ.set b v'.ownBlock) ((H.map (killO (AV.den ρ H) [b])).set b (.arr e sz c2 (rows ++ news))) := by
  refine ⟨fun i hi hne => ?_, fun i hi hne => ?_, fun i hi hne => ?_, by simp⟩
  all_goals replace hne : i ≠ b := by simpa using hne
  ·unfold atB; rw [List.getElem?_set_ne (Ne.symm hne)]
  ·unfold szAt; rw [List.getElem?_set_ne (Ne.symm hne), List.getElem?_map, List.getElem?_eq_getElem hi]; simp [zj4]
  ·unfold capAt; rw [List.getElem?_set_ne (Ne.symm hne), List.getElem?_map, List.getElem?_eq_getElem hi]; simp [zI3]
 have hm : Mo w S w' S := fun k hk => ⟨hk, hg.block k (hR.hp.sS k hk) (fun e => hR.hp.ap b k e.symm hk)⟩
 have hatb : ∀ i, atB (ρ.set b v'.ownBlock) i = if i = b then v'.ownBlock else atB ρ i := fun i => by
  unfold atB
  rw [List.getElem?_set]
  by_cases hi : b = i
  ·subst hi; simp [hR.hp.len, hblt]
  ·simp [hi, Ne.symm hi]
 have hsub : ∀ i B, atB (ρ.set b v'.ownBlock) i = some B → (atB ρ i = some B) ∨ (i = b ∧ B = w.heap.size ∧ w.heap.size < w'.heap.size) := fun i B hi => by
  rw [hatb] at hi
  by_cases hib : i = b
  ·subst hib
   rw [if_pos rfl] at hi
   rcases hat with h | h
   ·exact .inl (h ▸ hi)
   ·refine .inr ⟨rfl, ?_, ?_⟩
    ·rw [hi] at h; injection h
    ·obtain ⟨_, hlt⟩ := hO.lt w.heap.size h; exact hlt
  ·rw [if_neg hib] at hi; exact .inl hi
 have hnl : ∀ row ∈ rows ++ news, row.length = sz ∧ ∀ u ∈ row, Good w S u ∧ u.den.oneCell' = true := fun row hr => by
  rcases List.mem_append.1 hr with hr | hr
  ·rcases hR.hp.blk _ _ hH with ⟨_, _, rfl⟩ | ⟨B, cs, hB, hh, hcs, hmx, hrl, hrow, hcell⟩
   ·cases hr
   ·exact hrow row hr
  ·exact hnews row hr
 have hin : ∀ i k B, inP ((H.map (killO (AV.den ρ H) [b])).set b (.arr e sz c2 (rows ++ news))) i k B → inP H i k B := fun i k B hi => inP_kill (inP_set (fun _ _ => arr_nopool) hi)
 unfold effO
 have hex : (execOp a.eval o).run P w = .ok (.value v') w' := by
  unfold execOp
  simp only [ho, resolve, invoke, builtin, Sem.run_bind, Sem.run_pure, Result.andThen_ok, List.map_toArray, List.map_cons, List.map_nil, g1, g3, hv, hrun]
 rw [hex]
 have hden : (AV.o b 0 (rows.length + news.length) c2).den (ρ.set b v'.ownBlock) ((H.map (killO (AV.den ρ H) [b])).set b (.arr e sz c2 (rows ++ news))) = v' := by
  rw [AV.den, hatb, if_pos rfl]
  rcases hO.1.2 with ⟨h1, h2⟩ | ⟨g, cap', cur, h1, _, _, _, _, _⟩
  ·rw [h1] at hv' ⊢
   injection hv' with h3 h4 h5
   rw [hlen] at h4
   simp [Value.ownBlock, ← h4, ← h5]
  ·rw [h1] at hv' ⊢
   injection hv' with h3 h4 h5
   subst h5
   simp [Value.ownBlock, hlen]
 refine ⟨S, ρ.set b v'.ownBlock, _, _, ⟨AV.den ρ H, c2, by rw [← hlen]; exact hc2, rfl, rfl⟩, ?_⟩
 rw [hd]
 show R N E S _ _ _ (a.put (some d) v') w'
 have hR' : R N E S (ρ.set b v'.ownBlock) (killF (AV.den ρ H) [b] F) ((H.map (killO (AV.den ρ H) [b])).set b (.arr e sz c2 (rows ++ news))) a w' := by
  refine ⟨hR.df, hR.sz, fun i y hy => ?_, ⟨by simpa using hR.hp.len, fun i i' B hi hi' => ?_, fun i B hi hS => ?_, fun i B hi => ?_, fun k hk => Nat.lt_of_lt_of_le (hR.hp.sS k hk) hg.size, fun i y hy => ?_, hR.hp.pl.mono hin (fun B hB => .inl hB) (fun j B hj => ?_) hg.size⟩, ?_, fun i B hi => ?_, hR.nS, fun i k B hi => hR.pw i k B (hin i k B hi), fun i hi => ?_, fun hpp i hi => ?_⟩
  rotate_left 5
  ·rcases hsub j B hj with h | ⟨_, h, _⟩
   ·exact .inl ⟨j, h⟩
   ·exact .inr (by omega)
  rotate_right 5
  ·obtain ⟨y', h1, rfl⟩ := zm2 hy
   obtain ⟨h2, h3⟩ := hR.fr i y' h1
   obtain ⟨h4, h5⟩ := h3.killed he hm
   exact ⟨by rw [h4]; exact h2, h5⟩
  ·rcases hsub i B hi with h | ⟨h, h1, _⟩ <;> rcases hsub i' B hi' with h' | ⟨h', h1', _⟩
   ·exact hR.hp.nd i i' B h h'
   ·have := hR.hp.lt i B h; omega
   ·have := hR.hp.lt i' B h'; omega
   ·omega
  ·rcases hsub i B hi with h | ⟨h, h1, _⟩
   ·exact hR.hp.ap i B h hS
   ·have := hR.hp.sS B hS; omega
  ·rcases hsub i B hi with h | ⟨h, h1, h2⟩
   ·exact Nat.lt_of_lt_of_le (hR.hp.lt i B h) hg.size
   ·omega
  ·rw [List.getElem?_set] at hy
   split at hy
   ·rename_i hbi
    subst hbi
    split at hy
    ·injection hy with hy
     subst hy
     rw [hatb, if_pos rfl]
     rcases hO.1.2 with ⟨h1, h2⟩ | ⟨g, cap', cur, h1, h0, h2, h3, h4, h5, h6⟩
     ·refine .inl ⟨by rw [h1]; rfl, ?_, ?_⟩
      ·rw [h1] at hv'; injection hv' with _ _ h5; exact h5.symm
      ·have : (rows ++ news).length = 0 := by rw [hlen] at h2; simpa using h2
       exact List.eq_nil_of_length_eq_zero this
     ·have hcc : cap' = c2 := by rw [h1] at hv'; injection hv'
      subst hcc
      refine .inr ⟨g, cur, by rw [h1]; rfl, h2, h5, h4, by rw [hlen] at h3; simpa using h3, fun row hr => ⟨(hnl row hr).1, fun u hu => ⟨((hnl row hr).2 u hu).1.mono hm, ((hnl row hr).2 u hu).2⟩⟩, fun k j row u hk hj => ?_⟩
      have h7 := zb4 (rows ++ news) (fun row hr => (hnl row hr).1) (xs := cur.toList.take ((toV rows ++ toV news).length * sz)) (by rw [h6]; simp [toV]) k j row u hk hj
      rw [List.getElem?_take] at h7
      split at h7
      ·rw [← Array.getElem?_toList]; exact h7
      ·cases h7
    ·cases hy
   ·rename_i hbi
    rw [List.getElem?_map] at hy
    cases hz : H[i]? with
    | none => rw [hz] at hy; cases hy
    | some ob =>
     rw [hz] at hy
     simp only [Option.map_some, Option.some.injEq] at hy
     subst hy
     rw [hatb, if_neg (Ne.symm hbi)]
     exact (hR.hp.blk i ob hz).killed he hm (fun B hB => hg.block B (hR.hp.lt i B hB) (fun e => hbi (hR.hp.nd _ _ _ e.symm hB))) (fun k B hB => by
      obtain ⟨_, q2, q3⟩ := hR.hp.pl.ps i k B ⟨ob, hz, hB⟩
      exact hg.block B q3 (fun e => q2 b e.symm))
  ·refine hR.st.trans (T := fun k => atB ρ b = some k) ⟨hg.os, hg.tape, hg.output, hg.size, fun k hk hne => hg.block k hk (fun e => hne e.symm), zP2 _ _ hrun⟩ (fun k hk hT => ?_)
   rcases hR.nw b k hT with (h | h) | h
   ·omega
   ·exact .inr h
   ·exact .inl ⟨_, h.2⟩
  ·rcases hsub i B hi with h | ⟨h, h1, h2⟩
   ·exact hR.nw i B h
   ·exact .inl (.inl (by rw [h1]; exact hR.st.size))
  ·obtain ⟨h1, h2⟩ := hR.ln i hi
   refine ⟨by simpa using h1, fun o ho hs => ?_⟩
   obtain ⟨h3, o', h4, h5⟩ := h2 o ho hs
   have hne : i ≠ b := fun e => by rw [e, hH] at h4; injection h4 with h4; subst h4; exact hs h5.symm
   exact ⟨by rw [hatb, if_neg hne]; exact h3, killO (AV.den ρ H) [b] o', by rw [List.getElem?_set_ne (Ne.symm hne), List.getElem?_map, h4]; rfl, by rw [zH3]; exact h5⟩
  ·have hne : i ≠ b := fun e => by
    rcases hpin with ⟨q, h1, h2⟩ | h1
    ·have := Nat.le_of_ble_eq_true h2; omega
    ·rw [h1] at hpp; cases hpp
   have hil := (hR.ln i hi).1
   obtain ⟨h1, h2, h3⟩ := hR.pn hpp i hi
   exact ⟨by rw [hatb, if_neg hne]; exact h1, by rw [he.sz i hil (by simpa using hne)]; exact h2, by rw [he.cap i hil (by simpa using hne)]; exact h3⟩
 have hfin := hR'.put (d := d) (x := .o b 0 (rows.length + news.length) c2) hN (.o (by simpa using hblt) (by rw [← hlen]; exact hc2) (by simp [capAt, hblt, OB.cap]) (fun h => by
  rw [hatb, if_pos rfl] at h
  rcases hO.1.2 with ⟨h1, h2⟩ | ⟨g, cap', cur, h1, _⟩
  ·rw [hlen] at h2
   rw [h1] at hv'
   injection hv' with _ h4 h5
   exact ⟨h2, h5.symm⟩
  ·rw [h1] at h; cases h))
 rw [hden] at hfin
 exact hfin
end
end
end Go.Proofs.YtlhbfcfjepbhpaaGreatDoor
