/- The logic over values: how a state stays, and what operations read. -/
import Derived.Test.YtcchlddiggmcaaaGreatDoorQac
set_option linter.unusedSimpArgs false
set_option linter.unusedVariables false
namespace Go.Proofs.YtcchlddiggmcaaaGreatDoor
open Go Go.RowKit
structure Ex (ρ : List (Option Nat)) (H : List OB) (ρ' : List (Option Nat)) (H' : List OB) : Prop where
 at_ : ∀ b, b < H.length → atB ρ' b = atB ρ b
 sz : ∀ b, b < H.length → szAt H' b = szAt H b
 cap : ∀ b, b < H.length → capAt H' b = capAt H b
 len : H.length ≤ H'.length
 bx : ∀ (b : Nat) (o : OB), H[b]? = some o → o.shp ≠ 0 → ∃ o', H'[b]? = some o' ∧ o'.shp = o.shp
theorem Ex.refl (ρ : List (Option Nat)) (H : List OB) : Ex ρ H ρ H := ⟨fun _ _ => rfl, fun _ _ => rfl, fun _ _ => rfl, Nat.le_refl _, fun _ o h _ => ⟨o, h, rfl⟩⟩
def Mo (w : World) (S : Nat → Prop) (w' : World) (S' : Nat → Prop) : Prop := ∀ b, S b → S' b ∧ w'.heap[b]? = w.heap[b]?
section
variable {w w' : World} {S S' : Nat → Prop} {ρ ρ' : List (Option Nat)} {H H' : List OB} {x : AV}
theorem WF.den_ex (h : WF w S ρ H x) (he : Ex ρ H ρ' H') : x.den ρ' H' = x.den ρ H := by
 induction h with
 | c h => rfl
 | p h0 h => simp only [AV.den, he.at_ _ h0, he.sz _ h0]
 | o h0 h1 h2 h3 => simp only [AV.den, he.at_ _ h0, he.sz _ h0]
 | q h1 h2 h3 => rfl
 | a h ih => simp only [AV.den, AV.denL_eq]; rw [List.map_congr_left ih]
 | t h ih => simp only [AV.den, AV.denL_eq]; rw [List.map_congr_left ih]
 | f h ih => simp only [AV.den, AV.denL_eq]; rw [List.map_congr_left ih]
 | mp h0 h => simp only [AV.den, he.at_ _ h0]
theorem WF.ex (h : WF w S ρ H x) (he : Ex ρ H ρ' H') (hm : Mo w S w' S') : WF w' S' ρ' H' x := by
 induction h with
 | c h => exact .c (h.mono hm)
 | p h0 h => exact .p (Nat.lt_of_lt_of_le h0 he.len) (by rw [he.at_ _ h0]; exact h)
 | o h0 h1 h2 h3 => exact .o (Nat.lt_of_lt_of_le h0 he.len) h1 (by rw [he.cap _ h0]; exact h2) (by rw [he.at_ _ h0]; exact h3)
 | q h1 h2 h3 => exact .q (hm _ h1).1 (fun i u hu => by rw [World.cell?_of_block (w := w) (hm _ h1).2]; exact h2 i u hu) (fun u hu => (h3 u hu).mono hm)
 | a h ih => exact .a ih
 | t h ih => exact .t ih
 | f h ih => exact .f ih
 | mp h0 h => exact .mp (Nat.lt_of_lt_of_le h0 he.len) (by rw [he.at_ _ h0]; exact h)
theorem OwnB.pool_ex {ρ ρ' : List (Option Nat)} {H H' : List OB} {l : List PE} {m : Option Nat} (h : OwnB w S ρ H (.pool l) m) (hm : Mo w S w' S') (hT : ∀ k B, (OB.pool l).hasP k B → w'.heap[B]? = w.heap[B]?) : OwnB w' S' ρ' H' (.pool l) m :=
 ⟨h.1, fun e he => (h.2 e he).mono (fun u hu => hu.mono hm) (fun B hB => by
  obtain ⟨k, hk⟩ := List.getElem?_of_mem he
  exact hT k B ⟨l, e, rfl, hk, hB⟩)⟩
theorem OwnB.ex {o : OB} {m : Option Nat} (h : OwnB w S ρ H o m) (he : Ex ρ H ρ' H') (hm : Mo w S w' S') (hB : ∀ B, m = some B → w'.heap[B]? = w.heap[B]?) (hT : ∀ k B, o.hasP k B → w'.heap[B]? = w.heap[B]?) : OwnB w' S' ρ' H' o m := by
 cases o with
 | pool l => exact h.pool_ex hm hT
 | box l =>
  obtain ⟨B, t, rfl, h1, h2⟩ := h
  refine ⟨B, t, rfl, ?_, fun x hx => ⟨(h2 x hx).1.ex he hm, by rw [(h2 x hx).1.den_ex he]; exact (h2 x hx).2⟩⟩
  rw [hB B rfl, h1, List.map_congr_left (fun x hx => ((h2 x hx).1.den_ex he).symm)]
 | arr e sz cap rows =>
  rcases h with h | ⟨B, cs, rfl, h1, h2, hm2, h3, h4, h5⟩
  ·exact .inl h
  ·exact .inr ⟨B, cs, rfl, by rw [hB B rfl]; exact h1, h2, hm2, h3, fun row hr => ⟨(h4 row hr).1, fun u hu => ⟨((h4 row hr).2 u hu).1.mono hm, ((h4 row hr).2 u hu).2⟩⟩, h5⟩
 | dead => trivial
 | eqv x v => exact ⟨by rw [h.2.den_ex he]; exact h.1, h.2.ex he hm⟩
 | map es ck =>
  obtain ⟨B, ms, rfl, h1, h2, h3⟩ := h
  exact ⟨B, ms, rfl, by rw [hB B rfl]; exact h1, h2, fun e he' => (h3 e he').mono hm⟩
 | itr b since seen last =>
  obtain ⟨B, rfl, h1, h2, h3⟩ := h
  exact ⟨B, rfl, by rw [hB B rfl, he.at_ b h2]; exact h1, Nat.lt_of_lt_of_le h2 he.len, by rw [he.at_ b h2]; exact h3⟩
 | sit s pos =>
  obtain ⟨B, rfl, h1⟩ := h
  exact ⟨B, rfl, by rw [hB B rfl]; exact h1⟩
 | boxt t l =>
  obtain ⟨B, rfl, h1, h2⟩ := h
  refine ⟨B, rfl, ?_, fun x hx => ⟨(h2 x hx).1.ex he hm, by rw [(h2 x hx).1.den_ex he]; exact (h2 x hx).2⟩⟩
  rw [hB B rfl, h1, List.map_congr_left (fun x hx => ((h2 x hx).1.den_ex he).symm)]
 | bts v l =>
  obtain ⟨B, cs, e, n, rfl, h1, h2, h3⟩ := h
  exact ⟨B, cs, e, n, rfl, h1, by rw [hB B rfl]; exact h2, h3⟩
end
section
variable {P : Program} {N : Nat} {E : Env} {S S' : Nat → Prop} {ρ ρ' : List (Option Nat)} {F : Fm} {H H' : List OB} {a : Act} {w w' : World}
theorem R.ex (h : R N E S ρ F H a w) (he : Ex ρ H ρ' H') (hm : Mo w S w' S') (hp : RH w' S' ρ' H') (st : Stp E.w0 w' E.W) (nw : ∀ i B, atB ρ' i = some B → (E.w0.heap.size ≤ B ∨ ∃ i k, inP E.H0 i k B) ∨ (i < E.H0.length ∧ atB E.r0 i = some B)) (nS : ∀ b, S' b → E.S0 b ∨ (E.w0.heap.size ≤ b ∨ ∃ i k, inP E.H0 i k b)) (pw : ∀ i k B, inP H' i k B → E.w0.heap.size ≤ B ∨ ∃ i k, inP E.H0 i k B) :
    R N E S' ρ' F H' a w' :=
 ⟨h.df, h.sz, fun i x hx => by
  obtain ⟨h1, h2⟩ := h.fr i x hx
  exact ⟨by rw [h2.den_ex he]; exact h1, h2.ex he hm⟩, hp, st, nw, nS, pw, fun i hi => by
  obtain ⟨h1, h2⟩ := h.ln i hi
  refine ⟨Nat.lt_of_lt_of_le h1 he.len, fun o ho hs => ?_⟩
  obtain ⟨h3, o', h4, h5⟩ := h2 o ho hs
  obtain ⟨o2, h6, h7⟩ := he.bx i o' h4 (by rw [h5]; exact hs)
  exact ⟨by rw [he.at_ i h1]; exact h3, o2, h6, h7.trans h5⟩, fun hp i hi => by
  have h1 := (h.ln i hi).1
  obtain ⟨h2, h3, h4⟩ := h.pn hp i hi
  exact ⟨by rw [he.at_ i h1]; exact h2, by rw [he.sz i h1]; exact h3, by rw [he.cap i h1]; exact h4⟩⟩
theorem atB_lt {b B : Nat} (h : atB ρ b = some B) : b < ρ.length := by
 unfold atB at h
 rcases Nat.lt_or_ge b ρ.length with h' | h'
 ·exact h'
 ·rw [List.getElem?_eq_none h'] at h; cases h
theorem zk1 {b : Nat} {m : Option Nat} : atB (ρ ++ [m]) b = if b = ρ.length then m else atB ρ b := by
 unfold atB
 by_cases h : b = ρ.length
 ·subst h; simp
 ·rw [if_neg h]
  rcases Nat.lt_or_ge b ρ.length with h' | h'
  ·rw [List.getElem?_append_left h']
  ·rw [List.getElem?_eq_none (by simp; omega), List.getElem?_eq_none h']
theorem Ex.snoc (hl : ρ.length = H.length) (m : Option Nat) (o : OB) : Ex ρ H (ρ ++ [m]) (H ++ [o]) := by
 refine ⟨fun b hb => ?_, fun b hb => ?_, fun b hb => ?_, by simp, fun b o hb _ => ⟨o, by rw [List.getElem?_append_left (List.getElem?_eq_some_iff.1 hb).1]; exact hb, rfl⟩⟩
 ·rw [zk1, if_neg (by omega)]
 ·unfold szAt; rw [List.getElem?_append_left hb]
 ·unfold capAt; rw [List.getElem?_append_left hb]
theorem Mo.alloc (h : RH w S ρ H) (o : Obj) : Mo w S (w.alloc o) S := fun b hb => ⟨hb, Below.heap_alloc w o b (h.sS b hb)⟩
theorem Mo.refl : Mo w S w S := fun _ hb => ⟨hb, rfl⟩
theorem OwnB.nopool {o : OB} {B : Nat} (h : OwnB w S ρ H o (some B)) {k b : Nat} : ¬ o.hasP k b := fun hp => by
 obtain ⟨l, rfl⟩ := hasP_pool hp
 exact absurd h.1 (by simp)
theorem inP_snoc {o : OB} {i k B : Nat} (ho : ∀ k B, ¬ o.hasP k B) (h : inP (H ++ [o]) i k B) : inP H i k B := by
 obtain ⟨o', h1, h2⟩ := h
 rw [List.getElem?_append] at h1
 split at h1
 ·exact ⟨o', h1, h2⟩
 ·rw [List.getElem?_singleton] at h1
  split at h1
  ·injection h1 with h1; subst h1; exact absurd h2 (ho k B)
  ·cases h1
theorem inP_set {o : OB} {b i k B : Nat} (ho : ∀ k B, ¬ o.hasP k B) (h : inP (H.set b o) i k B) : inP H i k B := by
 obtain ⟨o', h1, h2⟩ := h
 rw [List.getElem?_set] at h1
 split at h1
 ·split at h1
  ·injection h1 with h1; subst h1; exact absurd h2 (ho k B)
  ·cases h1
 ·exact ⟨o', h1, h2⟩
theorem RH.newO (h : RH w S ρ H) (ob : Obj) (o : OB) (ho : OwnB (w.alloc ob) S (ρ ++ [some w.heap.size]) (H ++ [o]) o (some w.heap.size)) : RH (w.alloc ob) S (ρ ++ [some w.heap.size]) (H ++ [o]) := by
 refine ⟨by simp [h.len], fun i i' B hi hi' => ?_, fun i B hi hS => ?_, fun i B hi => ?_, fun b hb => ?_, fun i x hx => ?_, h.pl.mono (fun i k B => inP_snoc fun k B => ho.nopool) (fun B hB => .inl hB) (fun j B hj => ?_) (by simp)⟩
 rotate_right
 ·rw [zk1] at hj
  split at hj
  ·injection hj with hj; subst hj; exact .inr (Nat.le_refl _)
  ·exact .inl ⟨j, hj⟩
 ·rw [zk1] at hi hi'
  split at hi <;> split at hi'
  ·omega
  ·injection hi with hi; subst hi; have := h.lt _ _ hi'; omega
  ·injection hi' with hi'; subst hi'; have := h.lt _ _ hi; omega
  ·exact h.nd i i' B hi hi'
 ·rw [zk1] at hi
  split at hi
  ·injection hi with hi; subst hi; have := h.sS _ hS; omega
  ·exact h.ap i B hi hS
 ·rw [zk1] at hi
  split at hi
  ·injection hi with hi; subst hi; simp
  ·have := h.lt i B hi; simp; omega
 ·have := h.sS b hb; simp; omega
 ·rw [zk1]
  by_cases hi : i = ρ.length
  ·rw [if_pos hi]
   subst hi
   rw [h.len, List.getElem?_append_right (Nat.le_refl _)] at hx
   simp at hx
   subst hx
   exact ho
  ·rw [if_neg hi]
   have hlt : i < H.length := by
    rcases Nat.lt_or_ge i H.length with h' | h'
    ·exact h'
    ·rw [List.getElem?_eq_none (by have := h.len; simp; omega)] at hx; cases hx
   rw [List.getElem?_append_left hlt] at hx
   exact (h.blk i x hx).ex (Ex.snoc h.len _ _) (Mo.alloc h _) (fun B hB => Below.heap_alloc w _ B (h.lt i B hB)) (fun k B hB => Below.heap_alloc w _ B (h.pl.ps i k B ⟨x, hx, hB⟩).2.2)
theorem R.newO (h : R N E S ρ F H a w) (ob : Obj) (o : OB) (ho : OwnB (w.alloc ob) S (ρ ++ [some w.heap.size]) (H ++ [o]) o (some w.heap.size)) :
    R N E S (ρ ++ [some w.heap.size]) F (H ++ [o]) a (w.alloc ob) :=
 h.ex (Ex.snoc h.hp.len _ _) (Mo.alloc h.hp _) (h.hp.newO ob o ho) (h.st.alloc _) (fun i B hi => by
  rw [zk1] at hi
  split at hi
  ·injection hi with hi; subst hi; exact .inl (.inl h.st.size)
  ·exact h.nw i B hi) h.nS (fun i k B hi => h.pw i k B (inP_snoc (fun k B => ho.nopool) hi))
theorem RH.new (h : RH w S ρ H) (cs : Array Value) (t : TypeId) (o : OB) (ho : OwnB (w.alloc (.cells cs t)) S (ρ ++ [some w.heap.size]) (H ++ [o]) o (some w.heap.size)) : RH (w.alloc (.cells cs t)) S (ρ ++ [some w.heap.size]) (H ++ [o]) := h.newO _ o ho
theorem R.new (h : R N E S ρ F H a w) (cs : Array Value) (t : TypeId) (o : OB) (ho : OwnB (w.alloc (.cells cs t)) S (ρ ++ [some w.heap.size]) (H ++ [o]) o (some w.heap.size)) :
    R N E S (ρ ++ [some w.heap.size]) F (H ++ [o]) a (w.alloc (.cells cs t)) := h.newO _ o ho
theorem heap_new (w : World) (o : Obj) : (w.alloc o).heap[w.heap.size]? = some o := by
 show (w.heap.push o)[w.heap.size]? = some o
 simp
theorem OwnB.box_new (h : R N E S ρ F H a w) (l : List AV) (t : TypeId) (hl : ∀ x ∈ l, WF w S ρ H x ∧ (x.den ρ H).oneCell' = true) :
    OwnB (w.alloc (.cells (l.map (AV.den ρ H)).toArray t)) S (ρ ++ [some w.heap.size]) (H ++ [.box l]) (.box l) (some w.heap.size) := by
 have he := Ex.snoc (ρ := ρ) (H := H) h.hp.len (some w.heap.size) (.box l)
 refine ⟨_, t, rfl, ?_, fun x hx => ⟨(hl x hx).1.ex he (Mo.alloc h.hp _), by rw [(hl x hx).1.den_ex he]; exact (hl x hx).2⟩⟩
 rw [heap_new, List.map_congr_left (fun x hx => ((hl x hx).1.den_ex he).symm)]
def ldk (P : Program) (t : TypeId) : Option (Option Nat) :=
 match P.underlying t, P.info? t with
 | some (.struct _), some i => some (some i.size)
 | some (.array _ _), some i => some (some i.size)
 | some _, some i => if i.size = 1 then some none else none
 | _, _ => none
theorem ldk_none {t : TypeId} (h : ldk P t = some none) : (isAgg t).run P w = .ok false w ∧ (sizeOf t).run P w = .ok 1 w := by
 unfold ldk at h
 cases hu : P.underlying t with
 | none => rw [hu] at h; simp at h
 | some d =>
  cases hi : P.info? t with
  | none => rw [hu, hi] at h; cases d <;> simp at h
  | some i =>
   rw [hu, hi] at h
   have hs : i.size = 1 := by cases d <;> simp at h <;> exact h
   have hu' : (underlying t).run P w = .ok d w := by unfold underlying; simp [hu]
   refine ⟨?_, by simp [sizeOf, typeInfo, hi, hs]⟩
   unfold isAgg
   rw [Sem.run_bind, hu']
   cases d <;> simp at h ⊢
theorem zb2 {t : TypeId} {n : Nat} (h : ldk P t = some (some n)) : (isAgg t).run P w = .ok true w ∧ (sizeOf t).run P w = .ok n w := by
 unfold ldk at h
 cases hu : P.underlying t with
 | none => rw [hu] at h; simp at h
 | some d =>
  cases hi : P.info? t with
  | none => rw [hu, hi] at h; cases d <;> simp at h
  | some i =>
   rw [hu, hi] at h
   have hu' : (underlying t).run P w = .ok d w := by unfold underlying; simp [hu]
   have hs : i.size = n := by cases d <;> simp at h <;> exact h
   refine ⟨?_, by simp [sizeOf, typeInfo, hi, hs]⟩
   unfold isAgg
   rw [Sem.run_bind, hu']
   cases d <;> simp at h ⊢
inductive Cells (H : List OB) : AV → List AV → Prop where
 | box {b j : Nat} {l : List AV} (h : H[b]? = some (.box l)) : Cells H (.p b 0 j) (l.drop j)
 | boxt {b j : Nat} {t : TypeId} {l : List AV} (h : H[b]? = some (.boxt t l)) : Cells H (.p b 0 j) (l.drop j)
 | arr {b k j sz cap : Nat} {e : TypeId} {rows : List (List CV)} {row : List CV} (h : H[b]? = some (.arr e sz cap rows)) (hk : rows[k]? = some row) : Cells H (.p b k j) ((row.drop j).map .c)
 | q {v : Value} {k sz j : Nat} {row : List CV} : Cells H (.q v k sz row j) ((row.drop j).map .c)
theorem R.cells {v : AV} {cs : List AV} (h : R N E S ρ F H a w) (hw : WF w S ρ H v) (hc : Cells H v cs) : ∃ B off, v.den ρ H = .pointer (some ⟨B, off, none⟩) ∧
    ∀ i x, cs[i]? = some x → w.cell? ⟨B, off + i, none⟩ = some (x.den ρ H) ∧ WF w S ρ H x := by
 cases hc with
 | @box b j l hb =>
  obtain ⟨B, t, hm, h1, h2⟩ := h.hp.blk _ _ hb
  refine ⟨B, j, by simp [AV.den, hm], fun i x hx => ?_⟩
  rw [List.getElem?_drop] at hx
  refine ⟨?_, (h2 x (List.mem_of_getElem? hx)).1⟩
  unfold World.cell?
  rw [h1]
  simp [hx]
 | @boxt b j t l hb =>
  obtain ⟨B, hm, h1, h2⟩ := h.hp.blk _ _ hb
  refine ⟨B, j, by simp [AV.den, hm], fun i x hx => ?_⟩
  rw [List.getElem?_drop] at hx
  refine ⟨?_, (h2 x (List.mem_of_getElem? hx)).1⟩
  unfold World.cell?
  rw [h1]
  simp [hx]
 | @arr b k j sz cap e rows row hb hk =>
  have hsz : szAt H b = sz := by unfold szAt; rw [hb]; rfl
  rcases h.hp.blk _ _ hb with ⟨_, _, rfl⟩ | ⟨B, cs, hm, h1, h2, _, h3, h4, h5⟩
  ·simp at hk
  ·refine ⟨B, k * sz + j, by simp [AV.den, hm, hsz], fun i x hx => ?_⟩
   rw [List.getElem?_map, List.getElem?_drop] at hx
   cases hu : row[j + i]? with
   | none => rw [hu] at hx; cases hx
   | some u =>
    rw [hu] at hx
    simp only [Option.map_some, Option.some.injEq] at hx
    subst hx
    have := h5 k (j + i) row u hk hu
    refine ⟨?_, .c ((h4 row (List.mem_of_getElem? hk)).2 u (List.mem_of_getElem? hu)).1⟩
    unfold World.cell?
    rw [h1]
    simpa [Nat.add_assoc, AV.den] using this
 | @q v k sz j row =>
  cases hw with
  | @q B off n c _ _ _ _ h1 h2 h3 =>
   refine ⟨B, off + k * sz + j, rfl, fun i x hx => ?_⟩
   rw [List.getElem?_map, List.getElem?_drop] at hx
   cases hu : row[j + i]? with
   | none => rw [hu] at hx; cases hx
   | some u =>
    rw [hu] at hx
    simp only [Option.map_some, Option.some.injEq] at hx
    subst hx
    have := h2 (j + i) u hu
    exact ⟨by rw [Nat.add_assoc]; exact this, .c (h3 u (List.mem_of_getElem? hu))⟩
theorem zo1 {B off : Nat} {vs : List Value} : ∀ (n i : Nat) (acc : Array Value), (∀ k, k < n → w.cell? ⟨B, off + (i + k), none⟩ = vs[i + k]?) → i + n ≤ vs.length →
    (loadCellsFrom ⟨B, off, none⟩ i n acc).run P w = .ok (acc ++ ((vs.drop i).take n).toArray) w
 | 0, i, acc, _, _ => by simp [loadCellsFrom]
 | n + 1, i, acc, h, hl => by
  have h0 := h 0 (by omega)
  have hlt : i < vs.length := by omega
  rw [Nat.add_zero] at h0
  have hadd : (⟨B, off, none⟩ : Addr).add i = ⟨B, off + i, none⟩ := by
   unfold Addr.add; split
   ·rename_i h; subst h; rfl
   ·rfl
  unfold loadCellsFrom
  rw [Sem.run_bind, run_load, hadd, h0, List.getElem?_eq_getElem hlt]
  simp only [Result.andThen_ok]
  rw [zo1 n (i + 1) _ (fun k hk => by have := h (k + 1) (by omega); rw [show i + 1 + k = i + (k + 1) from by omega]; exact this) (by omega)]
  congr 1
  rw [List.drop_eq_getElem_cons hlt, List.take_succ_cons]
  simp
end
end Go.Proofs.YtcchlddiggmcaaaGreatDoor
