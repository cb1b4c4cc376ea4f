/- The program's fault of a mesh, by value: a map of sides. -/
import Derived.Test.YtlblimbelfenaaaGreatQap
import Derived.Maps.RangeRun
import Derived.Test.YtlblimbelfenaaaGreatQar
import Derived.Laws.StructEq
set_option linter.unusedSimpArgs false
set_option linter.unusedVariables false
/- The logic over values: maps; walks through maps and strings. -/
namespace Go.Proofs.YtlblimbelfenaaaGreat
open Go Go.RowKit
structure Enc (α : Type) where
 v : α → Value
 x : α → AV
 den : ∀ a ρ H, (x a).den ρ H = v a
 wf : ∀ a w S ρ H, WF w S ρ H (x a)
section
variable {P : Program} {w : World}
theorem mp_under {t : TypeId} {d : TypeDesc} (h : P.underlying t = some d) : (underlying t).run P w = .ok d w := by unfold underlying; simp [h]
theorem mp_get {b ck : Nat} {ms : Array MapEntry} (h : w.heap[b]? = some (.map ms ck)) : (getObj b).run P w = .ok (.map ms ck) w := by
 unfold getObj
 simp [Sem.run, h]
theorem mp_put {B ck : Nat} {ob : Obj} {ms : Array MapEntry} (h : w.heap[B]? = some (.map ms ck)) : (setObj B ob).run P w = .ok () (putBlk w B ob) := by
 unfold setObj
 simp [Sem.run, h, putBlk]
def kpos {α : Type} [DecidableEq α] (a : α) : List α → Nat → Option Nat
 | [], _ => none
 | b :: l, i => if a = b then some i else kpos a l (i + 1)
structure KeyOk (P : Program) (kt : TypeId) {α : Type} [DecidableEq α] (e : Enc α) : Prop where
 chk : ∀ b a w, (Instr.checkKey b 10000 kt (e.v a)).run P w = .ok () w
 bits : ∀ a, Instr.sameBits 10000 (e.v a) (e.v a) = true
 find : ∀ (ms : List MapEntry) (l : List α) a w, ms.map (·.key) = l.map e.v → ∃ r, (Instr.findKey kt (e.v a) ms).run P w = .ok r w ∧ (kpos a l 0 = none → r = none) ∧ ∀ i, kpos a l 0 = some i → ∃ m, ms[i]? = some m ∧ r = some (i, m.val)
theorem findNow_of {α : Type} [DecidableEq α] {e : Enc α} {d : TypeDesc} (hn : ∀ a b, Instr.sameNow d (e.v a) (e.v b) = some (decide (a = b))) (a : α) : ∀ (ms : List MapEntry) (l : List α) (i : Nat), ms.map (·.key) = l.map e.v → ∃ r, Instr.findNow d (e.v a) ms i = some r ∧ (kpos a l i = none → r = none) ∧ ∀ j, kpos a l i = some j → ∃ m, i ≤ j ∧ ms[j - i]? = some m ∧ r = some (j, m.val)
 | [], [], i, _ => ⟨none, rfl, fun _ => rfl, fun j h => (by cases h)⟩
 | [], _ :: _, _, h => (by simp at h)
 | _ :: _, [], _, h => (by simp at h)
 | m :: ms, b :: l, i, h => by
  simp only [List.map_cons, List.cons.injEq] at h
  unfold Instr.findNow kpos
  rw [h.1, hn]
  by_cases hab : a = b
  ·rw [decide_eq_true hab, if_pos hab]
   exact ⟨_, rfl, fun h => (by cases h), fun j hj => (by injection hj with hj; subst hj; exact ⟨m, Nat.le_refl _, by simp, rfl⟩)⟩
  ·rw [decide_eq_false hab, if_neg hab]
   obtain ⟨r, h1, h2, h3⟩ := findNow_of hn a ms l (i + 1) h.2
   refine ⟨r, h1, h2, fun j hj => ?_⟩
   obtain ⟨m', g1, g2, g3⟩ := h3 j hj
   exact ⟨m', by omega, by rw [show j - i = (j - (i + 1)) + 1 by omega, List.getElem?_cons_succ]; exact g2, g3⟩
theorem findAsk_of {α : Type} [DecidableEq α] {e : Enc α} {kt : TypeId} (he : ∀ a b w, (Op.equal kt (e.v a) (e.v b)).run P w = .ok (decide (a = b)) w) (a : α) : ∀ (ms : List MapEntry) (l : List α) (i : Nat), ms.map (·.key) = l.map e.v → ∃ r, (Instr.findAsking kt (e.v a) ms i).run P w = .ok r w ∧ (kpos a l i = none → r = none) ∧ ∀ j, kpos a l i = some j → ∃ m, i ≤ j ∧ ms[j - i]? = some m ∧ r = some (j, m.val)
 | [], [], i, _ => ⟨none, rfl, fun _ => rfl, fun j h => (by cases h)⟩
 | [], _ :: _, _, h => (by simp at h)
 | _ :: _, [], _, h => (by simp at h)
 | m :: ms, b :: l, i, h => by
  simp only [List.map_cons, List.cons.injEq] at h
  unfold Instr.findAsking kpos
  simp only [Sem.run_bind]
  rw [h.1, he]
  simp only [Result.andThen_ok]
  by_cases hab : a = b
  ·rw [decide_eq_true hab, if_pos hab, if_pos rfl]
   exact ⟨_, rfl, fun h => (by cases h), fun j hj => (by injection hj with hj; subst hj; exact ⟨m, Nat.le_refl _, by simp, rfl⟩)⟩
  ·rw [decide_eq_false hab, if_neg hab, if_neg (by simp)]
   obtain ⟨r, h1, h2, h3⟩ := findAsk_of he a ms l (i + 1) h.2
   refine ⟨r, h1, h2, fun j hj => ?_⟩
   obtain ⟨m', g1, g2, g3⟩ := h3 j hj
   exact ⟨m', by omega, by rw [show j - i = (j - (i + 1)) + 1 by omega, List.getElem?_cons_succ]; exact g2, g3⟩
theorem KeyOk.ask {kt : TypeId} {α : Type} [DecidableEq α] {e : Enc α} {d : TypeDesc} (hu : P.underlying kt = some d) (hn : ∀ a b, Instr.sameNow d (e.v a) (e.v b) = none) (he : ∀ a b w, (Op.equal kt (e.v a) (e.v b)).run P w = .ok (decide (a = b)) w) (hc : ∀ b a w, (Instr.checkKey b 10000 kt (e.v a)).run P w = .ok () w) (hb : ∀ a, Instr.sameBits 10000 (e.v a) (e.v a) = true) : KeyOk P kt e :=
 ⟨hc, hb, fun ms l a w h => by
  obtain ⟨r, h1, h2, h3⟩ := findAsk_of (w := w) he a ms l 0 h
  cases ms with
  | nil =>
   cases l with
   | nil => exact ⟨none, by unfold Instr.findKey; simp only [Sem.run_bind, mp_under hu, Result.andThen_ok, Instr.findNow]; rfl, fun _ => rfl, fun i hi => (by cases hi)⟩
   | cons b l => simp at h
  | cons m ms =>
   cases l with
   | nil => simp at h
   | cons b l =>
    refine ⟨r, ?_, h2, fun i hi => ?_⟩
    ·unfold Instr.findKey
     simp only [Sem.run_bind, mp_under hu, Result.andThen_ok, Instr.findNow]
     have hk : m.key = e.v b := by simpa using (List.cons.inj h).1
     rw [hk, hn]
     exact h1
    ·obtain ⟨m, _, g2, g3⟩ := h3 i hi
     exact ⟨m, g2, g3⟩⟩
end
abbrev mpO {α β : Type} (ke : Enc α) (ve : Enc β) (l : List (Nat × α × β)) (ck : Nat) : OB := .map (l.map fun e => (e.1, ke.v e.2.1, .s (ve.v e.2.2))) ck
def mget {α β : Type} [DecidableEq α] : List (Nat × α × β) → α → Option β
 | [], _ => none
 | e :: l, a => if a = e.2.1 then some e.2.2 else mget l a
def mset {α β : Type} [DecidableEq α] (ck : Nat) (a : α) (b : β) : List (Nat × α × β) → List (Nat × α × β)
 | [] => [(ck, a, b)]
 | e :: l => if a = e.2.1 then (e.1, a, b) :: l else e :: mset ck a b l
def mclk {α β : Type} [DecidableEq α] (ck : Nat) (a : α) (l : List (Nat × α × β)) : Nat := if (mget l a).isSome then ck else ck + 1
theorem mget_mset {α β : Type} [DecidableEq α] {ck : Nat} {a c : α} {b : β} : ∀ {l : List (Nat × α × β)}, mget (mset ck a b l) c = if c = a then some b else mget l c
 | [] => by simp [mset, mget]
 | e :: l => by
  unfold mset
  by_cases h : a = e.2.1
  ·rw [if_pos h]
   simp only [mget]
   by_cases hc : c = a
   ·rw [if_pos hc, if_pos hc]
   ·rw [if_neg hc, if_neg hc, if_neg (by rw [← h]; exact hc)]
  ·rw [if_neg h]
   simp only [mget]
   by_cases hc : c = e.2.1
   ·rw [if_pos hc, if_pos hc, if_neg (by rw [hc]; exact fun h' => h h'.symm)]
   ·rw [if_neg hc, if_neg hc, mget_mset]
theorem kpos_mget {α β : Type} [DecidableEq α] {a : α} : ∀ (l : List (Nat × α × β)) (i : Nat), (kpos a (l.map (·.2.1)) i = none → mget l a = none) ∧ ∀ j, kpos a (l.map (·.2.1)) i = some j → i ≤ j ∧ ∃ e, l[j - i]? = some e ∧ mget l a = some e.2.2 ∧ e.2.1 = a
 | [], i => ⟨fun _ => rfl, fun j h => (by cases h)⟩
 | e :: l, i => by
  simp only [List.map_cons, kpos, mget]
  by_cases h : a = e.2.1
  ·rw [if_pos h, if_pos h]
   exact ⟨fun h => (by cases h), fun j hj => (by injection hj with hj; subst hj; exact ⟨Nat.le_refl _, e, by simp, rfl, h.symm⟩)⟩
  ·rw [if_neg h, if_neg h]
   obtain ⟨h1, h2⟩ := kpos_mget (a := a) l (i + 1)
   refine ⟨h1, fun j hj => ?_⟩
   obtain ⟨g1, e', g2, g3⟩ := h2 j hj
   exact ⟨by omega, e', by rw [show j - i = (j - (i + 1)) + 1 by omega, List.getElem?_cons_succ]; exact g2, g3⟩
theorem mset_none {α β : Type} [DecidableEq α] {ck : Nat} {a : α} {b : β} : ∀ {l : List (Nat × α × β)}, mget l a = none → mset ck a b l = l ++ [(ck, a, b)]
 | [], _ => rfl
 | e :: l, h => by
  simp only [mget] at h
  split at h
  ·cases h
  ·rename_i hne
   simp only [mset]
   rw [if_neg hne, mset_none h]; rfl
theorem mset_some {α β : Type} [DecidableEq α] {ck : Nat} {a : α} {b : β} : ∀ {l : List (Nat × α × β)} {i j : Nat}, kpos a (l.map (·.2.1)) i = some j → i ≤ j ∧ mset ck a b l = l.modify (j - i) (fun e => (e.1, a, b))
 | [], _, _, h => (by cases h)
 | e :: l, i, j, h => by
  simp only [List.map_cons, kpos] at h
  simp only [mset]
  split at h
  ·rename_i he
   injection h with h
   subst h
   rw [if_pos he]
   exact ⟨Nat.le_refl _, by simp⟩
  ·rename_i he
   obtain ⟨h1, h2⟩ := mset_some (ck := ck) (b := b) h
   rw [if_neg he, h2]
   exact ⟨by omega, by rw [show j - i = (j - (i + 1)) + 1 by omega]; rfl⟩
section
variable {P : Program} {N : Nat} {E : Env} {F : Fm} {H : List OB} {o : Oper} {S : Nat → Prop} {ρ : List (Option Nat)} {a : Act} {w : World}
theorem ef_mkmap {t : TypeId} {d : Nat} (ho : o.op = .makeMap t none) (hd : o.dst = some d) (hN : d < N) : Ef P N E o F H fun F' H' => F' = (d, .mp H.length) :: F ∧ H' = H ++ [.map [] 0] :=
 ef_of hd hN ⟨rfl, rfl⟩ fun S ρ a w hR => by
  refine ⟨S, ρ ++ [some w.heap.size], w.alloc (.map #[] 0), ?_, ?_, .mp (by simp) (by simp [atB_snoc, hR.hp.len])⟩
  ·have : (AV.mp H.length).den (ρ ++ [some w.heap.size]) (H ++ [.map [] 0]) = .map (some w.heap.size) := by simp [AV.den, atB_snoc, hR.hp.len]
   rw [this]
   simp only [execOp, ho, Instr.makeMap, Option.map_none, Sem.run_bind, Sem.run_pure, Result.andThen_ok, run_newObj, World.alloc_eq]
  ·exact hR.newO (.map #[] 0) (.map [] 0) ⟨_, #[], rfl, heap_new _ _, rfl, fun e h => (by cases h)⟩
theorem mp_own {α β : Type} {ke : Enc α} {ve : Enc β} {l : List (Nat × α × β)} {ck b : Nat} (hp : RH w S ρ H) (hb : H[b]? = some (mpO ke ve l ck)) : ∃ B ms, atB ρ b = some B ∧ w.heap[B]? = some (.map ms ck) ∧ ms.toList = l.map (fun e => (⟨ke.v e.2.1, ve.v e.2.2, e.1⟩ : MapEntry)) := by
 obtain ⟨B, ms, h1, h2, h3, h4⟩ := hp.blk b _ hb
 exact ⟨B, ms, h1, h2, by rw [h3, List.map_map]; rfl⟩
theorem rd_lookup {α β : Type} [DecidableEq α] {ke : Enc α} {ve : Enc β} {t kt et : TypeId} {x ix : Operand} {b ck : Nat} {l : List (Nat × α × β)} {k : α} {xk : AV} {z : β} (hk : KeyOk P kt ke) (ho : o.op = .lookup t x ix false) (ht : P.underlying t = some (.map kt et)) (hz : (P.info? et).bind (·.zero) = some (ve.v z))
    (hx : ev F x = some (.mp b)) (hH : H[b]? = some (mpO ke ve l ck)) (hi : ev F ix = some xk) (hxk : ∀ ρ H, xk.den ρ H = ke.v k) : Rd P N E o F H (ve.x ((mget l k).getD z)) := fun S ρ a w hR => by
 obtain ⟨h1, _⟩ := hR.ev hx
 have h2 := (hR.ev hi).1
 rw [hxk] at h2
 obtain ⟨B, ms, g1, g2, g3⟩ := mp_own hR.hp hH
 simp only [AV.den, g1] at h1
 obtain ⟨r, f1, f2, f3⟩ := hk.find ms.toList (l.map (·.2.1)) k w (by rw [g3, List.map_map, List.map_map]; rfl)
 obtain ⟨q1, q2⟩ := kpos_mget (a := k) l 0
 have hzr : (zeroValue et).run P w = .ok (ve.v z) w := by
  unfold zeroValue typeInfo
  cases hi : P.info? et with
  | none => rw [hi] at hz; cases hz
  | some i => rw [hi] at hz; simp only [Option.bind_some] at hz; simp [hi, hz]
 refine ⟨?_, ve.wf _ _ _ _ _⟩
 rw [ve.den]
 cases hp : kpos k (l.map (·.2.1)) 0 with
 | none =>
  rw [f2 hp] at f1
  rw [q1 hp]
  simp only [execOp, ho, h1, h2, Instr.lookup, Sem.run_bind, mp_under ht, Result.andThen_ok, mp_get g2, Sem.run_pure, hk.chk, f1, hzr]
  rfl
 | some j =>
  obtain ⟨m, f4, f5⟩ := f3 j hp
  obtain ⟨_, e, q3, q4, _⟩ := q2 j hp
  rw [f5] at f1
  have hm : m.val = ve.v e.2.2 := by
   rw [g3, List.getElem?_map] at f4
   rw [Nat.sub_zero] at q3
   rw [q3] at f4
   simp only [Option.map_some, Option.some.injEq] at f4
   rw [← f4]
  rw [q4]
  simp only [execOp, ho, h1, h2, Instr.lookup, Sem.run_bind, mp_under ht, Result.andThen_ok, mp_get g2, Sem.run_pure, hk.chk, f1, hm]
  rfl
theorem rd_lookupk {α β : Type} [DecidableEq α] {ke : Enc α} {ve : Enc β} {t kt et : TypeId} {x ix : Operand} {b ck : Nat} {l : List (Nat × α × β)} {k : α} {xk : AV} {z : β} (hk : KeyOk P kt ke) (ho : o.op = .lookup t x ix true) (ht : P.underlying t = some (.map kt et)) (hz : (P.info? et).bind (·.zero) = some (ve.v z))
    (hx : ev F x = some (.mp b)) (hH : H[b]? = some (mpO ke ve l ck)) (hi : ev F ix = some xk) (hxk : ∀ ρ H, xk.den ρ H = ke.v k) : Rd P N E o F H (.t [ve.x ((mget l k).getD z), .c (.s (.bool (mget l k).isSome))]) := fun S ρ a w hR => by
 obtain ⟨h1, _⟩ := hR.ev hx
 have h2 := (hR.ev hi).1
 rw [hxk] at h2
 obtain ⟨B, ms, g1, g2, g3⟩ := mp_own hR.hp hH
 simp only [AV.den, g1] at h1
 obtain ⟨r, f1, f2, f3⟩ := hk.find ms.toList (l.map (·.2.1)) k w (by rw [g3, List.map_map, List.map_map]; rfl)
 obtain ⟨q1, q2⟩ := kpos_mget (a := k) l 0
 have hzr : (zeroValue et).run P w = .ok (ve.v z) w := by
  unfold zeroValue typeInfo
  cases hi : P.info? et with
  | none => rw [hi] at hz; cases hz
  | some i => rw [hi] at hz; simp only [Option.bind_some] at hz; simp [hi, hz]
 refine ⟨?_, .t fun y hy => ?_⟩
 ·simp only [AV.den, AV.denL, ve.den, CV.den]
  cases hp : kpos k (l.map (·.2.1)) 0 with
  | none =>
   rw [f2 hp] at f1
   rw [q1 hp]
   simp only [execOp, ho, h1, h2, Instr.lookup, Sem.run_bind, mp_under ht, Result.andThen_ok, mp_get g2, Sem.run_pure, hk.chk, f1, hzr]
   rfl
  | some j =>
   obtain ⟨m, f4, f5⟩ := f3 j hp
   obtain ⟨_, e, q3, q4, _⟩ := q2 j hp
   rw [f5] at f1
   have hm : m.val = ve.v e.2.2 := by
    rw [g3, List.getElem?_map] at f4
    rw [Nat.sub_zero] at q3
    rw [q3] at f4
    simp only [Option.map_some, Option.some.injEq] at f4
    rw [← f4]
   rw [q4]
   simp only [execOp, ho, h1, h2, Instr.lookup, Sem.run_bind, mp_under ht, Result.andThen_ok, mp_get g2, Sem.run_pure, hk.chk, f1, hm]
   rfl
 ·simp only [List.mem_cons, List.not_mem_nil, or_false] at hy
  rcases hy with rfl | rfl
  ·exact ve.wf _ _ _ _ _
  ·exact .c (.s _)
theorem ef_mapset {α β : Type} [DecidableEq α] {ke : Enc α} {ve : Enc β} {t kt et : TypeId} {x ix y : Operand} {b ck : Nat} {l : List (Nat × α × β)} {k : α} {xk yv : AV} {z : β} (hk : KeyOk P kt ke) (ho : o.op = .mapUpdate t x ix y) (hd : o.dst = none) (ht : P.underlying t = some (.map kt et))
    (hx : ev F x = some (.mp b)) (hH : H[b]? = some (mpO ke ve l ck)) (hi : ev F ix = some xk) (hxk : ∀ ρ H, xk.den ρ H = ke.v k) (hy : ev F y = some yv) (hyv : ∀ ρ H, yv.den ρ H = ve.v z) :
    Ef P N E o F H fun F' H' => F' = F ∧ H' = H.set b (mpO ke ve (mset ck k z l) (mclk ck k l)) := fun S ρ a w hR => by
 obtain ⟨h1, _⟩ := hR.ev hx
 have h2 := (hR.ev hi).1
 have h3 := (hR.ev hy).1
 rw [hxk] at h2
 rw [hyv] at h3
 obtain ⟨B, ms, g1, g2, g3⟩ := mp_own hR.hp hH
 simp only [AV.den, g1] at h1
 obtain ⟨r, f1, f2, f3⟩ := hk.find ms.toList (l.map (·.2.1)) k w (by rw [g3, List.map_map, List.map_map]; rfl)
 obtain ⟨q1, q2⟩ := kpos_mget (a := k) l 0
 have fin : ∀ ms' : Array MapEntry, ms'.toList = (mset ck k z l).map (fun e => (⟨ke.v e.2.1, ve.v e.2.2, e.1⟩ : MapEntry)) → (execOp a.eval o).run P w = .ok .skip (putBlk w B (.map ms' (mclk ck k l))) → effO P o a w fun a' w' => ∃ S' ρ' F' H', (F' = F ∧ H' = H.set b (mpO ke ve (mset ck k z l) (mclk ck k l))) ∧ R N E S' ρ' F' H' a' w' := fun ms' hms hex => by
  unfold effO
  rw [hex]
  refine ⟨S, ρ, _, _, ⟨rfl, rfl⟩, ?_⟩
  rw [hd]
  refine R.set (ob := mpO ke ve l ck) hR hH g1 rfl rfl (fun _ => rfl) (putBlk_size _ _) ⟨B, ms', rfl, putBlk_at g2, by rw [hms, List.map_map]; rfl, fun e he => ?_⟩
  obtain ⟨e', _, rfl⟩ := List.mem_map.1 he
  exact .s _
 cases hp : kpos k (l.map (·.2.1)) 0 with
 | none =>
  rw [f2 hp] at f1
  have hn := q1 hp
  refine fin (ms.push ⟨ke.v k, ve.v z, ck⟩) ?_ ?_
  ·rw [mset_none hn, Array.toList_push, g3, List.map_append]; rfl
  ·have : mclk ck k l = ck + 1 := by unfold mclk; rw [hn]; rfl
   rw [this]
   simp only [execOp, ho, h1, h2, h3, Instr.mapUpdate, Sem.run_bind, mp_under ht, Result.andThen_ok, mp_get g2, hk.chk, f1, mp_put g2, Sem.run_pure]
 | some j =>
  obtain ⟨m, f4, f5⟩ := f3 j hp
  obtain ⟨_, e, q3, q4, q5⟩ := q2 j hp
  rw [f5] at f1
  rw [Nat.sub_zero] at q3
  have hmk : m.key = ke.v k := by
   rw [g3, List.getElem?_map, q3] at f4
   simp only [Option.map_some, Option.some.injEq] at f4
   rw [← f4, ← q5]
  have hst : (Instr.keyThatStays (((ms[j]?).map (·.key)).getD (ke.v k)) (ke.v k)).run P w = .ok (ke.v k) w := by
   rw [← Array.getElem?_toList, f4]
   simp only [Option.map_some, Option.getD_some, hmk]
   unfold Instr.keyThatStays
   rw [if_pos (hk.bits k)]
   rfl
  refine fin (ms.modify j fun e => { e with key := ke.v k, val := ve.v z }) ?_ ?_
  ·obtain ⟨_, q6⟩ := mset_some (ck := ck) (b := z) hp
   rw [q6, Array.toList_modify, g3, Nat.sub_zero]
   refine List.ext_getElem? fun i => ?_
   simp only [List.getElem?_modify, List.getElem?_map]
   cases hl : l[i]? with
   | none => simp
   | some e2 => by_cases hij : j = i <;> simp [hij]
  ·have : mclk ck k l = ck := by unfold mclk; rw [q4]; rfl
   rw [this]
   simp only [execOp, ho, h1, h2, h3, Instr.mapUpdate, Sem.run_bind, mp_under ht, Result.andThen_ok, mp_get g2, hk.chk, f1, hst, mp_put g2, Sem.run_pure]
end
end Go.Proofs.YtlblimbelfenaaaGreat

/- The program's fault of a mesh, by value: a map of sides. -/
-- NEWM
namespace Go.Proofs.YtlblimbelfenaaaGreat
open Go Go.RowKit
set_option maxRecDepth 100000
def encS : Enc Sid2 := ⟨fun s => .agg #[.int .i64 s.f, .int .i64 s.t], fun s => .a (s.row.map .c), fun s ρ H => by simp [AV.den, AV.denL, CV.den], fun s w S ρ H => .a fun x hx => by
 simp only [List.map_cons, List.map_nil, List.mem_cons, List.not_mem_nil, or_false] at hx
 rcases hx with rfl | rfl
 ·exact .c (.s _)
 ·exact .c (.s _)⟩
def encB : Enc Bool := ⟨fun b => .bool b, fun b => .c (B b), fun b ρ H => rfl, fun b w S ρ H => .c (.s _)⟩
theorem chkI (b : Bool) (z : Int) (w : World) : (Instr.checkKey b 9999 3 (.int .i64 z)).run Tryz.prog w = .ok () w := by
 rw [show (9999 : Nat) = 9998 + 1 from rfl, Instr.checkKey]
 simp only [Sem.run_bind, mp_under Tryz.underlying3, Result.andThen_ok]
 rfl
theorem keySide (a b c d : Int) (w : World) : (Op.equal 70 (.agg #[.int .i64 a, .int .i64 b]) (.agg #[.int .i64 c, .int .i64 d])).run Tryz.prog w = .ok (a == c && b == d) w := by
 have u3 := Tryz.underlying3
 have a3 := Tryz.isAgg3
 have z3 := Tryz.sizeOf3
 have hS : Tryz.prog.underlying 70 = some (.struct (Tryz.prog.fieldsOf 70)) := by kernel_rfl
 have hp : Tryz.prog.stoodInHeld 70 = false := by kernel_rfl
 unfold Op.equal Op.maxDepth
 rw [show (10000 : Nat) = 9999 + 1 from rfl, run_equalIn_agg w 9999 70 _ _ hS hp]
 simp only [Program.fieldsOf, Tryz.underlying70]
 go_simp
 by_cases h1 : a = c <;> by_cases h2 : b = d <;> simp [h1, h2]
theorem keySidc (em : Bool) (a b : Int) (w : World) : (Instr.checkKey em 10000 70 (.agg #[.int .i64 a, .int .i64 b])).run Tryz.prog w = .ok () w := by
 have u3 := Tryz.underlying3
 have a3 := Tryz.isAgg3
 have z3 := Tryz.sizeOf3
 have hc := chkI em
 rw [show (10000 : Nat) = 9999 + 1 from rfl, Instr.checkKey]
 simp only [Sem.run_bind, mp_under Tryz.underlying70, Result.andThen_ok]
 go_simp
theorem keyS : KeyOk Tryz.prog 70 encS := by
 refine .ask Tryz.underlying70 (fun _ _ => rfl) (fun a b w => ?_) (fun b a w => keySidc _ _ _ w) (fun a => ?_)
 ·simp only [encS]
  rw [keySide]
  congr 1
  rw [Bool.eq_iff_iff]
  simp [sid_eq]
 ·simp [encS, Instr.sameBits]
theorem rd_to {P : Program} {N : Nat} {E : Env} {F : Fm} {H : List OB} {o : Oper} {l l' : List AV} (e : l = l') (h : Rd P N E o F H (.a l)) : Rd P N E o F H (.a l') := e ▸ h
theorem farI_b (n : Int) (b : Bool) (h : farI n = b) : ACalls Tryz.prog 139 [.c (I n)] [] fun u H => u = .c (B b) ∧ H = [] := h ▸ farI_v n
theorem checkmesh_v (v w : Value) (V : List Vec3) (Fs : List Fac3) (hVl : V.length ≤ 1000000) (hFl : Fs.length ≤ 1000000) : ACalls Tryz.prog 95 [mshA v w V Fs] [] fun u H => u = .c (I (mshF V Fs)) ∧ H = [] := by
 have e1 : (vR V).length = V.length := by simp
 have e2 : (fR Fs).length = Fs.length := by simp
 have e1' : (V.map Vec3.row).length = V.length := by simp
 have e2' : (Fs.map Fac3.row).length = Fs.length := by simp
 refine acalls_of (N := 82) Tryz.func95 rfl rfl (by simp) fun E hE => ?_
 refine WA ?_
 refine WA ?_
 refine aw_if rfl (fun h0 => ?_) (fun h0 => ?_)
 ·refine WA ?_
  refine aret_1 [] _ rfl rfl rfl (by decide) (ZNK rfl) (fun _ => .nil) ⟨?_, rfl⟩
  rw [mshF, if_pos (List.eq_nil_of_length_eq_zero (show Fs.length = 0 by omega))]
 have hne : ¬ Fs = [] := fun h => by rw [h] at h0; simp at h0
 refine ZZ ?_
 by_cases hb : 1000 < V.length ∨ 1000 < Fs.length
 ·have hres : mshF V Fs = 2 := by rw [mshF, if_neg hne, if_pos hb]
  by_cases hb1 : (1000 : Int) < ((V.map Vec3.row).length : Int)
  ·refine WA ?_
   refine aw_cond_t rfl ?_
   refine WA ?_
   exact aret_1 [] _ rfl rfl rfl (by decide) (ZNK rfl) (fun _ => .nil) ⟨by rw [hres], rfl⟩
  ·refine WA ?_
   refine aw_cond rfl (fun _ => ?_) (fun h => absurd h (by simp; try omega))
   refine WA ?_
   exact aret_1 [] _ rfl rfl rfl (by decide) (ZNK rfl) (fun _ => .nil) ⟨by rw [hres], rfl⟩
 have hb1 : ¬ (1000 : Int) < ((V.map Vec3.row).length : Int) := fun h => hb (.inl (by omega))
 have hb2 : ¬ 1000 < Fs.length := fun h => hb (.inr h)
 refine WA ?_
 refine aw_cond rfl (fun h => absurd h (by simp; try omega)) (fun _ => ?_)
 refine ZZ ?_
 refine WA ?_
 refine aw_loopw (fun m F H => ∃ (k : Nat), m + k = V.length ∧ (V.drop k).any farV = V.any farV ∧ F = [(1, .p 0 0 0), (28, .c (.r v (vR V))), (29, .c (I (vR V).length)), (30, .c (I k))] ∧ H = [mBox v w V (fR Fs)]) ?_ ?_
 ·refine wk_of [some 0] (fun _ => [(1, .p 0 0 0), (28, .c (.r v (vR V))), (29, .c (I (vR V).length)), (30, .c (I (0 : Nat)))]) (fun _ => [mBox v w V (fR Fs)]) (by decide) (ZNL hE) ZCF ZCH (fun _ => ?_)
  exact ⟨V.length, 0, by omega, rfl, rfl, rfl⟩
 ·rintro m F H ⟨k, hk, hf, rfl, rfl⟩
  refine WA ?_
  refine aw_if rfl (fun hlt => ?_) (fun hge => ?_)
  ·obtain ⟨z, hz⟩ : ∃ z, V[k]? = some z := ⟨_, List.getElem?_eq_getElem (by omega)⟩
   have hfd := any_dropk farV hz
   obtain ⟨zx, zy, zz⟩ := z
   have hrow : (vR V)[k]? = some [I zx, I zy, I zz] := by rw [List.getElem?_map, hz]; rfl
   have hfar : farV ⟨zx, zy, zz⟩ = true → mshF V Fs = 1 := fun h => by
    have h2 : V.any farV = true := by rw [← hf, hfd, h]; rfl
    rw [mshF, if_neg hne, if_neg hb, if_pos h2]
   refine WA ?_
   cases hx : farI zx with
   | true =>
    refine WR ?_
    refine al_ef rfl (ef_call0 false (fun _ => farI_b zx true hx) rfl .fn rfl (by decide) (by kernel_rfl) rfl (fun _g => .cons (.c rfl) .nil) (by simp)) ?_
    rintro _ _ ⟨_, _, _, ⟨rfl, rfl⟩, hF, hH⟩
    (refine NST hF hH ?_; clear hF hH; rintro rfl rfl)
    refine WE ?_
    refine aw_cond_t rfl ?_
    refine WA ?_
    exact aret_1 [] _ rfl rfl rfl (by decide) (ZNK rfl) (fun _ => .nil) ⟨by rw [hfar (by simp [farV, hx])], rfl⟩
   | false =>
    cases hy : farI zy with
    | true =>
     refine WR ?_
     refine al_ef rfl (ef_call0 false (fun _ => farI_b zx false hx) rfl .fn rfl (by decide) (by kernel_rfl) rfl (fun _g => .cons (.c rfl) .nil) (by simp)) ?_
     rintro _ _ ⟨_, _, _, ⟨rfl, rfl⟩, hF, hH⟩
     (refine NST hF hH ?_; clear hF hH; rintro rfl rfl)
     refine WO ?_
     refine G1 rfl ?_
     refine al_ef rfl (ef_call0 false (fun _ => farI_b zy true hy) rfl .fn rfl (by decide) (by kernel_rfl) rfl (fun _g => .cons (.c rfl) .nil) (by simp)) ?_
     rintro _ _ ⟨_, _, _, ⟨rfl, rfl⟩, hF, hH⟩
     (refine NST hF hH ?_; clear hF hH; rintro rfl rfl)
     refine WE ?_
     refine aw_cond_t rfl ?_
     refine WA ?_
     exact aret_1 [] _ rfl rfl rfl (by decide) (ZNK rfl) (fun _ => .nil) ⟨by rw [hfar (by simp [farV, hy])], rfl⟩
    | false =>
     cases hzz : farI zz with
     | true =>
      refine WR ?_
      refine al_ef rfl (ef_call0 false (fun _ => farI_b zx false hx) rfl .fn rfl (by decide) (by kernel_rfl) rfl (fun _g => .cons (.c rfl) .nil) (by simp)) ?_
      rintro _ _ ⟨_, _, _, ⟨rfl, rfl⟩, hF, hH⟩
      (refine NST hF hH ?_; clear hF hH; rintro rfl rfl)
      refine WO ?_
      refine G1 rfl ?_
      refine al_ef rfl (ef_call0 false (fun _ => farI_b zy false hy) rfl .fn rfl (by decide) (by kernel_rfl) rfl (fun _g => .cons (.c rfl) .nil) (by simp)) ?_
      rintro _ _ ⟨_, _, _, ⟨rfl, rfl⟩, hF, hH⟩
      (refine NST hF hH ?_; clear hF hH; rintro rfl rfl)
      refine WO ?_
      refine G1 rfl ?_
      refine al_ef rfl (ef_call0 false (fun _ => farI_b zz true hzz) rfl .fn rfl (by decide) (by kernel_rfl) rfl (fun _g => .cons (.c rfl) .nil) (by simp)) ?_
      rintro _ _ ⟨_, _, _, ⟨rfl, rfl⟩, hF, hH⟩
      (refine NST hF hH ?_; clear hF hH; rintro rfl rfl)
      refine WE ?_
      refine aw_cond_t rfl ?_
      refine WA ?_
      exact aret_1 [] _ rfl rfl rfl (by decide) (ZNK rfl) (fun _ => .nil) ⟨by rw [hfar (by simp [farV, hzz])], rfl⟩
     | false =>
      refine WR ?_
      refine al_ef rfl (ef_call0 false (fun _ => farI_b zx false hx) rfl .fn rfl (by decide) (by kernel_rfl) rfl (fun _g => .cons (.c rfl) .nil) (by simp)) ?_
      rintro _ _ ⟨_, _, _, ⟨rfl, rfl⟩, hF, hH⟩
      (refine NST hF hH ?_; clear hF hH; rintro rfl rfl)
      refine WO ?_
      refine G1 rfl ?_
      refine al_ef rfl (ef_call0 false (fun _ => farI_b zy false hy) rfl .fn rfl (by decide) (by kernel_rfl) rfl (fun _g => .cons (.c rfl) .nil) (by simp)) ?_
      rintro _ _ ⟨_, _, _, ⟨rfl, rfl⟩, hF, hH⟩
      (refine NST hF hH ?_; clear hF hH; rintro rfl rfl)
      refine WO ?_
      refine G1 rfl ?_
      refine al_ef rfl (ef_call0 false (fun _ => farI_b zz false hzz) rfl .fn rfl (by decide) (by kernel_rfl) rfl (fun _g => .cons (.c rfl) .nil) (by simp)) ?_
      rintro _ _ ⟨_, _, _, ⟨rfl, rfl⟩, hF, hH⟩
      (refine NST hF hH ?_; clear hF hH; rintro rfl rfl)
      refine WE ?_
      refine aw_cond_f rfl ?_
      refine ZZ ?_
      refine WA ?_
      refine wk_of [some 0] (fun _ => [(1, .p 0 0 0), (28, .c (.r v (vR V))), (29, .c (I (vR V).length)), (30, .c (I (k + 1 : Nat)))]) (fun _ => [mBox v w V (fR Fs)]) (by decide) (ZNL hE) ZCF ZCH (fun _ => ?_)
      exact ⟨m - 1, by omega, k + 1, by omega, by rw [← hf, hfd]; simp [farV, hx, hy, hzz], rfl, rfl⟩
  have hfar : ¬ V.any farV = true := by
   rw [← hf, List.drop_eq_nil_of_le (by omega)]; simp
  have hV : ∀ v ∈ V, farV v = false := fun v hv => by
   cases hq : farV v with
   | false => rfl
   | true => exact absurd (List.any_eq_true.2 ⟨v, hv, hq⟩) hfar
  have e3 : mshF V Fs = if fst0 (Fs.map (ffR V)) ≠ 0 then fst0 (Fs.map (ffR V)) else if dupS [] (Fs.flatMap sds) = true then 6 else 0 := by rw [mshF, if_neg hne, if_neg hb, if_neg hfar]
  refine ZZ ?_
  refine WA ?_
  refine aw_loopw (fun m F H => ∃ (k : Nat), m + k = Fs.length ∧ fst0 ((Fs.map (ffR V)).take k) = 0 ∧ F = [(1, .p 0 0 0), (49, .c (.r w (fR Fs))), (50, .c (I (fR Fs).length)), (51, .c (I k))] ∧ H = [mBox v w V (fR Fs)]) ?_ ?_
  ·refine wk_of [some 0] (fun _ => [(1, .p 0 0 0), (49, .c (.r w (fR Fs))), (50, .c (I (fR Fs).length)), (51, .c (I (0 : Nat)))]) (fun _ => [mBox v w V (fR Fs)]) (by decide) (ZNL hE) ZCF ZCH (fun _ => ?_)
   exact ⟨Fs.length, 0, by omega, by simp [fst0], rfl, rfl⟩
  ·rintro m F H ⟨k, hk, hf, rfl, rfl⟩
   refine WA ?_
   refine aw_if rfl (fun hlt => ?_) (fun hge => ?_)
   ·obtain ⟨f, hz⟩ : ∃ z, Fs[k]? = some z := ⟨_, List.getElem?_eq_getElem (by omega)⟩
    have hmap : (Fs.map (ffR V))[k]? = some (ffR V f) := by rw [List.getElem?_map, hz]; rfl
    obtain ⟨fa, fb, fc⟩ := f
    have hrow : (fR Fs)[k]? = some [I fa, I fb, I fc] := by rw [List.getElem?_map, hz]; rfl
    refine WA ?_
    refine WR ?_
    refine al_ef rfl (ef_call0 false (fun _ => facefault_v v w V (fR Fs) ⟨fa, fb, fc⟩ hV (by omega)) rfl .fn rfl (by decide) (by kernel_rfl) rfl (fun _ => C0 rfl) (by simp)) ?_
    rintro _ _ ⟨_, _, _, ⟨rfl, rfl⟩, hF, hH⟩
    (refine NST hF hH ?_; clear hF hH; rintro rfl rfl)
    refine WE ?_
    refine WA ?_
    refine aw_if rfl (fun hv => ?_) (fun hv => ?_)
    ·refine WA ?_
     refine aret_1 [] _ rfl rfl rfl (by decide) (ZNK rfl) (fun _ => .nil) ⟨?_, rfl⟩
     rw [ffP_R] at hv ⊢
     rw [e3, fst0_at hf hmap hv, if_pos hv]
    ·refine WA ?_
     refine wk_of [some 0] (fun _ => [(1, .p 0 0 0), (49, .c (.r w (fR Fs))), (50, .c (I (fR Fs).length)), (51, .c (I (k + 1 : Nat)))]) (fun _ => [mBox v w V (fR Fs)]) (by decide) (ZNL hE) ZCF ZCH (fun _ => ?_)
     rw [ffP_R] at hv
     exact ⟨m - 1, by omega, k + 1, by omega, fst0_next hf hmap (by omega), rfl, rfl⟩
   have hall : fst0 (Fs.map (ffR V)) = 0 := by
    rw [List.take_of_length_le (by simp; omega)] at hf; exact hf
   rw [if_neg (by rw [hall]; simp)] at e3
   refine ZZ ?_
   refine ZR ?_
   refine al_ef rfl (ef_mkmap rfl rfl (by decide)) ?_
   rintro _ _ ⟨rfl, rfl⟩
   refine WE ?_
   refine WA ?_
   refine aw_loopw (fun m F H => ∃ (k mk : Nat) (ml : List (Nat × Sid2 × Bool)), m + k = Fs.length ∧ dupS [] ((Fs.take k).flatMap sds) = false ∧ (∀ s, (mget ml s).getD false = ((Fs.take k).flatMap sds).contains s) ∧ F = [(1, .p 0 0 0), (8, .mp 1), (64, .c (.r w (fR Fs))), (65, .c (I (fR Fs).length)), (66, .c (I k))] ∧ H = [mBox v w V (fR Fs), mpO encS encB ml mk]) ?_ ?_
   ·refine wk_of [some 0, some 1] (fun _ => [(1, .p 0 0 0), (8, .mp 1), (64, .c (.r w (fR Fs))), (65, .c (I (fR Fs).length)), (66, .c (I (0 : Nat)))]) (fun _ => [mBox v w V (fR Fs), mpO encS encB [] 0]) (by decide) (ZNL hE) ZCF ZCH (fun _ => ?_)
    exact ⟨Fs.length, 0, 0, [], by omega, by simp [dupS], by simp [mget], rfl, rfl⟩
   ·rintro m F H ⟨k, mk, ml, hk, hd, hm, rfl, rfl⟩
    refine WA ?_
    refine aw_if rfl (fun hlt => ?_) (fun hge => ?_)
    ·obtain ⟨f, hz⟩ : ∃ z, Fs[k]? = some z := ⟨_, List.getElem?_eq_getElem (by omega)⟩
     obtain ⟨fa, fb, fc⟩ := f
     have hrow : (fR Fs)[k]? = some [I fa, I fb, I fc] := by rw [List.getElem?_map, hz]; rfl
     refine WA ?_
     refine WR ?_
     refine al_ef rfl (ef_call0 false (fun _ => sides_v ⟨fa, fb, fc⟩) rfl .fn rfl (by decide) (by kernel_rfl) rfl (fun _ => C0 rfl) (by simp)) ?_
     rintro _ _ ⟨_, _, _, ⟨rfl, rfl⟩, hF, hH⟩
     (refine NST hF hH ?_; clear hF hH; rintro rfl rfl)
     refine WE ?_
     generalize hL : (Fs.take k).flatMap sds = L at hd hm ⊢
     refine aw_loopw (fun m2 F H => ∃ (j mk : Nat) (ml : List (Nat × Sid2 × Bool)), m2 + j = 3 ∧ dupS [] (L ++ (sds ⟨fa, fb, fc⟩).take j) = false ∧ (∀ s, (mget ml s).getD false = (L ++ (sds ⟨fa, fb, fc⟩).take j).contains s) ∧ F = [(1, .p 0 0 0), (8, .mp 1), (64, .c (.r w (fR Fs))), (65, .c (I (fR Fs).length)), (66, .c (I k)), (71, .a ((sdsC ⟨fa, fb, fc⟩).map .c)), (72, .c (I j))] ∧ H = [mBox v w V (fR Fs), mpO encS encB ml mk]) ?_ ?_
     ·refine wk_of [some 0, some 1] (fun _ => [(1, .p 0 0 0), (8, .mp 1), (64, .c (.r w (fR Fs))), (65, .c (I (fR Fs).length)), (66, .c (I k)), (71, .a ((sdsC ⟨fa, fb, fc⟩).map .c)), (72, .c (I (0 : Nat)))]) (fun _ => [mBox v w V (fR Fs), mpO encS encB ml mk]) (by decide) (ZNL hE) ZCF ZCH (fun _ => ?_)
      exact ⟨3, 0, mk, ml, rfl, by simpa using hd, by simpa using hm, rfl, rfl⟩
     ·rintro m2 F H ⟨j, mk, ml, hj, hd2, hm2, rfl, rfl⟩
      refine WA ?_
      refine aw_if rfl (fun hlt2 => ?_) (fun hge2 => ?_)
      ·obtain ⟨s, hs⟩ : ∃ s, (sds ⟨fa, fb, fc⟩)[j]? = some s := ⟨_, List.getElem?_eq_getElem (by simp [sds]; omega)⟩
       obtain ⟨sf, st⟩ := s
       have hix : (((sdsC ⟨fa, fb, fc⟩).map AV.c).drop (j * 2)).take 2 = [.c (I sf), .c (I st)] := by
        have : j = 0 ∨ j = 1 ∨ j = 2 := by omega
        rcases this with rfl | rfl | rfl <;> (simp [sds] at hs; obtain ⟨rfl, rfl⟩ := hs; rfl)
       have htk : (sds ⟨fa, fb, fc⟩).take (j + 1) = (sds ⟨fa, fb, fc⟩).take j ++ [⟨sf, st⟩] := by rw [List.take_add_one, hs]; rfl
       have hsp := sd_split hz j
       rw [hL] at hsp
       have hdr : (sds ⟨fa, fb, fc⟩).drop j = ⟨sf, st⟩ :: (sds ⟨fa, fb, fc⟩).drop (j + 1) := by
        obtain ⟨h1, h2⟩ := List.getElem?_eq_some_iff.1 hs
        rw [List.drop_eq_getElem_cons h1, h2]
       generalize hM : L ++ (sds ⟨fa, fb, fc⟩).take j = M at hd2 hm2 hsp ⊢
       refine ZR ?_
       refine ZA (rd_to hix (rd_ixv (n := 3) (i := j) rfl (by kernel_rfl) (KK (t := 70) rfl) rfl rfl rfl (by omega))) ?_
       refine WE ?_
       refine ZR ?_
       iterate 2 refine WX1 ?_
       refine ZA (rd_lookup (ke := encS) (ve := encB) (k := ⟨sf, st⟩) (z := false) (l := ml) (ck := mk) keyS rfl Tryz.underlying182 (by kernel_rfl) rfl rfl rfl (fun ρ H => by simp [AV.den, AV.denL, CV.den, encS])) ?_
       refine WE ?_
       refine aw_cond (b := (mget ml ⟨sf, st⟩).getD false) rfl (fun hb => ?_) (fun hb => ?_)
       ·refine WA ?_
        refine aret_1 [] _ rfl rfl rfl (by decide) (ZNK rfl) (fun _ => .nil) ⟨?_, rfl⟩
        rw [hm2] at hb
        have : dupS [] (Fs.flatMap sds) = true := by rw [hsp, hdr, List.cons_append]; exact dupS_hit hb
        rw [e3, if_pos this]
       ·refine ZR ?_
        iterate 2 refine WX1 ?_
        refine al_ef rfl (ef_mapset (ke := encS) (ve := encB) (k := ⟨sf, st⟩) (z := true) (l := ml) (ck := mk) keyS rfl rfl Tryz.underlying182 rfl rfl rfl (fun ρ H => by simp [AV.den, AV.denL, CV.den, encS]) rfl (fun ρ H => rfl)) ?_
        rintro _ _ ⟨rfl, rfl⟩
        refine WE ?_
        refine WA ?_
        refine wk_of [some 0, some 1] (fun _ => [(1, .p 0 0 0), (8, .mp 1), (64, .c (.r w (fR Fs))), (65, .c (I (fR Fs).length)), (66, .c (I k)), (71, .a ((sdsC ⟨fa, fb, fc⟩).map .c)), (72, .c (I (j + 1 : Nat)))]) (fun _ => [mBox v w V (fR Fs), mpO encS encB (mset mk ⟨sf, st⟩ true ml) (mclk mk ⟨sf, st⟩ ml)]) (by decide) (ZNL hE) ZCF ZCH (fun _ => ?_)
        refine ⟨m2 - 1, by omega, j + 1, _, _, by omega, ?_, fun s => ?_, rfl, rfl⟩
        ·rw [htk, ← List.append_assoc, hM, dupS_snoc hd2, ← hm2]; exact hb
        ·rw [htk, ← List.append_assoc, hM, mget_mset]
         by_cases h : s = ⟨sf, st⟩
         ·rw [if_pos h, h]; simp
         ·rw [if_neg h, hm2]; simp [h]
      refine ZZ ?_
      obtain rfl : j = 3 := by omega
      have h6 : L ++ (sds ⟨fa, fb, fc⟩).take 3 = (Fs.take (k + 1)).flatMap sds := by rw [sd_next hz, hL]; rfl
      rw [h6] at hd2 hm2
      refine WA ?_
      refine wk_of [some 0, some 1] (fun _ => [(1, .p 0 0 0), (8, .mp 1), (64, .c (.r w (fR Fs))), (65, .c (I (fR Fs).length)), (66, .c (I (k + 1 : Nat)))]) (fun _ => [mBox v w V (fR Fs), mpO encS encB ml mk]) (by decide) (ZNL hE) ZCF ZCH (fun _ => ?_)
      exact ⟨m - 1, by omega, k + 1, mk, ml, by omega, hd2, hm2, rfl, rfl⟩
    refine WA ?_
    refine aret_1 [] _ rfl rfl rfl (by decide) (ZNK rfl) (fun _ => .nil) ⟨?_, rfl⟩
    rw [List.take_of_length_le (by omega)] at hd
    rw [e3, hd]; rfl
end Go.Proofs.YtlblimbelfenaaaGreat
