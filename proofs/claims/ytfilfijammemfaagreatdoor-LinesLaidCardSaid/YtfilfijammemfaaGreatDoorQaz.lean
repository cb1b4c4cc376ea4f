/- The union of two grids: plain. -/
import Derived.Test.YtfilfijammemfaaGreatDoorQau
import Derived.Maps.RangeRun
import Derived.Test.YtfilfijammemfaaGreatDoorQat
import Derived.Test.YtfilfijammemfaaGreatDoorQay
set_option linter.unusedSimpArgs false
set_option linter.unusedVariables false
/- The logic over values: maps; walks through maps and strings. -/
namespace Go.Proofs.YtfilfijammemfaaGreatDoor
open Go Go.RowKit
structure Enc (α : Type) where
 v : α → Value
 x : α → AV
 den : ∀ a ρ H, (x a).den ρ H = v a
 wf : ∀ a w S ρ H, WF w S ρ H (x a)
section
variable {P : Program} {w : World}
theorem mp_under {t : TypeId} {d : TypeDesc} (h : P.underlying t = some d) : (underlying t).run P w = .ok d w := by unfold underlying; simp [h]
theorem mp_get {b ck : Nat} {ms : Array MapEntry} (h : w.heap[b]? = some (.map ms ck)) : (getObj b).run P w = .ok (.map ms ck) w := by
 unfold getObj
 simp [Sem.run, h]
theorem mp_put {B ck : Nat} {ob : Obj} {ms : Array MapEntry} (h : w.heap[B]? = some (.map ms ck)) : (setObj B ob).run P w = .ok () (putBlk w B ob) := by
 unfold setObj
 simp [Sem.run, h, putBlk]
def kpos {α : Type} [DecidableEq α] (a : α) : List α → Nat → Option Nat
 | [], _ => none
 | b :: l, i => if a = b then some i else kpos a l (i + 1)
structure KeyOk (P : Program) (kt : TypeId) {α : Type} [DecidableEq α] (e : Enc α) : Prop where
 chk : ∀ b a w, (Instr.checkKey b 10000 kt (e.v a)).run P w = .ok () w
 bits : ∀ a, Instr.sameBits 10000 (e.v a) (e.v a) = true
 find : ∀ (ms : List MapEntry) (l : List α) a w, ms.map (·.key) = l.map e.v → ∃ r, (Instr.findKey kt (e.v a) ms).run P w = .ok r w ∧ (kpos a l 0 = none → r = none) ∧ ∀ i, kpos a l 0 = some i → ∃ m, ms[i]? = some m ∧ r = some (i, m.val)
theorem findNow_of {α : Type} [DecidableEq α] {e : Enc α} {d : TypeDesc} (hn : ∀ a b, Instr.sameNow d (e.v a) (e.v b) = some (decide (a = b))) (a : α) : ∀ (ms : List MapEntry) (l : List α) (i : Nat), ms.map (·.key) = l.map e.v → ∃ r, Instr.findNow d (e.v a) ms i = some r ∧ (kpos a l i = none → r = none) ∧ ∀ j, kpos a l i = some j → ∃ m, i ≤ j ∧ ms[j - i]? = some m ∧ r = some (j, m.val)
 | [], [], i, _ => ⟨none, rfl, fun _ => rfl, fun j h => (by cases h)⟩
 | [], _ :: _, _, h => (by simp at h)
 | _ :: _, [], _, h => (by simp at h)
 | m :: ms, b :: l, i, h => by
  simp only [List.map_cons, List.cons.injEq] at h
  unfold Instr.findNow kpos
  rw [h.1, hn]
  by_cases hab : a = b
  ·rw [decide_eq_true hab, if_pos hab]
   exact ⟨_, rfl, fun h => (by cases h), fun j hj => (by injection hj with hj; subst hj; exact ⟨m, Nat.le_refl _, by simp, rfl⟩)⟩
  ·rw [decide_eq_false hab, if_neg hab]
   obtain ⟨r, h1, h2, h3⟩ := findNow_of hn a ms l (i + 1) h.2
   refine ⟨r, h1, h2, fun j hj => ?_⟩
   obtain ⟨m', g1, g2, g3⟩ := h3 j hj
   exact ⟨m', by omega, by rw [show j - i = (j - (i + 1)) + 1 by omega, List.getElem?_cons_succ]; exact g2, g3⟩
theorem findAsk_of {α : Type} [DecidableEq α] {e : Enc α} {kt : TypeId} (he : ∀ a b w, (Op.equal kt (e.v a) (e.v b)).run P w = .ok (decide (a = b)) w) (a : α) : ∀ (ms : List MapEntry) (l : List α) (i : Nat), ms.map (·.key) = l.map e.v → ∃ r, (Instr.findAsking kt (e.v a) ms i).run P w = .ok r w ∧ (kpos a l i = none → r = none) ∧ ∀ j, kpos a l i = some j → ∃ m, i ≤ j ∧ ms[j - i]? = some m ∧ r = some (j, m.val)
 | [], [], i, _ => ⟨none, rfl, fun _ => rfl, fun j h => (by cases h)⟩
 | [], _ :: _, _, h => (by simp at h)
 | _ :: _, [], _, h => (by simp at h)
 | m :: ms, b :: l, i, h => by
  simp only [List.map_cons, List.cons.injEq] at h
  unfold Instr.findAsking kpos
  simp only [Sem.run_bind]
  rw [h.1, he]
  simp only [Result.andThen_ok]
  by_cases hab : a = b
  ·rw [decide_eq_true hab, if_pos hab, if_pos rfl]
   exact ⟨_, rfl, fun h => (by cases h), fun j hj => (by injection hj with hj; subst hj; exact ⟨m, Nat.le_refl _, by simp, rfl⟩)⟩
  ·rw [decide_eq_false hab, if_neg hab, if_neg (by simp)]
   obtain ⟨r, h1, h2, h3⟩ := findAsk_of he a ms l (i + 1) h.2
   refine ⟨r, h1, h2, fun j hj => ?_⟩
   obtain ⟨m', g1, g2, g3⟩ := h3 j hj
   exact ⟨m', by omega, by rw [show j - i = (j - (i + 1)) + 1 by omega, List.getElem?_cons_succ]; exact g2, g3⟩
theorem KeyOk.ask {kt : TypeId} {α : Type} [DecidableEq α] {e : Enc α} {d : TypeDesc} (hu : P.underlying kt = some d) (hn : ∀ a b, Instr.sameNow d (e.v a) (e.v b) = none) (he : ∀ a b w, (Op.equal kt (e.v a) (e.v b)).run P w = .ok (decide (a = b)) w) (hc : ∀ b a w, (Instr.checkKey b 10000 kt (e.v a)).run P w = .ok () w) (hb : ∀ a, Instr.sameBits 10000 (e.v a) (e.v a) = true) : KeyOk P kt e :=
 ⟨hc, hb, fun ms l a w h => by
  obtain ⟨r, h1, h2, h3⟩ := findAsk_of (w := w) he a ms l 0 h
  cases ms with
  | nil =>
   cases l with
   | nil => exact ⟨none, by unfold Instr.findKey; simp only [Sem.run_bind, mp_under hu, Result.andThen_ok, Instr.findNow]; rfl, fun _ => rfl, fun i hi => (by cases hi)⟩
   | cons b l => simp at h
  | cons m ms =>
   cases l with
   | nil => simp at h
   | cons b l =>
    refine ⟨r, ?_, h2, fun i hi => ?_⟩
    ·unfold Instr.findKey
     simp only [Sem.run_bind, mp_under hu, Result.andThen_ok, Instr.findNow]
     have hk : m.key = e.v b := by simpa using (List.cons.inj h).1
     rw [hk, hn]
     exact h1
    ·obtain ⟨m, _, g2, g3⟩ := h3 i hi
     exact ⟨m, g2, g3⟩⟩
end
abbrev mpO {α β : Type} (ke : Enc α) (ve : Enc β) (l : List (Nat × α × β)) (ck : Nat) : OB := .map (l.map fun e => (e.1, ke.v e.2.1, .s (ve.v e.2.2))) ck
def mget {α β : Type} [DecidableEq α] : List (Nat × α × β) → α → Option β
 | [], _ => none
 | e :: l, a => if a = e.2.1 then some e.2.2 else mget l a
def mset {α β : Type} [DecidableEq α] (ck : Nat) (a : α) (b : β) : List (Nat × α × β) → List (Nat × α × β)
 | [] => [(ck, a, b)]
 | e :: l => if a = e.2.1 then (e.1, a, b) :: l else e :: mset ck a b l
def mclk {α β : Type} [DecidableEq α] (ck : Nat) (a : α) (l : List (Nat × α × β)) : Nat := if (mget l a).isSome then ck else ck + 1
theorem kpos_mget {α β : Type} [DecidableEq α] {a : α} : ∀ (l : List (Nat × α × β)) (i : Nat), (kpos a (l.map (·.2.1)) i = none → mget l a = none) ∧ ∀ j, kpos a (l.map (·.2.1)) i = some j → i ≤ j ∧ ∃ e, l[j - i]? = some e ∧ mget l a = some e.2.2 ∧ e.2.1 = a
 | [], i => ⟨fun _ => rfl, fun j h => (by cases h)⟩
 | e :: l, i => by
  simp only [List.map_cons, kpos, mget]
  by_cases h : a = e.2.1
  ·rw [if_pos h, if_pos h]
   exact ⟨fun h => (by cases h), fun j hj => (by injection hj with hj; subst hj; exact ⟨Nat.le_refl _, e, by simp, rfl, h.symm⟩)⟩
  ·rw [if_neg h, if_neg h]
   obtain ⟨h1, h2⟩ := kpos_mget (a := a) l (i + 1)
   refine ⟨h1, fun j hj => ?_⟩
   obtain ⟨g1, e', g2, g3⟩ := h2 j hj
   exact ⟨by omega, e', by rw [show j - i = (j - (i + 1)) + 1 by omega, List.getElem?_cons_succ]; exact g2, g3⟩
theorem mset_none {α β : Type} [DecidableEq α] {ck : Nat} {a : α} {b : β} : ∀ {l : List (Nat × α × β)}, mget l a = none → mset ck a b l = l ++ [(ck, a, b)]
 | [], _ => rfl
 | e :: l, h => by
  simp only [mget] at h
  split at h
  ·cases h
  ·rename_i hne
   simp only [mset]
   rw [if_neg hne, mset_none h]; rfl
theorem mset_some {α β : Type} [DecidableEq α] {ck : Nat} {a : α} {b : β} : ∀ {l : List (Nat × α × β)} {i j : Nat}, kpos a (l.map (·.2.1)) i = some j → i ≤ j ∧ mset ck a b l = l.modify (j - i) (fun e => (e.1, a, b))
 | [], _, _, h => (by cases h)
 | e :: l, i, j, h => by
  simp only [List.map_cons, kpos] at h
  simp only [mset]
  split at h
  ·rename_i he
   injection h with h
   subst h
   rw [if_pos he]
   exact ⟨Nat.le_refl _, by simp⟩
  ·rename_i he
   obtain ⟨h1, h2⟩ := mset_some (ck := ck) (b := b) h
   rw [if_neg he, h2]
   exact ⟨by omega, by rw [show j - i = (j - (i + 1)) + 1 by omega]; rfl⟩
section
variable {P : Program} {N : Nat} {E : Env} {F : Fm} {H : List OB} {o : Oper} {S : Nat → Prop} {ρ : List (Option Nat)} {a : Act} {w : World}
theorem ef_mkmap {t : TypeId} {d : Nat} (ho : o.op = .makeMap t none) (hd : o.dst = some d) (hN : d < N) : Ef P N E o F H fun F' H' => F' = (d, .mp H.length) :: F ∧ H' = H ++ [.map [] 0] :=
 ef_of hd hN ⟨rfl, rfl⟩ fun S ρ a w hR => by
  refine ⟨S, ρ ++ [some w.heap.size], w.alloc (.map #[] 0), ?_, ?_, .mp (by simp) (by simp [atB_snoc, hR.hp.len])⟩
  ·have : (AV.mp H.length).den (ρ ++ [some w.heap.size]) (H ++ [.map [] 0]) = .map (some w.heap.size) := by simp [AV.den, atB_snoc, hR.hp.len]
   rw [this]
   simp only [execOp, ho, Instr.makeMap, Option.map_none, Sem.run_bind, Sem.run_pure, Result.andThen_ok, run_newObj, World.alloc_eq]
  ·exact hR.newO (.map #[] 0) (.map [] 0) ⟨_, #[], rfl, heap_new _ _, rfl, fun e h => (by cases h)⟩
theorem mp_own {α β : Type} {ke : Enc α} {ve : Enc β} {l : List (Nat × α × β)} {ck b : Nat} (hp : RH w S ρ H) (hb : H[b]? = some (mpO ke ve l ck)) : ∃ B ms, atB ρ b = some B ∧ w.heap[B]? = some (.map ms ck) ∧ ms.toList = l.map (fun e => (⟨ke.v e.2.1, ve.v e.2.2, e.1⟩ : MapEntry)) := by
 obtain ⟨B, ms, h1, h2, h3, h4⟩ := hp.blk b _ hb
 exact ⟨B, ms, h1, h2, by rw [h3, List.map_map]; rfl⟩
theorem rd_lookup {α β : Type} [DecidableEq α] {ke : Enc α} {ve : Enc β} {t kt et : TypeId} {x ix : Operand} {b ck : Nat} {l : List (Nat × α × β)} {k : α} {xk : AV} {z : β} (hk : KeyOk P kt ke) (ho : o.op = .lookup t x ix false) (ht : P.underlying t = some (.map kt et)) (hz : (P.info? et).bind (·.zero) = some (ve.v z))
    (hx : ev F x = some (.mp b)) (hH : H[b]? = some (mpO ke ve l ck)) (hi : ev F ix = some xk) (hxk : ∀ ρ H, xk.den ρ H = ke.v k) : Rd P N E o F H (ve.x ((mget l k).getD z)) := fun S ρ a w hR => by
 obtain ⟨h1, _⟩ := hR.ev hx
 have h2 := (hR.ev hi).1
 rw [hxk] at h2
 obtain ⟨B, ms, g1, g2, g3⟩ := mp_own hR.hp hH
 simp only [AV.den, g1] at h1
 obtain ⟨r, f1, f2, f3⟩ := hk.find ms.toList (l.map (·.2.1)) k w (by rw [g3, List.map_map, List.map_map]; rfl)
 obtain ⟨q1, q2⟩ := kpos_mget (a := k) l 0
 have hzr : (zeroValue et).run P w = .ok (ve.v z) w := by
  unfold zeroValue typeInfo
  cases hi : P.info? et with
  | none => rw [hi] at hz; cases hz
  | some i => rw [hi] at hz; simp only [Option.bind_some] at hz; simp [hi, hz]
 refine ⟨?_, ve.wf _ _ _ _ _⟩
 rw [ve.den]
 cases hp : kpos k (l.map (·.2.1)) 0 with
 | none =>
  rw [f2 hp] at f1
  rw [q1 hp]
  simp only [execOp, ho, h1, h2, Instr.lookup, Sem.run_bind, mp_under ht, Result.andThen_ok, mp_get g2, Sem.run_pure, hk.chk, f1, hzr]
  rfl
 | some j =>
  obtain ⟨m, f4, f5⟩ := f3 j hp
  obtain ⟨_, e, q3, q4, _⟩ := q2 j hp
  rw [f5] at f1
  have hm : m.val = ve.v e.2.2 := by
   rw [g3, List.getElem?_map] at f4
   rw [Nat.sub_zero] at q3
   rw [q3] at f4
   simp only [Option.map_some, Option.some.injEq] at f4
   rw [← f4]
  rw [q4]
  simp only [execOp, ho, h1, h2, Instr.lookup, Sem.run_bind, mp_under ht, Result.andThen_ok, mp_get g2, Sem.run_pure, hk.chk, f1, hm]
  rfl
theorem rd_lookupk {α β : Type} [DecidableEq α] {ke : Enc α} {ve : Enc β} {t kt et : TypeId} {x ix : Operand} {b ck : Nat} {l : List (Nat × α × β)} {k : α} {xk : AV} {z : β} (hk : KeyOk P kt ke) (ho : o.op = .lookup t x ix true) (ht : P.underlying t = some (.map kt et)) (hz : (P.info? et).bind (·.zero) = some (ve.v z))
    (hx : ev F x = some (.mp b)) (hH : H[b]? = some (mpO ke ve l ck)) (hi : ev F ix = some xk) (hxk : ∀ ρ H, xk.den ρ H = ke.v k) : Rd P N E o F H (.t [ve.x ((mget l k).getD z), .c (.s (.bool (mget l k).isSome))]) := fun S ρ a w hR => by
 obtain ⟨h1, _⟩ := hR.ev hx
 have h2 := (hR.ev hi).1
 rw [hxk] at h2
 obtain ⟨B, ms, g1, g2, g3⟩ := mp_own hR.hp hH
 simp only [AV.den, g1] at h1
 obtain ⟨r, f1, f2, f3⟩ := hk.find ms.toList (l.map (·.2.1)) k w (by rw [g3, List.map_map, List.map_map]; rfl)
 obtain ⟨q1, q2⟩ := kpos_mget (a := k) l 0
 have hzr : (zeroValue et).run P w = .ok (ve.v z) w := by
  unfold zeroValue typeInfo
  cases hi : P.info? et with
  | none => rw [hi] at hz; cases hz
  | some i => rw [hi] at hz; simp only [Option.bind_some] at hz; simp [hi, hz]
 refine ⟨?_, .t fun y hy => ?_⟩
 ·simp only [AV.den, AV.denL, ve.den, CV.den]
  cases hp : kpos k (l.map (·.2.1)) 0 with
  | none =>
   rw [f2 hp] at f1
   rw [q1 hp]
   simp only [execOp, ho, h1, h2, Instr.lookup, Sem.run_bind, mp_under ht, Result.andThen_ok, mp_get g2, Sem.run_pure, hk.chk, f1, hzr]
   rfl
  | some j =>
   obtain ⟨m, f4, f5⟩ := f3 j hp
   obtain ⟨_, e, q3, q4, _⟩ := q2 j hp
   rw [f5] at f1
   have hm : m.val = ve.v e.2.2 := by
    rw [g3, List.getElem?_map] at f4
    rw [Nat.sub_zero] at q3
    rw [q3] at f4
    simp only [Option.map_some, Option.some.injEq] at f4
    rw [← f4]
   rw [q4]
   simp only [execOp, ho, h1, h2, Instr.lookup, Sem.run_bind, mp_under ht, Result.andThen_ok, mp_get g2, Sem.run_pure, hk.chk, f1, hm]
   rfl
 ·simp only [List.mem_cons, List.not_mem_nil, or_false] at hy
  rcases hy with rfl | rfl
  ·exact ve.wf _ _ _ _ _
  ·exact .c (.s _)
theorem ef_mapset {α β : Type} [DecidableEq α] {ke : Enc α} {ve : Enc β} {t kt et : TypeId} {x ix y : Operand} {b ck : Nat} {l : List (Nat × α × β)} {k : α} {xk yv : AV} {z : β} (hk : KeyOk P kt ke) (ho : o.op = .mapUpdate t x ix y) (hd : o.dst = none) (ht : P.underlying t = some (.map kt et))
    (hx : ev F x = some (.mp b)) (hH : H[b]? = some (mpO ke ve l ck)) (hi : ev F ix = some xk) (hxk : ∀ ρ H, xk.den ρ H = ke.v k) (hy : ev F y = some yv) (hyv : ∀ ρ H, yv.den ρ H = ve.v z) :
    Ef P N E o F H fun F' H' => F' = F ∧ H' = H.set b (mpO ke ve (mset ck k z l) (mclk ck k l)) := fun S ρ a w hR => by
 obtain ⟨h1, _⟩ := hR.ev hx
 have h2 := (hR.ev hi).1
 have h3 := (hR.ev hy).1
 rw [hxk] at h2
 rw [hyv] at h3
 obtain ⟨B, ms, g1, g2, g3⟩ := mp_own hR.hp hH
 simp only [AV.den, g1] at h1
 obtain ⟨r, f1, f2, f3⟩ := hk.find ms.toList (l.map (·.2.1)) k w (by rw [g3, List.map_map, List.map_map]; rfl)
 obtain ⟨q1, q2⟩ := kpos_mget (a := k) l 0
 have fin : ∀ ms' : Array MapEntry, ms'.toList = (mset ck k z l).map (fun e => (⟨ke.v e.2.1, ve.v e.2.2, e.1⟩ : MapEntry)) → (execOp a.eval o).run P w = .ok .skip (putBlk w B (.map ms' (mclk ck k l))) → effO P o a w fun a' w' => ∃ S' ρ' F' H', (F' = F ∧ H' = H.set b (mpO ke ve (mset ck k z l) (mclk ck k l))) ∧ R N E S' ρ' F' H' a' w' := fun ms' hms hex => by
  unfold effO
  rw [hex]
  refine ⟨S, ρ, _, _, ⟨rfl, rfl⟩, ?_⟩
  rw [hd]
  refine R.set (ob := mpO ke ve l ck) hR hH g1 rfl rfl (fun _ => rfl) (putBlk_size _ _) ⟨B, ms', rfl, putBlk_at g2, by rw [hms, List.map_map]; rfl, fun e he => ?_⟩
  obtain ⟨e', _, rfl⟩ := List.mem_map.1 he
  exact .s _
 cases hp : kpos k (l.map (·.2.1)) 0 with
 | none =>
  rw [f2 hp] at f1
  have hn := q1 hp
  refine fin (ms.push ⟨ke.v k, ve.v z, ck⟩) ?_ ?_
  ·rw [mset_none hn, Array.toList_push, g3, List.map_append]; rfl
  ·have : mclk ck k l = ck + 1 := by unfold mclk; rw [hn]; rfl
   rw [this]
   simp only [execOp, ho, h1, h2, h3, Instr.mapUpdate, Sem.run_bind, mp_under ht, Result.andThen_ok, mp_get g2, hk.chk, f1, mp_put g2, Sem.run_pure]
 | some j =>
  obtain ⟨m, f4, f5⟩ := f3 j hp
  obtain ⟨_, e, q3, q4, q5⟩ := q2 j hp
  rw [f5] at f1
  rw [Nat.sub_zero] at q3
  have hmk : m.key = ke.v k := by
   rw [g3, List.getElem?_map, q3] at f4
   simp only [Option.map_some, Option.some.injEq] at f4
   rw [← f4, ← q5]
  have hst : (Instr.keyThatStays (((ms[j]?).map (·.key)).getD (ke.v k)) (ke.v k)).run P w = .ok (ke.v k) w := by
   rw [← Array.getElem?_toList, f4]
   simp only [Option.map_some, Option.getD_some, hmk]
   unfold Instr.keyThatStays
   rw [if_pos (hk.bits k)]
   rfl
  refine fin (ms.modify j fun e => { e with key := ke.v k, val := ve.v z }) ?_ ?_
  ·obtain ⟨_, q6⟩ := mset_some (ck := ck) (b := z) hp
   rw [q6, Array.toList_modify, g3, Nat.sub_zero]
   refine List.ext_getElem? fun i => ?_
   simp only [List.getElem?_modify, List.getElem?_map]
   cases hl : l[i]? with
   | none => simp
   | some e2 => by_cases hij : j = i <;> simp [hij]
  ·have : mclk ck k l = ck := by unfold mclk; rw [q4]; rfl
   rw [this]
   simp only [execOp, ho, h1, h2, h3, Instr.mapUpdate, Sem.run_bind, mp_under ht, Result.andThen_ok, mp_get g2, hk.chk, f1, hst, mp_put g2, Sem.run_pure]
theorem ef_range {α β : Type} {ke : Enc α} {ve : Enc β} {t kt et : TypeId} {x : Operand} {b ck d : Nat} {l : List (Nat × α × β)} (ho : o.op = .range t x) (hd : o.dst = some d) (hN : d < N) (ht : P.underlying t = some (.map kt et)) (hx : ev F x = some (.mp b)) (hH : H[b]? = some (mpO ke ve l ck)) :
    Ef P N E o F H fun F' H' => F' = (d, .p H.length 0 0) :: F ∧ H' = H ++ [.itr b ck [] ck] :=
 ef_of hd hN ⟨rfl, rfl⟩ fun S ρ a w hR => by
  obtain ⟨h1, h2⟩ := hR.ev hx
  obtain ⟨B, ms, g1, g2, g3⟩ := mp_own hR.hp hH
  simp only [AV.den, g1] at h1
  have hblt : b < H.length := (List.getElem?_eq_some_iff.1 hH).1
  refine ⟨S, ρ ++ [some w.heap.size], w.alloc (.mapIter (some B) ck #[] ck), ?_, ?_, wf_snoc_p hR.hp _⟩
  ·rw [den_snoc_p hR.hp]
   simp only [execOp, ho, h1, Instr.range, Sem.run_bind, mp_under ht, Result.andThen_ok, mp_get g2, Sem.run_pure, run_newObj, World.alloc_eq]
  ·have hat : atB (ρ ++ [some w.heap.size]) b = some B := by rw [atB_snoc, if_neg (by rw [hR.hp.len]; omega)]; exact g1
   exact hR.newO _ (.itr b ck [] ck) ⟨_, rfl, by rw [heap_new, hat], by simp; omega, by rw [hat]; rfl⟩
theorem ef_next {α β : Type} {ke : Enc α} {ve : Enc β} {x : Operand} {bi b ck since last d : Nat} {seen : List Nat} {l : List (Nat × α × β)} (ho : o.op = .next x false) (hd : o.dst = some d) (hN : d < N) (hx : ev F x = some (.p bi 0 0)) (hi : H[bi]? = some (.itr b since seen last)) (hH : H[b]? = some (mpO ke ve l ck))
    (hs : ∀ e ∈ l, e.1 < since) (hl : since ≤ last) :
    Ef P N E o F H fun F' H' => (∃ e ∈ l, e.1 ∉ seen ∧ F' = (d, .t [.c (.s (.bool true)), ke.x e.2.1, ve.x e.2.2]) :: F ∧ H' = H.set bi (.itr b since (seen ++ [e.1]) ck)) ∨ ((∀ e ∈ l, e.1 ∈ seen) ∧ F' = (d, .t [.c (.s (.bool false))]) :: F ∧ H' = H) := fun S ρ a w hR => by
 obtain ⟨h1, _⟩ := hR.ev hx
 obtain ⟨B, ms, g1, g2, g3⟩ := mp_own hR.hp hH
 obtain ⟨Bi, i1, i2, i3, i4⟩ := hR.hp.blk bi _ hi
 have hz : szAt H bi = 0 := by unfold szAt; rw [hi]; rfl
 simp only [AV.den, i1, hz, Option.map_some, Nat.mul_zero, Nat.add_zero, Nat.zero_add] at h1
 rw [g1] at i2
 have hold : ∀ x ∈ ms.toList, x.born < since := fun x hx => by
  rw [g3] at hx
  obtain ⟨e, he, rfl⟩ := List.mem_map.1 hx
  exact hs e he
 unfold effO
 rcases run_next_at (P := P) w o.type Bi B since last seen.toArray ms ck i2 g2 hold hl with ⟨q0, hrun⟩ | ⟨e, he, w1, hw1, hrun⟩
 ·have hex : (execOp a.eval o).run P w = .ok (.value (.tuple #[.bool false])) w := by
   simp only [execOp, ho, h1, Sem.run_bind, hrun, Result.andThen_ok, Sem.run_pure]
  rw [hex]
  refine ⟨S, ρ, _, _, .inr ⟨fun e he => ?_, rfl, rfl⟩, ?_⟩
  ·have hm : (⟨ke.v e.2.1, ve.v e.2.2, e.1⟩ : MapEntry) ∈ ms.toList := by rw [g3]; exact List.mem_map.2 ⟨e, he, rfl⟩
   have h0 : leftOf ms seen.toArray = #[] := Array.eq_empty_of_size_eq_zero q0
   unfold leftOf at h0
   rw [Array.filter_eq_empty_iff] at h0
   have := h0 _ (Array.mem_toList_iff.1 hm)
   simpa using this
  ·rw [hd]
   exact hR.put (x := .t [.c (.s (.bool false))]) hN (.t fun y hy => by rw [List.mem_singleton.1 hy]; exact .c (.s _))
 ·have hex : (execOp a.eval o).run P w = .ok (.value (.tuple #[.bool true, e.key, e.val])) (putBlk w1 Bi (.mapIter (some B) since (seen.toArray.push e.born) ck)) := by
   simp only [execOp, ho, h1, Sem.run_bind, hrun, Result.andThen_ok, Sem.run_pure]
   rfl
  rw [hex]
  have he' : e ∈ ms.toList ∧ e.born ∉ seen := by
   unfold leftOf at he
   simpa using he
  obtain ⟨e2, he2, rfl⟩ : ∃ e2 ∈ l, (⟨ke.v e2.2.1, ve.v e2.2.2, e2.1⟩ : MapEntry) = e := by
   have := he'.1
   rw [g3] at this
   obtain ⟨e2, q1, q2⟩ := List.mem_map.1 this
   exact ⟨e2, q1, q2⟩
  have hR1 : R N E S ρ F H a w1 := by rcases hw1 with rfl | rfl <;> first | exact hR | exact hR.drew
  have hi1 : w1.heap[Bi]? = some (.mapIter (some B) since seen.toArray last) := by rcases hw1 with rfl | rfl <;> exact i2
  refine ⟨S, ρ, _, _, .inl ⟨e2, he2, he'.2, rfl, rfl⟩, ?_⟩
  rw [hd]
  have hset := R.set (ob := .itr b since seen last) (ob' := .itr b since (seen ++ [e2.1]) ck) (cob := .mapIter (some B) since (seen.toArray.push e2.1) ck) hR1 hi i1 rfl rfl (fun h => absurd rfl h) (putBlk_size _ _) ⟨Bi, rfl, by rw [putBlk_at hi1, g1]; simp, by simpa using i3, i4⟩
  have := hset.put (d := d) (x := .t [.c (.s (.bool true)), ke.x e2.2.1, ve.x e2.2.2]) hN (.t fun y hy => by
   simp only [List.mem_cons, List.not_mem_nil, or_false] at hy
   rcases hy with rfl | rfl | rfl
   ·exact .c (.s _)
   ·exact ke.wf _ _ _ _ _
   ·exact ve.wf _ _ _ _ _)
  simpa [AV.den, AV.denL, ke.den, ve.den, CV.den] using this
theorem rd_entry {α β : Type} {ke : Enc α} {ve : Enc β} {x : Operand} {bi b ck since : Nat} {seen : List Nat} {l : List (Nat × α × β)} {e : Nat × α × β} (ho : o.op = .entry x) (hx : ev F x = some (.p bi 0 0)) (hi : H[bi]? = some (.itr b since (seen ++ [e.1]) ck)) (hH : H[b]? = some (mpO ke ve l ck)) (he : e ∈ l) (hn : (l.map (·.1)).Nodup) :
    Rd P N E o F H (.t [ke.x e.2.1, ve.x e.2.2]) := fun S ρ a w hR => by
 obtain ⟨h1, _⟩ := hR.ev hx
 obtain ⟨B, ms, g1, g2, g3⟩ := mp_own hR.hp hH
 obtain ⟨Bi, i1, i2, i3, i4⟩ := hR.hp.blk bi _ hi
 have hz : szAt H bi = 0 := by unfold szAt; rw [hi]; rfl
 simp only [AV.den, i1, hz, Option.map_some, Nat.mul_zero, Nat.add_zero, Nat.zero_add] at h1
 rw [g1] at i2
 have hrun := run_entry_at (P := P) w Bi B since seen.toArray ms ck ⟨ke.v e.2.1, ve.v e.2.2, e.1⟩ (by rw [i2]; simp) g2 (by rw [g3]; exact List.mem_map.2 ⟨e, he, rfl⟩) (by rw [g3, List.map_map]; exact hn)
 refine ⟨?_, .t fun y hy => ?_⟩
 ·simp only [execOp, ho, h1, Sem.run_bind, hrun, Result.andThen_ok, Sem.run_pure, AV.den, AV.denL, ke.den, ve.den]
 ·simp only [List.mem_cons, List.not_mem_nil, or_false] at hy
  rcases hy with rfl | rfl
  ·exact ke.wf _ _ _ _ _
  ·exact ve.wf _ _ _ _ _
end
end Go.Proofs.YtfilfijammemfaaGreatDoor

/- Sets of spots, as maps: plain. -/
namespace Go.Proofs.YtfilfijammemfaaGreatDoor
open Go Go.RowKit
def encP : Enc Spot := ⟨fun p => .agg #[.int .i64 p.1, .int .i64 p.2], fun p => .a [.c (.s (.int .i64 p.1)), .c (.s (.int .i64 p.2))], fun p ρ H => by simp [AV.den, AV.denL, CV.den], fun p w S ρ H => .a fun x hx => by
 simp only [List.mem_cons, List.not_mem_nil, or_false] at hx
 rcases hx with rfl | rfl
 ·exact .c (.s _)
 ·exact .c (.s _)⟩
def encT : Enc Bool := ⟨fun b => .bool b, fun b => .c (.s (.bool b)), fun b ρ H => rfl, fun b w S ρ H => .c (.s _)⟩
abbrev SE := List (Nat × Spot × Bool)
structure SetOk (es : SE) (ck : Nat) (L : List Spot) : Prop where
 hv : ∀ e ∈ es, e.2.2 = true
 hb : ∀ e ∈ es, e.1 < ck
 nb : (es.map (·.1)).Nodup
 nk : (es.map (·.2.1)).Nodup
 hm : ∀ p, p ∈ es.map (·.2.1) ↔ p ∈ L
theorem SetOk.nil : SetOk [] 0 [] := ⟨fun e h => (by cases h), fun e h => (by cases h), .nil, .nil, fun p => Iff.rfl⟩
theorem SetOk.to {es : SE} {ck : Nat} {L L' : List Spot} (h : SetOk es ck L) (hL : ∀ p, p ∈ L ↔ p ∈ L') : SetOk es ck L' := ⟨h.hv, h.hb, h.nb, h.nk, fun p => (h.hm p).trans (hL p)⟩
theorem mget_no {es : SE} {p : Spot} : mget es p = none ↔ p ∉ es.map (·.2.1) := by
 induction es with
 | nil => simp [mget]
 | cons e es ih =>
  simp only [mget, List.map_cons, List.mem_cons]
  split
  ·rename_i h; simp [h]
  ·rename_i h; rw [ih]; simp [h]
theorem mget_in {es : SE} {p : Spot} (hv : ∀ e ∈ es, e.2.2 = true) : (mget es p).getD false = decide (p ∈ es.map (·.2.1)) := by
 induction es with
 | nil => simp [mget]
 | cons e es ih =>
  simp only [mget, List.map_cons, List.mem_cons]
  split
  ·rename_i h; simp [h, hv e List.mem_cons_self]
  ·rename_i h; rw [ih fun e he => hv e (List.mem_cons_of_mem _ he)]; simp [h]
theorem SetOk.get {es : SE} {ck : Nat} {L : List Spot} (h : SetOk es ck L) (p : Spot) : (mget es p).getD false = decide (p ∈ L) := by
 rw [mget_in h.hv]; simp only [h.hm]
theorem mset_same {ck : Nat} {p : Spot} : ∀ {es : SE}, (∀ e ∈ es, e.2.2 = true) → p ∈ es.map (·.2.1) → mset ck p true es = es
 | [], _, h => by simp at h
 | e :: es, hv, h => by
  unfold mset
  split
  ·rename_i hp
   have := hv e List.mem_cons_self
   obtain ⟨a, b, c⟩ := e
   simp only at hp this ⊢
   rw [hp, this]
  ·rename_i hp
   rw [mset_same (fun e he => hv e (List.mem_cons_of_mem _ he)) (by rw [List.map_cons, List.mem_cons] at h; exact h.resolve_left hp)]
theorem SetOk.set {es : SE} {ck : Nat} {L : List Spot} (h : SetOk es ck L) (p : Spot) : SetOk (mset ck p true es) (mclk ck p es) (L ++ [p]) := by
 by_cases hp : p ∈ es.map (·.2.1)
 ·have hs : (mget es p).isSome = true := by
   cases hg : mget es p with
   | some v => rfl
   | none => exact absurd hp (mget_no.1 hg)
  rw [mset_same h.hv hp, mclk, if_pos hs]
  refine h.to fun q => ?_
  rw [List.mem_append, List.mem_singleton]
  constructor
  ·exact .inl
  ·rintro (hq | rfl)
   ·exact hq
   ·exact (h.hm q).1 hp
 ·have hn := mget_no.2 hp
  rw [mset_none hn, mclk, if_neg (by rw [hn]; simp)]
  refine ⟨fun e he => ?_, fun e he => ?_, ?_, ?_, fun q => ?_⟩
  ·rcases List.mem_append.1 he with he | he
   ·exact h.hv e he
   ·rw [List.mem_singleton] at he; rw [he]
  ·rcases List.mem_append.1 he with he | he
   ·exact Nat.lt_succ_of_lt (h.hb e he)
   ·rw [List.mem_singleton] at he; rw [he]; exact Nat.lt_succ_self _
  ·rw [List.map_append]
   refine List.nodup_append.2 ⟨h.nb, by simp, fun a ha b hb e => ?_⟩
   simp only [List.map_cons, List.map_nil, List.mem_singleton] at hb
   obtain ⟨e', he', rfl⟩ := List.mem_map.1 ha
   have := h.hb e' he'
   omega
  ·rw [List.map_append]
   refine List.nodup_append.2 ⟨h.nk, by simp, fun a ha b hb e => ?_⟩
   simp only [List.map_cons, List.map_nil, List.mem_singleton] at hb
   exact hp (by rw [← hb, ← e]; exact ha)
  ·rw [List.map_append, List.mem_append, List.mem_append, h.hm]; simp
def seenT (es : SE) (seen : List Nat) : List Spot := (es.filter fun e => seen.contains e.1).map (·.2.1)
def unseen (es : SE) (seen : List Nat) : Nat := (es.filter fun e => !seen.contains e.1).length
theorem seenT_mem {es : SE} {seen : List Nat} {p : Spot} : p ∈ seenT es seen ↔ ∃ e ∈ es, e.1 ∈ seen ∧ e.2.1 = p := by
 simp only [seenT, List.mem_map, List.mem_filter, List.contains_iff_mem]
 constructor
 ·rintro ⟨e, ⟨h1, h2⟩, h3⟩; exact ⟨e, h1, h2, h3⟩
 ·rintro ⟨e, h1, h2, h3⟩; exact ⟨e, ⟨h1, h2⟩, h3⟩
theorem nodup_inj {α β : Type} {f : α → β} : ∀ {l : List α}, (l.map f).Nodup → ∀ {a b : α}, a ∈ l → b ∈ l → f a = f b → a = b
 | [], _, _, _, h, _, _ => by cases h
 | x :: l, hd, a, b, ha, hb, e => by
  rw [List.map_cons, List.nodup_cons] at hd
  rcases List.mem_cons.1 ha with rfl | ha' <;> rcases List.mem_cons.1 hb with rfl | hb'
  ·rfl
  ·exact absurd (e ▸ List.mem_map_of_mem hb') hd.1
  ·exact absurd (e ▸ List.mem_map_of_mem ha') hd.1
  ·exact nodup_inj hd.2 ha' hb' e
theorem seenT_snoc {es : SE} {seen : List Nat} {e : Nat × Spot × Bool} (hn : (es.map (·.1)).Nodup) (he : e ∈ es) {p : Spot} : p ∈ seenT es (seen ++ [e.1]) ↔ p ∈ seenT es seen ++ [e.2.1] := by
 rw [seenT_mem, List.mem_append, List.mem_singleton, seenT_mem]
 constructor
 ·rintro ⟨e', h1, h2, rfl⟩
  rw [List.mem_append, List.mem_singleton] at h2
  rcases h2 with h2 | h2
  ·exact .inl ⟨e', h1, h2, rfl⟩
  ·exact .inr (by rw [nodup_inj hn h1 he h2])
 ·rintro (⟨e', h1, h2, rfl⟩ | rfl)
  ·exact ⟨e', h1, List.mem_append_left _ h2, rfl⟩
  ·exact ⟨e, he, by simp, rfl⟩
theorem seenT_end {es : SE} {ck : Nat} {L : List Spot} (h : SetOk es ck L) {seen : List Nat} (hs : ∀ e ∈ es, e.1 ∈ seen) {p : Spot} : p ∈ seenT es seen ↔ p ∈ L := by
 rw [seenT_mem, ← h.hm, List.mem_map]
 constructor
 ·rintro ⟨e, h1, _, h3⟩; exact ⟨e, h1, h3⟩
 ·rintro ⟨e, h1, h3⟩; exact ⟨e, h1, hs e h1, h3⟩
theorem filter_lt {α : Type} {p q : α → Bool} : ∀ {l : List α} {a : α}, (∀ x, q x = true → p x = true) → a ∈ l → p a = true → q a = false → (l.filter q).length < (l.filter p).length
 | [], _, _, h, _, _ => by cases h
 | x :: l, a, hpq, ha, h1, h2 => by
  have hle : (l.filter q).length ≤ (l.filter p).length := by
   clear ha
   induction l with
   | nil => simp
   | cons y l ih =>
    simp only [List.filter_cons]
    cases hq : q y with
    | true => rw [if_pos rfl, if_pos (hpq y hq), List.length_cons, List.length_cons]; omega
    | false => rw [if_neg (by simp)]; split <;> (try rw [List.length_cons]) <;> omega
  simp only [List.filter_cons]
  rcases List.mem_cons.1 ha with rfl | ha
  ·rw [if_pos h1, if_neg (by simp [h2]), List.length_cons]; omega
  ·have := filter_lt hpq ha h1 h2
   cases hq : q x with
   | true => rw [if_pos rfl, if_pos (hpq x hq), List.length_cons, List.length_cons]; omega
   | false => rw [if_neg (by simp)]; split <;> (try rw [List.length_cons]) <;> omega
theorem unseen_lt {es : SE} {seen : List Nat} {e : Nat × Spot × Bool} (he : e ∈ es) (hn : e.1 ∉ seen) : unseen es (seen ++ [e.1]) < unseen es seen :=
 filter_lt (a := e) (fun x hx => by simp at hx ⊢; exact hx.1) he (by simp [hn]) (by simp)
theorem x0_mem {L L' : List Spot} (h : ∀ p, p ∈ L ↔ p ∈ L') : x0 L = x0 L' ∧ x1 L = x1 L' ∧ y0 L = y0 L' ∧ y1 L = y1 L' := by
 have hc : ∀ x, x ∈ cols L ↔ x ∈ cols L' := fun x => by simp only [cols, List.mem_map, h]
 have hr : ∀ x, x ∈ rws L ↔ x ∈ rws L' := fun x => by simp only [rws, List.mem_map, h]
 exact ⟨mnL_mem hc, mxL_mem hc, mnL_mem hr, mxL_mem hr⟩
theorem x0_snocs {L : List Spot} {p : Spot} (h : L ≠ []) : x0 (L ++ [p]) = min (x0 L) p.1 ∧ x1 (L ++ [p]) = max (x1 L) p.1 ∧ y0 (L ++ [p]) = min (y0 L) p.2 ∧ y1 (L ++ [p]) = max (y1 L) p.2 := by
 have hc : cols L ≠ [] := by simpa [cols] using h
 have hr : rws L ≠ [] := by simpa [rws] using h
 have e1 : cols (L ++ [p]) = cols L ++ [p.1] := by simp [cols]
 have e2 : rws (L ++ [p]) = rws L ++ [p.2] := by simp [rws]
 unfold x0 x1 y0 y1
 rw [e1, e2]
 exact ⟨mnL_snoc hc, mxL_snoc hc, mnL_snoc hr, mxL_snoc hr⟩
end Go.Proofs.YtfilfijammemfaaGreatDoor

/- The union of two grids: plain. -/
namespace Go.Proofs.YtfilfijammemfaaGreatDoor
def ixG (x y : Int) (w : Nat) (p : Spot) : Nat := ((p.2 - y) * (w : Int) + p.1 - x).toNat
def putG (x y : Int) (w : Nat) : List Bool → List Spot → List Bool
 | on, [] => on
 | on, p :: L => putG x y w (on.set (ixG x y w p) true) L
theorem putG_app {x y : Int} {w : Nat} : ∀ {L : List Spot} {M : List Spot} {on : List Bool}, putG x y w on (L ++ M) = putG x y w (putG x y w on L) M
 | [], _, _ => rfl
 | p :: L, M, on => by rw [List.cons_append, putG, putG, putG_app]
theorem putG_snoc {x y : Int} {w : Nat} {L : List Spot} {p : Spot} {on : List Bool} : putG x y w on (L ++ [p]) = (putG x y w on L).set (ixG x y w p) true := by rw [putG_app]; rfl
theorem putG_len {x y : Int} {w : Nat} : ∀ {L : List Spot} {on : List Bool}, (putG x y w on L).length = on.length
 | [], _ => rfl
 | p :: L, on => by rw [putG, putG_len, List.length_set]
def inBox (x y : Int) (w h : Nat) (p : Spot) : Prop := (x ≤ p.1 ∧ p.1 < x + w) ∧ (y ≤ p.2 ∧ p.2 < y + h)
theorem ix_box {x y : Int} {w h : Nat} {p : Spot} (hp : inBox x y w h p) : (p.2 - y) * (w : Int) + p.1 - x = ixG x y w p ∧ ixG x y w p < w * h ∧ ixG x y w p = (p.2 - y).toNat * w + (p.1 - x).toNat := by
 obtain ⟨⟨h1, h2⟩, h3, h4⟩ := hp
 obtain ⟨a, ha⟩ : ∃ a : Nat, p.1 = x + a := ⟨(p.1 - x).toNat, by omega⟩
 obtain ⟨b, hb⟩ : ∃ b : Nat, p.2 = y + b := ⟨(p.2 - y).toNat, by omega⟩
 have e : (p.2 - y) * (w : Int) + p.1 - x = ((b * w + a : Nat) : Int) := by
  rw [ha, hb, show y + (b : Int) - y = b by omega]
  push_cast
  omega
 have hlt : b * w + a < w * h := by
  have h5 : (b + 1) * w ≤ h * w := Nat.mul_le_mul_right _ (by omega)
  rw [Nat.succ_mul] at h5
  rw [Nat.mul_comm w h]
  omega
 unfold ixG
 rw [e, Int.toNat_natCast]
 exact ⟨rfl, hlt, by rw [hb, ha, show y + (b : Int) - y = b by omega, show x + (a : Int) - x = a by omega]; rfl⟩
theorem spt_ixG {g : Grd} {p : Spot} (hp : inBox g.x g.y g.w g.h p) : spt g (ixG g.x g.y g.w p) = p := by
 rw [(ix_box hp).2.2]
 obtain ⟨⟨h1, h2⟩, h3, h4⟩ := hp
 rw [spt_at (by omega)]
 ext <;> simp only <;> omega
theorem set_cov {g : Grd} {i : Nat} (hi : i < g.on.length) {q : Spot} : q ∈ covG { g with on := g.on.set i true } ↔ q ∈ covG g ∨ q = spt g i := by
 rw [covG_mem, covG_mem]
 simp only
 constructor
 ·rintro ⟨j, h1, rfl⟩
  by_cases e : i = j
  ·subst e; exact .inr rfl
  ·rw [List.getElem?_set_ne e] at h1; exact .inl ⟨j, h1, rfl⟩
 ·rintro (⟨j, h1, rfl⟩ | rfl)
  ·by_cases e : i = j
   ·subst e; exact ⟨i, by rw [List.getElem?_set_self hi], rfl⟩
   ·exact ⟨j, by rw [List.getElem?_set_ne e]; exact h1, rfl⟩
  ·exact ⟨i, by rw [List.getElem?_set_self hi], rfl⟩
theorem put_cov : ∀ {L : List Spot} {g : Grd}, g.on.length = g.w * g.h → (∀ p ∈ L, inBox g.x g.y g.w g.h p) → ∀ {q : Spot}, q ∈ covG { g with on := putG g.x g.y g.w g.on L } ↔ q ∈ covG g ∨ q ∈ L
 | [], g, _, _, q => by simp [putG]
 | p :: L, g, hl, hL, q => by
  have hp := hL p List.mem_cons_self
  have hi : ixG g.x g.y g.w p < g.on.length := by rw [hl]; exact (ix_box hp).2.1
  have ih := put_cov (L := L) (g := { g with on := g.on.set (ixG g.x g.y g.w p) true }) (by simpa using hl) (fun r hr => hL r (List.mem_cons_of_mem _ hr)) (q := q)
  simp only at ih
  rw [putG, ih, set_cov hi, spt_ixG hp, List.mem_cons]
  constructor
  ·rintro ((h | h) | h)
   ·exact .inl h
   ·exact .inr (.inl h)
   ·exact .inr (.inr h)
  ·rintro (h | h | h)
   ·exact .inl (.inl h)
   ·exact .inl (.inr h)
   ·exact .inr h
theorem cov_none {st x y : Int} {w h n : Nat} {q : Spot} : ¬ q ∈ covG ⟨st, x, y, w, h, List.replicate n false⟩ := fun hq => by
 obtain ⟨i, h1, _⟩ := covG_mem.1 hq
 simp only at h1
 rw [List.getElem?_replicate] at h1
 split at h1 <;> simp at h1
end Go.Proofs.YtfilfijammemfaaGreatDoor
