/- CheckNotes, by value. -/
import Derived.Test.YtcchlddiggmcaaaGreatDoorQat
import Derived.Maps.RangeRun
import Derived.Test.YtcchlddiggmcaaaGreatDoorQay
import Derived.Laws.StructEq
import Derived.Test.YtcchlddiggmcaaaGreatDoorQax
set_option linter.unusedSimpArgs false
set_option linter.unusedVariables false
namespace Go.Proofs.YtcchlddiggmcaaaGreatDoor
open Go Go.RowKit
structure Enc (α : Type) where
 v : α → Value
 x : α → AV
 den : ∀ a ρ H, (x a).den ρ H = v a
 wf : ∀ a w S ρ H, WF w S ρ H (x a)
section
variable {P : Program} {w : World}
theorem zp1 {t : TypeId} {d : TypeDesc} (h : P.underlying t = some d) : (underlying t).run P w = .ok d w := by unfold underlying; simp [h]
theorem mp_get {b ck : Nat} {ms : Array MapEntry} (h : w.heap[b]? = some (.map ms ck)) : (getObj b).run P w = .ok (.map ms ck) w := by
 unfold getObj
 simp [Sem.run, h]
theorem mp_put {B ck : Nat} {ob : Obj} {ms : Array MapEntry} (h : w.heap[B]? = some (.map ms ck)) : (setObj B ob).run P w = .ok () (zB w B ob) := by
 unfold setObj
 simp [Sem.run, h, zB]
def kpos {α : Type} [DecidableEq α] (a : α) : List α → Nat → Option Nat
 | [], _ => none
 | b :: l, i => if a = b then some i else kpos a l (i + 1)
structure KeyOk (P : Program) (kt : TypeId) {α : Type} [DecidableEq α] (e : Enc α) : Prop where
 chk : ∀ b a w, (Instr.checkKey b 10000 kt (e.v a)).run P w = .ok () w
 bits : ∀ a, Instr.sameBits 10000 (e.v a) (e.v a) = true
 find : ∀ (ms : List MapEntry) (l : List α) a w, ms.map (·.key) = l.map e.v → ∃ r, (Instr.findKey kt (e.v a) ms).run P w = .ok r w ∧ (kpos a l 0 = none → r = none) ∧ ∀ i, kpos a l 0 = some i → ∃ m, ms[i]? = some m ∧ r = some (i, m.val)
theorem findNow_of {α : Type} [DecidableEq α] {e : Enc α} {d : TypeDesc} (hn : ∀ a b, Instr.sameNow d (e.v a) (e.v b) = some (decide (a = b))) (a : α) : ∀ (ms : List MapEntry) (l : List α) (i : Nat), ms.map (·.key) = l.map e.v → ∃ r, Instr.findNow d (e.v a) ms i = some r ∧ (kpos a l i = none → r = none) ∧ ∀ j, kpos a l i = some j → ∃ m, i ≤ j ∧ ms[j - i]? = some m ∧ r = some (j, m.val)
 | [], [], i, _ => ⟨none, rfl, fun _ => rfl, fun j h => (by cases h)⟩
 | [], _ :: _, _, h => (by simp at h)
 | _ :: _, [], _, h => (by simp at h)
 | m :: ms, b :: l, i, h => by
  simp only [List.map_cons, List.cons.injEq] at h
  unfold Instr.findNow kpos
  rw [h.1, hn]
  by_cases hab : a = b
  ·rw [decide_eq_true hab, if_pos hab]
   exact ⟨_, rfl, fun h => (by cases h), fun j hj => (by injection hj with hj; subst hj; exact ⟨m, Nat.le_refl _, by simp, rfl⟩)⟩
  ·rw [decide_eq_false hab, if_neg hab]
   obtain ⟨r, h1, h2, h3⟩ := findNow_of hn a ms l (i + 1) h.2
   refine ⟨r, h1, h2, fun j hj => ?_⟩
   obtain ⟨m', g1, g2, g3⟩ := h3 j hj
   exact ⟨m', by omega, by rw [show j - i = (j - (i + 1)) + 1 by omega, List.getElem?_cons_succ]; exact g2, g3⟩
theorem findAsk_of {α : Type} [DecidableEq α] {e : Enc α} {kt : TypeId} (he : ∀ a b w, (Op.equal kt (e.v a) (e.v b)).run P w = .ok (decide (a = b)) w) (a : α) : ∀ (ms : List MapEntry) (l : List α) (i : Nat), ms.map (·.key) = l.map e.v → ∃ r, (Instr.findAsking kt (e.v a) ms i).run P w = .ok r w ∧ (kpos a l i = none → r = none) ∧ ∀ j, kpos a l i = some j → ∃ m, i ≤ j ∧ ms[j - i]? = some m ∧ r = some (j, m.val)
 | [], [], i, _ => ⟨none, rfl, fun _ => rfl, fun j h => (by cases h)⟩
 | [], _ :: _, _, h => (by simp at h)
 | _ :: _, [], _, h => (by simp at h)
 | m :: ms, b :: l, i, h => by
  simp only [List.map_cons, List.cons.injEq] at h
  unfold Instr.findAsking kpos
  simp only [Sem.run_bind]
  rw [h.1, he]
  simp only [Result.andThen_ok]
  by_cases hab : a = b
  ·rw [decide_eq_true hab, if_pos hab, if_pos rfl]
   exact ⟨_, rfl, fun h => (by cases h), fun j hj => (by injection hj with hj; subst hj; exact ⟨m, Nat.le_refl _, by simp, rfl⟩)⟩
  ·rw [decide_eq_false hab, if_neg hab, if_neg (by simp)]
   obtain ⟨r, h1, h2, h3⟩ := findAsk_of he a ms l (i + 1) h.2
   refine ⟨r, h1, h2, fun j hj => ?_⟩
   obtain ⟨m', g1, g2, g3⟩ := h3 j hj
   exact ⟨m', by omega, by rw [show j - i = (j - (i + 1)) + 1 by omega, List.getElem?_cons_succ]; exact g2, g3⟩
theorem KeyOk.now {kt : TypeId} {α : Type} [DecidableEq α] {e : Enc α} {d : TypeDesc} (hu : P.underlying kt = some d) (hn : ∀ a b, Instr.sameNow d (e.v a) (e.v b) = some (decide (a = b))) (hc : ∀ b a w, (Instr.checkKey b 10000 kt (e.v a)).run P w = .ok () w) (hb : ∀ a, Instr.sameBits 10000 (e.v a) (e.v a) = true) : KeyOk P kt e :=
 ⟨hc, hb, fun ms l a w h => by
  obtain ⟨r, h1, h2, h3⟩ := findNow_of hn a ms l 0 h
  refine ⟨r, ?_, h2, fun i hi => ?_⟩
  ·unfold Instr.findKey
   simp only [Sem.run_bind, zp1 hu, Result.andThen_ok, h1]
   rfl
  ·obtain ⟨m, _, g2, g3⟩ := h3 i hi
   exact ⟨m, g2, g3⟩⟩
theorem KeyOk.ask {kt : TypeId} {α : Type} [DecidableEq α] {e : Enc α} {d : TypeDesc} (hu : P.underlying kt = some d) (hn : ∀ a b, Instr.sameNow d (e.v a) (e.v b) = none) (he : ∀ a b w, (Op.equal kt (e.v a) (e.v b)).run P w = .ok (decide (a = b)) w) (hc : ∀ b a w, (Instr.checkKey b 10000 kt (e.v a)).run P w = .ok () w) (hb : ∀ a, Instr.sameBits 10000 (e.v a) (e.v a) = true) : KeyOk P kt e :=
 ⟨hc, hb, fun ms l a w h => by
  obtain ⟨r, h1, h2, h3⟩ := findAsk_of (w := w) he a ms l 0 h
  cases ms with
  | nil =>
   cases l with
   | nil => exact ⟨none, by unfold Instr.findKey; simp only [Sem.run_bind, zp1 hu, Result.andThen_ok, Instr.findNow]; rfl, fun _ => rfl, fun i hi => (by cases hi)⟩
   | cons b l => simp at h
  | cons m ms =>
   cases l with
   | nil => simp at h
   | cons b l =>
    refine ⟨r, ?_, h2, fun i hi => ?_⟩
    ·unfold Instr.findKey
     simp only [Sem.run_bind, zp1 hu, Result.andThen_ok, Instr.findNow]
     have hk : m.key = e.v b := by simpa using (List.cons.inj h).1
     rw [hk, hn]
     exact h1
    ·obtain ⟨m, _, g2, g3⟩ := h3 i hi
     exact ⟨m, g2, g3⟩⟩
end
abbrev mpO {α β : Type} (ke : Enc α) (ve : Enc β) (l : List (Nat × α × β)) (ck : Nat) : OB := .map (l.map fun e => (e.1, ke.v e.2.1, .s (ve.v e.2.2))) ck
def mget {α β : Type} [DecidableEq α] : List (Nat × α × β) → α → Option β
 | [], _ => none
 | e :: l, a => if a = e.2.1 then some e.2.2 else mget l a
def mset {α β : Type} [DecidableEq α] (ck : Nat) (a : α) (b : β) : List (Nat × α × β) → List (Nat × α × β)
 | [] => [(ck, a, b)]
 | e :: l => if a = e.2.1 then (e.1, a, b) :: l else e :: mset ck a b l
def mclk {α β : Type} [DecidableEq α] (ck : Nat) (a : α) (l : List (Nat × α × β)) : Nat := if (mget l a).isSome then ck else ck + 1
theorem zy1 {α β : Type} [DecidableEq α] {ck : Nat} {a c : α} {b : β} : ∀ {l : List (Nat × α × β)}, mget (mset ck a b l) c = if c = a then some b else mget l c
 | [] => by simp [mset, mget]
 | e :: l => by
  unfold mset
  by_cases h : a = e.2.1
  ·rw [if_pos h]
   simp only [mget]
   by_cases hc : c = a
   ·rw [if_pos hc, if_pos hc]
   ·rw [if_neg hc, if_neg hc, if_neg (by rw [← h]; exact hc)]
  ·rw [if_neg h]
   simp only [mget]
   by_cases hc : c = e.2.1
   ·rw [if_pos hc, if_pos hc, if_neg (by rw [hc]; exact fun h' => h h'.symm)]
   ·rw [if_neg hc, if_neg hc, zy1]
theorem kpos_mget {α β : Type} [DecidableEq α] {a : α} : ∀ (l : List (Nat × α × β)) (i : Nat), (kpos a (l.map (·.2.1)) i = none → mget l a = none) ∧ ∀ j, kpos a (l.map (·.2.1)) i = some j → i ≤ j ∧ ∃ e, l[j - i]? = some e ∧ mget l a = some e.2.2 ∧ e.2.1 = a
 | [], i => ⟨fun _ => rfl, fun j h => (by cases h)⟩
 | e :: l, i => by
  simp only [List.map_cons, kpos, mget]
  by_cases h : a = e.2.1
  ·rw [if_pos h, if_pos h]
   exact ⟨fun h => (by cases h), fun j hj => (by injection hj with hj; subst hj; exact ⟨Nat.le_refl _, e, by simp, rfl, h.symm⟩)⟩
  ·rw [if_neg h, if_neg h]
   obtain ⟨h1, h2⟩ := kpos_mget (a := a) l (i + 1)
   refine ⟨h1, fun j hj => ?_⟩
   obtain ⟨g1, e', g2, g3⟩ := h2 j hj
   exact ⟨by omega, e', by rw [show j - i = (j - (i + 1)) + 1 by omega, List.getElem?_cons_succ]; exact g2, g3⟩
theorem mset_none {α β : Type} [DecidableEq α] {ck : Nat} {a : α} {b : β} : ∀ {l : List (Nat × α × β)}, mget l a = none → mset ck a b l = l ++ [(ck, a, b)]
 | [], _ => rfl
 | e :: l, h => by
  simp only [mget] at h
  split at h
  ·cases h
  ·rename_i hne
   simp only [mset]
   rw [if_neg hne, mset_none h]; rfl
theorem mset_some {α β : Type} [DecidableEq α] {ck : Nat} {a : α} {b : β} : ∀ {l : List (Nat × α × β)} {i j : Nat}, kpos a (l.map (·.2.1)) i = some j → i ≤ j ∧ mset ck a b l = l.modify (j - i) (fun e => (e.1, a, b))
 | [], _, _, h => (by cases h)
 | e :: l, i, j, h => by
  simp only [List.map_cons, kpos] at h
  simp only [mset]
  split at h
  ·rename_i he
   injection h with h
   subst h
   rw [if_pos he]
   exact ⟨Nat.le_refl _, by simp⟩
  ·rename_i he
   obtain ⟨h1, h2⟩ := mset_some (ck := ck) (b := b) h
   rw [if_neg he, h2]
   exact ⟨by omega, by rw [show j - i = (j - (i + 1)) + 1 by omega]; rfl⟩
section
variable {P : Program} {N : Nat} {E : Env} {F : Fm} {H : List OB} {o : Oper} {S : Nat → Prop} {ρ : List (Option Nat)} {a : Act} {w : World}
theorem ef_mkmap {t : TypeId} {d : Nat} (ho : o.op = .makeMap t none) (hd : o.dst = some d) (hN : d < N) : Ef P N E o F H fun F' H' => F' = (d, .mp H.length) :: F ∧ H' = H ++ [.map [] 0] :=
 ef_of hd hN ⟨rfl, rfl⟩ fun S ρ a w hR => by
  refine ⟨S, ρ ++ [some w.heap.size], w.alloc (.map #[] 0), ?_, ?_, .mp (by simp) (by simp [zk1, hR.hp.len])⟩
  ·have : (AV.mp H.length).den (ρ ++ [some w.heap.size]) (H ++ [.map [] 0]) = .map (some w.heap.size) := by simp [AV.den, zk1, hR.hp.len]
   rw [this]
   simp only [execOp, ho, Instr.makeMap, Option.map_none, Sem.run_bind, Sem.run_pure, Result.andThen_ok, run_newObj, World.alloc_eq]
  ·exact hR.newO (.map #[] 0) (.map [] 0) ⟨_, #[], rfl, heap_new _ _, rfl, fun e h => (by cases h)⟩
theorem mp_own {α β : Type} {ke : Enc α} {ve : Enc β} {l : List (Nat × α × β)} {ck b : Nat} (hp : RH w S ρ H) (hb : H[b]? = some (mpO ke ve l ck)) : ∃ B ms, atB ρ b = some B ∧ w.heap[B]? = some (.map ms ck) ∧ ms.toList = l.map (fun e => (⟨ke.v e.2.1, ve.v e.2.2, e.1⟩ : MapEntry)) := by
 obtain ⟨B, ms, h1, h2, h3, h4⟩ := hp.blk b _ hb
 exact ⟨B, ms, h1, h2, by rw [h3, List.map_map]; rfl⟩
theorem rd_lookup {α β : Type} [DecidableEq α] {ke : Enc α} {ve : Enc β} {t kt et : TypeId} {x ix : Operand} {b ck : Nat} {l : List (Nat × α × β)} {k : α} {xk : AV} {z : β} (hk : KeyOk P kt ke) (ho : o.op = .lookup t x ix false) (ht : P.underlying t = some (.map kt et)) (hz : (P.info? et).bind (·.zero) = some (ve.v z))
    (hx : ev F x = some (.mp b)) (hH : H[b]? = some (mpO ke ve l ck)) (hi : ev F ix = some xk) (hxk : ∀ ρ H, xk.den ρ H = ke.v k) : Rd P N E o F H (ve.x ((mget l k).getD z)) := fun S ρ a w hR => by
 obtain ⟨h1, _⟩ := hR.ev hx
 have h2 := (hR.ev hi).1
 rw [hxk] at h2
 obtain ⟨B, ms, g1, g2, g3⟩ := mp_own hR.hp hH
 simp only [AV.den, g1] at h1
 obtain ⟨r, f1, f2, f3⟩ := hk.find ms.toList (l.map (·.2.1)) k w (by rw [g3, List.map_map, List.map_map]; rfl)
 obtain ⟨q1, q2⟩ := kpos_mget (a := k) l 0
 have hzr : (zeroValue et).run P w = .ok (ve.v z) w := by
  unfold zeroValue typeInfo
  cases hi : P.info? et with
  | none => rw [hi] at hz; cases hz
  | some i => rw [hi] at hz; simp only [Option.bind_some] at hz; simp [hi, hz]
 refine ⟨?_, ve.wf _ _ _ _ _⟩
 rw [ve.den]
 cases hp : kpos k (l.map (·.2.1)) 0 with
 | none =>
  rw [f2 hp] at f1
  rw [q1 hp]
  simp only [execOp, ho, h1, h2, Instr.lookup, Sem.run_bind, zp1 ht, Result.andThen_ok, mp_get g2, Sem.run_pure, hk.chk, f1, hzr]
  rfl
 | some j =>
  obtain ⟨m, f4, f5⟩ := f3 j hp
  obtain ⟨_, e, q3, q4, _⟩ := q2 j hp
  rw [f5] at f1
  have hm : m.val = ve.v e.2.2 := by
   rw [g3, List.getElem?_map] at f4
   rw [Nat.sub_zero] at q3
   rw [q3] at f4
   simp only [Option.map_some, Option.some.injEq] at f4
   rw [← f4]
  rw [q4]
  simp only [execOp, ho, h1, h2, Instr.lookup, Sem.run_bind, zp1 ht, Result.andThen_ok, mp_get g2, Sem.run_pure, hk.chk, f1, hm]
  rfl
theorem rd_lookupk {α β : Type} [DecidableEq α] {ke : Enc α} {ve : Enc β} {t kt et : TypeId} {x ix : Operand} {b ck : Nat} {l : List (Nat × α × β)} {k : α} {xk : AV} {z : β} (hk : KeyOk P kt ke) (ho : o.op = .lookup t x ix true) (ht : P.underlying t = some (.map kt et)) (hz : (P.info? et).bind (·.zero) = some (ve.v z))
    (hx : ev F x = some (.mp b)) (hH : H[b]? = some (mpO ke ve l ck)) (hi : ev F ix = some xk) (hxk : ∀ ρ H, xk.den ρ H = ke.v k) : Rd P N E o F H (.t [ve.x ((mget l k).getD z), .c (.s (.bool (mget l k).isSome))]) := fun S ρ a w hR => by
 obtain ⟨h1, _⟩ := hR.ev hx
 have h2 := (hR.ev hi).1
 rw [hxk] at h2
 obtain ⟨B, ms, g1, g2, g3⟩ := mp_own hR.hp hH
 simp only [AV.den, g1] at h1
 obtain ⟨r, f1, f2, f3⟩ := hk.find ms.toList (l.map (·.2.1)) k w (by rw [g3, List.map_map, List.map_map]; rfl)
 obtain ⟨q1, q2⟩ := kpos_mget (a := k) l 0
 have hzr : (zeroValue et).run P w = .ok (ve.v z) w := by
  unfold zeroValue typeInfo
  cases hi : P.info? et with
  | none => rw [hi] at hz; cases hz
  | some i => rw [hi] at hz; simp only [Option.bind_some] at hz; simp [hi, hz]
 refine ⟨?_, .t fun y hy => ?_⟩
 ·simp only [AV.den, AV.denL, ve.den, CV.den]
  cases hp : kpos k (l.map (·.2.1)) 0 with
  | none =>
   rw [f2 hp] at f1
   rw [q1 hp]
   simp only [execOp, ho, h1, h2, Instr.lookup, Sem.run_bind, zp1 ht, Result.andThen_ok, mp_get g2, Sem.run_pure, hk.chk, f1, hzr]
   rfl
  | some j =>
   obtain ⟨m, f4, f5⟩ := f3 j hp
   obtain ⟨_, e, q3, q4, _⟩ := q2 j hp
   rw [f5] at f1
   have hm : m.val = ve.v e.2.2 := by
    rw [g3, List.getElem?_map] at f4
    rw [Nat.sub_zero] at q3
    rw [q3] at f4
    simp only [Option.map_some, Option.some.injEq] at f4
    rw [← f4]
   rw [q4]
   simp only [execOp, ho, h1, h2, Instr.lookup, Sem.run_bind, zp1 ht, Result.andThen_ok, mp_get g2, Sem.run_pure, hk.chk, f1, hm]
   rfl
 ·simp only [List.mem_cons, List.not_mem_nil, or_false] at hy
  rcases hy with rfl | rfl
  ·exact ve.wf _ _ _ _ _
  ·exact .c (.s _)
theorem ef_mapset {α β : Type} [DecidableEq α] {ke : Enc α} {ve : Enc β} {t kt et : TypeId} {x ix y : Operand} {b ck : Nat} {l : List (Nat × α × β)} {k : α} {xk yv : AV} {z : β} (hk : KeyOk P kt ke) (ho : o.op = .mapUpdate t x ix y) (hd : o.dst = none) (ht : P.underlying t = some (.map kt et))
    (hx : ev F x = some (.mp b)) (hH : H[b]? = some (mpO ke ve l ck)) (hi : ev F ix = some xk) (hxk : ∀ ρ H, xk.den ρ H = ke.v k) (hy : ev F y = some yv) (hyv : ∀ ρ H, yv.den ρ H = ve.v z) :
    Ef P N E o F H fun F' H' => F' = F ∧ H' = H.set b (mpO ke ve (mset ck k z l) (mclk ck k l)) := fun S ρ a w hR => by
 obtain ⟨h1, _⟩ := hR.ev hx
 have h2 := (hR.ev hi).1
 have h3 := (hR.ev hy).1
 rw [hxk] at h2
 rw [hyv] at h3
 obtain ⟨B, ms, g1, g2, g3⟩ := mp_own hR.hp hH
 simp only [AV.den, g1] at h1
 obtain ⟨r, f1, f2, f3⟩ := hk.find ms.toList (l.map (·.2.1)) k w (by rw [g3, List.map_map, List.map_map]; rfl)
 obtain ⟨q1, q2⟩ := kpos_mget (a := k) l 0
 have fin : ∀ ms' : Array MapEntry, ms'.toList = (mset ck k z l).map (fun e => (⟨ke.v e.2.1, ve.v e.2.2, e.1⟩ : MapEntry)) → (execOp a.eval o).run P w = .ok .skip (zB w B (.map ms' (mclk ck k l))) → effO P o a w fun a' w' => ∃ S' ρ' F' H', (F' = F ∧ H' = H.set b (mpO ke ve (mset ck k z l) (mclk ck k l))) ∧ R N E S' ρ' F' H' a' w' := fun ms' hms hex => by
  unfold effO
  rw [hex]
  refine ⟨S, ρ, _, _, ⟨rfl, rfl⟩, ?_⟩
  rw [hd]
  refine R.set (ob := mpO ke ve l ck) hR hH g1 rfl rfl (fun _ => rfl) (putBlk_size _ _) ⟨B, ms', rfl, putBlk_at g2, by rw [hms, List.map_map]; rfl, fun e he => ?_⟩
  obtain ⟨e', _, rfl⟩ := List.mem_map.1 he
  exact .s _
 cases hp : kpos k (l.map (·.2.1)) 0 with
 | none =>
  rw [f2 hp] at f1
  have hn := q1 hp
  refine fin (ms.push ⟨ke.v k, ve.v z, ck⟩) ?_ ?_
  ·rw [mset_none hn, Array.toList_push, g3, List.map_append]; rfl
  ·have : mclk ck k l = ck + 1 := by unfold mclk; rw [hn]; rfl
   rw [this]
   simp only [execOp, ho, h1, h2, h3, Instr.mapUpdate, Sem.run_bind, zp1 ht, Result.andThen_ok, mp_get g2, hk.chk, f1, mp_put g2, Sem.run_pure]
 | some j =>
  obtain ⟨m, f4, f5⟩ := f3 j hp
  obtain ⟨_, e, q3, q4, q5⟩ := q2 j hp
  rw [f5] at f1
  rw [Nat.sub_zero] at q3
  have hmk : m.key = ke.v k := by
   rw [g3, List.getElem?_map, q3] at f4
   simp only [Option.map_some, Option.some.injEq] at f4
   rw [← f4, ← q5]
  have hst : (Instr.keyThatStays (((ms[j]?).map (·.key)).getD (ke.v k)) (ke.v k)).run P w = .ok (ke.v k) w := by
   rw [← Array.getElem?_toList, f4]
   simp only [Option.map_some, Option.getD_some, hmk]
   unfold Instr.keyThatStays
   rw [if_pos (hk.bits k)]
   rfl
  refine fin (ms.modify j fun e => { e with key := ke.v k, val := ve.v z }) ?_ ?_
  ·obtain ⟨_, q6⟩ := mset_some (ck := ck) (b := z) hp
   rw [q6, Array.toList_modify, g3, Nat.sub_zero]
   refine List.ext_getElem? fun i => ?_
   simp only [List.getElem?_modify, List.getElem?_map]
   cases hl : l[i]? with
   | none => simp
   | some e2 => by_cases hij : j = i <;> simp [hij]
  ·have : mclk ck k l = ck := by unfold mclk; rw [q4]; rfl
   rw [this]
   simp only [execOp, ho, h1, h2, h3, Instr.mapUpdate, Sem.run_bind, zp1 ht, Result.andThen_ok, mp_get g2, hk.chk, f1, hst, mp_put g2, Sem.run_pure]
end
end Go.Proofs.YtcchlddiggmcaaaGreatDoor
-- NEWM
namespace Go.Proofs.YtcchlddiggmcaaaGreatDoor
open Go Go.RowKit
set_option maxRecDepth 100000
abbrev noRs (l : List Nt) : List (List CV) := l.map noR
def encO : Enc (List UInt8 × Int) := ⟨fun s => .agg #[.string (bst s.1), .int .i64 s.2], fun s => .a [.c (T s.1), .c (I s.2)], fun s ρ H => by simp [AV.den, AV.denL, CV.den], fun s w S ρ H => .a fun x hx => by
 simp only [List.mem_cons, List.not_mem_nil, or_false] at hx
 rcases hx with rfl | rfl
 ·exact .c (.s _)
 ·exact .c (.s _)⟩
def encB : Enc Bool := ⟨fun b => .bool b, fun b => .c (B b), fun b ρ H => rfl, fun b w S ρ H => .c (.s _)⟩
theorem chkI (b : Bool) (z : Int) (w : World) : (Instr.checkKey b 9999 3 (.int .i64 z)).run Tryz.prog w = .ok () w := by
 rw [show (9999 : Nat) = 9998 + 1 from rfl, Instr.checkKey]
 simp only [Sem.run_bind, zp1 Tryz.underlying3, Result.andThen_ok]
 rfl
theorem chkSt (b : Bool) (s : ByteArray) (w : World) : (Instr.checkKey b 9999 9 (.string s)).run Tryz.prog w = .ok () w := by
 rw [show (9999 : Nat) = 9998 + 1 from rfl, Instr.checkKey]
 simp only [Sem.run_bind, zp1 Tryz.underlying9, Result.andThen_ok]
 rfl
theorem keyOe (a c : List UInt8) (b d : Int) (w : World) : (Op.equal 80 (.agg #[.string (bst a), .int .i64 b]) (.agg #[.string (bst c), .int .i64 d])).run Tryz.prog w = .ok (decide (a = c) && b == d) w := by
 have u3 := Tryz.underlying3
 have a3 := Tryz.isAgg3
 have z3 := Tryz.sizeOf3
 have u9 := Tryz.underlying9
 have a9 := Tryz.isAgg9
 have z9 := Tryz.sizeOf9
 have hS : Tryz.prog.underlying 80 = some (.struct (Tryz.prog.fieldsOf 80)) := by kernel_rfl
 have hp : Tryz.prog.stoodInHeld 80 = false := by kernel_rfl
 unfold Op.equal Op.maxDepth
 rw [show (10000 : Nat) = 9999 + 1 from rfl, run_equalIn_agg w 9999 80 _ _ hS hp]
 simp only [Program.fieldsOf, Tryz.underlying80]
 have e1 : (a = c) = ((bst a).toList = (bst c).toList) := by rw [zX1, zX1]
 go_simp
 simp only [zX1]
 by_cases h1 : a = c <;> by_cases h2 : b = d <;> simp [h1, h2]
theorem keyOc (em : Bool) (a : ByteArray) (b : Int) (w : World) : (Instr.checkKey em 10000 80 (.agg #[.string a, .int .i64 b])).run Tryz.prog w = .ok () w := by
 have u3 := Tryz.underlying3
 have a3 := Tryz.isAgg3
 have z3 := Tryz.sizeOf3
 have u9 := Tryz.underlying9
 have a9 := Tryz.isAgg9
 have z9 := Tryz.sizeOf9
 have hc := chkI em
 have hs := chkSt em
 rw [show (10000 : Nat) = 9999 + 1 from rfl, Instr.checkKey]
 simp only [Sem.run_bind, zp1 Tryz.underlying80, Result.andThen_ok]
 go_simp
theorem keyO : KeyOk Tryz.prog 80 encO := by
 refine .ask Tryz.underlying80 (fun _ _ => rfl) (fun a b w => ?_) (fun b a w => keyOc _ _ _ w) (fun a => ?_)
 ·simp only [encO]
  rw [keyOe]
  congr 1
  obtain ⟨a1, a2⟩ := a
  obtain ⟨b1, b2⟩ := b
  rw [Bool.eq_iff_iff]
  simp
 ·simp [encO, Instr.sameBits]
  first | exact beq_self_eq_true _ | exact (show ((bst a.fst).data == (bst a.fst).data) = true by simp) | rfl
end Go.Proofs.YtcchlddiggmcaaaGreatDoor
-- NEWM
namespace Go.Proofs.YtcchlddiggmcaaaGreatDoor
open Go Go.RowKit
set_option maxRecDepth 100000
abbrev ky (x : Nt) : List UInt8 × Int := (x.st, x.no)
def badO : Option Nt → Nt → Bool
 | none, _ => false
 | some q, x => decide (0 ≤ cmpNt q x)
def chkA : Option Nt → List Nt → Int
 | _, [] => 0
 | p, x :: l => if ntF x ≠ 0 then ntF x else if badO p x = true then 7 else chkA (some x) l
theorem chkA_cons (p : Option Nt) (x : Nt) (l : List Nt) : chkA p (x :: l) = if ntF x ≠ 0 then ntF x else if badO p x = true then 7 else chkA (some x) l := by cases p <;> rfl
theorem chkA_nil (p : Option Nt) : chkA p [] = 0 := by cases p <;> rfl
def chkN (l : List Nt) : Int := if 2000 < l.length then 2 else if chkA none l ≠ 0 then chkA none l else if (l.map ky).Nodup then 0 else 6
def prv (l : List Nt) (k : Nat) : Option Nt := if k = 0 then none else l[k - 1]?
theorem drop_at {α : Type} {l : List α} {k : Nat} {n : α} (h : l[k]? = some n) : l.drop k = n :: l.drop (k + 1) := by
 obtain ⟨h1, h2⟩ := List.getElem?_eq_some_iff.1 h
 rw [List.drop_eq_getElem_cons h1, h2]
theorem prv_next {l : List Nt} {k : Nat} {x : Nt} (h : l[k]? = some x) : prv l (k + 1) = some x := by unfold prv; rw [if_neg (by omega)]; exact h
theorem zm1 {l : List Nt} {k : Nat} {x : Nt} (h : l[k]? = some x) : (noRs l)[k]? = some (noR x) := by rw [List.getElem?_map, h]; rfl
theorem map_take_at {l : List Nt} {k : Nat} {x : Nt} (h : l[k]? = some x) : (l.take (k + 1)).map ky = (l.take k).map ky ++ [ky x] := by rw [List.take_add_one, h]; simp
theorem rd_lkO {N : Nat} {E : Env} {F : Fm} {H : List OB} {o : Oper} {x ix : Operand} {b ck : Nat} {l : List (Nat × (List UInt8 × Int) × Bool)} {k : List UInt8 × Int} {q : Bool} (hq : (mget l k).getD false = q) (ho : o.op = .lookup 90 x ix false)
    (hx : ev F x = some (.mp b)) (hH : H[b]? = some (mpO encO encB l ck)) (hi : ev F ix = some (encO.x k)) : Rd Tryz.prog N E o F H (.c (B q)) := by
 have := rd_lookup (N := N) (E := E) (ke := encO) (ve := encB) (k := k) (z := false) keyO ho Tryz.underlying90 (by kernel_rfl) hx hH hi (fun ρ H => encO.den k ρ H)
 rwa [hq] at this
theorem ef_muO {N : Nat} {E : Env} {F : Fm} {H : List OB} {o : Oper} {x ix y : Operand} {b ck : Nat} {l : List (Nat × (List UInt8 × Int) × Bool)} {k : List UInt8 × Int} {z : Bool} (ho : o.op = .mapUpdate 90 x ix y) (hd : o.dst = none)
    (hx : ev F x = some (.mp b)) (hH : H[b]? = some (mpO encO encB l ck)) (hi : ev F ix = some (encO.x k)) (hy : ev F y = some (encB.x z)) : Ef Tryz.prog N E o F H fun F' H' => F' = F ∧ H' = H.set b (mpO encO encB (mset ck k z l) (mclk ck k l)) :=
 ef_mapset (ke := encO) (ve := encB) (k := k) (z := z) keyO ho hd Tryz.underlying90 hx hH hi (fun ρ H => encO.den k ρ H) hy (fun ρ H => encB.den z ρ H)
set_option maxHeartbeats 2000000 in
theorem zR1 (v : Value) (l : List Nt) (hl : l.length ≤ 1000000) (hs : ∀ x ∈ l, NtS x) : ACalls Tryz.prog 22 [.c (.r v (noRs l))] [] fun u H => u = .c (I (chkN l)) ∧ H = [] := by
 have e1 : (noRs l).length = l.length := by simp
 refine zh (N := 56) Tryz.func22 rfl rfl (by simp) fun E hE => ?_
 refine WA ?_
 refine WA ?_
 refine zr rfl (fun h0 => ?_) (fun h0 => ?_)
 ·refine WA ?_
  exact zg [] _ rfl rfl rfl (by decide) (ZNK rfl) (fun _ => .nil) ⟨by rw [chkN, if_pos (by omega)], rfl⟩
 have e2 : chkN l = if chkA none l ≠ 0 then chkA none l else if (l.map ky).Nodup then 0 else 6 := by rw [chkN, if_neg (by omega)]
 refine ZZ ?_
 refine WA ?_
 refine zC (fun m F H => ∃ (k : Nat), m + k = l.length ∧ chkA (prv l k) (l.drop k) = chkA none l ∧ F = [(0, .c (.r v (noRs l))), (13, .c (.r v (noRs l))), (14, .c (I (noRs l).length)), (15, .c (I k))] ∧ H = []) ?_ ?_
 ·refine zm [] (fun _ => [(0, .c (.r v (noRs l))), (13, .c (.r v (noRs l))), (14, .c (I (noRs l).length)), (15, .c (I (0 : Nat)))]) (fun _ => []) (by decide) (ZNL hE) ZCF (fun _ => .nil) (fun _ => ?_)
  exact ⟨l.length, 0, by omega, rfl, rfl, rfl⟩
 ·rintro m F H ⟨k, hk, hf, rfl, rfl⟩
  refine WA ?_
  refine zr rfl (fun hlt => ?_) (fun hge => ?_)
  ·obtain ⟨x, hx⟩ : ∃ n, l[k]? = some n := ⟨_, List.getElem?_eq_getElem (by omega)⟩
   have hrow0 := zm1 hx
   have hxs := hs x (List.mem_of_getElem? hx)
   rw [drop_at hx, chkA_cons] at hf
   have hpn := prv_next hx
   obtain ⟨st, no, at_, kn, pr, jb, sp, n, of_, ot⟩ := x
   have hrow : (noRs l)[k]? = some [T st, I no, I at_, I kn, T pr, T jb, T sp, I n, T of_, I ot] := hrow0
   refine WA ?_
   refine WR ?_
   refine ze rfl (za false (fun _ => formed_v ⟨st, no, at_, kn, pr, jb, sp, n, of_, ot⟩ hxs) rfl .fn rfl (by decide) (by kernel_rfl) rfl (fun _ => .cons (.aL (C0 rfl)) .nil) (by simp)) ?_
   rintro _ _ ⟨_, _, _, ⟨rfl, rfl⟩, hF, hH⟩
   (refine NST hF hH ?_; clear hF hH; rintro rfl rfl)
   refine WE ?_
   generalize ntF ⟨st, no, at_, kn, pr, jb, sp, n, of_, ot⟩ = e at hf ⊢
   refine WA ?_
   refine zr rfl (fun h1 => ?_) (fun h1 => ?_)
   ·rw [if_pos h1] at hf
    refine WA ?_
    exact zg [] _ rfl rfl rfl (by decide) (ZNK rfl) (fun _ => .nil) ⟨by rw [e2, ← hf, if_pos h1], rfl⟩
   rw [if_neg h1] at hf
   refine ZZ ?_
   obtain ⟨q, hq⟩ : ∃ q, badO (prv l k) ⟨st, no, at_, kn, pr, jb, sp, n, of_, ot⟩ = q := ⟨_, rfl⟩
   rw [hq] at hf
   refine zU1 (fun F H => ∃ p, F = [(0, .c (.r v (noRs l))), (13, .c (.r v (noRs l))), (14, .c (I (noRs l).length)), (15, .c (I k)), (36, .c (B q))] ∧ H = [.box p]) ?_ ?_ wk_aw
   ·by_cases hk0 : k = 0
    ·subst hk0
     have hq' : q = false := hq.symm
     subst hq'
     refine ZZ ?_
     refine zo [(0, none), (1, none), (2, none), (3, none), (4, none), (5, none), (6, none), (7, none), (8, none), (9, some []), (10, none), (11, none)] zR (by kernel_rfl) ?_
     refine WP ?_
     first | refine zB1 rfl rfl rfl (by decide) ⟨zn, ?_⟩ | (refine zC1 rfl (za false (fun _ => compareN_v ⟨st, no, at_, kn, pr, jb, sp, n, of_, ot⟩ ⟨st, no, at_, kn, pr, jb, sp, n, of_, ot⟩) rfl .fn rfl (by decide) (by kernel_rfl) rfl (fun _ => .cons (.aL (C0 rfl)) (.cons (.aL (C0 rfl)) .nil)) (by simp)) ?_; rintro _ _ ⟨_, _, _, ⟨rfl, rfl⟩, hF, hH⟩; (refine NST hF hH ?_; clear hF hH; rintro rfl rfl); refine ⟨zn, ?_⟩)
     refine WQ ?_
     all_goals refine zm [some 0] (fun _ => [(0, .c (.r v (noRs l))), (13, .c (.r v (noRs l))), (14, .c (I (noRs l).length)), (15, .c (I (0 : Nat))), (36, .c (B false))]) (fun _ => [.box [.c (T st), .c (I no), .c (I at_), .c (I kn), .c (T pr), .c (T jb), .c (T sp), .c (I n), .c (T of_), .c (I ot)]]) (by decide) (ZNL hE) ZCF ZCH (fun _ => ?_)
     all_goals exact ⟨_, rfl, rfl⟩
    ·obtain ⟨y, hy⟩ : ∃ n, l[k - 1]? = some n := ⟨_, List.getElem?_eq_getElem (by omega)⟩
     have hkp : (0 : Int) < (k : Int) := by omega
     have hpy : prv l k = some y := by unfold prv; rw [if_neg hk0]; exact hy
     rw [hpy] at hq
     have hq' : decide (0 ≤ cmpNt y ⟨st, no, at_, kn, pr, jb, sp, n, of_, ot⟩) = q := hq
     have hrowy0 := zm1 hy
     have hk1 : ((k : Int) - 1) = ((k - 1 : Nat) : Int) := by omega
     obtain ⟨y0, y1, y2, y3, y4, y5, y6, y7, y8, y9⟩ := y
     have hrowy : (noRs l)[k - 1]? = some [T y0, I y1, I y2, I y3, T y4, T y5, T y6, I y7, T y8, I y9] := hrowy0
     refine ZZ ?_
     refine zo [(0, none), (1, none), (2, none), (3, none), (4, none), (5, none), (6, none), (7, none), (8, none), (9, some []), (10, none), (11, none)] zR (by kernel_rfl) ?_
     refine WP ?_
     first | refine zB1 rfl rfl rfl (by decide) ⟨zn, ?_⟩ | (refine zC1 rfl (za false (fun _ => compareN_v ⟨y0, y1, y2, y3, y4, y5, y6, y7, y8, y9⟩ ⟨st, no, at_, kn, pr, jb, sp, n, of_, ot⟩) rfl .fn rfl (by decide) (by kernel_rfl) rfl (fun _ => .cons (.aL (C0 rfl)) (.cons (.aL (C0 rfl)) .nil)) (by simp)) ?_; rintro _ _ ⟨_, _, _, ⟨rfl, rfl⟩, hF, hH⟩; (refine NST hF hH ?_; clear hF hH; rintro rfl rfl); refine ⟨zn, ?_⟩)
     refine WQ ?_
     all_goals refine zm [some 0] (fun _ => [(0, .c (.r v (noRs l))), (13, .c (.r v (noRs l))), (14, .c (I (noRs l).length)), (15, .c (I k)), (36, .c (B q))]) (fun _ => [.box [.c (T st), .c (I no), .c (I at_), .c (I kn), .c (T pr), .c (T jb), .c (T sp), .c (I n), .c (T of_), .c (I ot)]]) (by decide) (ZNL hE) ZCF ZCH (fun _ => ?_)
     all_goals exact ⟨_, rfl, rfl⟩
   rintro F H ⟨p, rfl, rfl⟩
   cases q with
   | true =>
    refine zb rfl ?_
    refine WA ?_
    exact zg [] _ rfl rfl rfl (by decide) (ZNK rfl) (fun _ => .nil) ⟨by rw [e2, ← hf]; rfl, rfl⟩
   | false =>
    refine zc rfl ?_
    refine ZZ ?_
    refine WA ?_
    refine zm [] (fun _ => [(0, .c (.r v (noRs l))), (13, .c (.r v (noRs l))), (14, .c (I (noRs l).length)), (15, .c (I (k + 1 : Nat)))]) (fun _ => []) (by decide) (ZNL hE) ZCF (fun _ => .nil) (fun _ => ?_)
    exact ⟨m - 1, by omega, k + 1, by omega, by rw [hpn, ← hf]; rfl, rfl, rfl⟩
  have h0' : chkA none l = 0 := by rw [← hf, List.drop_eq_nil_of_le (by omega), chkA_nil]
  rw [if_neg (by rw [h0']; simp)] at e2
  refine ZZ ?_
  refine ZR ?_
  refine ze rfl (ef_mkmap rfl rfl (by decide)) ?_
  rintro _ _ ⟨rfl, rfl⟩
  refine WE ?_
  refine WA ?_
  refine zC (fun m F H => ∃ (k mk : Nat) (ml : List (Nat × (List UInt8 × Int) × Bool)), m + k = l.length ∧ ((l.take k).map ky).Nodup ∧ (∀ s, (mget ml s).getD false = ((l.take k).map ky).contains s) ∧ F = [(6, .mp 0), (39, .c (.r v (noRs l))), (40, .c (I (noRs l).length)), (41, .c (I k))] ∧ H = [mpO encO encB ml mk]) ?_ ?_
  ·refine zm [some 0] (fun _ => [(6, .mp 0), (39, .c (.r v (noRs l))), (40, .c (I (noRs l).length)), (41, .c (I (0 : Nat)))]) (fun _ => [mpO encO encB [] 0]) (by decide) (ZNL hE) ZCF ZCH (fun _ => ?_)
   exact ⟨l.length, 0, 0, [], by omega, by simp, by simp [mget], rfl, rfl⟩
  ·rintro m F H ⟨k, mk, ml, hk, hd, hm, rfl, rfl⟩
   refine WA ?_
   refine zr rfl (fun hlt => ?_) (fun hge => ?_)
   ·obtain ⟨x, hx⟩ : ∃ n, l[k]? = some n := ⟨_, List.getElem?_eq_getElem (by omega)⟩
    have hrow0 := zm1 hx
    have hmt := map_take_at hx
    obtain ⟨st, no, at_, kn, pr, jb, sp, n, of_, ot⟩ := x
    have hrow : (noRs l)[k]? = some [T st, I no, I at_, I kn, T pr, T jb, T sp, I n, T of_, I ot] := hrow0
    obtain ⟨q, hq⟩ : ∃ q, (mget ml (st, no)).getD false = q := ⟨_, rfl⟩
    have hq2 := hm (st, no)
    rw [hq] at hq2
    refine WA ?_
    refine WA ?_
    refine ZR ?_
    iterate 2 refine WX1 ?_
    refine ZA (rd_lkO (k := (st, no)) (l := ml) (ck := mk) hq rfl rfl rfl rfl) ?_
    refine WE ?_
    cases q with
    | true =>
     refine zb rfl ?_
     refine WA ?_
     refine zg [] _ rfl rfl rfl (by decide) (ZNK rfl) (fun _ => .nil) ⟨?_, rfl⟩
     rw [e2, if_neg]
     intro hn
     rw [← List.take_append_drop (k + 1) l, List.map_append, hmt] at hn
     have h3 := (List.nodup_append.1 (List.nodup_append.1 hn).1).2.2
     have h4 := List.contains_iff_mem.1 hq2.symm
     exact h3 _ h4 _ (List.mem_singleton.2 rfl) rfl
    | false =>
     refine zc rfl ?_
     refine ZZ ?_
     refine ZR ?_
     iterate 2 refine WX1 ?_
     refine ze rfl (ef_muO (k := (st, no)) (l := ml) (ck := mk) (z := true) rfl rfl rfl rfl rfl rfl) ?_
     rintro _ _ ⟨rfl, rfl⟩
     refine WE ?_
     refine WA ?_
     refine zm [some 0] (fun _ => [(6, .mp 0), (39, .c (.r v (noRs l))), (40, .c (I (noRs l).length)), (41, .c (I (k + 1 : Nat)))]) (fun _ => [mpO encO encB (mset mk (st, no) true ml) (mclk mk (st, no) ml)]) (by decide) (ZNL hE) ZCF ZCH (fun _ => ?_)
     refine ⟨m - 1, by omega, k + 1, _, _, by omega, ?_, fun s => ?_, rfl, rfl⟩
     ·rw [hmt]
      refine List.nodup_append.2 ⟨hd, by simp, fun a ha b hb e => ?_⟩
      rw [List.mem_singleton] at hb
      subst hb; subst e
      rw [List.contains_iff_mem.2 ha] at hq2; cases hq2
     ·rw [hmt, zy1]
      by_cases h : s = (st, no)
      ·rw [if_pos h, h]; simp
      ·rw [if_neg h, hm, List.contains_eq_mem, List.contains_eq_mem]; simp [h]
   refine ZZ ?_
   refine WA ?_
   refine zg [] _ rfl rfl rfl (by decide) (ZNK rfl) (fun _ => .nil) ⟨?_, rfl⟩
   rw [List.take_of_length_le (by omega)] at hd
   rw [e2, if_pos hd]
end Go.Proofs.YtcchlddiggmcaaaGreatDoor
