/- Maps in the logic: an entry is made ready, and gets its value later (several assignments at once). -/
import Derived.Test.YtcdeonjdipcgpaaGreatDoorQay
set_option linter.unusedSimpArgs false
set_option linter.unusedVariables false
namespace Go.Proofs.YtcdeonjdipcgpaaGreatDoor
open Go Go.RowKit
def mborn {α β : Type} [DecidableEq α] (ck : Nat) (a : α) : List (Nat × α × β) → Nat
 | [] => ck
 | e :: l => if a = e.2.1 then e.1 else mborn ck a l
def mput {α β : Type} (i : Nat) (b : β) : List (Nat × α × β) → List (Nat × α × β)
 | [] => []
 | e :: l => if e.1 = i then (e.1, e.2.1, b) :: l else e :: mput i b l
theorem mborn_none {α β : Type} [DecidableEq α] {ck : Nat} {a : α} : ∀ {l : List (Nat × α × β)}, mget l a = none → mborn ck a l = ck
 | [], _ => rfl
 | e :: l, h => by
  simp only [mget] at h
  split at h
  ·cases h
  ·rename_i hne
   simp only [mborn]
   rw [if_neg hne, mborn_none h]
theorem mborn_at {α β : Type} [DecidableEq α] {ck : Nat} {a : α} : ∀ {l : List (Nat × α × β)} {i j : Nat} {e : Nat × α × β}, kpos a (l.map (·.2.1)) i = some j → l[j - i]? = some e → mborn ck a l = e.1
 | [], _, _, _, h, _ => by cases h
 | x :: l, i, j, e, h, he => by
  simp only [List.map_cons, kpos] at h
  simp only [mborn]
  split at h
  ·rename_i hx
   injection h with h
   subst h
   simp at he
   rw [if_pos hx, he]
  ·rename_i hx
   rw [if_neg hx]
   have h1 := (zo2 (a := a) l (i + 1)).2 j h
   refine mborn_at h ?_
   rw [show j - i = (j - (i + 1)) + 1 by omega, List.getElem?_cons_succ] at he
   exact he
theorem zE1 {α β : Type} [DecidableEq α] {ck : Nat} {a : α} {b c : β} : ∀ {l : List (Nat × α × β)}, (∀ e ∈ l, e.1 < ck) → (l.map (·.1)).Nodup → mput (mborn ck a l) b (mset ck a c l) = mset ck a b l
 | [], _, _ => by simp [mborn, mset, mput]
 | e :: l, h, hn => by
  rw [List.map_cons, List.nodup_cons] at hn
  simp only [mborn, mset]
  by_cases hx : a = e.2.1
  ·rw [if_pos hx, if_pos hx, if_pos hx]
   simp only [mput]
   rw [if_pos trivial]
  ·rw [if_neg hx, if_neg hx, if_neg hx]
   simp only [mput]
   have hb : mborn ck a l = ck ∨ mborn ck a l ∈ l.map (·.1) := by
    clear h hn
    induction l with
    | nil => exact .inl rfl
    | cons y l ih =>
     simp only [mborn, List.map_cons, List.mem_cons]
     split
     ·exact .inr (.inl rfl)
     ·rcases ih with ih | ih
      ·exact .inl ih
      ·exact .inr (.inr ih)
   rw [if_neg, zE1 (fun e he => h e (List.mem_cons_of_mem _ he)) hn.2]
   intro he
   rcases hb with hb | hb
   ·have := h e List.mem_cons_self; omega
   ·exact hn.1 (he ▸ hb)
theorem zD1 {α β : Type} [DecidableEq α] {ck : Nat} {a : α} {b : β} : ∀ {l : List (Nat × α × β)}, ∃ e ∈ mset ck a b l, e.1 = mborn ck a l
 | [] => ⟨_, List.mem_singleton.2 rfl, rfl⟩
 | e :: l => by
  simp only [mset, mborn]
  by_cases hx : a = e.2.1
  ·rw [if_pos hx, if_pos hx]; exact ⟨_, List.mem_cons_self, rfl⟩
  ·rw [if_neg hx, if_neg hx]
   obtain ⟨e', h1, h2⟩ := @zD1 _ _ _ ck a b l
   exact ⟨e', List.mem_cons_of_mem _ h1, h2⟩
section
variable {P : Program} {N : Nat} {E : Env} {F : Fm} {H : List OB} {o : Oper}
theorem mp_zero {et : TypeId} {z : Value} {w : World} (hz : (P.info? et).bind (·.zero) = some z) : (zeroValue et).run P w = .ok z w := by
 unfold zeroValue typeInfo
 cases hi : P.info? et with
 | none => rw [hi] at hz; cases hz
 | some i => rw [hi] at hz; simp only [Option.bind_some] at hz; simp [hi, hz]
theorem zX1 {α β : Type} [DecidableEq α] {ke : Enc α} {ve : Enc β} {t kt et : TypeId} {x ix : Operand} {b ck d : Nat} {l : List (Nat × α × β)} {k : α} {xk : AV} {z : β} (hk : KeyOk P kt ke) (ho : o.op = .mapEntry t x ix) (hd : o.dst = some d) (hN : d < N) (ht : P.underlying t = some (.map kt et)) (hz : (P.info? et).bind (·.zero) = some (ve.v z))
    (hx : ev F x = some (.mp b)) (hH : H[b]? = some (mpO ke ve l ck)) (hi : ev F ix = some xk) (hxk : ∀ ρ H, xk.den ρ H = ke.v k) :
    Ef P N E o F H fun F' H' => F' = (d, .t [ve.x ((mget l k).getD z), .c (.s (.int .i64 (mborn ck k l)))]) :: F ∧ H' = H.set b (mpO ke ve (mset ck k ((mget l k).getD z) l) (mclk ck k l)) := fun S ρ a w hR => by
 obtain ⟨h1, _⟩ := hR.ev hx
 have h2 := (hR.ev hi).1
 rw [hxk] at h2
 obtain ⟨B, ms, g1, g2, g3⟩ := zr3 hR.hp hH
 simp only [AV.den, g1] at h1
 obtain ⟨r, f1, f2, f3⟩ := hk.find ms.toList (l.map (·.2.1)) k w (by rw [g3, List.map_map, List.map_map]; rfl)
 obtain ⟨q1, q2⟩ := zo2 (a := k) l 0
 have fin : ∀ ms' : Array MapEntry, ms'.toList = (mset ck k ((mget l k).getD z) l).map (fun e => (⟨ke.v e.2.1, ve.v e.2.2, e.1⟩ : MapEntry)) → (execOp a.eval o).run P w = .ok (.value (.tuple #[ve.v ((mget l k).getD z), .int .i64 (mborn ck k l)])) (zU w B (.map ms' (mclk ck k l))) → effO P o a w fun a' w' => ∃ S' ρ' F' H', (F' = (d, .t [ve.x ((mget l k).getD z), .c (.s (.int .i64 (mborn ck k l)))]) :: F ∧ H' = H.set b (mpO ke ve (mset ck k ((mget l k).getD z) l) (mclk ck k l))) ∧ R N E S' ρ' F' H' a' w' := fun ms' hms hex => by
  unfold effO
  rw [hex]
  refine ⟨S, ρ, _, _, ⟨rfl, rfl⟩, ?_⟩
  rw [hd]
  have hset := R.set (ob := mpO ke ve l ck) (ob' := mpO ke ve (mset ck k ((mget l k).getD z) l) (mclk ck k l)) (cob := .map ms' (mclk ck k l)) hR hH g1 rfl rfl (fun _ => rfl) (zq1 _ _) ⟨B, ms', rfl, zB1 g2, by rw [hms, List.map_map]; rfl, fun e he => by
   obtain ⟨e', _, rfl⟩ := List.mem_map.1 he
   exact .s _⟩
  have := hset.put (d := d) (x := .t [ve.x ((mget l k).getD z), .c (.s (.int .i64 (mborn ck k l)))]) hN (.t fun y hy => by
   simp only [List.mem_cons, List.not_mem_nil, or_false] at hy
   rcases hy with rfl | rfl
   ·exact ve.wf _ _ _ _ _
   ·exact .c (.s _))
  simpa [AV.den, AV.denL, ve.den, CV.den] using this
 cases hp : kpos k (l.map (·.2.1)) 0 with
 | none =>
  rw [f2 hp] at f1
  have hn := q1 hp
  refine fin (ms.push ⟨ke.v k, ve.v z, ck⟩) ?_ ?_
  ·rw [hn, zU1 hn, Array.toList_push, g3, List.map_append]; rfl
  ·have : mclk ck k l = ck + 1 := by unfold mclk; rw [hn]; rfl
   rw [this, hn, mborn_none hn]
   simp only [execOp, ho, h1, h2, Instr.mapEntry, Sem.run_bind, za1 ht, Result.andThen_ok, zO2 g2, hk.chk, f1, mp_zero hz, mp_put g2, Sem.run_pure, goInt]
   rfl
 | some j =>
  obtain ⟨m, f4, f5⟩ := f3 j hp
  obtain ⟨_, e, q3, q4, q5⟩ := q2 j hp
  have hbn := mborn_at (ck := ck) hp q3
  rw [f5] at f1
  rw [Nat.sub_zero] at q3
  have hme : m = ⟨ke.v e.2.1, ve.v e.2.2, e.1⟩ := by
   rw [g3, List.getElem?_map, q3] at f4
   simp only [Option.map_some, Option.some.injEq] at f4
   exact f4.symm
  have hmk : m.key = ke.v k := by rw [hme, ← q5]
  have hst : (Instr.keyThatStays (((ms[j]?).map (·.key)).getD (ke.v k)) (ke.v k)).run P w = .ok (ke.v k) w := by
   rw [← Array.getElem?_toList, f4]
   simp only [Option.map_some, Option.getD_some, hmk]
   unfold Instr.keyThatStays
   rw [if_pos (hk.bits k)]
   rfl
  have hbo : (((ms[j]?).map (fun e => (e.born : Int))).getD 0) = (mborn ck k l : Nat) := by
   rw [← Array.getElem?_toList, f4, hbn, hme]; rfl
  have hv : m.val = ve.v ((mget l k).getD z) := by rw [hme, q4]; rfl
  refine fin (ms.modify j fun e => { e with key := ke.v k }) ?_ ?_
  ·obtain ⟨_, q6⟩ := mset_some (ck := ck) (b := (mget l k).getD z) hp
   rw [q6, Array.toList_modify, g3, Nat.sub_zero]
   refine List.ext_getElem? fun i => ?_
   simp only [List.getElem?_modify, List.getElem?_map]
   cases hl : l[i]? with
   | none => simp
   | some e2 =>
    by_cases hij : j = i
    ·subst hij
     rw [q3] at hl
     injection hl with hl
     subst hl
     simp [q4]
    ·simp [hij]
  ·have : mclk ck k l = ck := by unfold mclk; rw [q4]; rfl
   rw [this]
   simp only [execOp, ho, h1, h2, Instr.mapEntry, Sem.run_bind, za1 ht, Result.andThen_ok, zO2 g2, hk.chk, f1, hst, mp_put g2, Sem.run_pure, goInt, hbo, hv]
theorem zW1 {α β : Type} {ke : Enc α} {ve : Enc β} {t : TypeId} {x s y : Operand} {b ck i : Nat} {l : List (Nat × α × β)} {yv : AV} {z : β} (ho : o.op = .entryStore t x s y) (hd : o.dst = none)
    (hx : ev F x = some (.mp b)) (hH : H[b]? = some (mpO ke ve l ck)) (hs : ev F s = some (.c (.s (.int .i64 (i : Nat))))) (hi : ∃ e ∈ l, e.1 = i) (hy : ev F y = some yv) (hyv : ∀ ρ H, yv.den ρ H = ve.v z) :
    Ef P N E o F H fun F' H' => F' = F ∧ H' = H.set b (mpO ke ve (mput i z l) ck) := fun S ρ a w hR => by
 obtain ⟨h1, _⟩ := hR.ev hx
 have h2 := (hR.ev hs).1
 have h3 := (hR.ev hy).1
 rw [hyv] at h3
 simp only [AV.den, CV.den] at h2
 obtain ⟨B, ms, g1, g2, g3⟩ := zr3 hR.hp hH
 simp only [AV.den, g1] at h1
 have key : ∀ (l : List (Nat × α × β)), (∃ e ∈ l, e.1 = i) → ∃ j e, (l.map (fun e => (⟨ke.v e.2.1, ve.v e.2.2, e.1⟩ : MapEntry))).findIdx? (fun e => (e.born : Int) == (i : Int)) = some j ∧ l[j]? = some e ∧ mput i z l = l.modify j (fun e => (e.1, e.2.1, z)) := by
  intro l
  induction l with
  | nil => rintro ⟨e, he, _⟩; cases he
  | cons y l ih =>
   intro h
   rw [List.map_cons, List.findIdx?_cons]
   simp only [mput]
   by_cases hy : y.1 = i
   ·refine ⟨0, y, ?_, rfl, ?_⟩
    ·rw [if_pos (by simp [hy])]
    ·rw [if_pos hy]; simp
   ·obtain ⟨e, he, h4⟩ := h
    rcases List.mem_cons.1 he with rfl | he
    ·exact absurd h4 hy
    ·obtain ⟨j, e', h5, h6, h7⟩ := ih ⟨e, he, h4⟩
     refine ⟨j + 1, e', ?_, by simpa using h6, ?_⟩
     ·rw [if_neg (by simp; omega), h5]; rfl
     ·rw [if_neg hy, h7]; simp
 obtain ⟨j, e, k1, k2, k3⟩ := key l hi
 have hf : ms.findIdx? (fun e => (e.born : Int) == (i : Int)) = some j := by
  have h5 : ms.toList.toArray.findIdx? (fun e => (e.born : Int) == (i : Int)) = some j := by rw [List.findIdx?_toArray, g3]; exact k1
  simpa using h5
 have hms : (ms.modify j fun e => { e with val := ve.v z }).toList = (mput i z l).map (fun e => (⟨ke.v e.2.1, ve.v e.2.2, e.1⟩ : MapEntry)) := by
  rw [k3, Array.toList_modify, g3]
  refine List.ext_getElem? fun q => ?_
  simp only [List.getElem?_modify, List.getElem?_map]
  cases hl : l[q]? with
  | none => simp
  | some e2 => by_cases hij : j = q <;> simp [hij]
 have hex : (execOp a.eval o).run P w = .ok .skip (zU w B (.map (ms.modify j fun e => { e with val := ve.v z }) ck)) := by
  simp only [execOp, ho, h1, h2, h3, Instr.entryStore, Sem.run_bind, Result.andThen_ok, zO2 g2, asInt, asIntOf, hf, mp_put g2, Sem.run_pure]
 unfold effO
 rw [hex]
 refine ⟨S, ρ, _, _, ⟨rfl, rfl⟩, ?_⟩
 rw [hd]
 refine R.set (ob := mpO ke ve l ck) hR hH g1 rfl rfl (fun _ => rfl) (zq1 _ _) ⟨B, _, rfl, zB1 g2, by rw [hms, List.map_map]; rfl, fun e he => ?_⟩
 obtain ⟨e', _, rfl⟩ := List.mem_map.1 he
 exact .s _
end
end Go.Proofs.YtcdeonjdipcgpaaGreatDoor
