/- Closed calls: stores into cells, entries of maps. Conditions: none. -/
import Derived.Test.YtniolldgidgffaaGreatDoorQbs
set_option linter.unusedSimpArgs false
set_option linter.unusedVariables false
/- Closed calls: stores into cells, entries of maps. Conditions: none. -/
namespace Go.Proofs.YtniolldgidgffaaGreatDoor
open Go Go.RowKit
set_option maxRecDepth 100000
def xpart2 (o : XB) (j : Nat) (xs : List XV) : Option XB := match o with
 | .cells e l => bif Nat.ble (j + xs.length) l.length then some (.cells e (putL l j xs)) else none
 | .grown e sz l => bif Nat.ble (j + xs.length) l.length then some (.grown e sz (putL l j xs)) else none
 | _ => none
def setAt {α : Type} : List α → Nat → α → List α
 | [], _, _ => []
 | _ :: l, 0, y => y :: l
 | x :: l, i + 1, y => x :: setAt l i y
def xsame (a b : Value) : Bool := Instr.sameBits 10000 a b
def xstore (P : Program) (F : XFr) (H : XHp) (o : Oper) : Option XHp := match o.dst with
 | some _ => none
 | none => match o.op with
  | .store t x y => (match xev F x, xevn F y with
   | some (.p b j), some v => (match H.get b, (P.info? t).map (·.size) with
    | some ob, some n => bif Nat.beq (xcl v).length n && (xcl v).all XV.one then (match xpart2 ob j (xcl v) with
     | some ob' => xset H b ob'
     | none => none) else none
    | _, _ => none)
   | _, _ => none)
  | .mapUpdate t m k y => (match P.underlying t, xev F m, xevp F k, xevn F y with
   | some (.map kt _), some (.m b), some kv, some v => (match H.get b with
    | some (.map es bs ck) => (match semPure P (Instr.checkKey false 10000 kt kv), xfindIx P kt kv (es.map Prod.fst) with
     | some _, some (some j) => (match es[j]? with
      | some p => bif xsame p.1 kv then xset H b (.map (setAt es j (kv, v)) bs ck) else none
      | none => none)
     | some _, some none => xset H b (.map (es ++ [(kv, v)]) (bs ++ [ck]) (ck + 1))
     | _, _ => none)
    | _ => none)
   | _, _, _, _ => none)
  | _ => none
section
variable {P : Program} {N : Nat} {w0 : XEnv} {ρ γ : Nat → Nat} {F F' : XFr} {H H' : XHp} {a : Act} {w : World} {o : Oper}
theorem xown_store {b j : Nat} {x y : XB} {xs : List XV} (h : XH w0 ρ γ H w) (hb : H.get b = some x) (hp : xpart2 x j xs = some y) (hok : ∀ z ∈ xs, z.ok (H.has γ)) (h1 : ∀ z ∈ xs, (z.den ρ γ).oneCell' = true) :
    ∃ ob, (storeCells ⟨ρ b, j, none⟩ (xs.map (XV.den ρ γ))).run P w = .ok () (putBlk w (ρ b) ob) ∧ x.live = true ∧ y.ok (H.has γ) ∧ XOwn (putBlk w (ρ b) ob) ρ γ (ρ b) (γ b) y := by
 obtain ⟨hlt, how⟩ := h.bl b _ hb
 unfold xpart2 at hp
 split at hp
 ·rename_i e l
  cases hc : Nat.ble (j + xs.length) l.length with
  | false => rw [hc] at hp; cases hp
  | true =>
   rw [hc] at hp
   injection hp with hp
   subst hp
   rw [Nat.ble_eq] at hc
   obtain ⟨hh, hb1⟩ := how
   have hrun := run_storeCells (P := P) (off := j) (xs.map (XV.den ρ γ)) 0 w _ hh (by simp; omega) (fun u hu => by
    obtain ⟨x, hx, rfl⟩ := List.mem_map.1 hu
    exact h1 x hx)
   rw [Nat.add_zero, setAll_putX (by omega)] at hrun
   rw [XB.ok, XV.okL_iff] at hlt
   refine ⟨_, hrun, rfl, ?_, ?_, fun z hz => ?_⟩
   ·rw [XB.ok, XV.okL_iff]
    intro z hz
    exact (putX_mem hz).elim (hlt z) (hok z)
   ·rw [putBlk_get, if_pos ⟨rfl, (h.hi b _ hb rfl).2⟩]
   ·exact (putX_mem hz).elim (hb1 z) (h1 z)
 ·rename_i e sz l
  cases hc : Nat.ble (j + xs.length) l.length with
  | false => rw [hc] at hp; cases hp
  | true =>
   rw [hc] at hp
   injection hp with hp
   subst hp
   rw [Nat.ble_eq] at hc
   obtain ⟨arr, hh, hsz, hmax, hle, hb1⟩ := how
   have hrun := run_storeCells (P := P) (off := j) (xs.map (XV.den ρ γ)) 0 w _ hh (by simp; omega) (fun u hu => by
    obtain ⟨x, hx, rfl⟩ := List.mem_map.1 hu
    exact h1 x hx)
   rw [Nat.add_zero] at hrun
   rw [XB.ok, XV.okL_iff] at hlt
   refine ⟨_, hrun, rfl, ?_, _, by rw [putBlk_get, if_pos ⟨rfl, (h.hi b _ hb rfl).2⟩], by rw [setAll_size 0]; exact hsz, hmax, by rw [setAll_size 0, putL_len (by omega)]; exact hle, fun i z hz => ?_⟩
   ·rw [XB.ok, XV.okL_iff]
    intro z hz
    exact (putX_mem hz).elim (hlt z) (hok z)
   ·rw [putL_get (by omega)] at hz
    rw [setAll_get _ _ _ _ (by simp; omega)]
    simp only [List.length_map]
    by_cases hc : j ≤ i ∧ i < j + xs.length
    ·rw [if_pos hc] at hz ⊢
     rw [List.getElem?_map, hz]
     exact ⟨rfl, h1 z (List.mem_of_getElem? hz)⟩
    ·rw [if_neg hc] at hz ⊢
     exact hb1 i z hz
 ·cases hp
theorem setAt_get {α : Type} {y : α} : ∀ {l : List α} {i k : Nat}, (setAt l i y)[k]? = if k = i ∧ i < l.length then some y else l[k]?
 | [], i, k => by simp [setAt]
 | x :: l, 0, k => by
  cases k with
  | zero => simp [setAt]
  | succ k => simp [setAt]
 | x :: l, i + 1, k => by
  cases k with
  | zero => simp [setAt]
  | succ k => simp [setAt, setAt_get (l := l)]
theorem setAt_mem {α : Type} {x y : α} {l : List α} {i : Nat} (h : x ∈ setAt l i y) : x = y ∨ x ∈ l := by
 obtain ⟨k, hk⟩ := List.getElem?_of_mem h
 rw [setAt_get] at hk
 split at hk
 ·injection hk with hk; exact .inl hk.symm
 ·exact .inr (List.mem_of_getElem? hk)
theorem put_map {B : Nat} {ob : Obj} {ms : Array MapEntry} {ck : Nat} (h : w.heap[B]? = some (.map ms ck)) : (setObj B ob).run P w = .ok () (putBlk w B ob) := by
 unfold setObj
 simp [Sem.run, h, putBlk]
theorem map_put {b : Nat} {es es' : List (Value × XV)} {bs bs' : List Nat} {ck ck' : Nat} {ms' : Array MapEntry} (hR : XH w0 ρ γ H w) (hb : H.get b = some (.map es bs ck)) (hn : xset H b (.map es' bs' ck') = some H') (hok : ∀ p ∈ es', p.2.ok (H.has γ)) (hm : ms'.toList.map (fun m => (m.key, m.val)) = es'.map fun p => (p.1, p.2.den ρ γ)) (hbs : ms'.toList.map (·.born) = bs') : XH w0 ρ γ H' (putBlk w (ρ b) (.map ms' ck')) :=
 hR.put hb rfl hn hok ⟨ms', by rw [putBlk_get, if_pos ⟨rfl, (hR.hi b _ hb rfl).2⟩], hm, hbs⟩
theorem xstore_ok (h : xstore P F H o = some H') : XE P N o F H F H' := fun w0 ρ γ a w hR => by
 unfold xstore at h
 split at h
 ·cases h
 ·rename_i hd
  split at h
  ·rename_i t x y ho
   split at h
   ·rename_i b j v hx hy
    split at h
    ·rename_i ob n hb hsz
     cases hc : (Nat.beq (xcl v).length n && (xcl v).all XV.one) with
     | false => rw [hc] at h; cases h
     | true =>
      rw [hc] at h
      simp only [cond_true] at h
      simp only [Bool.and_eq_true] at hc
      obtain ⟨hc1, hc2⟩ := hc
      replace hc1 := Nat.eq_of_beq_eq_true hc1
      split at h
      ·rename_i ob' hp
       obtain ⟨g1, _⟩ := hR.ev hx
       obtain ⟨g3, g4⟩ := hR.evn hy
       simp only [XV.den] at g1
       obtain ⟨e1, e2⟩ := xcl_spec (ρ := ρ) (γ := γ) hc2
       obtain ⟨q, q1, q2, q3, q4⟩ := xown_store (P := P) hR.hp hb hp (xcl_ok g4) e2
       have hset := hR.hp.put hb q2 h q3 q4
       unfold effO
       have hex : (execOp a.eval o).run P w = .ok .skip (putBlk w (ρ b) q) := by
        simp only [execOp, ho, g1, g3, Instr.storeAt, Instr.sureAddr, storeVar, Sem.run_bind, Sem.run_pure, Result.andThen_ok, size_run hsz, e1, List.size_toArray, List.length_map, hc1, ne_eq, not_true_eq_false, if_false]
        rw [q1]
        rfl
       rw [hex]
       refine ⟨ρ, γ, ?_, agr_set h⟩
       rw [hd]
       exact hR.agr (agr_set h) hset
      ·cases h
    ·cases h
   ·cases h
  ·rename_i t m k y ho
   split at h
   ·rename_i kt et b kv v hu hm hk hy
    split at h
    ·rename_i es bs ck hb
     obtain ⟨g1, ms, g2, g3, g4⟩ := hR.hp.bl b _ hb
     obtain ⟨m1, m2, m3⟩ := map_get g3
     obtain ⟨hm1, _⟩ := hR.ev hm
     simp only [XV.den] at hm1
     obtain ⟨hy1, hy2⟩ := hR.evn hy
     split at h
     ·rename_i u j hck hf
      have hckr := semPure_run w hck
      rw [← m1] at hf
      obtain ⟨_, f2⟩ := find_ok (w := w) hf
      obtain ⟨e, e1, e2⟩ := f2 j rfl
      split at h
      ·rename_i p hp
       cases hs : xsame p.1 kv with
       | false => rw [hs] at h; cases h
       | true =>
        rw [hs] at h
        simp only [cond_true] at h
        have hkey := (m3 j e p e1 hp).1
        have hst : (Instr.keyThatStays (((ms[j]?).map (·.key)).getD kv) kv).run P w = .ok kv w := by
         rw [← Array.getElem?_toList, e1, Option.map_some, Option.getD_some, hkey]
         unfold Instr.keyThatStays
         unfold xsame at hs
         rw [if_pos hs]
         rfl
        have hset := map_put (ms' := ms.modify j fun e => { e with key := kv, val := v.den ρ γ }) hR.hp hb h (fun p hp => by
         rcases setAt_mem hp with rfl | hp
         ·exact hy2
         ·exact g1 p hp) (by
         refine List.ext_getElem? fun i => ?_
         have hg3 := congrArg (fun l : List (Value × Value) => l[i]?) g3
         simp only [List.getElem?_map, Array.getElem?_toList] at hg3
         simp only [List.getElem?_map, Array.getElem?_toList, Array.getElem?_modify, setAt_get]
         have hjl : j < es.length := (List.getElem?_eq_some_iff.1 hp).1
         by_cases hij : j = i
         ·subst hij
          rw [if_pos rfl, if_pos ⟨rfl, hjl⟩]
          rw [Array.getElem?_toList] at e1
          rw [e1]
          rfl
         ·rw [if_neg hij, if_neg (fun e => hij e.1.symm)]
          exact hg3) (by
         rw [← g4]
         refine List.ext_getElem? fun i => ?_
         simp only [List.getElem?_map, Array.getElem?_toList, Array.getElem?_modify]
         by_cases hij : j = i
         ·rw [if_pos hij]; cases ms[i]? <;> rfl
         ·rw [if_neg hij])
        unfold effO
        have hex : (execOp a.eval o).run P w = .ok .skip (putBlk w (ρ b) (.map (ms.modify j fun e => { e with key := kv, val := v.den ρ γ }) ck)) := by
         simp only [execOp, ho, hm1, hy1, hR.evp hk, Instr.mapUpdate, Sem.run_bind, under_run hu, Result.andThen_ok, get_map g2, hckr, e2, hst, put_map g2, Sem.run_pure]
        rw [hex]
        refine ⟨ρ, γ, ?_, agr_set h⟩
        rw [hd]
        exact hR.agr (agr_set h) hset
      ·cases h
     ·rename_i u hck hf
      have hckr := semPure_run w hck
      rw [← m1] at hf
      obtain ⟨f1, _⟩ := find_ok (w := w) hf
      have hset := map_put (ms' := ms.push { key := kv, val := v.den ρ γ, born := ck }) hR.hp hb h (fun p hp => by
       rcases List.mem_append.1 hp with hp | hp
       ·exact g1 p hp
       ·rw [List.mem_singleton.1 hp]; exact hy2) (by simp [g3]) (by simp [g4])
      unfold effO
      have hex : (execOp a.eval o).run P w = .ok .skip (putBlk w (ρ b) (.map (ms.push { key := kv, val := v.den ρ γ, born := ck }) (ck + 1))) := by
       simp only [execOp, ho, hm1, hy1, hR.evp hk, Instr.mapUpdate, Sem.run_bind, under_run hu, Result.andThen_ok, get_map g2, hckr, f1, put_map g2, Sem.run_pure]
      rw [hex]
      refine ⟨ρ, γ, ?_, agr_set h⟩
      rw [hd]
      exact hR.agr (agr_set h) hset
     ·cases h
    ·cases h
   ·cases h
  ·cases h
end
end Go.Proofs.YtniolldgidgffaaGreatDoor
