/- Closed calls: struct literals, lookups in maps, lengths, comparisons with nil; all readers. Conditions: none. -/
import Derived.Test.YtlhbfcfjepbhpaaGreatDoorQbp
set_option linter.unusedSimpArgs false
set_option linter.unusedVariables false
namespace Go.Proofs.YtlhbfcfjepbhpaaGreatDoor
section
open Go Go.RowKit
set_option maxRecDepth 100000
def xcl : XV → List XV
 | .a l => l
 | x => [x]
def XV.one : XV → Bool
 | .v x => x.oneCell'
 | .a _ => false
 | .t _ => false
 | _ => true
section
variable {P : Program} {N : Nat} {w0 : XEnv} {ρ γ : Nat → Nat} {F : XFr} {H : XHp} {a : Act} {w : World} {o : Oper}
theorem XV.one_den {x : XV} (h : x.one = true) : (x.den ρ γ).oneCell' = true := by
 cases x <;> first | exact h | rfl | cases h
theorem xcl_spec {v : XV} (h : (xcl v).all XV.one = true) : (v.den ρ γ).cells = ((xcl v).map (XV.den ρ γ)).toArray ∧ ∀ x ∈ xcl v, (x.den ρ γ).oneCell' = true := by
 have h' : ∀ x ∈ xcl v, (x.den ρ γ).oneCell' = true := fun x hx => XV.one_den (List.all_eq_true.1 h x hx)
 refine ⟨?_, h'⟩
 cases v with
 | a l => simp [XV.den, XV.denL_eq, Value.cells, xcl]
 | _ =>
  have h2 := h' _ (List.mem_singleton.2 rfl)
  simp only [xcl, List.map_cons, List.map_nil]
  revert h2
  generalize XV.den ρ γ _ = u
  intro this
  cases u <;> simp [Value.oneCell'] at this <;> rfl
theorem xcl_ok {A : Nat → Nat → Prop} {v : XV} (h : v.ok A) : ∀ x ∈ xcl v, x.ok A := by
 cases v with
 | a l => rw [XV.ok, XV.okL_iff] at h; exact h
 | _ => intro x hx; rw [List.mem_singleton.1 hx]; exact h
theorem setAll_putX {l xs : List XV} {off : Nat} (h : off + xs.length ≤ l.length) : setAll (l.map (XV.den ρ γ)).toArray off (xs.map (XV.den ρ γ)) = ((putL l off xs).map (XV.den ρ γ)).toArray := by
 refine Array.ext_getElem? fun k => ?_
 rw [zj1 _ _ _ _ (by simpa using h)]
 simp only [List.length_map, List.getElem?_map, List.getElem?_toArray]
 rw [zl2 h]
 split <;> rfl
def xbounds (P : Program) (F : XFr) (is : Bool) (n c : Nat) (lo hi mx : Option Operand) : Option (Nat × Nat × Nat) := match lo.map (xevp F), hi.map (xevp F), mx.map (xevp F) with
 | none, none, none => semPure P (Instr.sliceBounds is n c none none none)
 | some (some l), none, none => semPure P (Instr.sliceBounds is n c (some l) none none)
 | none, some (some h), none => semPure P (Instr.sliceBounds is n c none (some h) none)
 | some (some l), some (some h), none => semPure P (Instr.sliceBounds is n c (some l) (some h) none)
 | none, some (some h), some (some m) => semPure P (Instr.sliceBounds is n c none (some h) (some m))
 | some (some l), some (some h), some (some m) => semPure P (Instr.sliceBounds is n c (some l) (some h) (some m))
 | _, _, _ => none
theorem zn4 {is : Bool} {n c : Nat} {lo hi mx : Option Operand} {r : Nat × Nat × Nat} (h : xbounds P F is n c lo hi mx = some r) (hR : XR N w0 ρ γ F H a w) : (Instr.sliceBounds is n c (lo.map a.eval) (hi.map a.eval) (mx.map a.eval)).run P w = .ok r w := by
 have key : ∀ {x : Option Operand} {u : Value}, x.map (xevp F) = some (some u) → x.map a.eval = some u := fun {x u} hx => by
  simp only [Option.map_eq_some_iff] at hx
  obtain ⟨y, h1, h2⟩ := hx
  rw [h1, Option.map_some, hR.evp h2]
 have keyn : ∀ {x : Option Operand}, x.map (xevp F) = none → x.map a.eval = none := fun {x} hx => by
  rw [Option.map_eq_none_iff] at hx
  rw [hx]; rfl
 unfold xbounds at h
 split at h
 ·rename_i h1 h2 h3; rw [keyn h1, keyn h2, keyn h3]; exact zW w h
 ·rename_i l h1 h2 h3; rw [key h1, keyn h2, keyn h3]; exact zW w h
 ·rename_i l h1 h2 h3; rw [keyn h1, key h2, keyn h3]; exact zW w h
 ·rename_i l l2 h1 h2 h3; rw [key h1, key h2, keyn h3]; exact zW w h
 ·rename_i l l2 h1 h2 h3; rw [keyn h1, key h2, key h3]; exact zW w h
 ·rename_i l l2 l3 h1 h2 h3; rw [key h1, key h2, key h3]; exact zW w h
 ·cases h
def xnat (F : XFr) (d : Nat) : Option Operand → Option Nat
 | none => some d
 | some y => match xevp F y with
  | some (.int _ (.ofNat n)) => some n
  | _ => none
theorem xnat_run {x : Option Operand} {d l : Nat} (h : xnat F d x = some l) (hR : XR N w0 ρ γ F H a w) : (x.map a.eval = none ∧ l = d) ∨ ∃ kd, x.map a.eval = some (.int kd l) := by
 unfold xnat at h
 split at h
 ·injection h with h; exact .inl ⟨rfl, h.symm⟩
 ·split at h
  ·rename_i kd n hy; injection h with h; subst h; exact .inr ⟨kd, by rw [Option.map_some, hR.evp hy]; rfl⟩
  ·cases h
def xslice (P : Program) (F : XFr) (op : Op) : Option XV := match op with
 | .slice t x lo hi mx => (match xev F x with
  | some (.sl b k n c) => (match elemSz P t, xbounds P F true n c lo hi mx with
   | some (_, sz), some (l, h, m) => (match Nat.beq m l with
    | true => some (.sl b k (h - l) 0)
    | false => some (.sl b (k + l * sz) (h - l) (m - l)))
   | _, _ => none)
  | some (.sg b k n e) => (match elemSz P t, mx, xnat F 0 lo, xnat F n hi with
   | some (_, sz), none, some l, some h => bif Nat.ble h n && Nat.ble l h then (bif Nat.beq l 0 || Nat.blt l n then some (.sg b (k + l * sz) (h - l) (e + l)) else some (.se b k (k + l * sz) (e + l))) else none
   | _, _, _, _ => none)
  | some (.p b j) => (match xarrSz P t with
   | some (n, _, sz) => (match xbounds P F false n n lo hi mx with
    | some (l, h, m) => (match Nat.beq m l with
     | true => some (.sl b j (h - l) 0)
     | false => some (.sl b (j + l * sz) (h - l) (m - l)))
    | none => none)
   | none => none)
  | _ => none)
 | _ => none
theorem xslice_ok {v : XV} (h : xslice P F o.op = some v) (hR : XR N w0 ρ γ F H a w) : (execOp a.eval o).run P w = .ok (.value (v.den ρ γ)) w ∧ v.ok (H.has γ) := by
 unfold xslice at h
 split at h
 ·rename_i t x lo hi mx ho
  split at h
  ·rename_i b k n c hx
   split at h
   ·rename_i e sz l hh m he hb
    obtain ⟨hu, hs⟩ := zu3 he
    obtain ⟨h1, h2⟩ := hR.ev hx
    have hrun := zn4 (w := w) hb hR
    simp only [XV.den] at h1
    have hex : (execOp a.eval o).run P w = .ok (.value (.slice (if m = l then some ⟨ρ b, k, none⟩ else some ⟨ρ b, k + l * sz, none⟩) (hh - l) (m - l))) w := by
     simp only [execOp, ho, h1, Instr.sliceAt, Instr.slice, Sem.run_bind, zU hu, Result.andThen_ok, hrun, zO1 hs, Sem.run_pure, Option.map_some, add_at]
    rw [hex]
    split at h
    ·rename_i hm
     injection h with h
     subst h
     have := Nat.eq_of_beq_eq_true hm
     exact ⟨by rw [if_pos this, this, Nat.sub_self]; rfl, h2⟩
    ·rename_i hm
     injection h with h
     subst h
     exact ⟨by rw [if_neg (Nat.ne_of_beq_eq_false hm)]; rfl, h2⟩
   ·cases h
  ·rename_i b k n e hx
   split at h
   ·rename_i e' sz l hh he hl hhi
    obtain ⟨hu, hs⟩ := zu3 he
    obtain ⟨h1, h2⟩ := hR.ev hx
    cases hc : (Nat.ble hh n && Nat.ble l hh) with
    | false => rw [hc] at h; cases h
    | true =>
     rw [hc] at h
     simp only [cond_true] at h
     simp only [Bool.and_eq_true, Nat.ble_eq] at hc
     obtain ⟨hc2, hc3⟩ := hc
     have hcap : n ≤ γ b - e := by have := h2.2; omega
     have hrun := zd3 (P := P) (w := w) (c := γ b - e) (xnat_run hl hR) (xnat_run hhi hR) hc3 (Nat.le_trans hc2 hcap) true
     simp only [XV.den] at h1
     have hex : (execOp a.eval o).run P w = .ok (.value (.slice (if γ b - e = l then some ⟨ρ b, k, none⟩ else some ⟨ρ b, k + l * sz, none⟩) (hh - l) (γ b - e - l))) w := by
      simp only [execOp, ho, h1, Instr.sliceAt, Instr.slice, Sem.run_bind, zU hu, Result.andThen_ok, Option.map_none, hrun, zO1 hs, Sem.run_pure, Option.map_some, add_at]
     rw [hex]
     cases hc1 : (Nat.beq l 0 || Nat.blt l n) with
     | true =>
      rw [hc1] at h
      injection h with h
      subst h
      simp only [Bool.or_eq_true, Nat.blt_eq] at hc1
      replace hc1 : l = 0 ∨ l < n := hc1.imp Nat.eq_of_beq_eq_true id
      refine ⟨?_, ⟨h2.1, by have := h2.2; omega⟩⟩
      simp only [XV.den, Nat.sub_add_eq]
      split
      ·rename_i hq
       have : l = 0 := by omega
       subst this
       simp
      ·rfl
     | false =>
      rw [hc1] at h
      injection h with h
      subst h
      simp only [Bool.or_eq_false_iff] at hc1
      have hc4 : ¬ l < n := fun h => by rw [← Nat.blt_eq] at h; rw [h] at hc1; cases hc1.2
      have hln : hh - l = 0 := by omega
      refine ⟨?_, ⟨h2.1, by have := h2.2; omega⟩⟩
      simp only [XV.den, Nat.sub_add_eq, hln]
      have h3 := h2.2
      by_cases hq : γ b - e = l
      ·rw [if_pos hq, if_pos (by omega)]
      ·rw [if_neg hq, if_neg (by omega)]
   ·cases h
  ·rename_i b j hx
   split at h
   ·rename_i n e sz ha
    obtain ⟨hu, hs⟩ := zB2 ha
    split at h
    ·rename_i l hh m hb
     obtain ⟨h1, h2⟩ := hR.ev hx
     have hrun := zn4 (w := w) hb hR
     simp only [XV.den] at h1
     have hex : (execOp a.eval o).run P w = .ok (.value (.slice (some (if m = l then ⟨ρ b, j, none⟩ else ⟨ρ b, j + l * sz, none⟩)) (hh - l) (m - l))) w := by
      simp only [execOp, ho, h1, Instr.sliceAt, Instr.sureAddr, Sem.run_bind, zU hu, Result.andThen_ok, hrun, zO1 hs, Sem.run_pure, add_at]
     rw [hex]
     split at h
     ·rename_i hm
      injection h with h
      subst h
      have := Nat.eq_of_beq_eq_true hm
      exact ⟨by rw [if_pos this, this, Nat.sub_self]; rfl, h2⟩
     ·rename_i hm
      injection h with h
      subst h
      exact ⟨by rw [if_neg (Nat.ne_of_beq_eq_false hm)]; rfl, h2⟩
    ·cases h
   ·cases h
  ·cases h
 ·cases h
end
end
section
open Go Go.RowKit
set_option maxRecDepth 100000
def xevL (F : XFr) : List Operand → Option (List XV)
 | [] => some []
 | x :: l => match xevn F x, xevL F l with
  | some v, some vs => some (v :: vs)
  | _, _ => none
def xfill (F : XFr) (pl : Nat → Option (Nat × Nat)) : List (Nat × Operand) → List XV → Option (List XV)
 | [], l => some l
 | (i, x) :: ps, l => match xevn F x, pl i with
  | some v, some (off, k) => bif Nat.beq (xcl v).length k && Nat.ble (off + k) l.length && (xcl v).all XV.one then xfill F pl ps (putL l off (xcl v)) else none
  | _, _ => none
section
variable {P : Program} {N : Nat} {w0 : XEnv} {ρ γ : Nat → Nat} {F : XFr} {H : XHp} {a : Act} {w : World} {o : Oper}
theorem XR.evL (hR : XR N w0 ρ γ F H a w) : ∀ {l : List Operand} {vs : List XV}, xevL F l = some vs → l.map a.eval = XV.denL ρ γ vs ∧ XV.okL (H.has γ) vs
 | [], vs, h => by cases h; exact ⟨rfl, trivial⟩
 | x :: l, vs, h => by
  unfold xevL at h
  split at h
  ·rename_i v vs' hv hl
   injection h with h
   subst h
   obtain ⟨h1, h2⟩ := hR.evn hv
   obtain ⟨h3, h4⟩ := XR.evL hR hl
   exact ⟨by rw [List.map_cons, h1, h3, XV.denL], h2, h4⟩
  ·cases h
theorem zE3 {l xs : List XV} {j : Nat} {x : XV} (h : x ∈ putL l j xs) : x ∈ l ∨ x ∈ xs := by
 unfold putL at h
 rcases List.mem_append.1 h with h | h
 ·rcases List.mem_append.1 h with h | h
  ·exact .inl (List.mem_of_mem_take h)
  ·exact .inr h
 ·exact .inl (List.mem_of_mem_drop h)
theorem zz3 {pl : Nat → Option (Nat × Nat)} (hR : XR N w0 ρ γ F H a w) : ∀ {ps : List (Nat × Operand)} {l l' : List XV}, xfill F pl ps l = some l' → (∀ x ∈ l, x.ok (H.has γ)) → (∀ x ∈ l, (x.den ρ γ).oneCell' = true) →
    Instr.fill pl (l.map (XV.den ρ γ)).toArray (ps.map fun x => (x.1, a.eval x.2)) = some (l'.map (XV.den ρ γ)).toArray ∧ (∀ x ∈ l', x.ok (H.has γ)) ∧ (∀ x ∈ l', (x.den ρ γ).oneCell' = true) ∧ l'.length = l.length
 | [], l, l', h, hl, h1 => by cases h; exact ⟨rfl, hl, h1, rfl⟩
 | (i, x) :: ps, l, l', h, hl, h1 => by
  unfold xfill at h
  split at h
  ·rename_i v off k hv hp
   cases hc : (Nat.beq (xcl v).length k && Nat.ble (off + k) l.length && (xcl v).all XV.one) with
   | false => rw [hc] at h; cases h
   | true =>
    rw [hc] at h
    simp only [Bool.and_eq_true, Nat.ble_eq] at hc
    obtain ⟨⟨hc1, hc2⟩, hc3⟩ := hc
    have hk := Nat.eq_of_beq_eq_true hc1
    obtain ⟨g1, g2⟩ := hR.evn hv
    obtain ⟨e1, e2⟩ := xcl_spec (ρ := ρ) (γ := γ) hc3
    have e3 := xcl_ok g2
    obtain ⟨q1, q2, q3, q4⟩ := zz3 hR h (fun x hx => by
     rcases zE3 hx with hx | hx
     ·exact hl x hx
     ·exact e3 x hx) (fun x hx => by
     rcases zE3 hx with hx | hx
     ·exact h1 x hx
     ·exact e2 x hx)
    refine ⟨?_, q2, q3, by rw [q4, putL_len (by omega)]⟩
    simp only [List.map_cons, Instr.fill, hp, g1, e1, List.size_toArray, List.length_map, hk, ne_eq, not_true_eq_false, decide_false, Bool.false_or]
    rw [if_neg (by simp; omega), zS3]
    simp only
    rw [setAll_putX (by omega)]
    exact q1
  ·cases h
def xzero (P : Program) (t : TypeId) : Option (List XV) := match (P.info? t).bind (·.zero) with
 | some z => bif z.cells.toList.all Value.oneCell' then some (z.cells.toList.map .v) else none
 | none => none
theorem zx3 {t : TypeId} {l : List XV} (h : xzero P t = some l) : ∃ z, (zeroValue t).run P w = .ok z w ∧ z.cells = (l.map (XV.den ρ γ)).toArray ∧ (∀ x ∈ l, x.ok (H.has γ)) ∧ (∀ x ∈ l, (x.den ρ γ).oneCell' = true) ∧ (P.info? t).bind (·.zero) = some z := by
 unfold xzero at h
 split at h
 ·rename_i z hz
  cases hc : z.cells.toList.all Value.oneCell' with
  | false => rw [hc] at h; cases h
  | true =>
   rw [hc] at h
   injection h with h
   subst h
   refine ⟨z, ?_, by simp [Function.comp_def, XV.den], fun x hx => ?_, fun x hx => ?_, hz⟩
   ·unfold zeroValue typeInfo
    cases hi : P.info? t with
    | none => rw [hi] at hz; cases hz
    | some i =>
     rw [hi] at hz
     simp only [Option.bind_some] at hz
     simp [hi, hz]
   ·obtain ⟨v, hv, rfl⟩ := List.mem_map.1 hx; trivial
   ·obtain ⟨v, hv, rfl⟩ := List.mem_map.1 hx; exact List.all_eq_true.1 hc v hv
 ·cases h
def xbuild (P : Program) (F : XFr) (op : Op) : Option XV := match op with
 | .build t ps => (match xzero P t with
  | some z => (match bplaces P t with
   | some pl => (match xfill F (fun i => pl[i]?) ps.toList z with
    | some l => some (.a l)
    | none => none)
   | none => (match xarrSz P t with
    | some (_, _, sz) => (match xfill F (fun i => some (i * sz, sz)) ps.toList z with
     | some l => some (.a l)
     | none => none)
    | none => none))
  | none => none)
 | .makeFunc (.func f) first caps => bif first.isEmpty then (match xevL F caps.toList with
  | some l => some (.f f l)
  | none => none) else none
 | .extract x i => (match xevn F x with
  | some (.t l) => l[i]?
  | _ => none)
 | .move x => xevn F x
 | .assign x => xevn F x
 | .pick c x y => (match xevp F c with
  | some (.bool true) => xevn F x
  | some (.bool false) => xevn F y
  | _ => none)
 | _ => none
theorem zt2 {v : XV} (h : xbuild P F o.op = some v) (hR : XR N w0 ρ γ F H a w) : (execOp a.eval o).run P w = .ok (.value (v.den ρ γ)) w ∧ v.ok (H.has γ) := by
 unfold xbuild at h
 split at h
 ·rename_i t ps ho
  have hps : (ps.map fun (i, x) => (i, a.eval x)).toList = ps.toList.map fun x => (x.1, a.eval x.2) := by simp
  split at h
  ·rename_i z hz
   obtain ⟨zv, hz1, hz2, hz3, hz4, hz5⟩ := zx3 (w := w) (ρ := ρ) (γ := γ) (H := H) hz
   split at h
   ·rename_i pl hpl
    split at h
    ·rename_i l hl
     injection h with h
     subst h
     obtain ⟨h1, h2, _⟩ := zz3 hR hl hz3 hz4
     refine ⟨?_, by rw [XV.ok, XV.okL_iff]; exact h2⟩
     unfold bplaces at hpl
     cases hu : P.underlying t with
     | none => rw [hu] at hpl; cases hpl
     | some dsc =>
      rw [hu] at hpl
      cases dsc <;> simp only [reduceCtorEq] at hpl
      rename_i fs
      have hm : (fs.mapM (m := Sem) fun f => do pure (f.offset, ← sizeOf f.type)).run P w = .ok pl.toArray w := by
       rw [Array.mapM_eq_mapM_toList, Sem.run_map, mapM_places hpl]; rfl
      have h1' : Instr.fill (fun x => pl.toArray[x]?) zv.cells (ps.map fun (i, x) => (i, a.eval x)).toList = some (l.map (XV.den ρ γ)).toArray := by
       rw [hz2, hps, ← h1]
       simp only [List.getElem?_toArray]
      simp only [execOp, ho, Instr.build, Sem.run_bind, hz1, zU hu, Result.andThen_ok, hm, h1', Sem.run_pure, XV.den, XV.denL_eq]
    ·cases h
   ·split at h
    ·rename_i n e sz ha
     obtain ⟨hu, hs⟩ := zB2 ha
     split at h
     ·rename_i l hl
      injection h with h
      subst h
      obtain ⟨h1, h2, _⟩ := zz3 hR hl hz3 hz4
      refine ⟨?_, by rw [XV.ok, XV.okL_iff]; exact h2⟩
      have h1' : Instr.fill (fun i => some (i * sz, sz)) zv.cells (ps.map fun (i, x) => (i, a.eval x)).toList = some (l.map (XV.den ρ γ)).toArray := by
       rw [hz2, hps, ← h1]
      simp only [execOp, ho, Instr.build, Sem.run_bind, hz1, zU hu, zO1 hs, Result.andThen_ok, h1', Sem.run_pure, XV.den, XV.denL_eq]
     ·cases h
    ·cases h
  ·cases h
 ·rename_i f first caps ho
  cases hf : first.isEmpty with
  | false => rw [hf] at h; cases h
  | true =>
   rw [hf] at h
   simp only [cond_true] at h
   split at h
   ·rename_i l hl
    injection h with h
    subst h
    obtain ⟨h1, h2⟩ := hR.evL hl
    refine ⟨?_, h2⟩
    have hf' : first = #[] := by simpa using hf
    subst hf'
    have hc : caps.map a.eval = (XV.denL ρ γ l).toArray := by rw [← h1, ← Array.toList_map]
    simp only [execOp, ho, Instr.makeFunc, Sem.run_bind, Sem.run_pure, Result.andThen_ok, hc, XV.den, List.map_toArray, List.map_nil]
   ·cases h
 ·rename_i x i ho
  split at h
  ·rename_i l hx
   obtain ⟨h1, h2⟩ := hR.evn hx
   rw [XV.ok, XV.okL_iff] at h2
   simp only [XV.den, XV.denL_eq] at h1
   exact ⟨by simp [execOp, ho, h1, Instr.extract, h], h2 v (List.mem_of_getElem? h)⟩
  ·cases h
 ·rename_i x ho
  obtain ⟨h1, h2⟩ := hR.evn h
  exact ⟨by simp [execOp, ho, h1], h2⟩
 ·rename_i x ho
  obtain ⟨h1, h2⟩ := hR.evn h
  exact ⟨by simp [execOp, ho, h1], h2⟩
 ·rename_i c x y ho
  split at h
  ·rename_i hc
   obtain ⟨h1, h2⟩ := hR.evn h
   exact ⟨by simp [execOp, ho, h1, hR.evp hc, asBool], h2⟩
  ·rename_i hc
   obtain ⟨h1, h2⟩ := hR.evn h
   exact ⟨by simp [execOp, ho, h1, hR.evp hc, asBool], h2⟩
  ·cases h
 ·cases h
end
end
end Go.Proofs.YtlhbfcfjepbhpaaGreatDoor
