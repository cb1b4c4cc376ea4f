/- Closed calls: operations that make memory: variables, boxes, slices, maps. Conditions: none. -/
import Derived.Test.YtniolldgidgffaaGreatDoorQbr
set_option linter.unusedSimpArgs false
set_option linter.unusedVariables false
/- Closed calls: new blocks, blocks written. Conditions: none. -/
namespace Go.Proofs.YtniolldgidgffaaGreatDoor
open Go Go.RowKit
set_option maxRecDepth 100000
def upd (f : Nat → Nat) (k v : Nat) : Nat → Nat := fun i => if i = k then v else f i
theorem upd_at (f : Nat → Nat) (k v : Nat) : upd f k v k = v := by simp [upd]
theorem upd_ne {f : Nat → Nat} {k v i : Nat} (h : i ≠ k) : upd f k v i = f i := by simp [upd, h]
def Agr (H : XHp) (ρ γ : Nat → Nat) (H' : XHp) (ρ' γ' : Nat → Nat) : Prop := ∀ b, (H.get b).isSome = true → (H'.get b).isSome = true ∧ ρ' b = ρ b ∧ γ' b = γ b
theorem Agr.refl (H : XHp) (ρ γ : Nat → Nat) : Agr H ρ γ H ρ γ := fun _ h => ⟨h, rfl, rfl⟩
theorem Agr.trans {H1 H2 H3 : XHp} {r1 g1 r2 g2 r3 g3 : Nat → Nat} (h : Agr H1 r1 g1 H2 r2 g2) (k : Agr H2 r2 g2 H3 r3 g3) : Agr H1 r1 g1 H3 r3 g3 := fun b hb => by
 obtain ⟨a1, a2, a3⟩ := h b hb
 obtain ⟨b1, b2, b3⟩ := k b a1
 exact ⟨b1, b2.trans a2, b3.trans a3⟩
section
variable {P : Program} {N : Nat} {w0 : XEnv} {ρ γ ρ' γ' : Nat → Nat} {F : XFr} {H H' : XHp} {a : Act} {w w' : World} {o : Oper}
theorem Agr.ok (h : Agr H ρ γ H' ρ' γ') {x : XV} (hx : x.ok (H.has γ)) : x.ok (H'.has γ') := XV.ok_mono (fun b m hb => ⟨(h b hb.1).1, by rw [(h b hb.1).2.2]; exact hb.2⟩) x hx
theorem Agr.den (h : Agr H ρ γ H' ρ' γ') {x : XV} (hx : x.ok (H.has γ)) : x.den ρ' γ' = x.den ρ γ := XV.den_same (A := H.has γ) (fun b m hb => (h b hb.1).2) x hx
theorem XR.agr (h : XR N w0 ρ γ F H a w) (hA : Agr H ρ γ H' ρ' γ') (hp : XH w0 ρ' γ' H' w') : XR N w0 ρ' γ' F H' a w' :=
 ⟨h.df, h.sz, fun i x hx => by
  obtain ⟨h1, h2⟩ := h.fr i x hx
  exact ⟨by rw [hA.den h2]; exact h1, hA.ok h2⟩, hp⟩
theorem XB.ok_agr (h : Agr H ρ γ H' ρ' γ') {o : XB} (ho : o.ok (H.has γ)) : o.ok (H'.has γ') := by
 cases o with
 | cells e cs => rw [XB.ok, XV.okL_iff] at ho ⊢; exact fun x hx => h.ok (ho x hx)
 | grown e sz cs => rw [XB.ok, XV.okL_iff] at ho ⊢; exact fun x hx => h.ok (ho x hx)
 | map es bs ck => exact fun p hp => h.ok (ho p hp)
 | iter m s se l => exact ⟨(h m ho.1).1, Nat.zero_le _⟩
 | dead => trivial
theorem XOwn.keep {B g : Nat} {o : XB} (h : XOwn w ρ γ B g o) (ho : o.ok (H.has γ)) (hA : Agr H ρ γ H' ρ' γ') (hB : w'.heap[B]? = w.heap[B]?) : XOwn w' ρ' γ' B g o := by
 cases o with
 | cells e cs =>
  rw [XB.ok, XV.okL_iff] at ho
  obtain ⟨h1, h2⟩ := h
  refine ⟨?_, fun x hx => by rw [hA.den (ho x hx)]; exact h2 x hx⟩
  rw [hB, h1, List.map_congr_left fun x hx => (hA.den (ho x hx)).symm]
 | grown e sz cs =>
  rw [XB.ok, XV.okL_iff] at ho
  obtain ⟨arr, h1, h2, h3, h4, h5⟩ := h
  refine ⟨arr, by rw [hB]; exact h1, h2, h3, h4, fun i x hx => ?_⟩
  rw [hA.den (ho x (List.mem_of_getElem? hx))]
  exact h5 i x hx
 | map es bs ck =>
  obtain ⟨ms, h1, h2, h3⟩ := h
  refine ⟨ms, by rw [hB]; exact h1, ?_, h3⟩
  rw [h2]
  exact List.map_congr_left fun p hp => by rw [hA.den (ho p hp)]
 | iter m s se l =>
  have h' : w.heap[B]? = some (.mapIter (some (ρ m)) s se.toArray l) := h
  show w'.heap[B]? = _
  rw [hB, h', (hA m ho.1).2.1]
 | dead => trivial
def xnew (H : XHp) (k : Nat) (o : XB) : Option XHp := match H.get k with
 | none => bif Nat.blt k xcap then some (XT.set xdepth H k o) else none
 | some _ => none
theorem xnew_get {k : Nat} {o : XB} (h : xnew H k o = some H') : H.get k = none ∧ ∀ i, H'.get i = if i = k then some o else H.get i := by
 unfold xnew at h
 split at h
 ·rename_i hk
  cases hc : Nat.blt k xcap with
  | false => rw [hc] at h; cases h
  | true =>
   rw [hc] at h
   injection h with h
   subst h
   rw [Nat.blt_eq] at hc
   exact ⟨hk, fun i => XT.get_set xdepth H k o i (by simp only [xcap, xdepth] at *; omega)⟩
 ·cases h
theorem agr_new {k : Nat} {o : XB} (h : xnew H k o = some H') (B g : Nat) : Agr H ρ γ H' (upd ρ k B) (upd γ k g) := fun b hb => by
 obtain ⟨h1, h2⟩ := xnew_get h
 have hne : b ≠ k := fun e => by rw [e, h1] at hb; cases hb
 exact ⟨by rw [h2, if_neg hne]; exact hb, upd_ne hne, upd_ne hne⟩
theorem XH.newAt (h : XH w0 ρ γ H w) {k B g : Nat} {o : XB} (hn : xnew H k o = some H') (hB : w0.w.heap.size ≤ B ∧ B < w'.heap.size) (hfr : ∀ i x, H.get i = some x → x.live = true → ρ i ≠ B) (hs : w.heap.size ≤ w'.heap.size) (hk : ∀ i x, H.get i = some x → x.live = true → w'.heap[ρ i]? = w.heap[ρ i]?) (hst : XBs w0 w') (hX : w0.X B = none)
    (ho : o.ok (H'.has (upd γ k g))) (how : XOwn w' (upd ρ k B) (upd γ k g) B g o) : XH w0 (upd ρ k B) (upd γ k g) H' w' := by
 obtain ⟨h1, h2⟩ := xnew_get hn
 have hA := agr_new (ρ := ρ) (γ := γ) hn B g
 have hcase : ∀ i x, H'.get i = some x → (i ≠ k ∧ H.get i = some x) ∨ (i = k ∧ x = o) := fun i x hi => by
  rw [h2] at hi
  split at hi
  ·rename_i e; injection hi with hi; exact .inr ⟨e, hi.symm⟩
  ·rename_i e; exact .inl ⟨e, hi⟩
 refine ⟨fun i j x y hx hy lx ly e => ?_, fun i x hx lx => ?_, fun i x hx lx => ?_, fun i x hx => ?_, hst⟩
 ·rcases hcase i x hx with ⟨hi, g1⟩ | ⟨rfl, rfl⟩
  ·rcases hcase j y hy with ⟨hj, g2⟩ | ⟨rfl, rfl⟩
   ·rw [upd_ne hi, upd_ne hj] at e
    exact h.nd i j x y g1 g2 lx ly e
   ·rw [upd_ne hi, upd_at] at e
    exact absurd e (hfr i x g1 lx)
  ·rcases hcase j y hy with ⟨hj, g2⟩ | ⟨rfl, rfl⟩
   ·rw [upd_ne hj, upd_at] at e
    exact absurd e.symm (hfr j y g2 ly)
   ·rfl
 ·rcases hcase i x hx with ⟨hi, g1⟩ | ⟨rfl, rfl⟩
  ·rw [upd_ne hi]
   have := h.hi i x g1 lx
   exact ⟨this.1, by omega⟩
  ·rw [upd_at]; exact hB
 ·rcases hcase i x hx with ⟨hi, g1⟩ | ⟨rfl, rfl⟩
  ·rw [upd_ne hi]; exact h.ap i x g1 lx
  ·rw [upd_at]; exact hX
 ·rcases hcase i x hx with ⟨hi, g1⟩ | ⟨rfl, rfl⟩
  ·obtain ⟨g2, g3⟩ := h.bl i x g1
   refine ⟨XB.ok_agr hA g2, ?_⟩
   rw [upd_ne hi, upd_ne hi]
   cases hl : x.live with
   | false => cases x <;> first | trivial | (cases hl)
   | true => exact g3.keep g2 hA (hk i x g1 hl)
  ·rw [upd_at, upd_at]
   exact ⟨ho, how⟩
theorem XH.new (h : XH w0 ρ γ H w) {k : Nat} {o : XB} {obj : Obj} (g : Nat) (hn : xnew H k o = some H') (ho : o.ok (H.has γ)) (how : XOwn (w.alloc obj) (upd ρ k w.heap.size) (upd γ k g) w.heap.size g o) : XH w0 (upd ρ k w.heap.size) (upd γ k g) H' (w.alloc obj) :=
 h.newAt hn ⟨h.st.size, by simp⟩ (fun i x hx lx e => by have := (h.hi i x hx lx).2; omega) (by simp) (fun i x hx lx => Below.heap_alloc w obj _ (h.hi i x hx lx).2) (h.st.alloc _) h.st.new (XB.ok_agr (agr_new (ρ := ρ) (γ := γ) hn w.heap.size g) ho) how
theorem putBlk_get {B C : Nat} {ob : Obj} : (putBlk w B ob).heap[C]? = if C = B ∧ B < w.heap.size then some ob else w.heap[C]? := by
 unfold putBlk
 simp only [Array.getElem?_setIfInBounds]
 by_cases h : B = C
 ·subst h
  by_cases hb : B < w.heap.size
  ·simp [hb]
  ·simp [hb]
 ·simp [h, Ne.symm h]
def xset (H : XHp) (b : Nat) (o : XB) : Option XHp := match H.get b with
 | some _ => bif Nat.blt b xcap then some (XT.set xdepth H b o) else none
 | none => none
theorem xset_get {b : Nat} {o : XB} (h : xset H b o = some H') : (H.get b).isSome = true ∧ ∀ i, H'.get i = if i = b then some o else H.get i := by
 unfold xset at h
 split at h
 ·rename_i x hk
  cases hc : Nat.blt b xcap with
  | false => rw [hc] at h; cases h
  | true =>
   rw [hc] at h
   injection h with h
   subst h
   rw [Nat.blt_eq] at hc
   exact ⟨by rw [hk]; rfl, fun i => XT.get_set xdepth H b o i (by simp only [xcap, xdepth] at *; omega)⟩
 ·cases h
theorem agr_set {b : Nat} {o : XB} (h : xset H b o = some H') : Agr H ρ γ H' ρ γ := fun c hc => by
 obtain ⟨h1, h2⟩ := xset_get h
 refine ⟨?_, rfl, rfl⟩
 rw [h2]
 split
 ·rfl
 ·exact hc
theorem XH.set {b : Nat} {x y : XB} (h : XH w0 ρ γ H w) (hb : H.get b = some x) (hx : x.live = true ∨ y.live = false) (hn : xset H b y = some H') (ho : y.ok (H.has γ)) (hs : w'.heap.size = w.heap.size) (hk : ∀ C, C < w.heap.size → (x.live = true → C ≠ ρ b) → w'.heap[C]? = w.heap[C]?) (hst : XBs w0 w') (how : XOwn w' ρ γ (ρ b) (γ b) y) : XH w0 ρ γ H' w' := by
 obtain ⟨h1, h2⟩ := xset_get hn
 have hA := agr_set (ρ := ρ) (γ := γ) hn
 have hcase : ∀ i z, H'.get i = some z → (i = b ∧ z = y) ∨ (i ≠ b ∧ H.get i = some z) := fun i z hi => by
  rw [h2] at hi
  split at hi
  ·rename_i e; injection hi with hi; exact .inl ⟨e, hi.symm⟩
  ·rename_i e; exact .inr ⟨e, hi⟩
 have hlive : y.live = true → x.live = true := fun hy => hx.resolve_right (by rw [hy]; simp)
 refine ⟨fun i j z z' hz hz' lz lz' e => ?_, fun i z hz lz => ?_, fun i z hz lz => ?_, fun i z hz => ?_, hst⟩
 ·rcases hcase i z hz with ⟨rfl, rfl⟩ | ⟨hi, g1⟩
  ·rcases hcase j z' hz' with ⟨rfl, rfl⟩ | ⟨hj, g2⟩
   ·rfl
   ·exact h.nd i j x z' hb g2 (hlive lz) lz' e
  ·rcases hcase j z' hz' with ⟨rfl, rfl⟩ | ⟨hj, g2⟩
   ·exact h.nd i j z x g1 hb lz (hlive lz') e
   ·exact h.nd i j z z' g1 g2 lz lz' e
 ·rw [hs]
  rcases hcase i z hz with ⟨rfl, rfl⟩ | ⟨hi, g1⟩
  ·exact h.hi i x hb (hlive lz)
  ·exact h.hi i z g1 lz
 ·rcases hcase i z hz with ⟨rfl, rfl⟩ | ⟨hi, g1⟩
  ·exact h.ap i x hb (hlive lz)
  ·exact h.ap i z g1 lz
 ·rcases hcase i z hz with ⟨rfl, rfl⟩ | ⟨hi, g1⟩
  ·exact ⟨XB.ok_agr hA ho, how⟩
  ·obtain ⟨g2, g3⟩ := h.bl i z g1
   refine ⟨XB.ok_agr hA g2, ?_⟩
   cases hl : z.live with
   | false => cases z <;> first | trivial | (cases hl)
   | true => exact g3.keep g2 hA (hk _ (h.hi i z g1 hl).2 (fun hxl e => hi (h.nd i b z x g1 hb hl hxl e)))
theorem XH.put {b : Nat} {x y : XB} {ob : Obj} (h : XH w0 ρ γ H w) (hb : H.get b = some x) (hx : x.live = true) (hn : xset H b y = some H') (ho : y.ok (H.has γ)) (how : XOwn (putBlk w (ρ b) ob) ρ γ (ρ b) (γ b) y) : XH w0 ρ γ H' (putBlk w (ρ b) ob) := by
 have hlo := (h.hi b x hb hx).1
 refine h.set hb (.inl hx) hn ho (by simp [putBlk]) (fun C _ hC => ?_) ?_ how
 ·rw [putBlk_get, if_neg (fun e => hC hx e.1)]
 ·have hst := h.st
  refine ⟨⟨hst.os, hst.tape, hst.output, by simpa [putBlk] using hst.size, fun i hi hn => ?_, hst.drawn⟩, fun B ob hB => ?_⟩
  ·rw [putBlk_get, if_neg (by rintro ⟨e, _⟩; omega)]
   exact hst.block i hi hn
  ·rw [putBlk_get, if_neg (by rintro ⟨e, _⟩; rw [e, h.ap b x hb hx] at hB; cases hB)]
   exact hst.fx B ob hB
def XPost (N : Nat) (w0 : XEnv) (ρ γ : Nat → Nat) (H : XHp) (F2 : XFr) (H2 : XHp) : Act → World → Prop := fun a' w' => ∃ ρ' γ', XR N w0 ρ' γ' F2 H2 a' w' ∧ Agr H ρ γ H2 ρ' γ'
theorem XPost.trans {F1 F2 : XFr} {H1 H2 : XHp} {Q : Act → World → Prop} (h : XPost N w0 ρ γ H F1 H1 a w) (k : ∀ ρ1 γ1, XR N w0 ρ1 γ1 F1 H1 a w → Agr H ρ γ H1 ρ1 γ1 → Q a w) : Q a w := by
 obtain ⟨ρ1, γ1, h1, h2⟩ := h
 exact k ρ1 γ1 h1 h2
def XE (P : Program) (N : Nat) (o : Oper) (F : XFr) (H : XHp) (F2 : XFr) (H2 : XHp) : Prop := ∀ w0 ρ γ a w, XR N w0 ρ γ F H a w → effO P o a w (XPost N w0 ρ γ H F2 H2)
end
end Go.Proofs.YtniolldgidgffaaGreatDoor

/- Closed calls: operations that make memory: variables, boxes, slices, maps. Conditions: none. -/
namespace Go.Proofs.YtniolldgidgffaaGreatDoor
open Go Go.RowKit
set_option maxRecDepth 100000
section
variable {P : Program} {N : Nat} {w0 : XEnv} {ρ γ : Nat → Nat} {F F' : XFr} {H H' : XHp} {a : Act} {w : World} {o : Oper}
theorem xe_new {d k : Nat} {e : TypeId} {cs : List XV} {v : XV} (hd : o.dst = some d) (hF : xput N F d v = some F') (hn : xnew H k (.cells e cs) = some H') (hv : (∃ n c, v = .sl k 0 n c) ∨ v = .p k 0)
    (hrun : ∀ w0 ρ γ a w, XR N w0 ρ γ F H a w → (∀ x ∈ cs, (x.den ρ γ).oneCell' = true ∧ x.ok (H.has γ)) ∧ (execOp a.eval o).run P w = .ok (.value (v.den (upd ρ k w.heap.size) γ)) (w.alloc (.cells (cs.map (XV.den ρ γ)).toArray e))) : XE P N o F H F' H' := fun w0 ρ γ a w hR => by
 obtain ⟨h1, h2⟩ := hrun w0 ρ γ a w hR
 have hA := agr_new (ρ := ρ) (γ := γ) hn w.heap.size 0
 have hnew := hR.hp.new (obj := .cells (cs.map (XV.den ρ γ)).toArray e) 0 hn (by rw [XB.ok, XV.okL_iff]; exact fun x hx => (h1 x hx).2) ⟨by rw [heap_new, List.map_congr_left fun x hx => (hA.den (h1 x hx).2).symm], fun x hx => by rw [hA.den (h1 x hx).2]; exact (h1 x hx).1⟩
 unfold effO
 rw [h2]
 refine ⟨upd ρ k w.heap.size, upd γ k 0, ?_, hA⟩
 rw [hd]
 have hhas : (H'.get k).isSome = true := by rw [(xnew_get hn).2, if_pos rfl]; rfl
 have hok : v.ok (H'.has (upd γ k 0)) := by
  rcases hv with ⟨n, c, rfl⟩ | rfl
  ·exact ⟨hhas, Nat.zero_le _⟩
  ·exact ⟨hhas, Nat.zero_le _⟩
 have := (hR.agr hA hnew).put hF hok
 have he : v.den (upd ρ k w.heap.size) (upd γ k 0) = v.den (upd ρ k w.heap.size) γ := by
  rcases hv with ⟨n, c, rfl⟩ | rfl <;> rfl
 rw [he] at this
 exact this
def xalloc (P : Program) (N : Nat) (F : XFr) (H : XHp) (k : Nat) (o : Oper) : Option (XFr × XHp) := match o.dst with
 | none => none
 | some d => match o.op with
  | .alloc t => (match xzero P t with
   | some l => (match xput N F d (.p k 0), xnew H k (.cells t l) with
    | some F', some H' => some (F', H')
    | _, _ => none)
   | none => none)
  | .box t x => (match xevn F x with
   | some v => bif (xcl v).all XV.one then (match xput N F d (.p k 0), xnew H k (.cells t (xcl v)) with
    | some F', some H' => some (F', H')
    | _, _ => none) else none
   | none => none)
  | .buildSlice t n ps => (match elemSz P t with
   | some (e, sz) => (match xzero P e with
    | some z => bif Nat.ble (n * sz) 16777216 && Nat.beq z.length sz then (match xfill F (fun i => some (i * sz, sz)) ps.toList (List.replicate n z).flatten with
     | some l => (match xput N F d (.sl k 0 n n), xnew H k (.cells e l) with
      | some F', some H' => some (F', H')
      | _, _ => none)
     | none => none) else none
    | none => none)
   | none => none)
  | .makeSlice t x y => (match elemSz P t, xevp F x, xevp F y with
   | some (e, sz), some (.int _ (.ofNat l)), some (.int _ (.ofNat c)) => (match (P.info? e).map (·.bytes), xzero P e with
    | some by_, some z => bif Nat.ble l c && Nat.ble c 1000000 && Nat.ble by_ 1000 && Nat.beq z.length sz then (match xput N F d (.sl k 0 l c), xnew H k (.cells e (List.replicate c z).flatten) with
     | some F', some H' => some (F', H')
     | _, _ => none) else none
    | _, _ => none)
   | _, _, _ => none)
  | .makeMap t none => (match xput N F d (.m k), xnew H k (.map [] [] 0) with
   | some F', some H' => some (F', H')
   | _, _ => none)
  | _ => none
theorem flat_rep {α : Type} [Inhabited α] {z : List α} {sz : Nat} (hz : z.length = sz) : ∀ n : Nat, ((Array.range (n * sz)).map fun i => z.toArray[i % sz]!) = (List.replicate n z).flatten.toArray := fun n => by
 refine Array.ext_getElem? fun i => ?_
 have hl : (List.replicate n z).flatten.length = n * sz := by simp [hz]
 rcases Nat.lt_or_ge i (n * sz) with hi | hi
 ·have hsz : 0 < sz := by
   rcases Nat.eq_zero_or_pos sz with h | h
   ·subst h; simp at hi
   ·exact h
  have hm : i % sz < sz := Nat.mod_lt _ hsz
  have key : ∀ (n i : Nat), i < n * sz → (List.replicate n z).flatten[i]? = z[i % sz]? := by
   intro n
   induction n with
   | zero => intro i hi; simp at hi
   | succ n ih =>
    intro i hi
    rw [List.replicate_succ, List.flatten_cons]
    rcases Nat.lt_or_ge i sz with h | h
    ·rw [List.getElem?_append_left (by omega), Nat.mod_eq_of_lt h]
    ·rw [List.getElem?_append_right (by omega), hz, ih (i - sz) (by rw [Nat.succ_mul] at hi; omega)]
     rw [Nat.mod_eq_sub_mod h]
  rw [Array.getElem?_map, Array.getElem?_range, if_pos hi, Option.map_some]
  have hq : (List.replicate n z).flatten.toArray[i]? = z[i % sz]? := by rw [List.getElem?_toArray]; exact key n i hi
  rw [hq]
  have hl2 : i % sz < z.length := by omega
  simp [hl2]
 ·rw [Array.getElem?_eq_none (by simpa using hi), Array.getElem?_eq_none (by rw [List.size_toArray, hl]; exact hi)]
theorem den_rep {z : List XV} {n : Nat} {ρ γ : Nat → Nat} : ((List.replicate n z).flatten.map (XV.den ρ γ)) = (List.replicate n (z.map (XV.den ρ γ))).flatten := by
 rw [List.map_flatten, List.map_replicate]
theorem mem_rep {α : Type} {z : List α} {n : Nat} {x : α} (h : x ∈ (List.replicate n z).flatten) : x ∈ z := by
 obtain ⟨l, h1, h2⟩ := List.mem_flatten.1 h
 rw [(List.mem_replicate.1 h1).2] at h2
 exact h2
theorem xe_map {d k : Nat} (hd : o.dst = some d) (hF : xput N F d (.m k) = some F') (hn : xnew H k (.map [] [] 0) = some H') {t : TypeId} (ho : o.op = .makeMap t none) : XE P N o F H F' H' := fun w0 ρ γ a w hR => by
 have hA := agr_new (ρ := ρ) (γ := γ) hn w.heap.size 0
 have hnew := hR.hp.new (obj := .map #[] 0) 0 hn (by intro p hp; cases hp) ⟨#[], heap_alloc_new _ _, rfl, rfl⟩
 unfold effO
 have hex : (execOp a.eval o).run P w = .ok (.value (.map (some w.heap.size))) (w.alloc (.map #[] 0)) := by
  simp only [execOp, ho, Instr.makeMap, Option.map_none, Sem.run_bind, Sem.run_pure, Result.andThen_ok, run_newObj, World.alloc_eq]
 rw [hex]
 refine ⟨upd ρ k w.heap.size, upd γ k 0, ?_, hA⟩
 rw [hd]
 have hhas : (H'.get k).isSome = true := by rw [(xnew_get hn).2, if_pos rfl]; rfl
 have := (hR.agr hA hnew).put (x := .m k) hF ⟨hhas, Nat.zero_le _⟩
 rw [show (XV.m k).den (upd ρ k w.heap.size) (upd γ k 0) = .map (some w.heap.size) from by rw [XV.den, upd_at]] at this
 exact this
theorem xalloc_ok {k : Nat} (h : xalloc P N F H k o = some (F', H')) : XE P N o F H F' H' := by
 unfold xalloc at h
 split at h
 ·cases h
 ·rename_i d hd
  split at h
  ·rename_i t ho
   split at h
   ·rename_i l hl
    split at h
    ·rename_i F1 H1 hF hn
     simp only [Option.some.injEq, Prod.mk.injEq] at h
     obtain ⟨rfl, rfl⟩ := h
     refine xe_new hd hF hn (.inr rfl) fun w0 ρ γ a w hR => ?_
     obtain ⟨z, h1, h2, h3, h4, _⟩ := xzero_run (w := w) (ρ := ρ) (γ := γ) (H := H) hl
     refine ⟨fun x hx => ⟨h4 x hx, h3 x hx⟩, ?_⟩
     simp only [execOp, ho, Instr.alloc, Sem.run_bind, h1, Result.andThen_ok, newVar, newRow, run_newObj, World.alloc_eq, Sem.run_pure, XV.den, upd_at, h2]
    ·cases h
   ·cases h
  ·rename_i t x ho
   split at h
   ·rename_i v hv
    cases hc : (xcl v).all XV.one with
    | false => rw [hc] at h; cases h
    | true =>
     rw [hc] at h
     simp only [cond_true] at h
     split at h
     ·rename_i F1 H1 hF hn
      simp only [Option.some.injEq, Prod.mk.injEq] at h
      obtain ⟨rfl, rfl⟩ := h
      refine xe_new hd hF hn (.inr rfl) fun w0 ρ γ a w hR => ?_
      obtain ⟨g1, g2⟩ := hR.evn hv
      obtain ⟨h1, h2⟩ := xcl_spec (ρ := ρ) (γ := γ) hc
      refine ⟨fun x hx => ⟨h2 x hx, xcl_ok g2 x hx⟩, ?_⟩
      simp only [execOp, ho, Instr.box, Sem.run_bind, Result.andThen_ok, newVar, newRow, run_newObj, World.alloc_eq, Sem.run_pure, XV.den, upd_at, g1, h1]
     ·cases h
   ·cases h
  ·rename_i t n ps ho
   split at h
   ·rename_i e sz he
    split at h
    ·rename_i z hz
     cases hc : (Nat.ble (n * sz) 16777216 && Nat.beq z.length sz) with
     | false => rw [hc] at h; cases h
     | true =>
      rw [hc] at h
      simp only [cond_true] at h
      simp only [Bool.and_eq_true, Nat.ble_eq] at hc
      obtain ⟨hc1, hc2⟩ := hc
      replace hc2 := Nat.eq_of_beq_eq_true hc2
      split at h
      ·rename_i l hl
       split at h
       ·rename_i F1 H1 hF hn
        simp only [Option.some.injEq, Prod.mk.injEq] at h
        obtain ⟨rfl, rfl⟩ := h
        refine xe_new hd hF hn (.inl ⟨n, n, rfl⟩) fun w0 ρ γ a w hR => ?_
        obtain ⟨hu, hs⟩ := elemSz_size he
        obtain ⟨zv, h1, h2, h3, h4, _⟩ := xzero_run (w := w) (ρ := ρ) (γ := γ) (H := H) hz
        obtain ⟨f1, f2, f3, _⟩ := xfill_run hR hl (fun x hx => h3 x (mem_rep hx)) (fun x hx => h4 x (mem_rep hx))
        refine ⟨fun x hx => ⟨f3 x hx, f2 x hx⟩, ?_⟩
        have hps : (ps.map fun (i, x) => (i, a.eval x)).toList = ps.toList.map fun x => (x.1, a.eval x.2) := by simp
        have hrep : ((Array.range (n * sz)).map fun i => zv.cells[i % zv.cells.size]!) = ((List.replicate n z).flatten.map (XV.den ρ γ)).toArray := by
         rw [den_rep, h2, ← flat_rep (z := z.map (XV.den ρ γ)) (sz := sz) (by simpa using hc2) n]
         simp [hc2]
        have hlim : ¬ (n * sz > 2 ^ 24) := by omega
        by_cases hz0 : n * sz = 0
        ·have hrep0 : ((Array.range (n * sz)).map fun i => (#[] : Array Value)[i % (#[] : Array Value).size]!) = ((List.replicate n z).flatten.map (XV.den ρ γ)).toArray := by
          rw [← hrep, hz0]; simp
         simp only [execOp, ho, Instr.buildSlice, Sem.run_bind, under_run hu, Result.andThen_ok, size_run hs, hlim, if_false, if_pos hz0, Sem.run_pure, hps, hrep0, f1, newRow, run_newObj, World.alloc_eq, XV.den, upd_at]
        ·simp only [execOp, ho, Instr.buildSlice, Sem.run_bind, under_run hu, Result.andThen_ok, size_run hs, hlim, if_false, if_neg hz0, h1, Sem.run_pure, hps, hrep, f1, newRow, run_newObj, World.alloc_eq, XV.den, upd_at]
       ·cases h
      ·cases h
    ·cases h
   ·cases h
  ·rename_i t x y ho
   split at h
   ·rename_i e sz kx l ky c he hx hy
    split at h
    ·rename_i by_ z hby hz
     cases hc : (Nat.ble l c && Nat.ble c 1000000 && Nat.ble by_ 1000 && Nat.beq z.length sz) with
     | false => rw [hc] at h; cases h
     | true =>
      rw [hc] at h
      simp only [cond_true] at h
      simp only [Bool.and_eq_true, Nat.ble_eq] at hc
      obtain ⟨⟨⟨hc1, hc2⟩, hc3⟩, hc4⟩ := hc
      replace hc4 := Nat.eq_of_beq_eq_true hc4
      split at h
      ·rename_i F1 H1 hF hn
       simp only [Option.some.injEq, Prod.mk.injEq] at h
       obtain ⟨rfl, rfl⟩ := h
       refine xe_new hd hF hn (.inl ⟨l, c, rfl⟩) fun w0 ρ γ a w hR => ?_
       obtain ⟨hu, i, hinf, hs⟩ := elemSz_spec he
       obtain ⟨zv, h1, h2, h3, h4, h5⟩ := xzero_run (w := w) (ρ := ρ) (γ := γ) (H := H) hz
       refine ⟨fun x hx => ⟨h4 x (mem_rep hx), h3 x (mem_rep hx)⟩, ?_⟩
       rw [hinf] at h5 hby
       simp only [Option.bind_some, Option.map_some, Option.some.injEq] at h5 hby
       have hbc : i.bytes * c ≤ 1000 * 1000000 := by rw [hby]; exact Nat.mul_le_mul hc3 hc2
       have hrun := run_make (P := P) w t e i zv hu hinf h5 kx ky l c (by omega) (by omega) (by rw [← Int.natCast_mul]; omega) (by omega)
       have hrep : madeCells zv.cells (c * sz) = ((List.replicate c z).flatten.map (XV.den ρ γ)).toArray := by
        rw [den_rep, h2, ← flat_rep (z := z.map (XV.den ρ γ)) (sz := sz) (by simpa using hc4) c]
        simp [madeCells, hc4]
       have e1 := hR.evp hx
       have e2 := hR.evp hy
       rw [Int.ofNat_eq_natCast] at e1 e2
       simp only [execOp, ho, e1, e2, Sem.run_bind, hrun, Result.andThen_ok, Sem.run_pure, Int.toNat_natCast, hs, hrep, XV.den, upd_at]
      ·cases h
    ·cases h
   ·cases h
  ·rename_i t ho
   split at h
   ·rename_i F1 H1 hF hn
    simp only [Option.some.injEq, Prod.mk.injEq] at h
    obtain ⟨rfl, rfl⟩ := h
    exact xe_map hd hF hn ho
   ·cases h
  ·cases h
end
end Go.Proofs.YtniolldgidgffaaGreatDoor
