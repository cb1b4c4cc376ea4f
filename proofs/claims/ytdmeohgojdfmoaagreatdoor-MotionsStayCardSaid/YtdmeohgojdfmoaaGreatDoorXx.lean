/- Closed calls: stores into cells, entries of maps. Conditions: none. -/
import Derived.Test.YtdmeohgojdfmoaaGreatDoorPvo
import Derived.LoopN
set_option linter.unusedSimpArgs false
set_option linter.unusedVariables false
/- Closed calls: a run that nothing of the input goes into, as a function. Here: tables, values, blocks, states. Conditions: none. -/
namespace Go.Proofs.YtdmeohgojdfmoaaGreatDoor
open Go Go.RowKit
set_option maxRecDepth 100000
/-- A table from numbers. -/
inductive XT (α : Type) where
  | nil
  | node (l : XT α) (v : Option α) (r : XT α)
def XT.get {α : Type} : XT α → Nat → Option α
  | .nil, _ => none
  | .node l v r, k => match k with
    | 0 => v
    | k + 1 => match Nat.mod k 2 with
      | 0 => l.get (Nat.div k 2)
      | _ + 1 => r.get (Nat.div k 2)
def XT.set {α : Type} : Nat → XT α → Nat → α → XT α
  | 0, t, _, _ => t
  | n + 1, .nil, k, x => (match k with
    | 0 => .node .nil (some x) .nil
    | k + 1 => match Nat.mod k 2 with
      | 0 => .node (XT.set n .nil (Nat.div k 2) x) none .nil
      | _ + 1 => .node .nil none (XT.set n .nil (Nat.div k 2) x))
  | n + 1, .node l v r, k, x => (match k with
    | 0 => .node l (some x) r
    | k + 1 => match Nat.mod k 2 with
      | 0 => .node (XT.set n l (Nat.div k 2) x) v r
      | _ + 1 => .node l v (XT.set n r (Nat.div k 2) x))
theorem XT.get_set {α : Type} : ∀ (n : Nat) (t : XT α) (k : Nat) (x : α) (j : Nat), k + 1 < 2 ^ n → (XT.set n t k x).get j = if j = k then some x else t.get j
  | 0, t, k, x, j, h => by omega
  | n + 1, t, k, x, j, h => by
    have key : ∀ (l r : XT α) (v : Option α), (XT.set (n + 1) (.node l v r) k x).get j = if j = k then some x else (XT.node l v r).get j := fun l r v => by
      cases k with
      | zero =>
        cases j with
        | zero => rfl
        | succ j => simp [XT.set, XT.get]
      | succ k =>
        have hk : Nat.div k 2 + 1 < 2 ^ n := by
          have : (2 : Nat) ^ (n + 1) = 2 * 2 ^ n := by rw [Nat.pow_succ, Nat.mul_comm]
          have h2 : Nat.div k 2 = k / 2 := rfl
          omega
        have hm : Nat.mod k 2 = k % 2 := rfl
        cases j with
        | zero =>
          have h0 : ¬ (0 = k + 1) := by omega
          unfold XT.set
          simp only
          split <;> simp [XT.get]
        | succ j =>
          have hd : ∀ a : Nat, Nat.div a 2 = a / 2 := fun _ => rfl
          have hmj : ∀ a : Nat, Nat.mod a 2 = a % 2 := fun _ => rfl
          rcases Nat.mod_two_eq_zero_or_one k with h1 | h1 <;> rcases Nat.mod_two_eq_zero_or_one j with h2 | h2
          · have ih := XT.get_set n l (Nat.div k 2) x (Nat.div j 2) hk
            have e1 : XT.set (n + 1) (.node l v r) (k + 1) x = .node (XT.set n l (Nat.div k 2) x) v r := by rw [XT.set]; simp only [hmj, h1]
            rw [e1, XT.get, XT.get]
            simp only [hmj, h2]
            rw [ih]
            simp only [hd]
            by_cases he : j = k
            · subst he; simp
            · rw [if_neg (by omega), if_neg (by omega)]
          · have e1 : XT.set (n + 1) (.node l v r) (k + 1) x = .node (XT.set n l (Nat.div k 2) x) v r := by rw [XT.set]; simp only [hmj, h1]
            rw [e1, XT.get, XT.get]
            simp only [hmj, h2]
            rw [if_neg (by omega)]
          · have e1 : XT.set (n + 1) (.node l v r) (k + 1) x = .node l v (XT.set n r (Nat.div k 2) x) := by rw [XT.set]; simp only [hmj, h1]
            rw [e1, XT.get, XT.get]
            simp only [hmj, h2]
            rw [if_neg (by omega)]
          · have ih := XT.get_set n r (Nat.div k 2) x (Nat.div j 2) hk
            have e1 : XT.set (n + 1) (.node l v r) (k + 1) x = .node l v (XT.set n r (Nat.div k 2) x) := by rw [XT.set]; simp only [hmj, h1]
            rw [e1, XT.get, XT.get]
            simp only [hmj, h2]
            rw [ih]
            simp only [hd]
            by_cases he : j = k
            · subst he; simp
            · rw [if_neg (by omega), if_neg (by omega)]
    cases t with
    | node l v r => exact key l r v
    | nil =>
      have e : XT.set (n + 1) (.nil : XT α) k x = XT.set (n + 1) (.node .nil none .nil) k x := by
        unfold XT.set
        cases k with
        | zero => rfl
        | succ k => rfl
      rw [e, key .nil .nil none]
      split
      · rfl
      · cases j with
        | zero => rfl
        | succ j => simp only [XT.get]; split <;> rfl
/-- A number that fits: tables hold those below it. -/
def xdepth : Nat := 20
def xcap : Nat := 1048575
/-- Values of a closed call: plain ones; pointers and slices into its own blocks (of a known capacity, or of the block's own less e); what is behind the last element; maps; structs and arrays, several results, functions; a loop's yield. -/
inductive XV where
  | v (x : Value)
  | p (b j : Nat)
  | sl (b k n c : Nat)
  | sg (b k n e : Nat)
  | se (b k q e : Nat)
  | m (b : Nat)
  | a (l : List XV)
  | t (l : List XV)
  | f (fn : FuncId) (caps : List XV)
  | yl (b : Nat)
/-- Blocks: cells of elements of type e, all known, or known in front; a map (with the moments at which its entries came); a walk through a map; one that is known no more. -/
inductive XB where
  | cells (e : TypeId) (cs : List XV)
  | grown (e : TypeId) (sz : Nat) (cs : List XV)
  | map (es : List (Value × XV)) (bs : List Nat) (ck : Nat)
  | iter (m since : Nat) (seen : List Nat) (last : Nat)
  | dead
mutual
def XV.den (ρ γ : Nat → Nat) : XV → Value
  | .v x => x
  | .p b j => .pointer (some ⟨ρ b, j, none⟩)
  | .sl b k n c => .slice (some ⟨ρ b, k, none⟩) n c
  | .sg b k n e => .slice (some ⟨ρ b, k, none⟩) n (γ b - e)
  | .se b k q e => .slice (some ⟨ρ b, if γ b = e then k else q, none⟩) 0 (γ b - e)
  | .m b => .map (some (ρ b))
  | .a l => .agg (XV.denL ρ γ l).toArray
  | .t l => .tuple (XV.denL ρ γ l).toArray
  | .f fn caps => .func (.func fn) #[] (XV.denL ρ γ caps).toArray
  | .yl b => .func (.yield (ρ b)) #[] #[]
def XV.denL (ρ γ : Nat → Nat) : List XV → List Value
  | [] => []
  | x :: l => x.den ρ γ :: XV.denL ρ γ l
end
theorem XV.denL_eq (ρ γ : Nat → Nat) : ∀ l, XV.denL ρ γ l = l.map (XV.den ρ γ)
  | [] => rfl
  | x :: l => by rw [XV.denL, XV.denL_eq ρ γ l]; rfl
mutual
/-- All blocks that are named are there, with room enough. -/
def XV.ok (A : Nat → Nat → Prop) : XV → Prop
  | .v _ => True
  | .p b _ => A b 0
  | .sl b _ _ _ => A b 0
  | .sg b _ n e => A b (n + e)
  | .se b _ _ e => A b e
  | .m b => A b 0
  | .a l => XV.okL A l
  | .t l => XV.okL A l
  | .f _ l => XV.okL A l
  | .yl b => A b 0
def XV.okL (A : Nat → Nat → Prop) : List XV → Prop
  | [] => True
  | x :: l => x.ok A ∧ XV.okL A l
end
theorem XV.okL_iff {A : Nat → Nat → Prop} : ∀ {l : List XV}, XV.okL A l ↔ ∀ x ∈ l, x.ok A
  | [] => by simp [XV.okL]
  | x :: l => by simp [XV.okL, XV.okL_iff (l := l)]
theorem XV.induct {Pr : XV → Prop} (hv : ∀ x, Pr (.v x)) (hp : ∀ b j, Pr (.p b j)) (hs : ∀ b k n c, Pr (.sl b k n c)) (hg : ∀ b k n e, Pr (.sg b k n e)) (he : ∀ b k q e, Pr (.se b k q e)) (hm : ∀ b, Pr (.m b)) (ha : ∀ l, (∀ x ∈ l, Pr x) → Pr (.a l)) (ht : ∀ l, (∀ x ∈ l, Pr x) → Pr (.t l)) (hf : ∀ fn l, (∀ x ∈ l, Pr x) → Pr (.f fn l)) (hy : ∀ b, Pr (.yl b)) : ∀ x, Pr x := by
  intro x
  refine XV.rec (motive_1 := Pr) (motive_2 := fun l => ∀ x ∈ l, Pr x) hv hp hs hg he hm (fun l h => ha l h) (fun l h => ht l h) (fun fn l h => hf fn l h) hy (fun x h => by cases h) (fun x l h1 h2 y hy => ?_) x
  rcases List.mem_cons.1 hy with rfl | hy
  · exact h1
  · exact h2 y hy
theorem XV.den_same {ρ γ ρ' γ' : Nat → Nat} {A : Nat → Nat → Prop} (h : ∀ b m, A b m → ρ' b = ρ b ∧ γ' b = γ b) (x : XV) : x.ok A → x.den ρ' γ' = x.den ρ γ := by
  refine XV.induct (Pr := fun x => x.ok A → x.den ρ' γ' = x.den ρ γ) ?_ ?_ ?_ ?_ ?_ ?_ ?_ ?_ ?_ ?_ x
  · intro x _; rfl
  · intro b j hb; simp only [XV.den, (h _ _ hb).1]
  · intro b k m c hb; simp only [XV.den, (h _ _ hb).1]
  · intro b k m e hb; simp only [XV.den, (h _ _ hb).1, (h _ _ hb).2]
  · intro b k q e hb; simp only [XV.den, (h _ _ hb).1, (h _ _ hb).2]
  · intro b hb; simp only [XV.den, (h _ _ hb).1]
  · intro l ih hl; rw [XV.ok, XV.okL_iff] at hl; simp only [XV.den, XV.denL_eq]; rw [List.map_congr_left fun x hx => ih x hx (hl x hx)]
  · intro l ih hl; rw [XV.ok, XV.okL_iff] at hl; simp only [XV.den, XV.denL_eq]; rw [List.map_congr_left fun x hx => ih x hx (hl x hx)]
  · intro fn l ih hl; rw [XV.ok, XV.okL_iff] at hl; simp only [XV.den, XV.denL_eq]; rw [List.map_congr_left fun x hx => ih x hx (hl x hx)]
  · intro b hb; simp only [XV.den, (h _ _ hb).1]
theorem XV.ok_mono {A B : Nat → Nat → Prop} (h : ∀ b m, A b m → B b m) (x : XV) : x.ok A → x.ok B := by
  refine XV.induct (Pr := fun x => x.ok A → x.ok B) ?_ ?_ ?_ ?_ ?_ ?_ ?_ ?_ ?_ ?_ x
  · intro x _; trivial
  · intro b j hb; exact h _ _ hb
  · intro b k m c hb; exact h _ _ hb
  · intro b k m e hb; exact h _ _ hb
  · intro b k q e hb; exact h _ _ hb
  · intro b hb; exact h _ _ hb
  · intro l ih hl; rw [XV.ok, XV.okL_iff] at hl ⊢; exact fun x hx => ih x hx (hl x hx)
  · intro l ih hl; rw [XV.ok, XV.okL_iff] at hl ⊢; exact fun x hx => ih x hx (hl x hx)
  · intro fn l ih hl; rw [XV.ok, XV.okL_iff] at hl ⊢; exact fun x hx => ih x hx (hl x hx)
  · intro b hb; exact h _ _ hb
/-- A block in the world: at address B, with room for g elements. -/
def XOwn (w : World) (ρ γ : Nat → Nat) (B g : Nat) : XB → Prop
  | .cells e cs => w.heap[B]? = some (.cells (cs.map (XV.den ρ γ)).toArray e (0, 0)) ∧ ∀ x ∈ cs, (x.den ρ γ).oneCell' = true
  | .grown e sz cs => ∃ arr, w.heap[B]? = some (.cells arr e (0, 0)) ∧ arr.size = g * sz ∧ g ≤ maxLen ∧ cs.length ≤ arr.size ∧ ∀ (i : Nat) (x : XV), cs[i]? = some x → arr[i]? = some (x.den ρ γ) ∧ (x.den ρ γ).oneCell' = true
  | .map es bs ck => ∃ ms, w.heap[B]? = some (.map ms ck) ∧ ms.toList.map (fun m => (m.key, m.val)) = es.map (fun p => (p.1, p.2.den ρ γ)) ∧ ms.toList.map (·.born) = bs
  | .iter m since seen last => w.heap[B]? = some (.mapIter (some (ρ m)) since seen.toArray last)
  | .dead => True
def XB.ok (A : Nat → Nat → Prop) : XB → Prop
  | .cells _ cs => XV.okL A cs
  | .grown _ _ cs => XV.okL A cs
  | .map es _ _ => ∀ p ∈ es, p.2.ok A
  | .iter m _ _ _ => A m 0
  | .dead => True
def XB.live : XB → Bool
  | .dead => false
  | _ => true
abbrev XHp := XT XB
abbrev XFr := XT XV
/-- A block that is there, with room for m. -/
def XT.has {α : Type} (t : XT α) (γ : Nat → Nat) (b m : Nat) : Prop := (t.get b).isSome = true ∧ m ≤ γ b
/-- Where a run began: the world; what else is there that must stay; the blocks of this activation's ranges over functions. -/
structure XEnv where
  w : World
  X : Nat → Option Obj
  own : List Nat
structure XBs (E : XEnv) (w' : World) : Prop extends Stp E.w w' (fun _ => False) where
  fx : ∀ B ob, E.X B = some ob → w'.heap[B]? = some ob
theorem XBs.lt {E : XEnv} {w' : World} (h : XBs E w') {B : Nat} {ob : Obj} (hB : E.X B = some ob) : B < w'.heap.size := (Array.getElem?_eq_some_iff.1 (h.fx B ob hB)).1
theorem XBs.new {E : XEnv} {w' : World} (h : XBs E w') : E.X w'.heap.size = none := by
  cases hX : E.X w'.heap.size with
  | none => rfl
  | some ob => exact absurd (h.lt hX) (Nat.lt_irrefl _)
theorem XBs.alloc {E : XEnv} {w' : World} (h : XBs E w') (o : Obj) : XBs E (w'.alloc o) := ⟨h.toStp.alloc o, fun B ob hB => (Below.heap_alloc w' o B (h.lt hB)).trans (h.fx B ob hB)⟩
theorem XBs.drew {E : XEnv} {w' : World} (h : XBs E w') : XBs E w'.drew := ⟨h.toStp.drew, h.fx⟩
/-- A state of a closed call, in the world: base is the heap's size where the run began. -/
structure XH (w0 : XEnv) (ρ γ : Nat → Nat) (H : XHp) (w : World) : Prop where
  nd : ∀ i j o o', H.get i = some o → H.get j = some o' → o.live = true → o'.live = true → ρ i = ρ j → i = j
  hi : ∀ i o, H.get i = some o → o.live = true → w0.w.heap.size ≤ ρ i ∧ ρ i < w.heap.size
  ap : ∀ i o, H.get i = some o → o.live = true → w0.X (ρ i) = none
  bl : ∀ i o, H.get i = some o → o.ok (H.has γ) ∧ XOwn w ρ γ (ρ i) (γ i) o
  st : XBs w0 w
structure XR (N : Nat) (w0 : XEnv) (ρ γ : Nat → Nat) (F : XFr) (H : XHp) (a : Act) (w : World) : Prop where
  df : a.defers = w0.own.map (fun D => ⟨.collected D, #[]⟩) ∧ w0.own.Nodup ∧ ∀ D ∈ w0.own, w0.X D = some (.deferred (some [])) ∧ w0.w.heap.size ≤ D
  sz : N ≤ a.tmps.size
  fr : ∀ i x, F.get i = some x → a.tmps[i]? = some (x.den ρ γ) ∧ x.ok (H.has γ)
  hp : XH w0 ρ γ H w
def xev (F : XFr) : Operand → Option XV
  | .tmp t => F.get t
  | .const v => some (.v v)
  | .func f => some (.f f [])
  | .global _ => none
section
variable {N : Nat} {w0 : XEnv} {ρ γ : Nat → Nat} {F : XFr} {H : XHp} {a : Act} {w : World}
theorem XR.ev {x : Operand} {v : XV} (h : XR N w0 ρ γ F H a w) (hx : xev F x = some v) : a.eval x = v.den ρ γ ∧ v.ok (H.has γ) := by
  cases x with
  | tmp t =>
    obtain ⟨h1, h2⟩ := h.fr t v hx
    exact ⟨by rw [Act.eval, Array.getD_eq_getD_getElem?, h1]; rfl, h2⟩
  | const c =>
    simp only [xev, Option.some.injEq] at hx
    subst hx
    exact ⟨rfl, trivial⟩
  | func f =>
    simp only [xev, Option.some.injEq] at hx
    subst hx
    exact ⟨rfl, trivial⟩
  | global g => cases hx
/-- A slot that is written. -/
def xput (N : Nat) (F : XFr) (d : Nat) (x : XV) : Option XFr := bif Nat.blt d N && Nat.blt d xcap then some (XT.set xdepth F d x) else none
theorem xput_get {F' : XFr} {d : Nat} {x : XV} (h : xput N F d x = some F') : d < N ∧ ∀ i, F'.get i = if i = d then some x else F.get i := by
  unfold xput at h
  cases hc : (Nat.blt d N && Nat.blt d xcap) with
  | false => rw [hc] at h; cases h
  | true =>
    rw [hc] at h
    injection h with h
    subst h
    simp only [Bool.and_eq_true, Nat.blt_eq] at hc
    exact ⟨hc.1, fun i => XT.get_set xdepth F d x i (by have := hc.2; simp only [xcap, xdepth] at *; omega)⟩
theorem XR.put {F' : XFr} {d : Nat} {x : XV} (h : XR N w0 ρ γ F H a w) (hp : xput N F d x = some F') (hx : x.ok (H.has γ)) : XR N w0 ρ γ F' H (a.put (some d) (x.den ρ γ)) w := by
  obtain ⟨hd, hg⟩ := xput_get hp
  refine ⟨h.df, by simpa [Act.put] using h.sz, fun i y hy => ?_, h.hp⟩
  rw [hg] at hy
  by_cases hi : i = d
  · subst hi
    rw [if_pos rfl] at hy
    injection hy with hy
    subst hy
    have := h.sz
    exact ⟨by simp [Act.put, Array.getElem?_setIfInBounds]; omega, hx⟩
  · rw [if_neg hi] at hy
    obtain ⟨h1, h2⟩ := h.fr i y hy
    exact ⟨by simp only [Act.put]; rw [Array.getElem?_setIfInBounds_ne (Ne.symm hi)]; exact h1, h2⟩
end
end Go.Proofs.YtdmeohgojdfmoaaGreatDoor

/- Closed calls: what operations read. Conditions: none. -/
namespace Go.Proofs.YtdmeohgojdfmoaaGreatDoor
open Go Go.RowKit
set_option maxRecDepth 100000
/-- What gives a value without looking at the world. -/
def semPure {α : Type} (P : Program) : Sem α → Option α
  | .pure a => some a
  | .program k => semPure P (k P)
  | .mark _ k => semPure P k
  | .choose q k => bif q.forced then semPure P (k 0) else none
  | _ => none
theorem semPure_run {α : Type} {P : Program} (w : World) : ∀ {s : Sem α} {a : α}, semPure P s = some a → s.run P w = .ok a w := by
  intro s
  induction s with
  | pure a => intro b h; injection h with h; subst h; rfl
  | program k ih => intro b h; exact ih P h
  | mark m k ih => intro b h; exact ih h
  | choose q k ih =>
    intro b h
    unfold semPure at h
    cases hq : q.forced with
    | false => rw [hq] at h; cases h
    | true =>
      rw [hq] at h
      simp only [Sem.run, hq, if_true]
      exact ih 0 h
  | _ => intro b h; cases h
/-- A plain value in the form of this run's values. -/
def xnorm : Value → XV
  | .agg cs => .a (cs.toList.map .v)
  | .tuple cs => .t (cs.toList.map .v)
  | v => .v v
theorem xnorm_den (ρ γ : Nat → Nat) (v : Value) : (xnorm v).den ρ γ = v := by
  unfold xnorm
  split
  · simp [XV.den, XV.denL_eq, Function.comp_def]
  · simp [XV.den, XV.denL_eq, Function.comp_def]
  · rfl
theorem xnorm_ok (A : Nat → Nat → Prop) (v : Value) : (xnorm v).ok A := by
  unfold xnorm
  split
  · rw [XV.ok, XV.okL_iff]; intro x hx; obtain ⟨u, _, rfl⟩ := List.mem_map.1 hx; trivial
  · rw [XV.ok, XV.okL_iff]; intro x hx; obtain ⟨u, _, rfl⟩ := List.mem_map.1 hx; trivial
  · trivial
def xplL : List XV → Option (List Value)
  | [] => some []
  | .v u :: l => (match xplL l with
    | some us => some (u :: us)
    | none => none)
  | _ :: _ => none
theorem xplL_den (ρ γ : Nat → Nat) : ∀ {l : List XV} {us : List Value}, xplL l = some us → XV.denL ρ γ l = us
  | [], us, h => by cases h; rfl
  | .v u :: l, us, h => by
    unfold xplL at h
    split at h
    · rename_i vs hv; injection h with h; subst h; rw [XV.denL, xplL_den ρ γ hv, XV.den]
    · cases h
  | .p .. :: _, _, h => by cases h
  | .sl .. :: _, _, h => by cases h
  | .sg .. :: _, _, h => by cases h
  | .se .. :: _, _, h => by cases h
  | .m .. :: _, _, h => by cases h
  | .a .. :: _, _, h => by cases h
  | .t .. :: _, _, h => by cases h
  | .f .. :: _, _, h => by cases h
  | .yl .. :: _, _, h => by cases h
/-- A value without blocks, as it is. -/
def xpl : XV → Option Value
  | .v u => some u
  | .a l => (match xplL l with
    | some us => some (.agg us.toArray)
    | none => none)
  | _ => none
theorem xpl_den (ρ γ : Nat → Nat) {x : XV} {u : Value} (h : xpl x = some u) : x.den ρ γ = u := by
  unfold xpl at h
  split at h
  · cases h; rfl
  · split at h
    · rename_i us hu; injection h with h; subst h; simp only [XV.den, xplL_den ρ γ hu]
    · cases h
  · cases h
/-- The value of an operand, in normal form. -/
def xevn (F : XFr) (x : Operand) : Option XV := match x with
  | .const v => some (xnorm v)
  | x => xev F x
def xevp (F : XFr) (x : Operand) : Option Value := match x with
  | .const v => some v
  | x => match xev F x with
    | some y => xpl y
    | none => none
/-- A cell of a block. -/
def xcell (H : XHp) (b j : Nat) : Option XV := match H.get b with
  | some (.cells _ cs) => cs[j]?
  | some (.grown _ _ cs) => cs[j]?
  | _ => none
def xcellsN (H : XHp) (b j n : Nat) : Option (List XV) := match H.get b with
  | some (.cells _ cs) => let l := (cs.drop j).take n; bif Nat.beq l.length n then some l else none
  | some (.grown _ _ cs) => let l := (cs.drop j).take n; bif Nat.beq l.length n then some l else none
  | _ => none
section
variable {P : Program} {N : Nat} {w0 : XEnv} {ρ γ : Nat → Nat} {F : XFr} {H : XHp} {a : Act} {w : World} {o : Oper}
theorem XR.evn {x : Operand} {v : XV} (h : XR N w0 ρ γ F H a w) (hx : xevn F x = some v) : a.eval x = v.den ρ γ ∧ v.ok (H.has γ) := by
  unfold xevn at hx
  split at hx
  · injection hx with hx; subst hx; exact ⟨(xnorm_den _ _ _).symm, xnorm_ok _ _⟩
  · exact h.ev hx
theorem XR.evp {x : Operand} {v : Value} (h : XR N w0 ρ γ F H a w) (hx : xevp F x = some v) : a.eval x = v := by
  unfold xevp at hx
  split at hx
  · cases hx; rfl
  · split at hx
    · rename_i y hy; rw [(h.ev hy).1]; exact xpl_den _ _ hx
    · cases hx
theorem XH.cell (h : XH w0 ρ γ H w) {b j : Nat} {x : XV} (hx : xcell H b j = some x) : w.cell? ⟨ρ b, j, none⟩ = some (x.den ρ γ) ∧ x.ok (H.has γ) ∧ (x.den ρ γ).oneCell' = true := by
  unfold xcell at hx
  split at hx
  · rename_i e cs hb
    obtain ⟨h1, h2, h3⟩ := h.bl b _ hb
    rw [XB.ok, XV.okL_iff] at h1
    refine ⟨?_, h1 x (List.mem_of_getElem? hx), h3 x (List.mem_of_getElem? hx)⟩
    unfold World.cell?
    rw [h2]; simp [List.getElem?_map, hx]
  · rename_i e sz cs hb
    obtain ⟨h1, arr, h2, h3, h4, h5, h6⟩ := h.bl b _ hb
    rw [XB.ok, XV.okL_iff] at h1
    obtain ⟨h7, h8⟩ := h6 j x hx
    refine ⟨?_, h1 x (List.mem_of_getElem? hx), h8⟩
    unfold World.cell?
    rw [h2]
    simp [h7]
  · cases hx
theorem xcellsN_get {b n j : Nat} {l : List XV} (h : xcellsN H b j n = some l) : l.length = n ∧ ∀ i x, l[i]? = some x → xcell H b (j + i) = some x := by
  have key : ∀ cs : List XV, (bif Nat.beq ((cs.drop j).take n).length n then some ((cs.drop j).take n) else none) = some l → l.length = n ∧ ∀ i x, l[i]? = some x → cs[j + i]? = some x := fun cs hc => by
    cases hq : Nat.beq ((cs.drop j).take n).length n with
    | false => rw [hq] at hc; cases hc
    | true =>
      rw [hq] at hc
      injection hc with hc
      subst hc
      refine ⟨Nat.eq_of_beq_eq_true hq, fun i x hi => ?_⟩
      rw [List.getElem?_take] at hi
      split at hi
      · rw [List.getElem?_drop] at hi; exact hi
      · cases hi
  unfold xcellsN at h
  unfold xcell
  split at h
  · exact key _ h
  · exact key _ h
  · cases h
/-- A load. -/
def xload (P : Program) (t : TypeId) (H : XHp) (b j : Nat) : Option XV := match ldk P t with
  | some none => xcell H b j
  | some (some n) => (match xcellsN H b j n with
    | some l => some (.a l)
    | none => none)
  | none => none
theorem xload_ok {t : TypeId} {b j : Nat} {x : XV} (h : XH w0 ρ γ H w) (hx : xload P t H b j = some x) : (Instr.loadAt t (.pointer (some ⟨ρ b, j, none⟩))).run P w = .ok (x.den ρ γ) w ∧ x.ok (H.has γ) := by
  unfold xload at hx
  split at hx
  · rename_i hk
    obtain ⟨h1, h2, _⟩ := h.cell hx
    generalize ρ b = B at h1 ⊢
    exact ⟨by simp [Instr.loadAt, Instr.sureAddr, loadVar, (ldk_none (w := w) hk).1, h1], h2⟩
  · rename_i n hk
    split at hx
    · rename_i l hl
      injection hx with hx
      subst hx
      obtain ⟨h1, h2⟩ := xcellsN_get hl
      have hc : ∀ k, k < n → w.cell? ⟨ρ b, j + (0 + k), none⟩ = (l.map (XV.den ρ γ))[0 + k]? := fun k hk => by
        have h3 : l[k]? = some l[k] := List.getElem?_eq_getElem (by omega)
        rw [Nat.zero_add, (h.cell (h2 k _ h3)).1, List.getElem?_map, h3]; rfl
      have hl2 := run_loadCellsFrom (P := P) (w := w) (B := ρ b) (off := j) (vs := l.map (XV.den ρ γ)) n 0 #[] hc (by simp [h1])
      refine ⟨?_, ?_⟩
      · simp only [Instr.loadAt, Instr.sureAddr, loadVar, loadCells, Sem.run_bind, Sem.run_pure, Result.andThen_ok, (ldk_some (w := w) hk).1, (ldk_some (w := w) hk).2, hl2, if_true, List.drop_zero, XV.den, XV.denL_eq]
        rw [List.take_of_length_le (by simp [h1])]
        simp
      · rw [XV.ok, XV.okL_iff]
        intro x hx
        obtain ⟨i, hi⟩ := List.getElem?_of_mem hx
        exact (h.cell (h2 i x hi)).2.1
    · cases hx
  · cases hx
end
end Go.Proofs.YtdmeohgojdfmoaaGreatDoor

/- Closed calls: operations that only read, as a function. Conditions: none. -/
namespace Go.Proofs.YtdmeohgojdfmoaaGreatDoor
open Go Go.RowKit
set_option maxRecDepth 100000
/-- Arithmetic and comparisons of 64-bit integers. -/
def xint (op : BinOp) (m n : Int) : Option XV := match op with
  | .add => some (.v (.int .i64 (wrap64 (m + n))))
  | .sub => some (.v (.int .i64 (wrap64 (m - n))))
  | .mul => some (.v (.int .i64 (wrap64 (m * n))))
  | .quo => if n = 0 then none else some (.v (.int .i64 (wrap64 (m.tdiv n))))
  | .rem => if n = 0 then none else some (.v (.int .i64 (m.tmod n)))
  | .lss => some (.v (.bool (decide (m < n))))
  | .leq => some (.v (.bool (decide (m ≤ n))))
  | .gtr => some (.v (.bool (decide (n < m))))
  | .geq => some (.v (.bool (decide (n ≤ m))))
  | .eql => some (.v (.bool (decide (m = n))))
  | .neq => some (.v (.bool (decide (m ≠ n))))
  | _ => none
/-- Whether a value that is no nil is compared with nil: what the comparison says. -/
def xisnil (x y : XV) : Option (TypeDesc → Option Bool) := match x, y with
  | .p _ _, .v (.pointer none) => some fun d => match d with | .pointer _ => some false | _ => none
  | .sl _ _ _ _, .v (.slice none _ _) => some fun d => match d with | .slice _ => some false | _ => none
  | .sg _ _ _ _, .v (.slice none _ _) => some fun d => match d with | .slice _ => some false | _ => none
  | .m _, .v (.map none) => some fun d => match d with | .map _ _ => some false | _ => none
  | .f _ _, .v .nilFunc => some fun d => match d with | .func _ _ _ => some false | _ => none
  | _, _ => none
section
variable {P : Program} {N : Nat} {w0 : XEnv} {ρ γ : Nat → Nat} {F : XFr} {H : XHp} {a : Act} {w : World} {o : Oper}
theorem xint_ok {op : BinOp} {t yt : TypeId} {x y : Operand} {m n : Int} {v : XV} (h : xint op m n = some v) (ho : o.op = .binOp op t x y yt) (hx : a.eval x = .int .i64 m) (hy : a.eval y = .int .i64 n) : (execOp a.eval o).run P w = .ok (.value (v.den ρ γ)) w ∧ v.ok (H.has γ) := by
  have hrun : ∀ r : Value, (do eqGuard op t x y (.int .i64 m) (.int .i64 n); binOp op t (.int .i64 m) (.int .i64 n) : Sem Value).run P w = .ok r w → (execOp a.eval o).run P w = .ok (.value r) w := fun r hr => by
    simp only [execOp, ho, hx, hy]
    rw [Sem.run_bind, hr]
    rfl
  cases op <;> simp only [xint] at h
  all_goals first
    | (split at h
       · cases h
       · rename_i h0
         injection h with h; subst h; refine ⟨hrun _ ?_, trivial⟩; simp [XV.den, eqGuard, binOp, Op.intDiv, h0, IntKind.wrap_i64, wrap64])
    | (injection h with h; subst h; refine ⟨hrun _ ?_, trivial⟩; first | (simp [XV.den, eqGuard, binOp, Op.intArith, Op.intCmp, IntKind.wrap_i64, wrap64]; done) | (simp [XV.den, eqGuard, binOp, Op.intArith, Op.intCmp, IntKind.wrap_i64, wrap64]; rfl))
    | cases h
theorem semPure_value {s : Sem Value} {u : Value} (h : semPure P s = some u) : ((do pure (.value (← s)) : Sem Next)).run P w = .ok (.value u) w := by
  have := semPure_run w h
  show (Sem.bind s fun v => .pure (Next.value v)).run P w = _
  rw [show Sem.bind s (fun v => .pure (Next.value v)) = (s >>= fun v => pure (Next.value v)) from rfl, Sem.run_bind, this]
  rfl
/-- What an operation gives that does not look at the world, of plain values. -/
def xpure (P : Program) (F : XFr) (op : Op) : Option Value := match op with
  | .binOp b t x y _ => (match xevp F x, xevp F y with
    | some u, some v => semPure P (do eqGuard b t x y u v; binOp b t u v)
    | _, _ => none)
  | .unOp b _ x => (match xevp F x with
    | some u => semPure P (Op.unary b u)
    | none => none)
  | .convert s d x => (match xevp F x with
    | some u => semPure P (convert s d u)
    | none => none)
  | .index t x i => (match xevp F x, xevp F i with
    | some u, some v => semPure P (Instr.index t u v)
    | _, _ => none)
  | .slice t x lo hi mx => (match xevp F x, lo.map (xevp F), hi.map (xevp F), mx with
    | some u, none, none, none => semPure P (Instr.sliceAt t u none none none)
    | some u, some (some l), none, none => semPure P (Instr.sliceAt t u (some l) none none)
    | some u, none, some (some h), none => semPure P (Instr.sliceAt t u none (some h) none)
    | some u, some (some l), some (some h), none => semPure P (Instr.sliceAt t u (some l) (some h) none)
    | _, _, _, _ => none)
  | .call ⟨.builtin .len, ⟨[x]⟩, ts⟩ => (match xevp F x with
    | some u => semPure P (Builtin.len_ ts 0 #[u])
    | none => none)
  | .call ⟨.builtin .min, ⟨[x, y]⟩, ts⟩ => (match xevp F x, xevp F y with
    | some u, some v => semPure P (Builtin.min_ ts 0 #[u, v])
    | _, _ => none)
  | .call ⟨.builtin .max, ⟨[x, y]⟩, ts⟩ => (match xevp F x, xevp F y with
    | some u, some v => semPure P (Builtin.max_ ts 0 #[u, v])
    | _, _ => none)
  | _ => none
theorem xpure_ok {u : Value} (h : xpure P F o.op = some u) (hR : XR N w0 ρ γ F H a w) : (execOp a.eval o).run P w = .ok (.value u) w := by
  unfold xpure at h
  split at h
  · rename_i b t x y yt ho
    split at h
    · rename_i u v hx hy
      have := semPure_value (w := w) h
      simpa only [execOp, ho, hR.evp hx, hR.evp hy] using this
    · cases h
  · rename_i b t x ho
    split at h
    · rename_i u hx
      have := semPure_value (w := w) h
      simpa only [execOp, ho, hR.evp hx] using this
    · cases h
  · rename_i s d x ho
    split at h
    · rename_i u hx
      have := semPure_value (w := w) h
      simpa only [execOp, ho, hR.evp hx] using this
    · cases h
  · rename_i t x i ho
    split at h
    · rename_i u v hx hi
      have := semPure_value (w := w) h
      simpa only [execOp, ho, hR.evp hx, hR.evp hi] using this
    · cases h
  · rename_i t x lo hi mx ho
    split at h
    · rename_i u hx h1 h2
      have := semPure_value (w := w) h
      simp only [Option.map_eq_none_iff] at h1 h2
      simpa only [execOp, ho, hR.evp hx, h1, h2, Option.map_none] using this
    · rename_i u l hx h1 h2
      have := semPure_value (w := w) h
      simp only [Option.map_eq_none_iff, Option.map_eq_some_iff] at h1 h2
      obtain ⟨l', h1, h3⟩ := h1
      simpa only [execOp, ho, hR.evp hx, h1, h2, Option.map_none, Option.map_some, hR.evp h3] using this
    · rename_i u l hx h1 h2
      have := semPure_value (w := w) h
      simp only [Option.map_eq_none_iff, Option.map_eq_some_iff] at h1 h2
      obtain ⟨l', h2, h3⟩ := h2
      simpa only [execOp, ho, hR.evp hx, h1, h2, Option.map_none, Option.map_some, hR.evp h3] using this
    · rename_i u l hi hx h1 h2
      have := semPure_value (w := w) h
      simp only [Option.map_eq_some_iff] at h1 h2
      obtain ⟨l', h1, h3⟩ := h1
      obtain ⟨l2, h2, h4⟩ := h2
      simpa only [execOp, ho, hR.evp hx, h1, h2, Option.map_none, Option.map_some, hR.evp h3, hR.evp h4] using this
    · cases h
  · rename_i x ts ho
    split at h
    · rename_i u hx
      have := semPure_value (w := w) h
      simpa [execOp, ho, resolve, invoke, builtin, hR.evp hx, Builtin.len_] using this
    · cases h
  · rename_i x y ts ho
    split at h
    · rename_i u v hx hy
      have := semPure_value (w := w) h
      simpa [execOp, ho, resolve, invoke, builtin, hR.evp hx, hR.evp hy, Builtin.min_] using this
    · cases h
  · rename_i x y ts ho
    split at h
    · rename_i u v hx hy
      have := semPure_value (w := w) h
      simpa [execOp, ho, resolve, invoke, builtin, hR.evp hx, hR.evp hy, Builtin.max_] using this
    · cases h
  · cases h
end
end Go.Proofs.YtdmeohgojdfmoaaGreatDoor

/- Closed calls: readers of own memory, in parts. Conditions: none. -/
namespace Go.Proofs.YtdmeohgojdfmoaaGreatDoor
open Go Go.RowKit
set_option maxRecDepth 100000
section
variable {P : Program} {N : Nat} {w0 : XEnv} {ρ γ : Nat → Nat} {F : XFr} {H : XHp} {a : Act} {w : World} {o : Oper}
theorem under_run {t : TypeId} {d : TypeDesc} (h : P.underlying t = some d) : (underlying t).run P w = .ok d w := by unfold underlying; simp [h]
theorem size_run {t : TypeId} {n : Nat} (h : (P.info? t).map (·.size) = some n) : (sizeOf t).run P w = .ok n w := by
  unfold sizeOf typeInfo
  cases hi : P.info? t with
  | none => rw [hi] at h; cases h
  | some i => rw [hi] at h; simp at h; simp [hi, h]
/-- A part of a struct or an array. -/
def xpart (P : Program) (t : TypeId) (l : List XV) (off : Nat) : Option XV := match ldk P t with
  | some none => l[off]?
  | some (some n) => some (.a ((l.drop off).take n))
  | none => none
theorem xpart_ok {t : TypeId} {l : List XV} {off : Nat} {v : XV} (h : xpart P t l off = some v) (hl : XV.okL (H.has γ) l) : (part t (XV.denL ρ γ l).toArray off).run P w = .ok (v.den ρ γ) w ∧ v.ok (H.has γ) := by
  rw [XV.okL_iff] at hl
  rw [XV.denL_eq]
  unfold xpart at h
  split at h
  · rename_i hk
    refine ⟨?_, hl v (List.mem_of_getElem? h)⟩
    unfold part
    simp [(ldk_none (w := w) hk).1, h]
  · rename_i n hk
    injection h with h
    subst h
    refine ⟨?_, ?_⟩
    · unfold part
      simp only [Sem.run_bind, (ldk_some (w := w) hk).1, Result.andThen_ok, if_true, (ldk_some (w := w) hk).2, Sem.run_pure, XV.den, XV.denL_eq]
      congr 2
      simp [List.map_take, List.map_drop, List.extract_eq_take_drop]
    · rw [XV.ok, XV.okL_iff]
      intro x hx
      exact hl x (List.mem_of_mem_drop (List.mem_of_mem_take hx))
  · cases h
def arrSz (P : Program) (t : TypeId) : Option (Nat × TypeId × Nat) := match P.underlying t with
  | some (.array n e) => (match (P.info? e).map (·.size) with
    | some s => some (n, e, s)
    | none => none)
  | _ => none
theorem arrSz_spec {t e : TypeId} {n s : Nat} (h : arrSz P t = some (n, e, s)) : P.underlying t = some (.array n e) ∧ (P.info? e).map (·.size) = some s := by
  unfold arrSz at h
  split at h
  · rename_i n' e' hu
    split at h
    · rename_i s' hs
      simp only [Option.some.injEq, Prod.mk.injEq] at h
      obtain ⟨rfl, rfl, rfl⟩ := h
      exact ⟨hu, hs⟩
    · cases h
  · cases h
theorem elemSz_size {t e : TypeId} {s : Nat} (h : elemSz P t = some (e, s)) : P.underlying t = some (.slice e) ∧ (P.info? e).map (·.size) = some s := by
  obtain ⟨h1, i, h2, h3⟩ := elemSz_spec h
  exact ⟨h1, by rw [h2]; simp [h3]⟩
theorem add_at (B off n : Nat) : (⟨B, off, none⟩ : Addr).add n = ⟨B, off + n, none⟩ := by
  unfold Addr.add
  split
  · rename_i h; subst h; rfl
  · rfl
/-- Fields and elements of values. -/
def xfield (P : Program) (F : XFr) (op : Op) : Option XV := match op with
  | .field t x f => (match xevn F x, P.underlying t with
    | some (.a l), some (.struct fs) => (match fs[f]? with
      | some g => xpart P g.type l g.offset
      | none => none)
    | _, _ => none)
  | .index t x i => (match xevn F x, xevp F i, arrSz P t with
    | some (.a l), some (.int _ (.ofNat k)), some (n, e, s) => bif Nat.blt k n then xpart P e l (k * s) else none
    | _, _, _ => none)
  | _ => none
theorem xfield_ok {v : XV} (h : xfield P F o.op = some v) (hR : XR N w0 ρ γ F H a w) : (execOp a.eval o).run P w = .ok (.value (v.den ρ γ)) w ∧ v.ok (H.has γ) := by
  unfold xfield at h
  split at h
  · rename_i t x f ho
    split at h
    · rename_i l fs hx hu
      split at h
      · rename_i g hg
        obtain ⟨h1, h2⟩ := hR.evn hx
        obtain ⟨h3, h4⟩ := xpart_ok (P := P) (w := w) (ρ := ρ) h h2
        refine ⟨?_, h4⟩
        simp only [execOp, ho, h1, XV.den, Instr.field, Sem.run_bind, under_run hu, Result.andThen_ok, hg, asAgg, Sem.run_pure, h3]
      · cases h
    · cases h
  · rename_i t x i ho
    split at h
    · rename_i l kd k n e s hx hi ha
      obtain ⟨hu, hs⟩ := arrSz_spec ha
      cases hb : Nat.blt k n with
      | false => rw [hb] at h; cases h
      | true =>
        rw [hb] at h
        obtain ⟨h1, h2⟩ := hR.evn hx
        obtain ⟨h3, h4⟩ := xpart_ok (P := P) (w := w) (ρ := ρ) h h2
        refine ⟨?_, h4⟩
        rw [Nat.blt_eq] at hb
        simp only [execOp, ho, h1, XV.den, hR.evp hi, Instr.index, asIntOf, Sem.run_bind, Sem.run_pure, under_run hu, Result.andThen_ok, size_run hs]
        rw [if_pos ⟨by simp, by simpa using hb⟩]
        simp only [Sem.run_bind, size_run hs, Result.andThen_ok, Int.ofNat_eq_natCast, Int.toNat_natCast, h3, Sem.run_pure]
    · cases h
  · cases h
/-- Addresses of fields and elements, slices of slices. -/
def xaddr (P : Program) (F : XFr) (op : Op) : Option XV := match op with
  | .fieldAddr t x f => (match xev F x with
    | some (.p b j) => (match fieldOff P t f with
      | some off => some (.p b (j + off))
      | none => none)
    | _ => none)
  | .indexAddr t x ix => (match xev F x, xevp F ix with
    | some (.sl b k n _), some (.int _ (.ofNat z)) => (match elemSz P t with
      | some (_, sz) => bif Nat.blt z n then some (.p b (k + z * sz)) else none
      | none => none)
    | some (.sg b k n _), some (.int _ (.ofNat z)) => (match elemSz P t with
      | some (_, sz) => bif Nat.blt z n then some (.p b (k + z * sz)) else none
      | none => none)
    | some (.p b j), some (.int _ (.ofNat z)) => (match arrSz P t with
      | some (n, _, sz) => bif Nat.blt z n then some (.p b (j + z * sz)) else none
      | none => none)
    | _, _ => none)
  | .nilCheck x => (match xev F x with
    | some (.p b j) => some (.p b j)
    | some (.f fn cs) => some (.f fn cs)
    | _ => none)
  | _ => none
theorem xaddr_ok {v : XV} (h : xaddr P F o.op = some v) (hR : XR N w0 ρ γ F H a w) : (execOp a.eval o).run P w = .ok (.value (v.den ρ γ)) w ∧ v.ok (H.has γ) := by
  unfold xaddr at h
  split at h
  · rename_i t x f ho
    split at h
    · rename_i b j hx
      split at h
      · rename_i off hoff
        injection h with h
        subst h
        obtain ⟨h1, h2⟩ := hR.ev hx
        refine ⟨?_, h2⟩
        simp only [XV.den] at h1 ⊢
        simp only [execOp, ho, h1, Sem.run_bind, run_fieldAt hoff, Result.andThen_ok, Sem.run_pure]
      · cases h
    · cases h
  · rename_i t x ix ho
    split at h
    · rename_i b k n c kd z hx hix
      split at h
      · rename_i e sz he
        cases hb : Nat.blt z n with
        | false => rw [hb] at h; cases h
        | true =>
          rw [hb] at h
          injection h with h
          subst h
          rw [Nat.blt_eq] at hb
          obtain ⟨h1, h2⟩ := hR.ev hx
          refine ⟨?_, h2⟩
          simp only [XV.den] at h1 ⊢
          simp only [execOp, ho, h1, hR.evp hix, Int.ofNat_eq_natCast, Sem.run_bind, run_indexAt he hb, Result.andThen_ok, Sem.run_pure]
      · cases h
    · rename_i b k n c kd z hx hix
      split at h
      · rename_i e sz he
        cases hb : Nat.blt z n with
        | false => rw [hb] at h; cases h
        | true =>
          rw [hb] at h
          injection h with h
          subst h
          rw [Nat.blt_eq] at hb
          obtain ⟨h1, h2⟩ := hR.ev hx
          refine ⟨?_, ⟨h2.1, Nat.zero_le _⟩⟩
          simp only [XV.den] at h1 ⊢
          simp only [execOp, ho, h1, hR.evp hix, Int.ofNat_eq_natCast, Sem.run_bind, run_indexAt he hb, Result.andThen_ok, Sem.run_pure]
      · cases h
    · rename_i b j kd z hx hix
      split at h
      · rename_i n e sz ha
        obtain ⟨hu, hs⟩ := arrSz_spec ha
        cases hb : Nat.blt z n with
        | false => rw [hb] at h; cases h
        | true =>
          rw [hb] at h
          injection h with h
          subst h
          rw [Nat.blt_eq] at hb
          obtain ⟨h1, h2⟩ := hR.ev hx
          refine ⟨?_, h2⟩
          simp only [XV.den] at h1 ⊢
          simp only [execOp, ho, h1, hR.evp hix, Instr.indexAt, asIntOf, Sem.run_bind, Sem.run_pure, under_run hu, Result.andThen_ok, Instr.sureAddr]
          rw [if_pos ⟨by simp, by simpa using hb⟩]
          simp only [Sem.run_bind, size_run hs, Result.andThen_ok, Int.ofNat_eq_natCast, Int.toNat_natCast, Sem.run_pure, add_at]
      · cases h
    · cases h
  · rename_i x ho
    split at h
    · rename_i b j hx
      injection h with h
      subst h
      obtain ⟨h1, h2⟩ := hR.ev hx
      simp only [XV.den] at h1
      exact ⟨by simp [execOp, ho, h1, XV.den], h2⟩
    · rename_i f cs hx
      injection h with h
      subst h
      obtain ⟨h1, h2⟩ := hR.ev hx
      simp only [XV.den] at h1
      exact ⟨by simp [execOp, ho, h1, XV.den], h2⟩
    · cases h
  · cases h
end
end Go.Proofs.YtdmeohgojdfmoaaGreatDoor

/- Closed calls: readers of slices, lookups in maps, struct literals, comparisons with nil; all readers. Conditions: none. -/
namespace Go.Proofs.YtdmeohgojdfmoaaGreatDoor
open Go Go.RowKit
set_option maxRecDepth 100000
/-- The cells of a value. -/
def xcl : XV → List XV
  | .a l => l
  | x => [x]
def XV.one : XV → Bool
  | .v x => x.oneCell'
  | .a _ => false
  | .t _ => false
  | _ => true
section
variable {P : Program} {N : Nat} {w0 : XEnv} {ρ γ : Nat → Nat} {F : XFr} {H : XHp} {a : Act} {w : World} {o : Oper}
theorem XV.one_den {x : XV} (h : x.one = true) : (x.den ρ γ).oneCell' = true := by
  cases x <;> first | exact h | rfl | cases h
theorem xcl_spec {v : XV} (h : (xcl v).all XV.one = true) : (v.den ρ γ).cells = ((xcl v).map (XV.den ρ γ)).toArray ∧ ∀ x ∈ xcl v, (x.den ρ γ).oneCell' = true := by
  have h' : ∀ x ∈ xcl v, (x.den ρ γ).oneCell' = true := fun x hx => XV.one_den (List.all_eq_true.1 h x hx)
  refine ⟨?_, h'⟩
  cases v with
  | a l => simp [XV.den, XV.denL_eq, Value.cells, xcl]
  | _ =>
    have h2 := h' _ (List.mem_singleton.2 rfl)
    simp only [xcl, List.map_cons, List.map_nil]
    revert h2
    generalize XV.den ρ γ _ = u
    intro this
    cases u <;> simp [Value.oneCell'] at this <;> rfl
theorem xcl_ok {A : Nat → Nat → Prop} {v : XV} (h : v.ok A) : ∀ x ∈ xcl v, x.ok A := by
  cases v with
  | a l => rw [XV.ok, XV.okL_iff] at h; exact h
  | _ => intro x hx; rw [List.mem_singleton.1 hx]; exact h
theorem setAll_putX {l xs : List XV} {off : Nat} (h : off + xs.length ≤ l.length) : setAll (l.map (XV.den ρ γ)).toArray off (xs.map (XV.den ρ γ)) = ((putL l off xs).map (XV.den ρ γ)).toArray := by
  refine Array.ext_getElem? fun k => ?_
  rw [setAll_get _ _ _ _ (by simpa using h)]
  simp only [List.length_map, List.getElem?_map, List.getElem?_toArray]
  rw [putL_get h]
  split <;> rfl
/-- Bounds of a slice expression. -/
def xbounds (P : Program) (F : XFr) (is : Bool) (n c : Nat) (lo hi mx : Option Operand) : Option (Nat × Nat × Nat) := match lo.map (xevp F), hi.map (xevp F), mx.map (xevp F) with
  | none, none, none => semPure P (Instr.sliceBounds is n c none none none)
  | some (some l), none, none => semPure P (Instr.sliceBounds is n c (some l) none none)
  | none, some (some h), none => semPure P (Instr.sliceBounds is n c none (some h) none)
  | some (some l), some (some h), none => semPure P (Instr.sliceBounds is n c (some l) (some h) none)
  | none, some (some h), some (some m) => semPure P (Instr.sliceBounds is n c none (some h) (some m))
  | some (some l), some (some h), some (some m) => semPure P (Instr.sliceBounds is n c (some l) (some h) (some m))
  | _, _, _ => none
theorem xbounds_run {is : Bool} {n c : Nat} {lo hi mx : Option Operand} {r : Nat × Nat × Nat} (h : xbounds P F is n c lo hi mx = some r) (hR : XR N w0 ρ γ F H a w) : (Instr.sliceBounds is n c (lo.map a.eval) (hi.map a.eval) (mx.map a.eval)).run P w = .ok r w := by
  have key : ∀ {x : Option Operand} {u : Value}, x.map (xevp F) = some (some u) → x.map a.eval = some u := fun {x u} hx => by
    simp only [Option.map_eq_some_iff] at hx
    obtain ⟨y, h1, h2⟩ := hx
    rw [h1, Option.map_some, hR.evp h2]
  have keyn : ∀ {x : Option Operand}, x.map (xevp F) = none → x.map a.eval = none := fun {x} hx => by
    rw [Option.map_eq_none_iff] at hx
    rw [hx]; rfl
  unfold xbounds at h
  split at h
  · rename_i h1 h2 h3; rw [keyn h1, keyn h2, keyn h3]; exact semPure_run w h
  · rename_i l h1 h2 h3; rw [key h1, keyn h2, keyn h3]; exact semPure_run w h
  · rename_i l h1 h2 h3; rw [keyn h1, key h2, keyn h3]; exact semPure_run w h
  · rename_i l l2 h1 h2 h3; rw [key h1, key h2, keyn h3]; exact semPure_run w h
  · rename_i l l2 h1 h2 h3; rw [keyn h1, key h2, key h3]; exact semPure_run w h
  · rename_i l l2 l3 h1 h2 h3; rw [key h1, key h2, key h3]; exact semPure_run w h
  · cases h
def xnat (F : XFr) (d : Nat) : Option Operand → Option Nat
  | none => some d
  | some y => match xevp F y with
    | some (.int _ (.ofNat n)) => some n
    | _ => none
theorem xnat_run {x : Option Operand} {d l : Nat} (h : xnat F d x = some l) (hR : XR N w0 ρ γ F H a w) : (x.map a.eval = none ∧ l = d) ∨ ∃ kd, x.map a.eval = some (.int kd l) := by
  unfold xnat at h
  split at h
  · injection h with h; exact .inl ⟨rfl, h.symm⟩
  · split at h
    · rename_i kd n hy; injection h with h; subst h; exact .inr ⟨kd, by rw [Option.map_some, hR.evp hy]; rfl⟩
    · cases h
/-- Slices of own memory. -/
def xslice (P : Program) (F : XFr) (op : Op) : Option XV := match op with
  | .slice t x lo hi mx => (match xev F x with
    | some (.sl b k n c) => (match elemSz P t, xbounds P F true n c lo hi mx with
      | some (_, sz), some (l, h, m) => (match Nat.beq m l with
        | true => some (.sl b k (h - l) 0)
        | false => some (.sl b (k + l * sz) (h - l) (m - l)))
      | _, _ => none)
    | some (.sg b k n e) => (match elemSz P t, mx, xnat F 0 lo, xnat F n hi with
      | some (_, sz), none, some l, some h => bif Nat.ble h n && Nat.ble l h then (bif Nat.beq l 0 || Nat.blt l n then some (.sg b (k + l * sz) (h - l) (e + l)) else some (.se b k (k + l * sz) (e + l))) else none
      | _, _, _, _ => none)
    | some (.p b j) => (match arrSz P t with
      | some (n, _, sz) => (match xbounds P F false n n lo hi mx with
        | some (l, h, m) => (match Nat.beq m l with
          | true => some (.sl b j (h - l) 0)
          | false => some (.sl b (j + l * sz) (h - l) (m - l)))
        | none => none)
      | none => none)
    | _ => none)
  | _ => none
theorem xslice_ok {v : XV} (h : xslice P F o.op = some v) (hR : XR N w0 ρ γ F H a w) : (execOp a.eval o).run P w = .ok (.value (v.den ρ γ)) w ∧ v.ok (H.has γ) := by
  unfold xslice at h
  split at h
  · rename_i t x lo hi mx ho
    split at h
    · rename_i b k n c hx
      split at h
      · rename_i e sz l hh m he hb
        obtain ⟨hu, hs⟩ := elemSz_size he
        obtain ⟨h1, h2⟩ := hR.ev hx
        have hrun := xbounds_run (w := w) hb hR
        simp only [XV.den] at h1
        have hex : (execOp a.eval o).run P w = .ok (.value (.slice (if m = l then some ⟨ρ b, k, none⟩ else some ⟨ρ b, k + l * sz, none⟩) (hh - l) (m - l))) w := by
          simp only [execOp, ho, h1, Instr.sliceAt, Instr.slice, Sem.run_bind, under_run hu, Result.andThen_ok, hrun, size_run hs, Sem.run_pure, Option.map_some, add_at]
        rw [hex]
        split at h
        · rename_i hm
          injection h with h
          subst h
          have := Nat.eq_of_beq_eq_true hm
          exact ⟨by rw [if_pos this, this, Nat.sub_self]; rfl, h2⟩
        · rename_i hm
          injection h with h
          subst h
          exact ⟨by rw [if_neg (Nat.ne_of_beq_eq_false hm)]; rfl, h2⟩
      · cases h
    · rename_i b k n e hx
      split at h
      · rename_i e' sz l hh he hl hhi
        obtain ⟨hu, hs⟩ := elemSz_size he
        obtain ⟨h1, h2⟩ := hR.ev hx
        cases hc : (Nat.ble hh n && Nat.ble l hh) with
        | false => rw [hc] at h; cases h
        | true =>
          rw [hc] at h
          simp only [cond_true] at h
          simp only [Bool.and_eq_true, Nat.ble_eq] at hc
          obtain ⟨hc2, hc3⟩ := hc
          have hcap : n ≤ γ b - e := by have := h2.2; omega
          have hrun := run_bounds (P := P) (w := w) (c := γ b - e) (xnat_run hl hR) (xnat_run hhi hR) hc3 (Nat.le_trans hc2 hcap) true
          simp only [XV.den] at h1
          have hex : (execOp a.eval o).run P w = .ok (.value (.slice (if γ b - e = l then some ⟨ρ b, k, none⟩ else some ⟨ρ b, k + l * sz, none⟩) (hh - l) (γ b - e - l))) w := by
            simp only [execOp, ho, h1, Instr.sliceAt, Instr.slice, Sem.run_bind, under_run hu, Result.andThen_ok, Option.map_none, hrun, size_run hs, Sem.run_pure, Option.map_some, add_at]
          rw [hex]
          cases hc1 : (Nat.beq l 0 || Nat.blt l n) with
          | true =>
            rw [hc1] at h
            injection h with h
            subst h
            simp only [Bool.or_eq_true, Nat.blt_eq] at hc1
            replace hc1 : l = 0 ∨ l < n := hc1.imp Nat.eq_of_beq_eq_true id
            refine ⟨?_, ⟨h2.1, by have := h2.2; omega⟩⟩
            simp only [XV.den, Nat.sub_add_eq]
            split
            · rename_i hq
              have : l = 0 := by omega
              subst this
              simp
            · rfl
          | false =>
            rw [hc1] at h
            injection h with h
            subst h
            simp only [Bool.or_eq_false_iff] at hc1
            have hc4 : ¬ l < n := fun h => by rw [← Nat.blt_eq] at h; rw [h] at hc1; cases hc1.2
            have hln : hh - l = 0 := by omega
            refine ⟨?_, ⟨h2.1, by have := h2.2; omega⟩⟩
            simp only [XV.den, Nat.sub_add_eq, hln]
            have h3 := h2.2
            by_cases hq : γ b - e = l
            · rw [if_pos hq, if_pos (by omega)]
            · rw [if_neg hq, if_neg (by omega)]
      · cases h
    · rename_i b j hx
      split at h
      · rename_i n e sz ha
        obtain ⟨hu, hs⟩ := arrSz_spec ha
        split at h
        · rename_i l hh m hb
          obtain ⟨h1, h2⟩ := hR.ev hx
          have hrun := xbounds_run (w := w) hb hR
          simp only [XV.den] at h1
          have hex : (execOp a.eval o).run P w = .ok (.value (.slice (some (if m = l then ⟨ρ b, j, none⟩ else ⟨ρ b, j + l * sz, none⟩)) (hh - l) (m - l))) w := by
            simp only [execOp, ho, h1, Instr.sliceAt, Instr.sureAddr, Sem.run_bind, under_run hu, Result.andThen_ok, hrun, size_run hs, Sem.run_pure, add_at]
          rw [hex]
          split at h
          · rename_i hm
            injection h with h
            subst h
            have := Nat.eq_of_beq_eq_true hm
            exact ⟨by rw [if_pos this, this, Nat.sub_self]; rfl, h2⟩
          · rename_i hm
            injection h with h
            subst h
            exact ⟨by rw [if_neg (Nat.ne_of_beq_eq_false hm)]; rfl, h2⟩
        · cases h
      · cases h
    · cases h
  · cases h
end
end Go.Proofs.YtdmeohgojdfmoaaGreatDoor

/- Closed calls: struct literals, lookups in maps, lengths, comparisons with nil; all readers. Conditions: none. -/
namespace Go.Proofs.YtdmeohgojdfmoaaGreatDoor
open Go Go.RowKit
set_option maxRecDepth 100000
def xevL (F : XFr) : List Operand → Option (List XV)
  | [] => some []
  | x :: l => match xevn F x, xevL F l with
    | some v, some vs => some (v :: vs)
    | _, _ => none
/-- The parts of a literal, laid into its cells. -/
def xfill (F : XFr) (pl : Nat → Option (Nat × Nat)) : List (Nat × Operand) → List XV → Option (List XV)
  | [], l => some l
  | (i, x) :: ps, l => match xevn F x, pl i with
    | some v, some (off, k) => bif Nat.beq (xcl v).length k && Nat.ble (off + k) l.length && (xcl v).all XV.one then xfill F pl ps (putL l off (xcl v)) else none
    | _, _ => none
section
variable {P : Program} {N : Nat} {w0 : XEnv} {ρ γ : Nat → Nat} {F : XFr} {H : XHp} {a : Act} {w : World} {o : Oper}
theorem XR.evL (hR : XR N w0 ρ γ F H a w) : ∀ {l : List Operand} {vs : List XV}, xevL F l = some vs → l.map a.eval = XV.denL ρ γ vs ∧ XV.okL (H.has γ) vs
  | [], vs, h => by cases h; exact ⟨rfl, trivial⟩
  | x :: l, vs, h => by
    unfold xevL at h
    split at h
    · rename_i v vs' hv hl
      injection h with h
      subst h
      obtain ⟨h1, h2⟩ := hR.evn hv
      obtain ⟨h3, h4⟩ := XR.evL hR hl
      exact ⟨by rw [List.map_cons, h1, h3, XV.denL], h2, h4⟩
    · cases h
theorem putX_mem {l xs : List XV} {j : Nat} {x : XV} (h : x ∈ putL l j xs) : x ∈ l ∨ x ∈ xs := by
  unfold putL at h
  rcases List.mem_append.1 h with h | h
  · rcases List.mem_append.1 h with h | h
    · exact .inl (List.mem_of_mem_take h)
    · exact .inr h
  · exact .inl (List.mem_of_mem_drop h)
theorem xfill_run {pl : Nat → Option (Nat × Nat)} (hR : XR N w0 ρ γ F H a w) : ∀ {ps : List (Nat × Operand)} {l l' : List XV}, xfill F pl ps l = some l' → (∀ x ∈ l, x.ok (H.has γ)) → (∀ x ∈ l, (x.den ρ γ).oneCell' = true) →
    Instr.fill pl (l.map (XV.den ρ γ)).toArray (ps.map fun x => (x.1, a.eval x.2)) = some (l'.map (XV.den ρ γ)).toArray ∧ (∀ x ∈ l', x.ok (H.has γ)) ∧ (∀ x ∈ l', (x.den ρ γ).oneCell' = true) ∧ l'.length = l.length
  | [], l, l', h, hl, h1 => by cases h; exact ⟨rfl, hl, h1, rfl⟩
  | (i, x) :: ps, l, l', h, hl, h1 => by
    unfold xfill at h
    split at h
    · rename_i v off k hv hp
      cases hc : (Nat.beq (xcl v).length k && Nat.ble (off + k) l.length && (xcl v).all XV.one) with
      | false => rw [hc] at h; cases h
      | true =>
        rw [hc] at h
        simp only [Bool.and_eq_true, Nat.ble_eq] at hc
        obtain ⟨⟨hc1, hc2⟩, hc3⟩ := hc
        have hk := Nat.eq_of_beq_eq_true hc1
        obtain ⟨g1, g2⟩ := hR.evn hv
        obtain ⟨e1, e2⟩ := xcl_spec (ρ := ρ) (γ := γ) hc3
        have e3 := xcl_ok g2
        obtain ⟨q1, q2, q3, q4⟩ := xfill_run hR h (fun x hx => by
          rcases putX_mem hx with hx | hx
          · exact hl x hx
          · exact e3 x hx) (fun x hx => by
          rcases putX_mem hx with hx | hx
          · exact h1 x hx
          · exact e2 x hx)
        refine ⟨?_, q2, q3, by rw [q4, putL_len (by omega)]⟩
        simp only [List.map_cons, Instr.fill, hp, g1, e1, List.size_toArray, List.length_map, hk, ne_eq, not_true_eq_false, decide_false, Bool.false_or]
        rw [if_neg (by simp; omega), fill_foldl]
        simp only
        rw [setAll_putX (by omega)]
        exact q1
    · cases h
def xzero (P : Program) (t : TypeId) : Option (List XV) := match (P.info? t).bind (·.zero) with
  | some z => bif z.cells.toList.all Value.oneCell' then some (z.cells.toList.map .v) else none
  | none => none
theorem xzero_run {t : TypeId} {l : List XV} (h : xzero P t = some l) : ∃ z, (zeroValue t).run P w = .ok z w ∧ z.cells = (l.map (XV.den ρ γ)).toArray ∧ (∀ x ∈ l, x.ok (H.has γ)) ∧ (∀ x ∈ l, (x.den ρ γ).oneCell' = true) ∧ (P.info? t).bind (·.zero) = some z := by
  unfold xzero at h
  split at h
  · rename_i z hz
    cases hc : z.cells.toList.all Value.oneCell' with
    | false => rw [hc] at h; cases h
    | true =>
      rw [hc] at h
      injection h with h
      subst h
      refine ⟨z, ?_, by simp [Function.comp_def, XV.den], fun x hx => ?_, fun x hx => ?_, hz⟩
      · unfold zeroValue typeInfo
        cases hi : P.info? t with
        | none => rw [hi] at hz; cases hz
        | some i =>
          rw [hi] at hz
          simp only [Option.bind_some] at hz
          simp [hi, hz]
      · obtain ⟨v, hv, rfl⟩ := List.mem_map.1 hx; trivial
      · obtain ⟨v, hv, rfl⟩ := List.mem_map.1 hx; exact List.all_eq_true.1 hc v hv
  · cases h
/-- Struct and array literals. -/
def xbuild (P : Program) (F : XFr) (op : Op) : Option XV := match op with
  | .build t ps => (match xzero P t with
    | some z => (match bplaces P t with
      | some pl => (match xfill F (fun i => pl[i]?) ps.toList z with
        | some l => some (.a l)
        | none => none)
      | none => (match arrSz P t with
        | some (_, _, sz) => (match xfill F (fun i => some (i * sz, sz)) ps.toList z with
          | some l => some (.a l)
          | none => none)
        | none => none))
    | none => none)
  | .makeFunc (.func f) first caps => bif first.isEmpty then (match xevL F caps.toList with
    | some l => some (.f f l)
    | none => none) else none
  | .extract x i => (match xevn F x with
    | some (.t l) => l[i]?
    | _ => none)
  | .move x => xevn F x
  | .assign x => xevn F x
  | .pick c x y => (match xevp F c with
    | some (.bool true) => xevn F x
    | some (.bool false) => xevn F y
    | _ => none)
  | _ => none
theorem xbuild_ok {v : XV} (h : xbuild P F o.op = some v) (hR : XR N w0 ρ γ F H a w) : (execOp a.eval o).run P w = .ok (.value (v.den ρ γ)) w ∧ v.ok (H.has γ) := by
  unfold xbuild at h
  split at h
  · rename_i t ps ho
    have hps : (ps.map fun (i, x) => (i, a.eval x)).toList = ps.toList.map fun x => (x.1, a.eval x.2) := by simp
    split at h
    · rename_i z hz
      obtain ⟨zv, hz1, hz2, hz3, hz4, hz5⟩ := xzero_run (w := w) (ρ := ρ) (γ := γ) (H := H) hz
      split at h
      · rename_i pl hpl
        split at h
        · rename_i l hl
          injection h with h
          subst h
          obtain ⟨h1, h2, _⟩ := xfill_run hR hl hz3 hz4
          refine ⟨?_, by rw [XV.ok, XV.okL_iff]; exact h2⟩
          unfold bplaces at hpl
          cases hu : P.underlying t with
          | none => rw [hu] at hpl; cases hpl
          | some dsc =>
            rw [hu] at hpl
            cases dsc <;> simp only [reduceCtorEq] at hpl
            rename_i fs
            have hm : (fs.mapM (m := Sem) fun f => do pure (f.offset, ← sizeOf f.type)).run P w = .ok pl.toArray w := by
              rw [Array.mapM_eq_mapM_toList, Sem.run_map, mapM_places hpl]; rfl
            have h1' : Instr.fill (fun x => pl.toArray[x]?) zv.cells (ps.map fun (i, x) => (i, a.eval x)).toList = some (l.map (XV.den ρ γ)).toArray := by
              rw [hz2, hps, ← h1]
              simp only [List.getElem?_toArray]
            simp only [execOp, ho, Instr.build, Sem.run_bind, hz1, under_run hu, Result.andThen_ok, hm, h1', Sem.run_pure, XV.den, XV.denL_eq]
        · cases h
      · split at h
        · rename_i n e sz ha
          obtain ⟨hu, hs⟩ := arrSz_spec ha
          split at h
          · rename_i l hl
            injection h with h
            subst h
            obtain ⟨h1, h2, _⟩ := xfill_run hR hl hz3 hz4
            refine ⟨?_, by rw [XV.ok, XV.okL_iff]; exact h2⟩
            have h1' : Instr.fill (fun i => some (i * sz, sz)) zv.cells (ps.map fun (i, x) => (i, a.eval x)).toList = some (l.map (XV.den ρ γ)).toArray := by
              rw [hz2, hps, ← h1]
            simp only [execOp, ho, Instr.build, Sem.run_bind, hz1, under_run hu, size_run hs, Result.andThen_ok, h1', Sem.run_pure, XV.den, XV.denL_eq]
          · cases h
        · cases h
    · cases h
  · rename_i f first caps ho
    cases hf : first.isEmpty with
    | false => rw [hf] at h; cases h
    | true =>
      rw [hf] at h
      simp only [cond_true] at h
      split at h
      · rename_i l hl
        injection h with h
        subst h
        obtain ⟨h1, h2⟩ := hR.evL hl
        refine ⟨?_, h2⟩
        have hf' : first = #[] := by simpa using hf
        subst hf'
        have hc : caps.map a.eval = (XV.denL ρ γ l).toArray := by rw [← h1, ← Array.toList_map]
        simp only [execOp, ho, Instr.makeFunc, Sem.run_bind, Sem.run_pure, Result.andThen_ok, hc, XV.den, List.map_toArray, List.map_nil]
      · cases h
  · rename_i x i ho
    split at h
    · rename_i l hx
      obtain ⟨h1, h2⟩ := hR.evn hx
      rw [XV.ok, XV.okL_iff] at h2
      simp only [XV.den, XV.denL_eq] at h1
      exact ⟨by simp [execOp, ho, h1, Instr.extract, h], h2 v (List.mem_of_getElem? h)⟩
    · cases h
  · rename_i x ho
    obtain ⟨h1, h2⟩ := hR.evn h
    exact ⟨by simp [execOp, ho, h1], h2⟩
  · rename_i x ho
    obtain ⟨h1, h2⟩ := hR.evn h
    exact ⟨by simp [execOp, ho, h1], h2⟩
  · rename_i c x y ho
    split at h
    · rename_i hc
      obtain ⟨h1, h2⟩ := hR.evn h
      exact ⟨by simp [execOp, ho, h1, hR.evp hc, asBool], h2⟩
    · rename_i hc
      obtain ⟨h1, h2⟩ := hR.evn h
      exact ⟨by simp [execOp, ho, h1, hR.evp hc, asBool], h2⟩
    · cases h
  · cases h
end
end Go.Proofs.YtdmeohgojdfmoaaGreatDoor

/- Closed calls: lookups in maps, lengths, comparisons with nil; all readers. Conditions: none. -/
namespace Go.Proofs.YtdmeohgojdfmoaaGreatDoor
open Go Go.RowKit
set_option maxRecDepth 100000
def nowIx (d : TypeDesc) (k : Value) : List Value → Nat → Option (Option Nat)
  | [], _ => some none
  | k' :: ks, i => match Instr.sameNow d k k' with
    | some true => some (some i)
    | some false => nowIx d k ks (i + 1)
    | none => none
def askIx (P : Program) (kt : TypeId) (k : Value) : List Value → Nat → Option (Option Nat)
  | [], _ => some none
  | k' :: ks, i => match semPure P (Op.equal kt k k') with
    | some true => some (some i)
    | some false => askIx P kt k ks (i + 1)
    | none => none
/-- Where a key is among the keys of a map. -/
def xfindIx (P : Program) (kt : TypeId) (k : Value) (ks : List Value) : Option (Option Nat) := match P.underlying kt with
  | none => none
  | some d => match nowIx d k ks 0 with
    | some r => some r
    | none => askIx P kt k ks 0
section
variable {P : Program} {N : Nat} {w0 : XEnv} {ρ γ : Nat → Nat} {F : XFr} {H : XHp} {a : Act} {w : World} {o : Oper}
theorem now_ok {d : TypeDesc} {k : Value} : ∀ {ms : List MapEntry} {i : Nat} {r : Option (Option Nat)}, nowIx d k (ms.map (·.key)) i = r → (r = none → Instr.findNow d k ms i = none) ∧ (r = some none → Instr.findNow d k ms i = some none) ∧ ∀ j, r = some (some j) → ∃ e, i ≤ j ∧ ms[j - i]? = some e ∧ Instr.findNow d k ms i = some (some (j, e.val))
  | [], i, r, h => by
    subst h
    exact ⟨fun h => (by cases h), fun _ => rfl, fun j h => (by cases h)⟩
  | e :: ms, i, r, h => by
    rw [List.map_cons, nowIx] at h
    rw [Instr.findNow]
    cases hs : Instr.sameNow d k e.key with
    | none => rw [hs] at h; subst h; exact ⟨fun _ => rfl, fun h => (by cases h), fun j h => (by cases h)⟩
    | some b =>
      rw [hs] at h
      cases b with
      | true =>
        subst h
        refine ⟨fun h => (by cases h), fun h => (by cases h), fun j h => ?_⟩
        simp only [Option.some.injEq] at h
        subst h
        exact ⟨e, Nat.le_refl _, by simp, rfl⟩
      | false =>
        obtain ⟨h1, h2, h3⟩ := now_ok h
        refine ⟨h1, h2, fun j hj => ?_⟩
        obtain ⟨e', g1, g2, g3⟩ := h3 j hj
        exact ⟨e', by omega, by rw [show j - i = (j - (i + 1)) + 1 by omega]; simpa using g2, g3⟩
theorem ask_ok {kt : TypeId} {k : Value} : ∀ {ms : List MapEntry} {i : Nat} {r : Option Nat}, askIx P kt k (ms.map (·.key)) i = some r → (r = none → (Instr.findAsking kt k ms i).run P w = .ok none w) ∧ ∀ j, r = some j → ∃ e, i ≤ j ∧ ms[j - i]? = some e ∧ (Instr.findAsking kt k ms i).run P w = .ok (some (j, e.val)) w
  | [], i, r, h => by
    cases h
    exact ⟨fun _ => rfl, fun j h => (by cases h)⟩
  | e :: ms, i, r, h => by
    rw [List.map_cons, askIx] at h
    rw [Instr.findAsking]
    cases hs : semPure P (Op.equal kt k e.key) with
    | none => rw [hs] at h; cases h
    | some b =>
      rw [hs] at h
      have hrun := semPure_run w hs
      simp only [Sem.run_bind, hrun, Result.andThen_ok]
      cases b with
      | true =>
        cases h
        refine ⟨fun h => (by cases h), fun j h => ?_⟩
        simp only [Option.some.injEq] at h
        subst h
        exact ⟨e, Nat.le_refl _, by simp, rfl⟩
      | false =>
        obtain ⟨h2, h3⟩ := ask_ok h
        refine ⟨h2, fun j hj => ?_⟩
        obtain ⟨e', g1, g2, g3⟩ := h3 j hj
        exact ⟨e', by omega, by rw [show j - i = (j - (i + 1)) + 1 by omega]; simpa using g2, g3⟩
theorem find_ok {kt : TypeId} {k : Value} {ms : List MapEntry} {r : Option Nat} (h : xfindIx P kt k (ms.map (·.key)) = some r) : (r = none → (Instr.findKey kt k ms).run P w = .ok none w) ∧ ∀ j, r = some j → ∃ e, ms[j]? = some e ∧ (Instr.findKey kt k ms).run P w = .ok (some (j, e.val)) w := by
  unfold xfindIx at h
  split at h
  · cases h
  · rename_i d hd
    unfold Instr.findKey
    simp only [Sem.run_bind, under_run hd, Result.andThen_ok]
    cases hn : nowIx d k (ms.map (·.key)) 0 with
    | some r' =>
      rw [hn] at h
      cases h
      obtain ⟨_, h2, h3⟩ := now_ok hn
      refine ⟨fun hr => ?_, fun j hj => ?_⟩
      · subst hr; rw [h2 rfl]; rfl
      · subst hj
        obtain ⟨e, _, g2, g3⟩ := h3 j rfl
        exact ⟨e, g2, by rw [g3]; rfl⟩
    | none =>
      rw [hn] at h
      obtain ⟨h1, _, _⟩ := now_ok hn
      rw [h1 rfl]
      obtain ⟨h2, h3⟩ := ask_ok (w := w) h
      refine ⟨h2, fun j hj => ?_⟩
      obtain ⟨e, _, g2, g3⟩ := h3 j hj
      exact ⟨e, g2, g3⟩
/-- A map in the world. -/
theorem map_get {es : List (Value × XV)} {ms : Array MapEntry} (h : ms.toList.map (fun m => (m.key, m.val)) = es.map fun p => (p.1, p.2.den ρ γ)) : ms.toList.map (·.key) = es.map Prod.fst ∧ ms.size = es.length ∧ ∀ (j : Nat) (e : MapEntry) (p : Value × XV), ms.toList[j]? = some e → es[j]? = some p → e.key = p.1 ∧ e.val = p.2.den ρ γ := by
  refine ⟨?_, by have := congrArg List.length h; simpa using this, fun j e p he hp => ?_⟩
  · have := congrArg (List.map Prod.fst) h
    simpa [List.map_map, Function.comp_def] using this
  · have := congrArg (fun l : List (Value × Value) => l[j]?) h
    simp only [List.getElem?_map, he, hp, Option.map_some, Option.some.injEq, Prod.mk.injEq] at this
    exact this
theorem get_map {b : Nat} {ms : Array MapEntry} {ck : Nat} (h : w.heap[b]? = some (.map ms ck)) : (getObj b).run P w = .ok (.map ms ck) w := by
  unfold getObj
  simp [Sem.run, h]
def xlookR (ok : Bool) (v : XV) (is : Bool) : XV := match ok with
  | true => .t [v, .v (.bool is)]
  | false => v
theorem xlookR_den (ok : Bool) (v : XV) (is : Bool) : (xlookR ok v is).den ρ γ = if ok then .tuple #[v.den ρ γ, .bool is] else v.den ρ γ := by
  cases ok <;> simp [xlookR, XV.den, XV.denL]
theorem xlookR_ok {A : Nat → Nat → Prop} {ok : Bool} {v : XV} {is : Bool} (h : v.ok A) : (xlookR ok v is).ok A := by
  cases ok
  · exact h
  · exact ⟨h, trivial, trivial⟩
def xlook (P : Program) (F : XFr) (H : XHp) (op : Op) : Option XV := match op with
  | .lookup t x ix ok => (match P.underlying t, xevp F ix with
    | some (.map kt et), some k => (match xev F x with
      | some (.m b) => (match H.get b with
        | some (.map es _ _) => (match semPure P (Instr.checkKey es.isEmpty 10000 kt k), xfindIx P kt k (es.map Prod.fst) with
          | some _, some (some j) => (match es[j]? with
            | some p => some (xlookR ok p.2 true)
            | none => none)
          | some _, some none => (match (P.info? et).bind (·.zero) with
            | some z => some (xlookR ok (xnorm z) false)
            | none => none)
          | _, _ => none)
        | _ => none)
      | _ => none)
    | _, _ => none)
  | .call ⟨.builtin .len, ⟨[x]⟩, ⟨[t]⟩⟩ => (match xev F x with
    | some (.sl _ _ n _) => (match elemSz P t with
      | some _ => some (.v (.int .i64 n))
      | none => none)
    | some (.sg _ _ n _) => (match elemSz P t with
      | some _ => some (.v (.int .i64 n))
      | none => none)
    | some (.se _ _ _ _) => (match elemSz P t with
      | some _ => some (.v (.int .i64 (0 : Nat)))
      | none => none)
    | some (.m b) => (match P.underlying t, H.get b with
      | some (.map _ _), some (.map es _ _) => some (.v (.int .i64 es.length))
      | _, _ => none)
    | _ => none)
  | .call ⟨.builtin .cap, ⟨[x]⟩, ⟨[t]⟩⟩ => (match xev F x with
    | some (.sl _ _ _ c) => (match elemSz P t with
      | some _ => some (.v (.int .i64 c))
      | none => none)
    | _ => none)
  | .binOp .eql t x y _ => (match xevn F x, xevn F y with
    | some u, some v => (match xisnil u v, P.underlying t with
      | some f, some d => (match f d with
        | some false => some (.v (.bool false))
        | _ => none)
      | _, _ => none)
    | _, _ => none)
  | .binOp .neq t x y _ => (match xevn F x, xevn F y with
    | some u, some v => (match xisnil u v, P.underlying t with
      | some f, some d => (match f d with
        | some false => some (.v (.bool true))
        | _ => none)
      | _, _ => none)
    | _, _ => none)
  | .load t x => (match xev F x with
    | some (.p b j) => xload P t H b j
    | _ => none)
  | _ => none
theorem xisnil_ok {u v : XV} {f : TypeDesc → Option Bool} {t : TypeId} {d : TypeDesc} (h : xisnil u v = some f) (hd : P.underlying t = some d) (hf : f d = some false) : (Op.equal t (u.den ρ γ) (v.den ρ γ)).run P w = .ok false w ∧ (∀ op x y, (eqGuard op t x y (u.den ρ γ) (v.den ρ γ)).run P w = .ok () w) ∧ (∀ (op : BinOp) (r : Result Value), (op = .eql ∧ r = .ok (.bool false) w) ∨ (op = .neq ∧ r = .ok (.bool true) w) → (binOp op t (u.den ρ γ) (v.den ρ γ)).run P w = r) := by
  have he : (Op.equal t (u.den ρ γ) (v.den ρ γ)).run P w = .ok false w := by
    unfold Op.equal Op.maxDepth
    rw [show 10000 = 9999 + 1 from rfl, Op.equalIn]
    simp only [Sem.run_bind, under_run hd, Result.andThen_ok]
    generalize 9999 = q
    unfold xisnil at h
    split at h
    all_goals first
      | (cases h; done)
      | (simp only [Option.some.injEq] at h; subst h; cases d <;> first | (cases hf; done) | (simp only [XV.den]; rfl))
  refine ⟨he, fun op x y => ?_, fun op r hr => ?_⟩
  · unfold xisnil at h
    split at h
    all_goals first
      | (cases h; done)
      | (unfold eqGuard; simp only [XV.den]; cases op <;> rfl)
  · have hb : (do pure (.bool (← Op.equal t (u.den ρ γ) (v.den ρ γ))) : Sem Value).run P w = .ok (.bool false) w := by simp only [Sem.run_bind, he, Result.andThen_ok, Sem.run_pure]
    have hb2 : (do pure (.bool (!(← Op.equal t (u.den ρ γ) (v.den ρ γ)))) : Sem Value).run P w = .ok (.bool true) w := by simp only [Sem.run_bind, he, Result.andThen_ok, Sem.run_pure, Bool.not_false]
    unfold xisnil at h
    split at h
    all_goals first
      | (cases h; done)
      | (rcases hr with ⟨rfl, rfl⟩ | ⟨rfl, rfl⟩
         · exact hb
         · exact hb2)
theorem xlook_ok {v : XV} (h : xlook P F H o.op = some v) (hR : XR N w0 ρ γ F H a w) : (execOp a.eval o).run P w = .ok (.value (v.den ρ γ)) w ∧ v.ok (H.has γ) := by
  unfold xlook at h
  split at h
  · rename_i t x ix ok ho
    split at h
    · rename_i kt et k hu hk
      split at h
      · rename_i b hx
        split at h
        · rename_i es bs ck hb
          obtain ⟨g1, ms, g2, g3, _⟩ := hR.hp.bl b _ hb
          obtain ⟨m1, m2, m3⟩ := map_get g3
          obtain ⟨h1, _⟩ := hR.ev hx
          simp only [XV.den] at h1
          have hem : ms.isEmpty = es.isEmpty := by
            cases es <;> simp [Array.isEmpty, m2]
          split at h
          · rename_i u j hck hf
            have hckr := semPure_run w hck
            rw [← m1] at hf
            obtain ⟨_, f2⟩ := find_ok (w := w) hf
            obtain ⟨e, e1, e2⟩ := f2 j rfl
            split at h
            · rename_i p hp
              injection h with h
              subst h
              have hev := (m3 j e p e1 hp).2
              refine ⟨?_, xlookR_ok (g1 p (List.mem_of_getElem? hp))⟩
              simp only [execOp, ho, h1, hR.evp hk, Instr.lookup, Sem.run_bind, under_run hu, Result.andThen_ok, get_map g2, Sem.run_pure, hem, hckr, e2, hev, xlookR_den]
            · cases h
          · rename_i u hck hf
            have hckr := semPure_run w hck
            rw [← m1] at hf
            obtain ⟨f1, _⟩ := find_ok (w := w) hf
            split at h
            · rename_i z hz
              injection h with h
              subst h
              have hzr : (zeroValue et).run P w = .ok z w := by
                unfold zeroValue typeInfo
                cases hi : P.info? et with
                | none => rw [hi] at hz; cases hz
                | some i => rw [hi] at hz; simp only [Option.bind_some] at hz; simp [hi, hz]
              refine ⟨?_, xlookR_ok (xnorm_ok _ _)⟩
              simp only [execOp, ho, h1, hR.evp hk, Instr.lookup, Sem.run_bind, under_run hu, Result.andThen_ok, get_map g2, Sem.run_pure, hem, hckr, f1, hzr, xlookR_den, xnorm_den]
            · cases h
          · cases h
        · cases h
      · cases h
    · cases h
  · rename_i x t ho
    split at h
    · rename_i b k n c hx
      split at h
      · rename_i q he
        injection h with h
        subst h
        have h1 := (hR.ev hx).1
        simp only [XV.den] at h1
        exact ⟨by simp [execOp, ho, resolve, invoke, builtin, h1, XV.den, run_len (elemSz_spec (e := q.1) (sz := q.2) he).1], trivial⟩
      · cases h
    · rename_i b k n c hx
      split at h
      · rename_i q he
        injection h with h
        subst h
        have h1 := (hR.ev hx).1
        simp only [XV.den] at h1
        exact ⟨by simp [execOp, ho, resolve, invoke, builtin, h1, XV.den, run_len (elemSz_spec (e := q.1) (sz := q.2) he).1], trivial⟩
      · cases h
    · rename_i b k n c hx
      split at h
      · rename_i q he
        injection h with h
        subst h
        have h1 := (hR.ev hx).1
        simp only [XV.den] at h1
        exact ⟨by simp [execOp, ho, resolve, invoke, builtin, h1, XV.den, run_len (elemSz_spec (e := q.1) (sz := q.2) he).1], trivial⟩
      · cases h
    · rename_i b hx
      split at h
      · rename_i kt et es bs ck hu hb
        injection h with h
        subst h
        obtain ⟨g1, ms, g2, g3, _⟩ := hR.hp.bl b _ hb
        obtain ⟨m1, m2, m3⟩ := map_get g3
        have h1 := (hR.ev hx).1
        simp only [XV.den] at h1
        refine ⟨?_, trivial⟩
        simp [execOp, ho, resolve, invoke, builtin, h1, XV.den, Builtin.len_, under_run hu, get_map g2, m2, goInt]
      · cases h
    · cases h
  · rename_i x t ho
    split at h
    · rename_i b k n c hx
      split at h
      · rename_i q he
        injection h with h
        subst h
        have h1 := (hR.ev hx).1
        simp only [XV.den] at h1
        exact ⟨by simp [execOp, ho, resolve, invoke, builtin, h1, XV.den, Builtin.cap_, under_run (elemSz_spec (e := q.1) (sz := q.2) he).1, goInt], trivial⟩
      · cases h
    · cases h
  · rename_i t x y yt ho
    split at h
    · rename_i u v' hx hy
      split at h
      · rename_i f d hf hd
        split at h
        · rename_i hfd
          injection h with h
          subst h
          obtain ⟨_, e2, e3⟩ := xisnil_ok (ρ := ρ) (γ := γ) (w := w) hf hd hfd
          refine ⟨?_, trivial⟩
          simp only [execOp, ho, (hR.evn hx).1, (hR.evn hy).1, Sem.run_bind, e2, Result.andThen_ok, e3 .eql _ (.inl ⟨rfl, rfl⟩), Sem.run_pure, XV.den]
        · cases h
      · cases h
    · cases h
  · rename_i t x y yt ho
    split at h
    · rename_i u v' hx hy
      split at h
      · rename_i f d hf hd
        split at h
        · rename_i hfd
          injection h with h
          subst h
          obtain ⟨_, e2, e3⟩ := xisnil_ok (ρ := ρ) (γ := γ) (w := w) hf hd hfd
          refine ⟨?_, trivial⟩
          simp only [execOp, ho, (hR.evn hx).1, (hR.evn hy).1, Sem.run_bind, e2, Result.andThen_ok, e3 .neq _ (.inr ⟨rfl, rfl⟩), Sem.run_pure, XV.den]
        · cases h
      · cases h
    · cases h
  · rename_i t x ho
    split at h
    · rename_i b j hx
      obtain ⟨h1, h2⟩ := hR.ev hx
      obtain ⟨h3, h4⟩ := xload_ok hR.hp h
      refine ⟨?_, h4⟩
      simp only [XV.den] at h1
      simp only [execOp, ho, h1, Sem.run_bind, h3, Result.andThen_ok, Sem.run_pure]
    · cases h
  · cases h
theorem get_iter {b : Nat} {m : Option Nat} {s l : Nat} {se : Array Nat} (h : w.heap[b]? = some (.mapIter m s se l)) : (getObj b).run P w = .ok (.mapIter m s se l) w := by
  unfold getObj
  simp [Sem.run, h]
/-- The entry at which a walk through a map of one entry stands. -/
def xentry (F : XFr) (H : XHp) (op : Op) : Option XV := match op with
  | .entry it => (match xev F it with
    | some (.p b 0) => (match H.get b with
      | some (.iter m _ [q] last) => (match H.get m with
        | some (.map [p] [q'] ck) => bif Nat.beq q q' && Nat.beq ck last then some (.t [xnorm p.1, p.2]) else none
        | _ => none)
      | _ => none)
    | _ => none)
  | _ => none
theorem xentry_ok {v : XV} (h : xentry F H o.op = some v) (hR : XR N w0 ρ γ F H a w) : (execOp a.eval o).run P w = .ok (.value (v.den ρ γ)) w ∧ v.ok (H.has γ) := by
  unfold xentry at h
  split at h
  · rename_i it ho
    split at h
    · rename_i b hit
      split at h
      · rename_i m since q last hb
        split at h
        · rename_i p q' ck hm
          cases hc : (Nat.beq q q' && Nat.beq ck last) with
          | false => rw [hc] at h; cases h
          | true =>
            rw [hc] at h
            injection h with h
            subst h
            simp only [Bool.and_eq_true] at hc
            obtain rfl := Nat.eq_of_beq_eq_true hc.1
            obtain rfl := Nat.eq_of_beq_eq_true hc.2
            obtain ⟨q1, q2⟩ := hR.hp.bl b _ hb
            have q2' : w.heap[ρ b]? = some (.mapIter (some (ρ m)) since #[q] ck) := q2
            obtain ⟨g1, ms, g2, g3, g4⟩ := hR.hp.bl m _ hm
            obtain ⟨h1, h2⟩ := hR.ev hit
            simp only [XV.den] at h1
            obtain ⟨e, he⟩ : ∃ e, ms = #[e] := by
              have hl : ms.toList.length = 1 := by have := congrArg List.length g4; simpa using this
              match hms : ms.toList, hl with
              | [e], _ => exact ⟨e, by rw [← Array.toArray_toList (xs := ms), hms]⟩
            subst he
            simp only [List.map_cons, List.map_nil, List.cons.injEq, Prod.mk.injEq, and_true] at g3 g4
            obtain ⟨k1, k2⟩ := g3
            have hp2 : p.2.ok (H.has γ) := g1 p (by simp)
            refine ⟨?_, xnorm_ok _ _, hp2, trivial⟩
            simp only [execOp, ho, h1, Instr.entry, Sem.run_bind, get_iter q2', Result.andThen_ok, get_map g2]
            simp [get_map g2, g4, k1, k2, XV.den, XV.denL, xnorm_den]
        · cases h
      · cases h
    · cases h
  · cases h
/-- What an operation gives that only reads. -/
def xrd (P : Program) (F : XFr) (H : XHp) (o : Oper) : Option XV := match o.op with
  | .binOp op _ x y _ => (match xevp F x, xevp F y with
    | some (.int .i64 m), some (.int .i64 n) => (match xint op m n with
      | some v => some v
      | none => (match xpure P F o.op with
        | some u => some (xnorm u)
        | none => none))
    | some _, some _ => (match xpure P F o.op with
      | some u => some (xnorm u)
      | none => none)
    | _, _ => xlook P F H o.op)
  | .move _ => xbuild P F o.op
  | .assign _ => xbuild P F o.op
  | .pick _ _ _ => xbuild P F o.op
  | .build _ _ => xbuild P F o.op
  | .makeFunc _ _ _ => xbuild P F o.op
  | .extract _ _ => xbuild P F o.op
  | .load _ _ => xlook P F H o.op
  | .entry _ => xentry F H o.op
  | .lookup _ _ _ _ => xlook P F H o.op
  | .field _ _ _ => xfield P F o.op
  | .fieldAddr _ _ _ => xaddr P F o.op
  | .indexAddr _ _ _ => xaddr P F o.op
  | .nilCheck _ => xaddr P F o.op
  | .index _ _ _ => (match xfield P F o.op with
    | some v => some v
    | none => (match xpure P F o.op with
      | some u => some (xnorm u)
      | none => none))
  | .slice _ _ _ _ _ => (match xslice P F o.op with
    | some v => some v
    | none => (match xpure P F o.op with
      | some u => some (xnorm u)
      | none => none))
  | .unOp _ _ _ => (match xpure P F o.op with
    | some u => some (xnorm u)
    | none => none)
  | .convert _ _ _ => (match xpure P F o.op with
    | some u => some (xnorm u)
    | none => none)
  | .call ⟨.builtin _, _, _⟩ => (match xlook P F H o.op with
    | some v => some v
    | none => (match xpure P F o.op with
      | some u => some (xnorm u)
      | none => none))
  | _ => none
theorem xrd_ok {v : XV} (h : xrd P F H o = some v) (hR : XR N w0 ρ γ F H a w) : (execOp a.eval o).run P w = .ok (.value (v.den ρ γ)) w ∧ v.ok (H.has γ) := by
  have kp : ∀ {v : XV}, (match xpure P F o.op with
      | some u => some (xnorm u)
      | none => none) = some v → (execOp a.eval o).run P w = .ok (.value (v.den ρ γ)) w ∧ v.ok (H.has γ) := fun {v} h => by
    split at h
    · rename_i u hu
      injection h with h
      subst h
      exact ⟨by rw [xnorm_den]; exact xpure_ok hu hR, xnorm_ok _ _⟩
    · cases h
  unfold xrd at h
  split at h
  · rename_i op t x y yt ho
    split at h
    · rename_i m n hx hy
      split at h
      · rename_i v' hv
        injection h with h
        subst h
        exact xint_ok hv ho (hR.evp hx) (hR.evp hy)
      · exact kp h
    · exact kp h
    · exact xlook_ok h hR
  · exact xbuild_ok h hR
  · exact xbuild_ok h hR
  · exact xbuild_ok h hR
  · exact xbuild_ok h hR
  · exact xbuild_ok h hR
  · exact xbuild_ok h hR
  · exact xlook_ok h hR
  · exact xentry_ok h hR
  · exact xlook_ok h hR
  · exact xfield_ok h hR
  · exact xaddr_ok h hR
  · exact xaddr_ok h hR
  · exact xaddr_ok h hR
  · split at h
    · rename_i v' hv; injection h with h; subst h; exact xfield_ok hv hR
    · exact kp h
  · split at h
    · rename_i v' hv; injection h with h; subst h; exact xslice_ok hv hR
    · exact kp h
  · exact kp h
  · exact kp h
  · split at h
    · rename_i v' hv; injection h with h; subst h; exact xlook_ok hv hR
    · exact kp h
  · cases h
end
end Go.Proofs.YtdmeohgojdfmoaaGreatDoor

/- Closed calls: new blocks, blocks written. Conditions: none. -/
namespace Go.Proofs.YtdmeohgojdfmoaaGreatDoor
open Go Go.RowKit
set_option maxRecDepth 100000
def upd (f : Nat → Nat) (k v : Nat) : Nat → Nat := fun i => if i = k then v else f i
theorem upd_at (f : Nat → Nat) (k v : Nat) : upd f k v k = v := by simp [upd]
theorem upd_ne {f : Nat → Nat} {k v i : Nat} (h : i ≠ k) : upd f k v i = f i := by simp [upd, h]
/-- What was there is there, at its place, and as large. -/
def Agr (H : XHp) (ρ γ : Nat → Nat) (H' : XHp) (ρ' γ' : Nat → Nat) : Prop := ∀ b, (H.get b).isSome = true → (H'.get b).isSome = true ∧ ρ' b = ρ b ∧ γ' b = γ b
theorem Agr.refl (H : XHp) (ρ γ : Nat → Nat) : Agr H ρ γ H ρ γ := fun _ h => ⟨h, rfl, rfl⟩
theorem Agr.trans {H1 H2 H3 : XHp} {r1 g1 r2 g2 r3 g3 : Nat → Nat} (h : Agr H1 r1 g1 H2 r2 g2) (k : Agr H2 r2 g2 H3 r3 g3) : Agr H1 r1 g1 H3 r3 g3 := fun b hb => by
  obtain ⟨a1, a2, a3⟩ := h b hb
  obtain ⟨b1, b2, b3⟩ := k b a1
  exact ⟨b1, b2.trans a2, b3.trans a3⟩
section
variable {P : Program} {N : Nat} {w0 : XEnv} {ρ γ ρ' γ' : Nat → Nat} {F : XFr} {H H' : XHp} {a : Act} {w w' : World} {o : Oper}
theorem Agr.ok (h : Agr H ρ γ H' ρ' γ') {x : XV} (hx : x.ok (H.has γ)) : x.ok (H'.has γ') := XV.ok_mono (fun b m hb => ⟨(h b hb.1).1, by rw [(h b hb.1).2.2]; exact hb.2⟩) x hx
theorem Agr.den (h : Agr H ρ γ H' ρ' γ') {x : XV} (hx : x.ok (H.has γ)) : x.den ρ' γ' = x.den ρ γ := XV.den_same (A := H.has γ) (fun b m hb => (h b hb.1).2) x hx
/-- A frame behind other memory. -/
theorem XR.agr (h : XR N w0 ρ γ F H a w) (hA : Agr H ρ γ H' ρ' γ') (hp : XH w0 ρ' γ' H' w') : XR N w0 ρ' γ' F H' a w' :=
  ⟨h.df, h.sz, fun i x hx => by
    obtain ⟨h1, h2⟩ := h.fr i x hx
    exact ⟨by rw [hA.den h2]; exact h1, hA.ok h2⟩, hp⟩
theorem XB.ok_agr (h : Agr H ρ γ H' ρ' γ') {o : XB} (ho : o.ok (H.has γ)) : o.ok (H'.has γ') := by
  cases o with
  | cells e cs => rw [XB.ok, XV.okL_iff] at ho ⊢; exact fun x hx => h.ok (ho x hx)
  | grown e sz cs => rw [XB.ok, XV.okL_iff] at ho ⊢; exact fun x hx => h.ok (ho x hx)
  | map es bs ck => exact fun p hp => h.ok (ho p hp)
  | iter m s se l => exact ⟨(h m ho.1).1, Nat.zero_le _⟩
  | dead => trivial
/-- A block stays what it is. -/
theorem XOwn.keep {B g : Nat} {o : XB} (h : XOwn w ρ γ B g o) (ho : o.ok (H.has γ)) (hA : Agr H ρ γ H' ρ' γ') (hB : w'.heap[B]? = w.heap[B]?) : XOwn w' ρ' γ' B g o := by
  cases o with
  | cells e cs =>
    rw [XB.ok, XV.okL_iff] at ho
    obtain ⟨h1, h2⟩ := h
    refine ⟨?_, fun x hx => by rw [hA.den (ho x hx)]; exact h2 x hx⟩
    rw [hB, h1, List.map_congr_left fun x hx => (hA.den (ho x hx)).symm]
  | grown e sz cs =>
    rw [XB.ok, XV.okL_iff] at ho
    obtain ⟨arr, h1, h2, h3, h4, h5⟩ := h
    refine ⟨arr, by rw [hB]; exact h1, h2, h3, h4, fun i x hx => ?_⟩
    rw [hA.den (ho x (List.mem_of_getElem? hx))]
    exact h5 i x hx
  | map es bs ck =>
    obtain ⟨ms, h1, h2, h3⟩ := h
    refine ⟨ms, by rw [hB]; exact h1, ?_, h3⟩
    rw [h2]
    exact List.map_congr_left fun p hp => by rw [hA.den (ho p hp)]
  | iter m s se l =>
    have h' : w.heap[B]? = some (.mapIter (some (ρ m)) s se.toArray l) := h
    show w'.heap[B]? = _
    rw [hB, h', (hA m ho.1).2.1]
  | dead => trivial
/-- Where a new block goes: a number that is free. -/
def xnew (H : XHp) (k : Nat) (o : XB) : Option XHp := match H.get k with
  | none => bif Nat.blt k xcap then some (XT.set xdepth H k o) else none
  | some _ => none
theorem xnew_get {k : Nat} {o : XB} (h : xnew H k o = some H') : H.get k = none ∧ ∀ i, H'.get i = if i = k then some o else H.get i := by
  unfold xnew at h
  split at h
  · rename_i hk
    cases hc : Nat.blt k xcap with
    | false => rw [hc] at h; cases h
    | true =>
      rw [hc] at h
      injection h with h
      subst h
      rw [Nat.blt_eq] at hc
      exact ⟨hk, fun i => XT.get_set xdepth H k o i (by simp only [xcap, xdepth] at *; omega)⟩
  · cases h
theorem agr_new {k : Nat} {o : XB} (h : xnew H k o = some H') (B g : Nat) : Agr H ρ γ H' (upd ρ k B) (upd γ k g) := fun b hb => by
  obtain ⟨h1, h2⟩ := xnew_get h
  have hne : b ≠ k := fun e => by rw [e, h1] at hb; cases hb
  exact ⟨by rw [h2, if_neg hne]; exact hb, upd_ne hne, upd_ne hne⟩
/-- A new block, at an address that no live block has. -/
theorem XH.newAt (h : XH w0 ρ γ H w) {k B g : Nat} {o : XB} (hn : xnew H k o = some H') (hB : w0.w.heap.size ≤ B ∧ B < w'.heap.size) (hfr : ∀ i x, H.get i = some x → x.live = true → ρ i ≠ B) (hs : w.heap.size ≤ w'.heap.size) (hk : ∀ i x, H.get i = some x → x.live = true → w'.heap[ρ i]? = w.heap[ρ i]?) (hst : XBs w0 w') (hX : w0.X B = none)
    (ho : o.ok (H'.has (upd γ k g))) (how : XOwn w' (upd ρ k B) (upd γ k g) B g o) : XH w0 (upd ρ k B) (upd γ k g) H' w' := by
  obtain ⟨h1, h2⟩ := xnew_get hn
  have hA := agr_new (ρ := ρ) (γ := γ) hn B g
  have hcase : ∀ i x, H'.get i = some x → (i ≠ k ∧ H.get i = some x) ∨ (i = k ∧ x = o) := fun i x hi => by
    rw [h2] at hi
    split at hi
    · rename_i e; injection hi with hi; exact .inr ⟨e, hi.symm⟩
    · rename_i e; exact .inl ⟨e, hi⟩
  refine ⟨fun i j x y hx hy lx ly e => ?_, fun i x hx lx => ?_, fun i x hx lx => ?_, fun i x hx => ?_, hst⟩
  · rcases hcase i x hx with ⟨hi, g1⟩ | ⟨rfl, rfl⟩
    · rcases hcase j y hy with ⟨hj, g2⟩ | ⟨rfl, rfl⟩
      · rw [upd_ne hi, upd_ne hj] at e
        exact h.nd i j x y g1 g2 lx ly e
      · rw [upd_ne hi, upd_at] at e
        exact absurd e (hfr i x g1 lx)
    · rcases hcase j y hy with ⟨hj, g2⟩ | ⟨rfl, rfl⟩
      · rw [upd_ne hj, upd_at] at e
        exact absurd e.symm (hfr j y g2 ly)
      · rfl
  · rcases hcase i x hx with ⟨hi, g1⟩ | ⟨rfl, rfl⟩
    · rw [upd_ne hi]
      have := h.hi i x g1 lx
      exact ⟨this.1, by omega⟩
    · rw [upd_at]; exact hB
  · rcases hcase i x hx with ⟨hi, g1⟩ | ⟨rfl, rfl⟩
    · rw [upd_ne hi]; exact h.ap i x g1 lx
    · rw [upd_at]; exact hX
  · rcases hcase i x hx with ⟨hi, g1⟩ | ⟨rfl, rfl⟩
    · obtain ⟨g2, g3⟩ := h.bl i x g1
      refine ⟨XB.ok_agr hA g2, ?_⟩
      rw [upd_ne hi, upd_ne hi]
      cases hl : x.live with
      | false => cases x <;> first | trivial | (cases hl)
      | true => exact g3.keep g2 hA (hk i x g1 hl)
    · rw [upd_at, upd_at]
      exact ⟨ho, how⟩
theorem XH.new (h : XH w0 ρ γ H w) {k : Nat} {o : XB} {obj : Obj} (g : Nat) (hn : xnew H k o = some H') (ho : o.ok (H.has γ)) (how : XOwn (w.alloc obj) (upd ρ k w.heap.size) (upd γ k g) w.heap.size g o) : XH w0 (upd ρ k w.heap.size) (upd γ k g) H' (w.alloc obj) :=
  h.newAt hn ⟨h.st.size, by simp⟩ (fun i x hx lx e => by have := (h.hi i x hx lx).2; omega) (by simp) (fun i x hx lx => Below.heap_alloc w obj _ (h.hi i x hx lx).2) (h.st.alloc _) h.st.new (XB.ok_agr (agr_new (ρ := ρ) (γ := γ) hn w.heap.size g) ho) how
theorem putBlk_get {B C : Nat} {ob : Obj} : (putBlk w B ob).heap[C]? = if C = B ∧ B < w.heap.size then some ob else w.heap[C]? := by
  unfold putBlk
  simp only [Array.getElem?_setIfInBounds]
  by_cases h : B = C
  · subst h
    by_cases hb : B < w.heap.size
    · simp [hb]
    · simp [hb]
  · simp [h, Ne.symm h]
/-- A block that is written. -/
def xset (H : XHp) (b : Nat) (o : XB) : Option XHp := match H.get b with
  | some _ => bif Nat.blt b xcap then some (XT.set xdepth H b o) else none
  | none => none
theorem xset_get {b : Nat} {o : XB} (h : xset H b o = some H') : (H.get b).isSome = true ∧ ∀ i, H'.get i = if i = b then some o else H.get i := by
  unfold xset at h
  split at h
  · rename_i x hk
    cases hc : Nat.blt b xcap with
    | false => rw [hc] at h; cases h
    | true =>
      rw [hc] at h
      injection h with h
      subst h
      rw [Nat.blt_eq] at hc
      exact ⟨by rw [hk]; rfl, fun i => XT.get_set xdepth H b o i (by simp only [xcap, xdepth] at *; omega)⟩
  · cases h
theorem agr_set {b : Nat} {o : XB} (h : xset H b o = some H') : Agr H ρ γ H' ρ γ := fun c hc => by
  obtain ⟨h1, h2⟩ := xset_get h
  refine ⟨?_, rfl, rfl⟩
  rw [h2]
  split
  · rfl
  · exact hc
theorem XH.set {b : Nat} {x y : XB} (h : XH w0 ρ γ H w) (hb : H.get b = some x) (hx : x.live = true ∨ y.live = false) (hn : xset H b y = some H') (ho : y.ok (H.has γ)) (hs : w'.heap.size = w.heap.size) (hk : ∀ C, C < w.heap.size → (x.live = true → C ≠ ρ b) → w'.heap[C]? = w.heap[C]?) (hst : XBs w0 w') (how : XOwn w' ρ γ (ρ b) (γ b) y) : XH w0 ρ γ H' w' := by
  obtain ⟨h1, h2⟩ := xset_get hn
  have hA := agr_set (ρ := ρ) (γ := γ) hn
  have hcase : ∀ i z, H'.get i = some z → (i = b ∧ z = y) ∨ (i ≠ b ∧ H.get i = some z) := fun i z hi => by
    rw [h2] at hi
    split at hi
    · rename_i e; injection hi with hi; exact .inl ⟨e, hi.symm⟩
    · rename_i e; exact .inr ⟨e, hi⟩
  have hlive : y.live = true → x.live = true := fun hy => hx.resolve_right (by rw [hy]; simp)
  refine ⟨fun i j z z' hz hz' lz lz' e => ?_, fun i z hz lz => ?_, fun i z hz lz => ?_, fun i z hz => ?_, hst⟩
  · rcases hcase i z hz with ⟨rfl, rfl⟩ | ⟨hi, g1⟩
    · rcases hcase j z' hz' with ⟨rfl, rfl⟩ | ⟨hj, g2⟩
      · rfl
      · exact h.nd i j x z' hb g2 (hlive lz) lz' e
    · rcases hcase j z' hz' with ⟨rfl, rfl⟩ | ⟨hj, g2⟩
      · exact h.nd i j z x g1 hb lz (hlive lz') e
      · exact h.nd i j z z' g1 g2 lz lz' e
  · rw [hs]
    rcases hcase i z hz with ⟨rfl, rfl⟩ | ⟨hi, g1⟩
    · exact h.hi i x hb (hlive lz)
    · exact h.hi i z g1 lz
  · rcases hcase i z hz with ⟨rfl, rfl⟩ | ⟨hi, g1⟩
    · exact h.ap i x hb (hlive lz)
    · exact h.ap i z g1 lz
  · rcases hcase i z hz with ⟨rfl, rfl⟩ | ⟨hi, g1⟩
    · exact ⟨XB.ok_agr hA ho, how⟩
    · obtain ⟨g2, g3⟩ := h.bl i z g1
      refine ⟨XB.ok_agr hA g2, ?_⟩
      cases hl : z.live with
      | false => cases z <;> first | trivial | (cases hl)
      | true => exact g3.keep g2 hA (hk _ (h.hi i z g1 hl).2 (fun hxl e => hi (h.nd i b z x g1 hb hl hxl e)))
theorem XH.put {b : Nat} {x y : XB} {ob : Obj} (h : XH w0 ρ γ H w) (hb : H.get b = some x) (hx : x.live = true) (hn : xset H b y = some H') (ho : y.ok (H.has γ)) (how : XOwn (putBlk w (ρ b) ob) ρ γ (ρ b) (γ b) y) : XH w0 ρ γ H' (putBlk w (ρ b) ob) := by
  have hlo := (h.hi b x hb hx).1
  refine h.set hb (.inl hx) hn ho (by simp [putBlk]) (fun C _ hC => ?_) ?_ how
  · rw [putBlk_get, if_neg (fun e => hC hx e.1)]
  · have hst := h.st
    refine ⟨⟨hst.os, hst.tape, hst.output, by simpa [putBlk] using hst.size, fun i hi hn => ?_⟩, fun B ob hB => ?_⟩
    · rw [putBlk_get, if_neg (by rintro ⟨e, _⟩; omega)]
      exact hst.block i hi hn
    · rw [putBlk_get, if_neg (by rintro ⟨e, _⟩; rw [e, h.ap b x hb hx] at hB; cases hB)]
      exact hst.fx B ob hB
/-- What holds behind an operation, or behind more. -/
def XPost (N : Nat) (w0 : XEnv) (ρ γ : Nat → Nat) (H : XHp) (F2 : XFr) (H2 : XHp) : Act → World → Prop := fun a' w' => ∃ ρ' γ', XR N w0 ρ' γ' F2 H2 a' w' ∧ Agr H ρ γ H2 ρ' γ'
theorem XPost.trans {F1 F2 : XFr} {H1 H2 : XHp} {Q : Act → World → Prop} (h : XPost N w0 ρ γ H F1 H1 a w) (k : ∀ ρ1 γ1, XR N w0 ρ1 γ1 F1 H1 a w → Agr H ρ γ H1 ρ1 γ1 → Q a w) : Q a w := by
  obtain ⟨ρ1, γ1, h1, h2⟩ := h
  exact k ρ1 γ1 h1 h2
/-- An operation brings the state F, H to F2, H2. -/
def XE (P : Program) (N : Nat) (o : Oper) (F : XFr) (H : XHp) (F2 : XFr) (H2 : XHp) : Prop := ∀ w0 ρ γ a w, XR N w0 ρ γ F H a w → effO P o a w (XPost N w0 ρ γ H F2 H2)
end
end Go.Proofs.YtdmeohgojdfmoaaGreatDoor

/- Closed calls: operations that make memory: variables, boxes, slices, maps. Conditions: none. -/
namespace Go.Proofs.YtdmeohgojdfmoaaGreatDoor
open Go Go.RowKit
set_option maxRecDepth 100000
section
variable {P : Program} {N : Nat} {w0 : XEnv} {ρ γ : Nat → Nat} {F F' : XFr} {H H' : XHp} {a : Act} {w : World} {o : Oper}
/-- A new block of cells, whose address is given back in a value. -/
theorem xe_new {d k : Nat} {e : TypeId} {cs : List XV} {v : XV} (hd : o.dst = some d) (hF : xput N F d v = some F') (hn : xnew H k (.cells e cs) = some H') (hv : (∃ n c, v = .sl k 0 n c) ∨ v = .p k 0)
    (hrun : ∀ w0 ρ γ a w, XR N w0 ρ γ F H a w → (∀ x ∈ cs, (x.den ρ γ).oneCell' = true ∧ x.ok (H.has γ)) ∧ (execOp a.eval o).run P w = .ok (.value (v.den (upd ρ k w.heap.size) γ)) (w.alloc (.cells (cs.map (XV.den ρ γ)).toArray e))) : XE P N o F H F' H' := fun w0 ρ γ a w hR => by
  obtain ⟨h1, h2⟩ := hrun w0 ρ γ a w hR
  have hA := agr_new (ρ := ρ) (γ := γ) hn w.heap.size 0
  have hnew := hR.hp.new (obj := .cells (cs.map (XV.den ρ γ)).toArray e) 0 hn (by rw [XB.ok, XV.okL_iff]; exact fun x hx => (h1 x hx).2) ⟨by rw [heap_new, List.map_congr_left fun x hx => (hA.den (h1 x hx).2).symm], fun x hx => by rw [hA.den (h1 x hx).2]; exact (h1 x hx).1⟩
  unfold effO
  rw [h2]
  refine ⟨upd ρ k w.heap.size, upd γ k 0, ?_, hA⟩
  rw [hd]
  have hhas : (H'.get k).isSome = true := by rw [(xnew_get hn).2, if_pos rfl]; rfl
  have hok : v.ok (H'.has (upd γ k 0)) := by
    rcases hv with ⟨n, c, rfl⟩ | rfl
    · exact ⟨hhas, Nat.zero_le _⟩
    · exact ⟨hhas, Nat.zero_le _⟩
  have := (hR.agr hA hnew).put hF hok
  have he : v.den (upd ρ k w.heap.size) (upd γ k 0) = v.den (upd ρ k w.heap.size) γ := by
    rcases hv with ⟨n, c, rfl⟩ | rfl <;> rfl
  rw [he] at this
  exact this
def xalloc (P : Program) (N : Nat) (F : XFr) (H : XHp) (k : Nat) (o : Oper) : Option (XFr × XHp) := match o.dst with
  | none => none
  | some d => match o.op with
    | .alloc t => (match xzero P t with
      | some l => (match xput N F d (.p k 0), xnew H k (.cells t l) with
        | some F', some H' => some (F', H')
        | _, _ => none)
      | none => none)
    | .box t x => (match xevn F x with
      | some v => bif (xcl v).all XV.one then (match xput N F d (.p k 0), xnew H k (.cells t (xcl v)) with
        | some F', some H' => some (F', H')
        | _, _ => none) else none
      | none => none)
    | .buildSlice t n ps => (match elemSz P t with
      | some (e, sz) => (match xzero P e with
        | some z => bif Nat.ble (n * sz) 16777216 && Nat.beq z.length sz then (match xfill F (fun i => some (i * sz, sz)) ps.toList (List.replicate n z).flatten with
          | some l => (match xput N F d (.sl k 0 n n), xnew H k (.cells e l) with
            | some F', some H' => some (F', H')
            | _, _ => none)
          | none => none) else none
        | none => none)
      | none => none)
    | .makeSlice t x y => (match elemSz P t, xevp F x, xevp F y with
      | some (e, sz), some (.int _ (.ofNat l)), some (.int _ (.ofNat c)) => (match (P.info? e).map (·.bytes), xzero P e with
        | some by_, some z => bif Nat.ble l c && Nat.ble c 1000000 && Nat.ble by_ 1000 && Nat.beq z.length sz then (match xput N F d (.sl k 0 l c), xnew H k (.cells e (List.replicate c z).flatten) with
          | some F', some H' => some (F', H')
          | _, _ => none) else none
        | _, _ => none)
      | _, _, _ => none)
    | .makeMap t none => (match xput N F d (.m k), xnew H k (.map [] [] 0) with
      | some F', some H' => some (F', H')
      | _, _ => none)
    | _ => none
theorem flat_rep {α : Type} [Inhabited α] {z : List α} {sz : Nat} (hz : z.length = sz) : ∀ n : Nat, ((Array.range (n * sz)).map fun i => z.toArray[i % sz]!) = (List.replicate n z).flatten.toArray := fun n => by
  refine Array.ext_getElem? fun i => ?_
  have hl : (List.replicate n z).flatten.length = n * sz := by simp [hz]
  rcases Nat.lt_or_ge i (n * sz) with hi | hi
  · have hsz : 0 < sz := by
      rcases Nat.eq_zero_or_pos sz with h | h
      · subst h; simp at hi
      · exact h
    have hm : i % sz < sz := Nat.mod_lt _ hsz
    have key : ∀ (n i : Nat), i < n * sz → (List.replicate n z).flatten[i]? = z[i % sz]? := by
      intro n
      induction n with
      | zero => intro i hi; simp at hi
      | succ n ih =>
        intro i hi
        rw [List.replicate_succ, List.flatten_cons]
        rcases Nat.lt_or_ge i sz with h | h
        · rw [List.getElem?_append_left (by omega), Nat.mod_eq_of_lt h]
        · rw [List.getElem?_append_right (by omega), hz, ih (i - sz) (by rw [Nat.succ_mul] at hi; omega)]
          rw [Nat.mod_eq_sub_mod h]
    rw [Array.getElem?_map, Array.getElem?_range, if_pos hi, Option.map_some]
    have hq : (List.replicate n z).flatten.toArray[i]? = z[i % sz]? := by rw [List.getElem?_toArray]; exact key n i hi
    rw [hq]
    have hl2 : i % sz < z.length := by omega
    simp [hl2]
  · rw [Array.getElem?_eq_none (by simpa using hi), Array.getElem?_eq_none (by rw [List.size_toArray, hl]; exact hi)]
theorem den_rep {z : List XV} {n : Nat} {ρ γ : Nat → Nat} : ((List.replicate n z).flatten.map (XV.den ρ γ)) = (List.replicate n (z.map (XV.den ρ γ))).flatten := by
  rw [List.map_flatten, List.map_replicate]
theorem mem_rep {α : Type} {z : List α} {n : Nat} {x : α} (h : x ∈ (List.replicate n z).flatten) : x ∈ z := by
  obtain ⟨l, h1, h2⟩ := List.mem_flatten.1 h
  rw [(List.mem_replicate.1 h1).2] at h2
  exact h2
theorem xe_map {d k : Nat} (hd : o.dst = some d) (hF : xput N F d (.m k) = some F') (hn : xnew H k (.map [] [] 0) = some H') {t : TypeId} (ho : o.op = .makeMap t none) : XE P N o F H F' H' := fun w0 ρ γ a w hR => by
  have hA := agr_new (ρ := ρ) (γ := γ) hn w.heap.size 0
  have hnew := hR.hp.new (obj := .map #[] 0) 0 hn (by intro p hp; cases hp) ⟨#[], heap_alloc_new _ _, rfl, rfl⟩
  unfold effO
  have hex : (execOp a.eval o).run P w = .ok (.value (.map (some w.heap.size))) (w.alloc (.map #[] 0)) := by
    simp only [execOp, ho, Instr.makeMap, Option.map_none, Sem.run_bind, Sem.run_pure, Result.andThen_ok, run_newObj, World.alloc_eq]
  rw [hex]
  refine ⟨upd ρ k w.heap.size, upd γ k 0, ?_, hA⟩
  rw [hd]
  have hhas : (H'.get k).isSome = true := by rw [(xnew_get hn).2, if_pos rfl]; rfl
  have := (hR.agr hA hnew).put (x := .m k) hF ⟨hhas, Nat.zero_le _⟩
  rw [show (XV.m k).den (upd ρ k w.heap.size) (upd γ k 0) = .map (some w.heap.size) from by rw [XV.den, upd_at]] at this
  exact this
theorem xalloc_ok {k : Nat} (h : xalloc P N F H k o = some (F', H')) : XE P N o F H F' H' := by
  unfold xalloc at h
  split at h
  · cases h
  · rename_i d hd
    split at h
    · rename_i t ho
      split at h
      · rename_i l hl
        split at h
        · rename_i F1 H1 hF hn
          simp only [Option.some.injEq, Prod.mk.injEq] at h
          obtain ⟨rfl, rfl⟩ := h
          refine xe_new hd hF hn (.inr rfl) fun w0 ρ γ a w hR => ?_
          obtain ⟨z, h1, h2, h3, h4, _⟩ := xzero_run (w := w) (ρ := ρ) (γ := γ) (H := H) hl
          refine ⟨fun x hx => ⟨h4 x hx, h3 x hx⟩, ?_⟩
          simp only [execOp, ho, Instr.alloc, Sem.run_bind, h1, Result.andThen_ok, newVar, newRow, run_newObj, World.alloc_eq, Sem.run_pure, XV.den, upd_at, h2]
        · cases h
      · cases h
    · rename_i t x ho
      split at h
      · rename_i v hv
        cases hc : (xcl v).all XV.one with
        | false => rw [hc] at h; cases h
        | true =>
          rw [hc] at h
          simp only [cond_true] at h
          split at h
          · rename_i F1 H1 hF hn
            simp only [Option.some.injEq, Prod.mk.injEq] at h
            obtain ⟨rfl, rfl⟩ := h
            refine xe_new hd hF hn (.inr rfl) fun w0 ρ γ a w hR => ?_
            obtain ⟨g1, g2⟩ := hR.evn hv
            obtain ⟨h1, h2⟩ := xcl_spec (ρ := ρ) (γ := γ) hc
            refine ⟨fun x hx => ⟨h2 x hx, xcl_ok g2 x hx⟩, ?_⟩
            simp only [execOp, ho, Instr.box, Sem.run_bind, Result.andThen_ok, newVar, newRow, run_newObj, World.alloc_eq, Sem.run_pure, XV.den, upd_at, g1, h1]
          · cases h
      · cases h
    · rename_i t n ps ho
      split at h
      · rename_i e sz he
        split at h
        · rename_i z hz
          cases hc : (Nat.ble (n * sz) 16777216 && Nat.beq z.length sz) with
          | false => rw [hc] at h; cases h
          | true =>
            rw [hc] at h
            simp only [cond_true] at h
            simp only [Bool.and_eq_true, Nat.ble_eq] at hc
            obtain ⟨hc1, hc2⟩ := hc
            replace hc2 := Nat.eq_of_beq_eq_true hc2
            split at h
            · rename_i l hl
              split at h
              · rename_i F1 H1 hF hn
                simp only [Option.some.injEq, Prod.mk.injEq] at h
                obtain ⟨rfl, rfl⟩ := h
                refine xe_new hd hF hn (.inl ⟨n, n, rfl⟩) fun w0 ρ γ a w hR => ?_
                obtain ⟨hu, hs⟩ := elemSz_size he
                obtain ⟨zv, h1, h2, h3, h4, _⟩ := xzero_run (w := w) (ρ := ρ) (γ := γ) (H := H) hz
                obtain ⟨f1, f2, f3, _⟩ := xfill_run hR hl (fun x hx => h3 x (mem_rep hx)) (fun x hx => h4 x (mem_rep hx))
                refine ⟨fun x hx => ⟨f3 x hx, f2 x hx⟩, ?_⟩
                have hps : (ps.map fun (i, x) => (i, a.eval x)).toList = ps.toList.map fun x => (x.1, a.eval x.2) := by simp
                have hrep : ((Array.range (n * sz)).map fun i => zv.cells[i % zv.cells.size]!) = ((List.replicate n z).flatten.map (XV.den ρ γ)).toArray := by
                  rw [den_rep, h2, ← flat_rep (z := z.map (XV.den ρ γ)) (sz := sz) (by simpa using hc2) n]
                  simp [hc2]
                have hlim : ¬ (n * sz > 2 ^ 24) := by omega
                by_cases hz0 : n * sz = 0
                · have hrep0 : ((Array.range (n * sz)).map fun i => (#[] : Array Value)[i % (#[] : Array Value).size]!) = ((List.replicate n z).flatten.map (XV.den ρ γ)).toArray := by
                    rw [← hrep, hz0]; simp
                  simp only [execOp, ho, Instr.buildSlice, Sem.run_bind, under_run hu, Result.andThen_ok, size_run hs, hlim, if_false, if_pos hz0, Sem.run_pure, hps, hrep0, f1, newRow, run_newObj, World.alloc_eq, XV.den, upd_at]
                · simp only [execOp, ho, Instr.buildSlice, Sem.run_bind, under_run hu, Result.andThen_ok, size_run hs, hlim, if_false, if_neg hz0, h1, Sem.run_pure, hps, hrep, f1, newRow, run_newObj, World.alloc_eq, XV.den, upd_at]
              · cases h
            · cases h
        · cases h
      · cases h
    · rename_i t x y ho
      split at h
      · rename_i e sz kx l ky c he hx hy
        split at h
        · rename_i by_ z hby hz
          cases hc : (Nat.ble l c && Nat.ble c 1000000 && Nat.ble by_ 1000 && Nat.beq z.length sz) with
          | false => rw [hc] at h; cases h
          | true =>
            rw [hc] at h
            simp only [cond_true] at h
            simp only [Bool.and_eq_true, Nat.ble_eq] at hc
            obtain ⟨⟨⟨hc1, hc2⟩, hc3⟩, hc4⟩ := hc
            replace hc4 := Nat.eq_of_beq_eq_true hc4
            split at h
            · rename_i F1 H1 hF hn
              simp only [Option.some.injEq, Prod.mk.injEq] at h
              obtain ⟨rfl, rfl⟩ := h
              refine xe_new hd hF hn (.inl ⟨l, c, rfl⟩) fun w0 ρ γ a w hR => ?_
              obtain ⟨hu, i, hinf, hs⟩ := elemSz_spec he
              obtain ⟨zv, h1, h2, h3, h4, h5⟩ := xzero_run (w := w) (ρ := ρ) (γ := γ) (H := H) hz
              refine ⟨fun x hx => ⟨h4 x (mem_rep hx), h3 x (mem_rep hx)⟩, ?_⟩
              rw [hinf] at h5 hby
              simp only [Option.bind_some, Option.map_some, Option.some.injEq] at h5 hby
              have hbc : i.bytes * c ≤ 1000 * 1000000 := by rw [hby]; exact Nat.mul_le_mul hc3 hc2
              have hrun := run_make (P := P) w t e i zv hu hinf h5 kx ky l c (by omega) (by omega) (by rw [← Int.natCast_mul]; omega) (by omega)
              have hrep : madeCells zv.cells (c * sz) = ((List.replicate c z).flatten.map (XV.den ρ γ)).toArray := by
                rw [den_rep, h2, ← flat_rep (z := z.map (XV.den ρ γ)) (sz := sz) (by simpa using hc4) c]
                simp [madeCells, hc4]
              have e1 := hR.evp hx
              have e2 := hR.evp hy
              rw [Int.ofNat_eq_natCast] at e1 e2
              simp only [execOp, ho, e1, e2, Sem.run_bind, hrun, Result.andThen_ok, Sem.run_pure, Int.toNat_natCast, hs, hrep, XV.den, upd_at]
            · cases h
        · cases h
      · cases h
    · rename_i t ho
      split at h
      · rename_i F1 H1 hF hn
        simp only [Option.some.injEq, Prod.mk.injEq] at h
        obtain ⟨rfl, rfl⟩ := h
        exact xe_map hd hF hn ho
      · cases h
    · cases h
end
end Go.Proofs.YtdmeohgojdfmoaaGreatDoor

/- Closed calls: stores into cells, entries of maps. Conditions: none. -/
namespace Go.Proofs.YtdmeohgojdfmoaaGreatDoor
open Go Go.RowKit
set_option maxRecDepth 100000
def xpart2 (o : XB) (j : Nat) (xs : List XV) : Option XB := match o with
  | .cells e l => bif Nat.ble (j + xs.length) l.length then some (.cells e (putL l j xs)) else none
  | .grown e sz l => bif Nat.ble (j + xs.length) l.length then some (.grown e sz (putL l j xs)) else none
  | _ => none
/-- The entries of a map behind an update. -/
def setAt {α : Type} : List α → Nat → α → List α
  | [], _, _ => []
  | _ :: l, 0, y => y :: l
  | x :: l, i + 1, y => x :: setAt l i y
/-- Keys that are the same by their bits. -/
def xsame (a b : Value) : Bool := Instr.sameBits 10000 a b
def xstore (P : Program) (F : XFr) (H : XHp) (o : Oper) : Option XHp := match o.dst with
  | some _ => none
  | none => match o.op with
    | .store t x y => (match xev F x, xevn F y with
      | some (.p b j), some v => (match H.get b, (P.info? t).map (·.size) with
        | some ob, some n => bif Nat.beq (xcl v).length n && (xcl v).all XV.one then (match xpart2 ob j (xcl v) with
          | some ob' => xset H b ob'
          | none => none) else none
        | _, _ => none)
      | _, _ => none)
    | .mapUpdate t m k y => (match P.underlying t, xev F m, xevp F k, xevn F y with
      | some (.map kt _), some (.m b), some kv, some v => (match H.get b with
        | some (.map es bs ck) => (match semPure P (Instr.checkKey false 10000 kt kv), xfindIx P kt kv (es.map Prod.fst) with
          | some _, some (some j) => (match es[j]? with
            | some p => bif xsame p.1 kv then xset H b (.map (setAt es j (kv, v)) bs ck) else none
            | none => none)
          | some _, some none => xset H b (.map (es ++ [(kv, v)]) (bs ++ [ck]) (ck + 1))
          | _, _ => none)
        | _ => none)
      | _, _, _, _ => none)
    | _ => none
section
variable {P : Program} {N : Nat} {w0 : XEnv} {ρ γ : Nat → Nat} {F F' : XFr} {H H' : XHp} {a : Act} {w : World} {o : Oper}
/-- Cells written into a block, in the world. -/
theorem xown_store {b j : Nat} {x y : XB} {xs : List XV} (h : XH w0 ρ γ H w) (hb : H.get b = some x) (hp : xpart2 x j xs = some y) (hok : ∀ z ∈ xs, z.ok (H.has γ)) (h1 : ∀ z ∈ xs, (z.den ρ γ).oneCell' = true) :
    ∃ ob, (storeCells ⟨ρ b, j, none⟩ (xs.map (XV.den ρ γ))).run P w = .ok () (putBlk w (ρ b) ob) ∧ x.live = true ∧ y.ok (H.has γ) ∧ XOwn (putBlk w (ρ b) ob) ρ γ (ρ b) (γ b) y := by
  obtain ⟨hlt, how⟩ := h.bl b _ hb
  unfold xpart2 at hp
  split at hp
  · rename_i e l
    cases hc : Nat.ble (j + xs.length) l.length with
    | false => rw [hc] at hp; cases hp
    | true =>
      rw [hc] at hp
      injection hp with hp
      subst hp
      rw [Nat.ble_eq] at hc
      obtain ⟨hh, hb1⟩ := how
      have hrun := run_storeCells (P := P) (off := j) (xs.map (XV.den ρ γ)) 0 w _ hh (by simp; omega) (fun u hu => by
        obtain ⟨x, hx, rfl⟩ := List.mem_map.1 hu
        exact h1 x hx)
      rw [Nat.add_zero, setAll_putX (by omega)] at hrun
      rw [XB.ok, XV.okL_iff] at hlt
      refine ⟨_, hrun, rfl, ?_, ?_, fun z hz => ?_⟩
      · rw [XB.ok, XV.okL_iff]
        intro z hz
        exact (putX_mem hz).elim (hlt z) (hok z)
      · rw [putBlk_get, if_pos ⟨rfl, (h.hi b _ hb rfl).2⟩]
      · exact (putX_mem hz).elim (hb1 z) (h1 z)
  · rename_i e sz l
    cases hc : Nat.ble (j + xs.length) l.length with
    | false => rw [hc] at hp; cases hp
    | true =>
      rw [hc] at hp
      injection hp with hp
      subst hp
      rw [Nat.ble_eq] at hc
      obtain ⟨arr, hh, hsz, hmax, hle, hb1⟩ := how
      have hrun := run_storeCells (P := P) (off := j) (xs.map (XV.den ρ γ)) 0 w _ hh (by simp; omega) (fun u hu => by
        obtain ⟨x, hx, rfl⟩ := List.mem_map.1 hu
        exact h1 x hx)
      rw [Nat.add_zero] at hrun
      rw [XB.ok, XV.okL_iff] at hlt
      refine ⟨_, hrun, rfl, ?_, _, by rw [putBlk_get, if_pos ⟨rfl, (h.hi b _ hb rfl).2⟩], by rw [setAll_size 0]; exact hsz, hmax, by rw [setAll_size 0, putL_len (by omega)]; exact hle, fun i z hz => ?_⟩
      · rw [XB.ok, XV.okL_iff]
        intro z hz
        exact (putX_mem hz).elim (hlt z) (hok z)
      · rw [putL_get (by omega)] at hz
        rw [setAll_get _ _ _ _ (by simp; omega)]
        simp only [List.length_map]
        by_cases hc : j ≤ i ∧ i < j + xs.length
        · rw [if_pos hc] at hz ⊢
          rw [List.getElem?_map, hz]
          exact ⟨rfl, h1 z (List.mem_of_getElem? hz)⟩
        · rw [if_neg hc] at hz ⊢
          exact hb1 i z hz
  · cases hp
theorem setAt_get {α : Type} {y : α} : ∀ {l : List α} {i k : Nat}, (setAt l i y)[k]? = if k = i ∧ i < l.length then some y else l[k]?
  | [], i, k => by simp [setAt]
  | x :: l, 0, k => by
    cases k with
    | zero => simp [setAt]
    | succ k => simp [setAt]
  | x :: l, i + 1, k => by
    cases k with
    | zero => simp [setAt]
    | succ k => simp [setAt, setAt_get (l := l)]
theorem setAt_mem {α : Type} {x y : α} {l : List α} {i : Nat} (h : x ∈ setAt l i y) : x = y ∨ x ∈ l := by
  obtain ⟨k, hk⟩ := List.getElem?_of_mem h
  rw [setAt_get] at hk
  split at hk
  · injection hk with hk; exact .inl hk.symm
  · exact .inr (List.mem_of_getElem? hk)
theorem put_map {B : Nat} {ob : Obj} {ms : Array MapEntry} {ck : Nat} (h : w.heap[B]? = some (.map ms ck)) : (setObj B ob).run P w = .ok () (putBlk w B ob) := by
  unfold setObj
  simp [Sem.run, h, putBlk]
theorem map_put {b : Nat} {es es' : List (Value × XV)} {bs bs' : List Nat} {ck ck' : Nat} {ms' : Array MapEntry} (hR : XH w0 ρ γ H w) (hb : H.get b = some (.map es bs ck)) (hn : xset H b (.map es' bs' ck') = some H') (hok : ∀ p ∈ es', p.2.ok (H.has γ)) (hm : ms'.toList.map (fun m => (m.key, m.val)) = es'.map fun p => (p.1, p.2.den ρ γ)) (hbs : ms'.toList.map (·.born) = bs') : XH w0 ρ γ H' (putBlk w (ρ b) (.map ms' ck')) :=
  hR.put hb rfl hn hok ⟨ms', by rw [putBlk_get, if_pos ⟨rfl, (hR.hi b _ hb rfl).2⟩], hm, hbs⟩
theorem xstore_ok (h : xstore P F H o = some H') : XE P N o F H F H' := fun w0 ρ γ a w hR => by
  unfold xstore at h
  split at h
  · cases h
  · rename_i hd
    split at h
    · rename_i t x y ho
      split at h
      · rename_i b j v hx hy
        split at h
        · rename_i ob n hb hsz
          cases hc : (Nat.beq (xcl v).length n && (xcl v).all XV.one) with
          | false => rw [hc] at h; cases h
          | true =>
            rw [hc] at h
            simp only [cond_true] at h
            simp only [Bool.and_eq_true] at hc
            obtain ⟨hc1, hc2⟩ := hc
            replace hc1 := Nat.eq_of_beq_eq_true hc1
            split at h
            · rename_i ob' hp
              obtain ⟨g1, _⟩ := hR.ev hx
              obtain ⟨g3, g4⟩ := hR.evn hy
              simp only [XV.den] at g1
              obtain ⟨e1, e2⟩ := xcl_spec (ρ := ρ) (γ := γ) hc2
              obtain ⟨q, q1, q2, q3, q4⟩ := xown_store (P := P) hR.hp hb hp (xcl_ok g4) e2
              have hset := hR.hp.put hb q2 h q3 q4
              unfold effO
              have hex : (execOp a.eval o).run P w = .ok .skip (putBlk w (ρ b) q) := by
                simp only [execOp, ho, g1, g3, Instr.storeAt, Instr.sureAddr, storeVar, Sem.run_bind, Sem.run_pure, Result.andThen_ok, size_run hsz, e1, List.size_toArray, List.length_map, hc1, ne_eq, not_true_eq_false, if_false]
                rw [q1]
                rfl
              rw [hex]
              refine ⟨ρ, γ, ?_, agr_set h⟩
              rw [hd]
              exact hR.agr (agr_set h) hset
            · cases h
        · cases h
      · cases h
    · rename_i t m k y ho
      split at h
      · rename_i kt et b kv v hu hm hk hy
        split at h
        · rename_i es bs ck hb
          obtain ⟨g1, ms, g2, g3, g4⟩ := hR.hp.bl b _ hb
          obtain ⟨m1, m2, m3⟩ := map_get g3
          obtain ⟨hm1, _⟩ := hR.ev hm
          simp only [XV.den] at hm1
          obtain ⟨hy1, hy2⟩ := hR.evn hy
          split at h
          · rename_i u j hck hf
            have hckr := semPure_run w hck
            rw [← m1] at hf
            obtain ⟨_, f2⟩ := find_ok (w := w) hf
            obtain ⟨e, e1, e2⟩ := f2 j rfl
            split at h
            · rename_i p hp
              cases hs : xsame p.1 kv with
              | false => rw [hs] at h; cases h
              | true =>
                rw [hs] at h
                simp only [cond_true] at h
                have hkey := (m3 j e p e1 hp).1
                have hst : (Instr.keyThatStays (((ms[j]?).map (·.key)).getD kv) kv).run P w = .ok kv w := by
                  rw [← Array.getElem?_toList, e1, Option.map_some, Option.getD_some, hkey]
                  unfold Instr.keyThatStays
                  unfold xsame at hs
                  rw [if_pos hs]
                  rfl
                have hset := map_put (ms' := ms.modify j fun e => { e with key := kv, val := v.den ρ γ }) hR.hp hb h (fun p hp => by
                  rcases setAt_mem hp with rfl | hp
                  · exact hy2
                  · exact g1 p hp) (by
                  refine List.ext_getElem? fun i => ?_
                  have hg3 := congrArg (fun l : List (Value × Value) => l[i]?) g3
                  simp only [List.getElem?_map, Array.getElem?_toList] at hg3
                  simp only [List.getElem?_map, Array.getElem?_toList, Array.getElem?_modify, setAt_get]
                  have hjl : j < es.length := (List.getElem?_eq_some_iff.1 hp).1
                  by_cases hij : j = i
                  · subst hij
                    rw [if_pos rfl, if_pos ⟨rfl, hjl⟩]
                    rw [Array.getElem?_toList] at e1
                    rw [e1]
                    rfl
                  · rw [if_neg hij, if_neg (fun e => hij e.1.symm)]
                    exact hg3) (by
                  rw [← g4]
                  refine List.ext_getElem? fun i => ?_
                  simp only [List.getElem?_map, Array.getElem?_toList, Array.getElem?_modify]
                  by_cases hij : j = i
                  · rw [if_pos hij]; cases ms[i]? <;> rfl
                  · rw [if_neg hij])
                unfold effO
                have hex : (execOp a.eval o).run P w = .ok .skip (putBlk w (ρ b) (.map (ms.modify j fun e => { e with key := kv, val := v.den ρ γ }) ck)) := by
                  simp only [execOp, ho, hm1, hy1, hR.evp hk, Instr.mapUpdate, Sem.run_bind, under_run hu, Result.andThen_ok, get_map g2, hckr, e2, hst, put_map g2, Sem.run_pure]
                rw [hex]
                refine ⟨ρ, γ, ?_, agr_set h⟩
                rw [hd]
                exact hR.agr (agr_set h) hset
            · cases h
          · rename_i u hck hf
            have hckr := semPure_run w hck
            rw [← m1] at hf
            obtain ⟨f1, _⟩ := find_ok (w := w) hf
            have hset := map_put (ms' := ms.push { key := kv, val := v.den ρ γ, born := ck }) hR.hp hb h (fun p hp => by
              rcases List.mem_append.1 hp with hp | hp
              · exact g1 p hp
              · rw [List.mem_singleton.1 hp]; exact hy2) (by simp [g3]) (by simp [g4])
            unfold effO
            have hex : (execOp a.eval o).run P w = .ok .skip (putBlk w (ρ b) (.map (ms.push { key := kv, val := v.den ρ γ, born := ck }) (ck + 1))) := by
              simp only [execOp, ho, hm1, hy1, hR.evp hk, Instr.mapUpdate, Sem.run_bind, under_run hu, Result.andThen_ok, get_map g2, hckr, f1, put_map g2, Sem.run_pure]
            rw [hex]
            refine ⟨ρ, γ, ?_, agr_set h⟩
            rw [hd]
            exact hR.agr (agr_set h) hset
          · cases h
        · cases h
      · cases h
    · cases h
end
end Go.Proofs.YtdmeohgojdfmoaaGreatDoor
