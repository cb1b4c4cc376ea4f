/- Closed calls: inside a fence: lists of operations, a loop's yield. Conditions: none. -/
import Derived.Test.YtcdeonjdipcgpaaGreatDoorQal
import Derived.LoopN
import Derived.Scope
import Derived.LoopNIn
import Derived.TacticsIn
import Derived.RangeFuncLeaves
import Derived.RangeFuncCalls
set_option linter.unusedSimpArgs false
set_option linter.unusedVariables false
namespace Go.Proofs.YtcdeonjdipcgpaaGreatDoor
section
open Go Go.RowKit
set_option maxRecDepth 100000
inductive XT (α : Type) where
 | nil
 | node (l : XT α) (v : Option α) (r : XT α)
def XT.get {α : Type} : XT α → Nat → Option α
 | .nil, _ => none
 | .node l v r, k => match k with
  | 0 => v
  | k + 1 => match Nat.mod k 2 with
   | 0 => l.get (Nat.div k 2)
   | _ + 1 => r.get (Nat.div k 2)
def XT.set {α : Type} : Nat → XT α → Nat → α → XT α
 | 0, t, _, _ => t
 | n + 1, .nil, k, x => (match k with
  | 0 => .node .nil (some x) .nil
  | k + 1 => match Nat.mod k 2 with
   | 0 => .node (XT.set n .nil (Nat.div k 2) x) none .nil
   | _ + 1 => .node .nil none (XT.set n .nil (Nat.div k 2) x))
 | n + 1, .node l v r, k, x => (match k with
  | 0 => .node l (some x) r
  | k + 1 => match Nat.mod k 2 with
   | 0 => .node (XT.set n l (Nat.div k 2) x) v r
   | _ + 1 => .node l v (XT.set n r (Nat.div k 2) x))
theorem XT.get_set {α : Type} : ∀ (n : Nat) (t : XT α) (k : Nat) (x : α) (j : Nat), k + 1 < 2 ^ n → (XT.set n t k x).get j = if j = k then some x else t.get j
 | 0, t, k, x, j, h => by omega
 | n + 1, t, k, x, j, h => by
  have key : ∀ (l r : XT α) (v : Option α), (XT.set (n + 1) (.node l v r) k x).get j = if j = k then some x else (XT.node l v r).get j := fun l r v => by
   cases k with
   | zero =>
    cases j with
    | zero => rfl
    | succ j => simp [XT.set, XT.get]
   | succ k =>
    have hk : Nat.div k 2 + 1 < 2 ^ n := by
     have : (2 : Nat) ^ (n + 1) = 2 * 2 ^ n := by rw [Nat.pow_succ, Nat.mul_comm]
     have h2 : Nat.div k 2 = k / 2 := rfl
     omega
    have hm : Nat.mod k 2 = k % 2 := rfl
    cases j with
    | zero =>
     have h0 : ¬ (0 = k + 1) := by omega
     unfold XT.set
     simp only
     split <;> simp [XT.get]
    | succ j =>
     have hd : ∀ a : Nat, Nat.div a 2 = a / 2 := fun _ => rfl
     have hmj : ∀ a : Nat, Nat.mod a 2 = a % 2 := fun _ => rfl
     rcases Nat.mod_two_eq_zero_or_one k with h1 | h1 <;> rcases Nat.mod_two_eq_zero_or_one j with h2 | h2
     ·have ih := XT.get_set n l (Nat.div k 2) x (Nat.div j 2) hk
      have e1 : XT.set (n + 1) (.node l v r) (k + 1) x = .node (XT.set n l (Nat.div k 2) x) v r := by rw [XT.set]; simp only [hmj, h1]
      rw [e1, XT.get, XT.get]
      simp only [hmj, h2]
      rw [ih]
      simp only [hd]
      by_cases he : j = k
      ·subst he; simp
      ·rw [if_neg (by omega), if_neg (by omega)]
     ·have e1 : XT.set (n + 1) (.node l v r) (k + 1) x = .node (XT.set n l (Nat.div k 2) x) v r := by rw [XT.set]; simp only [hmj, h1]
      rw [e1, XT.get, XT.get]
      simp only [hmj, h2]
      rw [if_neg (by omega)]
     ·have e1 : XT.set (n + 1) (.node l v r) (k + 1) x = .node l v (XT.set n r (Nat.div k 2) x) := by rw [XT.set]; simp only [hmj, h1]
      rw [e1, XT.get, XT.get]
      simp only [hmj, h2]
      rw [if_neg (by omega)]
     ·have ih := XT.get_set n r (Nat.div k 2) x (Nat.div j 2) hk
      have e1 : XT.set (n + 1) (.node l v r) (k + 1) x = .node l v (XT.set n r (Nat.div k 2) x) := by rw [XT.set]; simp only [hmj, h1]
      rw [e1, XT.get, XT.get]
      simp only [hmj, h2]
      rw [ih]
      simp only [hd]
      by_cases he : j = k
      ·subst he; simp
      ·rw [if_neg (by omega), if_neg (by omega)]
  cases t with
  | node l v r => exact key l r v
  | nil =>
   have e : XT.set (n + 1) (.nil : XT α) k x = XT.set (n + 1) (.node .nil none .nil) k x := by
    unfold XT.set
    cases k with
    | zero => rfl
    | succ k => rfl
   rw [e, key .nil .nil none]
   split
   ·rfl
   ·cases j with
    | zero => rfl
    | succ j => simp only [XT.get]; split <;> rfl
def xdepth : Nat := 20
def xcap : Nat := 1048575
inductive XV where
 | v (x : Value)
 | p (b j : Nat)
 | sl (b k n c : Nat)
 | sg (b k n e : Nat)
 | se (b k q e : Nat)
 | m (b : Nat)
 | a (l : List XV)
 | t (l : List XV)
 | f (fn : FuncId) (caps : List XV)
 | yl (b : Nat)
inductive XB where
 | cells (e : TypeId) (cs : List XV)
 | grown (e : TypeId) (sz : Nat) (cs : List XV)
 | map (es : List (Value × XV)) (bs : List Nat) (ck : Nat)
 | iter (m since : Nat) (seen : List Nat) (last : Nat)
 | dead
mutual
def XV.den (ρ γ : Nat → Nat) : XV → Value
 | .v x => x
 | .p b j => .pointer (some ⟨ρ b, j, none⟩)
 | .sl b k n c => .slice (some ⟨ρ b, k, none⟩) n c
 | .sg b k n e => .slice (some ⟨ρ b, k, none⟩) n (γ b - e)
 | .se b k q e => .slice (some ⟨ρ b, if γ b = e then k else q, none⟩) 0 (γ b - e)
 | .m b => .map (some (ρ b))
 | .a l => .agg (XV.denL ρ γ l).toArray
 | .t l => .tuple (XV.denL ρ γ l).toArray
 | .f fn caps => .func (.func fn) #[] (XV.denL ρ γ caps).toArray
 | .yl b => .func (.yield (ρ b)) #[] #[]
def XV.denL (ρ γ : Nat → Nat) : List XV → List Value
 | [] => []
 | x :: l => x.den ρ γ :: XV.denL ρ γ l
end
theorem XV.denL_eq (ρ γ : Nat → Nat) : ∀ l, XV.denL ρ γ l = l.map (XV.den ρ γ)
 | [] => rfl
 | x :: l => by rw [XV.denL, XV.denL_eq ρ γ l]; rfl
mutual
/-- All blocks that are named are there, with room enough. -/
def XV.ok (A : Nat → Nat → Prop) : XV → Prop
 | .v _ => True
 | .p b _ => A b 0
 | .sl b _ _ _ => A b 0
 | .sg b _ n e => A b (n + e)
 | .se b _ _ e => A b e
 | .m b => A b 0
 | .a l => XV.okL A l
 | .t l => XV.okL A l
 | .f _ l => XV.okL A l
 | .yl b => A b 0
def XV.okL (A : Nat → Nat → Prop) : List XV → Prop
 | [] => True
 | x :: l => x.ok A ∧ XV.okL A l
end
theorem XV.okL_iff {A : Nat → Nat → Prop} : ∀ {l : List XV}, XV.okL A l ↔ ∀ x ∈ l, x.ok A
 | [] => by simp [XV.okL]
 | x :: l => by simp [XV.okL, XV.okL_iff (l := l)]
theorem XV.induct {Pr : XV → Prop} (hv : ∀ x, Pr (.v x)) (hp : ∀ b j, Pr (.p b j)) (hs : ∀ b k n c, Pr (.sl b k n c)) (hg : ∀ b k n e, Pr (.sg b k n e)) (he : ∀ b k q e, Pr (.se b k q e)) (hm : ∀ b, Pr (.m b)) (ha : ∀ l, (∀ x ∈ l, Pr x) → Pr (.a l)) (ht : ∀ l, (∀ x ∈ l, Pr x) → Pr (.t l)) (hf : ∀ fn l, (∀ x ∈ l, Pr x) → Pr (.f fn l)) (hy : ∀ b, Pr (.yl b)) : ∀ x, Pr x := by
 intro x
 refine XV.rec (motive_1 := Pr) (motive_2 := fun l => ∀ x ∈ l, Pr x) hv hp hs hg he hm (fun l h => ha l h) (fun l h => ht l h) (fun fn l h => hf fn l h) hy (fun x h => by cases h) (fun x l h1 h2 y hy => ?_) x
 rcases List.mem_cons.1 hy with rfl | hy
 ·exact h1
 ·exact h2 y hy
theorem XV.den_same {ρ γ ρ' γ' : Nat → Nat} {A : Nat → Nat → Prop} (h : ∀ b m, A b m → ρ' b = ρ b ∧ γ' b = γ b) (x : XV) : x.ok A → x.den ρ' γ' = x.den ρ γ := by
 refine XV.induct (Pr := fun x => x.ok A → x.den ρ' γ' = x.den ρ γ) ?_ ?_ ?_ ?_ ?_ ?_ ?_ ?_ ?_ ?_ x
 ·intro x _; rfl
 ·intro b j hb; simp only [XV.den, (h _ _ hb).1]
 ·intro b k m c hb; simp only [XV.den, (h _ _ hb).1]
 ·intro b k m e hb; simp only [XV.den, (h _ _ hb).1, (h _ _ hb).2]
 ·intro b k q e hb; simp only [XV.den, (h _ _ hb).1, (h _ _ hb).2]
 ·intro b hb; simp only [XV.den, (h _ _ hb).1]
 ·intro l ih hl; rw [XV.ok, XV.okL_iff] at hl; simp only [XV.den, XV.denL_eq]; rw [List.map_congr_left fun x hx => ih x hx (hl x hx)]
 ·intro l ih hl; rw [XV.ok, XV.okL_iff] at hl; simp only [XV.den, XV.denL_eq]; rw [List.map_congr_left fun x hx => ih x hx (hl x hx)]
 ·intro fn l ih hl; rw [XV.ok, XV.okL_iff] at hl; simp only [XV.den, XV.denL_eq]; rw [List.map_congr_left fun x hx => ih x hx (hl x hx)]
 ·intro b hb; simp only [XV.den, (h _ _ hb).1]
theorem XV.ok_mono {A B : Nat → Nat → Prop} (h : ∀ b m, A b m → B b m) (x : XV) : x.ok A → x.ok B := by
 refine XV.induct (Pr := fun x => x.ok A → x.ok B) ?_ ?_ ?_ ?_ ?_ ?_ ?_ ?_ ?_ ?_ x
 ·intro x _; trivial
 ·intro b j hb; exact h _ _ hb
 ·intro b k m c hb; exact h _ _ hb
 ·intro b k m e hb; exact h _ _ hb
 ·intro b k q e hb; exact h _ _ hb
 ·intro b hb; exact h _ _ hb
 ·intro l ih hl; rw [XV.ok, XV.okL_iff] at hl ⊢; exact fun x hx => ih x hx (hl x hx)
 ·intro l ih hl; rw [XV.ok, XV.okL_iff] at hl ⊢; exact fun x hx => ih x hx (hl x hx)
 ·intro fn l ih hl; rw [XV.ok, XV.okL_iff] at hl ⊢; exact fun x hx => ih x hx (hl x hx)
 ·intro b hb; exact h _ _ hb
def XOwn (w : World) (ρ γ : Nat → Nat) (B g : Nat) : XB → Prop
 | .cells e cs => w.heap[B]? = some (.cells (cs.map (XV.den ρ γ)).toArray e (0, 0)) ∧ ∀ x ∈ cs, (x.den ρ γ).oneCell' = true
 | .grown e sz cs => ∃ arr, w.heap[B]? = some (.cells arr e (0, 0)) ∧ arr.size = g * sz ∧ g ≤ maxLen ∧ cs.length ≤ arr.size ∧ ∀ (i : Nat) (x : XV), cs[i]? = some x → arr[i]? = some (x.den ρ γ) ∧ (x.den ρ γ).oneCell' = true
 | .map es bs ck => ∃ ms, w.heap[B]? = some (.map ms ck) ∧ ms.toList.map (fun m => (m.key, m.val)) = es.map (fun p => (p.1, p.2.den ρ γ)) ∧ ms.toList.map (·.born) = bs
 | .iter m since seen last => w.heap[B]? = some (.mapIter (some (ρ m)) since seen.toArray last)
 | .dead => True
def XB.ok (A : Nat → Nat → Prop) : XB → Prop
 | .cells _ cs => XV.okL A cs
 | .grown _ _ cs => XV.okL A cs
 | .map es _ _ => ∀ p ∈ es, p.2.ok A
 | .iter m _ _ _ => A m 0
 | .dead => True
def XB.live : XB → Bool
 | .dead => false
 | _ => true
abbrev XHp := XT XB
abbrev XFr := XT XV
def XT.has {α : Type} (t : XT α) (γ : Nat → Nat) (b m : Nat) : Prop := (t.get b).isSome = true ∧ m ≤ γ b
structure XEnv where
 w : World
 X : Nat → Option Obj
 own : List Nat
structure XBs (E : XEnv) (w' : World) : Prop extends Stp E.w w' (fun _ => False) where
 fx : ∀ B ob, E.X B = some ob → w'.heap[B]? = some ob
theorem XBs.lt {E : XEnv} {w' : World} (h : XBs E w') {B : Nat} {ob : Obj} (hB : E.X B = some ob) : B < w'.heap.size := (Array.getElem?_eq_some_iff.1 (h.fx B ob hB)).1
theorem XBs.new {E : XEnv} {w' : World} (h : XBs E w') : E.X w'.heap.size = none := by
 cases hX : E.X w'.heap.size with
 | none => rfl
 | some ob => exact absurd (h.lt hX) (Nat.lt_irrefl _)
theorem XBs.alloc {E : XEnv} {w' : World} (h : XBs E w') (o : Obj) : XBs E (w'.alloc o) := ⟨h.toStp.alloc o, fun B ob hB => (Below.heap_alloc w' o B (h.lt hB)).trans (h.fx B ob hB)⟩
theorem XBs.drew {E : XEnv} {w' : World} (h : XBs E w') : XBs E w'.drew := ⟨h.toStp.drew, h.fx⟩
structure XH (w0 : XEnv) (ρ γ : Nat → Nat) (H : XHp) (w : World) : Prop where
 nd : ∀ i j o o', H.get i = some o → H.get j = some o' → o.live = true → o'.live = true → ρ i = ρ j → i = j
 hi : ∀ i o, H.get i = some o → o.live = true → w0.w.heap.size ≤ ρ i ∧ ρ i < w.heap.size
 ap : ∀ i o, H.get i = some o → o.live = true → w0.X (ρ i) = none
 bl : ∀ i o, H.get i = some o → o.ok (H.has γ) ∧ XOwn w ρ γ (ρ i) (γ i) o
 st : XBs w0 w
structure XR (N : Nat) (w0 : XEnv) (ρ γ : Nat → Nat) (F : XFr) (H : XHp) (a : Act) (w : World) : Prop where
 df : a.defers = w0.own.map (fun D => ⟨.collected D, #[]⟩) ∧ w0.own.Nodup ∧ ∀ D ∈ w0.own, w0.X D = some (.deferred (some [])) ∧ w0.w.heap.size ≤ D
 sz : N ≤ a.tmps.size
 fr : ∀ i x, F.get i = some x → a.tmps[i]? = some (x.den ρ γ) ∧ x.ok (H.has γ)
 hp : XH w0 ρ γ H w
def xev (F : XFr) : Operand → Option XV
 | .tmp t => F.get t
 | .const v => some (.v v)
 | .func f => some (.f f [])
 | .global _ => none
section
variable {N : Nat} {w0 : XEnv} {ρ γ : Nat → Nat} {F : XFr} {H : XHp} {a : Act} {w : World}
theorem XR.ev {x : Operand} {v : XV} (h : XR N w0 ρ γ F H a w) (hx : xev F x = some v) : a.eval x = v.den ρ γ ∧ v.ok (H.has γ) := by
 cases x with
 | tmp t =>
  obtain ⟨h1, h2⟩ := h.fr t v hx
  exact ⟨by rw [Act.eval, Array.getD_eq_getD_getElem?, h1]; rfl, h2⟩
 | const c =>
  simp only [xev, Option.some.injEq] at hx
  subst hx
  exact ⟨rfl, trivial⟩
 | func f =>
  simp only [xev, Option.some.injEq] at hx
  subst hx
  exact ⟨rfl, trivial⟩
 | global g => cases hx
def xput (N : Nat) (F : XFr) (d : Nat) (x : XV) : Option XFr := bif Nat.blt d N && Nat.blt d xcap then some (XT.set xdepth F d x) else none
theorem xput_get {F' : XFr} {d : Nat} {x : XV} (h : xput N F d x = some F') : d < N ∧ ∀ i, F'.get i = if i = d then some x else F.get i := by
 unfold xput at h
 cases hc : (Nat.blt d N && Nat.blt d xcap) with
 | false => rw [hc] at h; cases h
 | true =>
  rw [hc] at h
  injection h with h
  subst h
  simp only [Bool.and_eq_true, Nat.blt_eq] at hc
  exact ⟨hc.1, fun i => XT.get_set xdepth F d x i (by have := hc.2; simp only [xcap, xdepth] at *; omega)⟩
theorem XR.put {F' : XFr} {d : Nat} {x : XV} (h : XR N w0 ρ γ F H a w) (hp : xput N F d x = some F') (hx : x.ok (H.has γ)) : XR N w0 ρ γ F' H (a.put (some d) (x.den ρ γ)) w := by
 obtain ⟨hd, hg⟩ := xput_get hp
 refine ⟨h.df, by simpa [Act.put] using h.sz, fun i y hy => ?_, h.hp⟩
 rw [hg] at hy
 by_cases hi : i = d
 ·subst hi
  rw [if_pos rfl] at hy
  injection hy with hy
  subst hy
  have := h.sz
  exact ⟨by simp [Act.put, Array.getElem?_setIfInBounds]; omega, hx⟩
 ·rw [if_neg hi] at hy
  obtain ⟨h1, h2⟩ := h.fr i y hy
  exact ⟨by simp only [Act.put]; rw [Array.getElem?_setIfInBounds_ne (Ne.symm hi)]; exact h1, h2⟩
end
end
section
open Go Go.RowKit
set_option maxRecDepth 100000
def xcell (H : XHp) (b j : Nat) : Option XV := match H.get b with
 | some (.cells _ cs) => cs[j]?
 | some (.grown _ _ cs) => cs[j]?
 | _ => none
section
variable {P : Program} {N : Nat} {w0 : XEnv} {ρ γ : Nat → Nat} {F : XFr} {H : XHp} {a : Act} {w : World} {o : Oper}
theorem XH.cell (h : XH w0 ρ γ H w) {b j : Nat} {x : XV} (hx : xcell H b j = some x) : w.cell? ⟨ρ b, j, none⟩ = some (x.den ρ γ) ∧ x.ok (H.has γ) ∧ (x.den ρ γ).oneCell' = true := by
 unfold xcell at hx
 split at hx
 ·rename_i e cs hb
  obtain ⟨h1, h2, h3⟩ := h.bl b _ hb
  rw [XB.ok, XV.okL_iff] at h1
  refine ⟨?_, h1 x (List.mem_of_getElem? hx), h3 x (List.mem_of_getElem? hx)⟩
  unfold World.cell?
  rw [h2]; simp [List.getElem?_map, hx]
 ·rename_i e sz cs hb
  obtain ⟨h1, arr, h2, h3, h4, h5, h6⟩ := h.bl b _ hb
  rw [XB.ok, XV.okL_iff] at h1
  obtain ⟨h7, h8⟩ := h6 j x hx
  refine ⟨?_, h1 x (List.mem_of_getElem? hx), h8⟩
  unfold World.cell?
  rw [h2]
  simp [h7]
 ·cases hx
end
end
section
open Go Go.RowKit
set_option maxRecDepth 100000
section
variable {P : Program} {N : Nat} {w0 : XEnv} {ρ γ : Nat → Nat} {F : XFr} {H : XHp} {a : Act} {w : World} {o : Oper}
end
end
section
open Go Go.RowKit
set_option maxRecDepth 100000
section
variable {P : Program} {N : Nat} {w0 : XEnv} {ρ γ : Nat → Nat} {F : XFr} {H : XHp} {a : Act} {w : World} {o : Oper}
end
end
section
open Go Go.RowKit
set_option maxRecDepth 100000
def XV.one : XV → Bool
 | .v x => x.oneCell'
 | .a _ => false
 | .t _ => false
 | _ => true
section
variable {P : Program} {N : Nat} {w0 : XEnv} {ρ γ : Nat → Nat} {F : XFr} {H : XHp} {a : Act} {w : World} {o : Oper}
end
end
section
open Go Go.RowKit
set_option maxRecDepth 100000
section
variable {P : Program} {N : Nat} {w0 : XEnv} {ρ γ : Nat → Nat} {F : XFr} {H : XHp} {a : Act} {w : World} {o : Oper}
end
end
section
open Go Go.RowKit
set_option maxRecDepth 100000
section
variable {P : Program} {N : Nat} {w0 : XEnv} {ρ γ : Nat → Nat} {F : XFr} {H : XHp} {a : Act} {w : World} {o : Oper}
end
end
section
open Go Go.RowKit
set_option maxRecDepth 100000
def upd (f : Nat → Nat) (k v : Nat) : Nat → Nat := fun i => if i = k then v else f i
theorem upd_at (f : Nat → Nat) (k v : Nat) : upd f k v k = v := by simp [upd]
theorem za2 {f : Nat → Nat} {k v i : Nat} (h : i ≠ k) : upd f k v i = f i := by simp [upd, h]
def Agr (H : XHp) (ρ γ : Nat → Nat) (H' : XHp) (ρ' γ' : Nat → Nat) : Prop := ∀ b, (H.get b).isSome = true → (H'.get b).isSome = true ∧ ρ' b = ρ b ∧ γ' b = γ b
theorem Agr.refl (H : XHp) (ρ γ : Nat → Nat) : Agr H ρ γ H ρ γ := fun _ h => ⟨h, rfl, rfl⟩
theorem Agr.trans {H1 H2 H3 : XHp} {r1 g1 r2 g2 r3 g3 : Nat → Nat} (h : Agr H1 r1 g1 H2 r2 g2) (k : Agr H2 r2 g2 H3 r3 g3) : Agr H1 r1 g1 H3 r3 g3 := fun b hb => by
 obtain ⟨a1, a2, a3⟩ := h b hb
 obtain ⟨b1, b2, b3⟩ := k b a1
 exact ⟨b1, b2.trans a2, b3.trans a3⟩
section
variable {P : Program} {N : Nat} {w0 : XEnv} {ρ γ ρ' γ' : Nat → Nat} {F : XFr} {H H' : XHp} {a : Act} {w w' : World} {o : Oper}
theorem Agr.ok (h : Agr H ρ γ H' ρ' γ') {x : XV} (hx : x.ok (H.has γ)) : x.ok (H'.has γ') := XV.ok_mono (fun b m hb => ⟨(h b hb.1).1, by rw [(h b hb.1).2.2]; exact hb.2⟩) x hx
theorem Agr.den (h : Agr H ρ γ H' ρ' γ') {x : XV} (hx : x.ok (H.has γ)) : x.den ρ' γ' = x.den ρ γ := XV.den_same (A := H.has γ) (fun b m hb => (h b hb.1).2) x hx
theorem XR.agr (h : XR N w0 ρ γ F H a w) (hA : Agr H ρ γ H' ρ' γ') (hp : XH w0 ρ' γ' H' w') : XR N w0 ρ' γ' F H' a w' :=
 ⟨h.df, h.sz, fun i x hx => by
  obtain ⟨h1, h2⟩ := h.fr i x hx
  exact ⟨by rw [hA.den h2]; exact h1, hA.ok h2⟩, hp⟩
theorem XB.ok_agr (h : Agr H ρ γ H' ρ' γ') {o : XB} (ho : o.ok (H.has γ)) : o.ok (H'.has γ') := by
 cases o with
 | cells e cs => rw [XB.ok, XV.okL_iff] at ho ⊢; exact fun x hx => h.ok (ho x hx)
 | grown e sz cs => rw [XB.ok, XV.okL_iff] at ho ⊢; exact fun x hx => h.ok (ho x hx)
 | map es bs ck => exact fun p hp => h.ok (ho p hp)
 | iter m s se l => exact ⟨(h m ho.1).1, Nat.zero_le _⟩
 | dead => trivial
theorem XOwn.keep {B g : Nat} {o : XB} (h : XOwn w ρ γ B g o) (ho : o.ok (H.has γ)) (hA : Agr H ρ γ H' ρ' γ') (hB : w'.heap[B]? = w.heap[B]?) : XOwn w' ρ' γ' B g o := by
 cases o with
 | cells e cs =>
  rw [XB.ok, XV.okL_iff] at ho
  obtain ⟨h1, h2⟩ := h
  refine ⟨?_, fun x hx => by rw [hA.den (ho x hx)]; exact h2 x hx⟩
  rw [hB, h1, List.map_congr_left fun x hx => (hA.den (ho x hx)).symm]
 | grown e sz cs =>
  rw [XB.ok, XV.okL_iff] at ho
  obtain ⟨arr, h1, h2, h3, h4, h5⟩ := h
  refine ⟨arr, by rw [hB]; exact h1, h2, h3, h4, fun i x hx => ?_⟩
  rw [hA.den (ho x (List.mem_of_getElem? hx))]
  exact h5 i x hx
 | map es bs ck =>
  obtain ⟨ms, h1, h2, h3⟩ := h
  refine ⟨ms, by rw [hB]; exact h1, ?_, h3⟩
  rw [h2]
  exact List.map_congr_left fun p hp => by rw [hA.den (ho p hp)]
 | iter m s se l =>
  have h' : w.heap[B]? = some (.mapIter (some (ρ m)) s se.toArray l) := h
  show w'.heap[B]? = _
  rw [hB, h', (hA m ho.1).2.1]
 | dead => trivial
def xnew (H : XHp) (k : Nat) (o : XB) : Option XHp := match H.get k with
 | none => bif Nat.blt k xcap then some (XT.set xdepth H k o) else none
 | some _ => none
theorem xnew_get {k : Nat} {o : XB} (h : xnew H k o = some H') : H.get k = none ∧ ∀ i, H'.get i = if i = k then some o else H.get i := by
 unfold xnew at h
 split at h
 ·rename_i hk
  cases hc : Nat.blt k xcap with
  | false => rw [hc] at h; cases h
  | true =>
   rw [hc] at h
   injection h with h
   subst h
   rw [Nat.blt_eq] at hc
   exact ⟨hk, fun i => XT.get_set xdepth H k o i (by simp only [xcap, xdepth] at *; omega)⟩
 ·cases h
theorem agr_new {k : Nat} {o : XB} (h : xnew H k o = some H') (B g : Nat) : Agr H ρ γ H' (upd ρ k B) (upd γ k g) := fun b hb => by
 obtain ⟨h1, h2⟩ := xnew_get h
 have hne : b ≠ k := fun e => by rw [e, h1] at hb; cases hb
 exact ⟨by rw [h2, if_neg hne]; exact hb, za2 hne, za2 hne⟩
theorem XH.newAt (h : XH w0 ρ γ H w) {k B g : Nat} {o : XB} (hn : xnew H k o = some H') (hB : w0.w.heap.size ≤ B ∧ B < w'.heap.size) (hfr : ∀ i x, H.get i = some x → x.live = true → ρ i ≠ B) (hs : w.heap.size ≤ w'.heap.size) (hk : ∀ i x, H.get i = some x → x.live = true → w'.heap[ρ i]? = w.heap[ρ i]?) (hst : XBs w0 w') (hX : w0.X B = none)
    (ho : o.ok (H'.has (upd γ k g))) (how : XOwn w' (upd ρ k B) (upd γ k g) B g o) : XH w0 (upd ρ k B) (upd γ k g) H' w' := by
 obtain ⟨h1, h2⟩ := xnew_get hn
 have hA := agr_new (ρ := ρ) (γ := γ) hn B g
 have hcase : ∀ i x, H'.get i = some x → (i ≠ k ∧ H.get i = some x) ∨ (i = k ∧ x = o) := fun i x hi => by
  rw [h2] at hi
  split at hi
  ·rename_i e; injection hi with hi; exact .inr ⟨e, hi.symm⟩
  ·rename_i e; exact .inl ⟨e, hi⟩
 refine ⟨fun i j x y hx hy lx ly e => ?_, fun i x hx lx => ?_, fun i x hx lx => ?_, fun i x hx => ?_, hst⟩
 ·rcases hcase i x hx with ⟨hi, g1⟩ | ⟨rfl, rfl⟩
  ·rcases hcase j y hy with ⟨hj, g2⟩ | ⟨rfl, rfl⟩
   ·rw [za2 hi, za2 hj] at e
    exact h.nd i j x y g1 g2 lx ly e
   ·rw [za2 hi, upd_at] at e
    exact absurd e (hfr i x g1 lx)
  ·rcases hcase j y hy with ⟨hj, g2⟩ | ⟨rfl, rfl⟩
   ·rw [za2 hj, upd_at] at e
    exact absurd e.symm (hfr j y g2 ly)
   ·rfl
 ·rcases hcase i x hx with ⟨hi, g1⟩ | ⟨rfl, rfl⟩
  ·rw [za2 hi]
   have := h.hi i x g1 lx
   exact ⟨this.1, by omega⟩
  ·rw [upd_at]; exact hB
 ·rcases hcase i x hx with ⟨hi, g1⟩ | ⟨rfl, rfl⟩
  ·rw [za2 hi]; exact h.ap i x g1 lx
  ·rw [upd_at]; exact hX
 ·rcases hcase i x hx with ⟨hi, g1⟩ | ⟨rfl, rfl⟩
  ·obtain ⟨g2, g3⟩ := h.bl i x g1
   refine ⟨XB.ok_agr hA g2, ?_⟩
   rw [za2 hi, za2 hi]
   cases hl : x.live with
   | false => cases x <;> first | trivial | (cases hl)
   | true => exact g3.keep g2 hA (hk i x g1 hl)
  ·rw [upd_at, upd_at]
   exact ⟨ho, how⟩
theorem XH.new (h : XH w0 ρ γ H w) {k : Nat} {o : XB} {obj : Obj} (g : Nat) (hn : xnew H k o = some H') (ho : o.ok (H.has γ)) (how : XOwn (w.alloc obj) (upd ρ k w.heap.size) (upd γ k g) w.heap.size g o) : XH w0 (upd ρ k w.heap.size) (upd γ k g) H' (w.alloc obj) :=
 h.newAt hn ⟨h.st.size, by simp⟩ (fun i x hx lx e => by have := (h.hi i x hx lx).2; omega) (by simp) (fun i x hx lx => Below.heap_alloc w obj _ (h.hi i x hx lx).2) (h.st.alloc _) h.st.new (XB.ok_agr (agr_new (ρ := ρ) (γ := γ) hn w.heap.size g) ho) how
theorem zj2 {B C : Nat} {ob : Obj} : (zU w B ob).heap[C]? = if C = B ∧ B < w.heap.size then some ob else w.heap[C]? := by
 unfold zU
 simp only [Array.getElem?_setIfInBounds]
 by_cases h : B = C
 ·subst h
  by_cases hb : B < w.heap.size
  ·simp [hb]
  ·simp [hb]
 ·simp [h, Ne.symm h]
def xset (H : XHp) (b : Nat) (o : XB) : Option XHp := match H.get b with
 | some _ => bif Nat.blt b xcap then some (XT.set xdepth H b o) else none
 | none => none
theorem xset_get {b : Nat} {o : XB} (h : xset H b o = some H') : (H.get b).isSome = true ∧ ∀ i, H'.get i = if i = b then some o else H.get i := by
 unfold xset at h
 split at h
 ·rename_i x hk
  cases hc : Nat.blt b xcap with
  | false => rw [hc] at h; cases h
  | true =>
   rw [hc] at h
   injection h with h
   subst h
   rw [Nat.blt_eq] at hc
   exact ⟨by rw [hk]; rfl, fun i => XT.get_set xdepth H b o i (by simp only [xcap, xdepth] at *; omega)⟩
 ·cases h
theorem agr_set {b : Nat} {o : XB} (h : xset H b o = some H') : Agr H ρ γ H' ρ γ := fun c hc => by
 obtain ⟨h1, h2⟩ := xset_get h
 refine ⟨?_, rfl, rfl⟩
 rw [h2]
 split
 ·rfl
 ·exact hc
theorem XH.set {b : Nat} {x y : XB} (h : XH w0 ρ γ H w) (hb : H.get b = some x) (hx : x.live = true ∨ y.live = false) (hn : xset H b y = some H') (ho : y.ok (H.has γ)) (hs : w'.heap.size = w.heap.size) (hk : ∀ C, C < w.heap.size → (x.live = true → C ≠ ρ b) → w'.heap[C]? = w.heap[C]?) (hst : XBs w0 w') (how : XOwn w' ρ γ (ρ b) (γ b) y) : XH w0 ρ γ H' w' := by
 obtain ⟨h1, h2⟩ := xset_get hn
 have hA := agr_set (ρ := ρ) (γ := γ) hn
 have hcase : ∀ i z, H'.get i = some z → (i = b ∧ z = y) ∨ (i ≠ b ∧ H.get i = some z) := fun i z hi => by
  rw [h2] at hi
  split at hi
  ·rename_i e; injection hi with hi; exact .inl ⟨e, hi.symm⟩
  ·rename_i e; exact .inr ⟨e, hi⟩
 have hlive : y.live = true → x.live = true := fun hy => hx.resolve_right (by rw [hy]; simp)
 refine ⟨fun i j z z' hz hz' lz lz' e => ?_, fun i z hz lz => ?_, fun i z hz lz => ?_, fun i z hz => ?_, hst⟩
 ·rcases hcase i z hz with ⟨rfl, rfl⟩ | ⟨hi, g1⟩
  ·rcases hcase j z' hz' with ⟨rfl, rfl⟩ | ⟨hj, g2⟩
   ·rfl
   ·exact h.nd i j x z' hb g2 (hlive lz) lz' e
  ·rcases hcase j z' hz' with ⟨rfl, rfl⟩ | ⟨hj, g2⟩
   ·exact h.nd i j z x g1 hb lz (hlive lz') e
   ·exact h.nd i j z z' g1 g2 lz lz' e
 ·rw [hs]
  rcases hcase i z hz with ⟨rfl, rfl⟩ | ⟨hi, g1⟩
  ·exact h.hi i x hb (hlive lz)
  ·exact h.hi i z g1 lz
 ·rcases hcase i z hz with ⟨rfl, rfl⟩ | ⟨hi, g1⟩
  ·exact h.ap i x hb (hlive lz)
  ·exact h.ap i z g1 lz
 ·rcases hcase i z hz with ⟨rfl, rfl⟩ | ⟨hi, g1⟩
  ·exact ⟨XB.ok_agr hA ho, how⟩
  ·obtain ⟨g2, g3⟩ := h.bl i z g1
   refine ⟨XB.ok_agr hA g2, ?_⟩
   cases hl : z.live with
   | false => cases z <;> first | trivial | (cases hl)
   | true => exact g3.keep g2 hA (hk _ (h.hi i z g1 hl).2 (fun hxl e => hi (h.nd i b z x g1 hb hl hxl e)))
theorem XH.put {b : Nat} {x y : XB} {ob : Obj} (h : XH w0 ρ γ H w) (hb : H.get b = some x) (hx : x.live = true) (hn : xset H b y = some H') (ho : y.ok (H.has γ)) (how : XOwn (zU w (ρ b) ob) ρ γ (ρ b) (γ b) y) : XH w0 ρ γ H' (zU w (ρ b) ob) := by
 have hlo := (h.hi b x hb hx).1
 refine h.set hb (.inl hx) hn ho (by simp [zU]) (fun C _ hC => ?_) ?_ how
 ·rw [zj2, if_neg (fun e => hC hx e.1)]
 ·have hst := h.st
  refine ⟨⟨hst.os, hst.tape, hst.output, by simpa [zU] using hst.size, fun i hi hn => ?_, hst.drawn⟩, fun B ob hB => ?_⟩
  ·rw [zj2, if_neg (by rintro ⟨e, _⟩; omega)]
   exact hst.block i hi hn
  ·rw [zj2, if_neg (by rintro ⟨e, _⟩; rw [e, h.ap b x hb hx] at hB; cases hB)]
   exact hst.fx B ob hB
def XPost (N : Nat) (w0 : XEnv) (ρ γ : Nat → Nat) (H : XHp) (F2 : XFr) (H2 : XHp) : Act → World → Prop := fun a' w' => ∃ ρ' γ', XR N w0 ρ' γ' F2 H2 a' w' ∧ Agr H ρ γ H2 ρ' γ'
theorem XPost.trans {F1 F2 : XFr} {H1 H2 : XHp} {Q : Act → World → Prop} (h : XPost N w0 ρ γ H F1 H1 a w) (k : ∀ ρ1 γ1, XR N w0 ρ1 γ1 F1 H1 a w → Agr H ρ γ H1 ρ1 γ1 → Q a w) : Q a w := by
 obtain ⟨ρ1, γ1, h1, h2⟩ := h
 exact k ρ1 γ1 h1 h2
end
end
section
open Go Go.RowKit
set_option maxRecDepth 100000
section
variable {P : Program} {N : Nat} {w0 : XEnv} {ρ γ : Nat → Nat} {F F' : XFr} {H H' : XHp} {a : Act} {w : World} {o : Oper}
end
end
section
open Go Go.RowKit
set_option maxRecDepth 100000
section
variable {P : Program} {N : Nat} {w0 : XEnv} {ρ γ : Nat → Nat} {F F' : XFr} {H H' : XHp} {a : Act} {w : World} {o : Oper}
end
end
section
open Go Go.RowKit
set_option maxRecDepth 100000
section
variable {P : Program} {N : Nat} {w0 : XEnv} {ρ γ : Nat → Nat} {F F' : XFr} {H H' : XHp} {a : Act} {w : World} {o : Oper}
end
end
section
open Go Go.RowKit
set_option maxRecDepth 100000
section
variable {P : Program} {N : Nat} {w0 : XEnv} {ρ γ : Nat → Nat} {F F' : XFr} {H H' : XHp} {a : Act} {w : World} {o : Oper}
end
end
section
open Go Go.RowKit
set_option maxRecDepth 100000
def vsame0 : Value → Value → Bool
 | .int k n, .int l m => decide (k = l) && decide (n = m)
 | .bool a, .bool b => a == b
 | .string a, .string b => decide (a = b)
 | .slice none n c, .slice none m d => Nat.beq n m && Nat.beq c d
 | .pointer none, .pointer none => true
 | .map none, .map none => true
 | .nilFunc, .nilFunc => true
 | .tuple a, .tuple b => a.isEmpty && b.isEmpty
 | _, _ => false
def vsameL : List Value → List Value → Bool
 | [], [] => true
 | x :: l, y :: l' => vsame0 x y && vsameL l l'
 | _, _ => false
def vsame : Value → Value → Bool
 | .agg a, .agg b => vsameL a.toList b.toList
 | u, v => vsame0 u v
mutual
def XV.same : XV → XV → Bool
 | .v x, .v y => vsame x y
 | .p b j, .p b' j' => Nat.beq b b' && Nat.beq j j'
 | .sl b k n c, .sl b' k' n' c' => Nat.beq b b' && Nat.beq k k' && Nat.beq n n' && Nat.beq c c'
 | .sg b k n c, .sg b' k' n' c' => Nat.beq b b' && Nat.beq k k' && Nat.beq n n' && Nat.beq c c'
 | .se b k n c, .se b' k' n' c' => Nat.beq b b' && Nat.beq k k' && Nat.beq n n' && Nat.beq c c'
 | .m b, .m b' => Nat.beq b b'
 | .a l, .a l' => XV.sameL l l'
 | .t l, .t l' => XV.sameL l l'
 | .f g l, .f g' l' => Nat.beq g g' && XV.sameL l l'
 | .yl b, .yl b' => Nat.beq b b'
 | _, _ => false
def XV.sameL : List XV → List XV → Bool
 | [], [] => true
 | x :: l, y :: l' => x.same y && XV.sameL l l'
 | _, _ => false
end
def natsame : List Nat → List Nat → Bool
 | [], [] => true
 | x :: l, y :: m => Nat.beq x y && natsame l m
 | _, _ => false
def mapsame : List (Value × XV) → List (Value × XV) → Bool
 | [], [] => true
 | x :: l, y :: m => vsame x.1 y.1 && x.2.same y.2 && mapsame l m
 | _, _ => false
def XB.same : XB → XB → Bool
 | .cells e l, .cells f m => Nat.beq e f && XV.sameL l m
 | .grown e s l, .grown f t m => Nat.beq e f && Nat.beq s t && XV.sameL l m
 | .map es bs ck, .map fs cs cl => mapsame es fs && natsame bs cs && Nat.beq ck cl
 | .iter m s se l, .iter m' s' se' l' => Nat.beq m m' && Nat.beq s s' && natsame se se' && Nat.beq l l'
 | .dead, .dead => true
 | _, _ => false
def XT.same {α : Type} (f : α → α → Bool) : XT α → XT α → Bool
 | .nil, .nil => true
 | .node l v r, .node l' v' r' => (match v, v' with
  | none, none => true
  | some x, some y => f x y
  | _, _ => false) && l.same f l' && r.same f r'
 | _, _ => false
end
section
open Go Go.RowKit
set_option maxRecDepth 100000
abbrev XCf := FuncId → List XV → XHp → Nat → Option (XV × XHp × Nat)
section
variable {P : Program} {N : Nat} {w0 : XEnv} {ρ γ : Nat → Nat} {F F' : XFr} {H H' : XHp} {a : Act} {w : World} {o : Oper} {call : XCf} {ops l : List Oper}
end
end
section
open Go Go.RowKit
set_option maxRecDepth 100000
section
variable {P : Program} {N : Nat} {w0 : XEnv} {ρ γ : Nat → Nat} {F F' : XFr} {H H' : XHp} {a : Act} {w : World} {o : Oper} {call : XCf} {ops : List Oper}
theorem XH.drew (h : XH w0 ρ γ H w) : XH w0 ρ γ H w.drew := ⟨h.nd, h.hi, h.ap, fun i o ho => ⟨(h.bl i o ho).1, (h.bl i o ho).2.keep (h.bl i o ho).1 (Agr.refl _ _ _) rfl⟩, h.st.drew⟩
theorem XR.drew (h : XR N w0 ρ γ F H a w) : XR N w0 ρ γ F H a w.drew := h.agr (Agr.refl _ _ _) h.hp.drew
end
end
section
open Go Go.RowKit
set_option maxRecDepth 100000
def Ext (E E' : XEnv) : Prop := E'.w = E.w ∧ (∀ B ob, E.X B = some ob → E'.X B = some ob) ∧ ∀ D ∈ E'.own, D ∈ E.own ∨ E.X D = none
theorem Ext.refl (E : XEnv) : Ext E E := ⟨rfl, fun _ _ h => h, fun _ h => .inl h⟩
theorem Ext.trans {A B C : XEnv} (h : Ext A B) (k : Ext B C) : Ext A C := ⟨k.1.trans h.1, fun D ob hD => k.2.1 D ob (h.2.1 D ob hD), fun D hD => by
 rcases k.2.2 D hD with h1 | h1
 ·exact h.2.2 D h1
 ·cases hA : A.X D with
  | none => exact .inr rfl
  | some ob => rw [h.2.1 D ob hA] at h1; cases h1⟩
abbrev XYh := Option (Nat × (List XV → XHp → Nat → Option (XHp × Nat)))
def XF (rd : Bool) (F : Fence) : Prop := (rd = false ∧ F = Fence.wide) ∨ (rd = true ∧ ∃ l, F = Fence.wide.inRound l)
theorem XF.fn {rd : Bool} {F : Fence} (h : XF rd F) (f : FuncId) : F.fn f := by
 rcases h with ⟨_, rfl⟩ | ⟨_, l, rfl⟩
 ·trivial
 ·trivial
theorem XF.depth {rd : Bool} {F : Fence} (h : XF rd F) : F.depth = none := by
 rcases h with ⟨_, rfl⟩ | ⟨_, l, rfl⟩ <;> rfl
theorem XF.calls {rd : Bool} {F : Fence} (h : XF rd F) {n : Nat} {P : Program} {f : FuncId} {args : Array Value} {w : World} {R : Ending → World → Prop} (hc : Calls P f args w R) : CallsIn F n P f args w R := by
 rcases h with ⟨_, rfl⟩ | ⟨_, l, rfl⟩
 ·exact callsIn_wide.2 hc
 ·exact CallsIn.inRound l (callsIn_wide.2 hc)
section
variable {P : Program} {N : Nat} {w0 : XEnv} {ρ γ : Nat → Nat} {F F' : XFr} {H H' : XHp} {a : Act} {w : World} {o : Oper} {call : XCf} {ops l : List Oper} {yh : XYh} {rd : Bool} {Fe : Fence} {n : Nat}
end
end
end Go.Proofs.YtcdeonjdipcgpaaGreatDoor
