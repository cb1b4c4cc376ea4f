/- Books of jobs: rules for pointers that are kept as values; the blocks of the books. -/
import Derived.Test.YtcdeonjdipcgpaaGreatDoorQbi
import Derived.Maps.RangeRun
import Derived.Test.YtcdeonjdipcgpaaGreatDoorQbb
import Derived.Test.YtcdeonjdipcgpaaGreatDoorQbd
import Derived.Test.YtcdeonjdipcgpaaGreatDoorQbg
import Derived.Test.YtcdeonjdipcgpaaGreatDoorQbh
import Derived.Test.YtcdeonjdipcgpaaGreatDoorQaz
import Derived.Test.YtcdeonjdipcgpaaGreatDoorQba
import Derived.Test.YtcdeonjdipcgpaaGreatDoorQan
import Derived.Lib.UnsafeStr
import Derived.Laws.Pointers
import Derived.LaidEqlPtr
import Derived.Laws.LoneSync
import Derived.Test.YtcdeonjdipcgpaaGreatDoorQbe
set_option linter.unusedSimpArgs false
set_option linter.unusedVariables false
namespace Go.Proofs.YtcdeonjdipcgpaaGreatDoor
open Go Go.RowKit
set_option maxRecDepth 100000
def XT.sub {α : Type} (f : α → α → Bool) : XT α → XT α → Bool
 | .nil, _ => true
 | .node l v r, .node l' v' r' => (match v, v' with
  | none, _ => true
  | some x, some y => f x y
  | some _, none => false) && l.sub f l' && r.sub f r'
 | .node _ _ _, .nil => false
def pin (X : Nat → Option Obj) (B : Nat) (ob : Obj) : Nat → Option Obj := fun i => if i = B then some ob else X i
section
variable {P : Program} {N : Nat} {E : XEnv} {ρ γ : Nat → Nat} {F : XFr} {H Hs H1 : XHp} {a : Act} {w w' : World} {bi : Nat} {z : XB}
theorem XR.aside {ob : Obj} (hR : XR N E ρ γ F Hs a w) (hz : Hs.get bi = some z) (hl : z.live = true) (h1 : ∀ i, H1.get i = if i = bi then some .dead else Hs.get i) : XR N ⟨E.w, pin E.X (ρ bi) ob, E.own⟩ ρ γ F H1 a (zU w (ρ bi) ob) := by
 have hA : Agr Hs ρ γ H1 ρ γ := fun b hb => by
  refine ⟨?_, rfl, rfl⟩
  rw [h1]; split
  ·rfl
  ·exact hb
 have hX := hR.hp.ap bi z hz hl
 obtain ⟨hlo, hhi⟩ := hR.hp.hi bi z hz hl
 have hcase : ∀ i o, H1.get i = some o → o.live = true → i ≠ bi ∧ Hs.get i = some o := fun i o hi lo => by
  rw [h1] at hi
  split at hi
  ·injection hi with hi; subst hi; cases lo
  ·rename_i e; exact ⟨e, hi⟩
 have hne : ∀ i o, i ≠ bi → Hs.get i = some o → o.live = true → ρ i ≠ ρ bi := fun i o hi ho lo e => hi (hR.hp.nd i bi o z ho hz lo hl e)
 have hp : XH ⟨E.w, pin E.X (ρ bi) ob, E.own⟩ ρ γ H1 (zU w (ρ bi) ob) := by
  refine ⟨fun i j o o' hi hj lo lo' e => ?_, fun i o hi lo => ?_, fun i o hi lo => ?_, fun i o hi => ?_, ⟨?_, fun B x hB => ?_⟩⟩
  ·exact hR.hp.nd i j o o' (hcase i o hi lo).2 (hcase j o' hj lo').2 lo lo' e
  ·have := hR.hp.hi i o (hcase i o hi lo).2 lo
   exact ⟨this.1, by simpa [zU] using this.2⟩
  ·obtain ⟨g1, g2⟩ := hcase i o hi lo
   show pin E.X (ρ bi) ob (ρ i) = none
   unfold pin
   rw [if_neg (hne i o g1 g2 lo)]
   exact hR.hp.ap i o g2 lo
  ·rw [h1] at hi
   split at hi
   ·injection hi with hi; subst hi; exact ⟨trivial, trivial⟩
   ·rename_i e
    obtain ⟨g1, g2⟩ := hR.hp.bl i o hi
    refine ⟨XB.ok_agr hA g1, ?_⟩
    cases hlo : o.live with
    | false => cases o <;> first | trivial | (cases hlo)
    | true => exact g2.keep g1 hA (by rw [zj2, if_neg (fun h => hne i o e hi hlo h.1)])
  ·have hst := hR.hp.st
   refine ⟨hst.os, hst.tape, hst.output, by simpa [zU] using hst.size, fun i hi hn => ?_, hst.drawn⟩
   rw [zj2, if_neg (by rintro ⟨e, _⟩; have h0 : i < E.w.heap.size := hi; omega)]
   exact hst.block i hi hn
  ·rw [zj2]
   have hB' : pin E.X (ρ bi) ob B = some x := hB
   unfold pin at hB'
   split at hB'
   ·rename_i e
    rw [if_pos ⟨e, by omega⟩]
    exact hB'
   ·rename_i e
    rw [if_neg (fun h => e h.1)]
    exact hR.hp.st.fx B x hB'
 refine ⟨⟨hR.df.1, hR.df.2.1, fun D hD => ?_⟩, hR.sz, fun i x hi => ?_, hp⟩
 ·obtain ⟨d1, d2⟩ := hR.df.2.2 D hD
  refine ⟨?_, d2⟩
  show pin E.X (ρ bi) ob D = _
  unfold pin
  rw [if_neg (fun e => by rw [e, hX] at d1; cases d1)]
  exact d1
 ·obtain ⟨g1, g2⟩ := hR.fr i x hi
  exact ⟨g1, hA.ok g2⟩
end
section
variable {P : Program} {N m n : Nat} {F : XFr} {H : XHp} {call : XCf} {yh : XYh} {rd : Bool} {Fe : Fence}
end
end Go.Proofs.YtcdeonjdipcgpaaGreatDoor
namespace Go.Proofs.YtcdeonjdipcgpaaGreatDoor
open Go Go.RowKit
set_option maxRecDepth 100000
section
variable {P : Program} {N : Nat} {w0 : XEnv} {ρ γ : Nat → Nat} {F F' : XFr} {H H' : XHp} {a : Act} {w : World} {o : Oper} {call : XCf}
theorem XH.pin {E : XEnv} {own : List Nat} (h : XH E ρ γ H w) (ob : Obj) : XH ⟨E.w, pin E.X w.heap.size ob, own⟩ ρ γ H (w.alloc ob) := by
 have hst := h.st.alloc ob
 refine ⟨h.nd, fun i o ho lo => ?_, fun i o ho lo => ?_, fun i o ho => ?_, ⟨hst.toStp, fun B x hB => ?_⟩⟩
 ·have := h.hi i o ho lo
  exact ⟨this.1, by simp; omega⟩
 ·have := (h.hi i o ho lo).2
  simp only [Go.Proofs.YtcdeonjdipcgpaaGreatDoor.pin]
  rw [if_neg (by omega)]
  exact h.ap i o ho lo
 ·obtain ⟨h1, h2⟩ := h.bl i o ho
  refine ⟨h1, ?_⟩
  cases hl : o.live with
  | false => cases o <;> first | trivial | (cases hl)
  | true => exact h2.keep h1 (Agr.refl _ _ _) (Below.heap_alloc w ob _ (h.hi i o ho hl).2)
 ·simp only [Go.Proofs.YtcdeonjdipcgpaaGreatDoor.pin] at hB
  split at hB
  ·rename_i e
   injection hB with hB
   subst hB
   subst e
   exact heap_alloc_new w ob
  ·exact hst.fx B x hB
theorem XH.name {k : Nat} (h : XH w0 ρ γ H w) (hn : xnew H k .dead = some H') (l : Nat) : XH w0 (upd ρ k l) (upd γ k 0) H' w ∧ Agr H ρ γ H' (upd ρ k l) (upd γ k 0) := by
 obtain ⟨h1, h2⟩ := xnew_get hn
 have hA := agr_new (ρ := ρ) (γ := γ) hn l 0
 have hcase : ∀ i x, H'.get i = some x → x.live = true → i ≠ k ∧ H.get i = some x := fun i x hi lx => by
  rw [h2] at hi
  split at hi
  ·injection hi with hi; subst hi; cases lx
  ·rename_i e; exact ⟨e, hi⟩
 refine ⟨⟨fun i j x y hx hy lx ly e => ?_, fun i x hx lx => ?_, fun i x hx lx => ?_, fun i x hx => ?_, h.st⟩, hA⟩
 ·obtain ⟨a1, a2⟩ := hcase i x hx lx
  obtain ⟨b1, b2⟩ := hcase j y hy ly
  rw [za2 a1, za2 b1] at e
  exact h.nd i j x y a2 b2 lx ly e
 ·obtain ⟨a1, a2⟩ := hcase i x hx lx
  rw [za2 a1]; exact h.hi i x a2 lx
 ·obtain ⟨a1, a2⟩ := hcase i x hx lx
  rw [za2 a1]; exact h.ap i x a2 lx
 ·by_cases hi : i = k
  ·subst hi
   rw [h2, if_pos rfl] at hx
   injection hx with hx
   subst hx
   exact ⟨trivial, trivial⟩
  ·rw [h2, if_neg hi] at hx
   obtain ⟨g1, g2⟩ := h.bl i x hx
   refine ⟨XB.ok_agr hA g1, ?_⟩
   rw [za2 hi, za2 hi]
   exact g2.keep g1 hA rfl
end
end Go.Proofs.YtcdeonjdipcgpaaGreatDoor
namespace Go.Proofs.YtcdeonjdipcgpaaGreatDoor
open Go Go.RowKit
set_option maxRecDepth 100000
section
variable {P : Program} {w0 : XEnv} {ρ γ : Nat → Nat} {F F' : XFr} {H H' : XHp} {a : Act} {w : World} {o : Oper} {call : XCf}
end
end Go.Proofs.YtcdeonjdipcgpaaGreatDoor
namespace Go.Proofs.YtcdeonjdipcgpaaGreatDoor
open Go Go.RowKit
set_option maxRecDepth 100000
end Go.Proofs.YtcdeonjdipcgpaaGreatDoor
-- NEWM
namespace Go.Proofs.YtcdeonjdipcgpaaGreatDoor
open Go Go.RowKit
set_option maxRecDepth 1000000
theorem NtB.s {x : Nt} (h : NtB x) : NtS x := ⟨Nat.le_trans h.st (by decide), Nat.le_trans h.pr (by decide), Nat.le_trans h.jb (by decide), Nat.le_trans h.sp (by decide), Nat.le_trans h.of_ (by decide)⟩
theorem notetime_v (v : Value) (zs : List Int) (a : Int) (hs : StrOk zs) (h0 : 0 ≤ a) (h1 : a ≤ 900000000) : ACalls Tryz.prog 9 [.p 0 0 0] [strm v zs a] fun u H => ∃ r : Int, u = .c (I r) ∧ H = [strm v zs (a + 1)] ∧ r = pickF zs a [0, 5, 15, 30, 60, 100, -1, 345686400000] := by
 refine zj (N := 6) Tryz.func9 rfl rfl (by simp) fun E hE => ?_
 repeat' (first
  | (with_reducible refine zI ?_) | (with_reducible refine zG ?_) | (with_reducible refine zL ?_) | (with_reducible refine zR ?_) | (with_reducible refine zP ?_) | (with_reducible refine zS ?_) | (with_reducible refine zQ rfl ?_) | (with_reducible refine zM ?_) | (with_reducible refine zz ?_) | (with_reducible refine zq ?_) | (with_reducible refine zJ ?_) | (with_reducible refine zB ?_)
  | refine zb rfl ?_ | refine za rfl ?_ | refine zA rfl (by assumption) ?_ | refine zw rfl (by assumption) ?_ | refine zu rfl (fun _ => ?_) (fun _ => ?_) | refine zt rfl (fun _ => ?_) (fun _ => ?_)
  | (refine zh (id := 1) ?_
     refine WO ?_
     refine zf rfl (zl true (fun _ => zF1 [0, 5, 15, 30, 60, 100, -1, 345686400000] _ _ _ _ hs (by omega) (by omega) (by simp) (by simp)) rfl .fn rfl (by decide) (by kernel_rfl) rfl rfl (fun _g => .cons (.p rfl) (.cons (.frz rfl rfl rfl rfl rfl) .nil)) (fun _g => .cons (.c rfl) (.cons (.c rfl) .nil)) (fun _ _ _ _ ⟨_, hu, hH, _⟩ => by rw [hu, hH]; exact ⟨.c (.inl trivial), zp (.inr ⟨0, _, rfl, by simp⟩)⟩)) ?_
     rintro F1 H1 ⟨_, _, _, _, ⟨rr, rfl, hq, hrmrr, hvrr⟩, hF, hH⟩
     injection hq with hq1 hq2; subst hq1; subst hq2
     (refine NST hF hH ?_; clear hF hH; rintro rfl rfl)
     refine WE ?_)
  | (refine zh ?_; refine WE ?_))
 refine ze [some 0] _ rfl rfl rfl (by decide) (ZNK rfl) ZCH ?_
 exact ⟨_, rfl, rfl, hvrr⟩
theorem firstK2 (x y : Int) : firstK [x, y] = if x ≠ 0 then x else y := by
 unfold firstK firstK firstK
 split
 ·rfl
 ·split <;> omega
end Go.Proofs.YtcdeonjdipcgpaaGreatDoor
namespace Go.Proofs.YtcdeonjdipcgpaaGreatDoor
open Go Go.RowKit
structure Jb where
 nm : List UInt8
 pr : List UInt8
 st : Int
 ly : List Int
 all : Int
 beg : Int
 en : Int
structure Bk where
 js : List Jb
 sp : List (Nat × List UInt8 × List UInt8)
 spk : Nat
 lf : List (Nat × List UInt8 × Int)
 lfk : Nat
 us : List (Nat × List UInt8 × Int)
 usk : Nat
def fndI {α : Type} (p : α → Bool) : List α → Nat → Option Nat
 | [], _ => none
 | x :: l, i => if p x = true then some i else fndI p l (i + 1)
theorem zB2 {α : Type} {p : α → Bool} : ∀ {l : List α} {i k : Nat}, fndI p l i = some k → i ≤ k ∧ ∃ x, l[k - i]? = some x ∧ p x = true
 | [], _, _, h => by cases h
 | x :: l, i, k, h => by
  rw [fndI] at h
  split at h
  ·rename_i hp
   injection h with h
   subst h
   exact ⟨Nat.le_refl _, x, by simp, hp⟩
  ·obtain ⟨h1, y, h2, h3⟩ := zB2 h
   exact ⟨by omega, y, by rw [show k - i = (k - (i + 1)) + 1 by omega, List.getElem?_cons_succ]; exact h2, h3⟩
theorem zM3 {α : Type} {p : α → Bool} : ∀ {l : List α} {i : Nat}, fndI p l i = none → ∀ x ∈ l, p x = false
 | [], _, _, x, hx => by cases hx
 | y :: l, i, h, x, hx => by
  rw [fndI] at h
  split at h
  ·cases h
  ·rename_i hp
   rcases List.mem_cons.1 hx with rfl | hx
   ·simpa using hp
   ·exact zM3 h x hx
theorem fndI_is {α : Type} {p : α → Bool} {l : List α} {k : Nat} {x : α} (h1 : l[k]? = some x) (h2 : p x = true) (hu : ∀ i y, l[i]? = some y → p y = true → i = k) : fndI p l 0 = some k := by
 cases h : fndI p l 0 with
 | none => rw [zM3 h x (List.mem_of_getElem? h1)] at h2; cases h2
 | some q =>
  obtain ⟨_, y, h3, h4⟩ := zB2 h
  rw [hu q y (by simpa using h3) h4]
theorem fndI_no {α : Type} {p : α → Bool} {l : List α} (h : ∀ x ∈ l, p x = false) : fndI p l 0 = none := by
 cases hq : fndI p l 0 with
 | none => rfl
 | some q =>
  obtain ⟨_, y, h3, h4⟩ := zB2 hq
  rw [h y (List.mem_of_getElem? h3)] at h4
  cases h4
def runI (js : List Jb) (p : List UInt8) : Option Nat := fndI (fun j => decide (j.pr = p) && decide (j.st = 0)) js 0
def nmI (js : List Jb) (s : List UInt8) : Option Nat := fndI (fun j => decide (s = j.nm)) js 0
def runJ (js : List Jb) (p : List UInt8) : Option Jb := (runI js p).bind fun k => js[k]?
theorem zR1 {js : List Jb} {p : List UInt8} {k : Nat} (h : runI js p = some k) : ∃ j, js[k]? = some j ∧ j.pr = p ∧ j.st = 0 := by
 obtain ⟨_, j, h1, h2⟩ := zB2 h
 simp only [Bool.and_eq_true, decide_eq_true_eq] at h2
 exact ⟨j, by simpa using h1, h2.1, h2.2⟩
theorem nmI_some {js : List Jb} {s : List UInt8} {k : Nat} (h : nmI js s = some k) : ∃ j, js[k]? = some j ∧ s = j.nm := by
 obtain ⟨_, j, h1, h2⟩ := zB2 h
 exact ⟨j, by simpa using h1, of_decide_eq_true h2⟩
theorem nmI_none {js : List Jb} {s : List UInt8} (h : nmI js s = none) : ∀ j ∈ js, s ≠ j.nm := fun j hj => of_decide_eq_false (zM3 h j hj)
theorem runI_none {js : List Jb} {p : List UInt8} (h : runI js p = none) : ∀ j ∈ js, ¬ (j.pr = p ∧ j.st = 0) := fun j hj ⟨h1, h2⟩ => by
 have := zM3 h j hj
 simp [h1, h2] at this
structure JsOk (js : List Jb) : Prop where
 nm : ∀ (i k : Nat) (a b : Jb), js[i]? = some a → js[k]? = some b → a.nm = b.nm → i = k
 pr : ∀ (i k : Nat) (a b : Jb), js[i]? = some a → js[k]? = some b → a.pr = b.pr → a.st = 0 → b.st = 0 → i = k
 st : ∀ j ∈ js, j.st = 0 ∨ j.st = 1 ∨ j.st = 2
 ne : ∀ j ∈ js, j.nm ≠ []
 all : ∀ j ∈ js, (j.ly.length : Int) ≤ j.all ∧ j.all ≤ 1000
theorem runI_is {js : List Jb} (h : JsOk js) {k : Nat} {j : Jb} (hk : js[k]? = some j) (hs : j.st = 0) : runI js j.pr = some k := fndI_is hk (by simp [hs]) fun i y hy hp => by
 simp only [Bool.and_eq_true, decide_eq_true_eq] at hp
 exact h.pr i k y j hy hk hp.1 hp.2 hs
theorem nmI_is {js : List Jb} (h : JsOk js) {k : Nat} {j : Jb} (hk : js[k]? = some j) : nmI js j.nm = some k := fndI_is hk (by simp) fun i y hy hp => h.nm i k y j hy hk (of_decide_eq_true hp).symm
def stopJ (js : List Jb) (p : List UInt8) (s at_ : Int) : List Jb := match runI js p with
 | some k => js.modify k fun j => { j with st := s, en := at_ }
 | none => js
def layJ (js : List Jb) (p : List UInt8) (at_ : Int) : List Jb := match runI js p with
 | some k => js.modify k fun j => { j with ly := j.ly ++ [at_] }
 | none => js
def inUse (sp : List (Nat × List UInt8 × List UInt8)) (s : List UInt8) : Bool := sp.any fun e => decide (e.2.2 = s)
def rfE (b : Bk) (x : Nt) : Int :=
 if x.kd = 1 then (if (nmI b.js x.jb).isSome = true then 6 else if (runI b.js x.pr).isSome = true then 12 else 0)
 else if x.kd = 2 then (match runJ b.js x.pr with
  | none => 8
  | some j => if x.n ≠ (j.ly.length : Int) + 1 then 7 else if j.all < x.n then 2 else 0)
 else if x.kd = 3 then (match runJ b.js x.pr with
  | none => 8
  | some j => if (j.ly.length : Int) < j.all then 11 else 0)
 else if x.kd = 4 then (if (runI b.js x.pr).isSome = true then 0 else 8)
 else if x.kd = 5 then (if inUse b.sp x.sp = true then 6 else 0)
 else if x.kd = 6 then (match mget b.sp x.pr with
  | none => 8
  | some k => if (mget b.lf k).getD 0 < x.n then 12 else 0)
 else 0
def ntS (b : Bk) (x : Nt) : Bk :=
 if x.kd = 1 then { b with js := b.js ++ [⟨x.jb, x.pr, 0, [], x.n, x.at_, 0⟩] }
 else if x.kd = 2 then { b with js := layJ b.js x.pr x.at_ }
 else if x.kd = 3 then { b with js := stopJ b.js x.pr 1 x.at_ }
 else if x.kd = 4 then { b with js := stopJ b.js x.pr 2 x.at_ }
 else if x.kd = 5 then { b with sp := mset b.spk x.pr x.sp b.sp, spk := mclk b.spk x.pr b.sp, lf := mset b.lfk x.sp x.n b.lf, lfk := mclk b.lfk x.sp b.lf }
 else if x.kd = 6 then { b with lf := mset b.lfk ((mget b.sp x.pr).getD []) ((mget b.lf ((mget b.sp x.pr).getD [])).getD 0 - x.n) b.lf, lfk := mclk b.lfk ((mget b.sp x.pr).getD []) b.lf, us := mset b.usk ((mget b.sp x.pr).getD []) ((mget b.us ((mget b.sp x.pr).getD [])).getD 0 + x.n) b.us, usk := mclk b.usk ((mget b.sp x.pr).getD []) b.us }
 else b
def bk0 : Bk := ⟨[], [], 0, [], 0, [], 0⟩
def bkStep (s : Bk × List Int × List Int) (i : Int) (x : Nt) : Bk × List Int × List Int :=
 if rfE s.1 x ≠ 0 then (s.1, s.2.1 ++ [i], s.2.2 ++ [rfE s.1 x]) else (ntS s.1 x, s.2.1, s.2.2)
def bkK (l : List Nt) (ix : List Int) : Nat → Bk × List Int × List Int
 | 0 => (bk0, [], [])
 | k + 1 => match ix[k]? with
  | some i => (match l[i.toNat]? with
   | some x => bkStep (bkK l ix k) i x
   | none => bkK l ix k)
  | none => bkK l ix k
def bksF (l : List Nt) (ix : List Int) : Bk × List Int × List Int := bkK l ix ix.length
theorem bkK_next {l : List Nt} {ix : List Int} {k : Nat} {i : Int} {x : Nt} (h1 : ix[k]? = some i) (h2 : l[i.toNat]? = some x) : bkK l ix (k + 1) = bkStep (bkK l ix k) i x := by rw [bkK, h1]; simp only; rw [h2]
structure MapOk {α β : Type} (es : List (Nat × α × β)) (ck : Nat) : Prop where
 hb : ∀ e ∈ es, e.1 < ck
 nb : (es.map (·.1)).Nodup
 nk : (es.map (·.2.1)).Nodup
theorem mset_keys {α β : Type} [DecidableEq α] {ck : Nat} {a : α} {b : β} : ∀ {l : List (Nat × α × β)} {c : β}, mget l a = some c → (mset ck a b l).map (·.1) = l.map (·.1) ∧ (mset ck a b l).map (·.2.1) = l.map (·.2.1)
 | [], _, h => by cases h
 | e :: l, c, h => by
  simp only [mget] at h
  simp only [mset]
  split at h
  ·rename_i he
   rw [if_pos he]
   exact ⟨rfl, by simp [he]⟩
  ·rename_i he
   rw [if_neg he]
   obtain ⟨h1, h2⟩ := mset_keys (ck := ck) (b := b) h
   exact ⟨by simp [h1], by simp [h2]⟩
theorem mget_none {α β : Type} [DecidableEq α] {a : α} : ∀ {l : List (Nat × α × β)}, mget l a = none ↔ a ∉ l.map (·.2.1)
 | [] => by simp [mget]
 | e :: l => by
  simp only [mget, List.map_cons, List.mem_cons, not_or]
  split
  ·rename_i h; simp [h]
  ·rename_i h; rw [mget_none]; simp [h]
theorem MapOk.nil {α β : Type} : MapOk ([] : List (Nat × α × β)) 0 := ⟨by simp, by simp, by simp⟩
theorem MapOk.set {α β : Type} [DecidableEq α] {es : List (Nat × α × β)} {ck : Nat} (h : MapOk es ck) (a : α) (b : β) : MapOk (mset ck a b es) (mclk ck a es) := by
 cases hg : mget es a with
 | some c =>
  obtain ⟨h1, h2⟩ := mset_keys (ck := ck) (b := b) hg
  have hc : mclk ck a es = ck := by rw [mclk, hg]; rfl
  rw [hc]
  refine ⟨fun e he => ?_, by rw [h1]; exact h.nb, by rw [h2]; exact h.nk⟩
  have : e.1 ∈ (mset ck a b es).map (·.1) := List.mem_map.2 ⟨e, he, rfl⟩
  rw [h1] at this
  obtain ⟨e', he', h3⟩ := List.mem_map.1 this
  rw [← h3]
  exact h.hb e' he'
 | none =>
  have hc : mclk ck a es = ck + 1 := by rw [mclk, hg]; rfl
  rw [hc, zU1 hg]
  refine ⟨fun e he => ?_, ?_, ?_⟩
  ·rcases List.mem_append.1 he with he | he
   ·have := h.hb e he; omega
   ·rw [List.mem_singleton] at he; subst he; simp
  ·rw [List.map_append, List.nodup_append]
   refine ⟨h.nb, by simp, fun x hx y hy => ?_⟩
   simp only [List.map_cons, List.map_nil, List.mem_singleton] at hy
   subst hy
   obtain ⟨e, he, rfl⟩ := List.mem_map.1 hx
   have := h.hb e he
   omega
  ·rw [List.map_append, List.nodup_append]
   refine ⟨h.nk, by simp, fun x hx y hy => ?_⟩
   simp only [List.map_cons, List.map_nil, List.mem_singleton] at hy
   subst hy
   exact fun e => mget_none.1 hg (e ▸ hx)
theorem MapOk.del {α β : Type} [DecidableEq α] {es : List (Nat × α × β)} {ck : Nat} (h : MapOk es ck) (a : α) : MapOk (mdel a es) ck :=
 ⟨fun e he => h.hb e (mdel_sub.subset he), (mdel_sub.map _).nodup h.nb, (mdel_sub.map _).nodup h.nk⟩
theorem mget_mem {α β : Type} [DecidableEq α] {a : α} {b : β} : ∀ {l : List (Nat × α × β)}, mget l a = some b → ∃ i, (i, a, b) ∈ l
 | [], h => by cases h
 | e :: l, h => by
  simp only [mget] at h
  split at h
  ·rename_i he
   injection h with h
   exact ⟨e.1, by rw [he, ← h]; exact List.mem_cons_self⟩
  ·obtain ⟨i, hi⟩ := mget_mem h
   exact ⟨i, List.mem_cons_of_mem _ hi⟩
theorem mget_mdel {α β : Type} [DecidableEq α] {a c : α} : ∀ {l : List (Nat × α × β)}, (l.map (·.2.1)).Nodup → mget (mdel a l) c = if c = a then none else mget l c
 | [], _ => by simp [mdel, mget]
 | e :: l, hn => by
  rw [List.map_cons, List.nodup_cons] at hn
  simp only [mdel, mget]
  by_cases h : a = e.2.1
  ·rw [if_pos h]
   by_cases hc : c = a
   ·rw [if_pos hc, mget_none.2 (by rw [hc, h]; exact hn.1)]
   ·rw [if_neg hc, if_neg (by rw [← h]; exact hc)]
  ·rw [if_neg h]
   simp only [mget]
   by_cases hc : c = e.2.1
   ·rw [if_pos hc, if_pos hc, if_neg (by rw [hc]; exact fun e' => h e'.symm)]
   ·rw [if_neg hc, if_neg hc, mget_mdel hn.2]
def unsG {α β : Type} (es : List (Nat × α × β)) (seen : List Nat) : Nat := (es.filter fun e => !seen.contains e.1).length
theorem zH2 {α β : Type} {es : List (Nat × α × β)} {seen : List Nat} {e : Nat × α × β} (he : e ∈ es) (hn : e.1 ∉ seen) : unsG es (seen ++ [e.1]) < unsG es seen := by
 unfold unsG
 have h1 : (es.filter fun x => !(seen ++ [e.1]).contains x.1) = (es.filter fun x => !seen.contains x.1).filter fun x => !decide (x.1 = e.1) := by
  rw [List.filter_filter]
  refine List.filter_congr fun x _ => ?_
  simp [Bool.and_comm]
 rw [h1]
 have h2 : e ∈ es.filter fun x => !seen.contains x.1 := List.mem_filter.2 ⟨he, by simpa using hn⟩
 refine Nat.lt_of_le_of_ne (List.length_filter_le _ _) fun h3 => ?_
 have h4 := (List.length_filter_eq_length_iff.1 h3) e h2
 simp at h4
theorem zY2 {α β : Type} {f : α → β} : ∀ {l : List α}, (l.map f).Nodup → l.Nodup
 | [], _ => .nil
 | x :: l, h => by
  rw [List.map_cons, List.nodup_cons] at h
  exact List.nodup_cons.2 ⟨fun hx => h.1 (List.mem_map.2 ⟨x, hx, rfl⟩), zY2 h.2⟩
theorem born_eq {α β : Type} {x y : Nat × α × β} : ∀ {l : List (Nat × α × β)}, (l.map (·.1)).Nodup → x ∈ l → y ∈ l → x.1 = y.1 → x = y
 | [], _, h, _, _ => by cases h
 | z :: l, hn, hx, hy, he => by
  rw [List.map_cons, List.nodup_cons] at hn
  obtain ⟨h1, h2⟩ := hn
  rcases List.mem_cons.1 hx with hx | hx
  ·rcases List.mem_cons.1 hy with hy | hy
   ·rw [hx, hy]
   ·exact absurd (List.mem_map.2 ⟨y, hy, by rw [← he, hx]⟩) h1
  ·rcases List.mem_cons.1 hy with hy | hy
   ·exact absurd (List.mem_map.2 ⟨x, hx, by rw [he, hy]⟩) h1
   ·exact born_eq h2 hx hy he
theorem zl4 {α β : Type} {es T : List (Nat × α × β)} {seen : List Nat} (hb : (es.map (·.1)).Nodup) (hT : T.map (·.1) = seen) (hn : seen.Nodup) (hs : ∀ e ∈ T, e ∈ es) (hall : ∀ e ∈ es, e.1 ∈ seen) : T.Perm es := by
 subst hT
 have hTn : T.Nodup := zY2 hn
 have hen : es.Nodup := zY2 hb
 refine (List.perm_ext_iff_of_nodup hTn hen).2 fun e => ⟨hs e, fun he => ?_⟩
 obtain ⟨t, ht, h1⟩ := List.mem_map.1 (hall e he)
 have h2 := hs t ht
 have : t = e := born_eq hb h2 he h1
 exact this ▸ ht
end Go.Proofs.YtcdeonjdipcgpaaGreatDoor
-- NEWM
namespace Go.Proofs.YtcdeonjdipcgpaaGreatDoor
open Go Go.RowKit
set_option maxRecDepth 100000
section
variable {P : Program} {N : Nat} {E : Env} {F : Fm} {H : List OB} {o : Oper} {S : Nat → Prop} {ρ : List (Option Nat)} {a : Act} {w : World} {t yt : TypeId} {x y : Operand}
end
end Go.Proofs.YtcdeonjdipcgpaaGreatDoor
namespace Go.Proofs.YtcdeonjdipcgpaaGreatDoor
open Go Go.RowKit
set_option maxRecDepth 100000
abbrev ptrV (b : Nat) : Value := .pointer (some ⟨b, 0, none⟩)
abbrev pV (b : Nat) : AV := .c (.s (ptrV b))
section
variable {P : Program} {N : Nat} {E : Env} {F : Fm} {H : List OB} {o : Oper} {t yt : TypeId} {x y : Operand} {K : Fm → List OB → Prop} {Q : Exit → Fm → List OB → Prop}
theorem zE3 {i b : Nat} (hx : F.lookup i = some (.p b 0 0)) (h : ∀ B : Nat, K ((i, pV B) :: F) (H ++ [.eqv (.p b 0 0) (ptrV B)])) : Wk N E F H K := fun S ρ a w hR => by
 obtain ⟨h1, h2⟩ := hR.fr i _ hx
 have h4 := hR.eqv h2
 cases h2 with
 | p h0 h3 =>
  obtain ⟨B, hB⟩ := Option.isSome_iff_exists.1 h3
  have hd : (AV.p b 0 0).den ρ H = ptrV B := by simp [AV.den, hB]
  rw [hd] at h4 h1
  refine ⟨S, _, _, _, h B, h4.df, h4.sz, fun j y hj => ?_, h4.hp, h4.st, h4.nw, h4.nS, h4.pw, h4.ln, h4.pn⟩
  rw [List.lookup_cons] at hj
  split at hj
  ·rename_i he2
   obtain rfl : j = i := by simpa using he2
   injection hj with hj
   subst hj
   exact ⟨h1, .c (.s _)⟩
  ·exact h4.fr j y hj
theorem aw_ghostp {i b : Nat} {c : Code} (hx : F.lookup i = some (.p b 0 0)) (h : ∀ B : Nat, AW P N E c ((i, pV B) :: F) (H ++ [.eqv (.p b 0 0) (ptrV B)]) Q) : AW P N E c F H Q :=
 zB3 (zE3 (K := fun F' H' => ∃ B, F' = (i, pV B) :: F ∧ H' = H ++ [.eqv (.p b 0 0) (ptrV B)]) hx fun B => ⟨B, rfl, rfl⟩) fun F' H' ⟨B, h1, h2⟩ => by subst h1; subst h2; exact h B
theorem al_ghostp {ops : Array Oper} {i b : Nat} {l : List Oper} (hx : F.lookup i = some (.p b 0 0)) (h : ∀ B : Nat, AL P N E ops l ((i, pV B) :: F) (H ++ [.eqv (.p b 0 0) (ptrV B)]) Q) : AL P N E ops l F H Q :=
 al_wk (zE3 (K := fun F' H' => ∃ B, F' = (i, pV B) :: F ∧ H' = H ++ [.eqv (.p b 0 0) (ptrV B)]) hx fun B => ⟨B, rfl, rfl⟩) fun F' H' ⟨B, h1, h2⟩ => by subst h1; subst h2; exact h B
theorem at_ghostp {ops : Array Oper} {i b : Nat} {L : List (Nat × Option (List Nat))} (hx : F.lookup i = some (.p b 0 0)) (h : ∀ B : Nat, AT P N E ops L ((i, pV B) :: F) (H ++ [.eqv (.p b 0 0) (ptrV B)]) Q) : AT P N E ops L F H Q :=
 at_wk (zE3 (K := fun F' H' => ∃ B, F' = (i, pV B) :: F ∧ H' = H ++ [.eqv (.p b 0 0) (ptrV B)]) hx fun B => ⟨B, rfl, rfl⟩) fun F' H' ⟨B, h1, h2⟩ => by subst h1; subst h2; exact h B
theorem am_ghostp {ops : Array Oper} {i b n0 : Nat} {ps : List Plan} (hx : F.lookup i = some (.p b 0 0)) (h : ∀ B : Nat, AM P N E ops n0 ps ((i, pV B) :: F) (H ++ [.eqv (.p b 0 0) (ptrV B)]) Q) : AM P N E ops n0 ps F H Q :=
 am_wk (zE3 (K := fun F' H' => ∃ B, F' = (i, pV B) :: F ∧ H' = H ++ [.eqv (.p b 0 0) (ptrV B)]) hx fun B => ⟨B, rfl, rfl⟩) fun F' H' ⟨B, h1, h2⟩ => by subst h1; subst h2; exact h B
end
def encPt : Enc Value := ⟨fun v => v, fun v => .c (.s v), fun v ρ H => rfl, fun v w S ρ H => .c (.s _)⟩
abbrev mSP (l : List (Nat × List UInt8 × Value)) (ck : Nat) : OB := mpO encSt encPt l ck
def jlF : Nat → List Jb → List Nat → List (Nat × List UInt8 × Value)
 | i, j :: js, b :: bl => (i, j.nm, ptrV b) :: jlF (i + 1) js bl
 | _, _, _ => []
def plF {α : Type} (c : α → List CV) : List α → List Nat → List PE
 | j :: js, b :: bl => .bx (ptrV b) (c j) :: plF c js bl
 | _, _ => []
theorem jlF_snoc : ∀ {i : Nat} {js : List Jb} {bl : List Nat} {j : Jb} {b : Nat}, bl.length = js.length → jlF i (js ++ [j]) (bl ++ [b]) = jlF i js bl ++ [(i + js.length, j.nm, ptrV b)]
 | i, [], [], j, b, _ => rfl
 | i, x :: js, c :: bl, j, b, h => by
  simp only [List.cons_append, jlF]
  rw [jlF_snoc (by simpa using h)]
  simp only [List.length_cons]
  rw [show i + 1 + js.length = i + (js.length + 1) by omega]
 | i, [], _ :: _, _, _, h => by simp at h
 | i, _ :: _, [], _, _, h => by simp at h
theorem plF_snoc {α : Type} {c : α → List CV} : ∀ {js : List α} {bl : List Nat} {j : α} {b : Nat}, bl.length = js.length → plF c (js ++ [j]) (bl ++ [b]) = plF c js bl ++ [.bx (ptrV b) (c j)]
 | [], [], j, b, _ => rfl
 | x :: js, d :: bl, j, b, h => by
  simp only [List.cons_append, plF]
  rw [plF_snoc (by simpa using h)]
 | [], _ :: _, _, _, h => by simp at h
 | _ :: _, [], _, _, h => by simp at h
theorem jlF_get : ∀ {js : List Jb} {bl : List Nat} {i k0 : Nat} {s : List UInt8}, bl.length = js.length → (fndI (fun j => decide (s = j.nm)) js k0 = none → mget (jlF i js bl) s = none) ∧ ∀ k, fndI (fun j => decide (s = j.nm)) js k0 = some k → k0 ≤ k ∧ ∃ b, bl[k - k0]? = some b ∧ mget (jlF i js bl) s = some (ptrV b)
 | [], [], i, k0, s, _ => ⟨fun _ => rfl, fun k h => by cases h⟩
 | j :: js, b :: bl, i, k0, s, h => by
  simp only [fndI, jlF, mget]
  by_cases hs : s = j.nm
  ·rw [if_pos (by simpa using hs), if_pos hs]
   exact ⟨fun h => (by cases h), fun k hk => by injection hk with hk; subst hk; exact ⟨Nat.le_refl _, b, by simp, rfl⟩⟩
  ·rw [if_neg (by simpa using hs), if_neg hs]
   obtain ⟨h1, h2⟩ := jlF_get (js := js) (bl := bl) (i := i + 1) (k0 := k0 + 1) (s := s) (by simpa using h)
   refine ⟨h1, fun k hk => ?_⟩
   obtain ⟨h3, c, h4, h5⟩ := h2 k hk
   exact ⟨by omega, c, by rw [show k - k0 = (k - (k0 + 1)) + 1 by omega, List.getElem?_cons_succ]; exact h4, h5⟩
 | [], _ :: _, _, _, _, h => by simp at h
 | _ :: _, [], _, _, _, h => by simp at h
theorem zZ1 {js : List Jb} {bl : List Nat} {s : List UInt8} (h : bl.length = js.length) (hn : nmI js s = none) : mget (jlF 0 js bl) s = none := (jlF_get h).1 hn
theorem zc3 {js : List Jb} {bl : List Nat} {s : List UInt8} {k : Nat} (h : bl.length = js.length) (hn : nmI js s = some k) : ∃ b, bl[k]? = some b ∧ mget (jlF 0 js bl) s = some (ptrV b) := by
 obtain ⟨_, b, h1, h2⟩ := (jlF_get (i := 0) h).2 k hn
 exact ⟨b, by simpa using h1, h2⟩
theorem zx2 {α : Type} {c : α → List CV} : ∀ {js : List α} {bl : List Nat} {k : Nat} {j : α} {b : Nat}, js[k]? = some j → bl[k]? = some b → (plF c js bl)[k]? = some (.bx (ptrV b) (c j))
 | [], _, _, _, _, h, _ => by simp at h
 | _ :: _, [], _, _, _, _, h => by simp at h
 | x :: js, d :: bl, 0, j, b, h1, h2 => by
  simp only [List.getElem?_cons_zero, Option.some.injEq] at h1 h2
  subst h1; subst h2; rfl
 | x :: js, d :: bl, k + 1, j, b, h1, h2 => by
  simp only [List.getElem?_cons_succ] at h1 h2
  simp only [plF, List.getElem?_cons_succ]
  exact zx2 h1 h2
theorem plF_set {α : Type} {c : α → List CV} {f : α → α} : ∀ {js : List α} {bl : List Nat} {k : Nat} {j : α} {b : Nat}, js[k]? = some j → bl[k]? = some b → (plF c js bl).set k (.bx (ptrV b) (c (f j))) = plF c (js.modify k f) bl
 | [], _, _, _, _, h, _ => by simp at h
 | _ :: _, [], _, _, _, _, h => by simp at h
 | x :: js, d :: bl, 0, j, b, h1, h2 => by
  simp only [List.getElem?_cons_zero, Option.some.injEq] at h1 h2
  subst h1; subst h2; rfl
 | x :: js, d :: bl, k + 1, j, b, h1, h2 => by
  simp only [List.getElem?_cons_succ] at h1 h2
  simp only [plF, List.set_cons_succ, List.modify_succ_cons]
  rw [plF_set h1 h2]
theorem zL1 {f : Jb → Jb} (hf : ∀ j, (f j).nm = j.nm) : ∀ {js : List Jb} {bl : List Nat} {i k : Nat}, jlF i (js.modify k f) bl = jlF i js bl
 | [], _, _, k => by simp
 | _ :: _, [], _, k => by cases k <;> rfl
 | x :: js, d :: bl, i, 0 => by simp [jlF, hf]
 | x :: js, d :: bl, i, k + 1 => by simp only [List.modify_succ_cons, jlF]; rw [zL1 hf]
def stW (s : Int) : List UInt8 := if s = 0 then [114, 117, 110, 115] else if s = 1 then [100, 111, 110, 101] else [102, 97, 105, 108, 101, 100]
section
variable {N : Nat} {E : Env} {F : Fm} {H : List OB} {o : Oper} {b ck : Nat} {k : List UInt8}
theorem zV2 {x ix : Operand} {l : List (Nat × List UInt8 × Value)} {q : Value} (hq : (mget l k).getD (.pointer none) = q) (ho : o.op = .lookup 98 x ix false) (hx : ev F x = some (.mp b)) (hH : H[b]? = some (mSP l ck)) (hi : ev F ix = some (.c (T k))) : Rd Tryz.prog N E o F H (.c (.s q)) := by
 have := zG3 (N := N) (E := E) (ke := encSt) (ve := encPt) (k := k) (z := .pointer none) keySt ho Tryz.underlying98 (by kernel_rfl) hx hH hi (fun ρ H => encSt.den k ρ H)
 rwa [hq] at this
theorem ef_muJ {x ix y : Operand} {l : List (Nat × List UInt8 × Value)} {z : Value} (ho : o.op = .mapUpdate 98 x ix y) (hd : o.dst = none) (hx : ev F x = some (.mp b)) (hH : H[b]? = some (mSP l ck)) (hi : ev F ix = some (.c (T k))) (hy : ev F y = some (.c (.s z))) :
    Ef Tryz.prog N E o F H fun F' H' => F' = F ∧ H' = H.set b (mSP (mset ck k z l) (mclk ck k l)) :=
 zd3 (ke := encSt) (ve := encPt) (k := k) (z := z) keySt ho hd Tryz.underlying98 hx hH hi (fun ρ H => encSt.den k ρ H) hy (fun ρ H => encPt.den z ρ H)
theorem rd_lkJ2 {x ix : Operand} {l : List (Nat × List UInt8 × Value)} {q : Value} {c : Bool} (hq : (mget l k).getD (.pointer none) = q) (hc : (mget l k).isSome = c) (ho : o.op = .lookup 117 x ix true) (hx : ev F x = some (.mp b)) (hH : H[b]? = some (mSP l ck)) (hi : ev F ix = some (.c (T k))) : Rd Tryz.prog N E o F H (.t [.c (.s q), .c (B c)]) := by
 have := rd_lookupk (N := N) (E := E) (ke := encSt) (ve := encPt) (k := k) (z := .pointer none) keySt ho Tryz.underlying117 (by kernel_rfl) hx hH hi (fun ρ H => encSt.den k ρ H)
 rwa [hq, hc] at this
theorem ef_muJ2 {x ix y : Operand} {l : List (Nat × List UInt8 × Value)} {z : Value} (ho : o.op = .mapUpdate 117 x ix y) (hd : o.dst = none) (hx : ev F x = some (.mp b)) (hH : H[b]? = some (mSP l ck)) (hi : ev F ix = some (.c (T k))) (hy : ev F y = some (.c (.s z))) :
    Ef Tryz.prog N E o F H fun F' H' => F' = F ∧ H' = H.set b (mSP (mset ck k z l) (mclk ck k l)) :=
 zd3 (ke := encSt) (ve := encPt) (k := k) (z := z) keySt ho hd Tryz.underlying117 hx hH hi (fun ρ H => encSt.den k ρ H) hy (fun ρ H => encPt.den z ρ H)
end
end Go.Proofs.YtcdeonjdipcgpaaGreatDoor
