/- Maps in the logic: an entry is made ready, and gets its value later (several assignments at once). -/
import Derived.Test.YtlhbfcfjepbhpaaGreatDoorQbr
import Derived.Test.YtlhbfcfjepbhpaaGreatDoorQbc
import Derived.Test.YtlhbfcfjepbhpaaGreatDoorQbg
import Derived.Test.YtlhbfcfjepbhpaaGreatDoorQbj
import Derived.Test.YtlhbfcfjepbhpaaGreatDoorQbd
import Derived.Test.YtlhbfcfjepbhpaaGreatDoorQba
import Derived.Test.YtlhbfcfjepbhpaaGreatDoorQbb
import Derived.Test.YtlhbfcfjepbhpaaGreatDoorQao
import Derived.Lib.UnsafeStr
import Derived.Laws.Pointers
import Derived.LaidEqlPtr
import Derived.Laws.LoneSync
import Derived.Test.YtlhbfcfjepbhpaaGreatDoorQaz
set_option linter.unusedSimpArgs false
set_option linter.unusedVariables false
namespace Go.Proofs.YtlhbfcfjepbhpaaGreatDoor
open Go Go.RowKit
set_option maxRecDepth 100000
def xcall (P : Program) (orc : XCf) : Nat → XCf
 | 0, f, args, H, k => orc f args H k
 | n + 1, f, args, H, k => match orc f args H k with
  | some r => some r
  | none => xenter P (fun N c F H k => xcode P (xcall P orc n) 3000 N none false c F H k) f args H k
theorem callsIn_plain {P : Program} {f : FuncId} {args : Array Value} {w : World} {R : Ending → World → Prop} (h : CallsIn Fence.wide 0 P f args w R) : Calls P f args w R := callsIn_wide.1 h
theorem xcall_ok {P : Program} (hm : P.follows .mixedOrders = true) {orc : XCf} (ho : XCfOk P orc) : ∀ n, XCfOk P (xcall P orc n)
 | 0 => fun f args H k u H' k' h => ho f args H k u H' k' h
 | n + 1 => fun f args H k u H' k' h => by
  unfold xcall at h
  split at h
  ·rename_i r hr
   injection h with h
   subst h
   exact ho f args H k u H' k' hr
  ·intro w0 ρ γ w hH hok
   refine callsIn_plain (xenter_ok (n := 0) h (fun N c F e F' k2 a Q hx hR hQ => ?_) hH hok)
   exact (zk1 hm (xcall_ok hm ho n) 3000 (m := 0) (.inl ⟨rfl, rfl⟩) (fun h => by cases h) hx hR trivial hQ).1
def xnone : XCf := fun _ _ _ _ => none
theorem xnone_ok (P : Program) : XCfOk P xnone := fun f args H k u H' k' h => by cases h
def xrun (P : Program) (orc : XCf) (f : FuncId) : Option Value := match xcall P orc 60 f [] .nil 0 with
 | some (.v u, _, _) => some u
 | _ => none
theorem acalls_of_xrun {P : Program} (hm : P.follows .mixedOrders = true) {orc : XCf} (ho : XCfOk P orc) {f : FuncId} {u : Value} (h : xrun P orc f = some u) : ACalls P f [] [] fun v H => v = .c (.s u) ∧ H = [] := fun S ρ w hp hw => by
 unfold xrun at h
 split at h
 ·rename_i u' H' k' hx
  injection h with h
  subst h
  have hH : XH ⟨w, fun _ => none, []⟩ (fun _ => 0) (fun _ => 0) .nil w := ⟨fun i j o o' h => (by cases h), fun i o h => (by cases h), fun i o h => (by cases h), fun i o h => (by cases h), ⟨Stp.refl _ _, fun B ob h => (by cases h)⟩⟩
  refine (xcall_ok hm ho 60 _ _ _ _ _ _ _ hx _ _ _ w hH trivial).mono ?_
  rintro e w' ⟨ρ', γ', rfl, h1, _, _⟩
  have hρ : ρ = [] := List.eq_nil_of_length_eq_zero hp.len
  subst hρ
  have hst := h1.st
  refine ⟨.c (.s u'), [], [], S, rfl, ⟨rfl, rfl⟩, .c (.s u'), ⟨rfl, fun i i' B h => (by cases h), fun i B h => (by cases h), fun i B h => (by cases h), fun b hb => Nat.lt_of_lt_of_le (hp.sS b hb) hst.size, fun i o h => (by simp at h), PL.none fun _ _ _ => zT3⟩, ⟨hst.os, hst.tape, hst.output, hst.size, fun b hb _ => hst.block b hb (fun h => h), hst.drawn⟩, fun b hb => .inl hb, fun i B h => (by cases h), fun i k B h => absurd h zT3, fun i hi => (by simp at hi), fun h => (by cases h)⟩
 ·cases h
end Go.Proofs.YtlhbfcfjepbhpaaGreatDoor
-- NEWM
namespace Go.Proofs.YtlhbfcfjepbhpaaGreatDoor
open Go Go.RowKit
set_option maxRecDepth 1000000
theorem NtB.s {x : Nt} (h : NtB x) : NtS x := ⟨Nat.le_trans h.st (by decide), Nat.le_trans h.pr (by decide), Nat.le_trans h.jb (by decide), Nat.le_trans h.sp (by decide), Nat.le_trans h.of_ (by decide)⟩
end Go.Proofs.YtlhbfcfjepbhpaaGreatDoor
-- NEWM
namespace Go.Proofs.YtlhbfcfjepbhpaaGreatDoor
open Go Go.RowKit
set_option maxRecDepth 1000000
def rgtF (zs : List Int) (many : Nat) : Nat → Int → List Nt × Int
 | 0, a => ([], a)
 | k + 1, a => if chkN (notesF zs a many) = 0 then (notesF zs a many, (gensF zs a many).2.a) else rgtF zs many k (gensF zs a many).2.a
theorem zf4 (many : Nat) (hmany : many ≤ 20) (v : Value) (zs : List Int) (a : Int) (hs : StrOk zs) (h0 : 0 ≤ a) (h1 : a ≤ 700000000) : ACalls Tryz.prog 17 [.p 0 0 0, .c (I (many : Nat))] [strm v zs a] fun u H => ∃ (r : List Nt) (c : Nat) (a' : Int), rgtF zs many 8 a = (r, a') ∧ a ≤ a' ∧ a' ≤ a + 3200 ∧ r.length ≤ many ∧ chkN r = 0 ∧ (∀ x ∈ r, NtB x) ∧ r.length ≤ c ∧ u = .o 1 0 r.length c ∧ H = [strm v zs a', .arr 39 10 c (noRs r)] := by
 refine zg (N := 16) Tryz.func17 rfl rfl (by simp) fun E hE => ?_
 refine WA ?_
 refine WA ?_
 refine zC (fun m F H => ∃ (k : Nat) (a' : Int), m + k = 8 ∧ a ≤ a' ∧ a' ≤ a + 400 * k ∧ rgtF zs many m a' = rgtF zs many 8 a ∧ F = [(0, .p 0 0 0), (1, .c (I (many : Nat))), (6, .c (I k))] ∧ H = [strm v zs a']) ?_ ?_
 ·refine zl [some 0] (fun _ => [(0, .p 0 0 0), (1, .c (I (many : Nat))), (6, .c (I (0 : Nat)))]) (fun _ => [strm v zs a]) (by decide) (ZNL hE) ZCF ZCH (fun _ => ?_)
  exact ⟨8, 0, a, by omega, by omega, by omega, rfl, rfl, rfl⟩
 rintro m F H ⟨k, a', hk, ha1, ha2, hrg, rfl, rfl⟩
 refine WA ?_
 refine zq rfl (fun hlt => ?_) (fun hge => ?_)
 ·obtain ⟨m1, rfl⟩ : ∃ m1, m = m1 + 1 := ⟨m - 1, by omega⟩
  rw [rgtF] at hrg
  refine WR ?_
  refine zh rfl (zM1 [0] (fun _ => [strm v zs a']) false (fun _ => notelist_f many (by omega) v zs a' hs (by omega) (by omega)) rfl .fn rfl (by decide) (by kernel_rfl) rfl (fun _g => .cons (.p rfl) (.cons (.c rfl) .nil)) (by decide) ZCH (by simp)) ?_
  rintro F1 H1 ⟨_, _, _, _, ⟨r, c, a2, hf, ha2, h3, h4, hl, hb, hc, rfl, rfl⟩, hF, hH⟩
  (refine NSU hF hH ?_; clear hF hH; rintro rfl rfl)
  refine WE ?_
  rw [← hf, ← ha2] at hrg
  refine WR ?_
  refine zh rfl (zc true (fun g => notesfault_v (g (.o 1 0 r.length c)) r (by omega) (fun x hx => (hb x hx).s)) rfl .fn rfl (by decide) (by kernel_rfl) rfl (fun _ => .cons (.frz rfl rfl (by rw [List.drop_zero, List.take_of_length_le (by simp)]) (by simp) rfl) .nil) (fun _ _ _ _ ⟨hu, hH⟩ => by rw [hu, hH]; exact ⟨.c (.inl trivial), by simp⟩)) ?_
  rintro _ _ ⟨_, _, _, ⟨rfl, rfl⟩, hF, hH⟩
  (refine NST hF hH ?_; clear hF hH; rintro rfl rfl)
  refine WE ?_
  generalize hck : chkN r = e at hrg ⊢
  refine zq rfl (fun hp => ?_) (fun hp => ?_)
  ·subst hp
   rw [if_pos rfl] at hrg
   refine WA ?_
   exact zm4 [some 0, some 1] (fun _ => [strm v zs a2, .arr 39 10 c (noRs r)]) rfl rfl rfl rfl rfl (by decide) (ZNK rfl) ZCH (fun _ => ⟨r, c, a2, hrg.symm, by omega, by omega, by omega, hck, hb, by omega, rfl, rfl⟩)
  ·rw [if_neg hp] at hrg
   refine ZZ ?_
   refine WA ?_
   refine zl [some 0] (fun _ => [(0, .p 0 0 0), (1, .c (I (many : Nat))), (6, .c (I (k + 1 : Nat)))]) (fun _ => [strm v zs a2]) (by decide) (ZNL hE) ZCF ZCH (fun _ => ?_)
   exact ⟨m1, by omega, k + 1, a2, by omega, by omega, by omega, hrg, rfl, rfl⟩
 obtain rfl : m = 0 := by omega
 refine ZZ ?_
 refine WA ?_
 exact zZ (us := [.c (.r (.slice none 0 0) [])]) [some 0, none] (fun _ => .o 1 0 0 0) (fun _ => [strm v zs a', .arr 39 10 0 []]) (.tmp rfl .nil) (by decide) (ZNK rfl) (fun _ => .nil rfl) ZCH (fun _ => ⟨[], 0, a', hrg.symm, by omega, by omega, Nat.zero_le _, by decide, by simp, Nat.le_refl _, rfl, rfl⟩)
end Go.Proofs.YtlhbfcfjepbhpaaGreatDoor
namespace Go.Proofs.YtlhbfcfjepbhpaaGreatDoor
open Go Go.RowKit
structure Jb where
 nm : List UInt8
 pr : List UInt8
 st : Int
 ly : List Int
 all : Int
 beg : Int
 en : Int
structure Bk where
 js : List Jb
 sp : List (Nat × List UInt8 × List UInt8)
 spk : Nat
 lf : List (Nat × List UInt8 × Int)
 lfk : Nat
 us : List (Nat × List UInt8 × Int)
 usk : Nat
def fndI {α : Type} (p : α → Bool) : List α → Nat → Option Nat
 | [], _ => none
 | x :: l, i => if p x = true then some i else fndI p l (i + 1)
theorem zc3 {α : Type} {p : α → Bool} : ∀ {l : List α} {i k : Nat}, fndI p l i = some k → i ≤ k ∧ ∃ x, l[k - i]? = some x ∧ p x = true
 | [], _, _, h => by cases h
 | x :: l, i, k, h => by
  rw [fndI] at h
  split at h
  ·rename_i hp
   injection h with h
   subst h
   exact ⟨Nat.le_refl _, x, by simp, hp⟩
  ·obtain ⟨h1, y, h2, h3⟩ := zc3 h
   exact ⟨by omega, y, by rw [show k - i = (k - (i + 1)) + 1 by omega, List.getElem?_cons_succ]; exact h2, h3⟩
theorem zK3 {α : Type} {p : α → Bool} : ∀ {l : List α} {i : Nat}, fndI p l i = none → ∀ x ∈ l, p x = false
 | [], _, _, x, hx => by cases hx
 | y :: l, i, h, x, hx => by
  rw [fndI] at h
  split at h
  ·cases h
  ·rename_i hp
   rcases List.mem_cons.1 hx with rfl | hx
   ·simpa using hp
   ·exact zK3 h x hx
theorem fndI_is {α : Type} {p : α → Bool} {l : List α} {k : Nat} {x : α} (h1 : l[k]? = some x) (h2 : p x = true) (hu : ∀ i y, l[i]? = some y → p y = true → i = k) : fndI p l 0 = some k := by
 cases h : fndI p l 0 with
 | none => rw [zK3 h x (List.mem_of_getElem? h1)] at h2; cases h2
 | some q =>
  obtain ⟨_, y, h3, h4⟩ := zc3 h
  rw [hu q y (by simpa using h3) h4]
theorem fndI_no {α : Type} {p : α → Bool} {l : List α} (h : ∀ x ∈ l, p x = false) : fndI p l 0 = none := by
 cases hq : fndI p l 0 with
 | none => rfl
 | some q =>
  obtain ⟨_, y, h3, h4⟩ := zc3 hq
  rw [h y (List.mem_of_getElem? h3)] at h4
  cases h4
def runI (js : List Jb) (p : List UInt8) : Option Nat := fndI (fun j => decide (j.pr = p) && decide (j.st = 0)) js 0
def nmI (js : List Jb) (s : List UInt8) : Option Nat := fndI (fun j => decide (s = j.nm)) js 0
def runJ (js : List Jb) (p : List UInt8) : Option Jb := (runI js p).bind fun k => js[k]?
theorem zh2 {js : List Jb} {p : List UInt8} {k : Nat} (h : runI js p = some k) : ∃ j, js[k]? = some j ∧ j.pr = p ∧ j.st = 0 := by
 obtain ⟨_, j, h1, h2⟩ := zc3 h
 simp only [Bool.and_eq_true, decide_eq_true_eq] at h2
 exact ⟨j, by simpa using h1, h2.1, h2.2⟩
theorem nmI_none {js : List Jb} {s : List UInt8} (h : nmI js s = none) : ∀ j ∈ js, s ≠ j.nm := fun j hj => of_decide_eq_false (zK3 h j hj)
theorem runI_none {js : List Jb} {p : List UInt8} (h : runI js p = none) : ∀ j ∈ js, ¬ (j.pr = p ∧ j.st = 0) := fun j hj ⟨h1, h2⟩ => by
 have := zK3 h j hj
 simp [h1, h2] at this
structure JsOk (js : List Jb) : Prop where
 nm : ∀ (i k : Nat) (a b : Jb), js[i]? = some a → js[k]? = some b → a.nm = b.nm → i = k
 pr : ∀ (i k : Nat) (a b : Jb), js[i]? = some a → js[k]? = some b → a.pr = b.pr → a.st = 0 → b.st = 0 → i = k
 st : ∀ j ∈ js, j.st = 0 ∨ j.st = 1 ∨ j.st = 2
 ne : ∀ j ∈ js, j.nm ≠ []
 all : ∀ j ∈ js, (j.ly.length : Int) ≤ j.all ∧ j.all ≤ 1000
theorem nmI_is {js : List Jb} (h : JsOk js) {k : Nat} {j : Jb} (hk : js[k]? = some j) : nmI js j.nm = some k := fndI_is hk (by simp) fun i y hy hp => h.nm i k y j hy hk (of_decide_eq_true hp).symm
def stopJ (js : List Jb) (p : List UInt8) (s at_ : Int) : List Jb := match runI js p with
 | some k => js.modify k fun j => { j with st := s, en := at_ }
 | none => js
def layJ (js : List Jb) (p : List UInt8) (at_ : Int) : List Jb := match runI js p with
 | some k => js.modify k fun j => { j with ly := j.ly ++ [at_] }
 | none => js
def inUse (sp : List (Nat × List UInt8 × List UInt8)) (s : List UInt8) : Bool := sp.any fun e => decide (e.2.2 = s)
def rfE (b : Bk) (x : Nt) : Int :=
 if x.kd = 1 then (if (nmI b.js x.jb).isSome = true then 6 else if (runI b.js x.pr).isSome = true then 12 else 0)
 else if x.kd = 2 then (match runJ b.js x.pr with
  | none => 8
  | some j => if x.n ≠ (j.ly.length : Int) + 1 then 7 else if j.all < x.n then 2 else 0)
 else if x.kd = 3 then (match runJ b.js x.pr with
  | none => 8
  | some j => if (j.ly.length : Int) < j.all then 11 else 0)
 else if x.kd = 4 then (if (runI b.js x.pr).isSome = true then 0 else 8)
 else if x.kd = 5 then (if inUse b.sp x.sp = true then 6 else 0)
 else if x.kd = 6 then (match mget b.sp x.pr with
  | none => 8
  | some k => if (mget b.lf k).getD 0 < x.n then 12 else 0)
 else 0
def ntS (b : Bk) (x : Nt) : Bk :=
 if x.kd = 1 then { b with js := b.js ++ [⟨x.jb, x.pr, 0, [], x.n, x.at_, 0⟩] }
 else if x.kd = 2 then { b with js := layJ b.js x.pr x.at_ }
 else if x.kd = 3 then { b with js := stopJ b.js x.pr 1 x.at_ }
 else if x.kd = 4 then { b with js := stopJ b.js x.pr 2 x.at_ }
 else if x.kd = 5 then { b with sp := mset b.spk x.pr x.sp b.sp, spk := mclk b.spk x.pr b.sp, lf := mset b.lfk x.sp x.n b.lf, lfk := mclk b.lfk x.sp b.lf }
 else if x.kd = 6 then { b with lf := mset b.lfk ((mget b.sp x.pr).getD []) ((mget b.lf ((mget b.sp x.pr).getD [])).getD 0 - x.n) b.lf, lfk := mclk b.lfk ((mget b.sp x.pr).getD []) b.lf, us := mset b.usk ((mget b.sp x.pr).getD []) ((mget b.us ((mget b.sp x.pr).getD [])).getD 0 + x.n) b.us, usk := mclk b.usk ((mget b.sp x.pr).getD []) b.us }
 else b
def bk0 : Bk := ⟨[], [], 0, [], 0, [], 0⟩
def bkStep (s : Bk × List Int × List Int) (i : Int) (x : Nt) : Bk × List Int × List Int :=
 if rfE s.1 x ≠ 0 then (s.1, s.2.1 ++ [i], s.2.2 ++ [rfE s.1 x]) else (ntS s.1 x, s.2.1, s.2.2)
def bkK (l : List Nt) (ix : List Int) : Nat → Bk × List Int × List Int
 | 0 => (bk0, [], [])
 | k + 1 => match ix[k]? with
  | some i => (match l[i.toNat]? with
   | some x => bkStep (bkK l ix k) i x
   | none => bkK l ix k)
  | none => bkK l ix k
def bksF (l : List Nt) (ix : List Int) : Bk × List Int × List Int := bkK l ix ix.length
theorem bkK_next {l : List Nt} {ix : List Int} {k : Nat} {i : Int} {x : Nt} (h1 : ix[k]? = some i) (h2 : l[i.toNat]? = some x) : bkK l ix (k + 1) = bkStep (bkK l ix k) i x := by rw [bkK, h1]; simp only; rw [h2]
structure MapOk {α β : Type} (es : List (Nat × α × β)) (ck : Nat) : Prop where
 hb : ∀ e ∈ es, e.1 < ck
 nb : (es.map (·.1)).Nodup
 nk : (es.map (·.2.1)).Nodup
theorem mset_keys {α β : Type} [DecidableEq α] {ck : Nat} {a : α} {b : β} : ∀ {l : List (Nat × α × β)} {c : β}, mget l a = some c → (mset ck a b l).map (·.1) = l.map (·.1) ∧ (mset ck a b l).map (·.2.1) = l.map (·.2.1)
 | [], _, h => by cases h
 | e :: l, c, h => by
  simp only [mget] at h
  simp only [mset]
  split at h
  ·rename_i he
   rw [if_pos he]
   exact ⟨rfl, by simp [he]⟩
  ·rename_i he
   rw [if_neg he]
   obtain ⟨h1, h2⟩ := mset_keys (ck := ck) (b := b) h
   exact ⟨by simp [h1], by simp [h2]⟩
theorem mget_none {α β : Type} [DecidableEq α] {a : α} : ∀ {l : List (Nat × α × β)}, mget l a = none ↔ a ∉ l.map (·.2.1)
 | [] => by simp [mget]
 | e :: l => by
  simp only [mget, List.map_cons, List.mem_cons, not_or]
  split
  ·rename_i h; simp [h]
  ·rename_i h; rw [mget_none]; simp [h]
theorem MapOk.nil {α β : Type} : MapOk ([] : List (Nat × α × β)) 0 := ⟨by simp, by simp, by simp⟩
theorem MapOk.set {α β : Type} [DecidableEq α] {es : List (Nat × α × β)} {ck : Nat} (h : MapOk es ck) (a : α) (b : β) : MapOk (mset ck a b es) (mclk ck a es) := by
 cases hg : mget es a with
 | some c =>
  obtain ⟨h1, h2⟩ := mset_keys (ck := ck) (b := b) hg
  have hc : mclk ck a es = ck := by rw [mclk, hg]; rfl
  rw [hc]
  refine ⟨fun e he => ?_, by rw [h1]; exact h.nb, by rw [h2]; exact h.nk⟩
  have : e.1 ∈ (mset ck a b es).map (·.1) := List.mem_map.2 ⟨e, he, rfl⟩
  rw [h1] at this
  obtain ⟨e', he', h3⟩ := List.mem_map.1 this
  rw [← h3]
  exact h.hb e' he'
 | none =>
  have hc : mclk ck a es = ck + 1 := by rw [mclk, hg]; rfl
  rw [hc, zz2 hg]
  refine ⟨fun e he => ?_, ?_, ?_⟩
  ·rcases List.mem_append.1 he with he | he
   ·have := h.hb e he; omega
   ·rw [List.mem_singleton] at he; subst he; simp
  ·rw [List.map_append, List.nodup_append]
   refine ⟨h.nb, by simp, fun x hx y hy => ?_⟩
   simp only [List.map_cons, List.map_nil, List.mem_singleton] at hy
   subst hy
   obtain ⟨e, he, rfl⟩ := List.mem_map.1 hx
   have := h.hb e he
   omega
  ·rw [List.map_append, List.nodup_append]
   refine ⟨h.nk, by simp, fun x hx y hy => ?_⟩
   simp only [List.map_cons, List.map_nil, List.mem_singleton] at hy
   subst hy
   exact fun e => mget_none.1 hg (e ▸ hx)
theorem MapOk.del {α β : Type} [DecidableEq α] {es : List (Nat × α × β)} {ck : Nat} (h : MapOk es ck) (a : α) : MapOk (mdel a es) ck :=
 ⟨fun e he => h.hb e (mdel_sub.subset he), (mdel_sub.map _).nodup h.nb, (mdel_sub.map _).nodup h.nk⟩
theorem mget_mdel {α β : Type} [DecidableEq α] {a c : α} : ∀ {l : List (Nat × α × β)}, (l.map (·.2.1)).Nodup → mget (mdel a l) c = if c = a then none else mget l c
 | [], _ => by simp [mdel, mget]
 | e :: l, hn => by
  rw [List.map_cons, List.nodup_cons] at hn
  simp only [mdel, mget]
  by_cases h : a = e.2.1
  ·rw [if_pos h]
   by_cases hc : c = a
   ·rw [if_pos hc, mget_none.2 (by rw [hc, h]; exact hn.1)]
   ·rw [if_neg hc, if_neg (by rw [← h]; exact hc)]
  ·rw [if_neg h]
   simp only [mget]
   by_cases hc : c = e.2.1
   ·rw [if_pos hc, if_pos hc, if_neg (by rw [hc]; exact fun e' => h e'.symm)]
   ·rw [if_neg hc, if_neg hc, mget_mdel hn.2]
def unsG {α β : Type} (es : List (Nat × α × β)) (seen : List Nat) : Nat := (es.filter fun e => !seen.contains e.1).length
theorem unsG_lt {α β : Type} {es : List (Nat × α × β)} {seen : List Nat} {e : Nat × α × β} (he : e ∈ es) (hn : e.1 ∉ seen) : unsG es (seen ++ [e.1]) < unsG es seen := by
 unfold unsG
 have h1 : (es.filter fun x => !(seen ++ [e.1]).contains x.1) = (es.filter fun x => !seen.contains x.1).filter fun x => !decide (x.1 = e.1) := by
  rw [List.filter_filter]
  refine List.filter_congr fun x _ => ?_
  simp [Bool.and_comm]
 rw [h1]
 have h2 : e ∈ es.filter fun x => !seen.contains x.1 := List.mem_filter.2 ⟨he, by simpa using hn⟩
 refine Nat.lt_of_le_of_ne (List.length_filter_le _ _) fun h3 => ?_
 have h4 := (List.length_filter_eq_length_iff.1 h3) e h2
 simp at h4
theorem born_eq {α β : Type} {x y : Nat × α × β} : ∀ {l : List (Nat × α × β)}, (l.map (·.1)).Nodup → x ∈ l → y ∈ l → x.1 = y.1 → x = y
 | [], _, h, _, _ => by cases h
 | z :: l, hn, hx, hy, he => by
  rw [List.map_cons, List.nodup_cons] at hn
  obtain ⟨h1, h2⟩ := hn
  rcases List.mem_cons.1 hx with hx | hx
  ·rcases List.mem_cons.1 hy with hy | hy
   ·rw [hx, hy]
   ·exact absurd (List.mem_map.2 ⟨y, hy, by rw [← he, hx]⟩) h1
  ·rcases List.mem_cons.1 hy with hy | hy
   ·exact absurd (List.mem_map.2 ⟨x, hx, by rw [he, hy]⟩) h1
   ·exact born_eq h2 hx hy he
end Go.Proofs.YtlhbfcfjepbhpaaGreatDoor
-- NEWM
namespace Go.Proofs.YtlhbfcfjepbhpaaGreatDoor
open Go Go.RowKit
set_option maxRecDepth 100000
section
variable {P : Program} {N : Nat} {E : Env} {F : Fm} {H : List OB} {o : Oper} {S : Nat → Prop} {ρ : List (Option Nat)} {a : Act} {w : World} {t yt : TypeId} {x y : Operand}
end
end Go.Proofs.YtlhbfcfjepbhpaaGreatDoor
namespace Go.Proofs.YtlhbfcfjepbhpaaGreatDoor
open Go Go.RowKit
set_option maxRecDepth 100000
abbrev ptrV (b : Nat) : Value := .pointer (some ⟨b, 0, none⟩)
abbrev pV (b : Nat) : AV := .c (.s (ptrV b))
section
variable {P : Program} {N : Nat} {E : Env} {F : Fm} {H : List OB} {o : Oper} {t yt : TypeId} {x y : Operand} {K : Fm → List OB → Prop} {Q : Exit → Fm → List OB → Prop}
theorem zB3 {i b : Nat} (hx : F.lookup i = some (.p b 0 0)) (h : ∀ B : Nat, K ((i, pV B) :: F) (H ++ [.eqv (.p b 0 0) (ptrV B)])) : Wk N E F H K := fun S ρ a w hR => by
 obtain ⟨h1, h2⟩ := hR.fr i _ hx
 have h4 := hR.eqv h2
 cases h2 with
 | p h0 h3 =>
  obtain ⟨B, hB⟩ := Option.isSome_iff_exists.1 h3
  have hd : (AV.p b 0 0).den ρ H = ptrV B := by simp [AV.den, hB]
  rw [hd] at h4 h1
  refine ⟨S, _, _, _, h B, h4.df, h4.sz, fun j y hj => ?_, h4.hp, h4.st, h4.nw, h4.nS, h4.pw, h4.ln, h4.pn⟩
  rw [List.lookup_cons] at hj
  split at hj
  ·rename_i he2
   obtain rfl : j = i := by simpa using he2
   injection hj with hj
   subst hj
   exact ⟨h1, .c (.s _)⟩
  ·exact h4.fr j y hj
theorem aw_ghostp {i b : Nat} {c : Code} (hx : F.lookup i = some (.p b 0 0)) (h : ∀ B : Nat, AW P N E c ((i, pV B) :: F) (H ++ [.eqv (.p b 0 0) (ptrV B)]) Q) : AW P N E c F H Q :=
 aw_wk (zB3 (K := fun F' H' => ∃ B, F' = (i, pV B) :: F ∧ H' = H ++ [.eqv (.p b 0 0) (ptrV B)]) hx fun B => ⟨B, rfl, rfl⟩) fun F' H' ⟨B, h1, h2⟩ => by subst h1; subst h2; exact h B
theorem al_ghostp {ops : Array Oper} {i b : Nat} {l : List Oper} (hx : F.lookup i = some (.p b 0 0)) (h : ∀ B : Nat, AL P N E ops l ((i, pV B) :: F) (H ++ [.eqv (.p b 0 0) (ptrV B)]) Q) : AL P N E ops l F H Q :=
 al_wk (zB3 (K := fun F' H' => ∃ B, F' = (i, pV B) :: F ∧ H' = H ++ [.eqv (.p b 0 0) (ptrV B)]) hx fun B => ⟨B, rfl, rfl⟩) fun F' H' ⟨B, h1, h2⟩ => by subst h1; subst h2; exact h B
theorem at_ghostp {ops : Array Oper} {i b : Nat} {L : List (Nat × Option (List Nat))} (hx : F.lookup i = some (.p b 0 0)) (h : ∀ B : Nat, AT P N E ops L ((i, pV B) :: F) (H ++ [.eqv (.p b 0 0) (ptrV B)]) Q) : AT P N E ops L F H Q :=
 at_wk (zB3 (K := fun F' H' => ∃ B, F' = (i, pV B) :: F ∧ H' = H ++ [.eqv (.p b 0 0) (ptrV B)]) hx fun B => ⟨B, rfl, rfl⟩) fun F' H' ⟨B, h1, h2⟩ => by subst h1; subst h2; exact h B
theorem am_ghostp {ops : Array Oper} {i b n0 : Nat} {ps : List Plan} (hx : F.lookup i = some (.p b 0 0)) (h : ∀ B : Nat, AM P N E ops n0 ps ((i, pV B) :: F) (H ++ [.eqv (.p b 0 0) (ptrV B)]) Q) : AM P N E ops n0 ps F H Q :=
 am_wk (zB3 (K := fun F' H' => ∃ B, F' = (i, pV B) :: F ∧ H' = H ++ [.eqv (.p b 0 0) (ptrV B)]) hx fun B => ⟨B, rfl, rfl⟩) fun F' H' ⟨B, h1, h2⟩ => by subst h1; subst h2; exact h B
end
def encPt : Enc Value := ⟨fun v => v, fun v => .c (.s v), fun v ρ H => rfl, fun v w S ρ H => .c (.s _)⟩
abbrev mSP (l : List (Nat × List UInt8 × Value)) (ck : Nat) : OB := mpO encSt encPt l ck
def jlF : Nat → List Jb → List Nat → List (Nat × List UInt8 × Value)
 | i, j :: js, b :: bl => (i, j.nm, ptrV b) :: jlF (i + 1) js bl
 | _, _, _ => []
def plF {α : Type} (c : α → List CV) : List α → List Nat → List PE
 | j :: js, b :: bl => .bx (ptrV b) (c j) :: plF c js bl
 | _, _ => []
theorem jlF_snoc : ∀ {i : Nat} {js : List Jb} {bl : List Nat} {j : Jb} {b : Nat}, bl.length = js.length → jlF i (js ++ [j]) (bl ++ [b]) = jlF i js bl ++ [(i + js.length, j.nm, ptrV b)]
 | i, [], [], j, b, _ => rfl
 | i, x :: js, c :: bl, j, b, h => by
  simp only [List.cons_append, jlF]
  rw [jlF_snoc (by simpa using h)]
  simp only [List.length_cons]
  rw [show i + 1 + js.length = i + (js.length + 1) by omega]
 | i, [], _ :: _, _, _, h => by simp at h
 | i, _ :: _, [], _, _, h => by simp at h
theorem plF_snoc {α : Type} {c : α → List CV} : ∀ {js : List α} {bl : List Nat} {j : α} {b : Nat}, bl.length = js.length → plF c (js ++ [j]) (bl ++ [b]) = plF c js bl ++ [.bx (ptrV b) (c j)]
 | [], [], j, b, _ => rfl
 | x :: js, d :: bl, j, b, h => by
  simp only [List.cons_append, plF]
  rw [plF_snoc (by simpa using h)]
 | [], _ :: _, _, _, h => by simp at h
 | _ :: _, [], _, _, h => by simp at h
theorem jlF_get : ∀ {js : List Jb} {bl : List Nat} {i k0 : Nat} {s : List UInt8}, bl.length = js.length → (fndI (fun j => decide (s = j.nm)) js k0 = none → mget (jlF i js bl) s = none) ∧ ∀ k, fndI (fun j => decide (s = j.nm)) js k0 = some k → k0 ≤ k ∧ ∃ b, bl[k - k0]? = some b ∧ mget (jlF i js bl) s = some (ptrV b)
 | [], [], i, k0, s, _ => ⟨fun _ => rfl, fun k h => by cases h⟩
 | j :: js, b :: bl, i, k0, s, h => by
  simp only [fndI, jlF, mget]
  by_cases hs : s = j.nm
  ·rw [if_pos (by simpa using hs), if_pos hs]
   exact ⟨fun h => (by cases h), fun k hk => by injection hk with hk; subst hk; exact ⟨Nat.le_refl _, b, by simp, rfl⟩⟩
  ·rw [if_neg (by simpa using hs), if_neg hs]
   obtain ⟨h1, h2⟩ := jlF_get (js := js) (bl := bl) (i := i + 1) (k0 := k0 + 1) (s := s) (by simpa using h)
   refine ⟨h1, fun k hk => ?_⟩
   obtain ⟨h3, c, h4, h5⟩ := h2 k hk
   exact ⟨by omega, c, by rw [show k - k0 = (k - (k0 + 1)) + 1 by omega, List.getElem?_cons_succ]; exact h4, h5⟩
 | [], _ :: _, _, _, _, h => by simp at h
 | _ :: _, [], _, _, _, h => by simp at h
theorem jl_none {js : List Jb} {bl : List Nat} {s : List UInt8} (h : bl.length = js.length) (hn : nmI js s = none) : mget (jlF 0 js bl) s = none := (jlF_get h).1 hn
theorem jl_some {js : List Jb} {bl : List Nat} {s : List UInt8} {k : Nat} (h : bl.length = js.length) (hn : nmI js s = some k) : ∃ b, bl[k]? = some b ∧ mget (jlF 0 js bl) s = some (ptrV b) := by
 obtain ⟨_, b, h1, h2⟩ := (jlF_get (i := 0) h).2 k hn
 exact ⟨b, by simpa using h1, h2⟩
theorem plF_get {α : Type} {c : α → List CV} : ∀ {js : List α} {bl : List Nat} {k : Nat} {j : α} {b : Nat}, js[k]? = some j → bl[k]? = some b → (plF c js bl)[k]? = some (.bx (ptrV b) (c j))
 | [], _, _, _, _, h, _ => by simp at h
 | _ :: _, [], _, _, _, _, h => by simp at h
 | x :: js, d :: bl, 0, j, b, h1, h2 => by
  simp only [List.getElem?_cons_zero, Option.some.injEq] at h1 h2
  subst h1; subst h2; rfl
 | x :: js, d :: bl, k + 1, j, b, h1, h2 => by
  simp only [List.getElem?_cons_succ] at h1 h2
  simp only [plF, List.getElem?_cons_succ]
  exact plF_get h1 h2
theorem plF_set {α : Type} {c : α → List CV} {f : α → α} : ∀ {js : List α} {bl : List Nat} {k : Nat} {j : α} {b : Nat}, js[k]? = some j → bl[k]? = some b → (plF c js bl).set k (.bx (ptrV b) (c (f j))) = plF c (js.modify k f) bl
 | [], _, _, _, _, h, _ => by simp at h
 | _ :: _, [], _, _, _, _, h => by simp at h
 | x :: js, d :: bl, 0, j, b, h1, h2 => by
  simp only [List.getElem?_cons_zero, Option.some.injEq] at h1 h2
  subst h1; subst h2; rfl
 | x :: js, d :: bl, k + 1, j, b, h1, h2 => by
  simp only [List.getElem?_cons_succ] at h1 h2
  simp only [plF, List.set_cons_succ, List.modify_succ_cons]
  rw [plF_set h1 h2]
theorem zh3 {f : Jb → Jb} (hf : ∀ j, (f j).nm = j.nm) : ∀ {js : List Jb} {bl : List Nat} {i k : Nat}, jlF i (js.modify k f) bl = jlF i js bl
 | [], _, _, k => by simp
 | _ :: _, [], _, k => by cases k <;> rfl
 | x :: js, d :: bl, i, 0 => by simp [jlF, hf]
 | x :: js, d :: bl, i, k + 1 => by simp only [List.modify_succ_cons, jlF]; rw [zh3 hf]
def stW (s : Int) : List UInt8 := if s = 0 then [114, 117, 110, 115] else if s = 1 then [100, 111, 110, 101] else [102, 97, 105, 108, 101, 100]
section
variable {N : Nat} {E : Env} {F : Fm} {H : List OB} {o : Oper} {b ck : Nat} {k : List UInt8}
theorem zh4 {x ix : Operand} {l : List (Nat × List UInt8 × Value)} {q : Value} (hq : (mget l k).getD (.pointer none) = q) (ho : o.op = .lookup 117 x ix false) (hx : ev F x = some (.mp b)) (hH : H[b]? = some (mSP l ck)) (hi : ev F ix = some (.c (T k))) : Rd Tryz.prog N E o F H (.c (.s q)) := by
 have := zE3 (N := N) (E := E) (ke := encSt) (ve := encPt) (k := k) (z := .pointer none) keySt ho Tryz.underlying117 (by kernel_rfl) hx hH hi (fun ρ H => encSt.den k ρ H)
 rwa [hq] at this
theorem ef_muJ {x ix y : Operand} {l : List (Nat × List UInt8 × Value)} {z : Value} (ho : o.op = .mapUpdate 117 x ix y) (hd : o.dst = none) (hx : ev F x = some (.mp b)) (hH : H[b]? = some (mSP l ck)) (hi : ev F ix = some (.c (T k))) (hy : ev F y = some (.c (.s z))) :
    Ef Tryz.prog N E o F H fun F' H' => F' = F ∧ H' = H.set b (mSP (mset ck k z l) (mclk ck k l)) :=
 zd3 (ke := encSt) (ve := encPt) (k := k) (z := z) keySt ho hd Tryz.underlying117 hx hH hi (fun ρ H => encSt.den k ρ H) hy (fun ρ H => encPt.den z ρ H)
end
end Go.Proofs.YtlhbfcfjepbhpaaGreatDoor
namespace Go.Proofs.YtlhbfcfjepbhpaaGreatDoor
open Go Go.RowKit
section
variable {P : Program} {N : Nat} {E : Env} {F : Fm} {H : List OB} {o : Oper}
end
end Go.Proofs.YtlhbfcfjepbhpaaGreatDoor
