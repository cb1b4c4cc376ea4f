/- No step of the machine takes a draw back: the whole. -/
import Derived.Test.YtcdeonjdipcgpaaGreatDoorQbo
import Derived.Test.YtcdeonjdipcgpaaGreatDoorQbb
import Derived.Test.YtcdeonjdipcgpaaGreatDoorQbc
import Derived.Test.YtcdeonjdipcgpaaGreatDoorQbf
import Derived.Test.YtcdeonjdipcgpaaGreatDoorQbg
import Derived.Test.YtcdeonjdipcgpaaGreatDoorQac
import Derived.RunT
import Derived.Calls
set_option linter.unusedSimpArgs false
set_option linter.unusedVariables false
namespace Go.Proofs.YtcdeonjdipcgpaaGreatDoor
open Go Go.RowKit
set_option maxRecDepth 100000
def xcall (P : Program) (orc : XCf) : Nat → XCf
 | 0, f, args, H, k => orc f args H k
 | n + 1, f, args, H, k => match orc f args H k with
  | some r => some r
  | none => xenter P (fun N c F H k => xcode P (xcall P orc n) 3000 N none false c F H k) f args H k
theorem callsIn_plain {P : Program} {f : FuncId} {args : Array Value} {w : World} {R : Ending → World → Prop} (h : CallsIn Fence.wide 0 P f args w R) : Calls P f args w R := callsIn_wide.1 h
theorem xcall_ok {P : Program} (hm : P.follows .mixedOrders = true) {orc : XCf} (ho : XCfOk P orc) : ∀ n, XCfOk P (xcall P orc n)
 | 0 => fun f args H k u H' k' h => ho f args H k u H' k' h
 | n + 1 => fun f args H k u H' k' h => by
  unfold xcall at h
  split at h
  ·rename_i r hr
   injection h with h
   subst h
   exact ho f args H k u H' k' hr
  ·intro w0 ρ γ w hH hok
   refine callsIn_plain (xenter_ok (n := 0) h (fun N c F e F' k2 a Q hx hR hQ => ?_) hH hok)
   exact (zi1 hm (xcall_ok hm ho n) 3000 (m := 0) (.inl ⟨rfl, rfl⟩) (fun h => by cases h) hx hR trivial hQ).1
def xnone : XCf := fun _ _ _ _ => none
theorem xnone_ok (P : Program) : XCfOk P xnone := fun f args H k u H' k' h => by cases h
def xrun (P : Program) (orc : XCf) (f : FuncId) : Option Value := match xcall P orc 60 f [] .nil 0 with
 | some (.v u, _, _) => some u
 | _ => none
theorem acalls_of_xrun {P : Program} (hm : P.follows .mixedOrders = true) {orc : XCf} (ho : XCfOk P orc) {f : FuncId} {u : Value} (h : xrun P orc f = some u) : ACalls P f [] [] fun v H => v = .c (.s u) ∧ H = [] := fun S ρ w hp hw => by
 unfold xrun at h
 split at h
 ·rename_i u' H' k' hx
  injection h with h
  subst h
  have hH : XH ⟨w, fun _ => none, []⟩ (fun _ => 0) (fun _ => 0) .nil w := ⟨fun i j o o' h => (by cases h), fun i o h => (by cases h), fun i o h => (by cases h), fun i o h => (by cases h), ⟨Stp.refl _ _, fun B ob h => (by cases h)⟩⟩
  refine (xcall_ok hm ho 60 _ _ _ _ _ _ _ hx _ _ _ w hH trivial).mono ?_
  rintro e w' ⟨ρ', γ', rfl, h1, _, _⟩
  have hρ : ρ = [] := List.eq_nil_of_length_eq_zero hp.len
  subst hρ
  have hst := h1.st
  refine ⟨.c (.s u'), [], [], S, rfl, ⟨rfl, rfl⟩, .c (.s u'), ⟨rfl, fun i i' B h => (by cases h), fun i B h => (by cases h), fun i B h => (by cases h), fun b hb => Nat.lt_of_lt_of_le (hp.sS b hb) hst.size, fun i o h => (by simp at h), PL.none fun _ _ _ => zJ2⟩, ⟨hst.os, hst.tape, hst.output, hst.size, fun b hb _ => hst.block b hb (fun h => h), hst.drawn⟩, fun b hb => .inl hb, fun i B h => (by cases h), fun i k B h => absurd h zJ2, fun i hi => (by simp at hi), fun h => (by cases h)⟩
 ·cases h
end Go.Proofs.YtcdeonjdipcgpaaGreatDoor
-- NEWM
namespace Go.Proofs.YtcdeonjdipcgpaaGreatDoor
open Go Go.RowKit
set_option maxRecDepth 1000000
theorem NtB.s {x : Nt} (h : NtB x) : NtS x := ⟨Nat.le_trans h.st (by decide), Nat.le_trans h.pr (by decide), Nat.le_trans h.jb (by decide), Nat.le_trans h.sp (by decide), Nat.le_trans h.of_ (by decide)⟩
end Go.Proofs.YtcdeonjdipcgpaaGreatDoor
-- NEWM
namespace Go.Proofs.YtcdeonjdipcgpaaGreatDoor
open Go Go.RowKit
set_option maxRecDepth 1000000
def rgtF (zs : List Int) (many : Nat) : Nat → Int → List Nt × Int
 | 0, a => ([], a)
 | k + 1, a => if chkN (notesF zs a many) = 0 then (notesF zs a many, (gensF zs a many).2.a) else rgtF zs many k (gensF zs a many).2.a
theorem rightnotes_f (many : Nat) (hmany : many ≤ 20) (v : Value) (zs : List Int) (a : Int) (hs : StrOk zs) (h0 : 0 ≤ a) (h1 : a ≤ 700000000) : ACalls Tryz.prog 31 [.p 0 0 0, .c (I (many : Nat))] [strm v zs a] fun u H => ∃ (r : List Nt) (c : Nat) (a' : Int), rgtF zs many 8 a = (r, a') ∧ a ≤ a' ∧ a' ≤ a + 3200 ∧ r.length ≤ many ∧ chkN r = 0 ∧ (∀ x ∈ r, NtB x) ∧ r.length ≤ c ∧ u = .o 1 0 r.length c ∧ H = [strm v zs a', .arr 82 10 c (noRs r)] := by
 refine zg (N := 16) Tryz.func31 rfl rfl (by simp) fun E hE => ?_
 refine WA ?_
 refine WA ?_
 refine zP (fun m F H => ∃ (k : Nat) (a' : Int), m + k = 8 ∧ a ≤ a' ∧ a' ≤ a + 400 * k ∧ rgtF zs many m a' = rgtF zs many 8 a ∧ F = [(0, .p 0 0 0), (1, .c (I (many : Nat))), (6, .c (I k))] ∧ H = [strm v zs a']) ?_ ?_
 ·refine zo [some 0] (fun _ => [(0, .p 0 0 0), (1, .c (I (many : Nat))), (6, .c (I (0 : Nat)))]) (fun _ => [strm v zs a]) (by decide) (ZNL hE) ZCF ZCH (fun _ => ?_)
  exact ⟨8, 0, a, by omega, by omega, by omega, rfl, rfl, rfl⟩
 rintro m F H ⟨k, a', hk, ha1, ha2, hrg, rfl, rfl⟩
 refine WA ?_
 refine zz rfl (fun hlt => ?_) (fun hge => ?_)
 ·obtain ⟨m1, rfl⟩ : ∃ m1, m = m1 + 1 := ⟨m - 1, by omega⟩
  rw [rgtF] at hrg
  refine WR ?_
  refine zh rfl (za2 [0] (fun _ => [strm v zs a']) false (fun _ => notelist_f many (by omega) v zs a' hs (by omega) (by omega)) rfl .fn rfl (by decide) (by kernel_rfl) rfl (fun _g => .cons (.p rfl) (.cons (.c rfl) .nil)) (by decide) ZCH (by simp)) ?_
  rintro F1 H1 ⟨_, _, _, _, ⟨r, c, a2, hf, ha2, h3, h4, hl, hb, hc, rfl, rfl⟩, hF, hH⟩
  (refine NSU hF hH ?_; clear hF hH; rintro rfl rfl)
  refine WE ?_
  rw [← hf, ← ha2] at hrg
  refine WR ?_
  refine zh rfl (zc true (fun g => notesfault_v (g (.o 1 0 r.length c)) r (by omega) (fun x hx => (hb x hx).s)) rfl .fn rfl (by decide) (by kernel_rfl) rfl (fun _ => .cons (.frz rfl rfl (by rw [List.drop_zero, List.take_of_length_le (by simp)]) (by simp) rfl) .nil) (fun _ _ _ _ ⟨hu, hH⟩ => by rw [hu, hH]; exact ⟨.c (.inl trivial), by simp⟩)) ?_
  rintro _ _ ⟨_, _, _, ⟨rfl, rfl⟩, hF, hH⟩
  (refine NST hF hH ?_; clear hF hH; rintro rfl rfl)
  refine WE ?_
  generalize hck : chkN r = e at hrg ⊢
  refine zz rfl (fun hp => ?_) (fun hp => ?_)
  ·subst hp
   rw [if_pos rfl] at hrg
   refine WA ?_
   exact aret_o [some 0, some 1] (fun _ => [strm v zs a2, .arr 82 10 c (noRs r)]) rfl rfl rfl rfl rfl (by decide) (ZNK rfl) ZCH (fun _ => ⟨r, c, a2, hrg.symm, by omega, by omega, by omega, hck, hb, by omega, rfl, rfl⟩)
  ·rw [if_neg hp] at hrg
   refine ZZ ?_
   refine WA ?_
   refine zo [some 0] (fun _ => [(0, .p 0 0 0), (1, .c (I (many : Nat))), (6, .c (I (k + 1 : Nat)))]) (fun _ => [strm v zs a2]) (by decide) (ZNL hE) ZCF ZCH (fun _ => ?_)
   exact ⟨m1, by omega, k + 1, a2, by omega, by omega, by omega, hrg, rfl, rfl⟩
 obtain rfl : m = 0 := by omega
 refine ZZ ?_
 refine WA ?_
 exact zx1 (us := [.c (.r (.slice none 0 0) [])]) [some 0, none] (fun _ => .o 1 0 0 0) (fun _ => [strm v zs a', .arr 82 10 0 []]) (.tmp rfl .nil) (by decide) (ZNK rfl) (fun _ => .nil rfl) ZCH (fun _ => ⟨[], 0, a', hrg.symm, by omega, by omega, Nat.zero_le _, by decide, by simp, Nat.le_refl _, rfl, rfl⟩)
end Go.Proofs.YtcdeonjdipcgpaaGreatDoor
namespace Go.Proofs.YtcdeonjdipcgpaaGreatDoor
open Go Go.RowKit
def resW {α : Type} : Result α → World
 | .ok _ w => w
 | .halt _ w => w
theorem zj2 {α : Type} {P : Program} : ∀ (s : Sem α) (w : World), w.drawn ≤ (resW (s.run P w)).drawn := by
 intro s
 induction s with
 | pure a => intro w; exact Nat.le_refl _
 | load m a k ih =>
  intro w
  simp only [Sem.run]
  repeat' split
  all_goals first | exact ih _ _ | exact Nat.le_refl _
 | store m a x k ih =>
  intro w
  cases x <;> simp only [Sem.run]
  all_goals first
   | exact Nat.le_refl _
   | (split
      ·split
       ·exact Nat.le_refl _
       ·exact ih (w.setCell a _)
      ·split
       ·rename_i h1; exact Nat.le_trans (zt3 h1) (ih _)
       ·exact Nat.le_refl _)
 | new o k ih => intro w; simp only [Sem.run]; exact ih _ { w with heap := w.heap.push o }
 | shape r k ih => intro w; simp only [Sem.run]; exact ih _ _
 | freeze a n k ih =>
  intro w; simp only [Sem.run]
  have := ih (w.freeze a n)
  refine Nat.le_trans (Nat.le_of_eq ?_) this
  unfold World.freeze
  split <;> rfl
 | frozen a k ih => intro w; simp only [Sem.run]; exact ih _ _
 | getObj r k ih =>
  intro w; simp only [Sem.run]
  split
  ·exact Nat.le_refl _
  ·exact ih _ _
  ·exact Nat.le_refl _
 | setObj r o k ih =>
  intro w; simp only [Sem.run]
  split
  ·exact Nat.le_refl _
  ·exact ih { w with heap := w.heap.setIfInBounds r o }
  ·exact Nat.le_refl _
 | choose q k ih =>
  intro w; simp only [Sem.run]
  split
  ·exact ih _ _
  ·exact Nat.le_trans (Nat.le_succ _) (ih _ { w with drawn := w.drawn + 1 })
 | sys c k ih => intro w; simp only [Sem.run]; exact Nat.le_trans (sys_drawn w c) (ih _ _)
 | program k ih => intro w; simp only [Sem.run]; exact ih _ _
 | mark m k ih => intro w; simp only [Sem.run]; exact ih _
 | halt h => intro w; exact Nat.le_refl _
theorem zB1 {α : Type} {P : Program} (s : Sem α) (w : World) (es : Array Event) : w.drawn ≤ (resW (s.runT P w es).1).drawn := by
 rw [Sem.runT_fst]
 exact zj2 s w
def gsW : GStep → World
 | .go _ w _ => w
 | .comm _ _ _ _ w _ => w
 | .spawn _ _ w _ => w
 | .count _ w _ => w
 | .timer _ _ w _ => w
 | .alone _ _ w _ => w
 | .newcoro _ _ _ w _ => w
 | .coroswitch _ _ _ w _ => w
 | .collect _ w _ => w
 | .watch _ w _ => w
 | .ended _ w _ => w
theorem zY1 (es : Array Event) (g : GStep) : gsW (g.after es) = gsW g := by cases g <;> rfl
theorem zu2 (p : Program) (main : Bool) (fr : Frame) (cs : List Frame) (d : Option Dying) (v : Value) (w : World) : gsW (doReturn p main fr cs d v w) = w := by
 unfold doReturn
 repeat' split
 all_goals rfl
end Go.Proofs.YtcdeonjdipcgpaaGreatDoor
namespace Go.Proofs.YtcdeonjdipcgpaaGreatDoor
open Go Go.RowKit
theorem zu3 (fr : Frame) (m : String) (w : World) : gsW (endThrow fr m w) = w := rfl
theorem zA2 (p : Program) (fr : Frame) (v : Value) (w : World) : gsW (endPrinting p fr v w) = w := by
 unfold endPrinting
 dsimp only
 repeat' split
 all_goals rfl
theorem endWith_drawn (w : World) (fd : Nat) (t : ByteArray) (o : Outcome) : w.drawn ≤ (gsW (endWith w fd t o)).drawn := by
 have h := sys_drawn w (.write fd t)
 unfold endWith
 revert h
 generalize w.sys (.write fd t) = x
 obtain ⟨a, w2⟩ := x
 intro h
 simp only at h ⊢
 repeat' split
 all_goals (rename_i heq; first | (cases heq; exact h) | (rename_i heq2; cases heq2; exact h) | (rename_i _ heq2; cases heq2; exact h) | simp_all [gsW])
theorem gsIte {c : Prop} [Decidable c] {a b : GStep} {n : Nat} (h1 : n ≤ (gsW a).drawn) (h2 : n ≤ (gsW b).drawn) : n ≤ (gsW (if c then a else b)).drawn := by
 split
 ·exact h1
 ·exact h2
theorem zo4 (hF : ∀ (p : Program) (fr : Frame) (cs : List Frame) (d : Option Dying) (m : String) (w : World), w.drawn ≤ (gsW (endFatal p fr cs d m w)).drawn) (p : Program) (fr : Frame) (cs : List Frame) (d : Option Dying) (df : Deferred) (w : World) : w.drawn ≤ (gsW (callDeferred p fr cs d df w)).drawn := by
 unfold callDeferred
 refine gsIte (Nat.le_refl _) ?_
 ·have h := zB1 (P := p) (invoke df.target df.args) w #[]
  revert h
  generalize (invoke df.target df.args).runT p w #[] = x
  obtain ⟨r, es⟩ := x
  intro h
  simp only [zY1] at h ⊢
  cases r with
  | ok n w2 =>
   cases n <;> (try simp only)
   all_goals first
    | exact h
    | (rename_i q1 q2; cases q2 <;> exact h)
    | (rename_i q1 q2; cases q1 <;> exact h)
    | (repeat' split
       all_goals exact h)
  | halt e w2 =>
   cases e <;> (try simp only)
   all_goals first
    | exact h
    | exact Nat.le_trans h (hF _ _ _ _ _ _)
    | (repeat' split
       all_goals exact h)
theorem unwind_drawn (hF : ∀ (p : Program) (fr : Frame) (cs : List Frame) (d : Option Dying) (m : String) (w : World), w.drawn ≤ (gsW (endFatal p fr cs d m w)).drawn) (p : Program) (main : Bool) (fr : Frame) (cs : List Frame) (d : Option Dying) (w : World) : w.drawn ≤ (gsW (unwind p main fr cs d w)).drawn := by
 unfold unwind
 split
 ·rename_i block _ ds _
  have h := zB1 (P := p) (Instr.takeDeferred block) w #[]
  revert h
  generalize (Instr.takeDeferred block).runT p w #[] = x
  obtain ⟨r, es⟩ := x
  intro h
  simp only [zY1] at h ⊢
  cases r <;> exact h
 ·exact zo4 hF _ _ _ _ _ _
 ·split
  ·exact Nat.le_refl _
  ·rename_i chain _
   split
   ·exact Nat.le_refl _
   ·split
    ·exact Nat.le_refl _
    ·split
     ·split
      ·exact Nat.le_refl _
      ·have h := zj2 (P := p) (reportChain chain false) w
       revert h
       generalize (reportChain chain false).run p w = x
       intro h
       cases x with
       | ok a w2 => exact h
       | halt e w2 => cases e <;> exact h
     ·split
      ·rw [zA2]; exact Nat.le_refl _
      ·exact Nat.le_refl _
  ·split
   ·rw [zu2]; exact Nat.le_refl _
   ·rename_i fn _
    have h := zB1 (P := p) (results fn fr.tmps) w #[]
    revert h
    generalize (results fn fr.tmps).runT p w #[] = x
    obtain ⟨r, es⟩ := x
    intro h
    simp only [zY1] at h ⊢
    cases r with
    | ok a w2 => simp only; rw [zu2]; exact h
    | halt e w2 => cases e <;> exact h
end Go.Proofs.YtcdeonjdipcgpaaGreatDoor
namespace Go.Proofs.YtcdeonjdipcgpaaGreatDoor
open Go Go.RowKit
theorem dr_of {α : Type} {P : Program} {s : Sem α} {w : World} {es : Array Event} {x : Result α × Array Event} (h : s.runT P w es = x) : w.drawn ≤ (resW x.1).drawn := h ▸ zB1 s w es
theorem zv3 (p : Program) (fr : Frame) (cs : List Frame) (d : Option Dying) (m : String) (w : World) : w.drawn ≤ (gsW (endFatal p fr cs d m w)).drawn := by
 unfold endFatal
 extract_lets chain raw shown
 have h := zj2 (P := p) shown w
 revert h
 generalize shown.run p w = x
 intro h
 cases x with
 | ok a w2 => exact h
 | halt e w2 => cases e <;> exact h
theorem writeOn_drawn (p : Program) (fr : Frame) (d : Dying) (f : Fatal) (w : World) : w.drawn ≤ (gsW (writeOn p fr d f w)).drawn := by
 unfold writeOn
 extract_lets on
 split
 ·exact Nat.le_refl _
 ·dsimp only
  repeat' split
  all_goals
   rename_i hx
   exact dr_of hx
theorem early_drawn (p : Program) (fr : Frame) (cs : List Frame) (d : Option Dying) (g : Nat) (w : World) : w.drawn ≤ (gsW (early p fr cs d g w)).drawn := by
 unfold early
 extract_lets refuse notYet
 have hr : gsW refuse = w := rfl
 have hn : ∀ w2 : World, (gsW (notYet w2)).drawn = w2.drawn := fun w2 => by
  show (gsW (match w2.heap[g]? with
   | some (.pending c elem) => _
   | _ => _)).drawn = _
  split <;> rfl
 refine gsIte (Nat.le_of_eq (hn w).symm) ?_
 split
 ·rw [hr]; exact Nat.le_refl _
 ·rename_i f _
  extract_lets there
  have ht : ∀ w2 : World, gsW (there w2) = w2 := fun w2 => rfl
  refine gsIte (Nat.le_of_eq (hn w).symm) (gsIte (Nat.le_of_eq (hn w).symm) ?_)
  split
  ·rw [hr]; exact Nat.le_refl _
  ·rw [ht]; exact Nat.le_refl _
  ·rw [hr]; exact Nat.le_refl _
  ·exact Nat.le_of_eq (hn w).symm
  ·refine gsIte (by rw [ht]; exact Nat.le_refl _) (gsIte (Nat.le_of_eq (hn w).symm) ?_)
   have h := zj2 (P := p) (choose (.early g)) w
   revert h
   generalize (choose (.early g)).run p w = x
   intro h
   cases x with
   | ok a w2 =>
    cases a with
    | zero => exact Nat.le_trans h (Nat.le_of_eq (hn w2).symm)
    | succ a => exact h
   | halt e w2 => exact h
end Go.Proofs.YtcdeonjdipcgpaaGreatDoor
namespace Go.Proofs.YtcdeonjdipcgpaaGreatDoor
open Go Go.RowKit
theorem zr2 {α : Type} {P : Program} {s : Sem α} {w : World} {x : Result α} (h : s.run P w = x) : w.drawn ≤ (resW x).drawn := h ▸ zj2 s w
theorem die_drawn (p : Program) (fr : Frame) (d : Dying) (w : World) : w.drawn ≤ (gsW (die p fr d w)).drawn := by
 unfold die
 split
 ·exact writeOn_drawn _ _ _ _ _
 ·split
  ·exact gsIte (Nat.le_refl _) (endWith_drawn _ _ _ _)
  ·dsimp only
   split
   ·exact Nat.le_refl _
   ·split
    all_goals
     rename_i hx
     exact zr2 hx
   ·rename_i t recv name _
    have h := zB1 (P := p) (invoke (.fn (.method name) #[]) #[.iface t recv]) w #[]
    revert h
    generalize (invoke (.fn (.method name) #[]) #[.iface t recv]).runT p w #[] = x
    obtain ⟨r, es⟩ := x
    intro h
    simp only [zY1] at h ⊢
    repeat' split
    all_goals first
     | exact h
     | exact Nat.le_refl _
     | (rw [zA2]; exact h)
   ·exact Nat.le_refl _
theorem zM2 (p : Program) (li : Bool) (fr : Frame) (cs : List Frame) (d : Option Dying) (s : Sem Next) (w : World) : w.drawn ≤ (gsW (stepG.apply p li fr cs d s w)).drawn := by
 unfold stepG.apply
 have h : w.drawn ≤ (resW (if li then s.runT p w #[] else (s.run p w, #[])).1).drawn := by
  split
  ·exact zB1 s w #[]
  ·exact zj2 s w
 revert h
 generalize (if li then s.runT p w #[] else (s.run p w, #[])) = x
 obtain ⟨r, es⟩ := x
 intro h
 simp only [zY1] at h ⊢
 cases r with
 | ok n w2 =>
  cases n <;> (try simp only)
  all_goals first
   | exact h
   | (repeat' split
      all_goals exact h)
 | halt e w2 =>
  cases e <;> (try simp only)
  all_goals first
   | exact h
   | exact Nat.le_trans h (zv3 _ _ _ _ _ _)
   | (rename_i u; cases u <;> (try simp only)
      all_goals first
       | exact h
       | exact Nat.le_trans h (early_drawn _ _ _ _ _ _))
theorem oper_drawn (p : Program) (li : Bool) (fr : Frame) (cs : List Frame) (d : Option Dying) (w : World) : w.drawn ≤ (gsW (stepG.oper p li fr cs d w)).drawn := by
 unfold stepG.oper
 split
 ·exact Nat.le_refl _
 ·split
  all_goals exact zM2 _ _ _ _ _ _ _
theorem elimD {α : Type} {o : Option α} {a : GStep} {f : α → GStep} {n : Nat} (h1 : n ≤ (gsW a).drawn) (h2 : ∀ x, n ≤ (gsW (f x)).drawn) : n ≤ (gsW (o.elim a f)).drawn := by
 cases o
 ·exact h1
 ·exact h2 _
theorem exec_drawn (p : Program) (main li : Bool) (fr : Frame) (cs : List Frame) (d : Option Dying) (w : World) : w.drawn ≤ (gsW (stepG.exec p main li fr cs d w)).drawn := by
 unfold stepG.exec
 extract_lets go to lost leave
 have hl : ∀ j, w.drawn ≤ (gsW (leave j)).drawn := fun j => by
  show w.drawn ≤ (gsW (match fr.roundOf with
   | none => _
   | some l => _)).drawn
  split
  ·split
   all_goals exact Nat.le_refl _
  ·rename_i l _
   have h := zB1 (P := p) (Instr.endRound l j) w #[]
   revert h
   generalize (Instr.endRound l j).runT p w #[] = x
   obtain ⟨r, es⟩ := x
   intro h
   simp only [zY1] at h ⊢
   cases r with
   | ok a w2 => simp only; rw [zu2]; exact h
   | halt e w2 => exact h
 clear_value leave
 split
 any_goals exact hl _
 any_goals exact Nat.le_refl _
 any_goals exact zM2 _ _ _ _ _ _ _
 any_goals exact elimD (hl _) fun _ => Nat.le_refl _
 any_goals exact elimD (Nat.le_refl _) fun _ => zM2 _ _ _ _ _ _ _
 any_goals exact gsIte (oper_drawn _ _ _ _ _ _) (Nat.le_refl _)
 ·split
  all_goals exact Nat.le_refl _
 ·split
  rename_i r es hx
  have h := dr_of hx
  rw [zY1]
  cases r with
  | ok a w2 => exact Nat.le_trans h (zM2 _ _ _ _ _ _ _)
  | halt e w2 => exact h
 ·split
  rename_i r es hx
  have h := dr_of hx
  rw [zY1]
  cases r with
  | ok a w2 => exact h
  | halt e w2 => cases e <;> exact h
 ·refine gsIte (Nat.le_refl _) ?_
  split
  all_goals
   rename_i hx
   exact zr2 hx
theorem stepG_drawn (p : Program) (main : Bool) (g : Goroutine) (w : World) (li : Bool) : w.drawn ≤ (gsW (stepG p main g w li)).drawn := by
 unfold stepG
 split
 split
 ·exact die_drawn _ _ _ _
 ·exact exec_drawn _ _ _ _ _ _ _
 ·exact unwind_drawn zv3 _ _ _ _ _ _
end Go.Proofs.YtcdeonjdipcgpaaGreatDoor
namespace Go.Proofs.YtcdeonjdipcgpaaGreatDoor
open Go Go.RowKit
def sdOk (n : Nat) : Stepped → Prop
 | .next m => n ≤ m.world.drawn
 | .ended _ _ => True
theorem sdIte {c : Prop} [Decidable c] {a b : Stepped} {n : Nat} (h1 : sdOk n a) (h2 : sdOk n b) : sdOk n (if c then a else b) := by
 split
 ·exact h1
 ·exact h2
theorem look_drawn (p : Program) (gs : Array Goroutine) (rest : Rest) (w : World) : sdOk w.drawn (look p gs rest w) := by
 unfold look
 split
 ·dsimp only
  refine sdIte trivial ?_
  split
  ·trivial
  ·split
   ·rename_i hx
    exact zr2 hx
   ·trivial
   ·trivial
 ·trivial
theorem drain_drawn (w : World) (c : Nat) : (drain w c).2.drawn = w.drawn := by
 unfold drain
 split <;> rfl
theorem retime_drawn (m : Machine) (k : Nat) (t : Timer) (a b : Nat) : (retime m k t a b).2.world.drawn = m.world.drawn := by
 unfold retime
 cases t.chan with
 | none => rfl
 | some c =>
  have := drain_drawn m.world c
  dsimp only
  generalize drain m.world c = x at this ⊢
  obtain ⟨a1, a2⟩ := x
  exact this
theorem timerOp_drawn (m : Machine) (o : TimerOp) (v : Value) (m2 : Machine) (h : timerOp m o = .ok (v, m2)) : m.world.drawn = m2.world.drawn := by
 unfold timerOp at h
 split at h
 ·split at h
  ·cases h; rfl
  ·split at h
   ·split at h
    ·cases h
    ·cases h; rfl
   ·cases h
 ·unfold timerOp.named at h
  split at h
  ·injection h with h
   have := congrArg (fun q => q.2.world.drawn) h
   exact (retime_drawn _ _ _ _ _).symm.trans this
  ·cases h
 ·split at h
  ·rename_i m1 h1
   unfold timerOp.named at h
   have hm : m1.world.drawn = m.world.drawn := by
    unfold timerOp.opened at h1
    split at h1
    ·split at h1
     ·cases h1; rfl
     ·cases h1
    ·cases h1; rfl
   split at h
   ·injection h with h
    have := congrArg (fun q => q.2.world.drawn) h
    exact (hm.symm.trans (retime_drawn _ _ _ _ _).symm).trans this
   ·cases h
  ·cases h
 ·cases h; rfl
theorem serve_drawn (p : Program) (m : Machine) (k : Nat) : sdOk m.world.drawn (serve p m k) := by
 unfold serve
 split
 ·trivial
 ·exact Nat.le_refl _
 ·dsimp only
  split
  ·trivial
  ·exact Nat.le_refl _
end Go.Proofs.YtcdeonjdipcgpaaGreatDoor
namespace Go.Proofs.YtcdeonjdipcgpaaGreatDoor
open Go Go.RowKit
theorem sdIte2 {c : Prop} [Decidable c] {a b : Stepped × Array MemOp} {n : Nat} (h1 : sdOk n a.1) (h2 : sdOk n b.1) : sdOk n (if c then a else b).1 := by
 split
 ·exact h1
 ·exact h2
theorem waitingAt_drawn {rest : Rest} {cs : Array CommCase} {w w2 : World} (h : waitingAt rest cs w = some w2) : w2.drawn = w.drawn := by
 unfold waitingAt at h
 split at h
 ·split at h
  ·cases h; rfl
  ·cases h
 ·cases h; rfl
theorem communicate_drawn (p : Program) (rest : Rest) (gs : Array Goroutine) (i : Nat) (g : Goroutine) (cs : Array CommCase) (b : Bool) (sh : CommShape) (w : World) : sdOk w.drawn (communicate p rest gs i g cs b sh w).1 := by
 unfold communicate
 extract_lets put illMade me other ready pick
 have hput : ∀ (g : Goroutine) (gs : Array Goroutine) (w2 : World) (ops : Array MemOp), (put g gs w2 ops).1 = .next { world := w2, gs := gs.setIfInBounds i g, rest } := fun _ _ _ _ => rfl
 refine sdIte2 trivial (sdIte2 (sdIte2 ?_ (Nat.le_refl _)) ?_)
 ·split
  ·rename_i hx
   exact Nat.le_of_eq (waitingAt_drawn hx).symm
  ·trivial
 ·split
  ·trivial
  ·rename_i hx
   have h := zr2 hx
   dsimp only
   split
   ·split
    ·rename_i hx2
     exact Nat.le_trans h (zr2 hx2)
    ·trivial
   ·exact h
   ·exact h
   ·split
    ·exact h
    ·split
     ·rename_i hx2
      exact Nat.le_trans h (zr2 hx2)
     ·trivial
   ·exact h
   ·exact h
   ·trivial
end Go.Proofs.YtcdeonjdipcgpaaGreatDoor
namespace Go.Proofs.YtcdeonjdipcgpaaGreatDoor
open Go Go.RowKit
theorem runT_drawn (p : Program) (m : Machine) (i : Nat) (li : Bool) : sdOk m.world.drawn (runT p m i li).1 := by
 unfold runT
 extract_lets rest world
 split
 rename_i g gs _
 extract_lets wake fn pos s ops done
 have h : m.world.drawn ≤ (gsW s).drawn := stepG_drawn p (i == 0) g m.world li
 clear_value s
 cases s with
 | ended o w es => trivial
 | comm g2 cases_ b sh w es =>
  have h2 := communicate_drawn p rest gs i g2 cases_ b sh w
  dsimp only
  generalize communicate p rest gs i g2 cases_ b sh w = x at h2
  obtain ⟨r, more⟩ := x
  cases r with
  | next m2 => exact Nat.le_trans h h2
  | ended o w => trivial
 | go g2 w es => exact h
 | spawn g2 ch w es => exact h
 | count g2 w es =>
  dsimp only [done]
  refine sdIte trivial ?_
  exact h
 | alone g2 on w es => exact h
 | collect g2 w es =>
  have h2 := look_drawn p (gs.setIfInBounds i g2) rest w
  show sdOk _ (look p (gs.setIfInBounds i g2) rest w)
  generalize look p (gs.setIfInBounds i g2) rest w = x at h2
  cases x with
  | next m2 => exact Nat.le_trans h h2
  | ended o w => trivial
 | watch g2 w es => exact h
 | newcoro g2 c d w es => exact h
 | coroswitch g2 c ex w es =>
  dsimp only [done]
  split
  ·exact h
  ·split
   ·rename_i hx
    have h2 := congrArg (fun q => (gsW q).drawn) hx
    simp only [zu3] at h2
    exact Nat.le_trans h (Nat.le_of_eq h2)
   ·trivial
  ·trivial
 | timer g2 op w es =>
  dsimp only [done]
  split
  ·rename_i hx
   exact Nat.le_trans h (Nat.le_of_eq (timerOp_drawn _ _ _ _ hx))
  ·split
   ·rename_i hx
    have h2 := congrArg (fun q => (gsW q).drawn) hx
    simp only [zu3] at h2
    exact Nat.le_trans h (Nat.le_of_eq h2)
   ·trivial
  ·trivial
  ·trivial
end Go.Proofs.YtcdeonjdipcgpaaGreatDoor
namespace Go.Proofs.YtcdeonjdipcgpaaGreatDoor
open Go Go.RowKit
def mvOk (n : Nat) : Move → Prop
 | .goroutine m _ => n ≤ m.world.drawn
 | .machine s _ => sdOk n s
theorem mvIte {c : Prop} [Decidable c] {a b : Move} {n : Nat} (h1 : mvOk n a) (h2 : mvOk n b) : mvOk n (if c then a else b) := by
 split
 ·exact h1
 ·exact h2
theorem sdOk.le {n k : Nat} (h : n ≤ k) {s : Stepped} (hs : sdOk k s) : sdOk n s := by
 cases s with
 | next m => exact Nat.le_trans h hs
 | ended o w => trivial
theorem zS3 (p : Program) (m : Machine) : mvOk m.world.drawn (askOn p m) := by
 unfold askOn
 extract_lets mono rs ds pick
 have hp : ∀ m2 : Machine, m.world.drawn ≤ m2.world.drawn → mvOk m.world.drawn (pick m2) := fun m2 h2 => by
  show mvOk _ (match (choose (.sched rs.length)).run p m2.world with
   | .halt _ w => _
   | .ok k world => _)
  split
  ·trivial
  ·rename_i hx
   have h3 := Nat.le_trans h2 (zr2 hx)
   refine mvIte h3 ?_
   split
   ·trivial
   ·rename_i hx2
    exact Nat.le_trans h3 (zr2 hx2)
 clear_value pick
 clear_value rs ds
 split
 ·trivial
 ·rename_i hx
  have h := zr2 hx
  dsimp only
  refine mvIte (sdOk.le h (serve_drawn _ _ _)) ?_
  cases rs
  ·dsimp only
   split
   ·exact h
   ·refine mvIte h ?_
    split <;> trivial
  ·dsimp only
   split
   ·exact hp _ h
   ·split
    ·trivial
    ·rename_i hx2
     exact hp _ (Nat.le_trans h (zr2 hx2))
    ·rename_i hx2
     exact Nat.le_trans h (zr2 hx2)
    ·rename_i hx2
     exact hp _ (Nat.le_trans h (zr2 hx2))
theorem mvOk.le {n k : Nat} (h : n ≤ k) {s : Move} (hs : mvOk k s) : mvOk n s := by
 cases s with
 | goroutine m i => exact Nat.le_trans h hs
 | machine s o => exact sdOk.le h hs
theorem look_next {p : Program} {gs : Array Goroutine} {rest : Rest} {w : World} {m : Machine} (h : look p gs rest w = .next m) : w.drawn ≤ m.world.drawn := by
 have h2 := look_drawn p gs rest w
 rw [h] at h2
 exact h2
theorem ask_drawnM (p : Program) (m : Machine) : mvOk m.world.drawn (ask p m) := by
 unfold ask
 refine mvIte ?_ (zS3 p m)
 split
 ·trivial
 ·rename_i hx
  have h := zr2 hx
  split
  ·rename_i hx2
   exact mvOk.le (Nat.le_trans h (look_next hx2)) (zS3 p _)
  ·exact sdOk.le h (look_drawn _ _ _ _)
 ·rename_i hx
  exact mvOk.le (zr2 hx) (zS3 _ _)
theorem move_drawn (p : Program) (m : Machine) : mvOk m.world.drawn (move p m) := by
 unfold move
 split
 ·exact mvIte (Nat.le_refl _) trivial
 ·split
  ·exact mvIte (Nat.le_refl _) (ask_drawnM p _)
  ·exact ask_drawnM p m
theorem step_drawn {p : Program} {m m2 : Machine} (h : step p m = .next m2) : m.world.drawn ≤ m2.world.drawn := by
 unfold step stepT at h
 have hm := move_drawn p m
 generalize move p m = x at hm h
 cases x with
 | goroutine m3 i =>
  have h2 := runT_drawn p m3 i true
  dsimp only at h
  rw [h] at h2
  exact Nat.le_trans hm h2
 | machine s o =>
  dsimp only at h
  rw [h] at hm
  exact hm
theorem steps_drawn {P : Program} {m m2 : Machine} (h : Steps P m m2) : m.world.drawn ≤ m2.world.drawn := by
 obtain ⟨n, hn⟩ := h
 induction n generalizing m with
 | zero => simp [runN] at hn; rw [hn]; exact Nat.le_refl _
 | succ n ih =>
  simp only [runN] at hn
  cases hs : step P m with
  | next m' => rw [hs] at hn; exact Nat.le_trans (step_drawn hs) (ih hn)
  | ended o w => rw [hs] at hn; cases hn
theorem calls_drawn {P : Program} {f : FuncId} {args : Array Value} {w : World} {R : Ending → World → Prop} (hR : ∀ e w', R e w' → ∃ v, e = .returned v) (h : Calls P f args w R) : Calls P f args w fun e w' => R e w' ∧ w.drawn ≤ w'.drawn := fun cs => by
 obtain ⟨e, w', fr, h1, h2, h3⟩ := h cs
 obtain ⟨v, rfl⟩ := hR e w' h1
 exact ⟨_, w', fr, ⟨h1, steps_drawn h2⟩, h2, h3⟩
end Go.Proofs.YtcdeonjdipcgpaaGreatDoor
