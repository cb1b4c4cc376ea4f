/- Closed calls: calls as a function; a closed call's answer. Conditions: none. -/
import Derived.Test.YtlblimbelfenaaaGreatQby
set_option linter.unusedSimpArgs false
set_option linter.unusedVariables false
/- Closed calls: calls as a function; a closed call's answer. Conditions: none. -/
namespace Go.Proofs.YtlblimbelfenaaaGreat
open Go Go.RowKit
set_option maxRecDepth 100000
def xcall (P : Program) (orc : XCf) : Nat → XCf
 | 0, f, args, H, k => orc f args H k
 | n + 1, f, args, H, k => match orc f args H k with
  | some r => some r
  | none => xenter P (fun N c F H k => xcode P (xcall P orc n) 3000 N none false c F H k) f args H k
theorem callsIn_plain {P : Program} {f : FuncId} {args : Array Value} {w : World} {R : Ending → World → Prop} (h : CallsIn Fence.wide 0 P f args w R) : Calls P f args w R := callsIn_wide.1 h
theorem xcall_ok {P : Program} (hm : P.follows .mixedOrders = true) {orc : XCf} (ho : XCfOk P orc) : ∀ n, XCfOk P (xcall P orc n)
 | 0 => fun f args H k u H' k' h => ho f args H k u H' k' h
 | n + 1 => fun f args H k u H' k' h => by
  unfold xcall at h
  split at h
  ·rename_i r hr
   injection h with h
   subst h
   exact ho f args H k u H' k' hr
  ·intro w0 ρ γ w hH hok
   refine callsIn_plain (xenter_ok (n := 0) h (fun N c F e F' k2 a Q hx hR hQ => ?_) hH hok)
   exact (xcode_all hm (xcall_ok hm ho n) 3000 (m := 0) (.inl ⟨rfl, rfl⟩) (fun h => by cases h) hx hR trivial hQ).1
def xnone : XCf := fun _ _ _ _ => none
theorem xnone_ok (P : Program) : XCfOk P xnone := fun f args H k u H' k' h => by cases h
def xrun (P : Program) (orc : XCf) (f : FuncId) : Option Value := match xcall P orc 60 f [] .nil 0 with
 | some (.v u, _, _) => some u
 | _ => none
theorem acalls_of_xrun {P : Program} (hm : P.follows .mixedOrders = true) {orc : XCf} (ho : XCfOk P orc) {f : FuncId} {u : Value} (h : xrun P orc f = some u) : ACalls P f [] [] fun v H => v = .c (.s u) ∧ H = [] := fun S ρ w hp hw => by
 unfold xrun at h
 split at h
 ·rename_i u' H' k' hx
  injection h with h
  subst h
  have hH : XH ⟨w, fun _ => none, []⟩ (fun _ => 0) (fun _ => 0) .nil w := ⟨fun i j o o' h => (by cases h), fun i o h => (by cases h), fun i o h => (by cases h), fun i o h => (by cases h), ⟨Stp.refl _ _, fun B ob h => (by cases h)⟩⟩
  refine (xcall_ok hm ho 60 _ _ _ _ _ _ _ hx _ _ _ w hH trivial).mono ?_
  rintro e w' ⟨ρ', γ', rfl, h1, _, _⟩
  have hρ : ρ = [] := List.eq_nil_of_length_eq_zero hp.len
  subst hρ
  have hst := h1.st
  refine ⟨.c (.s u'), [], [], S, rfl, ⟨rfl, rfl⟩, .c (.s u'), ⟨rfl, fun i i' B h => (by cases h), fun i B h => (by cases h), fun i B h => (by cases h), fun b hb => Nat.lt_of_lt_of_le (hp.sS b hb) hst.size, fun i o h => (by simp at h)⟩, ⟨hst.os, hst.tape, hst.output, hst.size, fun b hb _ => hst.block b hb (fun h => h), hst.drawn⟩, fun b hb => .inl hb, fun i B h => (by cases h), fun i hi => (by simp at hi), fun h => (by cases h)⟩
 ·cases h
end Go.Proofs.YtlblimbelfenaaaGreat
