/- Slices with further bounds; nil slices; clear. -/
import Derived.Test.YtlhbfcfjepbhpaaGreatDoorQal
import Derived.Laws.Cover3
set_option linter.unusedSimpArgs false
set_option linter.unusedVariables false
namespace Go.Proofs.YtlhbfcfjepbhpaaGreatDoor
open Go Go.RowKit
section
variable {P : Program} {N : Nat} {E : Env} {F : Fm} {H : List OB} {o : Oper} {S : Nat → Prop} {ρ : List (Option Nat)} {a : Act} {w : World} {Q : Exit → Fm → List OB → Prop}
theorem rd_indexj {t e : TypeId} {x ix : Operand} {b k n c i j sz cap : Nat} {kd : IntKind} {z : Int} {rows : List (List CV)} (ho : o.op = .indexAddr t x ix) (ht : elemSz P t = some (e, sz)) (hx : ev F x = some (.o b k n c)) (hH : H[b]? = some (.arr e sz cap rows)) (hix : ev F ix = some (.c (.s (.int kd z)))) (hz : z = i) (hi : i < n) (hj : k + i = j) :
    Rd P N E o F H (.p b j 0) := by subst hj; exact rd_index ho ht hx hH hix hz hi
def rnil : Value → Bool
 | .slice none _ _ => true
 | _ => false
theorem run_eqlnil (t e : TypeId) (A : Option Addr) (n c : Nat) (h : P.underlying t = some (.slice e)) : (Op.equal t (.slice A n c) (.slice none 0 0)).run P w = .ok A.isNone w := run_equal_slice_nil w t e A n c h
theorem rd_eqlnil {t e : TypeId} {sz : Nat} {x : Operand} {yt : TypeId} {v : Value} {rows : List (List CV)} (ho : o.op = .binOp .eql t x (.const (.slice none 0 0)) yt) (hx : ev F x = some (.c (.r v rows))) (ht : elemSz P t = some (e, sz)) : Rd P N E o F H (.c (.s (.bool (rnil v)))) := fun S ρ a w hR => by
 obtain ⟨h1, h2⟩ := hR.ev hx
 obtain ⟨hu, _⟩ := zL ht
 refine ⟨?_, .c (.s _)⟩
 have hc : a.eval (.const (.slice none 0 0)) = .slice none 0 0 := rfl
 obtain ⟨A, n, c, hv, hn⟩ : ∃ A n c, v = .slice A n c ∧ rnil v = A.isNone := by
  cases h2 with
  | c g =>
   cases g with
   | nil A c => exact ⟨_, _, _, rfl, by cases A <;> rfl⟩
   | r => exact ⟨_, _, _, rfl, rfl⟩
 subst hv
 rw [hn]
 simp only [execOp, ho, h1, hc, AV.den, CV.den, eqGuard, binOp, Sem.run_bind, Sem.run_pure, Result.andThen_ok, run_eqlnil t e A n c hu]
 rfl
end
end Go.Proofs.YtlhbfcfjepbhpaaGreatDoor
