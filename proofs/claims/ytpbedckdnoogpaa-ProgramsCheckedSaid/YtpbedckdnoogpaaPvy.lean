/- Several-order regions where three may come next. -/
import Derived.Test.YtpbedckdnoogpaaPvx
set_option linter.unusedSimpArgs false
set_option linter.unusedVariables false
namespace Go.Proofs.Ytpbedckdnoogpaa
open Go Go.RowKit
theorem wpM_all {P : Program} {ops : Array Oper} {Q : Act → World → Prop} {n : Nat} {ps : List Plan} {a : Act} {w : World} (h : ∀ e ∈ headsOf ps, wpM P ops Q (n + 1) ((tailsOf e ps).map (e :: ·)) a w) : wpM P ops Q (n + 1) ps a w := fun e he => by
  have key : ∀ (e : Nat × Option (List Nat)) (l : List Plan), tailsOf e (l.map (e :: ·)) = l := by
    intro e l
    induction l with
    | nil => rfl
    | cons x l ih => simp only [List.map_cons, tailsOf, beq_self_eq_true, if_true, ih]
  have keyh : ∀ (e : Nat × Option (List Nat)) (l : List Plan), l ≠ [] → e ∈ headsOf (l.map (e :: ·)) := by
    intro e l hl
    cases l with
    | nil => exact absurd rfl hl
    | cons x l =>
      simp only [List.map_cons, headsOf]
      split
      · rename_i hc; simpa using hc
      · simp
  obtain ⟨l, hl⟩ := mem_headsOf (ps := ps) (e := e) he
  have hne : tailsOf e ps ≠ [] := List.ne_nil_of_mem (tailsOf_mem hl)
  have := h e he e (keyh _ _ hne)
  rw [key] at this
  exact this
theorem am_three {P : Program} {N : Nat} {E : Env} {F : Fm} {H : List OB} {Q : Exit → Fm → List OB → Prop} {ops : Array Oper} {n : Nat} {e1 e2 e3 : Nat × Option (List Nat)} {ps p1 p2 p3 : List Plan} (hh : headsOf ps = [e1, e2, e3]) (h1 : tailsOf e1 ps = p1) (h2 : tailsOf e2 ps = p2) (h3 : tailsOf e3 ps = p3)
    (k1 : AM P N E ops (n + 1) (p1.map (e1 :: ·)) F H Q) (k2 : AM P N E ops (n + 1) (p2.map (e2 :: ·)) F H Q) (k3 : AM P N E ops (n + 1) (p3.map (e3 :: ·)) F H Q) : AM P N E ops (n + 1) ps F H Q := fun S ρ a w hR => wpM_all fun e he => by
  rw [hh] at he
  simp only [List.mem_cons, List.not_mem_nil, or_false] at he
  rcases he with rfl | rfl | rfl
  · rw [h1]; exact k1 S ρ a w hR
  · rw [h2]; exact k2 S ρ a w hR
  · rw [h3]; exact k3 S ρ a w hR
end Go.Proofs.Ytpbedckdnoogpaa
