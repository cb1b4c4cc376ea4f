/- More words: the elements of a slice's type. -/
import Derived.Test.YtdmeohgojdfmoaaGreatDoorBase
set_option linter.unusedSimpArgs false
set_option linter.unusedVariables false
namespace Go.Proofs.YtdmeohgojdfmoaaGreatDoor
open Go Go.RowKit
theorem elemTy_of {P : Program} {t e : TypeId} {sz b : Nat} {z : Value} (ht : P.underlying t = some (.slice e)) (h : (P.info? e).map (fun i => (i.zero, i.size, i.bytes)) = some (some z, sz, b))
    (hb : b ≤ 256) (hz : z.cells.size = sz) (h0 : 0 < sz) : ElemTy P t e sz := by
  cases hi : P.info? e with
  | none => rw [hi] at h; cases h
  | some i =>
    rw [hi] at h
    simp only [Option.map_some, Option.some.injEq, Prod.mk.injEq] at h
    exact ⟨ht, ⟨i, z, hi, h.1, h.2.1, by omega, hz⟩, h0⟩
theorem rows1_len {α : Type} {f : α → Value} {l : List α} : ∀ r ∈ l.map (fun x => [f x]), r.length = 1 := fun r hr => by
  obtain ⟨s, _, rfl⟩ := List.mem_map.1 hr; rfl
/-- What was written into a row of the call's own is nothing that was there. -/
theorem grownBy_own {a b c : World} {row r : Option Nat} (h : a.grownBy b r) (k : b.grownBy c row) (hr : ∀ x, row = some x → a.heap.size ≤ x) : a.grownBy c r :=
  ⟨k.os.trans h.os, k.tape.trans h.tape, k.output.trans h.output, Nat.le_trans h.size k.size, fun i hi hne => (k.block i (Nat.lt_of_lt_of_le hi h.size) (fun e => by have := hr i e.symm; omega)).trans (h.block i hi hne)⟩
theorem Own.but {w w' : World} {base g : Nat} {e : TypeId} {sz : Nat} {v : Value} {rows : List (List Value)} (h : Own w base e sz v rows) (hg : w.grownBy w' (some g)) (hb : g < base) : Own w' base e sz v rows :=
  h.kept hg (by
    cases hv : v.ownBlock with
    | none => exact .inl rfl
    | some k => exact .inr (fun e => by injection e with e; have := (h.lt k hv).1; omega))
end Go.Proofs.YtdmeohgojdfmoaaGreatDoor
