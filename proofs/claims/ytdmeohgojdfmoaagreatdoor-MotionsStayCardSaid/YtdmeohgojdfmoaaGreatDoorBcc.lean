/- append of one row, in the words that the walks want. -/
import Derived.Test.YtdmeohgojdfmoaaGreatDoorBbb
set_option linter.unusedSimpArgs false
set_option linter.unusedVariables false
namespace Go.Proofs.YtdmeohgojdfmoaaGreatDoor
open Go Go.RowKit
def ownA (A : Option Addr) : Option Nat := A.map (·.block)
theorem ownA_eq (A : Option Addr) (n c : Nat) : (Value.slice A n c).ownBlock = ownA A := by cases A <;> rfl
theorem Own.ltA {w : World} {base n c : Nat} {e : TypeId} {sz : Nat} {A : Option Addr} {rows : List (List Value)} (h : Own w base e sz (.slice A n c) rows) : ∀ k, ownA A = some k → base ≤ k ∧ k < w.heap.size := fun k hk => h.lt k (by rw [ownA_eq]; exact hk)
section
variable {P : Program} {w : World}
theorem run_app1 {base : Nat} {t e ty t' : TypeId} {sz : Nat} (E : ElemTy P t e sz) {A : Option Addr} {n c : Nat} {rows : List (List Value)} (hown : Own w base e sz (.slice A n c) rows) (hn : n = rows.length)
    {g c1 : Nat} {r : List Value} (hB : Blk w g t' r.toArray) (hl : r.length = sz) (h1 : ∀ u ∈ r, u.oneCell' = true) (h63 : n + 1 ≤ 1073741824) (hbase : base ≤ w.heap.size) :
    ∃ A2 c2 w', (Builtin.append_ #[t, t] ty #[.slice A n c, .slice (some ⟨g, 0, none⟩) 1 c1]).run P w = .ok (.slice A2 (n + 1) c2) w' ∧ Own w' base e sz (.slice A2 (n + 1) c2) (rows ++ [r]) ∧ w.grownBy w' (ownA A) ∧ (ownA A2 = ownA A ∨ ownA A2 = some w.heap.size) ∧ n + 1 ≤ c2 := by
  subst hn
  obtain ⟨v', w', hrun, hO, hg, hat⟩ := run_app (P := P) (ty := ty) E hown (c := c1) (m := 1) (lo := g) (hi := g + 1) (news := [r]) rfl (Sl.lay (t := t') (by simpa using hB) (by simpa using hl)) (by simpa using hl) (by simpa using h1) (by simpa using h63) hbase
  obtain ⟨A2, c2, rfl, hc2, _⟩ := hO.form
  have hlen : (rows ++ [r]).length = rows.length + 1 := by simp
  rw [hlen] at hrun hO hat hc2
  rw [ownA_eq, ownA_eq] at hat
  rw [ownA_eq] at hg
  exact ⟨A2, c2, w', hrun, hO, hg, hat, hc2⟩

theorem wp_app1 {o : Oper} {a : Act} {K : Act → World → Prop} {Q : Exit → Act → World → Prop} (s x : Operand) {t e t' : TypeId} {sz : Nat}
    (ho : o.op = .call { callee := .builtin .append, args := #[s, x], argTypes := #[t, t] }) (E : ElemTy P t e sz) {base : Nat} {A : Option Addr} {n c : Nat} {rows : List (List Value)} (hs : a.eval s = .slice A n c) (hown : Own w base e sz (.slice A n c) rows) (hn : n = rows.length)
    {g c1 : Nat} {r : List Value} (hx : a.eval x = .slice (some ⟨g, 0, none⟩) 1 c1) (hB : Blk w g t' r.toArray) (hl : r.length = sz) (h1 : ∀ u ∈ r, u.oneCell' = true) (h63 : n + 1 ≤ 1073741824) (hbase : base ≤ w.heap.size)
    (h : ∀ A2 c2 w', Own w' base e sz (.slice A2 (n + 1) c2) (rows ++ [r]) → w.grownBy w' (ownA A) → (ownA A2 = ownA A ∨ ownA A2 = some w.heap.size) → n + 1 ≤ c2 → K (a.put o.dst (.slice A2 (n + 1) c2)) w') : o.wp P a w K Q := by
  obtain ⟨A2, c2, w', hrun, h2, h3, h4, h5⟩ := run_app1 (P := P) (ty := o.type) E hown hn (c1 := c1) hB hl h1 h63 hbase
  unfold Oper.wp execOp
  simp only [ho, resolve, invoke, builtin, Sem.run_bind, Sem.run_pure, Result.andThen_ok, List.map_toArray, List.map_cons, List.map_nil, hs, hx, hrun]
  exact h A2 c2 w' h2 h3 h4 h5

theorem wpList_app1 {ops : Array Oper} {rest : List Oper} {o : Oper} {a : Act} {Q : Exit → Act → World → Prop} (hgd : o.guard = none) (s x : Operand) {t e t' : TypeId} {sz : Nat}
    (ho : o.op = .call { callee := .builtin .append, args := #[s, x], argTypes := #[t, t] }) (E : ElemTy P t e sz) {base : Nat} {A : Option Addr} {n c : Nat} {rows : List (List Value)} (hs : a.eval s = .slice A n c) (hown : Own w base e sz (.slice A n c) rows) (hn : n = rows.length)
    {g c1 : Nat} {r : List Value} (hx : a.eval x = .slice (some ⟨g, 0, none⟩) 1 c1) (hB : Blk w g t' r.toArray) (hl : r.length = sz) (h1 : ∀ u ∈ r, u.oneCell' = true) (h63 : n + 1 ≤ 1073741824) (hbase : base ≤ w.heap.size)
    (h : ∀ A2 c2 w', Own w' base e sz (.slice A2 (n + 1) c2) (rows ++ [r]) → w.grownBy w' (ownA A) → (ownA A2 = ownA A ∨ ownA A2 = some w.heap.size) → n + 1 ≤ c2 → wpList P ops Q rest (a.put o.dst (.slice A2 (n + 1) c2)) w') : wpList P ops Q (o :: rest) a w :=
  wpList_plain hgd fun _ hK => wp_app1 s x ho E hs hown hn hx hB hl h1 h63 hbase fun A2 c2 w' h2 h3 h4 h5 => hK _ _ (h A2 c2 w' h2 h3 h4 h5)

theorem effO_app1 {o : Oper} {a : Act} {K : Act → World → Prop} (s x : Operand) {t e t' : TypeId} {sz : Nat}
    (ho : o.op = .call { callee := .builtin .append, args := #[s, x], argTypes := #[t, t] }) (E : ElemTy P t e sz) {base : Nat} {A : Option Addr} {n c : Nat} {rows : List (List Value)} (hs : a.eval s = .slice A n c) (hown : Own w base e sz (.slice A n c) rows) (hn : n = rows.length)
    {g c1 : Nat} {r : List Value} (hx : a.eval x = .slice (some ⟨g, 0, none⟩) 1 c1) (hB : Blk w g t' r.toArray) (hl : r.length = sz) (h1 : ∀ u ∈ r, u.oneCell' = true) (h63 : n + 1 ≤ 1073741824) (hbase : base ≤ w.heap.size)
    (h : ∀ A2 c2 w', Own w' base e sz (.slice A2 (n + 1) c2) (rows ++ [r]) → w.grownBy w' (ownA A) → (ownA A2 = ownA A ∨ ownA A2 = some w.heap.size) → n + 1 ≤ c2 → K (a.put o.dst (.slice A2 (n + 1) c2)) w') : effO P o a w K := by
  obtain ⟨A2, c2, w', hrun, h2, h3, h4, h5⟩ := run_app1 (P := P) (ty := o.type) E hown hn (c1 := c1) hB hl h1 h63 hbase
  unfold effO execOp
  simp only [ho, resolve, invoke, builtin, Sem.run_bind, Sem.run_pure, Result.andThen_ok, List.map_toArray, List.map_cons, List.map_nil, hs, hx, hrun, uponE]
  exact h A2 c2 w' h2 h3 h4 h5
end
end Go.Proofs.YtdmeohgojdfmoaaGreatDoor
