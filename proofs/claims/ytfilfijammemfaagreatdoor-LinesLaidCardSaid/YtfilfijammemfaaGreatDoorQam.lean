/- Slices with further bounds; nil slices; clear. -/
import Derived.Test.YtfilfijammemfaaGreatDoorQal
import Derived.Laws.Cover3
set_option linter.unusedSimpArgs false
set_option linter.unusedVariables false
/- Slices with further bounds; nil slices; clear. -/
namespace Go.Proofs.YtfilfijammemfaaGreatDoor
open Go Go.RowKit
section
variable {P : Program} {N : Nat} {E : Env} {F : Fm} {H : List OB} {o : Oper} {S : Nat → Prop} {ρ : List (Option Nat)} {a : Act} {w : World} {Q : Exit → Fm → List OB → Prop}
theorem rd_indexj {t e : TypeId} {x ix : Operand} {b k n c i j sz cap : Nat} {kd : IntKind} {z : Int} {rows : List (List CV)} (ho : o.op = .indexAddr t x ix) (ht : elemSz P t = some (e, sz)) (hx : ev F x = some (.o b k n c)) (hH : H[b]? = some (.arr e sz cap rows)) (hix : ev F ix = some (.c (.s (.int kd z)))) (hz : z = i) (hi : i < n) (hj : k + i = j) :
    Rd P N E o F H (.p b j 0) := by subst hj; exact rd_index ho ht hx hH hix hz hi
theorem rd_slicex {t e : TypeId} {sz : Nat} {x : Operand} {lo hi : Option Operand} {b k n c l h cap : Nat} {rows : List (List CV)} (ho : o.op = .slice t x lo hi none) (ht : elemSz P t = some (e, sz)) (hx : ev F x = some (.o b k n c)) (hH : H[b]? = some (.arr e sz cap rows))
    (hlo : (lo = none ∧ l = 0) ∨ ∃ y kd z, lo = some y ∧ ev F y = some (.c (.s (.int kd z))) ∧ z = l) (hhi : (hi = none ∧ h = n) ∨ ∃ y kd z, hi = some y ∧ ev F y = some (.c (.s (.int kd z))) ∧ z = h) (hlh : l ≤ h) (hhc : h ≤ c) (hlc : l < c) : Rd P N E o F H (.o b (k + l) (h - l) (c - l)) := fun S ρ a w hR => by
 obtain ⟨h1, h2⟩ := hR.ev hx
 obtain ⟨hu, inf, hinf, hs⟩ := elemSz_spec ht
 have hu' : (underlying t).run P w = .ok (.slice e) w := by unfold underlying; simp [hu]
 have hz : (sizeOf e).run P w = .ok sz w := by simp [sizeOf, typeInfo, hinf, hs]
 have hsz : szAt H b = sz := by unfold szAt; rw [hH]; rfl
 cases h2 with
 | o g0 g1 g2 g3 =>
  cases hB : atB ρ b with
  | none => have := (g3 hB).2; omega
  | some B =>
   have hbounds := run_bounds (P := P) (w := w) (bound_ev hR hlo) (bound_ev hR hhi) hlh hhc true
   refine ⟨?_, .o g0 (by omega) (by omega) (fun h => by rw [hB] at h; cases h)⟩
   simp only [execOp, ho, h1, AV.den, hB, Option.map_some, hsz, Instr.sliceAt, Instr.slice, Sem.run_bind, hu', Result.andThen_ok, Option.map_none, hbounds, hz, Sem.run_pure]
   rw [if_neg (by omega)]
   congr 3
   simp only [Option.some.injEq]
   unfold Addr.add
   split
   ·rename_i h0; simp only [Addr.mk.injEq, and_true, true_and]; rw [Nat.add_mul]; omega
   ·simp only [Addr.mk.injEq, and_true, true_and]; rw [Nat.add_mul]
def rnil : Value → Bool
 | .slice none _ _ => true
 | _ => false
theorem run_eqlnil (t e : TypeId) (A : Option Addr) (n c : Nat) (h : P.underlying t = some (.slice e)) : (Op.equal t (.slice A n c) (.slice none 0 0)).run P w = .ok A.isNone w := run_equal_slice_nil w t e A n c h
theorem rd_eqlnil {t e : TypeId} {sz : Nat} {x : Operand} {yt : TypeId} {v : Value} {rows : List (List CV)} (ho : o.op = .binOp .eql t x (.const (.slice none 0 0)) yt) (hx : ev F x = some (.c (.r v rows))) (ht : elemSz P t = some (e, sz)) : Rd P N E o F H (.c (.s (.bool (rnil v)))) := fun S ρ a w hR => by
 obtain ⟨h1, h2⟩ := hR.ev hx
 obtain ⟨hu, _⟩ := elemSz_spec ht
 refine ⟨?_, .c (.s _)⟩
 have hc : a.eval (.const (.slice none 0 0)) = .slice none 0 0 := rfl
 obtain ⟨A, n, c, hv, hn⟩ : ∃ A n c, v = .slice A n c ∧ rnil v = A.isNone := by
  cases h2 with
  | c g =>
   cases g with
   | nil A c => exact ⟨_, _, _, rfl, by cases A <;> rfl⟩
   | r => exact ⟨_, _, _, rfl, rfl⟩
 subst hv
 rw [hn]
 simp only [execOp, ho, h1, hc, AV.den, CV.den, eqGuard, binOp, Sem.run_bind, Sem.run_pure, Result.andThen_ok, run_eqlnil t e A n c hu]
 rfl
theorem aw_rnil {c : Code} {t : Nat} {v : Value} {rows : List (List CV)} (hx : F.lookup t = some (.c (.r v rows))) (h : (rnil v = true → rows = []) → AW P N E c F H Q) : AW P N E c F H Q := fun S ρ a w hR => by
 have h2 := (hR.fr t _ hx).2
 refine h (fun hr => ?_) S ρ a w hR
 cases h2 with
 | c g =>
  cases g with
  | nil => rfl
  | r => cases hr
theorem ef_clear {t e : TypeId} {sz : Nat} {x : Operand} {b k n c cap : Nat} {z : Value} {rows : List (List CV)} (ho : o.op = .call { callee := .builtin .clear, args := #[x], argTypes := #[t] }) (hd : o.dst = none) (ht : elemSz P t = some (e, sz)) (hz : (P.info? e).bind (·.zero) = some z) (hzs : z.cells.size = sz) (h1 : z.cells.toList.all Value.oneCell' = true)
    (hx : ev F x = some (.o b k n c)) (hH : H[b]? = some (.arr e sz cap rows)) (hk : rows.length ≤ k) : Ef P N E o F H fun F' H' => F' = F ∧ H' = H := fun S ρ a w hR => by
 obtain ⟨g1, g2⟩ := hR.ev hx
 obtain ⟨hu, i, hi, hs⟩ := elemSz_spec ht
 have hu' : (underlying t).run P w = .ok (.slice e) w := by unfold underlying; simp [hu]
 have hzr : (zeroValue e).run P w = .ok z w := by
  unfold zeroValue typeInfo
  rw [hi] at hz
  simp only [Option.bind_some] at hz
  simp [hi, hz]
 have hsz : szAt H b = sz := by unfold szAt; rw [hH]; rfl
 have hcp : capAt H b = cap := by unfold capAt; rw [hH]; rfl
 have fin : ∀ w', (Builtin.clear_ #[t] o.type #[(AV.o b k n c).den ρ H]).run P w = .ok (.tuple #[]) w' → R N E S ρ F H a w' → effO P o a w (fun a' w' => ∃ S' ρ' F' H', (F' = F ∧ H' = H) ∧ R N E S' ρ' F' H' a' w') := fun w' hr hh => by
  unfold effO
  have hex : (execOp a.eval o).run P w = .ok (.value (.tuple #[])) w' := by
   unfold execOp
   simp only [ho, resolve, invoke, builtin, Sem.run_bind, Sem.run_pure, Result.andThen_ok, List.map_toArray, List.map_cons, List.map_nil, g1, hr]
  rw [hex]
  exact ⟨S, ρ, F, H, ⟨rfl, rfl⟩, by rw [hd]; exact hh⟩
 cases g2 with
 | o q0 q1 q2 q3 =>
  cases hB : atB ρ b with
  | none =>
   obtain ⟨rfl, rfl⟩ := q3 hB
   refine fin w ?_ hR
   simp [Builtin.clear_, AV.den, hB, run_underlying hu]
  | some B =>
   cases n with
   | zero =>
    refine fin w ?_ hR
    simp [Builtin.clear_, AV.den, hB, run_underlying hu]
   | succ n =>
    rcases hR.hp.blk _ _ hH with ⟨h0, _, _⟩ | ⟨B', cs, hB', hh, hcs, hmx, hrl, hrow, hcell⟩
    ·rw [hB] at h0; cases h0
    obtain rfl : B = B' := by rw [hB] at hB'; injection hB'
    have hfit : k * sz + (n + 1) * sz ≤ cs.size := by
     rw [hcs, ← Nat.add_mul]; exact Nat.mul_le_mul_right sz (by rw [hcp] at q2; omega)
    have hzl : (Builtin.zeroCells z.cells (n + 1)).toList.length = (n + 1) * sz := by rw [Array.length_toList, size_zeroCells, hzs]
    have hone : ∀ u ∈ (Builtin.zeroCells z.cells (n + 1)).toList, u.oneCell' = true := fun u hu => by
     simp only [Builtin.zeroCells, Array.toList_map, List.mem_map] at hu
     obtain ⟨i, hi, rfl⟩ := hu
     have hi2 : i < (n + 1) * z.cells.size := by simpa using hi
     have hpos : 0 < z.cells.size := by
      rcases Nat.eq_zero_or_pos z.cells.size with h | h
      ·rw [h] at hi2; simp at hi2
      ·exact h
     have hm := Nat.mod_lt i hpos
     rw [getElem!_pos z.cells _ hm]
     exact List.all_eq_true.1 h1 _ (by simp)
    have hrun := run_storeCells (P := P) (off := k * sz) (Builtin.zeroCells z.cells (n + 1)).toList 0 w _ hh (by rw [hzl]; omega) hone
    rw [Nat.add_zero] at hrun
    refine fin (putBlk w B (.cells (setAll cs (k * sz) (Builtin.zeroCells z.cells (n + 1)).toList) e (0, 0))) ?_ ?_
    ·simp only [Builtin.clear_, AV.den, hB, Option.map_some, hsz, Sem.run_bind, Sem.run_pure, run_underlying hu, Result.andThen_ok, List.getElem?_toArray, List.getElem?_cons_zero, hzr, hrun]
     rfl
    ·have hm := mo_put hR.hp hB (.cells (setAll cs (k * sz) (Builtin.zeroCells z.cells (n + 1)).toList) e (0, 0))
     have hset : H.set b (.arr e sz cap rows) = H := by
      refine List.ext_getElem? fun i => ?_
      rw [List.getElem?_set]
      split
      ·rename_i hbi; subst hbi
       first
        | exact hH.symm
        | (split
           ·exact hH.symm
           ·rename_i hl; rw [List.getElem?_eq_none (by omega)] at hH; cases hH)
      ·rfl
     have := R.set (ob := .arr e sz cap rows) (ob' := .arr e sz cap rows) (cob := .cells (setAll cs (k * sz) (Builtin.zeroCells z.cells (n + 1)).toList) e (0, 0)) hR hH hB rfl rfl (fun _ => rfl) (putBlk_size _ _) (.inr ⟨B, _, rfl, putBlk_at hh, by rw [setAll_size 0]; exact hcs, hmx, hrl, fun r hr => ⟨(hrow r hr).1, fun u hu => ⟨((hrow r hr).2 u hu).1.mono hm, ((hrow r hr).2 u hu).2⟩⟩, fun k' j' r u hk' hj' => by
      have hr' := (hrow r (List.mem_of_getElem? hk')).1
      have hj'' : j' < sz := by rw [← hr']; exact (List.getElem?_eq_some_iff.1 hj').1
      have hkl : k' < rows.length := (List.getElem?_eq_some_iff.1 hk').1
      rw [setAll_get _ _ _ _ (by rw [hzl]; omega), if_neg ?_]
      ·exact hcell k' j' r u hk' hj'
      ·rintro ⟨w1, w2⟩
       have : (k' + 1) * sz ≤ k * sz := Nat.mul_le_mul_right sz (by omega)
       rw [Nat.add_mul] at this
       omega⟩)
     rw [hset] at this
     exact this
end
end Go.Proofs.YtfilfijammemfaaGreatDoor
