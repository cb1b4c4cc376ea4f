/- Pointers that are compared with nil. -/
import Derived.Test.YtlhbfcfjepbhpaaGreatDoorQal
import Derived.Laws.Strings
import Derived.Laws.Pointers
set_option linter.unusedSimpArgs false
set_option linter.unusedVariables false
namespace Go.Proofs.YtlhbfcfjepbhpaaGreatDoor
section
open Go Go.RowKit
abbrev bst (l : List UInt8) : ByteArray := ⟨l.toArray⟩
abbrev T (l : List UInt8) : CV := .s (.string (bst l))
theorem zF1 (l : List UInt8) : (bst l).size = l.length := by simp [ByteArray.size]
theorem bst_get {l : List UInt8} {i : Nat} : (bst l)[i]? = l[i]? := by
 rcases Nat.lt_or_ge i l.length with h | h
 ·rw [List.getElem?_eq_getElem h, getElem?_pos (bst l) i (by rw [zF1]; exact h)]
  rfl
 ·rw [List.getElem?_eq_none h, getElem?_neg (bst l) i (by rw [zF1]; omega)]
theorem bst_app (a b : List UInt8) : bst a ++ bst b = bst (a ++ b) := by
 apply ByteArray.ext
 simp [ByteArray.data_append]
theorem zc2 (l : List UInt8) : (bst l).toList = l := by
 rw [ByteArray.toList_eq]
theorem bst_ext (l : List UInt8) (a b : Nat) : (bst l).extract a b = bst ((l.take b).drop a) := by
 apply ByteArray.ext
 rw [ByteArray.data_extract]
 simp [List.extract_eq_take_drop, List.drop_take]
section
variable {P : Program} {N : Nat} {E : Env} {F : Fm} {H : List OB} {o : Oper} {t yt : TypeId} {x y : Operand}
theorem zE2 {t : TypeId} {d : TypeDesc} {w : World} (h : P.underlying t = some d) : (underlying t).run P w = .ok d w := by unfold underlying; simp [h]
theorem zK1 {ix : Operand} {l : List UInt8} {i : Nat} {kd : IntKind} {z : Int} {b : UInt8} (ho : o.op = .index t x ix) (ht : P.underlying t = some .string) (hx : ev F x = some (.c (T l))) (hix : ev F ix = some (.c (.s (.int kd z)))) (hz : z = i) (hb : l[i]? = some b) : Rd P N E o F H (.c (.s (.int .u8 b.toNat))) := fun S ρ a w hR => by
 have h1 := (hR.ev hx).1
 have h2 := (hR.ev hix).1
 simp only [AV.den, CV.den] at h1 h2
 subst hz
 refine ⟨?_, .c (.s _)⟩
 have hi := (List.getElem?_eq_some_iff.1 hb).1
 have : (bst l)[i]? = some b := by rw [bst_get]; exact hb
 simp [execOp, ho, h1, h2, Instr.index, asIntOf, zE2 ht, this, AV.den, CV.den]
theorem rd_bins {op : BinOp} {a b : List UInt8} {r : Value} (ho : o.op = .binOp op t x y yt) (ht : P.underlying t = some .string) (hx : ev F x = some (.c (T a))) (hy : ev F y = some (.c (T b))) (hop : ∀ w, (Op.stringOp op (bst a) (bst b)).run P w = .ok r w) (hne : op ≠ .shl ∧ op ≠ .shr := by decide) : Rd P N E o F H (.c (.s r)) :=
 zU1 ho hx hy (fun _ _ => rfl) (fun _ _ => rfl) fun w => by
  have hg : (eqGuard op t x y (.string (bst a)) (.string (bst b))).run P w = .ok () w := by unfold eqGuard; split <;> rfl
  rw [Sem.run_bind, hg]
  simp only [Result.andThen_ok]
  unfold binOp
  have := hop w
  cases op <;> simp_all
theorem zG2 {a b : List UInt8} (ho : o.op = .binOp .add t x y yt) (ht : P.underlying t = some .string) (hx : ev F x = some (.c (T a))) (hy : ev F y = some (.c (T b))) (hl : a.length + b.length ≤ 9223372036854775807) : Rd P N E o F H (.c (T (a ++ b))) :=
 rd_bins ho ht hx hy fun w => by
  unfold Op.stringOp
  simp only [zF1]
  have : IntKind.i64.max = 9223372036854775807 := by decide
  rw [if_neg (by rw [this]; omega), bst_app]; rfl
theorem rd_eqls {a b : List UInt8} (ho : o.op = .binOp .eql t x y yt) (ht : P.underlying t = some .string) (hx : ev F x = some (.c (T a))) (hy : ev F y = some (.c (T b))) : Rd P N E o F H (.c (.s (.bool (decide (a = b))))) :=
 rd_bins ho ht hx hy fun w => by
  unfold Op.stringOp
  simp only [zc2]
  by_cases h : a = b <;> simp [h]
theorem rd_neqs {a b : List UInt8} (ho : o.op = .binOp .neq t x y yt) (ht : P.underlying t = some .string) (hx : ev F x = some (.c (T a))) (hy : ev F y = some (.c (T b))) : Rd P N E o F H (.c (.s (.bool (decide (a ≠ b))))) :=
 rd_bins ho ht hx hy fun w => by
  unfold Op.stringOp
  simp only [zc2]
  by_cases h : a = b <;> simp [h]
theorem rd_cvi {src dst : TypeId} {k kd : IntKind} {n : Int} (ho : o.op = .convert src dst x) (hs : (P.underlying src).isSome = true) (hd : P.underlying dst = some (.int k)) (hx : ev F x = some (.c (.s (.int kd n)))) : Rd P N E o F H (.c (.s (.int k (k.wrap n)))) := fun S ρ a w hR => by
 have h1 := (hR.ev hx).1
 simp only [AV.den, CV.den] at h1
 refine ⟨?_, .c (.s _)⟩
 obtain ⟨d, hd'⟩ := Option.isSome_iff_exists.mp hs
 simp [execOp, ho, h1, convert, zE2 hd', zE2 hd, Conv.intToInt, AV.den, CV.den]
theorem zr1 {lo hi : Option Operand} {l : List UInt8} {i j : Nat} (ho : o.op = .slice t x lo hi none) (ht : P.underlying t = some .string) (hx : ev F x = some (.c (T l))) (hlo : (lo = none ∧ i = 0) ∨ ∃ y kd z, lo = some y ∧ ev F y = some (.c (.s (.int kd z))) ∧ z = i) (hhi : (hi = none ∧ j = l.length) ∨ ∃ y kd z, hi = some y ∧ ev F y = some (.c (.s (.int kd z))) ∧ z = j) (h1 : i ≤ j) (h2 : j ≤ l.length) : Rd P N E o F H (.c (T ((l.take j).drop i))) := fun S ρ a w hR => by
 have g1 := (hR.ev hx).1
 simp only [AV.den, CV.den] at g1
 refine ⟨?_, .c (.s _)⟩
 have hb := zd3 (P := P) (w := w) (n := l.length) (c := l.length) (zh3 hR hlo) (zh3 hR hhi) h1 h2 false
 simp [execOp, ho, g1, Instr.sliceAt, Instr.slice, zE2 ht, zF1, hb, bst_ext, AV.den, CV.den]
end
end
section
open Go Go.RowKit
section
variable {P : Program} {N : Nat} {E : Env} {F : Fm} {H : List OB} {o : Oper} {t yt : TypeId} {x y : Operand}
theorem zT2 {op : BinOp} {w : World} {p q : Option Addr} : (eqGuard op t x y (.pointer p) (.pointer q)).run P w = .ok () w := by unfold eqGuard; split <;> rfl
theorem rd_pne {p : Option Addr} {q : Bool} (hq : p.isSome = q) (ho : o.op = .binOp .neq t x (.const (.pointer none)) yt) (ht : P.underlying t = some (.pointer (P.pointee t))) (hx : ev F x = some (.c (.s (.pointer p)))) : Rd P N E o F H (.c (.s (.bool q))) :=
 zU1 ho hx rfl (fun _ _ => rfl) (fun _ _ => rfl) fun w => by
  rw [Sem.run_bind]
  refine Eq.trans (congrArg (fun r => Result.andThen r _) zT2) ?_
  refine Eq.trans (run_neq_pointer_nil w t p ht) ?_
  subst hq
  cases p <;> rfl
theorem rd_peq {p : Option Addr} {q : Bool} (hq : p.isNone = q) (ho : o.op = .binOp .eql t x (.const (.pointer none)) yt) (ht : P.underlying t = some (.pointer (P.pointee t))) (hx : ev F x = some (.c (.s (.pointer p)))) : Rd P N E o F H (.c (.s (.bool q))) :=
 zU1 ho hx rfl (fun _ _ => rfl) (fun _ _ => rfl) fun w => by
  rw [Sem.run_bind]
  refine Eq.trans (congrArg (fun r => Result.andThen r _) zT2) ?_
  refine Eq.trans (run_eql_pointer_nil w t p ht) ?_
  subst hq
  cases p <;> rfl
end
end
end Go.Proofs.YtlhbfcfjepbhpaaGreatDoor
